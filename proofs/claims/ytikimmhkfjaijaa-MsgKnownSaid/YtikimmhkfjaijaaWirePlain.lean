/-
  NUMBERS AND TEXTS AS BYTES, IN PLAIN LEAN: what is put, what is read back. No program in sight.
-/
import Derived.Below
namespace Go.Proofs.Ytikimmhkfjaijaa
namespace Wire

/-- a number's bytes, the highest first, none for 0 -/
def numsF : Nat → Nat → List UInt8
  | 0, _ => []
  | f + 1, n => if n = 0 then [] else numsF f (n / 256) ++ [UInt8.ofNat (n % 256)]
def nums (n : Nat) : List UInt8 := numsF 8 n
/-- the number of bytes -/
def be (l : List UInt8) : Nat := l.foldl (fun n b => n * 256 + b.toNat) 0
def putNum (n : Nat) : List UInt8 := UInt8.ofNat (nums n).length :: nums n
def putText (t : List UInt8) : List UInt8 := putNum t.length ++ t

/-- what a reader has left; none: it is bad -/
abbrev St := Option (List UInt8)
def num : St → Nat × St
  | none => (0, none)
  | some [] => (0, none)
  | some (k :: r) => if 8 < k.toNat ∨ r.length < k.toNat ∨ (0 < k.toNat ∧ r[0]? = some 0) then (0, none) else (be (r.take k.toNat), some (r.drop k.toNat))
def text (s : St) : List UInt8 × St :=
  match (num s).2 with
  | none => ([], none)
  | some l => if l.length < (num s).1 then ([], none) else (l.take (num s).1, some (l.drop (num s).1))

theorem numsF_length : ∀ f n, (numsF f n).length ≤ f
  | 0, _ => by simp [numsF]
  | f + 1, n => by
    unfold numsF
    split
    · simp
    · have := numsF_length f (n / 256)
      simp; omega
theorem nums_length (n : Nat) : (nums n).length ≤ 8 := numsF_length 8 n
theorem numsF_succ : ∀ f n, n < 256 ^ f → numsF (f + 1) n = numsF f n
  | 0, n, h => by
    have : n = 0 := by simpa using h
    simp [numsF, this]
  | f + 1, n, h => by
    have h1 : numsF (f + 1 + 1) n = if n = 0 then [] else numsF (f + 1) (n / 256) ++ [UInt8.ofNat (n % 256)] := rfl
    have h2 : numsF (f + 1) n = if n = 0 then [] else numsF f (n / 256) ++ [UInt8.ofNat (n % 256)] := rfl
    rw [h1, h2]
    by_cases e : n = 0
    · rw [if_pos e, if_pos e]
    · rw [if_neg e, if_neg e, numsF_succ f (n / 256) (by rw [Nat.pow_succ] at h; omega)]
theorem nums_zero : nums 0 = [] := rfl
theorem nums_step (n : Nat) (h : n < 256 ^ 8) (h0 : n ≠ 0) : nums n = nums (n / 256) ++ [UInt8.ofNat (n % 256)] := by
  have h1 : numsF 8 n = numsF 7 (n / 256) ++ [UInt8.ofNat (n % 256)] := by
    show numsF (7 + 1) n = _
    rw [numsF, if_neg h0]
  have h2 : numsF 8 (n / 256) = numsF 7 (n / 256) := numsF_succ 7 _ (by omega)
  unfold nums
  rw [h1, h2]
theorem be_append (l : List UInt8) (b : UInt8) : be (l ++ [b]) = be l * 256 + b.toNat := by simp [be]
theorem be_nil : be [] = 0 := rfl
theorem be_numsF : ∀ f n, n < 256 ^ f → be (numsF f n) = n
  | 0, n, h => by
    have : n = 0 := by simpa using h
    simp [numsF, be, this]
  | f + 1, n, h => by
    unfold numsF
    by_cases e : n = 0
    · simp [e, be]
    · rw [if_neg e, be_append, be_numsF f (n / 256) (by rw [Nat.pow_succ] at h; omega), UInt8.toNat_ofNat', Nat.mod_eq_of_lt (by omega : n % 256 < 2 ^ 8)]
      omega
theorem be_nums (n : Nat) (h : n < 256 ^ 8) : be (nums n) = n := be_numsF 8 n h
theorem numsF_head : ∀ f n, n < 256 ^ f → (numsF f n)[0]? ≠ some 0
  | 0, n, h => by simp [numsF]
  | f + 1, n, h => by
    unfold numsF
    by_cases e : n = 0
    · simp [e]
    · rw [if_neg e]
      by_cases e2 : n / 256 = 0
      · have h1 : numsF f (n / 256) = [] := by rw [e2]; cases f <;> simp [numsF]
        rw [h1]
        simp
        intro h2
        have := congrArg UInt8.toNat h2
        rw [UInt8.toNat_ofNat'] at this
        simp at this
        omega
      · have h1 := numsF_head f (n / 256) (by rw [Nat.pow_succ] at h; omega)
        have h2 : 0 < (numsF f (n / 256)).length := by
          cases f with
          | zero => simp at h; omega
          | succ f => unfold numsF; rw [if_neg e2]; simp
        rw [List.getElem?_append_left h2]
        exact h1
theorem nums_head (n : Nat) (h : n < 256 ^ 8) : (nums n)[0]? ≠ some 0 := numsF_head 8 n h
theorem nums_len_pos (n : Nat) (h : n ≠ 0) : 0 < (nums n).length := by
  unfold nums numsF; rw [if_neg h]; simp

/-- WHAT IS PUT IS READ BACK. -/
theorem num_put (n : Nat) (h : n < 256 ^ 8) (r : List UInt8) : num (some (putNum n ++ r)) = (n, some r) := by
  have hl := nums_length n
  have hk : (UInt8.ofNat (nums n).length).toNat = (nums n).length := by rw [UInt8.toNat_ofNat']; omega
  unfold putNum num
  simp only [List.cons_append, hk]
  rw [if_neg]
  · rw [List.take_left', List.drop_left', be_nums n h] <;> rfl
  · rintro (h1 | h1 | ⟨h1, h2⟩)
    · omega
    · rw [List.length_append] at h1; omega
    · rw [List.getElem?_append_left h1] at h2
      exact nums_head n h h2
theorem text_put (t : List UInt8) (h : t.length < 256 ^ 8) (r : List UInt8) : text (some (putText t ++ r)) = (t, some r) := by
  unfold text putText
  rw [List.append_assoc, num_put _ h]
  simp

theorem be_lt (l : List UInt8) : be l < 256 ^ l.length := by
  have gen : ∀ (l : List UInt8) (n : Nat), l.foldl (fun n b => n * 256 + b.toNat) n < (n + 1) * 256 ^ l.length := by
    intro l
    induction l with
    | nil => intro n; simp
    | cons b l ih =>
      intro n
      simp only [List.foldl_cons, List.length_cons]
      refine Nat.lt_of_lt_of_le (ih _) ?_
      have := b.toNat_lt
      rw [Nat.pow_succ, Nat.mul_comm (256 ^ l.length) 256, ← Nat.mul_assoc]
      exact Nat.mul_le_mul_right _ (by omega)
  simpa [be] using gen l 0
/-- bytes of which the first is not 0 are their number's -/
theorem numsF_be : ∀ (f : Nat) (l : List UInt8), l.length ≤ f → l[0]? ≠ some 0 → numsF f (be l) = l := by
  intro f
  induction f with
  | zero =>
    intro l hl _
    have : l = [] := by simpa using hl
    subst this; rfl
  | succ f ih =>
    intro l hl h0
    rcases List.eq_nil_or_concat l with rfl | ⟨m, b, rfl⟩
    · rfl
    · rw [List.concat_eq_append] at *
      have hb := b.toNat_lt
      have e1 : (be m * 256 + b.toNat) / 256 = be m := by omega
      have e2 : (be m * 256 + b.toNat) % 256 = b.toNat := by omega
      rw [be_append]
      unfold numsF
      have hne : be m * 256 + b.toNat ≠ 0 := by
        intro e
        cases m with
        | nil =>
          have hb0 : b.toNat = 0 := by omega
          apply h0
          simp
          exact UInt8.toNat.inj (by simpa using hb0)
        | cons c m =>
          have h2 : be (c :: m) = 0 := by omega
          have h3 : c ≠ 0 := by intro e; subst e; exact h0 (by simp)
          have h4 : c.toNat ≠ 0 := fun e => h3 (UInt8.toNat.inj (by simpa using e))
          have gen : ∀ (l : List UInt8) (n : Nat), n ≤ l.foldl (fun n b => n * 256 + b.toNat) n := by
            intro l
            induction l with
            | nil => intro n; exact Nat.le_refl _
            | cons b l ih => intro n; simp only [List.foldl_cons]; exact Nat.le_trans (by omega) (ih _)
          have h5 := gen m (0 * 256 + c.toNat)
          have h6 : be (c :: m) = m.foldl (fun n b => n * 256 + b.toNat) (0 * 256 + c.toNat) := rfl
          omega
      rw [if_neg hne, e1, e2, ih m (by simp at hl; omega) ?_]
      · congr 1
        simp
      · cases m with
        | nil => simp
        | cons c m => simpa using h0
theorem nums_be (l : List UInt8) (hl : l.length ≤ 8) (h0 : l[0]? ≠ some 0) : nums (be l) = l := numsF_be 8 l hl h0
/-- bytes from which a number is read, wholly, are those that would be put for it -/
theorem num_whole (l : List UInt8) (h : (num (some l)).2 = some []) : putNum (num (some l)).1 = l ∧ (num (some l)).1 < 256 ^ 8 := by
  cases l with
  | nil => simp [num] at h
  | cons k r =>
    unfold num at h ⊢
    simp only at h ⊢
    split at h
    · simp at h
    · rename_i hc
      rw [if_neg hc]
      have hc1 : ¬ 8 < k.toNat := fun e => hc (.inl e)
      have hc2 : ¬ r.length < k.toNat := fun e => hc (.inr (.inl e))
      have hc3 : 0 < k.toNat → r[0]? ≠ some 0 := fun e1 e2 => hc (.inr (.inr ⟨e1, e2⟩))
      have hd : r.drop k.toNat = [] := by simpa using h
      have hlen : r.length = k.toNat := by
        have := congrArg List.length hd
        simp at this; omega
      have ht : r.take k.toNat = r := List.take_of_length_le (by omega)
      simp only [ht]
      have hn : nums (be r) = r := by
        refine nums_be r (by omega) ?_
        by_cases e : r = []
        · simp [e]
        · exact hc3 (by rw [← hlen]; exact List.length_pos_iff.2 e)
      refine ⟨?_, ?_⟩
      · unfold putNum
        rw [hn, hlen]
        simp
      · have := be_lt r
        refine Nat.lt_of_lt_of_le this (Nat.pow_le_pow_right (by omega) (by omega))
theorem text_whole (l : List UInt8) (h : (text (some l)).2 = some []) : putText (text (some l)).1 = l := by
  unfold text at h ⊢
  cases hn : (num (some l)).2 with
  | none => simp [hn] at h
  | some m =>
    simp only [hn] at h ⊢
    split at h
    · simp at h
    · rename_i hc
      rw [if_neg hc]
      have hd : m.drop (num (some l)).1 = [] := by simpa using h
      have hlen : m.length = (num (some l)).1 := by
        have := congrArg List.length hd
        simp at this; omega
      simp only
      rw [← hlen, List.take_length]
      -- l is the number's bytes, then m
      cases l with
      | nil => simp [num] at hn
      | cons k r =>
        unfold num at hn hlen
        simp only at hn hlen
        split at hn
        · simp at hn
        · rename_i hc'
          rw [if_neg hc'] at hlen
          simp only at hlen
          have hm : r.drop k.toNat = m := by simpa using hn
          have hc1 : ¬ 8 < k.toNat := fun e => hc' (.inl e)
          have hc2 : ¬ r.length < k.toNat := fun e => hc' (.inr (.inl e))
          have hc3 : 0 < k.toNat → r[0]? ≠ some 0 := fun e1 e2 => hc' (.inr (.inr ⟨e1, e2⟩))
          have hn2 : nums (be (r.take k.toNat)) = r.take k.toNat := by
            refine nums_be _ (by simp; omega) ?_
            by_cases e : k.toNat = 0
            · simp [e]
            · rw [List.getElem?_take_of_lt (by omega)]; exact hc3 (by omega)
          unfold putText putNum
          rw [hlen, hn2, ← hm, List.length_take, Nat.min_eq_left (by omega)]
          simp
/-- no beginning of a number's bytes is one's -/
theorem num_cut (n i : Nat) (hi : i < (putNum n).length) : num (some ((putNum n).take i)) = (0, none) := by
  have hl := nums_length n
  have hk : (UInt8.ofNat (nums n).length).toNat = (nums n).length := by rw [UInt8.toNat_ofNat']; omega
  cases i with
  | zero => simp [num]
  | succ i =>
    unfold putNum at hi ⊢
    simp only [List.take_succ_cons, num, hk]
    rw [if_pos]
    right; left
    simp at hi ⊢
    omega
theorem putNum_length (n : Nat) : (putNum n).length ≤ 9 := by have := nums_length n; simp [putNum]; omega
end Wire
end Go.Proofs.Ytikimmhkfjaijaa
