/-
  META: a table's bytes, plainly; what a table that may be is; rows of ints laid in a region's midst.
-/
import Derived.Test.YtimgecflcackbaaMetG
import Derived.Test.YtimgecflcackbaaChainF
namespace Go.Proofs.Ytimgecflcackbaa
open Go.RowKit Reg

/-- bytes behind bytes -/
def cat (s : ByteArray) (l : List UInt8) : ByteArray := strOf (s.data.toList ++ l)
theorem cat_size (s : ByteArray) (l : List UInt8) : (cat s l).size = s.size + l.length := by
  unfold cat
  rw [size_strOf, List.length_append, len_data]
theorem cat_data (s : ByteArray) (l : List UInt8) : (cat s l).data.toList = s.data.toList ++ l := strOf_list _
theorem cat_cat (s : ByteArray) (a b : List UInt8) : cat (cat s a) b = cat s (a ++ b) := by
  unfold cat
  rw [strOf_list, List.append_assoc]
def bitZ (b : Bool) : Int := if b = true then 1 else 0
def snB (s : Sn) : List UInt8 := gdB s.guid ++ (numsB [bitZ s.hidden] ++ numsB s.image)
def tkB (t : Tk) : List UInt8 := if t.target = (0, 0) then numsB [0] else numsB [1] ++ (gdB t.base ++ (gdB t.target ++ (numsB [t.next, t.all] ++ numsB t.image)))
def snsB (l : List Sn) : List UInt8 := l.flatMap snB
def hdB (m : Mt) : List UInt8 := numsB [(m.live.length : Int)] ++ (numsB m.live ++ numsB [(m.snaps.length : Int)])
/-- a table's bytes -/
def mtB (m : Mt) : List UInt8 := hdB m ++ (snsB m.snaps ++ tkB m.token)
/-- what Encode answers -/
def encE (m : Mt) : Int := if mtOf m m.live.length 1024 ≠ 0 then mtOf m m.live.length 1024 else if 48 < sizeS (mtB m).length then 3 else 0
def encM (m : Mt) : ByteArray := if encE m = 0 then strOf (mtB m) else strOf []

theorem chk_ok {zs : List Int} {blocks n : Int} (h : chkOf zs blocks n = 0) : (zs.length : Int) = blocks ∧ 1 ≤ blocks ∧ blocks ≤ 8 ∧ ∀ z ∈ zs, z = 0 ∨ (193 ≤ z ∧ z < n) := by
  by_cases hoff : blocks < 1 ∨ 8 < blocks ∨ ¬ (zs.length : Int) = blocks
  · rw [chk_off _ _ _ hoff] at h; cases h
  · refine ⟨by omega, by omega, by omega, fun z hz => ?_⟩
    unfold chkOf chkZ at h
    rw [if_neg hoff] at h
    by_cases hb : badTo (fun j => zs.getD j 0) n zs.length = true
    · rw [if_pos hb] at h; cases h
    · obtain ⟨i, hi, rfl⟩ := List.mem_iff_getElem.1 hz
      by_cases hp : badPl n zs[i] = true
      · exact absurd (badTo_of (Z := fun j => zs.getD j 0) (k := i) (by simpa [List.getD, hi] using hp) hi) hb
      · unfold badPl at hp
        simp only [Bool.and_eq_true, bne_iff_ne, Bool.or_eq_true, decide_eq_true_eq] at hp
        by_cases h0 : zs[i] = 0
        · exact .inl h0
        · exact .inr (by omega)
theorem chk_nonneg {zs : List Int} {blocks n : Int} (h : chkOf zs blocks n = 0) : ∀ z ∈ zs, 0 ≤ z := fun z hz => by
  rcases (chk_ok h).2.2.2 z hz with h | h <;> omega
theorem chk_len {zs : List Int} {blocks n : Int} (h : chkOf zs blocks n = 0) : zs.length ≤ 8 := by
  have := chk_ok h
  omega
theorem sn_ok : ∀ {l : List Sn} {last : Gd} {blocks n : Int}, (snOf l last blocks n).1 = 0 → ∀ s ∈ l, chkOf s.image blocks n = 0
  | [], _, _, _, _, s, hs => by simp at hs
  | x :: l, last, blocks, n, h, s, hs => by
    rw [snOf_cons] at h
    by_cases h1 : upG last x.guid = false
    · rw [if_pos h1] at h; cases h
    · rw [if_neg h1] at h
      by_cases h2 : chkOf x.image blocks n ≠ 0
      · rw [if_pos h2] at h; exact absurd h h2
      · rw [if_neg h2] at h
        rcases List.mem_cons.1 hs with rfl | hs
        · exact Classical.not_not.1 h2
        · exact sn_ok h s hs
theorem tok_ok {t : Tk} {last : Gd} {blocks n : Int} (h : tokOf t last blocks n = 0) :
    (t.target = (0, 0) ∧ t.base = (0, 0) ∧ t.next = 0 ∧ t.all = 0 ∧ t.image = []) ∨ (t.target ≠ (0, 0) ∧ t.base = last ∧ upG last t.target = true ∧ 1 ≤ t.next ∧ t.next < t.all ∧ t.all ≤ blocks ∧ chkOf t.image blocks n = 0) := by
  unfold tokOf at h
  by_cases h0 : t.target = (0, 0)
  · rw [if_pos h0] at h
    by_cases h1 : t.base ≠ (0, 0) ∨ t.next ≠ 0 ∨ t.all ≠ 0 ∨ t.image ≠ []
    · rw [if_pos h1] at h; cases h
    · refine .inl ⟨h0, ?_, ?_, ?_, ?_⟩
      · exact Classical.not_not.1 fun e => h1 (.inl e)
      · exact Classical.not_not.1 fun e => h1 (.inr (.inl e))
      · exact Classical.not_not.1 fun e => h1 (.inr (.inr (.inl e)))
      · exact Classical.not_not.1 fun e => h1 (.inr (.inr (.inr e)))
  · rw [if_neg h0] at h
    by_cases h1 : t.base ≠ last ∨ upG last t.target = false ∨ t.next < 1 ∨ t.all ≤ t.next ∨ blocks < t.all
    · rw [if_pos h1] at h; cases h
    · rw [if_neg h1] at h
      refine .inr ⟨h0, Classical.not_not.1 fun e => h1 (.inl e), ?_, by omega, by omega, by omega, h⟩
      cases hu : upG last t.target with
      | true => rfl
      | false => exact absurd (.inr (.inl hu)) h1
theorem mt_ok {m : Mt} {blocks n : Int} (h : mtOf m blocks n = 0) : chkOf m.live blocks n = 0 ∧ m.snaps.length ≤ 20 ∧ (snOf m.snaps (0, 0) blocks n).1 = 0 ∧ tokOf m.token (snOf m.snaps (0, 0) blocks n).2 blocks n = 0 := by
  unfold mtOf at h
  by_cases h1 : chkOf m.live blocks n ≠ 0
  · rw [if_pos h1] at h; exact absurd h h1
  · rw [if_neg h1] at h
    by_cases h2 : 20 < m.snaps.length
    · rw [if_pos h2] at h; cases h
    · rw [if_neg h2] at h
      by_cases h3 : (snOf m.snaps (0, 0) blocks n).1 ≠ 0
      · rw [if_pos h3] at h; exact absurd h h3
      · rw [if_neg h3] at h
        exact ⟨Classical.not_not.1 h1, by omega, Classical.not_not.1 h3, h⟩
theorem gdB_le (g : Gd) : (gdB g).length ≤ 18 := by
  have h1 := Wire.putNum_length g.1.toNat
  have h2 := Wire.putNum_length g.2.toNat
  unfold gdB
  rw [List.length_append]
  omega
theorem snB_le {s : Sn} (h : s.image.length ≤ 8) : (snB s).length ≤ 99 := by
  have h1 := gdB_le s.guid
  have h2 := numsB_le [bitZ s.hidden]
  have h3 := numsB_le s.image
  unfold snB
  simp only [List.length_append, List.length_cons, List.length_nil] at *
  omega
theorem snsB_le : ∀ {l : List Sn}, (∀ s ∈ l, s.image.length ≤ 8) → (snsB l).length ≤ 99 * l.length
  | [], _ => by simp [snsB]
  | x :: l, h => by
    have h1 := snB_le (h x (by simp))
    have h2 := snsB_le (l := l) fun s hs => h s (by simp [hs])
    unfold snsB at *
    simp only [List.flatMap_cons, List.length_append, List.length_cons] at *
    omega
theorem snsB_step {l : List Sn} {k : Nat} (h : k < l.length) : snsB (l.take (k + 1)) = snsB (l.take k) ++ snB (l.getD k snap0) := by
  unfold snsB
  rw [List.take_add_one, List.flatMap_append]
  simp [List.getD, List.getElem?_eq_getElem h]

theorem tkB_le {t : Tk} (h : t.image.length ≤ 8) : (tkB t).length ≤ 200 := by
  have h1 := gdB_le t.base
  have h2 := gdB_le t.target
  have h3 := numsB_le [t.next, t.all]
  have h4 := numsB_le t.image
  have h5 := numsB_le [1]
  have h6 := numsB_le [0]
  unfold tkB
  by_cases h0 : t.target = (0, 0)
  · rw [if_pos h0]
    simp only [List.length_cons, List.length_nil] at *
    omega
  · rw [if_neg h0]
    simp only [List.length_append, List.length_cons, List.length_nil] at *
    omega
theorem tok_len {t : Tk} {last : Gd} {blocks n : Int} (h : tokOf t last blocks n = 0) : t.image.length ≤ 8 := by
  rcases tok_ok h with h | h
  · rw [h.2.2.2.2]; simp
  · exact chk_len h.2.2.2.2.2.2
/-! ### rows of ints laid in the midst of a region -/
/-- chain values with the places in B are rows of ints -/
def JI (w0 : World) (B : List (Nat × List Int)) (l : List Value) (w : World) : Prop := Below w0.heap.size w0 w ∧ ∀ p ∈ B, ∀ u, l[p.1]? = some u → InI w u p.2
theorem JI.start (w0 : World) (B : List (Nat × List Int)) : JI w0 B [] w0.drew := ⟨Below.drew (Below.refl _ _), fun p _ u h => by simp at h⟩
theorem JI.call {w0 w w' : World} {B : List (Nat × List Int)} {l : List Value} (h : JI w0 B l w) (hb : Below w.heap.size w w') (u : Value) (hn : (B.all fun p => p.1 != l.length) = true) : JI w0 B (l ++ [u]) w' := by
  refine ⟨h.1.trans (hb.mono h.1.size), fun p hp u' hu => ?_⟩
  have hne : p.1 ≠ l.length := by have := List.all_eq_true.1 hn p hp; simpa using this
  rcases Nat.lt_or_ge p.1 l.length with hl | hl
  · rw [List.getElem?_append_left hl] at hu
    exact (h.2 p hp u' hu).keep hb
  · rw [List.getElem?_append_right hl] at hu
    have : p.1 - l.length ≠ 0 := by omega
    obtain ⟨j, hj⟩ := Nat.exists_eq_succ_of_ne_zero this
    rw [hj] at hu
    simp at hu
theorem JI.build {w0 w w' : World} {B : List (Nat × List Int)} {l : List Value} {u : Value} {zs : List Int} (h : JI w0 B l w) (hb : Below w.heap.size w w') (hi : InI w' u zs) (hn : (B.all fun p => p.1 != l.length || p.2 == zs) = true) : JI w0 B (l ++ [u]) w' := by
  refine ⟨h.1.trans (hb.mono h.1.size), fun p hp u' hu => ?_⟩
  rcases Nat.lt_or_ge p.1 l.length with hl | hl
  · rw [List.getElem?_append_left hl] at hu
    exact (h.2 p hp u' hu).keep hb
  · rw [List.getElem?_append_right hl] at hu
    have hne := List.all_eq_true.1 hn p hp
    rcases Nat.eq_or_lt_of_le hl with e | e
    · rw [← e] at hu
      simp at hu
      have : p.2 = zs := by simpa [← e] using hne
      rw [this, ← hu]
      exact hi
    · obtain ⟨j, hj⟩ := Nat.exists_eq_succ_of_ne_zero (show p.1 - l.length ≠ 0 by omega)
      rw [hj] at hu
      simp at hu
theorem JI.get {w0 w : World} {B : List (Nat × List Int)} {l : List Value} (h : JI w0 B l w) {i : Nat} {zs : List Int} (hp : (i, zs) ∈ B) {u : Value} (hu : l[i]? = some u) : InI w u zs := h.2 _ hp u hu
theorem InI.lit (w : World) (zs : List Int) (cs : Array Value) (hc : cs = (zs.map (Value.int .i64)).toArray) (h1 : zs.length ≤ 1000) (hw : ∀ z ∈ zs, (Lit.int .i64 z).wf = true) :
    InI (w.alloc (.cells cs 3)) (.slice (some ⟨w.heap.size, 0, none⟩) zs.length zs.length) zs := by
  subst hc
  have := own_new w w.heap.size 3 (zs.map (Value.int .i64)).toArray 1 zs.length (by simp) (Nat.le_refl _) (by unfold maxLen; omega)
  exact ⟨.of_rd (Rd.of_own this), by unfold maxLen; omega, hw⟩
theorem InI.nil_ (w : World) : InI w (.slice none 0 0) [] := ⟨.inl ⟨_, _, rfl, rfl, rfl⟩, by simp, by simp⟩
theorem InI.litAt (w : World) (zs : List Int) (cs : Array Value) (g : Nat) (hg : w.heap.size = g) (hc : cs = (zs.map (Value.int .i64)).toArray) (h1 : zs.length ≤ 1000) (hw : ∀ z ∈ zs, (Lit.int .i64 z).wf = true) :
    InI (w.alloc (.cells cs 3)) (.slice (some ⟨g, 0, none⟩) zs.length zs.length) zs := by
  subst hg
  exact InI.lit w zs cs hc h1 hw
/-- .. with a row that is laid beside the chain -/
def JF (w0 : World) (zs : List Int) (_ : List Value) (x : Option Value) (w : World) : Prop := Below w0.heap.size w0 w ∧ ∀ u, x = some u → InI w u zs
theorem JF.start (w0 : World) (zs : List Int) : JF w0 zs [] none w0.drew := ⟨Below.drew (Below.refl _ _), fun u h => by cases h⟩
theorem JF.call {w0 w w' : World} {zs : List Int} {l l' : List Value} {x : Option Value} (h : JF w0 zs l x w) (hb : Below w.heap.size w w') : JF w0 zs l' x w' := ⟨h.1.trans (hb.mono h.1.size), fun u hu => (h.2 u hu).keep hb⟩
theorem JF.build {w0 w w' : World} {zs : List Int} {l l' : List Value} {x : Option Value} {u : Value} (h : JF w0 zs l x w) (hb : Below w.heap.size w w') (hi : InI w' u zs) : JF w0 zs l' (some u) w' := ⟨h.1.trans (hb.mono h.1.size), fun u' hu => by obtain rfl := Option.some.inj hu; exact hi⟩
theorem cat_nil (s : ByteArray) : cat s [] = s := by unfold cat; rw [List.append_nil, strOf_data]
/-! ### what puts does, of bytes that are few -/
theorem putsC (s : ByteArray) (v : Value) (l : List Int) (w : World) (hv : InI w v l) (h0 : ∀ z ∈ l, 0 ≤ z) (hs : s.size ≤ 100000) (hl : l.length ≤ 1000) : Calls Try.prog 46 #[.string s, v] w fun e w' => e = .returned (.string (cat s (numsB l))) ∧ Below w.heap.size w w' :=
  puts_any s v l w hv h0 (by unfold maxLen; omega)
theorem numsRC (s : ByteArray) (v : Value) (l : List Int) (w : World) (hv : InI w v l) (h0 : ∀ z ∈ l, 0 ≤ z) (hs : s.size ≤ 100000) (hl : l.length ≤ 1000) : Calls Try.prog 50 #[.string s, v] w fun e w' => e = .returned (.string (cat s (numsB l))) ∧ Below w.heap.size w w' :=
  numsR_any s v l w hv h0 (by unfold maxLen; omega)
theorem putGuidC (s : ByteArray) (g : Gd) (w : World) (hg : wfG g) (hs : s.size ≤ 100000) : Calls Try.prog 47 #[.string s, aggG g] w fun e w' => e = .returned (.string (cat s (gdB g))) ∧ Below w.heap.size w w' :=
  putGuid_any s g w hg (by unfold maxLen; omega)
theorem guidRC (s : ByteArray) (g : Gd) (w : World) (hg : wfG g) (hs : s.size ≤ 100000) : Calls Try.prog 51 #[.string s, aggG g] w fun e w' => e = .returned (.string (cat s (gdB g))) ∧ Below w.heap.size w w' :=
  guidR_any s g w hg (by unfold maxLen; omega)
theorem bitC (b : Bool) (w : World) : Calls Try.prog 48 #[.bool b] w fun e w' => e = .returned (.int .i64 (bitZ b)) ∧ Below w.heap.size w w' :=
  (bit_any b w).mono fun _ _ h => ⟨h.1, h.2 ▸ Below.refl _ _⟩
theorem numsB_one (z : Int) : (numsB [z]).length ≤ 9 := by have := numsB_le [z]; simpa using this
/-- what is behind bytes step by step -/
structure Bts (m : Mt) (s1 s2 s3 : ByteArray) (E : Nat → ByteArray) : Prop where
  e1 : cat (strOf []) (numsB [(m.live.length : Int)]) = s1
  e2 : cat s1 (numsB m.live) = s2
  e3 : cat s2 (numsB [(m.snaps.length : Int)]) = s3
  start : E 0 = s3
  step : ∀ k, k < m.snaps.length → E (k + 1) = cat (E k) (snB (m.snaps.getD k snap0))
  stop : strOf (mtB m) = cat (E m.snaps.length) (tkB m.token)
  z1 : s1.size ≤ 10000
  z2 : s2.size ≤ 10000
  z3 : s3.size ≤ 10000
  zE : ∀ k, (E k).size ≤ 10000
theorem Bts.ex {m : Mt} (h : mtOf m m.live.length 1024 = 0) : ∃ s1 s2 s3 E, Bts m s1 s2 s3 E := by
  obtain ⟨h1, h2, h3, h4⟩ := mt_ok h
  have l1 := chk_len h1
  have a1 := numsB_one (m.live.length : Int)
  have a2 := numsB_le m.live
  have a3 := numsB_one (m.snaps.length : Int)
  refine ⟨_, _, _, fun k => cat (cat (cat (cat (strOf []) (numsB [(m.live.length : Int)])) (numsB m.live)) (numsB [(m.snaps.length : Int)])) (snsB (m.snaps.take k)), rfl, rfl, rfl, ?_, ?_, ?_, ?_, ?_, ?_, ?_⟩
  · simp only [List.take_zero]
    exact cat_nil _
  · intro k hk
    show cat _ _ = cat (cat _ _) _
    rw [snsB_step hk, ← cat_cat]
  · simp only [List.take_length]
    rw [cat_cat, cat_cat, cat_cat, cat_cat]
    unfold cat mtB hdB
    rw [strOf_list]
    simp [List.append_assoc]
  · rw [cat_size, size_strOf]; simp; omega
  · rw [cat_size, cat_size, size_strOf]; simp; omega
  · rw [cat_size, cat_size, cat_size, size_strOf]; simp; omega
  · intro k
    have q := snsB_le (l := m.snaps.take k) fun s hs => chk_len (sn_ok h3 s (List.mem_of_mem_take hs))
    rw [List.length_take] at q
    simp only [cat_size, size_strOf, List.length_nil]
    omega
end Go.Proofs.Ytimgecflcackbaa
