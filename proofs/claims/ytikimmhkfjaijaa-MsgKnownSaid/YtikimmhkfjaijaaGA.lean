/-
  MESSAGES: MsA, MsB, MsC, MsD, MsE, in one text (merged by wip/merge.py).
-/
import Derived.Test.YtikimmhkfjaijaaQStmM
import Derived.Test.YtikimmhkfjaijaaChain
import Derived.Laws.IdiomCopy
namespace Go.Proofs.Ytikimmhkfjaijaa
open Go.RowKit Reg Go.ChangeShapes

/-- laying: what is laid; reading: the reader's block, and what is left -/
inductive Md
  | lay (s : List UInt8)
  | rd (r : Nat) (st : Wire.St)
structure Sf where
  m : Md
  bad : Bool
namespace Md
def out : Md → ByteArray
  | .lay s => strOf s
  | .rd _ _ => ByteArray.empty
def inV : Md → Value
  | .lay _ => .pointer none
  | .rd r _ => .pointer (some ⟨r, 0, none⟩)
def ok (w : World) : Md → Prop
  | .lay _ => True
  | .rd r st => Rdr w r st
def sz : Md → Nat
  | .lay s => s.length
  | .rd _ _ => 0
/-- the reader's block -/
def at_ : Md → Nat → Prop
  | .lay _, _ => False
  | .rd r _, b => b = r
/-- the reader's blocks -/
def near : Md → Nat → Prop
  | .lay _, _ => False
  | .rd r _, b => b = r ∨ b + 1 = r
def isRd : Md → Bool
  | .lay _ => false
  | .rd _ _ => true
end Md
/-- a number is laid, or read -/
def numF : Md → Nat → Md × Nat
  | .lay s, n => (.lay (s ++ Wire.putNum n), n)
  | .rd r st, _ => (.rd r (Wire.num st).2, (Wire.num st).1)
theorem numF_sz (m : Md) (n : Nat) : (numF m n).1.sz ≤ m.sz + 9 := by
  cases m with
  | lay s => have := Wire.putNum_length n; simp only [numF, Md.sz, List.length_append]; omega
  | rd r st => simp [numF, Md.sz]
theorem numF_near (m : Md) (n : Nat) : (numF m n).1.near = m.near := by cases m <;> rfl
theorem numF_at (m : Md) (n : Nat) : (numF m n).1.at_ = m.at_ := by cases m <;> rfl
theorem numF_isRd (m : Md) (n : Nat) : (numF m n).1.isRd = m.isRd := by cases m <;> rfl
theorem numF_inV (m : Md) (n : Nat) : (numF m n).1.inV = m.inV := by cases m <;> rfl
theorem numF_lt (m : Md) (n : Nat) (h : n < 256 ^ 8) : (numF m n).2 < 256 ^ 8 := by
  cases m with
  | lay s => exact h
  | rd r st => exact num_lt st
/-- block fb is 'fields' of the message in block mb -/
def Fd (w : World) (fb mb : Nat) (S : Sf) : Prop :=
  Blk w fb 68 #[.pointer (some ⟨mb, 0, none⟩), .string S.m.out, S.m.inV, .bool S.bad] ∧ S.m.ok w ∧ ¬ S.m.near fb
/-- what turns, of what was there, beside what is pointed at -/
def Zf (fb : Nat) (m : Md) (b : Nat) : Prop := b = fb ∨ m.at_ b
theorem at_near {m : Md} {b : Nat} (h : m.at_ b) : m.near b := by
  cases m with
  | lay s => exact h
  | rd r st => exact .inl h
theorem Rdr.kp {w w' : World} {r : Nat} {st : Wire.St} {A : Nat → Prop} (h : Rdr w r st) (hk : Kp A w w') (hA : ∀ b, b = r ∨ b + 1 = r → ¬ A b) : Rdr w' r st := by
  cases st with
  | none => obtain ⟨v, b⟩ := h; exact ⟨v, hk.blk b (hA r (.inl rfl))⟩
  | some l =>
    obtain ⟨g, off, c, b, h1, h2, h3, hx⟩ := h
    have hlt := b.lt
    refine ⟨g, off, c, hk.blk b (hA r (.inl rfl)), h1, h2, h3, fun j u hu => ?_⟩
    rw [World.cell?_of_block (hk.2 g (by omega) (hA g (.inr h1)))]
    exact hx j u hu
theorem Md.ok_kp {w w' : World} {A : Nat → Prop} {m : Md} (h : m.ok w) (hk : Kp A w w') (hA : ∀ b, m.near b → ¬ A b) : m.ok w' := by
  cases m with
  | lay s => trivial
  | rd r st => exact Rdr.kp h hk hA
theorem Fd.kp {w w' : World} {A : Nat → Prop} {fb mb : Nat} {S : Sf} (h : Fd w fb mb S) (hk : Kp A w w') (hA : ∀ b, b = fb ∨ S.m.near b → ¬ A b) : Fd w' fb mb S :=
  ⟨hk.blk h.1 (hA fb (.inl rfl)), Md.ok_kp h.2.1 hk (fun b hb => hA b (.inr hb)), h.2.2⟩
theorem Fd.keep {w w' : World} {fb mb : Nat} {S : Sf} (h : Fd w fb mb S) (hb : Below w.heap.size w w') : Fd w' fb mb S :=
  h.kp (A := fun _ => False) (Kp.of_below hb) fun _ _ h => h
theorem Kp.at (w : World) (p : Addr) (u : Value) : Kp (· = p.block) w (w.setCell p u) := ⟨(Below.refl _ _).setCell (Nat.zero_le _) u, fun b _ h => Below.heap_setCell w p u b h⟩
theorem setCell_same {w : World} {p : Addr} {u : Value} (h : w.cell? p = some u) : w.setCell p u = w := by
  obtain ⟨heap, tape, drawn, os, output⟩ := w
  simp only [World.setCell, World.mk.injEq, and_true]
  apply Array.ext
  · simp
  · intro i h1 h2
    simp only [World.cell?] at h
    rw [Array.getElem_modify]
    split
    · rename_i e
      subst e
      rw [Array.getElem?_eq_getElem h2] at h
      split at h
      · rename_i c el fr e
        simp only [Option.some.injEq] at e
        rw [e]
        simp only
        split
        · rfl
        · rename_i hs
          rw [if_neg hs] at h
          have : c.setIfInBounds p.off u = c := by
            apply Array.ext
            · simp
            · intro j h3 h4
              rw [Array.getElem_setIfInBounds]
              split
              · rename_i e2; subst e2; rw [Array.getElem?_eq_getElem h4] at h; simpa using h.symm
              · rfl
          rw [this]
      · cases h
    · rfl
theorem setCell_size (w : World) (p : Addr) (u : Value) : (w.setCell p u).heap.size = w.heap.size := by simp [World.setCell]
/-- the pointed cells, set one behind the other -/
def setP (w : World) (ps : List (Nat × Nat)) (f : Nat → Value) : Nat → World
  | 0 => w
  | k + 1 => (setP w ps f k).setCell ⟨(ps.getD k (0, 0)).1, (ps.getD k (0, 0)).2, none⟩ (f k)
theorem setP_size (w : World) (ps : List (Nat × Nat)) (f : Nat → Value) : ∀ k, (setP w ps f k).heap.size = w.heap.size
  | 0 => rfl
  | k + 1 => by rw [setP, setCell_size, setP_size w ps f k]
theorem setP_cell (w : World) (ps : List (Nat × Nat)) (f : Nat → Value) (x : Addr) : ∀ k, (∀ i, i < k → x ≠ ⟨(ps.getD i (0, 0)).1, (ps.getD i (0, 0)).2, none⟩) → (setP w ps f k).cell? x = w.cell? x
  | 0, _ => rfl
  | k + 1, h => by
    rw [setP, World.cell?_setCell_other _ _ _ _ (fun e => h k (by omega) e.symm), setP_cell w ps f x k fun i hi => h i (by omega)]
theorem setP_frozen (w : World) (ps : List (Nat × Nat)) (f : Nat → Value) (x : Addr) : ∀ k, (setP w ps f k).frozen? x = w.frozen? x
  | 0 => rfl
  | k + 1 => by rw [setP, World.frozen?_setCell, setP_frozen w ps f x k]
theorem setP_kp (w : World) (ps : List (Nat × Nat)) (f : Nat → Value) : ∀ k, k ≤ ps.length → Kp (fun b => ∃ p ∈ ps, b = p.1) w (setP w ps f k)
  | 0, _ => Kp.refl _ _
  | k + 1, h => by
    refine (setP_kp w ps f k (by omega)).trans ((Kp.at _ _ _).mono fun b hb => ?_)
    refine ⟨ps.getD k (0, 0), ?_, hb⟩
    rw [List.getD_eq_getElem?_getD, List.getElem?_eq_getElem (by omega)]
    exact List.getElem_mem _
/-- the state before, and the value of, the k-th -/
def nsF (m : Md) (vs : List Nat) : Nat → Md
  | 0 => m
  | k + 1 => (numF (nsF m vs k) (vs.getD k 0)).1
def nvF (m : Md) (vs : List Nat) (k : Nat) : Nat := (numF (nsF m vs k) (vs.getD k 0)).2
def nuV (m : Md) (vs : List Nat) (k : Nat) : Value := .int .u64 (nvF m vs k : Int)
theorem nsF_sz (m : Md) (vs : List Nat) : ∀ k, (nsF m vs k).sz ≤ m.sz + 9 * k
  | 0 => by simp [nsF]
  | k + 1 => by have := nsF_sz m vs k; have := numF_sz (nsF m vs k) (vs.getD k 0); rw [nsF]; omega
theorem nsF_near (m : Md) (vs : List Nat) : ∀ k, (nsF m vs k).near = m.near
  | 0 => rfl
  | k + 1 => by rw [nsF, numF_near, nsF_near]
theorem nsF_at (m : Md) (vs : List Nat) : ∀ k, (nsF m vs k).at_ = m.at_
  | 0 => rfl
  | k + 1 => by rw [nsF, numF_at, nsF_at]
theorem nsF_isRd (m : Md) (vs : List Nat) : ∀ k, (nsF m vs k).isRd = m.isRd
  | 0 => rfl
  | k + 1 => by rw [nsF, numF_isRd, nsF_isRd]
theorem Kp.over {A : Nat → Prop} {a b c : World} {p : Addr} {u : Value} (h : Kp A (a.setCell p u) b) (hb : Below b.heap.size b c) : Kp A (a.setCell p u) c := h.trans (Kp.of_below hb)
/-- of two worlds that are the same but in A: both with a cell set -/
theorem Kp.both {A : Nat → Prop} {a b : World} (h : Kp A a b) (p : Addr) (u : Value) : Kp A (a.setCell p u) (b.setCell p u) := by
  refine ⟨⟨h.1.os, h.1.tape, h.1.output, by rw [setCell_size, setCell_size]; exact h.size, fun i hi => by omega⟩, fun i hi hA => ?_⟩
  rw [setCell_size] at hi
  have := h.2 i hi hA
  simp only [World.setCell, Array.getElem?_modify]
  rw [this]
theorem strOf_nil : strOf [] = ByteArray.empty := rfl

section
variable {w wr : World} {fb mb la k : Nat} {m : Md} {bad : Bool} {ps : List (Nat × Nat)} {vs : List Nat}
/-- what is asked of pointers -/
structure PtrOk (w : World) (fb la : Nat) (m : Md) (ps : List (Nat × Nat)) (vs : List Nat) : Prop where
  len : vs.length = ps.length
  at_ : ∀ j, j < ps.length → w.cell? ⟨(ps.getD j (0, 0)).1, (ps.getD j (0, 0)).2, none⟩ = some (.int .u64 ((vs.getD j 0 : Nat) : Int)) ∧ vs.getD j 0 < 256 ^ 8 ∧ (ps.getD j (0, 0)).1 < w.heap.size
  far : ∀ j, j < ps.length → (ps.getD j (0, 0)).1 ≠ fb ∧ (ps.getD j (0, 0)).1 ≠ la ∧ ¬ m.near (ps.getD j (0, 0)).1
  free : m.isRd = true → ∀ j, j < ps.length → w.frozen? ⟨(ps.getD j (0, 0)).1, (ps.getD j (0, 0)).2, none⟩ = false
  apart : ∀ i j, i < j → j < ps.length → ps.getD i (0, 0) ≠ ps.getD j (0, 0)
/-- what the loop keeps -/
structure NumJ (w wr : World) (fb mb la : Nat) (m : Md) (bad : Bool) (ps : List (Nat × Nat)) (vs : List Nat) (k : Nat) : Prop where
  kp : Kp (Zf fb m) (setP w ps (nuV m vs) k) wr
  fd : Fd wr fb mb ⟨nsF m vs k, bad⟩
  la : Blk wr la 85 (ps.map fun p => .pointer (some ⟨p.1, p.2, none⟩)).toArray
theorem NumJ.cell (h : NumJ w wr fb mb la m bad ps vs k) (hp : PtrOk w fb la m ps vs) {j : Nat} (hj : k ≤ j) (hl : j < ps.length) : wr.cell? ⟨(ps.getD j (0, 0)).1, (ps.getD j (0, 0)).2, none⟩ = some (.int .u64 ((vs.getD j 0 : Nat) : Int)) := by
  have h1 := hp.at_ j hl
  rw [World.cell?_of_block (h.kp.2 _ (by rw [setP_size]; exact h1.2.2) (fun hz => by
    rcases hz with e | e
    · exact (hp.far j hl).1 e
    · exact (hp.far j hl).2.2 (at_near e)))]
  rw [setP_cell _ _ _ _ k fun i hi e => by
    simp only [Addr.mk.injEq] at e
    exact hp.apart i j (by omega) hl (Prod.ext e.1.symm e.2.1.symm)]
  exact h1.1
theorem NumJ.next (h : NumJ w wr fb mb la m bad ps vs k) (hp : PtrOk w fb la m ps vs) (hk : k < ps.length) {w' : World}
    (hkp : Kp (Zf fb m) (wr.setCell ⟨(ps.getD k (0, 0)).1, (ps.getD k (0, 0)).2, none⟩ (nuV m vs k)) w') (hf : Fd w' fb mb ⟨nsF m vs (k + 1), bad⟩) (hla : la ≠ fb) (hln : ¬ m.near la) : NumJ w w' fb mb la m bad ps vs (k + 1) := by
  refine ⟨(h.kp.both _ _).trans hkp, hf, hkp.blk (h.la.far (by exact fun e => (hp.far k hk).2.1 e.symm) _) (fun hz => ?_)⟩
  rcases hz with e | e
  · exact hla e
  · exact hln (at_near e)
end
theorem fnums_any (w : World) (fb mb la : Nat) (S : Sf) (ps : List (Nat × Nat)) (vs : List Nat) (hF : Fd w fb mb S) (hla : Blk w la 85 (ps.map fun p => .pointer (some ⟨p.1, p.2, none⟩)).toArray)
    (hp : PtrOk w fb la S.m ps vs) (hlf : la ≠ fb) (hln : ¬ S.m.near la) (hsz : S.m.sz + 9 * ps.length ≤ 1000000) :
    Calls Try.prog 36 #[.pointer (some ⟨fb, 0, none⟩), .slice (some ⟨la, 0, none⟩) ps.length ps.length] w fun e w' =>
      e = .returned (.tuple #[]) ∧ Kp (Zf fb S.m) (setP w ps (nuV S.m vs) ps.length) w' ∧ Fd w' fb mb ⟨nsF S.m vs ps.length, S.bad⟩ := by
  obtain ⟨m, bad⟩ := S
  have HP := Lib.hid hp
  have HL := Lib.hid (And.intro hlf hln)
  have HSZ := Lib.hid hsz
  have HJ0 : Hid (NumJ w w fb mb la m bad ps vs 0) := Lib.hid ⟨Kp.refl _ _, hF, hla⟩
  have HLEN : Hid (ps.length ≤ 1000000) := Lib.hid (by omega)
  clear hF hla hp hlf hln hsz
  dsimp only
  generalize hn : ps.length = n at *
  have HN := Lib.hid hn
  clear hn
  go_enter Try.func36, Try.ntmps36
  go_wp2_with fail
  go_loopw [8] (fun i wr => ∃ (k : Nat), k ≤ n ∧ i = .int .i64 k ∧ NumJ w wr fb mb la m bad ps vs k) (fun i _ => n - (intOf i).toNat)
  case atStart => exact ⟨0, Nat.zero_le _, rfl, HJ0.out⟩
  case round =>
    obtain ⟨k, hk, rfl, hj⟩ := hrel
    have HJ := Lib.hid hj
    clear hj
    by_cases hkn : k < n
    · have HK := Lib.hid hkn
      have hk2 : k < ps.length := by rw [HN.out]; exact hkn
      have HK2 := Lib.hid hk2
      have HIN := Lib.hid (HP.out.at_ k hk2).2.1
      have HC := Lib.hid (HJ.out.cell HP.out (Nat.le_refl _) hk2)
      have HFR := Lib.hid (fun hr => HP.out.free hr k hk2)
      have HFAR := Lib.hid (HP.out.far k hk2)
      have HNX := Lib.hid (fun w' => @NumJ.next w wr fb mb la k m bad ps vs HJ.out HP.out hk2 w')
      have c0 : wr.cell? ⟨la, k, none⟩ = some (.pointer (some ⟨(ps.getD k (0, 0)).1, (ps.getD k (0, 0)).2, none⟩)) := by
        rw [HJ.out.la.cell k]
        simp [hk2]
      have HFZ := Lib.hid (show wr.frozen? ⟨(ps.getD k (0, 0)).1, (ps.getD k (0, 0)).2, none⟩ = w.frozen? ⟨(ps.getD k (0, 0)).1, (ps.getD k (0, 0)).2, none⟩ by
        rw [← setP_frozen w ps (nuV m vs) _ k]
        exact World.frozen?_of_block (HJ.out.kp.2 _ (by rw [setP_size]; exact (HP.out.at_ k hk2).2.2) (fun hz => by
          rcases hz with e | e
          · exact HFAR.out.1 e
          · exact HFAR.out.2.2 (at_near e))))
      obtain ⟨hfb, hok, hnear⟩ := HJ.out.fd
      have HNR := Lib.hid hnear
      have hnum : nsF m vs (k + 1) = (numF (nsF m vs k) (vs.getD k 0)).1 := rfl
      have hval : nuV m vs k = .int .u64 (((numF (nsF m vs k) (vs.getD k 0)).2 : Nat) : Int) := rfl
      have hq : (nsF m vs k).sz ≤ 1000000 := by have := nsF_sz m vs k; have := HSZ.out; omega
      have hrd : (nsF m vs k).isRd = m.isRd := nsF_isRd _ _ _
      have hat : (nsF m vs k).at_ = m.at_ := nsF_at _ _ _
      have hne : (nsF m vs k).near = m.near := nsF_near _ _ _
      rw [hnum, hval] at HNX
      generalize vs.getD k 0 = x at *
      generalize ps.getD k (0, 0) = p at *
      obtain ⟨pb, po⟩ := p
      dsimp only at *
      clear hnum hval hk2
      have i1 : (k : Int) < (n : Int) := by omega
      have HOK := Lib.hid hok
      have i9 : wrap64 ((k : Int) + 1) = (k : Int) + 1 := IntWalk.wrap64_in _ (by have := HLEN.out; omega)
      have I9 := Lib.hid i9
      clear hok hnear hkn hk i9
      generalize nsF m vs k = mk at *
      cases mk with
      | lay s =>
        have HSQ := Lib.hid hq
        have HFB := Lib.hid (show Blk wr fb 68 #[.pointer (some ⟨mb, 0, none⟩), .string (strOf s), .pointer none, .bool bad] from hfb)
        obtain ⟨O2, hO2⟩ : ∃ O2, O2 = strOf (s ++ Wire.putNum x) := ⟨_, rfl⟩
        have HPN : Hid (∀ w2, Calls Try.prog 53 #[.string (strOf s), .int .u64 (x : Int)] w2 fun e w' => e = .returned (.string O2) ∧ Below w2.heap.size w2 w') := Lib.hid fun w2 => by
          have := putNum_any (strOf s) x w2 HIN.out (by rw [size_strOf]; have := HSQ.out; simp only [Md.sz] at this; unfold maxLen; omega)
          rw [strOf_list, ← hO2] at this
          exact this
        have HO2 := Lib.hid hO2
        have HRD := Lib.hid (And.intro hrd (And.intro hat hne))
        have c1 := HC.out
        have c2 := HFB.out.cell 2
        simp at c2
        clear hO2 hfb hq hrd hat hne
        go_wp2_with fail
        refine wp_region_chain [8, 11] (kv [(8, .is (.string O2)), (11, .is undef)]) (fun l w2 => match l with | [] => Below wr.heap.size wr w2 | [_] => Below wr.heap.size wr w2 | _ => ∃ w3, Below wr.heap.size wr w3 ∧ w2 = w3.setCell ⟨fb, 1, none⟩ (.string O2)) (by kernel_rfl) (by kernel_rfl) (by kernel_rfl) (kv_inh _) (Below.drew (Below.refl _ _)) ?_
        intro ν hν
        have n8 : ν 8 = .string O2 := hν 8
        have n11 : ν 11 = undef := hν 11
        clear hν
        refine ch_plain 0 2 6 (by rfl) rfl (by kernel_rfl) (by kernel_rfl) ?_
        apply Exists.intro
        refine ⟨fun st w2 hlo hhi hJ => ?_, ?_⟩
        · clear hlo hhi hJ
          go_simp
          exact And.intro rfl rfl
        simp only [Act.put, List.setIfInBounds_toArray, List.set_cons_succ, List.set_cons_zero, Nat.reduceAdd]
        refine ch_plain 0 2 6 (by rfl) rfl (by kernel_rfl) (by kernel_rfl) ?_
        apply Exists.intro
        refine ⟨fun st w2 hlo hhi hJ => ?_, ?_⟩
        · clear hlo hhi hJ
          go_simp
          exact And.intro rfl rfl
        simp only [Act.put, List.setIfInBounds_toArray, List.set_cons_succ, List.set_cons_zero, Nat.reduceAdd]
        refine ch_plain 0 2 6 (by rfl) rfl (by kernel_rfl) (by kernel_rfl) ?_
        apply Exists.intro
        refine ⟨fun st w2 hlo hhi hJ => ?_, ?_⟩
        · clear hlo hhi hJ
          go_simp
          exact And.intro rfl rfl
        simp only [Act.put, List.setIfInBounds_toArray, List.set_cons_succ, List.set_cons_zero, Nat.reduceAdd]
        refine ch_plain 0 2 6 (by rfl) rfl (by kernel_rfl) (by kernel_rfl) ?_
        apply Exists.intro
        refine ⟨fun st w2 hlo hhi hJ => ?_, ?_⟩
        · clear hlo hhi hJ
          go_simp
          exact And.intro rfl rfl
        simp only [Act.put, List.setIfInBounds_toArray, List.set_cons_succ, List.set_cons_zero, Nat.reduceAdd]
        refine ch_plain 0 0 6 (by rfl) rfl (by kernel_rfl) (by kernel_rfl) ?_
        apply Exists.intro
        refine ⟨fun st w2 hlo hhi hJ => ?_, ?_⟩
        · have hj : Below wr.heap.size wr w2 := by
            obtain rfl : st = 0 := by omega
            exact hJ
          have y1 := (HFB.out.keep hj).cell 1
          simp at y1
          clear hj
          clear hlo hhi hJ
          go_simp
          exact And.intro rfl rfl
        simp only [Act.put, List.setIfInBounds_toArray, List.set_cons_succ, List.set_cons_zero, Nat.reduceAdd]
        refine ch_plain 0 2 6 (by rfl) rfl (by kernel_rfl) (by kernel_rfl) ?_
        apply Exists.intro
        refine ⟨fun st w2 hlo hhi hJ => ?_, ?_⟩
        · clear hlo hhi hJ
          go_simp
          exact And.intro rfl rfl
        simp only [Act.put, List.setIfInBounds_toArray, List.set_cons_succ, List.set_cons_zero, Nat.reduceAdd]
        refine ch_plain 0 2 6 (by rfl) rfl (by kernel_rfl) (by kernel_rfl) ?_
        apply Exists.intro
        refine ⟨fun st w2 hlo hhi hJ => ?_, ?_⟩
        · clear hlo hhi hJ
          go_simp
          exact And.intro rfl rfl
        simp only [Act.put, List.setIfInBounds_toArray, List.set_cons_succ, List.set_cons_zero, Nat.reduceAdd]
        refine ch_plain 0 0 6 (by rfl) rfl (by kernel_rfl) (by kernel_rfl) ?_
        apply Exists.intro
        refine ⟨fun st w2 hlo hhi hJ => ?_, ?_⟩
        · have hj : Below wr.heap.size wr w2 := by
            obtain rfl : st = 0 := by omega
            exact hJ
          have y1 := cell_later hj HC.out
          clear hj
          clear hlo hhi hJ
          go_simp
          exact And.intro rfl rfl
        simp only [Act.put, List.setIfInBounds_toArray, List.set_cons_succ, List.set_cons_zero, Nat.reduceAdd]
        refine ch_special 0 6 (by rfl) rfl (by decide) (by kernel_rfl) (fun w2 hJ => ?_) ?_
        · have hj : Below wr.heap.size wr w2 := hJ
          go_simp
          refine (HPN.out w2).mono ?_
          rintro e w3 ⟨rfl, hb⟩
          exact ⟨_, rfl, rfl, hj.trans (hb.mono hj.size)⟩
        rw [n8]
        simp only [Act.put, List.setIfInBounds_toArray, List.set_cons_succ, List.set_cons_zero, Nat.reduceAdd]
        refine ch_plain 0 2 6 (by rfl) rfl (by kernel_rfl) (by kernel_rfl) ?_
        apply Exists.intro
        refine ⟨fun st w2 hlo hhi hJ => ?_, ?_⟩
        · clear hlo hhi hJ
          go_simp
          exact And.intro rfl rfl
        simp only [Act.put, List.setIfInBounds_toArray, List.set_cons_succ, List.set_cons_zero, Nat.reduceAdd]
        refine ch_plain 0 2 6 (by rfl) rfl (by kernel_rfl) (by kernel_rfl) ?_
        apply Exists.intro
        refine ⟨fun st w2 hlo hhi hJ => ?_, ?_⟩
        · clear hlo hhi hJ
          go_simp
          exact And.intro rfl rfl
        simp only [Act.put, List.setIfInBounds_toArray, List.set_cons_succ, List.set_cons_zero, Nat.reduceAdd]
        refine ch_special 1 6 (by rfl) rfl (by decide) (by kernel_rfl) (fun w2 hJ => ?_) ?_
        · have hj : Below wr.heap.size wr w2 := hJ
          have y1 := (HFB.out.keep hj).cell 1
          have y2 := (HFB.out.keep hj).frozen 1
          simp at y1
          go_simp
          exact ⟨rfl, w2, hj, rfl⟩
        rw [n11]
        simp only [Act.put, Nat.reduceAdd]
        refine ch_nil (fun w5 hJ => ?_)
        obtain ⟨w3, hb3, hw5⟩ : ∃ w3, Below wr.heap.size wr w3 ∧ w5 = w3.setCell ⟨fb, 1, none⟩ (.string O2) := hJ
        clear n8 n11
        subst hw5
        go_wp2
        rw [I9.out]
        have hx : wr.setCell ⟨pb, po, none⟩ (.int .u64 (x : Int)) = wr := setCell_same HC.out
        have hk5 : Kp (Zf fb m) wr (w3.setCell ⟨fb, 1, none⟩ (.string O2)) := (Kp.of_below hb3).trans ((Kp.at _ _ _).mono fun b e => .inl e)
        refine ⟨⟨k + 1, HK.out, rfl, HNX.out _ (by simp only [numF]; rw [hx]; exact hk5) ⟨?_, trivial, HNR.out⟩ HL.out.1 HL.out.2⟩, meas_succ HK.out⟩
        have := (HFB.out.keep hb3).set 1 (.string O2)
        rw [HO2.out] at this ⊢
        exact this
      | rd r st =>
        have HFB := Lib.hid (show Blk wr fb 68 #[.pointer (some ⟨mb, 0, none⟩), .string ByteArray.empty, .pointer (some ⟨r, 0, none⟩), .bool bad] from hfb)
        have HRD := Lib.hid (And.intro hrd (And.intro hat hne))
        have c1 := HC.out
        have c2 := HFB.out.cell 2
        simp at c2
        have HZ := Lib.hid hfb.lt
        have HPL := Lib.hid (World.block_lt_of_cell? wr _ HC.out)
        clear hfb hq hrd hat hne
        go_wp2_with fail
        refine (num_any r st wr HOK.out).mono ?_
        rintro e w5 ⟨rfl, hr5, hg5⟩
        have hpr : pb ≠ r := fun e => HFAR.out.2.2 (by rw [← HRD.out.2.2]; exact .inl e)
        have hc5 := (World.cell?_of_block (a := ⟨pb, po, none⟩) (hg5.block pb HPL.out (by simpa using hpr))).trans HC.out
        have hf5 : w5.frozen? ⟨pb, po, none⟩ = false := by
          rw [World.frozen?_of_block (hg5.block pb HPL.out (by simpa using hpr)), HFZ.out]
          exact HFR.out HRD.out.1.symm
        have HR5 := Lib.hid (And.intro hr5 hg5)
        have HC5 := Lib.hid hc5
        clear hr5 hg5 c0 c1 c2
        go_wp2
        rw [I9.out]
        have hr5 := HR5.out.1
        have hg5 := HR5.out.2
        have hkp : Kp (Zf fb m) wr w5 := (Kp.of_row hg5).mono fun b e => .inr (by rw [← HRD.out.2.1]; exact e)
        have hfr : fb ≠ r := fun e => HNR.out (.inl e)
        refine ⟨⟨k + 1, HK.out, rfl, HNX.out _ (hkp.both _ _) ⟨((Kp.of_row hg5).blk HFB.out hfr).far (Ne.symm HFAR.out.1) _, ?_, HNR.out⟩ HL.out.1 HL.out.2⟩, meas_succ HK.out⟩
        exact Rdr.kp hr5 (Kp.at _ _ _) (fun b hb e => HFAR.out.2.2 (by rw [← HRD.out.2.2]; subst e; exact hb))
    · obtain rfl : k = n := by omega
      have i1 : ¬ ((k : Int) < (k : Int)) := by omega
      clear hkn hk
      go_wp2
      refine bodyPost_end (results_none rfl _ _ _) rfl ?_
      exact ⟨rfl, HJ.out.kp, HJ.out.fd⟩
end Go.Proofs.Ytikimmhkfjaijaa
namespace Go.Proofs.Ytikimmhkfjaijaa
open Go.RowKit Reg Go.ChangeShapes

theorem p256 : (256 : Nat) ^ 8 = 18446744073709551616 := by decide
theorem Md.near_lt {w : World} {m : Md} {b : Nat} (h : m.ok w) (hn : m.near b) : b < w.heap.size := by
  cases m with
  | lay s => exact hn.elim
  | rd r st => have := Rdr.lt h; rcases hn with e | e <;> omega
theorem Kp.fresh {A : Nat → Prop} {a b : World} {p : Addr} (h : Kp A a b) (hp : a.heap.size ≤ p.block) (u : Value) : Kp A a (b.setCell p u) :=
  ⟨h.1.setCell (Nat.zero_le _) u, fun i hi hA => (Below.heap_setCell b p u i (fun e => by omega)).trans (h.2 i hi hA)⟩
theorem Kp.grow {A : Nat → Prop} {a b : World} (h : Kp A a b) (o : Obj) : Kp A a (b.alloc o) := h.trans (Kp.of_below ((Below.refl _ _).alloc (Nat.le_refl _) o))
theorem Kp.drew {A : Nat → Prop} {a b : World} (h : Kp A a b) : Kp A a b.drew := ⟨h.1.drew, h.2⟩
theorem Fd.lt {w : World} {fb mb : Nat} {S : Sf} (h : Fd w fb mb S) : fb < w.heap.size := h.1.lt
theorem Fd.near_lt {w : World} {fb mb : Nat} {S : Sf} (h : Fd w fb mb S) {b : Nat} (hb : S.m.near b) : b < w.heap.size := Md.near_lt h.2.1 hb
theorem Zf_lt {w : World} {fb mb : Nat} {S : Sf} (h : Fd w fb mb S) {b : Nat} (hb : Zf fb S.m b) : b < w.heap.size := by
  rcases hb with e | e
  · rw [e]; exact h.lt
  · exact h.near_lt (at_near e)
/-- what is asked of a pointer -/
structure PtOk (w : World) (fb : Nat) (m : Md) (p o : Nat) : Prop where
  ne : p ≠ fb
  far : ¬ m.near p
  free : m.isRd = true → w.frozen? ⟨p, o, none⟩ = false
theorem PtOk.nz {w : World} {fb : Nat} {m : Md} {p o : Nat} (h : PtOk w fb m p o) : ¬ Zf fb m p := fun hz => by
  rcases hz with e | e
  · exact h.ne e
  · exact h.far (at_near e)
theorem pt_of {w : World} {fb p o : Nat} {m : Md} {t : TypeId} {cs : Array Value} (hb : Blk w p t cs) (h1 : p ≠ fb) (h2 : ¬ m.near p) : PtOk w fb m p o := ⟨h1, h2, fun _ => hb.frozen o⟩
/-- nums of one pointer, in a slice that has just been laid -/
theorem num1_any (w : World) (fb mb : Nat) (S : Sf) (p o x : Nat) (hF : Fd w fb mb S) (hc : w.cell? ⟨p, o, none⟩ = some (.int .u64 (x : Int))) (hx : x < 256 ^ 8) (hp : PtOk w fb S.m p o) (hsz : S.m.sz ≤ 900000) :
    Calls Try.prog 36 #[.pointer (some ⟨fb, 0, none⟩), .slice (some ⟨w.heap.size, 0, none⟩) 1 1] (w.alloc (.cells #[.pointer (some ⟨p, o, none⟩)] 85)) fun e w' =>
      e = .returned (.tuple #[]) ∧ Kp (Zf fb S.m) (w.setCell ⟨p, o, none⟩ (.int .u64 ((numF S.m x).2 : Nat))) w' ∧ Fd w' fb mb ⟨(numF S.m x).1, S.bad⟩ := by
  have hlt : p < w.heap.size := World.block_lt_of_cell? w _ hc
  have hb := (Below.refl w.heap.size w).alloc (Nat.le_refl _) (Obj.cells #[.pointer (some ⟨p, o, none⟩)] 85)
  refine (fnums_any _ fb mb w.heap.size S [(p, o)] [x] (hF.keep hb) (by exact Blk.new _ _ _) ⟨rfl, ?_, ?_, ?_, ?_⟩ (Nat.ne_of_gt hF.lt) (fun h => Nat.lt_irrefl _ (hF.near_lt h)) (by simp; omega)).mono ?_
  · intro j hj
    obtain rfl : j = 0 := by simpa using hj
    exact ⟨cell_later hb hc, hx, by simp only [World.alloc, Array.size_push]; exact Nat.lt_succ_of_lt hlt⟩
  · intro j hj
    obtain rfl : j = 0 := by simpa using hj
    exact ⟨hp.ne, Nat.ne_of_lt hlt, hp.far⟩
  · intro hr j hj
    obtain rfl : j = 0 := by simpa using hj
    have := hp.free hr
    rw [← this]
    exact World.frozen?_of_block (hb.block p hlt)
  · intro i j h1 h2
    simp at h2
    omega
  · rintro e w' ⟨rfl, h1, h2⟩
    exact ⟨rfl, ((Kp.of_below hb).both _ _).trans h1, h2⟩
/-- nums of two pointers side by side -/
theorem num2_any (w : World) (fb mb : Nat) (S : Sf) (p o x y : Nat) (hF : Fd w fb mb S) (hc : w.cell? ⟨p, o, none⟩ = some (.int .u64 (x : Int))) (hc2 : w.cell? ⟨p, o + 1, none⟩ = some (.int .u64 (y : Int))) (hx : x < 256 ^ 8) (hy : y < 256 ^ 8) (hp : PtOk w fb S.m p o) (hp2 : PtOk w fb S.m p (o + 1)) (hsz : S.m.sz ≤ 900000)
    (la : Nat) (w1 : World) (hb : Below w.heap.size w w1) (hla : w.heap.size ≤ la) (hA : Blk w1 la 85 #[.pointer (some ⟨p, o, none⟩), .pointer (some ⟨p, o + 1, none⟩)]) :
    Calls Try.prog 36 #[.pointer (some ⟨fb, 0, none⟩), .slice (some ⟨la, 0, none⟩) 2 2] w1 fun e w' =>
      e = .returned (.tuple #[]) ∧ Kp (Zf fb S.m) ((w.setCell ⟨p, o, none⟩ (.int .u64 ((numF S.m x).2 : Nat))).setCell ⟨p, o + 1, none⟩ (.int .u64 ((numF (numF S.m x).1 y).2 : Nat))) w' ∧ Fd w' fb mb ⟨(numF (numF S.m x).1 y).1, S.bad⟩ := by
  have hlt : p < w.heap.size := World.block_lt_of_cell? w _ hc
  have hfl := hF.lt
  refine (fnums_any _ fb mb la S [(p, o), (p, o + 1)] [x, y] (hF.keep hb) hA ⟨rfl, ?_, ?_, ?_, ?_⟩ (by omega) (fun h => by have := hF.near_lt h; omega) (by simp; omega)).mono ?_
  · intro j hj
    have hj2 : j = 0 ∨ j = 1 := by simp at hj; omega
    have hs : p < w1.heap.size := Nat.lt_of_lt_of_le hlt hb.size
    rcases hj2 with rfl | rfl
    · exact ⟨cell_later hb hc, hx, hs⟩
    · exact ⟨cell_later hb hc2, hy, hs⟩
  · intro j hj
    have hj2 : j = 0 ∨ j = 1 := by simp at hj; omega
    have hpl : p ≠ la := by omega
    rcases hj2 with rfl | rfl
    · exact ⟨hp.ne, hpl, hp.far⟩
    · exact ⟨hp.ne, hpl, hp.far⟩
  · intro hr j hj
    have hj2 : j = 0 ∨ j = 1 := by simp at hj; omega
    rcases hj2 with rfl | rfl
    · exact (World.frozen?_of_block (a := ⟨p, o, none⟩) (hb.block p hlt)).trans (hp.free hr)
    · exact (World.frozen?_of_block (a := ⟨p, o + 1, none⟩) (hb.block p hlt)).trans (hp2.free hr)
  · intro i j h1 h2
    have h3 : i = 0 ∧ j = 1 := by simp at h2; omega
    obtain ⟨rfl, rfl⟩ := h3
    simp
  · rintro e w' ⟨rfl, h1, h2⟩
    exact ⟨rfl, (((Kp.of_below hb).both _ _).both _ _).trans h1, h2⟩
/-- an int, as it is laid or read -/
def intF (S : Sf) (n : Int) : Sf × Int := (⟨(numF S.m n.toNat).1, S.bad || decide (8192 < (numF S.m n.toNat).2)⟩, wrap64 ((numF S.m n.toNat).2 : Nat))
theorem cells_after {A : Nat → Prop} {w w' : World} {p o : Nat} {u v : Value} (h : Kp A (w.setCell ⟨p, o, none⟩ u) w') (hA : ¬ A p) (hc : w.cell? ⟨p, o, none⟩ = some v) : w'.cell? ⟨p, o, none⟩ = some u := by
  rw [World.cell?_of_block (a := ⟨p, o, none⟩) (h.2 p (by rw [setCell_size]; exact World.block_lt_of_cell? w _ hc) hA)]
  exact World.cell?_setCell_same _ _ _ hc
theorem cells_other {A : Nat → Prop} {w w' : World} {p o p' o' : Nat} {u v : Value} (h : Kp A (w.setCell ⟨p, o, none⟩ u) w') (hA : ¬ A p') (hc : w.cell? ⟨p', o', none⟩ = some v) (hne : p ≠ p' ∨ o ≠ o') : w'.cell? ⟨p', o', none⟩ = some v := by
  rw [World.cell?_of_block (a := ⟨p', o', none⟩) (h.2 p' (by rw [setCell_size]; exact World.block_lt_of_cell? w _ hc) hA)]
  rw [World.cell?_setCell_other _ _ _ _ (fun e => by
    simp only [Addr.mk.injEq] at e
    omega)]
  exact hc
theorem frozen_after {A : Nat → Prop} {w w' : World} {p o p' o' : Nat} {u : Value} (h : Kp A (w.setCell ⟨p, o, none⟩ u) w') (hA : ¬ A p') (hl : p' < w.heap.size) : w'.frozen? ⟨p', o', none⟩ = w.frozen? ⟨p', o', none⟩ := by
  rw [World.frozen?_of_block (a := ⟨p', o', none⟩) (h.2 p' (by rw [setCell_size]; exact hl) hA), World.frozen?_setCell]
theorem blk_after {A : Nat → Prop} {w w' : World} {p o : Nat} {u : Value} {t : TypeId} {cs : Array Value} (h : Kp A (w.setCell ⟨p, o, none⟩ u) w') (hb : Blk w p t cs) (hA : ¬ A p) : Blk w' p t (cs.setIfInBounds o u) := h.blk (hb.set o u) hA
/-- ints of one pointer -/
theorem fints_any (w : World) (fb mb : Nat) (S : Sf) (p o n : Nat) (hF : Fd w fb mb S) (hc : w.cell? ⟨p, o, none⟩ = some (.int .i64 (n : Int))) (hn : n ≤ 8192) (hp : PtOk w fb S.m p o) (hfz : w.frozen? ⟨p, o, none⟩ = false) (hsz : S.m.sz ≤ 900000) :
    Calls Try.prog 22 #[.pointer (some ⟨fb, 0, none⟩), .slice (some ⟨w.heap.size, 0, none⟩) 1 1] (w.alloc (.cells #[.pointer (some ⟨p, o, none⟩)] 70)) fun e w' =>
      e = .returned (.tuple #[]) ∧ Kp (Zf fb S.m) (w.setCell ⟨p, o, none⟩ (.int .i64 (intF S n).2)) w' ∧ Fd w' fb mb (intF S n).1 := by
  obtain ⟨R, hR⟩ : ∃ R : World → Prop, R = fun w' => Kp (Zf fb S.m) (w.setCell ⟨p, o, none⟩ (.int .i64 (intF S n).2)) w' ∧ Fd w' fb mb (intF S n).1 := ⟨_, rfl⟩
  have hlt : p < w.heap.size := World.block_lt_of_cell? w _ hc
  have hb := (Below.refl w.heap.size w).alloc (Nat.le_refl _) (Obj.cells #[.pointer (some ⟨p, o, none⟩)] 70)
  have hla := Blk.new w 70 #[.pointer (some ⟨p, o, none⟩)]
  obtain ⟨la, hLA⟩ : ∃ la, la = w.heap.size := ⟨_, rfl⟩
  have hsz1 : (w.alloc (.cells #[.pointer (some ⟨p, o, none⟩)] 70)).heap.size = w.heap.size + 1 := by simp
  rw [← hLA] at hla ⊢
  obtain ⟨w1, hw1⟩ : ∃ w1, w1 = w.alloc (.cells #[.pointer (some ⟨p, o, none⟩)] 70) := ⟨_, rfl⟩
  rw [← hw1] at hb hla hsz1 ⊢
  have hgoal : (fun (e : Ending) (w' : World) => e = .returned (.tuple #[]) ∧ Kp (Zf fb S.m) (w.setCell ⟨p, o, none⟩ (.int .i64 (intF S n).2)) w' ∧ Fd w' fb mb (intF S n).1) = fun e w' => e = .returned (.tuple #[]) ∧ R w' := by rw [hR]
  rw [hgoal]
  have hF1 := hF.keep hb
  have hc1 := cell_later hb hc
  have hfz1 : w1.frozen? ⟨p, o, none⟩ = false := (World.frozen?_of_block (a := ⟨p, o, none⟩) (hb.block p hlt)).trans hfz
  have hne : p ≠ fb := hp.ne
  obtain ⟨w2, hw2⟩ : ∃ w2, w2 = w1.alloc (.cells #[.int .u64 (n : Int)] 22) := ⟨_, rfl⟩
  have hb2 : Below w1.heap.size w1 w2 := by rw [hw2]; exact (Below.refl _ _).alloc (Nat.le_refl _) _
  have hx2 : Blk w2 w1.heap.size 22 #[.int .u64 (n : Int)] := by rw [hw2]; exact Blk.new _ _ _
  have hF2 := hF1.keep hb2
  have hfb2 := hF1.lt
  have hN := num1_any w2 fb mb S w1.heap.size 0 n hF2 (by rw [hx2.cell]; rfl) (by rw [p256]; omega) (pt_of hx2 (Nat.ne_of_gt hfb2) (fun h => Nat.lt_irrefl _ (hF1.near_lt h))) hsz
  -- behind nums
  have HFIN : Hid (∀ w3, Kp (Zf fb S.m) (w2.setCell ⟨w1.heap.size, 0, none⟩ (.int .u64 ((numF S.m n).2 : Nat))) w3 → Fd w3 fb mb ⟨(numF S.m n).1, S.bad⟩ →
      Blk w3 w1.heap.size 22 #[.int .u64 ((numF S.m n).2 : Nat)] ∧ w3.cell? ⟨p, o, none⟩ = some (.int .i64 (n : Int)) ∧ w3.frozen? ⟨p, o, none⟩ = false ∧ w3.cell? ⟨la, 0, none⟩ = some (.pointer (some ⟨p, o, none⟩)) ∧
      R ((w3.setCell ⟨fb, 3, none⟩ (.bool (intF S n).1.bad)).setCell ⟨p, o, none⟩ (.int .i64 (intF S n).2))) := Lib.hid fun w3 h1 h2 => by
    have hzx : ¬ Zf fb S.m w1.heap.size := fun h => Nat.lt_irrefl _ (Zf_lt hF1 h)
    have hz := hp.nz
    have hp1 : p < w1.heap.size := Nat.lt_of_lt_of_le hlt hb.size
    refine ⟨blk_after h1 hx2 hzx, cells_other h1 hz (cell_later hb2 hc1) (.inl (Nat.ne_of_gt hp1)), ?_, cells_other h1 (fun h => ?_) (cell_later hb2 (by rw [hla.cell]; rfl)) (.inl (by omega)), ?_⟩
    · rw [frozen_after h1 hz (Nat.lt_of_lt_of_le hp1 hb2.size)]
      exact (World.frozen?_of_block (a := ⟨p, o, none⟩) (hb2.block p hp1)).trans hfz1
    · have := Zf_lt hF h; omega
    · rw [hR]
      have hk : Kp (Zf fb S.m) w w3 := (((Kp.of_below hb).trans (Kp.of_below hb2)).fresh (p := ⟨w1.heap.size, 0, none⟩) hb.size _).trans h1
      have hnear : (numF S.m n).1.near = S.m.near := numF_near _ _
      refine ⟨(hk.set (A := Zf fb S.m) (p := ⟨fb, 3, none⟩) (.inl rfl) _).both _ _, ?_⟩
      obtain ⟨g1, g2, g3⟩ := h2
      refine ⟨((g1.set 3 _).far (by exact hne.symm) _), ?_, g3⟩
      have hfn : ¬ S.m.near fb := hF.2.2
      refine Md.ok_kp (A := fun b => b = p) (Md.ok_kp (A := fun b => b = fb) g2 (Kp.at _ _ _) (fun b hb e => ?_)) (Kp.at _ _ _) (fun b hb e => ?_)
      · have hb : (numF S.m n).1.near b := hb
        rw [hnear] at hb
        exact hfn (e ▸ hb)
      · have hb : (intF S n).1.m.near b := hb
        have hb : (numF S.m n).1.near b := hb
        rw [hnear] at hb
        exact hp.far (e ▸ hb)
  have hRn : (intF S n).2 = wrap64 ((numF S.m n).2 : Nat) := rfl
  have hRb : (intF S n).1.bad = (S.bad || decide (8192 < (numF S.m n).2)) := rfl
  have hfd2 : ∀ w3, Fd w3 fb mb ⟨(numF S.m n).1, S.bad⟩ → w3.cell? ⟨fb, 3, none⟩ = some (.bool S.bad) ∧ w3.frozen? ⟨fb, 3, none⟩ = false := fun w3 h => ⟨by rw [h.1.cell]; rfl, h.1.frozen 3⟩
  have hsw2 : w2.heap.size = w1.heap.size + 1 := by rw [hw2]; simp
  rw [hsw2] at hN
  have HN := Lib.hid hN
  have HFD := Lib.hid hfd2
  have c0 : w1.cell? ⟨la, 0, none⟩ = some (.pointer (some ⟨p, o, none⟩)) := by rw [hla.cell]; rfl
  have hu : IntKind.u64.wrap (n : Int) = (n : Int) := IntWalk.u64_in _ (by omega)
  rw [hRn, hRb] at HFIN
  have HQ : Hid ((numF S.m n).2 < 18446744073709551616) := Lib.hid (p256 ▸ numF_lt S.m n (by rw [p256]; omega))
  clear hRn hRb hfd2 hN hx2 hF2 hfb2 hb2 hgoal hF1 hfz1 hF hc hp hfz hlt hb hla hR hn hsz hw1 hLA hsz1 hsw2
  subst hw2
  generalize hq : (numF S.m n).2 = q at *
  clear hq
  generalize S.bad = sb at *
  go_enter Try.func22, Try.ntmps22
  go_wp2_with fail
  go_loopw [9] (fun i wr => (i = .int .i64 0 ∧ wr = w1) ∨ (i = .int .i64 1 ∧ R wr)) (fun i _ => 1 - (intOf i).toNat)
  case atStart => exact .inl ⟨rfl, rfl⟩
  case round =>
    rcases hrel with ⟨rfl, rfl⟩ | ⟨rfl, hr⟩
    · go_wp2_with fail
      refine HN.out.mono ?_
      rintro e w3 ⟨rfl, h1, h2⟩
      obtain ⟨f1, f2, f3, f4, f5⟩ := HFIN.out w3 h1 h2
      obtain ⟨b3, b3f⟩ := HFD.out w3 h2
      have x3 := f1.cell 0
      simp at x3
      have HR := Lib.hid f5
      clear f1 f4 f5 h1 h2 c0
      cases sb with
      | true =>
        have HR2 : Hid (R ((w3.setCell ⟨fb, 3, none⟩ (.bool true)).setCell ⟨p, o, none⟩ (.int .i64 (wrap64 (q : Int))))) := HR
        clear HR
        go_wp2
        exact ⟨.inr ⟨rfl, HR2.out⟩, by decide⟩
      | false =>
        by_cases hq8 : 8192 < q
        · have HR2 : Hid (R ((w3.setCell ⟨fb, 3, none⟩ (.bool true)).setCell ⟨p, o, none⟩ (.int .i64 (wrap64 (q : Int))))) := by
            rw [decide_eq_true hq8] at HR
            exact HR
          have e8 : (8192 : Int) < (q : Int) := by omega
          clear HR hq8
          go_wp2
          exact ⟨.inr ⟨rfl, HR2.out⟩, by decide⟩
        · have HR2 : Hid (R ((w3.setCell ⟨fb, 3, none⟩ (.bool false)).setCell ⟨p, o, none⟩ (.int .i64 (wrap64 (q : Int))))) := by
            rw [decide_eq_false hq8] at HR
            exact HR
          have e8 : decide ((8192 : Int) < (q : Int)) = false := decide_eq_false (by omega)
          clear HR hq8
          go_wp2
          exact ⟨.inr ⟨rfl, HR2.out⟩, by decide⟩
    · go_wp2
      refine bodyPost_end (results_none rfl _ _ _) rfl ?_
      exact ⟨rfl, hr⟩
end Go.Proofs.Ytikimmhkfjaijaa
namespace Go.Proofs.Ytikimmhkfjaijaa
open Go.RowKit Reg Go.ChangeShapes

def b01 (b : Bool) : Nat := if b = true then 1 else 0
/-- a yes or no, as it is laid or read -/
def yesF (S : Sf) (b : Bool) : Sf × Bool := (⟨(intF S (b01 b : Nat)).1.m, (intF S (b01 b : Nat)).1.bad || decide (1 < (intF S (b01 b : Nat)).2)⟩, (intF S (b01 b : Nat)).2 == 1)
theorem intF_near (S : Sf) (n : Int) : (intF S n).1.m.near = S.m.near := numF_near _ _
/-- what follows a call that turns a block of the call's own, then a store into fields' bad, then one where it was asked -/
theorem bad_then {w w2 w3 : World} {fb mb p o x : Nat} {S S' : Sf} {u v : Value} (h2 : Below w.heap.size w w2) (hx : w.heap.size ≤ x) (h3 : Kp (Zf fb S.m) (w2.setCell ⟨x, 0, none⟩ u) w3) (hf : Fd w3 fb mb S') (hp : PtOk w fb S.m p o) (hn : S'.m.near = S.m.near) (hfn : ¬ S.m.near fb) (b : Bool) :
    Kp (Zf fb S.m) (w.setCell ⟨p, o, none⟩ v) ((w3.setCell ⟨fb, 3, none⟩ (.bool b)).setCell ⟨p, o, none⟩ v) ∧ Fd ((w3.setCell ⟨fb, 3, none⟩ (.bool b)).setCell ⟨p, o, none⟩ v) fb mb ⟨S'.m, b⟩ := by
  have hk : Kp (Zf fb S.m) w w3 := ((Kp.of_below h2).fresh (p := ⟨x, 0, none⟩) hx _).trans h3
  refine ⟨(hk.set (A := Zf fb S.m) (p := ⟨fb, 3, none⟩) (.inl rfl) _).both _ _, ?_⟩
  obtain ⟨g1, g2, g3⟩ := hf
  refine ⟨((g1.set 3 _).far (by exact hp.ne.symm) _), ?_, g3⟩
  refine Md.ok_kp (A := fun b => b = p) (Md.ok_kp (A := fun b => b = fb) g2 (Kp.at _ _ _) (fun b hb e => ?_)) (Kp.at _ _ _) (fun b hb e => ?_)
  · rw [hn] at hb
    exact hfn (e ▸ hb)
  · have hb : S'.m.near b := hb
    rw [hn] at hb
    exact hp.far (e ▸ hb)
theorem fyes_any (w : World) (fb mb : Nat) (S : Sf) (p o : Nat) (b : Bool) (hF : Fd w fb mb S) (hc : w.cell? ⟨p, o, none⟩ = some (.bool b)) (hp : PtOk w fb S.m p o) (hfz : w.frozen? ⟨p, o, none⟩ = false) (hsz : S.m.sz ≤ 900000) :
    Calls Try.prog 54 #[.pointer (some ⟨fb, 0, none⟩), .pointer (some ⟨p, o, none⟩)] w fun e w' =>
      e = .returned (.tuple #[]) ∧ Kp (Zf fb S.m) (w.setCell ⟨p, o, none⟩ (.bool (yesF S b).2)) w' ∧ Fd w' fb mb (yesF S b).1 := by
  obtain ⟨R, hR⟩ : ∃ R : World → Prop, R = fun w' => Kp (Zf fb S.m) (w.setCell ⟨p, o, none⟩ (.bool (yesF S b).2)) w' ∧ Fd w' fb mb (yesF S b).1 := ⟨_, rfl⟩
  have hgoal : (fun (e : Ending) (w' : World) => e = .returned (.tuple #[]) ∧ Kp (Zf fb S.m) (w.setCell ⟨p, o, none⟩ (.bool (yesF S b).2)) w' ∧ Fd w' fb mb (yesF S b).1) = fun e w' => e = .returned (.tuple #[]) ∧ R w' := by rw [hR]
  rw [hgoal]
  have hlt : p < w.heap.size := World.block_lt_of_cell? w _ hc
  have hne := hp.ne
  have hlf := hF.lt
  -- behind ints
  have HFIN : Hid (∀ w2, Below w.heap.size w w2 → Blk w2 w.heap.size 3 #[.int .i64 ((b01 b : Nat) : Int)] → w2.heap.size = w.heap.size + 1 →
      Calls Try.prog 22 #[.pointer (some ⟨fb, 0, none⟩), .slice (some ⟨w.heap.size + 1, 0, none⟩) 1 1] (w2.alloc (.cells #[.pointer (some ⟨w.heap.size, 0, none⟩)] 70)) fun e w3 =>
        e = .returned (.tuple #[]) ∧ Blk w3 w.heap.size 3 #[.int .i64 (intF S (b01 b : Nat)).2] ∧ w3.cell? ⟨p, o, none⟩ = some (.bool b) ∧ w3.frozen? ⟨p, o, none⟩ = false ∧ w3.cell? ⟨fb, 3, none⟩ = some (.bool (intF S (b01 b : Nat)).1.bad) ∧ w3.frozen? ⟨fb, 3, none⟩ = false ∧
        R ((w3.setCell ⟨fb, 3, none⟩ (.bool ((intF S (b01 b : Nat)).1.bad || decide (1 < (intF S (b01 b : Nat)).2)))).setCell ⟨p, o, none⟩ (.bool ((intF S (b01 b : Nat)).2 == 1)))) := Lib.hid fun w2 h2 hx2 hs2 => by
    have hF2 := hF.keep h2
    have hb1 : b01 b ≤ 8192 := by unfold b01; split <;> omega
    rw [← hs2]
    refine (fints_any w2 fb mb S w.heap.size 0 (b01 b) hF2 (by rw [hx2.cell]; rfl) hb1 (pt_of hx2 (Nat.ne_of_gt hlf) (fun h => Nat.lt_irrefl _ (hF.near_lt h))) (hx2.frozen 0) hsz).mono ?_
    rintro e w3 ⟨rfl, h3, hf3⟩
    have hzx : ¬ Zf fb S.m w.heap.size := fun h => Nat.lt_irrefl _ (Zf_lt hF h)
    have hz := hp.nz
    refine ⟨rfl, blk_after h3 hx2 hzx, cells_other h3 hz (cell_later h2 hc) (.inl (Nat.ne_of_gt hlt)), ?_, by rw [hf3.1.cell]; rfl, hf3.1.frozen 3, ?_⟩
    · rw [frozen_after h3 hz (Nat.lt_of_lt_of_le hlt h2.size)]
      exact (World.frozen?_of_block (a := ⟨p, o, none⟩) (h2.block p hlt)).trans hfz
    · rw [hR]
      exact bad_then h2 (Nat.le_refl _) h3 hf3 hp (intF_near _ _) hF.2.2 _
  have hne2 : p ≠ w.heap.size := Nat.ne_of_lt hlt
  have HB1 := Lib.hid ((Below.refl w.heap.size w).alloc (Nat.le_refl _) (Obj.cells #[.int .i64 0] 3))
  have HB2 := Lib.hid ((Below.refl w.heap.size w).alloc (Nat.le_refl _) (Obj.cells #[.int .i64 1] 3))
  have HX1 := Lib.hid (Blk.new w 3 #[.int .i64 0])
  have HX2 := Lib.hid (Blk.new w 3 #[.int .i64 1])
  have hc2 := cell_later HB1.out hc
  clear hF hp hfz hsz hlt hlf hgoal hR
  generalize hq : (intF S (b01 b : Nat)).2 = q at *
  generalize hsb : (intF S (b01 b : Nat)).1.bad = sb at *
  clear hq hsb
  cases b with
  | true =>
    have HC := Lib.hid (HFIN.out _ HB2.out HX2.out (by simp))
    clear HFIN
    go_enter Try.func54, Try.ntmps54
    go_wp2_with fail
    refine HC.out.mono ?_
    rintro e w3 ⟨rfl, x3, y3, f3, b3, b3f, hr⟩
    have HR := Lib.hid hr
    have x3 := x3.cell 0
    simp at x3
    clear hr hc hc2
    cases sb with
    | true =>
      have HR2 : Hid (R ((w3.setCell ⟨fb, 3, none⟩ (.bool true)).setCell ⟨p, o, none⟩ (.bool (q == 1)))) := HR
      clear HR
      go_wp2
      refine bodyPost_end (results_none rfl _ _ _) rfl ?_
      exact ⟨rfl, HR2.out⟩
    | false =>
      by_cases hq8 : 1 < q
      · have HR2 : Hid (R ((w3.setCell ⟨fb, 3, none⟩ (.bool true)).setCell ⟨p, o, none⟩ (.bool (q == 1)))) := by
          rw [decide_eq_true hq8] at HR
          exact HR
        clear HR
        go_wp2
        refine bodyPost_end (results_none rfl _ _ _) rfl ?_
        exact ⟨rfl, HR2.out⟩
      · have HR2 : Hid (R ((w3.setCell ⟨fb, 3, none⟩ (.bool false)).setCell ⟨p, o, none⟩ (.bool (q == 1)))) := by
          rw [decide_eq_false hq8] at HR
          exact HR
        have e8 : decide (1 < q) = false := decide_eq_false hq8
        clear HR hq8
        go_wp2
        refine bodyPost_end (results_none rfl _ _ _) rfl ?_
        exact ⟨rfl, HR2.out⟩
  | false =>
    have HC := Lib.hid (HFIN.out _ HB1.out HX1.out (by simp))
    clear HFIN
    go_enter Try.func54, Try.ntmps54
    go_wp2_with fail
    refine HC.out.mono ?_
    rintro e w3 ⟨rfl, x3, y3, f3, b3, b3f, hr⟩
    have HR := Lib.hid hr
    have x3 := x3.cell 0
    simp at x3
    clear hr hc hc2
    cases sb with
    | true =>
      have HR2 : Hid (R ((w3.setCell ⟨fb, 3, none⟩ (.bool true)).setCell ⟨p, o, none⟩ (.bool (q == 1)))) := HR
      clear HR
      go_wp2
      refine bodyPost_end (results_none rfl _ _ _) rfl ?_
      exact ⟨rfl, HR2.out⟩
    | false =>
      by_cases hq8 : 1 < q
      · have HR2 : Hid (R ((w3.setCell ⟨fb, 3, none⟩ (.bool true)).setCell ⟨p, o, none⟩ (.bool (q == 1)))) := by
          rw [decide_eq_true hq8] at HR
          exact HR
        clear HR
        go_wp2
        refine bodyPost_end (results_none rfl _ _ _) rfl ?_
        exact ⟨rfl, HR2.out⟩
      · have HR2 : Hid (R ((w3.setCell ⟨fb, 3, none⟩ (.bool false)).setCell ⟨p, o, none⟩ (.bool (q == 1)))) := by
          rw [decide_eq_false hq8] at HR
          exact HR
        have e8 : decide (1 < q) = false := decide_eq_false hq8
        clear HR hq8
        go_wp2
        refine bodyPost_end (results_none rfl _ _ _) rfl ?_
        exact ⟨rfl, HR2.out⟩
end Go.Proofs.Ytikimmhkfjaijaa
namespace Go.Proofs.Ytikimmhkfjaijaa
open Go.RowKit Reg Go.ChangeShapes

/-- a stamp, as it is laid or read -/
def stF (S : Sf) (n : Int) : Sf × Int := (⟨(numF S.m n.toNat).1, S.bad⟩, wrap64 ((numF S.m n.toNat).2 : Nat))
theorem fstamp_any (w : World) (fb mb : Nat) (S : Sf) (n : Nat) (hF : Fd w fb mb S) (hc : w.cell? ⟨mb, 8, none⟩ = some (.int .i64 (n : Int))) (hn : n < 9223372036854775808) (hp : PtOk w fb S.m mb 8) (hfz : w.frozen? ⟨mb, 8, none⟩ = false) (hsz : S.m.sz ≤ 900000) :
    Calls Try.prog 56 #[.pointer (some ⟨fb, 0, none⟩)] w fun e w' =>
      e = .returned (.tuple #[]) ∧ Kp (Zf fb S.m) (w.setCell ⟨mb, 8, none⟩ (.int .i64 (stF S n).2)) w' ∧ Fd w' fb mb (stF S n).1 := by
  obtain ⟨R, hR⟩ : ∃ R : World → Prop, R = fun w' => Kp (Zf fb S.m) (w.setCell ⟨mb, 8, none⟩ (.int .i64 (stF S n).2)) w' ∧ Fd w' fb mb (stF S n).1 := ⟨_, rfl⟩
  have hgoal : (fun (e : Ending) (w' : World) => e = .returned (.tuple #[]) ∧ Kp (Zf fb S.m) (w.setCell ⟨mb, 8, none⟩ (.int .i64 (stF S n).2)) w' ∧ Fd w' fb mb (stF S n).1) = fun e w' => e = .returned (.tuple #[]) ∧ R w' := by rw [hR]
  rw [hgoal]
  have hlt : mb < w.heap.size := World.block_lt_of_cell? w _ hc
  have hlf := hF.lt
  have hb2 := (Below.refl w.heap.size w).alloc (Nat.le_refl _) (Obj.cells #[.int .u64 (n : Int)] 22)
  have hx2 := Blk.new w 22 #[.int .u64 (n : Int)]
  have hs2 : (w.alloc (.cells #[.int .u64 (n : Int)] 22)).heap.size = w.heap.size + 1 := by simp
  have hN := num1_any _ fb mb S w.heap.size 0 n (hF.keep hb2) (by rw [hx2.cell]; rfl) (by rw [p256]; omega) (pt_of hx2 (Nat.ne_of_gt hlf) (fun h => Nat.lt_irrefl _ (hF.near_lt h))) hsz
  rw [hs2] at hN
  have HN := Lib.hid hN
  have HFIN : Hid (∀ w3, Kp (Zf fb S.m) ((w.alloc (.cells #[.int .u64 (n : Int)] 22)).setCell ⟨w.heap.size, 0, none⟩ (.int .u64 ((numF S.m n).2 : Nat))) w3 → Fd w3 fb mb ⟨(numF S.m n).1, S.bad⟩ →
      Blk w3 w.heap.size 22 #[.int .u64 ((numF S.m n).2 : Nat)] ∧ w3.cell? ⟨mb, 8, none⟩ = some (.int .i64 (n : Int)) ∧ w3.frozen? ⟨mb, 8, none⟩ = false ∧ w3.cell? ⟨fb, 0, none⟩ = some (.pointer (some ⟨mb, 0, none⟩)) ∧
      ∀ w4, Below w3.heap.size w3 w4 → R (w4.setCell ⟨mb, 8, none⟩ (.int .i64 (wrap64 ((numF S.m n).2 : Nat))))) := Lib.hid fun w3 h3 hf3 => by
    have hzx : ¬ Zf fb S.m w.heap.size := fun h => Nat.lt_irrefl _ (Zf_lt hF h)
    have hz := hp.nz
    refine ⟨blk_after h3 hx2 hzx, cells_other h3 hz (cell_later hb2 hc) (.inl (Nat.ne_of_gt hlt)), ?_, by rw [hf3.1.cell]; rfl, fun w4 h4 => ?_⟩
    · rw [frozen_after h3 hz (Nat.lt_of_lt_of_le hlt hb2.size)]
      exact (World.frozen?_of_block (a := ⟨mb, 8, none⟩) (hb2.block mb hlt)).trans hfz
    · rw [hR]
      have hk : Kp (Zf fb S.m) w w4 := (((Kp.of_below hb2).fresh (p := ⟨w.heap.size, 0, none⟩) (Nat.le_refl _) _).trans h3).trans (Kp.of_below h4)
      refine ⟨hk.both _ _, ?_⟩
      obtain ⟨g1, g2, g3⟩ := hf3.keep h4
      refine ⟨g1.far (by exact hp.ne.symm) _, ?_, g3⟩
      refine Md.ok_kp (A := fun b => b = mb) g2 (Kp.at _ _ _) (fun b hb e => ?_)
      have hb : (numF S.m n).1.near b := hb
      rw [numF_near] at hb
      exact hp.far (e ▸ hb)
  have c1 : w.cell? ⟨fb, 0, none⟩ = some (.pointer (some ⟨mb, 0, none⟩)) := by rw [hF.1.cell]; rfl
  have hu : IntKind.u64.wrap (n : Int) = (n : Int) := IntWalk.u64_in _ (by omega)
  clear hF hp hfz hsz hlt hlf hgoal hR hb2 hx2 hs2 hN hn
  generalize hq : (numF S.m n).2 = q at *
  clear hq
  go_enter Try.func56, Try.ntmps56
  go_wp2_with fail
  refine HN.out.mono ?_
  rintro e w3 ⟨rfl, h3, hf3⟩
  obtain ⟨x3, y3, y3f, c3, hr⟩ := HFIN.out w3 h3 hf3
  have HX := Lib.hid x3
  have HC3 := Lib.hid c3
  have HY3 := Lib.hid (And.intro y3 y3f)
  have HR := Lib.hid hr
  clear h3 hf3 hr hc c1 hu x3 y3 y3f c3
  go_wp2_with fail
  refine wp_region_chain [8] (kv [(8, .is undef)]) (fun l w2 => match l with | [] => Below w3.heap.size w3 w2 | _ => ∃ w4, Below w3.heap.size w3 w4 ∧ w2 = w4.setCell ⟨mb, 8, none⟩ (.int .i64 (wrap64 (q : Int)))) (by kernel_rfl) (by kernel_rfl) (by kernel_rfl) (kv_inh _) (Below.drew (Below.refl _ _)) ?_
  intro ν hν
  have n8 : ν 8 = undef := hν 8
  clear hν
  refine ch_plain 0 1 6 (by rfl) rfl (by kernel_rfl) (by kernel_rfl) ?_
  apply Exists.intro
  refine ⟨fun st w2 hlo hhi hJ => ?_, ?_⟩
  · clear hlo hhi hJ
    go_simp
    exact And.intro rfl rfl
  simp only [Act.put, List.setIfInBounds_toArray, List.set_cons_succ, List.set_cons_zero, Nat.reduceAdd]
  refine ch_plain 0 1 6 (by rfl) rfl (by kernel_rfl) (by kernel_rfl) ?_
  apply Exists.intro
  refine ⟨fun st w2 hlo hhi hJ => ?_, ?_⟩
  · clear hlo hhi hJ
    go_simp
    exact And.intro rfl rfl
  simp only [Act.put, List.setIfInBounds_toArray, List.set_cons_succ, List.set_cons_zero, Nat.reduceAdd]
  refine ch_plain 0 1 6 (by rfl) rfl (by kernel_rfl) (by kernel_rfl) ?_
  apply Exists.intro
  refine ⟨fun st w2 hlo hhi hJ => ?_, ?_⟩
  · clear hlo hhi hJ
    go_simp
    exact And.intro rfl rfl
  simp only [Act.put, List.setIfInBounds_toArray, List.set_cons_succ, List.set_cons_zero, Nat.reduceAdd]
  refine ch_plain 0 0 6 (by rfl) rfl (by kernel_rfl) (by kernel_rfl) ?_
  apply Exists.intro
  refine ⟨fun st w2 hlo hhi hJ => ?_, ?_⟩
  · have hj : Below w3.heap.size w3 w2 := by
      obtain rfl : st = 0 := by omega
      exact hJ
    have y1 := cell_later hj HC3.out
    clear hj
    clear hlo hhi hJ
    go_simp
    exact And.intro rfl rfl
  simp only [Act.put, List.setIfInBounds_toArray, List.set_cons_succ, List.set_cons_zero, Nat.reduceAdd]
  refine ch_plain 0 0 6 (by rfl) rfl (by kernel_rfl) (by kernel_rfl) ?_
  apply Exists.intro
  refine ⟨fun st w2 hlo hhi hJ => ?_, ?_⟩
  · have hj : Below w3.heap.size w3 w2 := by
      obtain rfl : st = 0 := by omega
      exact hJ
    have y1 := (HX.out.keep hj).cell 0
    simp at y1
    clear hj
    clear hlo hhi hJ
    go_simp
    exact And.intro rfl rfl
  simp only [Act.put, List.setIfInBounds_toArray, List.set_cons_succ, List.set_cons_zero, Nat.reduceAdd]
  refine ch_plain 0 1 6 (by rfl) rfl (by kernel_rfl) (by kernel_rfl) ?_
  apply Exists.intro
  refine ⟨fun st w2 hlo hhi hJ => ?_, ?_⟩
  · clear hlo hhi hJ
    go_simp
    exact And.intro rfl rfl
  simp only [Act.put, List.setIfInBounds_toArray, List.set_cons_succ, List.set_cons_zero, Nat.reduceAdd]
  refine ch_plain 0 1 6 (by rfl) rfl (by kernel_rfl) (by kernel_rfl) ?_
  apply Exists.intro
  refine ⟨fun st w2 hlo hhi hJ => ?_, ?_⟩
  · clear hlo hhi hJ
    go_simp
    exact And.intro rfl rfl
  simp only [Act.put, List.setIfInBounds_toArray, List.set_cons_succ, List.set_cons_zero, Nat.reduceAdd]
  refine ch_plain 0 1 6 (by rfl) rfl (by kernel_rfl) (by kernel_rfl) ?_
  apply Exists.intro
  refine ⟨fun st w2 hlo hhi hJ => ?_, ?_⟩
  · clear hlo hhi hJ
    go_simp
    exact And.intro rfl rfl
  simp only [Act.put, List.setIfInBounds_toArray, List.set_cons_succ, List.set_cons_zero, Nat.reduceAdd]
  refine ch_special 0 6 (by rfl) rfl (by decide) (by kernel_rfl) (fun w2 hJ => ?_) ?_
  · have hj : Below w3.heap.size w3 w2 := hJ
    have y1 := cell_later hj HY3.out.1
    have y2 : w2.frozen? ⟨mb, 8, none⟩ = false := (World.frozen?_of_block (a := ⟨mb, 8, none⟩) (hj.block mb (World.block_lt_of_cell? w3 _ HY3.out.1))).trans HY3.out.2
    go_simp
    rw [IntWalk.i64_left]
    exact ⟨rfl, w2, hj, rfl⟩
  rw [n8]
  simp only [Act.put, Nat.reduceAdd]
  refine ch_nil (fun w5 hJ => ?_)
  obtain ⟨w4, hb4, hw5⟩ : ∃ w4, Below w3.heap.size w3 w4 ∧ w5 = w4.setCell ⟨mb, 8, none⟩ (.int .i64 (wrap64 (q : Int))) := hJ
  clear n8
  subst hw5
  go_wp2
  refine bodyPost_end (results_none rfl _ _ _) rfl ?_
  exact ⟨rfl, HR.out w4 hb4⟩
/-- a guid, as it is laid or read -/
def gdF (S : Sf) (a b : Nat) : Sf × (Nat × Nat) := (⟨(numF (numF S.m a).1 b).1, S.bad⟩, ((numF S.m a).2, (numF (numF S.m a).1 b).2))
set_option maxRecDepth 100000 in
theorem fguid_any (w : World) (fb mb : Nat) (S : Sf) (p o x y : Nat) (hF : Fd w fb mb S) (hc : w.cell? ⟨p, o, none⟩ = some (.int .u64 (x : Int))) (hc2 : w.cell? ⟨p, o + 1, none⟩ = some (.int .u64 (y : Int))) (hx : x < 256 ^ 8) (hy : y < 256 ^ 8) (hp : PtOk w fb S.m p o) (hp2 : PtOk w fb S.m p (o + 1)) (hsz : S.m.sz ≤ 900000) :
    Calls Try.prog 57 #[.pointer (some ⟨fb, 0, none⟩), .pointer (some ⟨p, o, none⟩)] w fun e w' =>
      e = .returned (.tuple #[]) ∧ Kp (Zf fb S.m) ((w.setCell ⟨p, o, none⟩ (.int .u64 ((gdF S x y).2.1 : Nat))).setCell ⟨p, o + 1, none⟩ (.int .u64 ((gdF S x y).2.2 : Nat))) w' ∧ Fd w' fb mb (gdF S x y).1 := by
  obtain ⟨R, hR⟩ : ∃ R : World → Prop, R = fun w' => Kp (Zf fb S.m) ((w.setCell ⟨p, o, none⟩ (.int .u64 ((gdF S x y).2.1 : Nat))).setCell ⟨p, o + 1, none⟩ (.int .u64 ((gdF S x y).2.2 : Nat))) w' ∧ Fd w' fb mb (gdF S x y).1 := ⟨_, rfl⟩
  have hgoal : (fun (e : Ending) (w' : World) => e = .returned (.tuple #[]) ∧ Kp (Zf fb S.m) ((w.setCell ⟨p, o, none⟩ (.int .u64 ((gdF S x y).2.1 : Nat))).setCell ⟨p, o + 1, none⟩ (.int .u64 ((gdF S x y).2.2 : Nat))) w' ∧ Fd w' fb mb (gdF S x y).1) = fun e w' => e = .returned (.tuple #[]) ∧ R w' := by rw [hR]
  rw [hgoal]
  have HN : Hid (∀ (la : Nat) (w1 : World), Below w.heap.size w w1 → w.heap.size ≤ la → Blk w1 la 85 #[.pointer (some ⟨p, o, none⟩), .pointer (some ⟨p, o + 1, none⟩)] →
      Calls Try.prog 36 #[.pointer (some ⟨fb, 0, none⟩), .slice (some ⟨la, 0, none⟩) 2 2] w1 fun e w' => e = .returned (.tuple #[]) ∧ R w') := Lib.hid fun la w1 hb hla hA => by
    rw [hR]
    exact num2_any w fb mb S p o x y hF hc hc2 hx hy hp hp2 hsz la w1 hb hla hA
  clear hF hc hc2 hx hy hp hp2 hsz hgoal hR
  go_enter Try.func57, Try.ntmps57
  go_wp2_with fail
  refine wp_region_chain [7, 8] (kv [(7, .sl 2), (8, .is (.tuple #[]))]) (fun l w2 => match l with | [] => Below w.heap.size w w2 | [u] => Below w.heap.size w w2 ∧ ∃ la, u = .slice (some ⟨la, 0, none⟩) 2 2 ∧ w.heap.size ≤ la ∧ Blk w2 la 85 #[.pointer (some ⟨p, o, none⟩), .pointer (some ⟨p, o + 1, none⟩)] | _ => R w2) (by kernel_rfl) (by kernel_rfl) (by kernel_rfl) (kv_inh _) (Below.drew (Below.refl _ _)) ?_
  intro ν hν
  obtain ⟨g7, n7⟩ : ∃ g, ν 7 = .slice (some ⟨g, 0, none⟩) 2 2 := hν 7
  have n8 : ν 8 = .tuple #[] := hν 8
  clear hν
  refine ch_plain 0 2 6 (by rfl) rfl (by kernel_rfl) (by kernel_rfl) ?_
  apply Exists.intro
  refine ⟨fun st w2 hlo hhi hJ => ?_, ?_⟩
  · clear hlo hhi hJ
    go_simp
    exact And.intro rfl rfl
  simp only [Act.put, List.setIfInBounds_toArray, List.set_cons_succ, List.set_cons_zero, Nat.reduceAdd]
  refine ch_plain 0 2 6 (by rfl) rfl (by kernel_rfl) (by kernel_rfl) ?_
  apply Exists.intro
  refine ⟨fun st w2 hlo hhi hJ => ?_, ?_⟩
  · clear hlo hhi hJ
    go_simp
    exact And.intro rfl rfl
  simp only [Act.put, List.setIfInBounds_toArray, List.set_cons_succ, List.set_cons_zero, Nat.reduceAdd]
  refine ch_plain 0 2 6 (by rfl) rfl (by kernel_rfl) (by kernel_rfl) ?_
  apply Exists.intro
  refine ⟨fun st w2 hlo hhi hJ => ?_, ?_⟩
  · clear hlo hhi hJ
    go_simp
    exact And.intro rfl rfl
  simp only [Act.put, List.setIfInBounds_toArray, List.set_cons_succ, List.set_cons_zero, Nat.reduceAdd]
  refine ch_plain 0 2 6 (by rfl) rfl (by kernel_rfl) (by kernel_rfl) ?_
  apply Exists.intro
  refine ⟨fun st w2 hlo hhi hJ => ?_, ?_⟩
  · clear hlo hhi hJ
    go_simp
    exact And.intro rfl rfl
  simp only [Act.put, List.setIfInBounds_toArray, List.set_cons_succ, List.set_cons_zero, Nat.reduceAdd]
  refine ch_plain 0 2 6 (by rfl) rfl (by kernel_rfl) (by kernel_rfl) ?_
  apply Exists.intro
  refine ⟨fun st w2 hlo hhi hJ => ?_, ?_⟩
  · clear hlo hhi hJ
    go_simp
    exact And.intro rfl rfl
  simp only [Act.put, List.setIfInBounds_toArray, List.set_cons_succ, List.set_cons_zero, Nat.reduceAdd]
  refine ch_plain 0 2 6 (by rfl) rfl (by kernel_rfl) (by kernel_rfl) ?_
  apply Exists.intro
  refine ⟨fun st w2 hlo hhi hJ => ?_, ?_⟩
  · clear hlo hhi hJ
    go_simp
    exact And.intro rfl rfl
  simp only [Act.put, List.setIfInBounds_toArray, List.set_cons_succ, List.set_cons_zero, Nat.reduceAdd]
  refine ch_plain 0 2 6 (by rfl) rfl (by kernel_rfl) (by kernel_rfl) ?_
  apply Exists.intro
  refine ⟨fun st w2 hlo hhi hJ => ?_, ?_⟩
  · clear hlo hhi hJ
    go_simp
    exact And.intro rfl rfl
  simp only [Act.put, List.setIfInBounds_toArray, List.set_cons_succ, List.set_cons_zero, Nat.reduceAdd]
  refine ch_special 0 6 (by rfl) rfl (by decide) (by kernel_rfl) (fun w2 hJ => ?_) ?_
  · have hj : Below w.heap.size w w2 := hJ
    go_simp
    exact ⟨⟨_, rfl⟩, hj.alloc hj.size _, _, rfl, hj.size, Blk.new _ _ _⟩
  rw [n7]
  simp only [Act.put, List.setIfInBounds_toArray, List.set_cons_succ, List.set_cons_zero, Nat.reduceAdd]
  refine ch_special 1 6 (by rfl) rfl (by decide) (by kernel_rfl) (fun w2 hJ => ?_) ?_
  · have hj : Below w.heap.size w w2 ∧ ∃ la, ν 7 = .slice (some ⟨la, 0, none⟩) 2 2 ∧ w.heap.size ≤ la ∧ Blk w2 la 85 #[.pointer (some ⟨p, o, none⟩), .pointer (some ⟨p, o + 1, none⟩)] := hJ
    rw [n7] at hj
    obtain ⟨h1, la, hla, h2, h3⟩ := hj
    simp only [Value.slice.injEq, Option.some.injEq, Addr.mk.injEq, and_true] at hla
    obtain rfl := hla
    go_simp
    refine (HN.out g7 w2 h1 h2 h3).mono ?_
    rintro e w3 ⟨rfl, hr⟩
    exact ⟨_, rfl, rfl, hr⟩
  rw [n8]
  simp only [Act.put, Nat.reduceAdd]
  refine ch_nil (fun w9 hJ => ?_)
  have hR9 : R w9 := hJ
  clear hJ n7 n8
  go_wp2
  refine bodyPost_end (results_none rfl _ _ _) rfl ?_
  exact ⟨rfl, hR9⟩
end Go.Proofs.Ytikimmhkfjaijaa
namespace Go.Proofs.Ytikimmhkfjaijaa
open Go.RowKit Reg Go.ChangeShapes

/-- does a list get room? -/
def freshF (S : Sf) (k : Nat) : Bool := S.m.isRd && !(intF S k).1.bad
def szN (S : Sf) (k : Nat) : Nat := (intF S k).2.toNat
theorem intF_bad {S : Sf} {k : Nat} (h : (intF S k).1.bad = false) : (numF S.m k).2 ≤ 8192 ∧ (intF S k).2 = ((numF S.m k).2 : Nat) := by
  have h2 : ¬ 8192 < (numF S.m k).2 := by
    simp only [intF, Int.toNat_natCast, Bool.or_eq_false_iff, decide_eq_false_iff_not] at h
    exact h.2
  refine ⟨by omega, ?_⟩
  show wrap64 ((numF S.m k).2 : Nat) = _
  exact IntWalk.wrap64_in _ (by omega)
theorem fresh_n {S : Sf} {k : Nat} (h : freshF S k = true) : szN S k ≤ 8192 ∧ (intF S k).2 = (szN S k : Nat) := by
  simp only [freshF, Bool.and_eq_true, Bool.not_eq_true'] at h
  have h2 := intF_bad h.2
  unfold szN
  rw [h2.2]
  exact ⟨by simpa using h2.1, by simp⟩

/-- room that has just been made -/
def madeG (n : Nat) : Array Value := madeCells #[.int .u64 0, .int .u64 0] (n * 2)
theorem madeG_run (n : Nat) (hn : n ≤ 8192) (w : World) : (Instr.makeSlice 24 (.int .i64 (n : Int)) (.int .i64 (n : Int))).run Try.prog w = .ok (.slice (some ⟨w.heap.size, 0, none⟩) n n) (w.alloc (.cells (madeG n) 28)) := by
  have hinfo : (Try.prog.info? 28).map (fun i => (i.zero, i.size, i.bytes)) = some (some (.agg #[.int .u64 0, .int .u64 0]), 2, 16) := by kernel_rfl
  obtain ⟨i, hi, hz0, hz1, hz2⟩ := info_parts hinfo
  have h := run_make (P := Try.prog) w 24 28 i _ Try.underlying24 hi hz0 .i64 .i64 (n : Int) (n : Int) (by omega) (Int.le_refl _) (by rw [hz2]; omega) (by omega)
  rw [hz1] at h
  simp only [Int.toNat_natCast] at h
  exact h
theorem fsizedG_any (w : World) (fb mb : Nat) (S : Sf) (p o k c : Nat) (a : Option Addr) (hF : Fd w fb mb S) (hc : w.cell? ⟨p, o, none⟩ = some (.slice a k c)) (hk : k ≤ 8192) (hp : PtOk w fb S.m p o) (hfz : w.frozen? ⟨p, o, none⟩ = false) (hsz : S.m.sz ≤ 900000) :
    Calls Try.prog 59 #[.pointer (some ⟨fb, 0, none⟩), .pointer (some ⟨p, o, none⟩)] w fun e w' =>
      ∃ sl', e = .returned sl' ∧ Kp (Zf fb S.m) (w.setCell ⟨p, o, none⟩ sl') w' ∧ Fd w' fb mb (intF S k).1 ∧
        ((freshF S k = false ∧ sl' = .slice a k c) ∨ (freshF S k = true ∧ ∃ g, sl' = .slice (some ⟨g, 0, none⟩) (szN S k) (szN S k) ∧ w.heap.size ≤ g ∧ Blk w' g 28 (madeG (szN S k)))) := by
  obtain ⟨R, hR⟩ : ∃ R : Ending → World → Prop, R = fun e w' => ∃ sl', e = .returned sl' ∧ Kp (Zf fb S.m) (w.setCell ⟨p, o, none⟩ sl') w' ∧ Fd w' fb mb (intF S k).1 ∧
        ((freshF S k = false ∧ sl' = .slice a k c) ∨ (freshF S k = true ∧ ∃ g, sl' = .slice (some ⟨g, 0, none⟩) (szN S k) (szN S k) ∧ w.heap.size ≤ g ∧ Blk w' g 28 (madeG (szN S k)))) := ⟨_, rfl⟩
  rw [← hR]
  have hlt : p < w.heap.size := World.block_lt_of_cell? w _ hc
  have hlf := hF.lt
  have hne := hp.ne
  have hb2 := (Below.refl w.heap.size w).alloc (Nat.le_refl _) (Obj.cells #[.int .i64 (k : Int)] 3)
  have hx2 := Blk.new w 3 #[.int .i64 (k : Int)]
  have hs2 : (w.alloc (.cells #[.int .i64 (k : Int)] 3)).heap.size = w.heap.size + 1 := by simp
  have hN := fints_any _ fb mb S w.heap.size 0 k (hF.keep hb2) (by rw [hx2.cell]; rfl) hk (pt_of hx2 (Nat.ne_of_gt hlf) (fun h => Nat.lt_irrefl _ (hF.near_lt h))) (hx2.frozen 0) hsz
  rw [hs2] at hN
  have HN := Lib.hid hN
  have HFIN : Hid (∀ w3, Kp (Zf fb S.m) ((w.alloc (.cells #[.int .i64 (k : Int)] 3)).setCell ⟨w.heap.size, 0, none⟩ (.int .i64 (intF S k).2)) w3 → Fd w3 fb mb (intF S k).1 →
      w3.cell? ⟨w.heap.size, 0, none⟩ = some (.int .i64 (intF S k).2) ∧ w3.cell? ⟨p, o, none⟩ = some (.slice a k c) ∧ w3.frozen? ⟨p, o, none⟩ = false ∧
      w3.cell? ⟨fb, 2, none⟩ = some (intF S k).1.m.inV ∧ w3.cell? ⟨fb, 3, none⟩ = some (.bool (intF S k).1.bad) ∧ p < w3.heap.size ∧
      (freshF S k = false → R (.returned (.slice a k c)) w3) ∧
      (freshF S k = true → R (.returned (.slice (some ⟨w3.heap.size, 0, none⟩) (szN S k) (szN S k))) ((w3.alloc (.cells (madeG (szN S k)) 28)).setCell ⟨p, o, none⟩ (.slice (some ⟨w3.heap.size, 0, none⟩) (szN S k) (szN S k))))) := Lib.hid fun w3 h3 hf3 => by
    have hzx : ¬ Zf fb S.m w.heap.size := fun h => Nat.lt_irrefl _ (Zf_lt hF h)
    have hz := hp.nz
    have hkp : Kp (Zf fb S.m) w w3 := ((Kp.of_below hb2).fresh (p := ⟨w.heap.size, 0, none⟩) (Nat.le_refl _) _).trans h3
    have h5 := cells_other h3 hz (cell_later hb2 hc) (.inl (Nat.ne_of_gt hlt))
    refine ⟨cells_after h3 hzx (by rw [hx2.cell]; rfl), h5, ?_, by rw [hf3.1.cell]; rfl, by rw [hf3.1.cell]; rfl, World.block_lt_of_cell? w3 _ h5, fun hfr => ?_, fun hfr => ?_⟩
    · rw [frozen_after h3 hz (Nat.lt_of_lt_of_le hlt hb2.size)]
      exact (World.frozen?_of_block (a := ⟨p, o, none⟩) (hb2.block p hlt)).trans hfz
    · rw [hR]
      refine ⟨_, rfl, ?_, hf3, .inl ⟨hfr, rfl⟩⟩
      rw [setCell_same hc]
      exact hkp
    · rw [hR]
      have hal := (Below.refl w3.heap.size w3).alloc (Nat.le_refl _) (Obj.cells (madeG (szN S k)) 28)
      refine ⟨_, rfl, (hkp.grow _).both _ _, ?_, .inr ⟨hfr, w3.heap.size, rfl, hkp.size, (Blk.new _ _ _).far (by have := World.block_lt_of_cell? w3 _ h5; exact Nat.ne_of_gt this) _⟩⟩
      obtain ⟨g1, g2, g3⟩ := hf3.keep hal
      refine ⟨g1.far (by exact hne.symm) _, ?_, g3⟩
      refine Md.ok_kp (A := fun b => b = p) g2 (Kp.at _ _ _) (fun b hb e => ?_)
      rw [intF_near] at hb
      exact hp.far (e ▸ hb)
  have HFR := Lib.hid (@fresh_n S k)
  have HMK := Lib.hid (fun hn => madeG_run (szN S k) hn)
  have hfr : freshF S k = ((intF S k).1.m.isRd && !(intF S k).1.bad) := by
    unfold freshF
    rw [show (intF S k).1.m.isRd = S.m.isRd from numF_isRd _ _]
  clear hF hp hfz hsz hlt hlf hR hb2 hx2 hs2 hN hk
  generalize (intF S k).1 = S1 at *
  generalize szN S k = N at *
  generalize (intF S k).2 = z at *
  generalize freshF S k = fr at *
  obtain ⟨m1, bad1⟩ := S1
  dsimp only at *
  go_enter Try.func59, Try.ntmps59
  go_wp2_with fail
  refine HN.out.mono ?_
  rintro e w3 ⟨rfl, h3, hf3⟩
  obtain ⟨x3, y3, y3f, c2, c3, hpl, hr0, hr1⟩ := HFIN.out w3 h3 hf3
  have HR0 := Lib.hid hr0
  have HR1 := Lib.hid hr1
  have hpl2 : p ≠ w3.heap.size := Nat.ne_of_lt hpl
  clear h3 hf3 hr0 hr1 hc HFIN HN hpl
  cases m1 with
  | lay s =>
    have hr : R (.returned (.slice a k c)) w3 := HR0.out (by rw [hfr]; rfl)
    have HR := Lib.hid hr
    have c2' : w3.cell? ⟨fb, 2, none⟩ = some (.pointer none) := c2
    clear hr HR0 HR1 c2 hfr
    go_wp2
    exact HR.out
  | rd r st =>
    have c2' : w3.cell? ⟨fb, 2, none⟩ = some (.pointer (some ⟨r, 0, none⟩)) := c2
    cases bad1 with
    | true =>
      have hr : R (.returned (.slice a k c)) w3 := HR0.out (by rw [hfr]; rfl)
      have HR := Lib.hid hr
      clear hr HR0 HR1 c2 hfr
      go_wp2
      exact HR.out
    | false =>
      have hfr1 : fr = true := by rw [hfr]; rfl
      obtain ⟨hN, hz⟩ := HFR.out hfr1
      have HR := Lib.hid (HR1.out hfr1)
      have hmk := HMK.out hN
      subst hz
      have i0 : wrap64 (N : Int) = (N : Int) := IntWalk.wrap64_in _ (by omega)
      have hal := (Below.refl w3.heap.size w3).alloc (Nat.le_refl _) (Obj.cells (madeG N) 28)
      have y4 := cell_later hal y3
      have y4f : (w3.alloc (.cells (madeG N) 28)).frozen? ⟨p, o, none⟩ = false := (World.frozen?_of_block (a := ⟨p, o, none⟩) (hal.block p (World.block_lt_of_cell? w3 _ y3))).trans y3f
      clear HR0 HR1 c2 hfr HMK HFR hN hal
      go_wp2
      exact HR.out

/-- room that has just been made -/
def madeE (n : Nat) : Array Value := madeCells #[.int .u64 0, .int .i64 0, .int .u64 0, .int .u64 0] (n * 4)
theorem madeE_run (n : Nat) (hn : n ≤ 8192) (w : World) : (Instr.makeSlice 23 (.int .i64 (n : Int)) (.int .i64 (n : Int))).run Try.prog w = .ok (.slice (some ⟨w.heap.size, 0, none⟩) n n) (w.alloc (.cells (madeE n) 50)) := by
  have hinfo : (Try.prog.info? 50).map (fun i => (i.zero, i.size, i.bytes)) = some (some (.agg #[.int .u64 0, .int .i64 0, .int .u64 0, .int .u64 0]), 4, 32) := by kernel_rfl
  obtain ⟨i, hi, hz0, hz1, hz2⟩ := info_parts hinfo
  have h := run_make (P := Try.prog) w 23 50 i _ Try.underlying23 hi hz0 .i64 .i64 (n : Int) (n : Int) (by omega) (Int.le_refl _) (by rw [hz2]; omega) (by omega)
  rw [hz1] at h
  simp only [Int.toNat_natCast] at h
  exact h
theorem fsizedE_any (w : World) (fb mb : Nat) (S : Sf) (p o k c : Nat) (a : Option Addr) (hF : Fd w fb mb S) (hc : w.cell? ⟨p, o, none⟩ = some (.slice a k c)) (hk : k ≤ 8192) (hp : PtOk w fb S.m p o) (hfz : w.frozen? ⟨p, o, none⟩ = false) (hsz : S.m.sz ≤ 900000) :
    Calls Try.prog 69 #[.pointer (some ⟨fb, 0, none⟩), .pointer (some ⟨p, o, none⟩)] w fun e w' =>
      ∃ sl', e = .returned sl' ∧ Kp (Zf fb S.m) (w.setCell ⟨p, o, none⟩ sl') w' ∧ Fd w' fb mb (intF S k).1 ∧
        ((freshF S k = false ∧ sl' = .slice a k c) ∨ (freshF S k = true ∧ ∃ g, sl' = .slice (some ⟨g, 0, none⟩) (szN S k) (szN S k) ∧ w.heap.size ≤ g ∧ Blk w' g 50 (madeE (szN S k)))) := by
  obtain ⟨R, hR⟩ : ∃ R : Ending → World → Prop, R = fun e w' => ∃ sl', e = .returned sl' ∧ Kp (Zf fb S.m) (w.setCell ⟨p, o, none⟩ sl') w' ∧ Fd w' fb mb (intF S k).1 ∧
        ((freshF S k = false ∧ sl' = .slice a k c) ∨ (freshF S k = true ∧ ∃ g, sl' = .slice (some ⟨g, 0, none⟩) (szN S k) (szN S k) ∧ w.heap.size ≤ g ∧ Blk w' g 50 (madeE (szN S k)))) := ⟨_, rfl⟩
  rw [← hR]
  have hlt : p < w.heap.size := World.block_lt_of_cell? w _ hc
  have hlf := hF.lt
  have hne := hp.ne
  have hb2 := (Below.refl w.heap.size w).alloc (Nat.le_refl _) (Obj.cells #[.int .i64 (k : Int)] 3)
  have hx2 := Blk.new w 3 #[.int .i64 (k : Int)]
  have hs2 : (w.alloc (.cells #[.int .i64 (k : Int)] 3)).heap.size = w.heap.size + 1 := by simp
  have hN := fints_any _ fb mb S w.heap.size 0 k (hF.keep hb2) (by rw [hx2.cell]; rfl) hk (pt_of hx2 (Nat.ne_of_gt hlf) (fun h => Nat.lt_irrefl _ (hF.near_lt h))) (hx2.frozen 0) hsz
  rw [hs2] at hN
  have HN := Lib.hid hN
  have HFIN : Hid (∀ w3, Kp (Zf fb S.m) ((w.alloc (.cells #[.int .i64 (k : Int)] 3)).setCell ⟨w.heap.size, 0, none⟩ (.int .i64 (intF S k).2)) w3 → Fd w3 fb mb (intF S k).1 →
      w3.cell? ⟨w.heap.size, 0, none⟩ = some (.int .i64 (intF S k).2) ∧ w3.cell? ⟨p, o, none⟩ = some (.slice a k c) ∧ w3.frozen? ⟨p, o, none⟩ = false ∧
      w3.cell? ⟨fb, 2, none⟩ = some (intF S k).1.m.inV ∧ w3.cell? ⟨fb, 3, none⟩ = some (.bool (intF S k).1.bad) ∧ p < w3.heap.size ∧
      (freshF S k = false → R (.returned (.slice a k c)) w3) ∧
      (freshF S k = true → R (.returned (.slice (some ⟨w3.heap.size, 0, none⟩) (szN S k) (szN S k))) ((w3.alloc (.cells (madeE (szN S k)) 50)).setCell ⟨p, o, none⟩ (.slice (some ⟨w3.heap.size, 0, none⟩) (szN S k) (szN S k))))) := Lib.hid fun w3 h3 hf3 => by
    have hzx : ¬ Zf fb S.m w.heap.size := fun h => Nat.lt_irrefl _ (Zf_lt hF h)
    have hz := hp.nz
    have hkp : Kp (Zf fb S.m) w w3 := ((Kp.of_below hb2).fresh (p := ⟨w.heap.size, 0, none⟩) (Nat.le_refl _) _).trans h3
    have h5 := cells_other h3 hz (cell_later hb2 hc) (.inl (Nat.ne_of_gt hlt))
    refine ⟨cells_after h3 hzx (by rw [hx2.cell]; rfl), h5, ?_, by rw [hf3.1.cell]; rfl, by rw [hf3.1.cell]; rfl, World.block_lt_of_cell? w3 _ h5, fun hfr => ?_, fun hfr => ?_⟩
    · rw [frozen_after h3 hz (Nat.lt_of_lt_of_le hlt hb2.size)]
      exact (World.frozen?_of_block (a := ⟨p, o, none⟩) (hb2.block p hlt)).trans hfz
    · rw [hR]
      refine ⟨_, rfl, ?_, hf3, .inl ⟨hfr, rfl⟩⟩
      rw [setCell_same hc]
      exact hkp
    · rw [hR]
      have hal := (Below.refl w3.heap.size w3).alloc (Nat.le_refl _) (Obj.cells (madeE (szN S k)) 50)
      refine ⟨_, rfl, (hkp.grow _).both _ _, ?_, .inr ⟨hfr, w3.heap.size, rfl, hkp.size, (Blk.new _ _ _).far (by have := World.block_lt_of_cell? w3 _ h5; exact Nat.ne_of_gt this) _⟩⟩
      obtain ⟨g1, g2, g3⟩ := hf3.keep hal
      refine ⟨g1.far (by exact hne.symm) _, ?_, g3⟩
      refine Md.ok_kp (A := fun b => b = p) g2 (Kp.at _ _ _) (fun b hb e => ?_)
      rw [intF_near] at hb
      exact hp.far (e ▸ hb)
  have HFR := Lib.hid (@fresh_n S k)
  have HMK := Lib.hid (fun hn => madeE_run (szN S k) hn)
  have hfr : freshF S k = ((intF S k).1.m.isRd && !(intF S k).1.bad) := by
    unfold freshF
    rw [show (intF S k).1.m.isRd = S.m.isRd from numF_isRd _ _]
  clear hF hp hfz hsz hlt hlf hR hb2 hx2 hs2 hN hk
  generalize (intF S k).1 = S1 at *
  generalize szN S k = N at *
  generalize (intF S k).2 = z at *
  generalize freshF S k = fr at *
  obtain ⟨m1, bad1⟩ := S1
  dsimp only at *
  go_enter Try.func69, Try.ntmps69
  go_wp2_with fail
  refine HN.out.mono ?_
  rintro e w3 ⟨rfl, h3, hf3⟩
  obtain ⟨x3, y3, y3f, c2, c3, hpl, hr0, hr1⟩ := HFIN.out w3 h3 hf3
  have HR0 := Lib.hid hr0
  have HR1 := Lib.hid hr1
  have hpl2 : p ≠ w3.heap.size := Nat.ne_of_lt hpl
  clear h3 hf3 hr0 hr1 hc HFIN HN hpl
  cases m1 with
  | lay s =>
    have hr : R (.returned (.slice a k c)) w3 := HR0.out (by rw [hfr]; rfl)
    have HR := Lib.hid hr
    have c2' : w3.cell? ⟨fb, 2, none⟩ = some (.pointer none) := c2
    clear hr HR0 HR1 c2 hfr
    go_wp2
    exact HR.out
  | rd r st =>
    have c2' : w3.cell? ⟨fb, 2, none⟩ = some (.pointer (some ⟨r, 0, none⟩)) := c2
    cases bad1 with
    | true =>
      have hr : R (.returned (.slice a k c)) w3 := HR0.out (by rw [hfr]; rfl)
      have HR := Lib.hid hr
      clear hr HR0 HR1 c2 hfr
      go_wp2
      exact HR.out
    | false =>
      have hfr1 : fr = true := by rw [hfr]; rfl
      obtain ⟨hN, hz⟩ := HFR.out hfr1
      have HR := Lib.hid (HR1.out hfr1)
      have hmk := HMK.out hN
      subst hz
      have i0 : wrap64 (N : Int) = (N : Int) := IntWalk.wrap64_in _ (by omega)
      have hal := (Below.refl w3.heap.size w3).alloc (Nat.le_refl _) (Obj.cells (madeE N) 50)
      have y4 := cell_later hal y3
      have y4f : (w3.alloc (.cells (madeE N) 50)).frozen? ⟨p, o, none⟩ = false := (World.frozen?_of_block (a := ⟨p, o, none⟩) (hal.block p (World.block_lt_of_cell? w3 _ y3))).trans y3f
      clear HR0 HR1 c2 hfr HMK HFR hN hal
      go_wp2
      exact HR.out
end Go.Proofs.Ytikimmhkfjaijaa
