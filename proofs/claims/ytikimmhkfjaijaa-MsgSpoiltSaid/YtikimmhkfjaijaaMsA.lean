/-
  MESSAGES: a state of laying or reading, plainly and in memory; nums (printed by wip/gen-msga.py).
-/
import Derived.Test.YtikimmhkfjaijaaQStmM
import Derived.Test.YtikimmhkfjaijaaChain
import Derived.Laws.IdiomCopy
namespace Go.Proofs.Ytikimmhkfjaijaa
open Go.RowKit Reg Go.ChangeShapes

/-- laying: what is laid; reading: the reader's block, and what is left -/
inductive Md
  | lay (s : List UInt8)
  | rd (r : Nat) (st : Wire.St)
structure Sf where
  m : Md
  bad : Bool
namespace Md
def out : Md → ByteArray
  | .lay s => strOf s
  | .rd _ _ => ByteArray.empty
def inV : Md → Value
  | .lay _ => .pointer none
  | .rd r _ => .pointer (some ⟨r, 0, none⟩)
def ok (w : World) : Md → Prop
  | .lay _ => True
  | .rd r st => Rdr w r st
def sz : Md → Nat
  | .lay s => s.length
  | .rd _ _ => 0
/-- the reader's block -/
def at_ : Md → Nat → Prop
  | .lay _, _ => False
  | .rd r _, b => b = r
/-- the reader's blocks -/
def near : Md → Nat → Prop
  | .lay _, _ => False
  | .rd r _, b => b = r ∨ b + 1 = r
def isRd : Md → Bool
  | .lay _ => false
  | .rd _ _ => true
end Md
/-- a number is laid, or read -/
def numF : Md → Nat → Md × Nat
  | .lay s, n => (.lay (s ++ Wire.putNum n), n)
  | .rd r st, _ => (.rd r (Wire.num st).2, (Wire.num st).1)
theorem numF_sz (m : Md) (n : Nat) : (numF m n).1.sz ≤ m.sz + 9 := by
  cases m with
  | lay s => have := Wire.putNum_length n; simp only [numF, Md.sz, List.length_append]; omega
  | rd r st => simp [numF, Md.sz]
theorem numF_near (m : Md) (n : Nat) : (numF m n).1.near = m.near := by cases m <;> rfl
theorem numF_at (m : Md) (n : Nat) : (numF m n).1.at_ = m.at_ := by cases m <;> rfl
theorem numF_isRd (m : Md) (n : Nat) : (numF m n).1.isRd = m.isRd := by cases m <;> rfl
theorem numF_inV (m : Md) (n : Nat) : (numF m n).1.inV = m.inV := by cases m <;> rfl
theorem numF_lt (m : Md) (n : Nat) (h : n < 256 ^ 8) : (numF m n).2 < 256 ^ 8 := by
  cases m with
  | lay s => exact h
  | rd r st => exact num_lt st
/-- block fb is 'fields' of the message in block mb -/
def Fd (w : World) (fb mb : Nat) (S : Sf) : Prop :=
  Blk w fb 68 #[.pointer (some ⟨mb, 0, none⟩), .string S.m.out, S.m.inV, .bool S.bad] ∧ S.m.ok w ∧ ¬ S.m.near fb
/-- what turns, of what was there, beside what is pointed at -/
def Zf (fb : Nat) (m : Md) (b : Nat) : Prop := b = fb ∨ m.at_ b
theorem at_near {m : Md} {b : Nat} (h : m.at_ b) : m.near b := by
  cases m with
  | lay s => exact h
  | rd r st => exact .inl h
theorem Rdr.kp {w w' : World} {r : Nat} {st : Wire.St} {A : Nat → Prop} (h : Rdr w r st) (hk : Kp A w w') (hA : ∀ b, b = r ∨ b + 1 = r → ¬ A b) : Rdr w' r st := by
  cases st with
  | none => obtain ⟨v, b⟩ := h; exact ⟨v, hk.blk b (hA r (.inl rfl))⟩
  | some l =>
    obtain ⟨g, off, c, b, h1, h2, h3, hx⟩ := h
    have hlt := b.lt
    refine ⟨g, off, c, hk.blk b (hA r (.inl rfl)), h1, h2, h3, fun j u hu => ?_⟩
    rw [World.cell?_of_block (hk.2 g (by omega) (hA g (.inr h1)))]
    exact hx j u hu
theorem Md.ok_kp {w w' : World} {A : Nat → Prop} {m : Md} (h : m.ok w) (hk : Kp A w w') (hA : ∀ b, m.near b → ¬ A b) : m.ok w' := by
  cases m with
  | lay s => trivial
  | rd r st => exact Rdr.kp h hk hA
theorem Fd.kp {w w' : World} {A : Nat → Prop} {fb mb : Nat} {S : Sf} (h : Fd w fb mb S) (hk : Kp A w w') (hA : ∀ b, b = fb ∨ S.m.near b → ¬ A b) : Fd w' fb mb S :=
  ⟨hk.blk h.1 (hA fb (.inl rfl)), Md.ok_kp h.2.1 hk (fun b hb => hA b (.inr hb)), h.2.2⟩
theorem Fd.keep {w w' : World} {fb mb : Nat} {S : Sf} (h : Fd w fb mb S) (hb : Below w.heap.size w w') : Fd w' fb mb S :=
  h.kp (A := fun _ => False) (Kp.of_below hb) fun _ _ h => h
theorem Kp.at (w : World) (p : Addr) (u : Value) : Kp (· = p.block) w (w.setCell p u) := ⟨(Below.refl _ _).setCell (Nat.zero_le _) u, fun b _ h => Below.heap_setCell w p u b h⟩
theorem setCell_same {w : World} {p : Addr} {u : Value} (h : w.cell? p = some u) : w.setCell p u = w := by
  obtain ⟨heap, tape, drawn, os, output⟩ := w
  simp only [World.setCell, World.mk.injEq, and_true]
  apply Array.ext
  · simp
  · intro i h1 h2
    simp only [World.cell?] at h
    rw [Array.getElem_modify]
    split
    · rename_i e
      subst e
      rw [Array.getElem?_eq_getElem h2] at h
      split at h
      · rename_i c el fr e
        simp only [Option.some.injEq] at e
        rw [e]
        simp only
        split
        · rfl
        · rename_i hs
          rw [if_neg hs] at h
          have : c.setIfInBounds p.off u = c := by
            apply Array.ext
            · simp
            · intro j h3 h4
              rw [Array.getElem_setIfInBounds]
              split
              · rename_i e2; subst e2; rw [Array.getElem?_eq_getElem h4] at h; simpa using h.symm
              · rfl
          rw [this]
      · cases h
    · rfl
theorem setCell_size (w : World) (p : Addr) (u : Value) : (w.setCell p u).heap.size = w.heap.size := by simp [World.setCell]
/-- the pointed cells, set one behind the other -/
def setP (w : World) (ps : List (Nat × Nat)) (f : Nat → Value) : Nat → World
  | 0 => w
  | k + 1 => (setP w ps f k).setCell ⟨(ps.getD k (0, 0)).1, (ps.getD k (0, 0)).2, none⟩ (f k)
theorem setP_size (w : World) (ps : List (Nat × Nat)) (f : Nat → Value) : ∀ k, (setP w ps f k).heap.size = w.heap.size
  | 0 => rfl
  | k + 1 => by rw [setP, setCell_size, setP_size w ps f k]
theorem setP_cell (w : World) (ps : List (Nat × Nat)) (f : Nat → Value) (x : Addr) : ∀ k, (∀ i, i < k → x ≠ ⟨(ps.getD i (0, 0)).1, (ps.getD i (0, 0)).2, none⟩) → (setP w ps f k).cell? x = w.cell? x
  | 0, _ => rfl
  | k + 1, h => by
    rw [setP, World.cell?_setCell_other _ _ _ _ (fun e => h k (by omega) e.symm), setP_cell w ps f x k fun i hi => h i (by omega)]
theorem setP_frozen (w : World) (ps : List (Nat × Nat)) (f : Nat → Value) (x : Addr) : ∀ k, (setP w ps f k).frozen? x = w.frozen? x
  | 0 => rfl
  | k + 1 => by rw [setP, World.frozen?_setCell, setP_frozen w ps f x k]
theorem setP_kp (w : World) (ps : List (Nat × Nat)) (f : Nat → Value) : ∀ k, k ≤ ps.length → Kp (fun b => ∃ p ∈ ps, b = p.1) w (setP w ps f k)
  | 0, _ => Kp.refl _ _
  | k + 1, h => by
    refine (setP_kp w ps f k (by omega)).trans ((Kp.at _ _ _).mono fun b hb => ?_)
    refine ⟨ps.getD k (0, 0), ?_, hb⟩
    rw [List.getD_eq_getElem?_getD, List.getElem?_eq_getElem (by omega)]
    exact List.getElem_mem _
/-- the state before, and the value of, the k-th -/
def nsF (m : Md) (vs : List Nat) : Nat → Md
  | 0 => m
  | k + 1 => (numF (nsF m vs k) (vs.getD k 0)).1
def nvF (m : Md) (vs : List Nat) (k : Nat) : Nat := (numF (nsF m vs k) (vs.getD k 0)).2
def nuV (m : Md) (vs : List Nat) (k : Nat) : Value := .int .u64 (nvF m vs k : Int)
theorem nsF_sz (m : Md) (vs : List Nat) : ∀ k, (nsF m vs k).sz ≤ m.sz + 9 * k
  | 0 => by simp [nsF]
  | k + 1 => by have := nsF_sz m vs k; have := numF_sz (nsF m vs k) (vs.getD k 0); rw [nsF]; omega
theorem nsF_near (m : Md) (vs : List Nat) : ∀ k, (nsF m vs k).near = m.near
  | 0 => rfl
  | k + 1 => by rw [nsF, numF_near, nsF_near]
theorem nsF_at (m : Md) (vs : List Nat) : ∀ k, (nsF m vs k).at_ = m.at_
  | 0 => rfl
  | k + 1 => by rw [nsF, numF_at, nsF_at]
theorem nsF_isRd (m : Md) (vs : List Nat) : ∀ k, (nsF m vs k).isRd = m.isRd
  | 0 => rfl
  | k + 1 => by rw [nsF, numF_isRd, nsF_isRd]
theorem Kp.over {A : Nat → Prop} {a b c : World} {p : Addr} {u : Value} (h : Kp A (a.setCell p u) b) (hb : Below b.heap.size b c) : Kp A (a.setCell p u) c := h.trans (Kp.of_below hb)
/-- of two worlds that are the same but in A: both with a cell set -/
theorem Kp.both {A : Nat → Prop} {a b : World} (h : Kp A a b) (p : Addr) (u : Value) : Kp A (a.setCell p u) (b.setCell p u) := by
  refine ⟨⟨h.1.os, h.1.tape, h.1.output, by rw [setCell_size, setCell_size]; exact h.size, fun i hi => by omega⟩, fun i hi hA => ?_⟩
  rw [setCell_size] at hi
  have := h.2 i hi hA
  simp only [World.setCell, Array.getElem?_modify]
  rw [this]
theorem strOf_nil : strOf [] = ByteArray.empty := rfl

section
variable {w wr : World} {fb mb la k : Nat} {m : Md} {bad : Bool} {ps : List (Nat × Nat)} {vs : List Nat}
/-- what is asked of pointers -/
structure PtrOk (w : World) (fb la : Nat) (m : Md) (ps : List (Nat × Nat)) (vs : List Nat) : Prop where
  len : vs.length = ps.length
  at_ : ∀ j, j < ps.length → w.cell? ⟨(ps.getD j (0, 0)).1, (ps.getD j (0, 0)).2, none⟩ = some (.int .u64 ((vs.getD j 0 : Nat) : Int)) ∧ vs.getD j 0 < 256 ^ 8 ∧ (ps.getD j (0, 0)).1 < w.heap.size
  far : ∀ j, j < ps.length → (ps.getD j (0, 0)).1 ≠ fb ∧ (ps.getD j (0, 0)).1 ≠ la ∧ ¬ m.near (ps.getD j (0, 0)).1
  free : m.isRd = true → ∀ j, j < ps.length → w.frozen? ⟨(ps.getD j (0, 0)).1, (ps.getD j (0, 0)).2, none⟩ = false
  apart : ∀ i j, i < j → j < ps.length → ps.getD i (0, 0) ≠ ps.getD j (0, 0)
/-- what the loop keeps -/
structure NumJ (w wr : World) (fb mb la : Nat) (m : Md) (bad : Bool) (ps : List (Nat × Nat)) (vs : List Nat) (k : Nat) : Prop where
  kp : Kp (Zf fb m) (setP w ps (nuV m vs) k) wr
  fd : Fd wr fb mb ⟨nsF m vs k, bad⟩
  la : Blk wr la 85 (ps.map fun p => .pointer (some ⟨p.1, p.2, none⟩)).toArray
theorem NumJ.cell (h : NumJ w wr fb mb la m bad ps vs k) (hp : PtrOk w fb la m ps vs) {j : Nat} (hj : k ≤ j) (hl : j < ps.length) : wr.cell? ⟨(ps.getD j (0, 0)).1, (ps.getD j (0, 0)).2, none⟩ = some (.int .u64 ((vs.getD j 0 : Nat) : Int)) := by
  have h1 := hp.at_ j hl
  rw [World.cell?_of_block (h.kp.2 _ (by rw [setP_size]; exact h1.2.2) (fun hz => by
    rcases hz with e | e
    · exact (hp.far j hl).1 e
    · exact (hp.far j hl).2.2 (at_near e)))]
  rw [setP_cell _ _ _ _ k fun i hi e => by
    simp only [Addr.mk.injEq] at e
    exact hp.apart i j (by omega) hl (Prod.ext e.1.symm e.2.1.symm)]
  exact h1.1
theorem NumJ.next (h : NumJ w wr fb mb la m bad ps vs k) (hp : PtrOk w fb la m ps vs) (hk : k < ps.length) {w' : World}
    (hkp : Kp (Zf fb m) (wr.setCell ⟨(ps.getD k (0, 0)).1, (ps.getD k (0, 0)).2, none⟩ (nuV m vs k)) w') (hf : Fd w' fb mb ⟨nsF m vs (k + 1), bad⟩) (hla : la ≠ fb) (hln : ¬ m.near la) : NumJ w w' fb mb la m bad ps vs (k + 1) := by
  refine ⟨(h.kp.both _ _).trans hkp, hf, hkp.blk (h.la.far (by exact fun e => (hp.far k hk).2.1 e.symm) _) (fun hz => ?_)⟩
  rcases hz with e | e
  · exact hla e
  · exact hln (at_near e)
end
theorem fnums_any (w : World) (fb mb la : Nat) (S : Sf) (ps : List (Nat × Nat)) (vs : List Nat) (hF : Fd w fb mb S) (hla : Blk w la 85 (ps.map fun p => .pointer (some ⟨p.1, p.2, none⟩)).toArray)
    (hp : PtrOk w fb la S.m ps vs) (hlf : la ≠ fb) (hln : ¬ S.m.near la) (hsz : S.m.sz + 9 * ps.length ≤ 1000000) :
    Calls Try.prog 36 #[.pointer (some ⟨fb, 0, none⟩), .slice (some ⟨la, 0, none⟩) ps.length ps.length] w fun e w' =>
      e = .returned (.tuple #[]) ∧ Kp (Zf fb S.m) (setP w ps (nuV S.m vs) ps.length) w' ∧ Fd w' fb mb ⟨nsF S.m vs ps.length, S.bad⟩ := by
  obtain ⟨m, bad⟩ := S
  have HP := Lib.hid hp
  have HL := Lib.hid (And.intro hlf hln)
  have HSZ := Lib.hid hsz
  have HJ0 : Hid (NumJ w w fb mb la m bad ps vs 0) := Lib.hid ⟨Kp.refl _ _, hF, hla⟩
  have HLEN : Hid (ps.length ≤ 1000000) := Lib.hid (by omega)
  clear hF hla hp hlf hln hsz
  dsimp only
  generalize hn : ps.length = n at *
  have HN := Lib.hid hn
  clear hn
  go_enter Try.func36, Try.ntmps36
  go_wp2_with fail
  go_loopw [8] (fun i wr => ∃ (k : Nat), k ≤ n ∧ i = .int .i64 k ∧ NumJ w wr fb mb la m bad ps vs k) (fun i _ => n - (intOf i).toNat)
  case atStart => exact ⟨0, Nat.zero_le _, rfl, HJ0.out⟩
  case round =>
    obtain ⟨k, hk, rfl, hj⟩ := hrel
    have HJ := Lib.hid hj
    clear hj
    by_cases hkn : k < n
    · have HK := Lib.hid hkn
      have hk2 : k < ps.length := by rw [HN.out]; exact hkn
      have HK2 := Lib.hid hk2
      have HIN := Lib.hid (HP.out.at_ k hk2).2.1
      have HC := Lib.hid (HJ.out.cell HP.out (Nat.le_refl _) hk2)
      have HFR := Lib.hid (fun hr => HP.out.free hr k hk2)
      have HFAR := Lib.hid (HP.out.far k hk2)
      have HNX := Lib.hid (fun w' => @NumJ.next w wr fb mb la k m bad ps vs HJ.out HP.out hk2 w')
      have c0 : wr.cell? ⟨la, k, none⟩ = some (.pointer (some ⟨(ps.getD k (0, 0)).1, (ps.getD k (0, 0)).2, none⟩)) := by
        rw [HJ.out.la.cell k]
        simp [hk2]
      have HFZ := Lib.hid (show wr.frozen? ⟨(ps.getD k (0, 0)).1, (ps.getD k (0, 0)).2, none⟩ = w.frozen? ⟨(ps.getD k (0, 0)).1, (ps.getD k (0, 0)).2, none⟩ by
        rw [← setP_frozen w ps (nuV m vs) _ k]
        exact World.frozen?_of_block (HJ.out.kp.2 _ (by rw [setP_size]; exact (HP.out.at_ k hk2).2.2) (fun hz => by
          rcases hz with e | e
          · exact HFAR.out.1 e
          · exact HFAR.out.2.2 (at_near e))))
      obtain ⟨hfb, hok, hnear⟩ := HJ.out.fd
      have HNR := Lib.hid hnear
      have hnum : nsF m vs (k + 1) = (numF (nsF m vs k) (vs.getD k 0)).1 := rfl
      have hval : nuV m vs k = .int .u64 (((numF (nsF m vs k) (vs.getD k 0)).2 : Nat) : Int) := rfl
      have hq : (nsF m vs k).sz ≤ 1000000 := by have := nsF_sz m vs k; have := HSZ.out; omega
      have hrd : (nsF m vs k).isRd = m.isRd := nsF_isRd _ _ _
      have hat : (nsF m vs k).at_ = m.at_ := nsF_at _ _ _
      have hne : (nsF m vs k).near = m.near := nsF_near _ _ _
      rw [hnum, hval] at HNX
      generalize vs.getD k 0 = x at *
      generalize ps.getD k (0, 0) = p at *
      obtain ⟨pb, po⟩ := p
      dsimp only at *
      clear hnum hval hk2
      have i1 : (k : Int) < (n : Int) := by omega
      have HOK := Lib.hid hok
      have i9 : wrap64 ((k : Int) + 1) = (k : Int) + 1 := IntWalk.wrap64_in _ (by have := HLEN.out; omega)
      have I9 := Lib.hid i9
      clear hok hnear hkn hk i9
      generalize nsF m vs k = mk at *
      cases mk with
      | lay s =>
        have HSQ := Lib.hid hq
        have HFB := Lib.hid (show Blk wr fb 68 #[.pointer (some ⟨mb, 0, none⟩), .string (strOf s), .pointer none, .bool bad] from hfb)
        obtain ⟨O2, hO2⟩ : ∃ O2, O2 = strOf (s ++ Wire.putNum x) := ⟨_, rfl⟩
        have HPN : Hid (∀ w2, Calls Try.prog 53 #[.string (strOf s), .int .u64 (x : Int)] w2 fun e w' => e = .returned (.string O2) ∧ Below w2.heap.size w2 w') := Lib.hid fun w2 => by
          have := putNum_any (strOf s) x w2 HIN.out (by rw [size_strOf]; have := HSQ.out; simp only [Md.sz] at this; unfold maxLen; omega)
          rw [strOf_list, ← hO2] at this
          exact this
        have HO2 := Lib.hid hO2
        have HRD := Lib.hid (And.intro hrd (And.intro hat hne))
        have c1 := HC.out
        have c2 := HFB.out.cell 2
        simp at c2
        clear hO2 hfb hq hrd hat hne
        go_wp2_with fail
        refine wp_region_chain [8, 11] (kv [(8, .is (.string O2)), (11, .is undef)]) (fun l w2 => match l with | [] => Below wr.heap.size wr w2 | [_] => Below wr.heap.size wr w2 | _ => ∃ w3, Below wr.heap.size wr w3 ∧ w2 = w3.setCell ⟨fb, 1, none⟩ (.string O2)) (by kernel_rfl) (by kernel_rfl) (by kernel_rfl) (kv_inh _) (Below.drew (Below.refl _ _)) ?_
        intro ν hν
        have n8 : ν 8 = .string O2 := hν 8
        have n11 : ν 11 = undef := hν 11
        clear hν
        refine ch_plain 0 2 6 (by rfl) rfl (by kernel_rfl) (by kernel_rfl) ?_
        apply Exists.intro
        refine ⟨fun st w2 hlo hhi hJ => ?_, ?_⟩
        · clear hlo hhi hJ
          go_simp
          exact And.intro rfl rfl
        simp only [Act.put, List.setIfInBounds_toArray, List.set_cons_succ, List.set_cons_zero, Nat.reduceAdd]
        refine ch_plain 0 2 6 (by rfl) rfl (by kernel_rfl) (by kernel_rfl) ?_
        apply Exists.intro
        refine ⟨fun st w2 hlo hhi hJ => ?_, ?_⟩
        · clear hlo hhi hJ
          go_simp
          exact And.intro rfl rfl
        simp only [Act.put, List.setIfInBounds_toArray, List.set_cons_succ, List.set_cons_zero, Nat.reduceAdd]
        refine ch_plain 0 2 6 (by rfl) rfl (by kernel_rfl) (by kernel_rfl) ?_
        apply Exists.intro
        refine ⟨fun st w2 hlo hhi hJ => ?_, ?_⟩
        · clear hlo hhi hJ
          go_simp
          exact And.intro rfl rfl
        simp only [Act.put, List.setIfInBounds_toArray, List.set_cons_succ, List.set_cons_zero, Nat.reduceAdd]
        refine ch_plain 0 2 6 (by rfl) rfl (by kernel_rfl) (by kernel_rfl) ?_
        apply Exists.intro
        refine ⟨fun st w2 hlo hhi hJ => ?_, ?_⟩
        · clear hlo hhi hJ
          go_simp
          exact And.intro rfl rfl
        simp only [Act.put, List.setIfInBounds_toArray, List.set_cons_succ, List.set_cons_zero, Nat.reduceAdd]
        refine ch_plain 0 0 6 (by rfl) rfl (by kernel_rfl) (by kernel_rfl) ?_
        apply Exists.intro
        refine ⟨fun st w2 hlo hhi hJ => ?_, ?_⟩
        · have hj : Below wr.heap.size wr w2 := by
            obtain rfl : st = 0 := by omega
            exact hJ
          have y1 := (HFB.out.keep hj).cell 1
          simp at y1
          clear hj
          clear hlo hhi hJ
          go_simp
          exact And.intro rfl rfl
        simp only [Act.put, List.setIfInBounds_toArray, List.set_cons_succ, List.set_cons_zero, Nat.reduceAdd]
        refine ch_plain 0 2 6 (by rfl) rfl (by kernel_rfl) (by kernel_rfl) ?_
        apply Exists.intro
        refine ⟨fun st w2 hlo hhi hJ => ?_, ?_⟩
        · clear hlo hhi hJ
          go_simp
          exact And.intro rfl rfl
        simp only [Act.put, List.setIfInBounds_toArray, List.set_cons_succ, List.set_cons_zero, Nat.reduceAdd]
        refine ch_plain 0 2 6 (by rfl) rfl (by kernel_rfl) (by kernel_rfl) ?_
        apply Exists.intro
        refine ⟨fun st w2 hlo hhi hJ => ?_, ?_⟩
        · clear hlo hhi hJ
          go_simp
          exact And.intro rfl rfl
        simp only [Act.put, List.setIfInBounds_toArray, List.set_cons_succ, List.set_cons_zero, Nat.reduceAdd]
        refine ch_plain 0 0 6 (by rfl) rfl (by kernel_rfl) (by kernel_rfl) ?_
        apply Exists.intro
        refine ⟨fun st w2 hlo hhi hJ => ?_, ?_⟩
        · have hj : Below wr.heap.size wr w2 := by
            obtain rfl : st = 0 := by omega
            exact hJ
          have y1 := cell_later hj HC.out
          clear hj
          clear hlo hhi hJ
          go_simp
          exact And.intro rfl rfl
        simp only [Act.put, List.setIfInBounds_toArray, List.set_cons_succ, List.set_cons_zero, Nat.reduceAdd]
        refine ch_special 0 6 (by rfl) rfl (by decide) (by kernel_rfl) (fun w2 hJ => ?_) ?_
        · have hj : Below wr.heap.size wr w2 := hJ
          go_simp
          refine (HPN.out w2).mono ?_
          rintro e w3 ⟨rfl, hb⟩
          exact ⟨_, rfl, rfl, hj.trans (hb.mono hj.size)⟩
        rw [n8]
        simp only [Act.put, List.setIfInBounds_toArray, List.set_cons_succ, List.set_cons_zero, Nat.reduceAdd]
        refine ch_plain 0 2 6 (by rfl) rfl (by kernel_rfl) (by kernel_rfl) ?_
        apply Exists.intro
        refine ⟨fun st w2 hlo hhi hJ => ?_, ?_⟩
        · clear hlo hhi hJ
          go_simp
          exact And.intro rfl rfl
        simp only [Act.put, List.setIfInBounds_toArray, List.set_cons_succ, List.set_cons_zero, Nat.reduceAdd]
        refine ch_plain 0 2 6 (by rfl) rfl (by kernel_rfl) (by kernel_rfl) ?_
        apply Exists.intro
        refine ⟨fun st w2 hlo hhi hJ => ?_, ?_⟩
        · clear hlo hhi hJ
          go_simp
          exact And.intro rfl rfl
        simp only [Act.put, List.setIfInBounds_toArray, List.set_cons_succ, List.set_cons_zero, Nat.reduceAdd]
        refine ch_special 1 6 (by rfl) rfl (by decide) (by kernel_rfl) (fun w2 hJ => ?_) ?_
        · have hj : Below wr.heap.size wr w2 := hJ
          have y1 := (HFB.out.keep hj).cell 1
          have y2 := (HFB.out.keep hj).frozen 1
          simp at y1
          go_simp
          exact ⟨rfl, w2, hj, rfl⟩
        rw [n11]
        simp only [Act.put, Nat.reduceAdd]
        refine ch_nil (fun w5 hJ => ?_)
        obtain ⟨w3, hb3, hw5⟩ : ∃ w3, Below wr.heap.size wr w3 ∧ w5 = w3.setCell ⟨fb, 1, none⟩ (.string O2) := hJ
        clear n8 n11
        subst hw5
        go_wp2
        rw [I9.out]
        have hx : wr.setCell ⟨pb, po, none⟩ (.int .u64 (x : Int)) = wr := setCell_same HC.out
        have hk5 : Kp (Zf fb m) wr (w3.setCell ⟨fb, 1, none⟩ (.string O2)) := (Kp.of_below hb3).trans ((Kp.at _ _ _).mono fun b e => .inl e)
        refine ⟨⟨k + 1, HK.out, rfl, HNX.out _ (by simp only [numF]; rw [hx]; exact hk5) ⟨?_, trivial, HNR.out⟩ HL.out.1 HL.out.2⟩, meas_succ HK.out⟩
        have := (HFB.out.keep hb3).set 1 (.string O2)
        rw [HO2.out] at this ⊢
        exact this
      | rd r st =>
        have HFB := Lib.hid (show Blk wr fb 68 #[.pointer (some ⟨mb, 0, none⟩), .string ByteArray.empty, .pointer (some ⟨r, 0, none⟩), .bool bad] from hfb)
        have HRD := Lib.hid (And.intro hrd (And.intro hat hne))
        have c1 := HC.out
        have c2 := HFB.out.cell 2
        simp at c2
        have HZ := Lib.hid hfb.lt
        have HPL := Lib.hid (World.block_lt_of_cell? wr _ HC.out)
        clear hfb hq hrd hat hne
        go_wp2_with fail
        refine (num_any r st wr HOK.out).mono ?_
        rintro e w5 ⟨rfl, hr5, hg5⟩
        have hpr : pb ≠ r := fun e => HFAR.out.2.2 (by rw [← HRD.out.2.2]; exact .inl e)
        have hc5 := (World.cell?_of_block (a := ⟨pb, po, none⟩) (hg5.block pb HPL.out (by simpa using hpr))).trans HC.out
        have hf5 : w5.frozen? ⟨pb, po, none⟩ = false := by
          rw [World.frozen?_of_block (hg5.block pb HPL.out (by simpa using hpr)), HFZ.out]
          exact HFR.out HRD.out.1.symm
        have HR5 := Lib.hid (And.intro hr5 hg5)
        have HC5 := Lib.hid hc5
        clear hr5 hg5 c0 c1 c2
        go_wp2
        rw [I9.out]
        have hr5 := HR5.out.1
        have hg5 := HR5.out.2
        have hkp : Kp (Zf fb m) wr w5 := (Kp.of_row hg5).mono fun b e => .inr (by rw [← HRD.out.2.1]; exact e)
        have hfr : fb ≠ r := fun e => HNR.out (.inl e)
        refine ⟨⟨k + 1, HK.out, rfl, HNX.out _ (hkp.both _ _) ⟨((Kp.of_row hg5).blk HFB.out hfr).far (Ne.symm HFAR.out.1) _, ?_, HNR.out⟩ HL.out.1 HL.out.2⟩, meas_succ HK.out⟩
        exact Rdr.kp hr5 (Kp.at _ _ _) (fun b hb e => HFAR.out.2.2 (by rw [← HRD.out.2.2]; subst e; exact hb))
    · obtain rfl : k = n := by omega
      have i1 : ¬ ((k : Int) < (k : Int)) := by omega
      clear hkn hk
      go_wp2
      refine bodyPost_end (results_none rfl _ _ _) rfl ?_
      exact ⟨rfl, HJ.out.kp, HJ.out.fd⟩
end Go.Proofs.Ytikimmhkfjaijaa
