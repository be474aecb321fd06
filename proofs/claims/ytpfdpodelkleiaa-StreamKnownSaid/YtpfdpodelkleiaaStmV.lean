/-
  STREAM: what StreamKnown does to a part, and 'with' (printed by wip/gen-stmv.py).
-/
import Derived.Test.YtpfdpodelkleiaaStmS
namespace Go.Proofs.Ytpfdpodelkleiaa
open Go.RowKit Reg Go.ChangeShapes

def gCs : List Cg := (madeP threeM).drop 1
def goodP : Prt := ⟨(1, 1), (2, 1), 1, 3, gCs⟩
theorem good_ok : okP goodP := by decide +kernel
theorem good_wf : wfPr goodP := ⟨⟨rfl, rfl⟩, ⟨rfl, rfl⟩, rfl, rfl⟩
theorem good_short : shortP goodP = goodP := by
  have h : (gCs.take 30).map cutC = gCs := by decide +kernel
  unfold shortP goodP
  rw [h]
/-- the parts that may not be -/
def badP (k : Nat) : Prt := match k with
  | 0 => { goodP with cs := [] }
  | 1 => { goodP with f := 2 }
  | 2 => { goodP with a := 9 }
  | 3 => { goodP with a := 2 }
  | 4 => { goodP with f := -1 }
  | 5 => { goodP with cs := madeP threeM }
  | 6 => { goodP with t := (1, 1) }
  | 7 => { goodP with cs := gCs.set 0 (7, (gCs.getD 0 (0, ByteArray.empty)).2) }
  | 8 => { goodP with cs := gCs.set 1 ((gCs.getD 1 (0, ByteArray.empty)).1, ⟨#[120]⟩) }
  | 9 => { goodP with f := 0, a := 0, cs := (madeP threeM).take 1 }
  | _ => { goodP with f := 3, cs := [] }
theorem bad_no : ∀ k, k < 11 → ¬ okP (badP k) := by decide +kernel
/-- a part in a block of its own, its changes the call's own from B on -/
def PtO (w : World) (B g : Nat) (p : Prt) : Prop := ∃ sv, Blk w g 30 (prC p sv) ∧ OwC w B sv p.cs ∧ wfPr p
def DoT (w : World) (B g : Nat) (p : Prt) (e : Ending) (w' : World) : Prop := e = .returned (.tuple #[]) ∧ PtO w' B g p ∧ Below B w w'
theorem PtO.keep {w w' : World} {B g : Nat} {p : Prt} (h : PtO w B g p) (hb : Below w.heap.size w w') : PtO w' B g p := by
  obtain ⟨sv, h1, h2, h3⟩ := h
  exact ⟨sv, h1.keep hb, h2.keep hb, h3⟩
theorem OwC.apart {w : World} {B g : Nat} {v : Value} {cs : List Cg} (h : OwC w B v cs) {cc : Array Value} (hg : Blk w g 30 cc) : ∀ b, v.ownBlock = some b → b ≠ g := by
  rintro b hb rfl
  rcases h.1.2 with ⟨rfl, -⟩ | ⟨g', cap, cur, rfl, h1, h2, -⟩
  · cases hb
  · obtain rfl : g' = b := by simpa [Value.ownBlock] using hb
    unfold Blk at hg
    rw [h2] at hg
    simp only [Option.some.injEq, Obj.cells.injEq] at hg
    exact absurd hg.2.1 (by decide)
/-- another block is stored into -/
theorem OwC.setFar {w : World} {B : Nat} {v : Value} {cs : List Cg} (h : OwC w B v cs) {p : Addr} (hp : ∀ b, v.ownBlock = some b → b ≠ p.block) (u : Value) : OwC (w.setCell p u) B v cs := by
  refine ⟨⟨h.1.1, ?_⟩, h.2⟩
  rcases h.1.2 with hn | ⟨g, cap, cur, rfl, hg, hh, rest⟩
  · exact .inl hn
  · exact .inr ⟨g, cap, cur, rfl, hg, (Below.heap_setCell w p u g (hp g rfl)).trans hh, rest⟩
theorem cgsL_set0 : ∀ (l : List Cg) (k : Nat) (z : Int), k < l.length → cgsL (l.set k (z, (l.getD k (0, ByteArray.empty)).2)) = (cgsL l).set (k * 2) (.int .i64 z)
  | [], k, z, h => by simp at h
  | x :: l, 0, z, _ => rfl
  | x :: l, k + 1, z, h => by
    have ih := cgsL_set0 l k z (by simpa using h)
    have e : (k + 1) * 2 = k * 2 + 2 := by omega
    have e2 : (x :: l).getD (k + 1) (0, ByteArray.empty) = l.getD k (0, ByteArray.empty) := rfl
    rw [e, e2, List.set_cons_succ]
    simp only [cgsL, List.flatMap_cons, cgL, List.cons_append, List.nil_append, List.set_cons_succ] at ih ⊢
    rw [ih]
theorem cgsL_set1 : ∀ (l : List Cg) (k : Nat) (d : ByteArray), k < l.length → cgsL (l.set k ((l.getD k (0, ByteArray.empty)).1, d)) = (cgsL l).set (k * 2 + 1) (.string d)
  | [], k, d, h => by simp at h
  | x :: l, 0, d, _ => rfl
  | x :: l, k + 1, d, h => by
    have ih := cgsL_set1 l k d (by simpa using h)
    have e : (k + 1) * 2 + 1 = k * 2 + 1 + 2 := by omega
    have e2 : (x :: l).getD (k + 1) (0, ByteArray.empty) = l.getD k (0, ByteArray.empty) := rfl
    rw [e, e2, List.set_cons_succ]
    simp only [cgsL, List.flatMap_cons, cgL, List.cons_append, List.nil_append, List.set_cons_succ] at ih ⊢
    rw [ih]
/-- one cell of the list's own is written -/
theorem OwC.setOwn {w : World} {B n c i : Nat} {a : Option Addr} {cs cs' : List Cg} {u : Value} (h : OwC w B (.slice a n c) cs) (hi : i < n * 2) (hl : cs'.length = cs.length) (hc : cgsL cs' = (cgsL cs).set i u) :
    ∃ g, a = some ⟨g, 0, none⟩ ∧ B ≤ g ∧ (∃ z, w.cell? ⟨g, i, none⟩ = some z) ∧ w.frozen? ⟨g, i, none⟩ = false ∧ OwC (w.setCell ⟨g, i, none⟩ u) B (.slice a n c) cs' := by
  have hn : n = cs.length := by obtain ⟨a', c', e, -⟩ := h.rd; simp only [Value.slice.injEq] at e; exact e.2.1
  have h2 := h.2
  have h11 := h.1.1
  rcases h.1.2 with ⟨-, h0⟩ | ⟨g, cap, cur, e, hg, hh, h3, h4, h5, h6⟩
  · omega
  · simp only [Value.slice.injEq] at e
    obtain ⟨rfl, e2, rfl⟩ := e
    have hb : Blk w g 36 cur := hh
    refine ⟨g, rfl, hg, ?_, hb.frozen i, ⟨⟨by rw [hl, hc, List.length_set]; exact h11, .inr ⟨g, c, cur.setIfInBounds i u, by rw [hl, ← hn], hg, hb.set i u, by rw [hl]; exact h3, h4, by rw [Array.size_setIfInBounds]; exact h5, ?_⟩⟩, by rw [hl]; exact h2⟩⟩
    · rw [hb.cell, Array.getElem?_eq_getElem (by rw [h5]; have : cs.length ≤ c := h3; omega)]
      exact ⟨_, rfl⟩
    · rw [Array.toList_setIfInBounds, List.take_set, hl, h6, hc]
theorem OwC.take {w : World} {B n c k : Nat} {a : Option Addr} {cs : List Cg} (h : OwC w B (.slice a n c) cs) (hk : k ≤ n) : OwC w B (.slice a k c) (cs.take k) := by
  have hn : n = cs.length := by obtain ⟨a', c', e, -⟩ := h.rd; simp only [Value.slice.injEq] at e; exact e.2.1
  have hl : (cs.take k).length = k := by rw [List.length_take]; omega
  have h2 := h.2
  refine ⟨⟨by rw [cgsL_length], ?_⟩, by rw [hl]; omega⟩
  rw [hl]
  rcases h.1.2 with ⟨e, h0⟩ | ⟨g, cap, cur, e, hg, hh, h3, h4, h5, h6⟩
  · simp only [Value.slice.injEq] at e
    obtain ⟨rfl, e2, rfl⟩ := e
    have : k = 0 := by omega
    subst this
    exact .inl ⟨rfl, rfl⟩
  · simp only [Value.slice.injEq] at e
    obtain ⟨rfl, e2, rfl⟩ := e
    refine .inr ⟨g, c, cur, rfl, hg, hh, by have : cs.length ≤ c := h3; omega, h4, h5, ?_⟩
    rw [cgsL_take, ← h6, List.take_take, Nat.min_eq_left (by omega)]
set_option maxRecDepth 100000 in
theorem do0 (w : World) (B g : Nat) (h : PtO w B g goodP) (hB : B ≤ g) : Calls Try.prog 26 #[.pointer (some ⟨g, 0, none⟩)] w (DoT w B g (badP 0)) := by
  unfold DoT
  obtain ⟨sv, hb, ho, -⟩ := h
  obtain ⟨a, c, rfl, -⟩ := ho.rd
  have hb2 : Blk w g 30 #[.int .u64 1, .int .u64 1, .int .u64 2, .int .u64 1, .int .i64 1, .int .i64 3, .slice a 2 c] := hb
  have HB := Lib.hid hb2
  have HO := Lib.hid (show OwC w B (.slice a 2 c) gCs from ho)
  have HG := Lib.hid hB
  have x0 := HB.out.cell 0
  have x1 := HB.out.cell 1
  have x2 := HB.out.cell 2
  have x3 := HB.out.cell 3
  have x4 := HB.out.cell 4
  have x5 := HB.out.cell 5
  have x6 := HB.out.cell 6
  simp at x0 x1 x2 x3 x4 x5 x6
  have f0 := HB.out.frozen 0
  have f1 := HB.out.frozen 1
  have f2 := HB.out.frozen 2
  have f3 := HB.out.frozen 3
  have f4 := HB.out.frozen 4
  have f5 := HB.out.frozen 5
  have f6 := HB.out.frozen 6
  clear hb hb2 ho hB
  go_enter Try.func26, Try.ntmps26
  go_wp2
  go_end0
  exact ⟨rfl, ⟨_, (HB.out.set 6 (.slice none 0 0)), OwC.nil_ _ _, ⟨⟨rfl, rfl⟩, ⟨rfl, rfl⟩, rfl, rfl⟩⟩, ((Below.refl _ _).setCell (p := ⟨g, 6, none⟩) HG.out (.slice none 0 0))⟩
set_option maxRecDepth 100000 in
theorem do1 (w : World) (B g : Nat) (h : PtO w B g goodP) (hB : B ≤ g) : Calls Try.prog 27 #[.pointer (some ⟨g, 0, none⟩)] w (DoT w B g (badP 1)) := by
  unfold DoT
  obtain ⟨sv, hb, ho, -⟩ := h
  obtain ⟨a, c, rfl, -⟩ := ho.rd
  have hb2 : Blk w g 30 #[.int .u64 1, .int .u64 1, .int .u64 2, .int .u64 1, .int .i64 1, .int .i64 3, .slice a 2 c] := hb
  have HB := Lib.hid hb2
  have HO := Lib.hid (show OwC w B (.slice a 2 c) gCs from ho)
  have HG := Lib.hid hB
  have x0 := HB.out.cell 0
  have x1 := HB.out.cell 1
  have x2 := HB.out.cell 2
  have x3 := HB.out.cell 3
  have x4 := HB.out.cell 4
  have x5 := HB.out.cell 5
  have x6 := HB.out.cell 6
  simp at x0 x1 x2 x3 x4 x5 x6
  have f0 := HB.out.frozen 0
  have f1 := HB.out.frozen 1
  have f2 := HB.out.frozen 2
  have f3 := HB.out.frozen 3
  have f4 := HB.out.frozen 4
  have f5 := HB.out.frozen 5
  have f6 := HB.out.frozen 6
  clear hb hb2 ho hB
  go_enter Try.func27, Try.ntmps27
  go_wp2
  go_end0
  exact ⟨rfl, ⟨_, (HB.out.set 4 (.int .i64 2)), (HO.out.setFar (p := ⟨g, 4, none⟩) (fun b hb => HO.out.apart HB.out b hb) (.int .i64 2)), ⟨⟨rfl, rfl⟩, ⟨rfl, rfl⟩, rfl, rfl⟩⟩, ((Below.refl _ _).setCell (p := ⟨g, 4, none⟩) HG.out (.int .i64 2))⟩
set_option maxRecDepth 100000 in
theorem do2 (w : World) (B g : Nat) (h : PtO w B g goodP) (hB : B ≤ g) : Calls Try.prog 28 #[.pointer (some ⟨g, 0, none⟩)] w (DoT w B g (badP 2)) := by
  unfold DoT
  obtain ⟨sv, hb, ho, -⟩ := h
  obtain ⟨a, c, rfl, -⟩ := ho.rd
  have hb2 : Blk w g 30 #[.int .u64 1, .int .u64 1, .int .u64 2, .int .u64 1, .int .i64 1, .int .i64 3, .slice a 2 c] := hb
  have HB := Lib.hid hb2
  have HO := Lib.hid (show OwC w B (.slice a 2 c) gCs from ho)
  have HG := Lib.hid hB
  have x0 := HB.out.cell 0
  have x1 := HB.out.cell 1
  have x2 := HB.out.cell 2
  have x3 := HB.out.cell 3
  have x4 := HB.out.cell 4
  have x5 := HB.out.cell 5
  have x6 := HB.out.cell 6
  simp at x0 x1 x2 x3 x4 x5 x6
  have f0 := HB.out.frozen 0
  have f1 := HB.out.frozen 1
  have f2 := HB.out.frozen 2
  have f3 := HB.out.frozen 3
  have f4 := HB.out.frozen 4
  have f5 := HB.out.frozen 5
  have f6 := HB.out.frozen 6
  clear hb hb2 ho hB
  go_enter Try.func28, Try.ntmps28
  go_wp2
  go_end0
  exact ⟨rfl, ⟨_, (HB.out.set 5 (.int .i64 9)), (HO.out.setFar (p := ⟨g, 5, none⟩) (fun b hb => HO.out.apart HB.out b hb) (.int .i64 9)), ⟨⟨rfl, rfl⟩, ⟨rfl, rfl⟩, rfl, rfl⟩⟩, ((Below.refl _ _).setCell (p := ⟨g, 5, none⟩) HG.out (.int .i64 9))⟩
set_option maxRecDepth 100000 in
theorem do3 (w : World) (B g : Nat) (h : PtO w B g goodP) (hB : B ≤ g) : Calls Try.prog 29 #[.pointer (some ⟨g, 0, none⟩)] w (DoT w B g (badP 3)) := by
  unfold DoT
  obtain ⟨sv, hb, ho, -⟩ := h
  obtain ⟨a, c, rfl, -⟩ := ho.rd
  have hb2 : Blk w g 30 #[.int .u64 1, .int .u64 1, .int .u64 2, .int .u64 1, .int .i64 1, .int .i64 3, .slice a 2 c] := hb
  have HB := Lib.hid hb2
  have HO := Lib.hid (show OwC w B (.slice a 2 c) gCs from ho)
  have HG := Lib.hid hB
  have x0 := HB.out.cell 0
  have x1 := HB.out.cell 1
  have x2 := HB.out.cell 2
  have x3 := HB.out.cell 3
  have x4 := HB.out.cell 4
  have x5 := HB.out.cell 5
  have x6 := HB.out.cell 6
  simp at x0 x1 x2 x3 x4 x5 x6
  have f0 := HB.out.frozen 0
  have f1 := HB.out.frozen 1
  have f2 := HB.out.frozen 2
  have f3 := HB.out.frozen 3
  have f4 := HB.out.frozen 4
  have f5 := HB.out.frozen 5
  have f6 := HB.out.frozen 6
  clear hb hb2 ho hB
  go_enter Try.func29, Try.ntmps29
  go_wp2
  go_end0
  exact ⟨rfl, ⟨_, (HB.out.set 5 (.int .i64 2)), (HO.out.setFar (p := ⟨g, 5, none⟩) (fun b hb => HO.out.apart HB.out b hb) (.int .i64 2)), ⟨⟨rfl, rfl⟩, ⟨rfl, rfl⟩, rfl, rfl⟩⟩, ((Below.refl _ _).setCell (p := ⟨g, 5, none⟩) HG.out (.int .i64 2))⟩
set_option maxRecDepth 100000 in
theorem do4 (w : World) (B g : Nat) (h : PtO w B g goodP) (hB : B ≤ g) : Calls Try.prog 30 #[.pointer (some ⟨g, 0, none⟩)] w (DoT w B g (badP 4)) := by
  unfold DoT
  obtain ⟨sv, hb, ho, -⟩ := h
  obtain ⟨a, c, rfl, -⟩ := ho.rd
  have hb2 : Blk w g 30 #[.int .u64 1, .int .u64 1, .int .u64 2, .int .u64 1, .int .i64 1, .int .i64 3, .slice a 2 c] := hb
  have HB := Lib.hid hb2
  have HO := Lib.hid (show OwC w B (.slice a 2 c) gCs from ho)
  have HG := Lib.hid hB
  have x0 := HB.out.cell 0
  have x1 := HB.out.cell 1
  have x2 := HB.out.cell 2
  have x3 := HB.out.cell 3
  have x4 := HB.out.cell 4
  have x5 := HB.out.cell 5
  have x6 := HB.out.cell 6
  simp at x0 x1 x2 x3 x4 x5 x6
  have f0 := HB.out.frozen 0
  have f1 := HB.out.frozen 1
  have f2 := HB.out.frozen 2
  have f3 := HB.out.frozen 3
  have f4 := HB.out.frozen 4
  have f5 := HB.out.frozen 5
  have f6 := HB.out.frozen 6
  clear hb hb2 ho hB
  go_enter Try.func30, Try.ntmps30
  go_wp2
  go_end0
  exact ⟨rfl, ⟨_, (HB.out.set 4 (.int .i64 (-1))), (HO.out.setFar (p := ⟨g, 4, none⟩) (fun b hb => HO.out.apart HB.out b hb) (.int .i64 (-1))), ⟨⟨rfl, rfl⟩, ⟨rfl, rfl⟩, rfl, rfl⟩⟩, ((Below.refl _ _).setCell (p := ⟨g, 4, none⟩) HG.out (.int .i64 (-1)))⟩
set_option maxRecDepth 100000 in
theorem do10 (w : World) (B g : Nat) (h : PtO w B g goodP) (hB : B ≤ g) : Calls Try.prog 36 #[.pointer (some ⟨g, 0, none⟩)] w (DoT w B g (badP 10)) := by
  unfold DoT
  obtain ⟨sv, hb, ho, -⟩ := h
  obtain ⟨a, c, rfl, -⟩ := ho.rd
  have hb2 : Blk w g 30 #[.int .u64 1, .int .u64 1, .int .u64 2, .int .u64 1, .int .i64 1, .int .i64 3, .slice a 2 c] := hb
  have HB := Lib.hid hb2
  have HO := Lib.hid (show OwC w B (.slice a 2 c) gCs from ho)
  have HG := Lib.hid hB
  have x0 := HB.out.cell 0
  have x1 := HB.out.cell 1
  have x2 := HB.out.cell 2
  have x3 := HB.out.cell 3
  have x4 := HB.out.cell 4
  have x5 := HB.out.cell 5
  have x6 := HB.out.cell 6
  simp at x0 x1 x2 x3 x4 x5 x6
  have f0 := HB.out.frozen 0
  have f1 := HB.out.frozen 1
  have f2 := HB.out.frozen 2
  have f3 := HB.out.frozen 3
  have f4 := HB.out.frozen 4
  have f5 := HB.out.frozen 5
  have f6 := HB.out.frozen 6
  clear hb hb2 ho hB
  go_enter Try.func36, Try.ntmps36
  go_wp2
  go_end0
  exact ⟨rfl, ⟨_, ((HB.out.set 6 (.slice none 0 0)).set 4 (.int .i64 3)), OwC.nil_ _ _, ⟨⟨rfl, rfl⟩, ⟨rfl, rfl⟩, rfl, rfl⟩⟩, (((Below.refl _ _).setCell (p := ⟨g, 6, none⟩) HG.out (.slice none 0 0)).setCell (p := ⟨g, 4, none⟩) HG.out (.int .i64 3))⟩
set_option maxRecDepth 100000 in
theorem do7 (w : World) (B g : Nat) (h : PtO w B g goodP) (hB : B ≤ g) : Calls Try.prog 33 #[.pointer (some ⟨g, 0, none⟩)] w (DoT w B g (badP 7)) := by
  unfold DoT
  obtain ⟨sv, hb, ho, -⟩ := h
  obtain ⟨a, c, rfl, -⟩ := ho.rd
  have hb2 : Blk w g 30 #[.int .u64 1, .int .u64 1, .int .u64 2, .int .u64 1, .int .i64 1, .int .i64 3, .slice a 2 c] := hb
  have HB := Lib.hid hb2
  have HO := Lib.hid (show OwC w B (.slice a 2 c) gCs from ho)
  have HG := Lib.hid hB
  obtain ⟨q, rfl, hq, ⟨z, hz⟩, hf, hn⟩ := HO.out.setOwn (i := 0) (cs' := (badP 7).cs) (u := .int .i64 7) (by decide) rfl (cgsL_set0 gCs 0 7 (by decide))
  have hne : g ≠ q := fun e => HO.out.apart HB.out q rfl e.symm
  have HN := Lib.hid hn
  have HQ := Lib.hid (And.intro hq hne)
  have x6 := HB.out.cell 6
  simp at x6
  clear hb hb2 ho hB hn hq hne
  go_enter Try.func33, Try.ntmps33
  go_wp2
  go_end0
  exact ⟨rfl, ⟨_, HB.out.far (p := ⟨q, 0, none⟩) HQ.out.2 _, HN.out, ⟨⟨rfl, rfl⟩, ⟨rfl, rfl⟩, rfl, rfl⟩⟩, (Below.refl _ _).setCell (p := ⟨q, 0, none⟩) HQ.out.1 _⟩
set_option maxRecDepth 100000 in
theorem do8 (w : World) (B g : Nat) (h : PtO w B g goodP) (hB : B ≤ g) : Calls Try.prog 34 #[.pointer (some ⟨g, 0, none⟩)] w (DoT w B g (badP 8)) := by
  unfold DoT
  obtain ⟨sv, hb, ho, -⟩ := h
  obtain ⟨a, c, rfl, -⟩ := ho.rd
  have hb2 : Blk w g 30 #[.int .u64 1, .int .u64 1, .int .u64 2, .int .u64 1, .int .i64 1, .int .i64 3, .slice a 2 c] := hb
  have HB := Lib.hid hb2
  have HO := Lib.hid (show OwC w B (.slice a 2 c) gCs from ho)
  have HG := Lib.hid hB
  obtain ⟨q, rfl, hq, ⟨z, hz⟩, hf, hn⟩ := HO.out.setOwn (i := 3) (cs' := (badP 8).cs) (u := .string ⟨#[120]⟩) (by decide) rfl (cgsL_set1 gCs 1 ⟨#[120]⟩ (by decide))
  have hne : g ≠ q := fun e => HO.out.apart HB.out q rfl e.symm
  have HN := Lib.hid hn
  have HQ := Lib.hid (And.intro hq hne)
  have x6 := HB.out.cell 6
  simp at x6
  clear hb hb2 ho hB hn hq hne
  go_enter Try.func34, Try.ntmps34
  go_wp2
  go_end0
  exact ⟨rfl, ⟨_, HB.out.far (p := ⟨q, 3, none⟩) HQ.out.2 _, HN.out, ⟨⟨rfl, rfl⟩, ⟨rfl, rfl⟩, rfl, rfl⟩⟩, (Below.refl _ _).setCell (p := ⟨q, 3, none⟩) HQ.out.1 _⟩
set_option maxRecDepth 100000 in
theorem do6 (w : World) (B g : Nat) (h : PtO w B g goodP) (hB : B ≤ g) : Calls Try.prog 32 #[.pointer (some ⟨g, 0, none⟩)] w (DoT w B g (badP 6)) := by
  unfold DoT
  obtain ⟨sv, hb, ho, -⟩ := h
  obtain ⟨a, c, rfl, -⟩ := ho.rd
  have hb2 : Blk w g 30 #[.int .u64 1, .int .u64 1, .int .u64 2, .int .u64 1, .int .i64 1, .int .i64 3, .slice a 2 c] := hb
  have HB := Lib.hid hb2
  have HO := Lib.hid (show OwC w B (.slice a 2 c) gCs from ho)
  have HG := Lib.hid hB
  clear hb hb2 ho hB
  go_enter Try.func32, Try.ntmps32
  go_wp2_with fail
  refine (guid_any 1 1 _).mono ?_
  rintro e w2 ⟨rfl, hb⟩
  have HBB := Lib.hid hb
  have HB2 := Lib.hid (HB.out.keep hb)
  have HO2 := Lib.hid (HO.out.keep hb)
  have HLT := Lib.hid (show B ≤ w.heap.size from Nat.le_trans HG.out (Nat.le_of_lt HB.out.lt))
  unfold aggG
  clear hb
  go_wp2_with (refine wpList_store_mid rfl 24 _ _ rfl g 2 #[.int .u64 1, .int .u64 1] rfl rfl (HB2.out.there (by show 2 + 2 ≤ 7; decide)) (by kernel_rfl) (guid_two _ _) ?_)
  go_wp2
  go_end0
  exact ⟨rfl, ⟨_, (HB2.out.set 2 (.int .u64 1)).set 3 (.int .u64 1), (HO2.out.setFar (p := ⟨g, 2, none⟩) (fun b hb => HO2.out.apart HB2.out b hb) (.int .u64 1)).setFar (p := ⟨g, 3, none⟩) (fun b hb => HO2.out.apart HB2.out b hb) (.int .u64 1), ⟨⟨rfl, rfl⟩, ⟨rfl, rfl⟩, rfl, rfl⟩⟩, ((HBB.out.mono HLT.out).setCell (p := ⟨g, 2, none⟩) HG.out (.int .u64 1)).setCell (p := ⟨g, 3, none⟩) HG.out (.int .u64 1)⟩
set_option maxRecDepth 100000 in
theorem do5 (w : World) (B g : Nat) (h : PtO w B g goodP) (hB : B ≤ g) : Calls Try.prog 31 #[.pointer (some ⟨g, 0, none⟩)] w (DoT w B g (badP 5)) := by
  unfold DoT
  obtain ⟨sv, hb, ho, -⟩ := h
  obtain ⟨a, c, rfl, -⟩ := ho.rd
  have hb2 : Blk w g 30 #[.int .u64 1, .int .u64 1, .int .u64 2, .int .u64 1, .int .i64 1, .int .i64 3, .slice a 2 c] := hb
  have HB := Lib.hid hb2
  have HO := Lib.hid (show OwC w B (.slice a 2 c) gCs from ho)
  have HG := Lib.hid hB
  clear hb hb2 ho hB
  go_enter Try.func31, Try.ntmps31
  go_wp2_with fail
  refine (three_any _).mono ?_
  rintro e w2 ⟨u, rfl, hu, hb⟩
  have HBB := Lib.hid hb
  have HB2 := Lib.hid (HB.out.keep hb)
  have HLT := Lib.hid (show B ≤ w.heap.size from Nat.le_trans HG.out (Nat.le_of_lt HB.out.lt))
  obtain ⟨a3, c3, rfl, -⟩ := hu.rd
  have hl3 : (madeP threeM).length = 3 := by decide
  rw [hl3] at hu ⊢
  have HU := Lib.hid hu
  have x6 := HB2.out.cell 6
  simp at x6
  have f6 := HB2.out.frozen 6
  clear hb hu hl3
  go_wp2
  go_end0
  exact ⟨rfl, ⟨_, HB2.out.set 6 (.slice a3 3 c3), (HU.out.mono HLT.out).setFar (p := ⟨g, 6, none⟩) (fun b hb => HU.out.apart HB2.out b hb) (.slice a3 3 c3), ⟨⟨rfl, rfl⟩, ⟨rfl, rfl⟩, rfl, rfl⟩⟩, (HBB.out.mono HLT.out).setCell (p := ⟨g, 6, none⟩) HG.out (.slice a3 3 c3)⟩
set_option maxRecDepth 100000 in
theorem do9 (w : World) (B g : Nat) (h : PtO w B g goodP) (hB : B ≤ g) : Calls Try.prog 35 #[.pointer (some ⟨g, 0, none⟩)] w (DoT w B g (badP 9)) := by
  unfold DoT
  obtain ⟨sv, hb, ho, -⟩ := h
  obtain ⟨a, c, rfl, -⟩ := ho.rd
  have hb2 : Blk w g 30 #[.int .u64 1, .int .u64 1, .int .u64 2, .int .u64 1, .int .i64 1, .int .i64 3, .slice a 2 c] := hb
  have HB := Lib.hid hb2
  have HO := Lib.hid (show OwC w B (.slice a 2 c) gCs from ho)
  have HG := Lib.hid hB
  have x0 := HB.out.cell 0
  have x1 := HB.out.cell 1
  have x2 := HB.out.cell 2
  have x3 := HB.out.cell 3
  have x4 := HB.out.cell 4
  have x5 := HB.out.cell 5
  have x6 := HB.out.cell 6
  simp at x0 x1 x2 x3 x4 x5 x6
  have f0 := HB.out.frozen 0
  have f1 := HB.out.frozen 1
  have f2 := HB.out.frozen 2
  have f3 := HB.out.frozen 3
  have f4 := HB.out.frozen 4
  have f5 := HB.out.frozen 5
  have f6 := HB.out.frozen 6
  clear hb hb2 ho hB
  go_enter Try.func35, Try.ntmps35
  go_wp2_with fail
  clear x0 x1 x2 x3 x4 x5 x6 f0 f1 f2 f3 f4 f5 f6
  have h3 := (HB.out.set 5 (.int .i64 0)).set 4 (.int .i64 0)
  have hbe := ((Below.refl B w).setCell (p := ⟨g, 5, none⟩) HG.out (.int .i64 0)).setCell (p := ⟨g, 4, none⟩) HG.out (.int .i64 0)
  generalize (w.setCell ⟨g, 5, none⟩ (.int .i64 0)).setCell ⟨g, 4, none⟩ (.int .i64 0) = w1 at *
  have H3 := Lib.hid h3
  have HBE := Lib.hid hbe
  clear h3 hbe
  refine (three_any _).mono ?_
  rintro e w2 ⟨u, rfl, hu, hb⟩
  obtain ⟨a3, c3, rfl, -⟩ := hu.rd
  have hu2 : OwC w2 w1.heap.size (.slice a3 3 c3) (madeP threeM) := hu
  have hl3 : (madeP threeM).length = 3 := by decide
  rw [hl3]
  have HLT := Lib.hid (show B ≤ w1.heap.size from Nat.le_trans HG.out (Nat.le_of_lt H3.out.lt))
  have H4 := Lib.hid (H3.out.keep hb)
  have HBF := Lib.hid (HBE.out.trans (hb.mono HLT.out))
  have HU := Lib.hid (hu2.take (k := 1) (by decide))
  have hc3 : 3 ≤ c3 := by
    rcases hu2.1.2 with ⟨e, h0⟩ | ⟨q, cap, cur, e, -, -, h, -⟩
    · exact absurd h0 (by decide)
    · simp only [Value.slice.injEq] at e
      rw [e.2.2]
      exact h
  have i1 : (1 : Int) ≤ (c3 : Int) := by omega
  have i2 : 1 ≤ c3 := by omega
  have i3 : ¬ c3 = 0 := by omega
  have x6 := H4.out.cell 6
  simp at x6
  have f6 := H4.out.frozen 6
  clear hb hu hu2 hc3 hl3
  go_wp2
  go_end0
  exact ⟨rfl, ⟨_, H4.out.set 6 (.slice a3 1 c3), (HU.out.mono HLT.out).setFar (p := ⟨g, 6, none⟩) (fun b hb => HU.out.apart H4.out b hb) (.slice a3 1 c3), ⟨⟨rfl, rfl⟩, ⟨rfl, rfl⟩, rfl, rfl⟩⟩, HBF.out.setCell (p := ⟨g, 6, none⟩) HG.out (.slice a3 1 c3)⟩
set_option maxRecDepth 100000 in
set_option maxHeartbeats 1000000 in
/-- 'with': a copy of the part, and what is done to it -/
theorem with_any (fid : FuncId) (p : Prt) (w : World) (gq : Nat) (a : Option Addr) (c : Nat) (hg : Blk w gq 30 #[.int .u64 1, .int .u64 1, .int .u64 2, .int .u64 1, .int .i64 1, .int .i64 3, .slice a 2 c]) (hi : InPr w (.agg #[.int .u64 1, .int .u64 1, .int .u64 2, .int .u64 1, .int .i64 1, .int .i64 3, .slice a 2 c]) goodP)
    (hf : ∀ (args : Array Value) (w : World), (callFunc fid args).run Try.prog w = .ok (.enter fid args) w) (hdo : ∀ w B g, PtO w B g goodP → B ≤ g → Calls Try.prog fid #[.pointer (some ⟨g, 0, none⟩)] w (DoT w B g p)) :
    Calls Try.prog 25 #[.func (.func fid) #[] #[], .pointer (some ⟨gq, 0, none⟩)] w fun e w' => ∃ v, e = .returned v ∧ OwPr w' w.heap.size v p ∧ Below w.heap.size w w' := by
  have hb0 := (Below.refl w.heap.size w).alloc (Nat.le_refl _) (Obj.cells #[.int .u64 0, .int .u64 0, .int .u64 0, .int .u64 0, .int .i64 0, .int .i64 0, .slice none 0 0] 30)
  have hz := Blk.new w 30 #[.int .u64 0, .int .u64 0, .int .u64 0, .int .u64 0, .int .i64 0, .int .i64 0, .slice none 0 0]
  have hg2 := hg.keep hb0
  have hi2 := hi.keep hb0
  have x0 := hg2.cell 0
  have x1 := hg2.cell 1
  have x2 := hg2.cell 2
  have x3 := hg2.cell 3
  have x4 := hg2.cell 4
  have x5 := hg2.cell 5
  have x6 := hg2.cell 6
  simp at x0 x1 x2 x3 x4 x5 x6
  have HDO := Lib.hid hdo
  have HB0 := Lib.hid hb0
  have HZ := Lib.hid hz
  have HI := Lib.hid hi2
  clear hg hi hg2 hi2 hb0 hz hdo
  go_enter Try.func25, Try.ntmps25
  go_wp2_with fail
  generalize w.alloc (Obj.cells #[.int .u64 0, .int .u64 0, .int .u64 0, .int .u64 0, .int .i64 0, .int .i64 0, .slice none 0 0] 30) = w1 at *
  clear x0 x1 x2 x3 x4 x5 x6
  refine (short_any w1 _ goodP HI.out).mono ?_
  rintro e w2 ⟨⟨v, rfl, hv⟩, hb⟩
  rw [good_short] at hv
  obtain ⟨sv, rfl, hs, -⟩ := hv
  obtain ⟨a2, c2, rfl, -⟩ := hs.rd
  have hs2 : OwC w2 w1.heap.size (.slice a2 2 c2) gCs := hs
  have HV := Lib.hid hs2
  have e0 : prV goodP (.slice a2 goodP.cs.length c2) = .agg #[.int .u64 1, .int .u64 1, .int .u64 2, .int .u64 1, .int .i64 1, .int .i64 3, .slice a2 2 c2] := rfl
  rw [e0]
  have HLT := Lib.hid (show w.heap.size < w1.heap.size from HZ.out.lt)
  have HB2 := Lib.hid (HB0.out.trans (hb.mono HB0.out.size))
  have HZ2 := Lib.hid (And.intro (HZ.out.keep hb) hb.size)
  clear hb hs hs2 HI HZ HB0 e0
  go_wp2_with fail
  have hb3 := (Below.refl w2.heap.size w2).alloc (Nat.le_refl _) (Obj.cells #[.int .u64 1, .int .u64 1, .int .u64 2, .int .u64 1, .int .i64 1, .int .i64 3, .slice a2 2 c2] 30)
  have hk3 := Blk.new w2 30 #[.int .u64 1, .int .u64 1, .int .u64 2, .int .u64 1, .int .i64 1, .int .i64 3, .slice a2 2 c2]
  generalize hgn : w2.heap.size = g at *
  generalize w2.alloc (Obj.cells #[.int .u64 1, .int .u64 1, .int .u64 2, .int .u64 1, .int .i64 1, .int .i64 3, .slice a2 2 c2] 30) = w3 at *
  have HO3 := Lib.hid (show PtO w3 w1.heap.size g goodP from ⟨.slice a2 2 c2, hk3, HV.out.keep (by rw [hgn]; exact hb3), good_wf⟩)
  have HB3 := Lib.hid (HB2.out.trans (hb3.mono (by rw [← hgn]; exact HB2.out.size)))
  have HZ3 := Lib.hid (show Blk w3 w.heap.size 30 #[.int .u64 0, .int .u64 0, .int .u64 0, .int .u64 0, .int .i64 0, .int .i64 0, .slice none 0 0] ∧ w1.heap.size ≤ g from ⟨HZ2.out.1.keep (by rw [hgn]; exact hb3), HZ2.out.2⟩)
  clear hb3 hk3 hgn HB2 HZ2 HV
  refine (HDO.out w3 _ g HO3.out HZ3.out.2).mono ?_
  rintro e w4 ⟨rfl, hp, hb⟩
  have HZ4 := Lib.hid (HZ3.out.1.below hb HLT.out)
  have HB4 := Lib.hid (HB3.out.trans (hb.mono (Nat.le_of_lt HLT.out)))
  obtain ⟨sv, h1, h2, h3⟩ := hp
  obtain ⟨a5, c5, rfl, -⟩ := h2.rd
  have y0 := h1.cell 0
  have y1 := h1.cell 1
  have y2 := h1.cell 2
  have y3 := h1.cell 3
  have y4 := h1.cell 4
  have y5 := h1.cell 5
  have y6 := h1.cell 6
  simp [prC] at y0 y1 y2 y3 y4 y5 y6
  have HO5 := Lib.hid (And.intro h2 h3)
  generalize hpl : p.cs.length = m at *
  clear hb h1 h2 h3 hf
  go_wp2_with (refine wpList_store_then rfl 30 _ _ rfl w.heap.size #[.int .u64 p.b.1, .int .u64 p.b.2, .int .u64 p.t.1, .int .u64 p.t.2, .int .i64 p.f, .int .i64 p.a, .slice a5 m c5] rfl rfl 30 _ HZ4.out part_size rfl (part_one _ _ _ _ _ _ _ _ _) ?_)
  refine Later.mk fun w9 hw9 => ?_
  have H9 := Lib.hid (show Below w.heap.size w w9 ∧ Blk w9 w.heap.size 30 #[.int .u64 p.b.1, .int .u64 p.b.2, .int .u64 p.t.1, .int .u64 p.t.2, .int .i64 p.f, .int .i64 p.a, .slice a5 m c5] ∧ OwC w9 w1.heap.size (.slice a5 m c5) p.cs by
    rw [hw9]
    exact ⟨Below.setRow HB4.out (Nat.le_refl _) _, HZ4.out.row _, HO5.out.1.farRow HLT.out _⟩)
  clear hw9 y0 y1 y2 y3 y4 y5 y6
  go_wp2
  refine bodyPost_ret (results_cell (ty := 30) (g := w.heap.size) (k := 3) rfl rfl H9.out.2.1 Try.underlying30 rfl part_size) rfl ⟨_, rfl, ⟨_, rfl, H9.out.2.2.mono (Nat.le_of_lt HLT.out), HO5.out.2⟩, H9.out.1⟩
end Go.Proofs.Ytpfdpodelkleiaa
