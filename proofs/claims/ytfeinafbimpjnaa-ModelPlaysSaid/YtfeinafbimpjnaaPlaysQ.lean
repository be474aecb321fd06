/-
  WHAT ModelPlays KEEPS TRUE while it commits a list of its own and turns it afterwards; the regions' relations. No walk in it.
-/
import Derived.Test.YtfeinafbimpjnaaPlaysP
namespace Go.Proofs.Ytfeinafbimpjnaa
open Go.RowKit Reg Go.WideShapes Go.ChangeShapes

theorem cellsG_set : ∀ (gs : List Gd) (j : Nat) (c : Int), (cellsG gs).set (j * 2 + 1) (.int .u64 c) = cellsG (gs.set j ((gs.getD j (0, 0)).1, c))
  | [], j, c => by simp [cellsG]
  | g :: gs, j, c => by
    cases j with
    | zero => simp [cellsG]
    | succ j =>
      have := cellsG_set gs j c
      rw [show (j + 1) * 2 + 1 = j * 2 + 1 + 1 + 1 by omega]
      simp only [cellsG, List.flatMap_cons] at this ⊢
      simp only [List.cons_append, List.nil_append, List.set_cons_succ, List.getD_cons_succ, this, List.flatMap_cons]
theorem OwG.block {w : World} {base : Nat} {v : Value} {gs : List Gd} (h : OwG w base v gs) (hn : 0 < gs.length) :
    ∃ g cap, v = .slice (some ⟨g, 0, none⟩) gs.length cap ∧ base ≤ g ∧ g < w.heap.size ∧ (∀ j, w.frozen? ⟨g, j, none⟩ = false) ∧ ∀ j, j < gs.length → w.cell? ⟨g, j * 2 + 1, none⟩ = some (.int .u64 (gs.getD j (0, 0)).2) := by
  obtain ⟨a, c, rfl, -, hx⟩ := h.rd.open_
  rcases h.1.2 with ⟨e, h0⟩ | ⟨g, cap, cur, e, hg, hh, _⟩
  · omega
  · simp only [Value.slice.injEq] at e
    obtain ⟨rfl, -, rfl⟩ := e
    refine ⟨g, c, rfl, hg, lt_of_block hh, fun j => h.1.frozenAt j, fun j hj => ?_⟩
    obtain ⟨g', off, e1, -, e2⟩ := hx j hj
    simp only [Option.some.injEq, Addr.mk.injEq, and_true] at e1
    obtain ⟨rfl, rfl⟩ := e1
    rw [Nat.zero_add] at e2
    exact e2
theorem OwG.set {w : World} {base g cap n : Nat} {gs : List Gd} (h : OwG w base (.slice (some ⟨g, 0, none⟩) n cap) gs) (j : Nat) (c : Int) (hc : (Lit.int .u64 c).wf = true) :
    OwG (w.setCell ⟨g, j * 2 + 1, none⟩ (.int .u64 c)) base (.slice (some ⟨g, 0, none⟩) n cap) (gs.set j ((gs.getD j (0, 0)).1, c)) := by
  have hn : n = gs.length := by
    rcases h.1.2 with ⟨h1, _⟩ | ⟨_, _, _, h1, _⟩
    · cases h1
    · simp only [Value.slice.injEq] at h1
      exact h1.2.1
  subst hn
  refine ⟨?_, by rw [List.length_set]; exact h.2.1, fun z hz => ?_⟩
  · have := (h.1.stored (j * 2 + 1) (.int .u64 c)).1
    rw [List.length_set, ← cellsG_set]
    exact this
  · rcases List.mem_or_eq_of_mem_set hz with hz | rfl
    · exact h.2.2 z hz
    · exact ⟨(h.rd.wf j).1, hc⟩
theorem OwG.empty (w : World) : OwG (w.alloc (.cells #[] 34)) w.heap.size (.slice (some ⟨w.heap.size, 0, none⟩) 0 0) [] :=
  ⟨own_new w w.heap.size 34 #[] 2 0 rfl (Nat.le_refl _) (by decide), by simp, by simp⟩
/-- while a list of the law's own is about -/
structure PLC (w0 w : World) (bm bl bi q : Nat) (S : Mdl) (R : Rf) (v : Value) (l : List Gd) : Prop where
  below : Below w0.heap.size w0 w
  md : Md w bm bl bi S
  rm : ∃ sl si sc lv iv, RMx w w0.heap.size q R sl si sc lv iv ∧ ∀ g, v.ownBlock = some g → sc.ownBlock ≠ some g
  fpge : ∀ b, fp bm bl bi b → w0.heap.size ≤ b
  own : OwG w w0.heap.size v l
  far : ∀ g, v.ownBlock = some g → lsb w bm ≠ some g
section
variable {w0 w w' w'' : World} {bm bl bi q : Nat} {S S' : Mdl} {R R' : Rf} {v : Value} {l : List Gd}
theorem PLC.pli (h : PLC w0 w bm bl bi q S R v l) : PLI w0 w bm bl bi q S R := by
  obtain ⟨sl, si, sc, lv, iv, hx, _⟩ := h.rm
  exact ⟨h.below, h.md, ⟨sl, si, sc, lv, iv, hx⟩, h.fpge⟩
theorem PLC.base (h : PLC w0 w bm bl bi q S R v l) : w0.heap.size ≤ w.heap.size := h.below.size
theorem PLC.start (h : PLI w0 w bm bl bi q S R) (hb : Below w.heap.size w w') (ho : OwG w' w.heap.size v l) : PLC w0 w' bm bl bi q S R v l := by
  have h' := h.keep hb
  obtain ⟨sl, si, sc, lv, iv, hx⟩ := h.rm
  refine ⟨h'.below, h'.md, ⟨sl, si, sc, lv, iv, hx.keep hb, fun g hg e => ?_⟩, h.fpge, ho.mono h.base, fun g hg e => ?_⟩
  · have h1 := ho.from_ hg
    have h2 := own_in hx.rc.1 e
    omega
  · have h1 := ho.from_ hg
    rw [lsb_of_heap (hb.block bm (h.md.fp_lt' (.inl rfl)))] at e
    have h2 := h.md.lsb_lt e
    omega
theorem PLC.keep (h : PLC w0 w bm bl bi q S R v l) (hb : Below w.heap.size w w') : PLC w0 w' bm bl bi q S R v l := by
  have h' := h.pli.keep hb
  obtain ⟨sl, si, sc, lv, iv, hx, hf⟩ := h.rm
  refine ⟨h'.below, h'.md, ⟨sl, si, sc, lv, iv, hx.keep hb, hf⟩, h.fpge, h.own.keep hb, fun g hg => ?_⟩
  rw [lsb_of_heap (hb.block bm (h.md.fp_lt' (.inl rfl)))]
  exact h.far g hg
theorem PLC.commit (h : PLC w0 w bm bl bi q S R v l) (hm : Md w' bm bl bi S') (hk : Kp (fp bm bl bi) w w') (hl : Ls bm w w') : PLC w0 w' bm bl bi q S' R v l := by
  obtain ⟨sl, si, sc, lv, iv, hx, hf⟩ := h.rm
  refine ⟨h.below.trans (hk.below h.fpge h.base), hm, ⟨sl, si, sc, lv, iv, hx.fpk h.md hk, hf⟩, h.fpge, ⟨own_kp hk h.own.1 fun g hg => h.md.own_far h.own.1 (by decide) hg, h.own.2⟩, fun g hg => ?_⟩
  rcases hl with hl | hl
  · rw [hl]
    exact h.far g hg
  · intro e
    have h1 := hl g e
    have h2 := own_in h.own.1 hg
    omega
theorem PLC.rcommit (h : PLC w0 w bm bl bi q S R v l) (l' : List Gd) (v' : Value) (hv : InG w v' l') (hl' : l'.length ≤ 2 ^ 20) :
    Calls Try.prog 18 #[.pointer (some ⟨q, 0, none⟩), v'] w fun e w' => e = .returned (.bool (R.taken l')) ∧ PLC w0 w' bm bl bi q S (R.commit l') v l ∧ Kr w0.heap.size w w' := by
  obtain ⟨sl, si, sc, lv, iv, hx, hf⟩ := h.rm
  refine (rcommit_any v' l' w w0.heap.size q R sl si sc lv iv hx h.base hv hl').mono ?_
  rintro e w' ⟨rfl, ⟨sc', hx', hg'⟩, hk⟩
  have hbm : w'.heap[bm]? = w.heap[bm]? := by
    obtain ⟨sl, h1, _⟩ := h.md.obj
    exact (h1.kr hk (by unfold T4; decide)).trans h1.symm
  refine ⟨rfl, ⟨h.below.trans (hk.below h.base), hk.md h.md, ⟨sl, si, sc', lv, iv, hx', fun g hg e => ?_⟩, h.fpge, ⟨own_kp hk h.own.1 fun g hg ha => ?_, h.own.2⟩, fun g hg => ?_⟩, hk⟩
  · rcases hg' g e with e | e
    · exact hf g hg e
    · have h2 := own_in h.own.1 hg
      omega
  · obtain ⟨-, cs, t, h1, h2⟩ := ha
    obtain ⟨cs', h3⟩ := own_cells h.own.1 hg
    rw [h1] at h3
    simp only [Option.some.injEq, Obj.cells.injEq] at h3
    have := h3.2.1
    subst this
    revert h2
    unfold T4
    decide
  · rw [lsb_of_heap hbm]
    exact h.far g hg
theorem PLC.set {g n cap : Nat} (h : PLC w0 w bm bl bi q S R (.slice (some ⟨g, 0, none⟩) n cap) l) (j : Nat) (c : Int) (hc : (Lit.int .u64 c).wf = true) :
    PLC w0 (w.setCell ⟨g, j * 2 + 1, none⟩ (.int .u64 c)) bm bl bi q S R (.slice (some ⟨g, 0, none⟩) n cap) (l.set j ((l.getD j (0, 0)).1, c)) := by
  have hk := Kp.cell w g (j * 2 + 1) (.int .u64 c)
  have hgo : (Value.slice (some ⟨g, 0, none⟩) n cap).ownBlock = some g := rfl
  obtain ⟨cs, hcs⟩ := own_cells h.own.1 hgo
  have hge := h.own.from_ hgo
  have hnf := h.md.own_far h.own.1 (by decide) hgo
  obtain ⟨sl, si, sc, lv, iv, hx, hf⟩ := h.rm
  have hmd : Md (w.setCell ⟨g, j * 2 + 1, none⟩ (.int .u64 c)) bm bl bi S := h.md.kp hk (fun b hb e => hnf (e ▸ hb)) (fun b hb e => h.far g hgo (e ▸ hb))
  refine ⟨h.below.trans (hk.below (fun b e => e ▸ hge) h.base), hmd, ⟨sl, si, sc, lv, iv, hx.kp hk (fun b cs' t hb hc' => ?_) (fun b hb e => hf g hgo (e ▸ hb)), hf⟩, h.fpge, h.own.set j c hc, fun b hb => ?_⟩
  · subst hb
    rw [hcs] at hc'
    simp only [Option.some.injEq, Obj.cells.injEq] at hc'
    have := hc'.2.1
    subst this
    decide
  · rw [lsb_of_heap (hk.2 bm (h.md.fp_lt' (.inl rfl)) fun e => hnf (.inl e.symm))]
    exact h.far b hb
end
/-- a region whose special operation k turns the document's model -/
structure UR (w6 : World) (base k : Nat) (M0 M1 : World → Prop) (σ : Nat → Option Value) (w : World) : Prop where
  kr : Kr base w6 w
  m0 : σ k = none → M0 w
  m1 : σ k ≠ none → M1 w
theorem UR.start {w6 : World} {base k : Nat} {M0 M1 : World → Prop} (h : M0 w6.drew) : UR w6 base k M0 M1 (fun _ => none) w6.drew := ⟨.of_below (Below.refl _ _).drew, fun _ => h, fun h => absurd rfl h⟩
theorem UR.put {w6 w w' : World} {base k : Nat} {M0 M1 : World → Prop} {σ : Nat → Option Value} {u : Value} (h : UR w6 base k M0 M1 σ w) (hk : Kr base w w') (hm : M1 w') : UR w6 base k M0 M1 (upd σ k u) w' :=
  ⟨h.kr.trans hk, (fun e => by rw [upd_same] at e; cases e), fun _ => hm⟩
theorem UR.more {w6 w w' : World} {base k j : Nat} {M0 M1 : World → Prop} {σ : Nat → Option Value} {u : Value} (h : UR w6 base k M0 M1 σ w) (hj : k ≠ j) (hb : Below w.heap.size w w') (h0 : M0 w → M0 w') (h1 : M1 w → M1 w') : UR w6 base k M0 M1 (upd σ j u) w' :=
  ⟨h.kr.trans (.of_below hb), (fun e => by rw [upd_other _ _ hj] at e; exact h0 (h.m0 e)), fun e => by rw [upd_other _ _ hj] at e; exact h1 (h.m1 e)⟩
/-- what the special operations of the comparing region give -/
def kindsP (n s : Nat) (u : Value) : Prop := if s = 11 then ∃ a c, u = .slice a n c else kinds [(2, .is (.bool true)), (16, .is (.bool true))] s u
theorem kindsP_inh (n s : Nat) : ∃ u, kindsP n s u := by
  unfold kindsP
  split
  · exact ⟨.slice none n 0, none, 0, rfl⟩
  · exact kinds_inh _ s
/-- a list that comes up in a region that only grows -/
def FL (L : List Gd) (base s : Nat) (w : World) (u : Value) : Prop := s = 11 → OwG w base u L
theorem FL.stable {L : List Gd} {base : Nat} : Stable (FL L base) := fun _ _ _ _ h hb e => (h e).keep hb
theorem RM.com_open {w : World} {base q : Nat} {R : Rf} (h : RM w base q R) : ∃ a c, w.cell? ⟨q, 3, none⟩ = some (.slice a R.com.length c) ∧ OwG w base (.slice a R.com.length c) R.com := by
  obtain ⟨sl, si, sc, lv, iv, hx⟩ := h
  have c3 := hx.obj.cell 3
  simp at c3
  obtain ⟨a, c, e, -, -⟩ := hx.rc.rd.open_
  subst e
  exact ⟨a, c, c3, hx.rc⟩
theorem RM.start {w : World} {base : Nat} {n : Int} (hn : 1 ≤ n ∧ n ≤ 8) (hb : base ≤ w.heap.size) :
    RM (w.alloc (.cells #[.int .i64 n, .slice none 0 0, .slice none 0 0, .slice none 0 0] 31)) base w.heap.size (Rf.new n) :=
  ⟨nilV, nilV, nilV, [], [], hn, hb, Blk.new _ _ _, World.ownsRow_nil _ _ _ _, World.ownsRow_nil _ _ _ _, OwG.nil_ _ _, ⟨rfl, rfl⟩, ⟨rfl, rfl⟩, fun j hj => absurd hj (Nat.not_lt_zero j), fun j hj => absurd hj (Nat.not_lt_zero j), fun j _ _ hj => absurd hj (Nat.not_lt_zero j), fun j _ _ hj => absurd hj (Nat.not_lt_zero j)⟩
end Go.Proofs.Ytfeinafbimpjnaa
