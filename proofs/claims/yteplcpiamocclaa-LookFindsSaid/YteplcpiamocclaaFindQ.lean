/-
  LookFinds: what its two drawn regions keep.
-/
import Derived.Test.YteplcpiamocclaaFindP
namespace Go.Proofs.Yteplcpiamocclaa
open Go.RowKit Reg Go.ChangeShapes

theorem exec_store_mid {P : Program} {o : Oper} {a : Act} {w : World} (ty : TypeId) (x y : Operand) (ho : o.op = .store ty x y) (g off : Nat) (cells : Array Value) (hx : a.eval x = .pointer (some ⟨g, off, none⟩)) (hy : a.eval y = .agg cells)
    (ht : w.there g off cells.size) (hi : (P.info? ty).map (·.size) = some cells.size) (h1 : cells.all (·.oneCell') = true) :
    (execOp a.eval o).run P w = .ok .skip (w.setCells g off cells.toList) := by
  unfold execOp
  simp only [ho, hx, hy, Instr.storeAt, Instr.sureAddr, Sem.run_bind, Sem.run_pure, Result.andThen_ok, run_storeVar_mid w g off ty cells ht hi h1]
theorem setCells_two (w : World) (g o : Nat) (x y : Value) : w.setCells g o [x, y] = (w.setCell ⟨g, o, none⟩ x).setCell ⟨g, o + 1, none⟩ y := rfl
section
variable {w w' : World} {g n cap base : Nat} {es : List El}
theorem CpS.below (h : CpS w g n cap es) (hb : Below base w w') (hg : g < base) : CpS w' g n cap es := by
  obtain ⟨cur, h1, h2⟩ := h
  exact ⟨cur, h1.below hb hg, h2⟩
end
theorem OwG.lt_ {w : World} {base k cap : Nat} {a : Option Addr} {gs : List Gd} (h : OwG w base (.slice a k cap) gs) (hp : 0 < gs.length) :
    ∃ q, a = some ⟨q, 0, none⟩ ∧ base ≤ q ∧ k = gs.length ∧ gs.length ≤ cap ∧ ∀ p, p < gs.length → w.there q (p * 2) 2 := by
  rcases h.1.2 with ⟨h0, h00⟩ | ⟨q, cap', cur, e, hg, hh, hc, hm, hs, ht⟩
  · omega
  · simp only [Value.slice.injEq] at e
    obtain ⟨rfl, rfl, rfl⟩ := e
    refine ⟨q, rfl, hg, rfl, hc, fun p hp j hj => ?_⟩
    have hb : Blk w q 34 cur := hh
    refine ⟨?_, hb.frozen _⟩
    rw [hb.cell]
    have : p * 2 + j < cur.size := by omega
    simp [this]
/-- while a guid is stored into the copy's line -/
structure FC (w1 : World) (gw nl cap q50 qx base : Nat) (bx : Array Value) (es : List El) (v : Value) (l : List Gd) (w : World) : Prop where
  below : Below w1.heap.size w1 w
  cp : CpS w gw nl cap es
  k50 : Blk w q50 34 #[.int .u64 50, .int .u64 1]
  kx : Blk w qx 31 bx
  own : OwG w base v l
  lt : gw < base ∧ q50 < base ∧ qx < base ∧ w1.heap.size ≤ base ∧ base ≤ w.heap.size
section
variable {w1 w w' : World} {gw nl cap q50 qx base : Nat} {bx : Array Value} {es : List El} {v : Value} {l : List Gd}
theorem FC.drew (h : FC w1 gw nl cap q50 qx base bx es v l w) : FC w1 gw nl cap q50 qx base bx es v l w.drew :=
  have hb := (Below.refl w.heap.size w).drew
  ⟨h.below.drew, h.cp.keep hb, h.k50.drew, h.kx.drew, h.own.keep hb, h.lt⟩
theorem FC.put {q k c p : Nat} (h : FC w1 gw nl cap q50 qx base bx es (.slice (some ⟨q, 0, none⟩) k c) l w) (hq : base ≤ q) (hp : p < l.length) :
    FC w1 gw nl cap q50 qx base bx es (.slice (some ⟨q, 0, none⟩) k c) (l.set p othG) (w.setCells q (p * 2) [.int .u64 50, .int .u64 1]) := by
  have hlt := h.lt
  have h1 : gw ≠ q := by omega
  have h2 : q50 ≠ q := by omega
  have h3 : qx ≠ q := by omega
  have h4 : w1.heap.size ≤ q := by omega
  refine ⟨?_, (h.cp.far (p := ⟨q, p * 2, none⟩) h1 _).far (p := ⟨q, p * 2 + 1, none⟩) h1 _, (h.k50.far (p := ⟨q, p * 2, none⟩) h2 _).far (p := ⟨q, p * 2 + 1, none⟩) h2 _, (h.kx.far (p := ⟨q, p * 2, none⟩) h3 _).far (p := ⟨q, p * 2 + 1, none⟩) h3 _, h.own.set othG ⟨by decide, by decide⟩ hp, ?_⟩
  · exact (h.below.setCell (p := ⟨q, p * 2, none⟩) h4 _).setCell (p := ⟨q, p * 2 + 1, none⟩) h4 _
  · rw [setCells_two]
    simpa using h.lt
end
def FCs (w1 : World) (gw nl cap q50 qx base : Nat) (bx : Array Value) (es : List El) (v : Value) (l : List Gd) (p : Nat) (σ : Nat → Option Value) (w : World) : Prop :=
  FC w1 gw nl cap q50 qx base bx es v (if (σ 9).isSome = true then l.set p othG else l) w
/-- while a list is laid and stored into the copy -/
structure FL (w1 : World) (gw nl cap base : Nat) (es : List El) (i : Nat) (l1 l2 : List Gd) (σ : Nat → Option Value) (w : World) : Prop where
  below : Below w1.heap.size w1 w
  cp0 : σ 22 = none → CpS w gw nl cap es
  cp1 : ∀ u, σ 22 = some u → ∃ sa sc, σ 19 = some (.slice sa (l1 ++ l2).length sc) ∧ CpS w gw nl cap (es.set i { nth es i with list := l1 ++ l2, sa := sa, sc := sc })
  a : ∀ u, σ 2 = some u → σ 10 = none → OwG w base u []
  b : ∀ u, σ 10 = some u → σ 19 = none → OwG w base u l1
  c : ∀ u, σ 19 = some u → OwG w base u (l1 ++ l2)
  d1 : σ 10 = none → σ 19 = none
  d2 : σ 19 = none → σ 22 = none
  lt : gw < base ∧ w1.heap.size ≤ gw ∧ base ≤ w.heap.size
section
variable {w1 w w' : World} {gw nl cap base i : Nat} {es : List El} {l1 l2 : List Gd} {σ : Nat → Option Value} {u : Value}
theorem FL.start (hb : Below w1.heap.size w1 w) (hc : CpS w gw nl cap es) (h1 : gw < w.heap.size) (h2 : w1.heap.size ≤ gw) : FL w1 gw nl cap w.heap.size es i l1 l2 (fun _ => none) w.drew :=
  ⟨hb.drew, (fun _ => hc.keep (Below.refl w.heap.size w).drew), (fun _ h => by cases h), (fun _ h => by cases h), (fun _ h => by cases h), (fun _ h => by cases h), fun _ => rfl, fun _ => rfl, h1, h2, Nat.le_refl _⟩
theorem FL.two (h : FL w1 gw nl cap base es i l1 l2 σ w) : FL w1 gw nl cap base es i l1 l2 (upd σ 2 (.slice (some ⟨w.heap.size, 0, none⟩) 0 0)) (w.alloc (.cells #[] 34)) := by
  have hb := (Below.refl w.heap.size w).alloc (Nat.le_refl _) (Obj.cells #[] 34)
  have hlt := h.lt
  refine ⟨h.below.trans (hb.mono h.below.size), fun e => (h.cp0 (by simpa [upd] using e)).keep hb, fun u e => ?_, fun u e e2 => ?_, fun u e e2 => ?_, fun u e => ?_, fun e => ?_, fun e => ?_, hlt.1, hlt.2.1, Nat.le_trans hlt.2.2 hb.size⟩
  · obtain ⟨sa, sc, h1, h2⟩ := h.cp1 u (by simpa [upd] using e)
    exact ⟨sa, sc, by simpa [upd] using h1, h2.keep hb⟩
  · rw [upd_same] at e
    obtain rfl := Option.some.inj e
    exact (OwG.empty w).mono hlt.2.2
  · exact (h.b u (by simpa [upd] using e) (by simpa [upd] using e2)).keep hb
  · exact (h.c u (by simpa [upd] using e)).keep hb
  · simpa [upd] using h.d1 (by simpa [upd] using e)
  · simpa [upd] using h.d2 (by simpa [upd] using e)
theorem FL.ten (h : FL w1 gw nl cap base es i l1 l2 σ w) (hn : σ 10 = none) (hb : Below base w w') (ho : OwG w' base u l1) : FL w1 gw nl cap base es i l1 l2 (upd σ 10 u) w' := by
  have hlt := h.lt
  have h19 := h.d1 hn
  have h22 := h.d2 h19
  refine ⟨h.below.trans (hb.mono (by omega)), fun e => (h.cp0 h22).below hb hlt.1, fun u e => ?_, fun u e e2 => ?_, fun u e e2 => ?_, fun u e => ?_, fun e => ?_, fun e => ?_, hlt.1, hlt.2.1, Nat.le_trans hlt.2.2 hb.size⟩
  · rw [upd_other _ _ (by decide), h22] at e; cases e
  · rw [upd_same] at e2; cases e2
  · rw [upd_same] at e
    obtain rfl := Option.some.inj e
    exact ho
  · rw [upd_other _ _ (by decide), h19] at e; cases e
  · rw [upd_same] at e; cases e
  · rw [upd_other _ _ (by decide)]; exact h22
theorem FL.nineteen (h : FL w1 gw nl cap base es i l1 l2 σ w) (hn : σ 19 = none) (h10 : (σ 10).isSome = true) (hb : Below base w w') (ho : OwG w' base u (l1 ++ l2)) : FL w1 gw nl cap base es i l1 l2 (upd σ 19 u) w' := by
  have hlt := h.lt
  have h22 := h.d2 hn
  refine ⟨h.below.trans (hb.mono (by omega)), fun e => (h.cp0 h22).below hb hlt.1, fun u e => ?_, fun u e e2 => ?_, fun u e e2 => ?_, fun u e => ?_, fun e => ?_, fun e => ?_, hlt.1, hlt.2.1, Nat.le_trans hlt.2.2 hb.size⟩
  · rw [upd_other _ _ (by decide), h22] at e; cases e
  · rw [upd_other _ _ (by decide)] at e2; rw [e2] at h10; cases h10
  · rw [upd_same] at e2; cases e2
  · rw [upd_same] at e
    obtain rfl := Option.some.inj e
    exact ho
  · rw [upd_other _ _ (by decide)] at e; rw [e] at h10; cases h10
  · rw [upd_same] at e; cases e
theorem FL.store (h : FL w1 gw nl cap base es i l1 l2 σ w) (hn : σ 22 = none) {sa : Option Addr} {sc : Nat} (h19 : σ 19 = some (.slice sa (l1 ++ l2).length sc)) (hi : i < nl) :
    FL w1 gw nl cap base es i l1 l2 (upd σ 22 u) (w.setCell ⟨gw, i * 9 + 6, none⟩ (.slice sa (l1 ++ l2).length sc)) := by
  have hlt := h.lt
  have hab : ∀ {x gs}, OwG w base x gs → OwG (w.setCell ⟨gw, i * 9 + 6, none⟩ (.slice sa (l1 ++ l2).length sc)) base x gs := fun ho => ho.above fun b hb => by
    simp only [World.setCell, Array.getElem?_modify]
    rw [if_neg (by omega)]
  refine ⟨h.below.setCell (p := ⟨gw, i * 9 + 6, none⟩) hlt.2.1 _, fun e => ?_, fun u e => ?_, fun u e e2 => ?_, fun u e e2 => ?_, fun u e => ?_, fun e => ?_, fun e => ?_, hlt.1, hlt.2.1, ?_⟩
  · rw [upd_same] at e; cases e
  · exact ⟨sa, sc, by rw [upd_other _ _ (by decide)]; exact h19, (h.cp0 hn).set (k := 6) _ _ hi (by decide) rfl⟩
  · exact hab (h.a u (by simpa [upd] using e) (by simpa [upd] using e2))
  · exact hab (h.b u (by simpa [upd] using e) (by simpa [upd] using e2))
  · exact hab (h.c u (by simpa [upd] using e))
  · rw [upd_other _ _ (by decide)] at e; rw [h.d1 e] at h19; cases h19
  · rw [upd_other _ _ (by decide), h19] at e; cases e
  · simpa using hlt.2.2
end
end Go.Proofs.Yteplcpiamocclaa
