/-
  WHICH BLOCKS TURN, AND SINGLE OPERATIONS (printed by wip/gen-metk.py out of the stream's texts).
-/
import Derived.Test.YtimgecflcackbaaMetE
import Derived.Deep.MidRow
import Derived.Great.BuildSlice
import Derived.ChangeKeysEq
import Derived.Laws.BytesArg
import Derived.Lib.SlBuf
namespace Go.Proofs.Ytimgecflcackbaa
open Go.RowKit Reg Go.WideShapes Go.ChangeShapes

/-- only the blocks A have turned, of those that were there -/
def Kp (A : Nat → Prop) (w w' : World) : Prop := Below 0 w w' ∧ ∀ b, b < w.heap.size → ¬ A b → w'.heap[b]? = w.heap[b]?
section
variable {A : Nat → Prop} {w w' w'' : World} {B : Nat}
theorem Kp.refl (A : Nat → Prop) (w : World) : Kp A w w := ⟨Below.refl _ _, fun _ _ _ => rfl⟩
theorem Kp.size (h : Kp A w w') : w.heap.size ≤ w'.heap.size := h.1.size
theorem Kp.trans (h : Kp A w w') (h' : Kp A w' w'') : Kp A w w'' := ⟨h.1.trans h'.1, fun b hb hA => (h'.2 b (Nat.lt_of_lt_of_le hb h.size) hA).trans (h.2 b hb hA)⟩
theorem Kp.of_below (h : Below w.heap.size w w') : Kp A w w' := ⟨h.mono (Nat.zero_le _), fun b hb _ => h.block b hb⟩
theorem Kp.below (h : Kp A w w') (hA : ∀ b, A b → B ≤ b) (hB : B ≤ w.heap.size) : Below B w w' :=
  ⟨h.1.os, h.1.tape, h.1.output, h.size, fun b hb => h.2 b (by omega) fun ha => by have := hA b ha; omega⟩
theorem Kp.blk {g : Nat} {t : TypeId} {cs : Array Value} (h : Kp A w w') (hb : Blk w g t cs) (hA : ¬ A g) : Blk w' g t cs := (h.2 g hb.lt hA).trans hb
theorem Kp.mono {A' : Nat → Prop} (h : Kp A w w') (hA : ∀ b, A b → A' b) : Kp A' w w' := ⟨h.1, fun b hb hn => h.2 b hb fun ha => hn (hA b ha)⟩
theorem Kp.of_grown {row : Option Nat} (h : w.grownBy w' row) : Kp (fun b => row = some b) w w' :=
  ⟨⟨h.os, h.tape, h.output, h.size, fun i hi => by omega⟩, fun b hlt hn => h.block b hlt (fun e => hn e.symm)⟩
/-- where nothing that was there turns -/
theorem Kp.to_below (h : Kp A w w') (hA : ∀ b, b < w.heap.size → ¬ A b) : Below w.heap.size w w' := ⟨h.1.os, h.1.tape, h.1.output, h.size, fun b hb => h.2 b hb (hA b hb)⟩
end

/-- a result variable that is an array or a struct in a block of its own -/
theorem results_cell {P : Program} {fn : Func} {tmps : Array Value} {w : World} {k : Nat} {ty : TypeId} {g : Nat} {t : TypeId} {cs : Array Value} {d : TypeDesc} (hr : fn.results = #[.cell k ty]) (ht : tmps.getD k undef = .pointer (some ⟨g, 0, none⟩)) (hb : Blk w g t cs)
    (hu : P.underlying ty = some d) (hd : (match d with | .struct _ | .array _ _ => true | _ => false) = true) (hi : (P.info? ty).map (·.size) = some cs.size) : (results fn tmps).run P w = .ok (.agg cs) w := by
  have := run_loadVar_row (P := P) w g t ty cs (0, 0) d hb hu hd hi
  have ht2 : tmps[k]?.getD undef = .pointer (some ⟨g, 0, none⟩) := by simpa using ht
  simp [results, hr, ht2, asAddr, this]
/-- an operation whose run is known -/
theorem wpList_value_run {P : Program} {w w' : World} {ops : Array Oper} {rest : List Oper} {o : Oper} {a : Act} {Q : Exit → Act → World → Prop} (hgd : o.guard = none) (v : Value) (hrun : (execOp a.eval o).run P w = .ok (.value v) w')
    (h : wpList P ops Q rest (a.put o.dst v) w') : wpList P ops Q (o :: rest) a w := by
  refine wpList_plain hgd fun K hK => ?_
  unfold Oper.wp
  rw [hrun]
  exact hK _ _ h
theorem exec_build {P : Program} {w : World} {o : Oper} {a : Act} (t : TypeId) (parts : Array (Nat × Operand)) (ho : o.op = .build t parts) (vs : List (Nat × Value)) (hv : (parts.toList.map fun x => (x.1, a.eval x.2)) = vs) (cells : Array Value)
    (hr : (Instr.build t vs.toArray).run P w = .ok (.agg cells) w) : (execOp a.eval o).run P w = .ok (.value (.agg cells)) w := by
  have hv2 : (parts.map fun x => (x.1, a.eval x.2)) = vs.toArray := by
    apply Array.ext'
    rw [Array.toList_map]
    exact hv
  rw [← hv2] at hr
  unfold execOp
  simp only [ho, Sem.run_bind]
  rw [show (Instr.build t (parts.map fun (i, x) => (i, a.eval x))).run P w = .ok (.agg cells) w from hr]
  rfl
theorem Kp.ext {A : Nat → Prop} {W0 wr w' : World} (h : Kp A W0 wr) (hb : Below W0.heap.size wr w') : Kp A W0 w' := ⟨h.1.trans (hb.mono (Nat.zero_le _)), fun b hb1 hA => (hb.block b hb1).trans (h.2 b hb1 hA)⟩
theorem Kp.set {A : Nat → Prop} {W0 wr : World} {p : Addr} (h : Kp A W0 wr) (hp : A p.block) (u : Value) : Kp A W0 (wr.setCell p u) :=
  ⟨h.1.setCell (Nat.zero_le _) _, fun b hb1 hA => (Below.heap_setCell wr p u b (fun e => hA (e ▸ hp))).trans (h.2 b hb1 hA)⟩
theorem lit_len {n : Nat} (h : n ≤ maxLen) : (Lit.int .i64 (n : Int)).wf = true := by
  unfold maxLen at h
  show (decide ((-9223372036854775808 : Int) ≤ (n : Int)) && decide ((n : Int) ≤ 9223372036854775807)) = true
  rw [decide_eq_true (by omega), decide_eq_true (by omega)]
  rfl
theorem exec_store_mid {P : Program} {o : Oper} {a : Act} {w : World} (ty : TypeId) (x y : Operand) (ho : o.op = .store ty x y) (g off : Nat) (cells : Array Value) (hx : a.eval x = .pointer (some ⟨g, off, none⟩)) (hy : a.eval y = .agg cells)
    (ht : w.there g off cells.size) (hi : (P.info? ty).map (·.size) = some cells.size) (h1 : cells.all (·.oneCell') = true) :
    (execOp a.eval o).run P w = .ok .skip (w.setCells g off cells.toList) := by
  unfold execOp
  simp only [ho, hx, hy, Instr.storeAt, Instr.sureAddr, Sem.run_bind, Sem.run_pure, Result.andThen_ok, run_storeVar_mid w g off ty cells ht hi h1]
theorem kp_setCells (b : Nat) : ∀ (vs : List Value) (o : Nat) (w : World), Kp (· = b) w (w.setCells b o vs)
  | [], _, w => Kp.refl _ w
  | u :: vs, o, w => by
    have h1 : Kp (· = b) w (w.setCell ⟨b, o, none⟩ u) := ⟨(Below.refl 0 w).setCell (Nat.zero_le _) _, fun i _ hn => Below.heap_setCell w _ _ i hn⟩
    exact h1.trans (kp_setCells b vs (o + 1) _)
def setMany : Array Value → Nat → List Value → Array Value
  | cs, _, [] => cs
  | cs, o, u :: us => setMany (cs.setIfInBounds o u) (o + 1) us
theorem blk_setCells {g : Nat} {t : TypeId} : ∀ (vs : List Value) (o : Nat) (w : World) (cs : Array Value), Blk w g t cs → Blk (w.setCells g o vs) g t (setMany cs o vs)
  | [], _, _, _, h => h
  | u :: vs, o, _, _, h => blk_setCells vs (o + 1) _ _ (h.set o u)
end Go.Proofs.Ytimgecflcackbaa
