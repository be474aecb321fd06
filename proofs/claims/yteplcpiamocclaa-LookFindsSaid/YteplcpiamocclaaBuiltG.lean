/-
  LOOK's statements: the region of built that grows a node's list.
-/
import Derived.Test.YteplcpiamocclaaBuiltA
namespace Go.Proofs.Yteplcpiamocclaa
open Go.RowKit Reg Go.ChangeShapes

theorem exec_append {P : Program} {w w' : World} {o : Oper} {a : Act} (s x : Operand) (t : TypeId) (ho : o.op = .call { callee := .builtin .append, args := #[s, x], argTypes := #[t, t] }) (v u : Value) (hs : a.eval s = v) (hx : a.eval x = u) (v' : Value)
    (hr : (Builtin.append_ #[t, t] o.type #[v, u]).run P w = .ok v' w') : (execOp a.eval o).run P w = .ok (.value v') w' := by
  unfold execOp
  simp only [ho, resolve, invoke, builtin, Sem.run_bind, Sem.run_pure, Result.andThen_ok, List.map_toArray, List.map_cons, List.map_nil, hs, hx, hr]
structure GF (w0 : World) (q qa : Nat) (ca : Array Value) (cs : Value → Array Value) (zs : List Gd) (σ : Nat → Option Value) (w : World) : Prop where
  d11 : σ 11 ≠ none → σ 1 ≠ none
  d13 : σ 13 ≠ none → σ 11 ≠ none
  pre : σ 13 = none → Below w0.heap.size w0 w
  kp : Kp (· = q) w0 w
  bx : Blk w qa 26 ca
  lst : ∀ u, σ 11 = some u → OwG w w0.heap.size u zs
  var : σ 13 = none → Blk w q 40 (cs (.slice none 0 0))
  fin : ∀ u, σ 11 = some u → σ 13 ≠ none → Blk w q 40 (cs u)
section
variable {w0 w : World} {q qa : Nat} {ca : Array Value} {cs : Value → Array Value} {zs : List Gd} {σ : Nat → Option Value} {p : Value → Prop} {u : Value}
theorem GF.start (hv : Blk w0 q 40 (cs (.slice none 0 0))) (hx : Blk w0 qa 26 ca) : GF w0 q qa ca cs zs (fun _ => none) w0.drew :=
  ⟨fun h => absurd rfl h, fun h => absurd rfl h, fun _ => (Below.refl _ _).drew, .of_below (Below.refl _ _).drew, hx.drew, (fun _ h => by cases h), fun _ => hv.drew, (fun _ h => by cases h)⟩
theorem GF.load (h : GF w0 q qa ca cs zs σ w) (hp : p u) : SpecialOK Try.prog p (fun u => GF w0 q qa ca cs zs (upd σ 1 u)) (.ok (.value u) w) := by
  have e11 : upd σ 1 u 11 = σ 11 := upd_other _ _ (by decide)
  have e13 : upd σ 1 u 13 = σ 13 := upd_other _ _ (by decide)
  refine ⟨hp, ?_⟩
  refine ⟨fun _ => by rw [upd_same]; simp, ?_, ?_, h.kp, h.bx, ?_, ?_, ?_⟩
  · rw [e13, e11]; exact h.d13
  · rw [e13]; exact h.pre
  · rw [e11]; exact h.lst
  · rw [e13]; exact h.var
  · rw [e13, e11]; exact h.fin
theorem GF.none11 (h : GF w0 q qa ca cs zs σ w) (hn : σ 1 = none) : σ 11 = none := Decidable.byContradiction fun e => h.d11 e hn
theorem GF.none13 (h : GF w0 q qa ca cs zs σ w) (hn : σ 11 = none) : σ 13 = none := Decidable.byContradiction fun e => h.d13 e hn
theorem GF.app (h : GF w0 q qa ca cs zs σ w) (hn : σ 11 = none) (h1 : σ 1 ≠ none) {x : Value} (hx : InG w0 x zs) (hz : zs.length ≤ 1000) (ty : TypeId) (hp : ∀ a c, p (.slice a zs.length c)) :
    ∃ v' w', (Builtin.append_ #[35, 35] ty #[.slice none 0 0, x]).run Try.prog w = .ok v' w' ∧ SpecialOK Try.prog p (fun u => GF w0 q qa ca cs zs (upd σ 11 u)) (.ok (.value v') w') := by
  have hb := h.pre (h.none13 hn)
  obtain ⟨v', w', hr, ha⟩ := app_guids (base := w.heap.size) ty (OwG.nil_ w w.heap.size) (hx.keep hb) (by simp; omega) (Nat.le_refl _)
  rw [List.nil_append] at ha
  have hbw : Below w.heap.size w w' := AppG.below ha (OwG.nil_ _ _) (Nat.le_refl _)
  refine ⟨v', w', hr, ?_, ?_⟩
  · obtain ⟨a, c, e, -⟩ := ha.1.rd.open_
    rw [e]
    exact hp a c
  · have e1 : upd σ 11 v' 1 = σ 1 := upd_other _ _ (by decide)
    have e13 : upd σ 11 v' 13 = σ 13 := upd_other _ _ (by decide)
    refine ⟨fun _ => by rw [e1]; exact h1, fun _ => by rw [upd_same]; simp, fun _ => hb.trans (hbw.mono hb.size), h.kp.trans (.of_below hbw), h.bx.keep hbw, fun u e => ?_, fun e => ?_, fun u _ e => absurd (h.none13 hn) (by rw [e13] at e; exact e)⟩
    · rw [upd_same] at e
      obtain rfl := Option.some.inj e
      exact ha.1.mono hb.size
    · exact (h.var (h.none13 hn)).keep hbw
theorem GF.store (h : GF w0 q qa ca cs zs σ w) (hq : q < w0.heap.size) (hqa : qa ≠ q) (h11 : σ 11 = some u) (hn : σ 13 = none) (i : Nat) (hcs : (cs (.slice none 0 0)).setIfInBounds i u = cs u) (hp : p undef) :
    SpecialOK Try.prog p (fun x => GF w0 q qa ca cs zs (upd σ 13 x)) (.ok .skip (w.setCell ⟨q, i, none⟩ u)) := by
  refine ⟨hp, ?_⟩
  have e1 : upd σ 13 undef 1 = σ 1 := upd_other _ _ (by decide)
  have e11 : upd σ 13 undef 11 = σ 11 := upd_other _ _ (by decide)
  have hbl := h.var hn
  have ho := h.lst u h11
  refine ⟨by rw [e11, e1]; exact h.d11, (fun _ => by rw [e11, h11]; simp), (fun e => by rw [upd_same] at e; cases e), h.kp.trans (Kp.cell w q i u), h.bx.far (p := ⟨q, i, none⟩) hqa u, fun x e => ?_, (fun e => by rw [upd_same] at e; cases e), fun x e _ => ?_⟩
  · rw [e11, h11] at e
    obtain rfl := Option.some.inj e
    exact ho.above fun b hb => setCell_other _ _ b (by simp; omega)
  · rw [e11, h11] at e
    obtain rfl := Option.some.inj e
    have := hbl.set i u
    rw [hcs] at this
    exact this
end
end Go.Proofs.Yteplcpiamocclaa
