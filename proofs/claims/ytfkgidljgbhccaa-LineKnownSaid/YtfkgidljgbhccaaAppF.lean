/-
  A REGION THAT DRAWS ITS ORDER: 'x.List = append(x.List, f(..))': a load (1), a call (4), a slice of one guid (5), the append (6), the store (8).
-/
import Derived.Test.YtfkgidljgbhccaaLineSame
namespace Go.Proofs.Ytfkgidljgbhccaa
open Go.RowKit Reg

theorem exec_append {P : Program} {w w' : World} {o : Oper} {a : Act} (s x : Operand) (t : TypeId) (ho : o.op = .call { callee := .builtin .append, args := #[s, x], argTypes := #[t, t] }) (v u : Value) (hs : a.eval s = v) (hx : a.eval x = u) (v' : Value)
    (hr : (Builtin.append_ #[t, t] o.type #[v, u]).run P w = .ok v' w') : (execOp a.eval o).run P w = .ok (.value v') w' := by
  unfold execOp
  simp only [ho, resolve, invoke, builtin, Sem.run_bind, Sem.run_pure, Result.andThen_ok, List.map_toArray, List.map_cons, List.map_nil, hs, hx, hr]
def kindsS (l : List (Nat × Kd)) (k n : Nat) (s : Nat) (u : Value) : Prop := if s = k then ∃ a c, u = .slice a n c else kinds l s u
theorem kindsS_inh (l : List (Nat × Kd)) (k n : Nat) (s : Nat) : ∃ u, kindsS l k n s u := by
  unfold kindsS
  by_cases h : s = k
  · exact ⟨.slice none n 0, by rw [if_pos h]; exact ⟨none, 0, rfl⟩⟩
  · obtain ⟨u, hu⟩ := kinds_inh l s
    exact ⟨u, by rw [if_neg h]; exact hu⟩
theorem kindsS_at {l : List (Nat × Kd)} {k n : Nat} {u : Value} (h : kindsS l k n k u) : ∃ a c, u = .slice a n c := by
  unfold kindsS at h
  rwa [if_pos rfl] at h
theorem kindsS_off {l : List (Nat × Kd)} {k n s : Nat} {u : Value} (h : kindsS l k n s u) (hs : s ≠ k) : kinds l s u := by
  unfold kindsS at h
  rwa [if_neg hs] at h
structure AF (w0 : World) (q base : Nat) (cs : Value → Array Value) (sv : Value) (xs : List Gd) (g : Gd) (σ : Nat → Option Value) (w : World) : Prop where
  below : Below q w0 w
  d6 : ∀ u, σ 6 = some u → σ 1 = some sv
  d8 : σ 6 = none → σ 8 = none
  own : σ 6 = none → OwG w base sv xs
  lit : ∀ u, σ 5 = some u → σ 6 = none → InG w u [g]
  lst : ∀ u, σ 6 = some u → OwG w base u (xs ++ [g])
  var : σ 8 = none → Blk w q 25 (cs sv)
  fin : ∀ u, σ 6 = some u → σ 8 ≠ none → Blk w q 25 (cs u)
  hq : q < base
  hw : base ≤ w.heap.size
section
variable {w0 w : World} {q base : Nat} {cs : Value → Array Value} {sv : Value} {xs : List Gd} {g : Gd} {σ : Nat → Option Value} {p : Value → Prop}
theorem AF.start (hv : Blk w0 q 25 (cs sv)) (ho : OwG w0 base sv xs) (hq : q < base) (hw : base ≤ w0.heap.size) : AF w0 q base cs sv xs g (fun _ => none) w0.drew :=
  ⟨(Below.refl _ _).drew, (fun _ h => by cases h), fun _ => rfl, fun _ => ho.keep (Below.refl _ _).drew, (fun _ h => by cases h), (fun _ h => by cases h), fun _ => hv.drew, (fun _ h => by cases h), hq, hw⟩
theorem AF.load (h : AF w0 q base cs sv xs g σ w) (hp : p sv) : SpecialOK Try.prog p (fun u => AF w0 q base cs sv xs g (upd σ 1 u)) (.ok (.value sv) w) := by
  refine ⟨hp, h.below, ?_, ?_, ?_, ?_, ?_, ?_, ?_, h.hq, h.hw⟩
  · intro u _
    rw [upd_same]
  all_goals simp only [upd_other _ _ (show (6 : Nat) ≠ 1 by decide), upd_other _ _ (show (8 : Nat) ≠ 1 by decide), upd_other _ _ (show (5 : Nat) ≠ 1 by decide)]
  · exact h.d8
  · exact h.own
  · exact h.lit
  · exact h.lst
  · exact h.var
  · exact h.fin
theorem AF.at1 (h : AF w0 q base cs sv xs g σ w) (h0 : σ 1 = none) : Blk w q 25 (cs sv) := by
  have h6 : σ 6 = none := by
    cases e : σ 6 with
    | none => rfl
    | some u => have := h.d6 u e; rw [h0] at this; cases this
  exact h.var (h.d8 h6)
theorem AF.keep {w' : World} {k : Nat} {u : Value} (h : AF w0 q base cs sv xs g σ w) (hk : k = 4 ∨ k = 5) (hb : Below w.heap.size w w') (hl : k = 5 → InG w' u [g]) : AF w0 q base cs sv xs g (upd σ k u) w' := by
  have hqw : q ≤ w.heap.size := Nat.le_trans (Nat.le_of_lt h.hq) h.hw
  have e1 : upd σ k u 1 = σ 1 := upd_other _ _ (by omega)
  have e6 : upd σ k u 6 = σ 6 := upd_other _ _ (by omega)
  have e8 : upd σ k u 8 = σ 8 := upd_other _ _ (by omega)
  refine ⟨h.below.trans (hb.mono hqw), ?_, ?_, ?_, ?_, ?_, ?_, ?_, h.hq, Nat.le_trans h.hw hb.size⟩
  all_goals simp only [e1, e6, e8]
  · exact h.d6
  · exact h.d8
  · exact fun h6 => (h.own h6).keep hb
  · intro x hx h6
    rcases hk with rfl | rfl
    · rw [upd_other _ _ (show (5 : Nat) ≠ 4 by decide)] at hx
      exact (h.lit x hx h6).keep hb
    · rw [upd_same] at hx
      obtain rfl := Option.some.inj hx
      exact hl rfl
  · exact fun x hx => (h.lst x hx).keep hb
  · exact fun h8 => (h.var h8).keep hb
  · exact fun x hx h8 => (h.fin x hx h8).keep hb
theorem AF.guid (h : AF w0 q base cs sv xs g σ w) (a b : Int) (hp : p (.agg #[.int .u64 a, .int .u64 b])) :
    SpecialOK Try.prog p (fun u => AF w0 q base cs sv xs g (upd σ 4 u)) (.ok (.enter 21 #[.int .u64 a, .int .u64 b]) w) := by
  refine (guid_any a b w).mono ?_
  rintro e w' ⟨rfl, hb⟩
  exact ⟨_, rfl, hp, h.keep (.inl rfl) hb (fun e => by cases e)⟩
theorem AF.one (h : AF w0 q base cs sv xs g σ w) (cc : Array Value) (hc : cc = (cellsG [g]).toArray) (hg : wfG g) (hp : ∀ b, p (.slice (some ⟨b, 0, none⟩) 1 1)) :
    SpecialOK Try.prog p (fun u => AF w0 q base cs sv xs g (upd σ 5 u)) (.ok (.value (.slice (some ⟨w.heap.size, 0, none⟩) 1 1)) (w.alloc (.cells cc 32))) :=
  ⟨hp _, h.keep (.inr rfl) ((Below.refl _ _).alloc (Nat.le_refl _) _) fun _ => InG.litAt w [g] cc _ rfl hc (by simp) (by simpa using hg)⟩
theorem AF.app (h : AF w0 q base cs sv xs g σ w) (h0 : σ 6 = none) (h1 : σ 1 = some sv) (u : Value) (h5 : σ 5 = some u) (hn : xs.length + 1 ≤ 2 ^ 43) (ty : TypeId) (hp : ∀ a c, p (.slice a (xs.length + 1) c)) :
    ∃ v' w', (Builtin.append_ #[23, 23] ty #[sv, u]).run Try.prog w = .ok v' w' ∧ SpecialOK Try.prog p (fun u => AF w0 q base cs sv xs g (upd σ 6 u)) (.ok (.value v') w') := by
  obtain ⟨v', w', hr, ha⟩ := app_guids ty (h.own h0) (h.lit u h5 h0) (by simpa using hn) h.hw
  have hbb := ha.below (h.own h0) h.hw
  have h8 := h.d8 h0
  refine ⟨v', w', hr, ?_, h.below.trans (hbb.mono (Nat.le_of_lt h.hq)), ?_, ?_, ?_, ?_, ?_, ?_, ?_, h.hq, Nat.le_trans h.hw hbb.size⟩
  · obtain ⟨a, c, rfl, -, -⟩ := ha.1.rd.open_
    have := hp a c
    rwa [List.length_append]
  all_goals simp only [upd_same, upd_other _ _ (show (1 : Nat) ≠ 6 by decide), upd_other _ _ (show (8 : Nat) ≠ 6 by decide), upd_other _ _ (show (5 : Nat) ≠ 6 by decide)]
  · exact fun _ _ => h1
  · exact fun e => by cases e
  · exact fun e => by cases e
  · exact fun _ _ e => by cases e
  · intro x hx
    obtain rfl := Option.some.inj hx
    exact ha.1
  · exact fun e => (h.var e).below hbb h.hq
  · exact fun _ _ e => absurd h8 e
theorem AF.store (h : AF w0 q base cs sv xs g σ w) (u : Value) (h6 : σ 6 = some u) (h0 : σ 8 = none) (i : Nat) (hcs : (cs sv).setIfInBounds i u = cs u) (hp : p undef) :
    SpecialOK Try.prog p (fun u => AF w0 q base cs sv xs g (upd σ 8 u)) (.ok .skip (w.setCell ⟨q, i, none⟩ u)) := by
  have hne : ∀ b, base ≤ b → b ≠ q := fun b hb e => by have := h.hq; omega
  have hso : ∀ v ys, OwG w base v ys → OwG (w.setCell ⟨q, i, none⟩ u) base v ys := fun v ys ho => ho.above fun b hbb => by
    simp only [World.setCell, Array.getElem?_modify]
    rw [if_neg (fun e => hne b hbb e.symm)]
  refine ⟨hp, h.below.setCell (Nat.le_refl _) _, ?_, ?_, ?_, ?_, ?_, ?_, ?_, h.hq, by simpa [World.setCell] using h.hw⟩
  all_goals simp only [upd_same, upd_other _ _ (show (1 : Nat) ≠ 8 by decide), upd_other _ _ (show (6 : Nat) ≠ 8 by decide), upd_other _ _ (show (5 : Nat) ≠ 8 by decide), h6]
  · exact fun x hx => h.d6 x (h6.trans hx)
  · exact fun e => by cases e
  · exact fun e => by cases e
  · exact fun _ _ e => by cases e
  · intro x hx
    obtain rfl := Option.some.inj hx
    exact hso _ _ (h.lst _ h6)
  · exact fun e => by cases e
  · intro x hx _
    obtain rfl := Option.some.inj hx
    rw [← hcs]
    exact (h.var h0).set i _
end
end Go.Proofs.Ytfkgidljgbhccaa
