/-
  A REGION THAT DRAWS ITS ORDER AND LAYS VARIABLES ('x := f(..)', x a struct or an array in memory of its own): memory grows; each variable is laid once and stored into once; what else is said of values holds whatever is stored into these variables.
-/
import Derived.Test.YtikimmhkfjaijaaRegion
namespace Go.Proofs.Ytikimmhkfjaijaa
open Go.RowKit
namespace Reg

/-- a variable: the number of its laying, of its store; its type; what it holds before; what is stored: fixed cells, or the value of a special operation -/
structure Vr where
  al : Nat
  st : Nat
  ty : TypeId
  zero : Array Value
  fix : Option (Array Value)
  src : Nat
def ptr (g : Nat) : Value := .pointer (some ⟨g, 0, none⟩)
def Laid (vs : List Vr) (σ : Nat → Option Value) (b : Nat) : Prop := ∃ v ∈ vs, σ v.al = some (ptr b)
/-- w' is as w but in the blocks A, and may be longer -/
def Out (A : Nat → Prop) (w w' : World) : Prop := ∀ b, b < w.heap.size → ¬ A b → w'.heap[b]? = w.heap[b]?
theorem Out.refl (A : Nat → Prop) (w : World) : Out A w w := fun _ _ _ => rfl
theorem Out.below {A : Nat → Prop} {w w' w'' : World} (hb : Below w.heap.size w w') (h : Out A w' w'') : Out A w w'' := fun b hl hA => (h b (Nat.lt_of_lt_of_le hl hb.size) hA).trans (hb.block b hl)
theorem Out.mono {A A' : Nat → Prop} {w w' : World} (h : Out A w w') (hA : ∀ b, b < w.heap.size → A b → A' b) : Out A' w w' := fun b hl hn => h b hl fun ha => hn (hA b hl ha)
/-- what it holds -/
def Vr.now (v : Vr) (σ : Nat → Option Value) : Array Value :=
  if (σ v.st).isSome = true then (match v.fix with | some cs => cs | none => match σ v.src with | some (.agg cs) => cs | _ => v.zero) else v.zero
/-- the numbers are all unlike -/
structure Fine (vs : List Vr) : Prop where
  al_st : ∀ v ∈ vs, ∀ v' ∈ vs, v.al ≠ v'.st
  al_al : ∀ v ∈ vs, ∀ v' ∈ vs, v.al = v'.al → v = v'
  st_st : ∀ v ∈ vs, ∀ v' ∈ vs, v.st = v'.st → v = v'
  src : ∀ v ∈ vs, ∀ v' ∈ vs, v.src ≠ v'.al ∧ v.src ≠ v'.st
structure CG (w0 : World) (vs : List Vr) (F : Nat → World → Value → Prop) (σ : Nat → Option Value) (w : World) : Prop where
  below : Below w0.heap.size w0 w
  facts : ∀ s u, σ s = some u → (∀ v ∈ vs, s ≠ v.al ∧ s ≠ v.st) → ∀ w', Out (Laid vs σ) w w' → F s w' u
  vars : ∀ v ∈ vs, ∀ u, σ v.al = some u → ∃ g, u = ptr g ∧ w0.heap.size ≤ g ∧ Blk w g v.ty (v.now σ)
  apart : ∀ v ∈ vs, ∀ v' ∈ vs, v ≠ v' → ∀ g, σ v.al = some (ptr g) → σ v'.al = some (ptr g) → False
  done : ∀ v ∈ vs, (σ v.st).isSome = true → (σ v.al).isSome = true ∧ (v.fix = none → (σ v.src).isSome = true)

section
variable {w0 w w' : World} {vs : List Vr} {F : Nat → World → Value → Prop} {σ : Nat → Option Value} {k : Nat} {u : Value}
theorem ptr_inj {g g' : Nat} (h : ptr g = ptr g') : g = g' := by
  unfold ptr at h
  simp only [Value.pointer.injEq, Option.some.injEq, Addr.mk.injEq, and_true] at h
  exact h
theorem CG.start : CG w0 vs F (fun _ => none) w0.drew := ⟨(Below.refl _ _).drew, (fun _ _ h => by cases h), (fun _ _ _ h => by cases h), (fun _ _ _ _ _ _ h => by cases h), (fun _ _ h => by cases h)⟩
theorem CG.laid_lt (h : CG w0 vs F σ w) {b : Nat} (hb : Laid vs σ b) : w0.heap.size ≤ b ∧ b < w.heap.size := by
  obtain ⟨v, hv, e⟩ := hb
  obtain ⟨g, e2, h1, h2⟩ := h.vars v hv _ e
  have := ptr_inj e2
  subst this
  exact ⟨h1, h2.lt⟩
theorem CG.fact (h : CG w0 vs F σ w) {s : Nat} (hs : σ s = some u) (hn : ∀ v ∈ vs, s ≠ v.al ∧ s ≠ v.st) : F s w u := h.facts s u hs hn w (Out.refl _ _)
theorem now_upd {v : Vr} (h1 : k ≠ v.st) (h2 : k ≠ v.src) : v.now (upd σ k u) = v.now σ := by
  unfold Vr.now
  rw [upd_other _ _ (Ne.symm h1), upd_other _ _ (Ne.symm h2)]
theorem laid_upd (hn : ∀ v ∈ vs, k ≠ v.al) : Laid vs (upd σ k u) = Laid vs σ := by
  funext b
  apply propext
  constructor
  · rintro ⟨v, hv, e⟩
    rw [upd_other _ _ (Ne.symm (hn v hv))] at e
    exact ⟨v, hv, e⟩
  · rintro ⟨v, hv, e⟩
    exact ⟨v, hv, by rw [upd_other _ _ (Ne.symm (hn v hv))]; exact e⟩
/-- any other special operation that only makes memory -/
theorem CG.next (h : CG w0 vs F σ w) (h0 : σ k = none) (hn : ∀ v ∈ vs, k ≠ v.al ∧ k ≠ v.st) (hb : Below w.heap.size w w') (hk : ∀ w'', Out (Laid vs σ) w' w'' → F k w'' u) : CG w0 vs F (upd σ k u) w' := by
  have hl : Laid vs (upd σ k u) = Laid vs σ := laid_upd fun v hv => (hn v hv).1
  refine ⟨h.below.trans (hb.mono h.below.size), ?_, ?_, ?_, ?_⟩
  · intro s x hx hs w2 ho
    rw [hl] at ho
    by_cases e : s = k
    · subst e
      rw [upd_same] at hx
      obtain rfl := Option.some.inj hx
      exact hk w2 ho
    · rw [upd_other _ _ e] at hx
      exact h.facts s x hx hs w2 (Out.below hb ho)
  · intro v hv x hx
    rw [upd_other _ _ (Ne.symm (hn v hv).1)] at hx
    obtain ⟨g, e1, e2, e3⟩ := h.vars v hv x hx
    refine ⟨g, e1, e2, ?_⟩
    have e4 : v.now (upd σ k u) = v.now σ := by
      by_cases hs : k = v.src
      · unfold Vr.now
        rw [upd_other _ _ (Ne.symm (hn v hv).2)]
        by_cases hst : (σ v.st).isSome = true
        · rw [if_pos hst, if_pos hst]
          cases hf : v.fix with
          | some cs => rfl
          | none =>
            have := (h.done v hv hst).2 hf
            rw [← hs, h0] at this
            cases this
        · rw [if_neg hst, if_neg hst]
      · exact now_upd (hn v hv).2 hs
    rw [e4]
    exact e3.keep hb
  · intro v hv v' hv' hne g h1 h2
    rw [upd_other _ _ (Ne.symm (hn v hv).1)] at h1
    rw [upd_other _ _ (Ne.symm (hn v' hv').1)] at h2
    exact h.apart v hv v' hv' hne g h1 h2
  · intro v hv hs
    rw [upd_other _ _ (Ne.symm (hn v hv).2)] at hs
    obtain ⟨h1, h2⟩ := h.done v hv hs
    refine ⟨by rw [upd_other _ _ (Ne.symm (hn v hv).1)]; exact h1, fun hf => ?_⟩
    by_cases e : v.src = k
    · rw [e, upd_same]; rfl
    · rw [upd_other _ _ e]; exact h2 hf
/-- a variable is laid -/
theorem CG.lay (fine : Fine vs) (h : CG w0 vs F σ w) {v : Vr} (hv : v ∈ vs) (h0 : σ v.al = none) : CG w0 vs F (upd σ v.al (ptr w.heap.size)) (w.alloc (.cells v.zero v.ty)) := by
  have hb : Below w.heap.size w (w.alloc (.cells v.zero v.ty)) := (Below.refl _ _).alloc (Nat.le_refl _) _
  have hst : (σ v.st).isSome = false := by
    cases e : (σ v.st).isSome with
    | false => rfl
    | true => have := (h.done v hv e).1; rw [h0] at this; cases this
  refine ⟨h.below.trans (hb.mono h.below.size), ?_, ?_, ?_, ?_⟩
  · intro s x hx hs w2 ho
    rw [upd_other _ _ (hs v hv).1] at hx
    refine h.facts s x hx hs w2 fun b hl hA => ?_
    rw [← hb.block b hl]
    refine ho b (Nat.lt_of_lt_of_le hl hb.size) ?_
    rintro ⟨v1, hv1, e⟩
    by_cases ev : v1.al = v.al
    · rw [ev, upd_same] at e
      have := ptr_inj (Option.some.inj e)
      omega
    · rw [upd_other _ _ ev] at e
      exact hA ⟨v1, hv1, e⟩
  · intro v1 hv1 x hx
    by_cases ev : v1.al = v.al
    · have := fine.al_al v1 hv1 v hv ev
      subst this
      rw [upd_same] at hx
      obtain rfl := Option.some.inj hx
      refine ⟨w.heap.size, rfl, h.below.size, ?_⟩
      have e4 : v1.now (upd σ v1.al (ptr w.heap.size)) = v1.zero := by
        unfold Vr.now
        rw [upd_other _ _ (Ne.symm (fine.al_st v1 hv v1 hv)), hst]
        rfl
      rw [e4]
      exact Blk.new _ _ _
    · rw [upd_other _ _ ev] at hx
      obtain ⟨g, e1, e2, e3⟩ := h.vars v1 hv1 x hx
      refine ⟨g, e1, e2, ?_⟩
      rw [now_upd (fine.al_st v hv v1 hv1) (Ne.symm (fine.src v1 hv1 v hv).1)]
      exact e3.keep hb
  · intro v1 hv1 v2 hv2 hne g h1 h2
    by_cases e1 : v1.al = v.al
    · by_cases e2 : v2.al = v.al
      · exact hne (fine.al_al v1 hv1 v2 hv2 (e1.trans e2.symm))
      · rw [e1, upd_same] at h1
        rw [upd_other _ _ e2] at h2
        have := ptr_inj (Option.some.inj h1)
        have h3 := (h.laid_lt ⟨v2, hv2, h2⟩).2
        omega
    · rw [upd_other _ _ e1] at h1
      by_cases e2 : v2.al = v.al
      · rw [e2, upd_same] at h2
        have := ptr_inj (Option.some.inj h2)
        have h3 := (h.laid_lt ⟨v1, hv1, h1⟩).2
        omega
      · rw [upd_other _ _ e2] at h2
        exact h.apart v1 hv1 v2 hv2 hne g h1 h2
  · intro v1 hv1 hs
    rw [upd_other _ _ (Ne.symm (fine.al_st v hv v1 hv1))] at hs
    obtain ⟨h1, h2⟩ := h.done v1 hv1 hs
    refine ⟨?_, fun hf => ?_⟩
    · by_cases e : v1.al = v.al
      · rw [e, upd_same]; rfl
      · rw [upd_other _ _ e]; exact h1
    · rw [upd_other _ _ (fine.src v1 hv1 v hv).1]; exact h2 hf
/-- a variable is stored into -/
theorem CG.put (fine : Fine vs) (h : CG w0 vs F σ w) {v : Vr} (hv : v ∈ vs) {g : Nat} (hg : σ v.al = some (ptr g)) (cs : Array Value) (hc : (match v.fix with | some cs' => cs' = cs | none => σ v.src = some (.agg cs))) :
    CG w0 vs F (upd σ v.st undef) (w.setRow g cs) := by
  have hl : Laid vs (upd σ v.st undef) = Laid vs σ := laid_upd fun v' hv' => Ne.symm (fine.al_st v' hv' v hv)
  obtain ⟨g', e1, e2, e3⟩ := h.vars v hv _ hg
  have := ptr_inj e1
  subst this
  refine ⟨Below.setRow h.below e2 cs, ?_, ?_, ?_, ?_⟩
  · intro s x hx hs w2 ho
    rw [hl] at ho
    rw [upd_other _ _ (hs v hv).2] at hx
    refine h.facts s x hx hs w2 fun b hb hA => ?_
    have h1 := ho b (by simpa [World.setRow] using hb) hA
    rw [h1]
    have hne : b ≠ g := fun e => hA ⟨v, hv, e ▸ hg⟩
    simp only [World.setRow, Array.getElem?_modify]
    rw [if_neg (by omega)]
  · intro v1 hv1 x hx
    rw [upd_other _ _ (fine.al_st v1 hv1 v hv)] at hx
    obtain ⟨g1, f1, f2, f3⟩ := h.vars v1 hv1 x hx
    subst f1
    refine ⟨g1, rfl, f2, ?_⟩
    by_cases ev : v1 = v
    · subst ev
      rw [hx] at hg
      have := ptr_inj (Option.some.inj hg)
      subst this
      have e4 : v1.now (upd σ v1.st undef) = cs := by
        unfold Vr.now
        rw [upd_same, upd_other _ _ (fine.src v1 hv v1 hv).2]
        cases hf : v1.fix with
        | some cs' => rw [hf] at hc; exact hc
        | none => rw [hf] at hc; simp only at hc; rw [hc]; rfl
      rw [e4]
      exact e3.row cs
    · rw [now_upd (fun e => ev (fine.st_st v1 hv1 v hv e.symm)) (Ne.symm (fine.src v1 hv1 v hv).2)]
      refine f3.farRow (fun e => ?_) cs
      subst e
      exact h.apart v1 hv1 v hv ev _ hx hg
  · intro v1 hv1 v2 hv2 hne q h1 h2
    rw [upd_other _ _ (fine.al_st v1 hv1 v hv)] at h1
    rw [upd_other _ _ (fine.al_st v2 hv2 v hv)] at h2
    exact h.apart v1 hv1 v2 hv2 hne q h1 h2
  · intro v1 hv1 hs
    rw [upd_other _ _ (fine.al_st v1 hv1 v hv)]
    rw [upd_other _ _ (fine.src v1 hv1 v hv).2]
    by_cases ev : v1 = v
    · subst ev
      refine ⟨by rw [hg]; rfl, fun hf => ?_⟩
      rw [hf] at hc
      simp only at hc
      rw [hc]
      rfl
    · rw [upd_other _ _ (fun e => ev (fine.st_st v1 hv1 v hv e))] at hs
      exact h.done v1 hv1 hs
/-- at the end: each variable's block -/
theorem CG.end_ (h : CG w0 vs F σ w) {v : Vr} (hv : v ∈ vs) {x : Value} (h1 : σ v.al = some x) {y : Value} (h2 : σ v.st = some y) : ∃ g, x = ptr g ∧ w0.heap.size ≤ g ∧ Blk w g v.ty (match v.fix with | some cs => cs | none => match σ v.src with | some (.agg cs) => cs | _ => v.zero) := by
  obtain ⟨g, e1, e2, e3⟩ := h.vars v hv x h1
  refine ⟨g, e1, e2, ?_⟩
  have e4 : v.now σ = (match v.fix with | some cs => cs | none => match σ v.src with | some (.agg cs) => cs | _ => v.zero) := by
    unfold Vr.now
    rw [h2]
    rfl
  rw [← e4]
  exact e3
end

/-! ### what a special operation may give back -/
inductive Kd where
  | any
  | is (v : Value)
  | pt
  | sl (n : Nat)
  | ln (E B : Int) (L : Bool) (n : Nat)
def Kd.ok : Kd → Value → Prop
  | .any, _ => True
  | .is v, u => u = v
  | .pt, u => ∃ g, u = ptr g
  | .sl n, u => ∃ g, u = .slice (some ⟨g, 0, none⟩) n n
  | .ln E B L n, u => ∃ a c, u = .agg #[.int .u64 E, .int .i64 B, .bool L, .slice a n c]
theorem Kd.inh (k : Kd) : ∃ u, k.ok u := by
  cases k with
  | any => exact ⟨undef, trivial⟩
  | is v => exact ⟨v, rfl⟩
  | pt => exact ⟨ptr 0, 0, rfl⟩
  | sl n => exact ⟨_, 0, rfl⟩
  | ln E B L n => exact ⟨_, none, 0, rfl⟩
def kinds (l : List (Nat × Kd)) (s : Nat) (u : Value) : Prop := ((l.lookup s).getD .any).ok u
theorem kinds_inh (l : List (Nat × Kd)) (s : Nat) : ∃ u, kinds l s u := Kd.inh _

/-! ### runs of single operations -/
theorem exec_store {P : Program} {o : Oper} {a : Act} {w : World} (ty : TypeId) (x y : Operand) (ho : o.op = .store ty x y) (g : Nat) (cells : Array Value) (hx : a.eval x = ptr g) (hy : a.eval y = .agg cells)
    (t : TypeId) (old : Array Value) (hg : Blk w g t old) (hi : (P.info? ty).map (·.size) = some cells.size) (hold : old.size = cells.size) (h1 : cells.all (·.oneCell') = true) :
    (execOp a.eval o).run P w = .ok .skip (w.setRow g cells) := by
  unfold ptr at hx
  unfold execOp
  simp only [ho, hx, hy, Instr.storeAt, Instr.sureAddr, Sem.run_bind, Sem.run_pure, Result.andThen_ok, run_storeVar_row w g t ty old cells hg hi hold h1]
theorem exec_load {P : Program} {o : Oper} {a : Act} {w : World} (ty : TypeId) (x : Operand) (ho : o.op = .load ty x) (g : Nat) (hx : a.eval x = ptr g) (t : TypeId) (cs : Array Value) (d : TypeDesc) (hg : Blk w g t cs)
    (hu : P.underlying ty = some d) (hd : (match d with | .struct _ | .array _ _ => true | _ => false) = true) (hi : (P.info? ty).map (·.size) = some cs.size) :
    (execOp a.eval o).run P w = .ok (.value (.agg cs)) w := by
  unfold ptr at hx
  unfold execOp
  simp only [ho, hx, Instr.loadAt, Instr.sureAddr, Sem.run_bind, Sem.run_pure, Result.andThen_ok, run_loadVar_row w g t ty cs (0, 0) d hg hu hd hi]
section
variable {P : Program} {w0 w : World} {vs : List Vr} {F : Nat → World → Value → Prop} {σ : Nat → Option Value} {k : Nat} {p : Value → Prop}
theorem CG.store_ok (fine : Fine vs) (h : CG w0 vs F σ w) {v : Vr} (hv : v ∈ vs) {o : Oper} {a : Act} (ty : TypeId) (x y : Operand) (ho : o.op = .store ty x y) (g : Nat) (cs : Array Value) (hx : a.eval x = ptr g) (hy : a.eval y = .agg cs)
    (hg : σ v.al = some (ptr g)) (hc : (match v.fix with | some cs' => cs' = cs | none => σ v.src = some (.agg cs))) (hn : σ v.st = none) (hi : (P.info? ty).map (·.size) = some v.zero.size) (hz : cs.size = v.zero.size) (h1 : cs.all (·.oneCell') = true)
    (hp : p undef) : SpecialOK P p (fun u => CG w0 vs F (upd σ v.st u)) ((execOp a.eval o).run P w) := by
  obtain ⟨g', e1, _, e3⟩ := h.vars v hv _ hg
  have := ptr_inj e1
  subst this
  have e4 : v.now σ = v.zero := by unfold Vr.now; rw [hn]; rfl
  rw [e4] at e3
  rw [exec_store ty x y ho g cs hx hy v.ty v.zero e3 (by rw [hz]; exact hi) hz.symm h1]
  exact ⟨hp, h.put fine hv hg cs hc⟩
theorem CG.lay_ok (fine : Fine vs) (h : CG w0 vs F σ w) {v : Vr} (hv : v ∈ vs) (hn : σ v.al = none) (hp : p (ptr w.heap.size)) : SpecialOK P p (fun u => CG w0 vs F (upd σ v.al u)) (.ok (.value (.pointer (some ⟨w.heap.size, 0, none⟩))) (w.alloc (.cells v.zero v.ty))) :=
  ⟨hp, h.lay fine hv hn⟩
theorem CG.call_ok {f : FuncId} {args : Array Value} (h : CG w0 vs F σ w) (h0 : σ k = none) (hn : ∀ v ∈ vs, k ≠ v.al ∧ k ≠ v.st)
    (hc : Calls P f args w fun e w' => ∃ u, e = .returned u ∧ p u ∧ Below w.heap.size w w' ∧ ∀ w'', Out (Laid vs σ) w' w'' → F k w'' u) : SpecialOK P p (fun u => CG w0 vs F (upd σ k u)) (.ok (.enter f args) w) :=
  hc.mono fun _ _ ⟨u, he, hp, hb, hf⟩ => ⟨u, he, hp, h.next h0 hn hb hf⟩
theorem CG.value_ok {w' : World} {u : Value} (h : CG w0 vs F σ w) (h0 : σ k = none) (hn : ∀ v ∈ vs, k ≠ v.al ∧ k ≠ v.st) (hp : p u) (hb : Below w.heap.size w w') (hf : ∀ w'', Out (Laid vs σ) w' w'' → F k w'' u) :
    SpecialOK P p (fun u => CG w0 vs F (upd σ k u)) (.ok (.value u) w') := ⟨hp, h.next h0 hn hb hf⟩
end

/-! ### what waits straight for what -/
def directB (ops : Array Oper) (md : Region.Mode) (i s : Nat) : Bool := match ops[i]? with
  | none => false
  | some o => o.after.any fun e => Region.binds md e && e.on == s
theorem dep_direct {ops : Array Oper} {md : Region.Mode} {i s : Nat} (h : directB ops md i s = true) : depB ops md ops.size i s = true := by
  unfold directB at h
  cases ho : ops[i]? with
  | none => rw [ho] at h; cases h
  | some o =>
    rw [ho] at h
    simp only [Array.any_eq_true, Bool.and_eq_true] at h
    obtain ⟨k, hk, hb, he⟩ := h
    have hpos : 0 < ops.size := by
      have := (Array.getElem?_eq_some_iff.1 ho).1
      omega
    obtain ⟨n, hn⟩ : ∃ n, ops.size = n + 1 := ⟨ops.size - 1, by omega⟩
    rw [hn]
    simp only [depB, ho, Array.any_eq_true, Bool.and_eq_true, Bool.or_eq_true]
    exact ⟨k, hk, hb, .inl he⟩
theorem got1 {σ : Nat → Option Value} {ν : Nat → Value} {ops : Array Oper} {md : Region.Mode} {sp : Nat → Bool} {i : Nat} (hA : Agree σ ν) (hD : Deps ops md sp i σ) (s : Nat) (hs : sp s = true) (hd : directB ops md i s = true) : σ s = some (ν s) := got hA hD s hs (dep_direct hd)
end Reg
end Go.Proofs.Ytikimmhkfjaijaa
