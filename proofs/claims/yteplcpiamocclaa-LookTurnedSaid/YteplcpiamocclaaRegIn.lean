/-
  REGIONS THAT DRAW THEIR ORDER, in a round of a loop over an iterator (printed by wip/gen-regin.py out of XRegion).
-/
import Derived.Test.YteplcpiamocclaaRegion
import Derived.OrdersIn
import Derived.RangeFuncCalls
namespace Go.Proofs.Yteplcpiamocclaa
open Go.RowKit
namespace Reg

theorem nodefer {l : List Oper} (h : l.all (fun o => match o.op with | .defer _ => false | _ => true) = true) (i : Nat) (o : Oper) (ho : l.toArray[i]? = some o) : ∀ c, o.op ≠ .defer c := by
  intro c e
  have hm : o ∈ l := List.mem_of_getElem? (by simpa using ho)
  have := List.all_eq_true.1 h o hm
  rw [e] at this
  cases this
section
variable {l0 n : Nat} {P : Program} {ops : Array Oper} {md : Region.Mode} {sp : Nat → Bool} {p : Nat → Value → Prop} {C : (Nat → Option Value) → World → Prop}
theorem any_in (hnd : ∀ (i : Nat) (o : Oper), ops[i]? = some o → ∀ c, o.op ≠ .defer c) {Qv : (Nat → Value) → Act → Prop} {Q' : Exit → Act → World → Prop} (inh : ∀ s, ∃ u, p s u)
    (hQ : ∀ ν σ w a, Agree σ ν → (∀ s, sp s = true → s < ops.size → σ s = some (ν s)) → C σ w → Qv ν a → Q' .normal a w) :
    ∀ (fuel : Nat) (listed : Array Bool) (a : Act) (σ : Nat → Option Value) (w : World), C σ w → Closed ops md listed → listed.size = ops.size →
      (∀ s, sp s = true → listed.getD s false = true → ∃ u, σ s = some u) → (∀ s u, σ s = some u → p s u ∧ listed.getD s false = true) →
      (∀ ν, (∀ s, p s (ν s)) → Agree σ ν → wpAnyY md ops sp (Yv P ops md sp p C ν) (Qv ν) fuel listed a) → wpAnyIn (Fence.wide.inRound l0) n P md ops Q' fuel listed a w := by
  have pick : ∀ σ : Nat → Option Value, (∀ s u, σ s = some u → p s u) → ∃ ν : Nat → Value, (∀ s, p s (ν s)) ∧ Agree σ ν := by
    intro σ hp
    refine ⟨fun s => (σ s).getD (Classical.choose (inh s)), fun s => ?_, fun s u h => by simp [h]⟩
    cases h : σ s with
    | none => simpa [h] using Classical.choose_spec (inh s)
    | some u => simpa [h] using hp s u h
  intro fuel
  induction fuel with
  | zero =>
    intro listed a σ w hC hcl hz hall hp H
    obtain ⟨ν, hν, hA⟩ := pick σ (fun s u h => (hp s u h).1)
    obtain ⟨h1, h2, h3⟩ := H ν hν hA
    refine ⟨h2, hQ ν σ w a hA (fun s hs hlt => ?_) hC h3⟩
    obtain ⟨u, hu⟩ := hall s hs (h1 s hlt)
    rw [hu, hA s u hu]
  | succ fuel ih =>
    intro listed a σ w hC hcl hz hall hp H
    obtain ⟨ν, hν, hA⟩ := pick σ (fun s u h => (hp s u h).1)
    have H0 := H ν hν hA
    refine ⟨fun h => absurd h H0.1, fun i hi => ?_⟩
    obtain ⟨hun, o, ho, hall'⟩ := mem_ready.1 hi
    have hisz : i < listed.size := by
      rcases Nat.lt_or_ge i listed.size with h | h
      · exact h
      · simp [Array.getElem?_eq_none h] at hun
    have hunf : listed.getD i false = false := by
      simp [hisz] at hun ⊢; exact hun
    have hcl' : Closed ops md (listed.setIfInBounds i true) := by
      intro j oj hj hoj e he hb
      by_cases hji : i = j
      · subst hji
        rw [ho] at hoj
        obtain rfl := Option.some.inj hoj
        exact getD_set_true (hall' e he hb)
      · rw [getD_set_ne false hji] at hj
        exact getD_set_true (hcl j oj hj hoj e he hb)
    have hD : Deps ops md sp i σ := fun s hs hd => hall s hs (dep_listed hcl _ i s o ho hall' hd)
    have hz' : (listed.setIfInBounds i true).size = ops.size := by simpa using hz
    have step : ∀ a', (∀ ν, (∀ s, p s (ν s)) → Agree σ ν → wpAnyY md ops sp (Yv P ops md sp p C ν) (Qv ν) fuel (listed.setIfInBounds i true) a') → sp i = false → wpAnyIn (Fence.wide.inRound l0) n P md ops Q' fuel (listed.setIfInBounds i true) a' w := by
      intro a' h hsp
      refine ih _ a' σ w hC hcl' hz' (fun s hs hl => ?_) (fun s u hu => ⟨(hp s u hu).1, getD_set_true (hp s u hu).2⟩) h
      by_cases hsi : i = s
      · subst hsi; rw [hsp] at hs; cases hs
      · rw [getD_set_ne false hsi] at hl; exact hall s hs hl
    -- what each assignment says of this operation
    have each : ∀ ν, (∀ s, p s (ν s)) → Agree σ ν → yOp ops sp (Yv P ops md sp p C ν) i (wpAnyY md ops sp (Yv P ops md sp p C ν) (Qv ν) fuel (listed.setIfInBounds i true)) a := fun ν h1 h2 => (H ν h1 h2).2 i hi
    unfold wpOpIn
    simp only [ho]
    by_cases hw : Region.wanted o (yielded ops a.tmps) = true
    · simp only [hw, if_true]
      have each' : ∀ ν, (∀ s, p s (ν s)) → Agree σ ν → ∃ v, Yv P ops md sp p C ν i (execOp a.eval o) v ∧ wpAnyY md ops sp (Yv P ops md sp p C ν) (Qv ν) fuel (listed.setIfInBounds i true) (a.put o.dst v) := by
        intro ν h1 h2
        have := each ν h1 h2
        unfold yOp at this
        simpa only [ho, hw, if_true] using this
      unfold Oper.wpIn
      rw [Oper.semAt_eq _ _ _ (hnd i o ho)]
      refine ⟨fun _ _ => trivial, ?_⟩
      cases hsp : sp i with
      | false =>
        obtain ⟨v, hv, _⟩ := each' ν hν hA
        have hv' := hv
        unfold Yv at hv'
        rw [if_neg (by rw [hsp]; exact Bool.false_ne_true)] at hv'
        have hr := hv' σ w hA hD hC
        generalize hrun : (execOp a.eval o).run P w = r at hr
        have fin : wpAnyIn (Fence.wide.inRound l0) n P md ops Q' fuel (listed.setIfInBounds i true) (a.put o.dst v) w := by
          refine step _ (fun ν' h1 h2 => ?_) hsp
          obtain ⟨v', hv1, hk⟩ := each' ν' h1 h2
          unfold Yv at hv1
          rw [if_neg (by rw [hsp]; exact Bool.false_ne_true)] at hv1
          have hr' := hv1 σ w h2 hD hC
          rw [hrun] at hr'
          have e : v' = v := by
            cases r with
            | ok n w' =>
              cases n <;> simp only [PlainOK] at hr hr'
              case value u => exact hr'.2.symm.trans hr.2
              case skip => exact hr'.2.trans hr.2.symm
            | halt x w' => simp only [PlainOK] at hr
          rw [← e]; exact hk
        cases r with
        | ok n w' =>
          cases n <;> simp only [PlainOK] at hr <;> simp only [Oper.uponIn]
          case value u => obtain ⟨rfl, rfl⟩ := hr; exact fin
          case skip => obtain ⟨rfl, rfl⟩ := hr; exact fin
        | halt x w' => simp only [PlainOK] at hr
      | true =>
        obtain ⟨v, hv, _⟩ := each' ν hν hA
        unfold Yv at hv
        rw [if_pos hsp] at hv
        have hnone : σ i = none := by
          cases h : σ i with
          | none => rfl
          | some u => have := (hp i u h).2; rw [hunf] at this; cases this
        have hr := hv.2 σ w hA hD hnone hC
        generalize (execOp a.eval o).run P w = r at hr
        have fin : ∀ u w', p i u → C (upd σ i u) w' → wpAnyIn (Fence.wide.inRound l0) n P md ops Q' fuel (listed.setIfInBounds i true) (a.put o.dst u) w' := by
          intro u w' hpu hC'
          refine ih _ _ (upd σ i u) w' hC' hcl' hz' (fun s hs hl => ?_) (fun s x hx => ?_) (fun ν' h1 h2 => ?_)
          · by_cases hsi : s = i
            · subst hsi; exact ⟨u, upd_same _ _ _⟩
            · rw [upd_other _ _ hsi]; rw [getD_set_ne false (Ne.symm hsi)] at hl; exact hall s hs hl
          · by_cases hsi : s = i
            · subst hsi
              rw [upd_same] at hx
              obtain rfl := Option.some.inj hx
              refine ⟨hpu, ?_⟩
              simp [hisz]
            · rw [upd_other _ _ hsi] at hx
              exact ⟨(hp s x hx).1, getD_set_true (hp s x hx).2⟩
          · have h2' : Agree σ ν' := fun s x hx => by
              by_cases hsi : s = i
              · subst hsi; rw [hnone] at hx; cases hx
              · exact h2 s x (by rw [upd_other _ _ hsi]; exact hx)
            obtain ⟨v', hv1, hk⟩ := each' ν' h1 h2'
            unfold Yv at hv1
            rw [if_pos hsp] at hv1
            have e : u = ν' i := h2 i u (upd_same _ _ _)
            rw [hv1.1, ← e] at hk
            exact hk
        cases r with
        | ok n w' =>
          cases n <;> simp only [SpecialOK] at hr <;> simp only [Oper.uponIn]
          case value u => exact fin _ _ hr.1 hr.2
          case skip => exact fin _ _ hr.1 hr.2
          case enter f args => exact ⟨fun h => (by cases h), (callsIn_wide.2 (hr.mono fun e w'' ⟨u, he, hpu, hc⟩ => by subst he; exact fin _ _ hpu hc)).inRound l0⟩
        | halt x w' => simp only [SpecialOK] at hr
    · simp only [hw, if_false, Bool.false_eq_true]
      have each' : ∀ ν, (∀ s, p s (ν s)) → Agree σ ν → sp i = false ∧ wpAnyY md ops sp (Yv P ops md sp p C ν) (Qv ν) fuel (listed.setIfInBounds i true) (a.put o.dst undef) := by
        intro ν h1 h2
        have := each ν h1 h2
        unfold yOp at this
        simpa only [ho, hw, if_false, Bool.false_eq_true] using this
      exact ⟨fun _ _ => trivial, step _ (fun ν' h1 h2 => (each' ν' h1 h2).2) (each' ν hν hA).1⟩

/-- THE RULE: 'sp' says which operations are special, 'p' what each may give back, 'C' what holds of the world, by what those that have come up gave back. -/
theorem wpIn_region_spec {id : Nat} {Q : Exit → Act → World → Prop} {a : Act} {w : World} {l : List Oper} (sp : Nat → Bool) (p : Nat → Value → Prop) (C : (Nat → Option Value) → World → Prop)
    (hnd : l.all (fun o => match o.op with | .defer _ => false | _ => true) = true) (hm : P.follows .mixedOrders = true) (hB : Region.lexB .any l.toArray = true) (inh : ∀ s, ∃ u, p s u) (h0 : C (fun _ => none) w.drew)
    (h : ∀ ν, (∀ s, p s (ν s)) → wpLex l.toArray sp (Yv P l.toArray .any sp p C ν) (fun a' => ∀ σ w', Agree σ ν → (∀ s, sp s = true → s < l.length → σ s = some (ν s)) → C σ w' → Q .normal a' w') 0 l a) :
    (Code.region id l.toArray true).wpIn (Fence.wide.inRound l0) n P Q a w := by
  simp only [Region.lexB, Bool.and_eq_true] at hB
  refine wpIn_region_any hm ?_
  refine any_in (nodefer hnd) (sp := sp) (p := p) (C := C) (Qv := fun ν a' => ∀ σ w', Agree σ ν → (∀ s, sp s = true → s < l.length → σ s = some (ν s)) → C σ w' → Q .normal a' w') inh
    (fun ν σ w a hA hall hC hq => hq σ w hA (fun s h1 h2 => hall s h1 (by simpa using h2)) hC) _ _ _ (fun _ => none) _ h0 ?_ (by simp) ?_ ?_ ?_
  · intro i o hi
    by_cases h : i < l.toArray.size
    · simp at h; simp [h] at hi
    · simp at h; simp [h] at hi
  · intro s _ hl
    by_cases h : s < l.toArray.size
    · simp at h; simp [h] at hl
    · simp at h; simp [h] at hl
  · intro s u hu; cases hu
  · intro ν hν _
    have := lex_ (md := .any) (S := sp) (Y := Yv P l.toArray .any sp p C ν) hB.1 l 0 (Array.replicate l.toArray.size false) a (by simp) (by simp) (by simp) (fun j hj => by omega) (by simpa using hB.2) (h ν hν)
    simpa using this

end
end Reg
end Go.Proofs.Yteplcpiamocclaa
