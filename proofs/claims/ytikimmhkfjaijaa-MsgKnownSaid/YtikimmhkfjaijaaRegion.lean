/-
  REGIONS THAT DRAW THEIR ORDER, BY A RULE OF THEIR OWN: SOME OPERATIONS ARE SPECIAL (calls, stores, what makes memory): of each it is said what it may give back ('p') and, of the world, what holds by which of them have come up ('C'). All others leave the world alone. One walk of the text's order serves every order.
-/
import Derived.Test.YtikimmhkfjaijaaMem
import Derived.Still
namespace Go.Proofs.Ytikimmhkfjaijaa
open Go.RowKit
namespace Reg

section
variable {ops : Array Oper} {md : Region.Mode} (S : Nat → Bool) (Y : Nat → Sem Next → Value → Prop)

/-- Operation number i comes up in frame a. -/
def yOp (ops : Array Oper) (S : Nat → Bool) (Y : Nat → Sem Next → Value → Prop) (i : Nat) (K : Act → Prop) (a : Act) : Prop :=
  match ops[i]? with
  | none => K a
  | some o => if Region.wanted o (yielded ops a.tmps) then ∃ v, Y i (execOp a.eval o) v ∧ K (a.put o.dst v) else S i = false ∧ K (a.put o.dst undef)
/-- The walk of the text's order. -/
def wpLex (ops : Array Oper) (S : Nat → Bool) (Y : Nat → Sem Next → Value → Prop) (Q : Act → Prop) : Nat → List Oper → Act → Prop
  | _, [], a => Q a
  | k, o :: rest, a => if Region.wanted o (yielded ops a.tmps) then ∃ v, Y k (execOp a.eval o) v ∧ wpLex ops S Y Q (k + 1) rest (a.put o.dst v) else S k = false ∧ wpLex ops S Y Q (k + 1) rest (a.put o.dst undef)
/-- Whatever order is picked. -/
def wpAnyY (md : Region.Mode) (ops : Array Oper) (S : Nat → Bool) (Y : Nat → Sem Next → Value → Prop) (Q : Act → Prop) : Nat → Array Bool → Act → Prop
  | 0, listed, a => (∀ i, i < ops.size → listed.getD i false = true) ∧ Region.ready md ops listed = [] ∧ Q a
  | fuel + 1, listed, a => Region.ready md ops listed ≠ [] ∧ ∀ i ∈ Region.ready md ops listed, yOp ops S Y i (wpAnyY md ops S Y Q fuel (listed.setIfInBounds i true)) a

variable {S Y}
theorem yOp_mono {i : Nat} {a : Act} {K K' : Act → Prop} (h : ∀ a, K a → K' a) (hh : yOp ops S Y i K a) : yOp ops S Y i K' a := by
  unfold yOp at *
  cases ho : ops[i]? with
  | none => simp only [ho] at hh ⊢; exact h _ hh
  | some o =>
    simp only [ho] at hh ⊢
    by_cases hw : Region.wanted o (yielded ops a.tmps) = true
    · simp only [hw, if_true] at hh ⊢
      obtain ⟨v, hy, hk⟩ := hh
      exact ⟨v, hy, h _ hk⟩
    · simp only [hw, if_false, Bool.false_eq_true] at hh ⊢
      exact ⟨hh.1, h _ hh.2⟩
/-- What it yields in frame a. -/
def Yields (ops : Array Oper) (S : Nat → Bool) (Y : Nat → Sem Next → Value → Prop) (i : Nat) (o : Oper) (v : Value) (a : Act) : Prop :=
  (Region.wanted o (yielded ops a.tmps) = true ∧ Y i (execOp a.eval o) v) ∨ (Region.wanted o (yielded ops a.tmps) = false ∧ S i = false ∧ v = undef)
theorem Yields.yOp {i : Nat} {o : Oper} {v : Value} {a : Act} (hi : ops[i]? = some o) (hy : Yields ops S Y i o v a) {K : Act → Prop} (h : K (a.put o.dst v)) : yOp ops S Y i K a := by
  unfold Reg.yOp
  simp only [hi]
  rcases hy with ⟨hw, hv⟩ | ⟨hw, hs, rfl⟩
  · simp only [hw, if_true]; exact ⟨v, hv, h⟩
  · simp only [hw, Bool.false_eq_true, if_false]; exact ⟨hs, h⟩
theorem yields_of {i : Nat} {o : Oper} {a : Act} {K : Act → Prop} (hi : ops[i]? = some o) (h : yOp ops S Y i K a) : ∃ v, Yields ops S Y i o v a ∧ K (a.put o.dst v) := by
  unfold yOp at h
  simp only [hi] at h
  by_cases hw : Region.wanted o (yielded ops a.tmps) = true
  · simp only [hw, if_true] at h
    obtain ⟨v, h1, h2⟩ := h
    exact ⟨v, .inl ⟨hw, h1⟩, h2⟩
  · simp only [hw, if_false, Bool.false_eq_true] at h
    exact ⟨undef, .inr ⟨by simpa using hw, h.1, rfl⟩, h.2⟩
theorem yOp_put {i j : Nat} {oi oj : Oper} {v : Value} (hj : ops[j]? = some oj) (hap : oi.apart ops oj = true)
    (hsi : ∀ cs b, oi.op ≠ .select cs b) (hsj : ∀ cs b, oj.op ≠ .select cs b) {K : Act → Prop} {a : Act}
    (hy : Yields ops S Y i oi v a) (h : yOp ops S Y j K (a.put oi.dst v)) :
    yOp ops S Y j (fun a' => Yields ops S Y i oi v a' ∧ K (a'.put oi.dst v)) a := by
  obtain ⟨h1, h2, h3⟩ := Oper.apart_spec hap
  have keep : ∀ u, Yields ops S Y i oi v (a.put oj.dst u) := fun u => by
    have he := execOp_put oi hsi a oj.dst u h3
    have hw := wanted_put oi a oj.dst u h3
    unfold Yields at *
    rw [he, hw]
    exact hy
  unfold yOp at *
  simp only [hj] at *
  rw [wanted_put oj a oi.dst v h1, execOp_put oj hsj a oi.dst v h1] at h
  by_cases hw : Region.wanted oj (yielded ops a.tmps) = true
  · simp only [hw, if_true] at h ⊢
    obtain ⟨u, hu, hk⟩ := h
    exact ⟨u, hu, keep u, by rw [← Act.put_comm a v u h2]; exact hk⟩
  · simp only [hw, if_false, Bool.false_eq_true] at h ⊢
    exact ⟨h.1, keep undef, by rw [← Act.put_comm a v undef h2]; exact h.2⟩
/-- What may come up now may be taken first. -/
theorem first_ {Q : Act → Prop} {i : Nat} {oi : Oper} {v : Value} (hi : ops[i]? = some oi) (hsel : ∀ (j : Nat) (o : Oper) cs b, ops[j]? = some o → o.op ≠ .select cs b) :
    ∀ (fuel : Nat) (listed : Array Bool) (a : Act),
      (∀ j oj, ops[j]? = some oj → j ≠ i → listed.getD j true = false → (∀ e ∈ oj.after, Region.binds md e = true → e.on ≠ i) → oi.apart ops oj = true) →
      i ∈ Region.ready md ops listed → Yields ops S Y i oi v a →
      wpAnyY md ops S Y Q fuel (listed.setIfInBounds i true) (a.put oi.dst v) → wpAnyY md ops S Y Q (fuel + 1) listed a := by
  intro fuel
  induction fuel with
  | zero =>
    intro listed a _ hr hy H
    refine ⟨fun h => (by rw [h] at hr; cases hr), fun j hj => ?_⟩
    by_cases hji : j = i
    · subst hji; exact hy.yOp hi H
    · have := ready_mono hj hji
      rw [H.2.1] at this
      cases this
  | succ fuel ih =>
    intro listed a hfree hr hy H
    refine ⟨fun h => (by rw [h] at hr; cases hr), fun j hj => ?_⟩
    by_cases hji : j = i
    · subst hji; exact hy.yOp hi H
    · have h1 := H.2 j (ready_mono hj hji)
      obtain ⟨hjun, oj, hoj, hall⟩ := mem_ready.1 hj
      have hnot : ∀ e ∈ oj.after, Region.binds md e = true → e.on ≠ i := fun e he hb heq => by
        have h1 := hall e he hb
        have h0 := (mem_ready.1 hr).1
        rw [heq] at h1
        rcases Nat.lt_or_ge i listed.size with h' | h'
        · simp [h'] at h0 h1; rw [h0] at h1; cases h1
        · simp [Array.getElem?_eq_none h'] at h1
      have h2 := yOp_put hoj (hfree j oj hoj hji hjun hnot) (fun cs b => hsel i oi cs b hi) (fun cs b => hsel j oj cs b hoj) hy h1
      have hfree' : ∀ k ok, ops[k]? = some ok → k ≠ i → (listed.setIfInBounds j true).getD k true = false →
          (∀ e ∈ ok.after, Region.binds md e = true → e.on ≠ i) → oi.apart ops ok = true := fun k ok hk hki hun hno => by
        refine hfree k ok hk hki ?_ hno
        by_cases hjk : j = k
        · subst hjk; exact hjun
        · rw [getD_set_ne true hjk] at hun; exact hun
      refine yOp_mono (fun a' h3 => ih (listed.setIfInBounds j true) a' hfree' (ready_mono hr (Ne.symm hji)) h3.1 ?_) h2
      rw [Array.setIfInBounds_comm _ _ hji]
      exact h3.2
theorem lex_ {Q : Act → Prop} (hs : Region.noSelect ops = true) : ∀ (l : List Oper) (k : Nat) (listed : Array Bool) (a : Act), (∀ j, l[j]? = ops[k + j]?) → k + l.length = ops.size → listed.size = ops.size →
    (∀ j, j < k → listed.getD j false = true) → Region.lexFrom md ops l.length k listed = true → wpLex ops S Y Q k l a → wpAnyY md ops S Y Q l.length listed a
  | [], k, _, _, _, hk, _, hd, hB, h => ⟨fun i hi => hd i (by simp at hk; omega), by simpa [Region.lexFrom] using hB, h⟩
  | o :: l, k, listed, a, hl, hk, hz, hd, hB, h => by
    have h0 : ops[k]? = some o := by simpa using (hl 0).symm
    have hlt : k < ops.size := by simp at hk; omega
    simp only [List.length_cons, Region.lexFrom, Bool.and_eq_true] at hB
    obtain ⟨⟨hr, hf⟩, hB'⟩ := hB
    have hst : yOp ops S Y k (wpLex ops S Y Q (k + 1) l) a := by unfold yOp; simp only [h0]; exact h
    obtain ⟨v, hy, hK⟩ := yields_of h0 hst
    refine first_ h0 (Region.noSelect_spec hs) l.length listed a (Region.free_spec h0 hf) (by simpa using hr) hy
      (lex_ hs l (k + 1) _ _ (fun j => by have := hl (j + 1); simpa [Nat.add_assoc, Nat.add_comm 1 j] using this) (by simp at hk; omega) (by simpa using hz) (fun j hj => ?_) hB' hK)
    by_cases e : k = j
    · subst e; simp [hz, hlt]
    · rw [getD_set_ne false e]; exact hd j (by omega)
end

/-! ### What waits for what -/
def depB (ops : Array Oper) (md : Region.Mode) : Nat → Nat → Nat → Bool
  | 0, _, _ => false
  | n + 1, i, s => match ops[i]? with
    | none => false
    | some o => o.after.any fun e => Region.binds md e && (e.on == s || depB ops md n e.on s)
/-- what waits for nothing that has not come up -/
def Closed (ops : Array Oper) (md : Region.Mode) (listed : Array Bool) : Prop :=
  ∀ i o, listed.getD i false = true → ops[i]? = some o → ∀ e ∈ o.after, Region.binds md e = true → listed.getD e.on false = true
theorem dep_listed {ops : Array Oper} {md : Region.Mode} {listed : Array Bool} (hc : Closed ops md listed) : ∀ (n i s : Nat) (o : Oper), ops[i]? = some o →
    (∀ e ∈ o.after, Region.binds md e = true → listed.getD e.on false = true) → depB ops md n i s = true → listed.getD s false = true
  | 0, _, _, _, _, _, h => by simp [depB] at h
  | n + 1, i, s, o, ho, hr, h => by
    simp only [depB, ho, Array.any_eq_true, Bool.and_eq_true, Bool.or_eq_true] at h
    obtain ⟨k, hk, hb, hd⟩ := h
    have hl := hr _ (Array.getElem_mem hk) hb
    rcases hd with hd | hd
    · have : o.after[k].on = s := by simpa using hd
      rw [← this]; exact hl
    · cases ho' : ops[o.after[k].on]? with
      | none => cases n <;> simp [depB, ho'] at hd
      | some o' => exact dep_listed hc n _ s o' ho' (hc _ o' hl ho') hd

/-! ### The rule -/
def upd (σ : Nat → Option Value) (i : Nat) (u : Value) : Nat → Option Value := fun s => if s = i then some u else σ s
theorem upd_same (σ : Nat → Option Value) (i : Nat) (u : Value) : upd σ i u i = some u := by simp [upd]
theorem upd_other (σ : Nat → Option Value) {i s : Nat} (u : Value) (h : s ≠ i) : upd σ i u s = σ s := by simp [upd, h]
def Agree (σ : Nat → Option Value) (ν : Nat → Value) : Prop := ∀ s u, σ s = some u → u = ν s
def Deps (ops : Array Oper) (md : Region.Mode) (sp : Nat → Bool) (i : Nat) (σ : Nat → Option Value) : Prop := ∀ s, sp s = true → depB ops md ops.size i s = true → ∃ u, σ s = some u
/-- what a special operation must do -/
def SpecialOK (P : Program) (p : Value → Prop) (C : Value → World → Prop) : Result Next → Prop
  | .ok (.value u) w' => p u ∧ C u w'
  | .ok .skip w' => p undef ∧ C undef w'
  | .ok (.enter f args) w' => Calls P f args w' fun e w'' => ∃ u, e = .returned u ∧ p u ∧ C u w''
  | _ => False
/-- what any other one must do -/
def PlainOK (v : Value) (w : World) : Result Next → Prop
  | .ok (.value u) w' => w' = w ∧ u = v
  | .ok .skip w' => w' = w ∧ v = undef
  | _ => False
def Yv (P : Program) (ops : Array Oper) (md : Region.Mode) (sp : Nat → Bool) (p : Nat → Value → Prop) (C : (Nat → Option Value) → World → Prop) (ν : Nat → Value) (i : Nat) (s : Sem Next) (v : Value) : Prop :=
  if sp i = true then v = ν i ∧ ∀ σ w, Agree σ ν → Deps ops md sp i σ → σ i = none → C σ w → SpecialOK P (p i) (fun u => C (upd σ i u)) (s.run P w)
  else ∀ σ w, Agree σ ν → Deps ops md sp i σ → C σ w → PlainOK v w (s.run P w)

section
variable {P : Program} {ops : Array Oper} {md : Region.Mode} {sp : Nat → Bool} {p : Nat → Value → Prop} {C : (Nat → Option Value) → World → Prop}

theorem any_of {Qv : (Nat → Value) → Act → Prop} {Q' : Exit → Act → World → Prop} (inh : ∀ s, ∃ u, p s u)
    (hQ : ∀ ν σ w a, Agree σ ν → (∀ s, sp s = true → s < ops.size → σ s = some (ν s)) → C σ w → Qv ν a → Q' .normal a w) :
    ∀ (fuel : Nat) (listed : Array Bool) (a : Act) (σ : Nat → Option Value) (w : World), C σ w → Closed ops md listed → listed.size = ops.size →
      (∀ s, sp s = true → listed.getD s false = true → ∃ u, σ s = some u) → (∀ s u, σ s = some u → p s u ∧ listed.getD s false = true) →
      (∀ ν, (∀ s, p s (ν s)) → Agree σ ν → wpAnyY md ops sp (Yv P ops md sp p C ν) (Qv ν) fuel listed a) → wpAny P md ops Q' fuel listed a w := by
  have pick : ∀ σ : Nat → Option Value, (∀ s u, σ s = some u → p s u) → ∃ ν : Nat → Value, (∀ s, p s (ν s)) ∧ Agree σ ν := by
    intro σ hp
    refine ⟨fun s => (σ s).getD (Classical.choose (inh s)), fun s => ?_, fun s u h => by simp [h]⟩
    cases h : σ s with
    | none => simpa [h] using Classical.choose_spec (inh s)
    | some u => simpa [h] using hp s u h
  intro fuel
  induction fuel with
  | zero =>
    intro listed a σ w hC hcl hz hall hp H
    obtain ⟨ν, hν, hA⟩ := pick σ (fun s u h => (hp s u h).1)
    obtain ⟨h1, h2, h3⟩ := H ν hν hA
    refine ⟨h2, hQ ν σ w a hA (fun s hs hlt => ?_) hC h3⟩
    obtain ⟨u, hu⟩ := hall s hs (h1 s hlt)
    rw [hu, hA s u hu]
  | succ fuel ih =>
    intro listed a σ w hC hcl hz hall hp H
    obtain ⟨ν, hν, hA⟩ := pick σ (fun s u h => (hp s u h).1)
    have H0 := H ν hν hA
    refine ⟨fun h => absurd h H0.1, fun i hi => ?_⟩
    obtain ⟨hun, o, ho, hall'⟩ := mem_ready.1 hi
    have hisz : i < listed.size := by
      rcases Nat.lt_or_ge i listed.size with h | h
      · exact h
      · simp [Array.getElem?_eq_none h] at hun
    have hunf : listed.getD i false = false := by
      simp [hisz] at hun ⊢; exact hun
    have hcl' : Closed ops md (listed.setIfInBounds i true) := by
      intro j oj hj hoj e he hb
      by_cases hji : i = j
      · subst hji
        rw [ho] at hoj
        obtain rfl := Option.some.inj hoj
        exact getD_set_true (hall' e he hb)
      · rw [getD_set_ne false hji] at hj
        exact getD_set_true (hcl j oj hj hoj e he hb)
    have hD : Deps ops md sp i σ := fun s hs hd => hall s hs (dep_listed hcl _ i s o ho hall' hd)
    have hz' : (listed.setIfInBounds i true).size = ops.size := by simpa using hz
    have step : ∀ a', (∀ ν, (∀ s, p s (ν s)) → Agree σ ν → wpAnyY md ops sp (Yv P ops md sp p C ν) (Qv ν) fuel (listed.setIfInBounds i true) a') → sp i = false → wpAny P md ops Q' fuel (listed.setIfInBounds i true) a' w := by
      intro a' h hsp
      refine ih _ a' σ w hC hcl' hz' (fun s hs hl => ?_) (fun s u hu => ⟨(hp s u hu).1, getD_set_true (hp s u hu).2⟩) h
      by_cases hsi : i = s
      · subst hsi; rw [hsp] at hs; cases hs
      · rw [getD_set_ne false hsi] at hl; exact hall s hs hl
    -- what each assignment says of this operation
    have each : ∀ ν, (∀ s, p s (ν s)) → Agree σ ν → yOp ops sp (Yv P ops md sp p C ν) i (wpAnyY md ops sp (Yv P ops md sp p C ν) (Qv ν) fuel (listed.setIfInBounds i true)) a := fun ν h1 h2 => (H ν h1 h2).2 i hi
    unfold wpOp
    simp only [ho]
    by_cases hw : Region.wanted o (yielded ops a.tmps) = true
    · simp only [hw, if_true]
      have each' : ∀ ν, (∀ s, p s (ν s)) → Agree σ ν → ∃ v, Yv P ops md sp p C ν i (execOp a.eval o) v ∧ wpAnyY md ops sp (Yv P ops md sp p C ν) (Qv ν) fuel (listed.setIfInBounds i true) (a.put o.dst v) := by
        intro ν h1 h2
        have := each ν h1 h2
        unfold yOp at this
        simpa only [ho, hw, if_true] using this
      left
      unfold Oper.wp
      cases hsp : sp i with
      | false =>
        obtain ⟨v, hv, _⟩ := each' ν hν hA
        have hv' := hv
        unfold Yv at hv'
        rw [if_neg (by rw [hsp]; exact Bool.false_ne_true)] at hv'
        have hr := hv' σ w hA hD hC
        generalize hrun : (execOp a.eval o).run P w = r at hr
        have fin : wpAny P md ops Q' fuel (listed.setIfInBounds i true) (a.put o.dst v) w := by
          refine step _ (fun ν' h1 h2 => ?_) hsp
          obtain ⟨v', hv1, hk⟩ := each' ν' h1 h2
          unfold Yv at hv1
          rw [if_neg (by rw [hsp]; exact Bool.false_ne_true)] at hv1
          have hr' := hv1 σ w h2 hD hC
          rw [hrun] at hr'
          have e : v' = v := by
            cases r with
            | ok n w' =>
              cases n <;> simp only [PlainOK] at hr hr'
              case value u => exact hr'.2.symm.trans hr.2
              case skip => exact hr'.2.trans hr.2.symm
            | halt x w' => simp only [PlainOK] at hr
          rw [← e]; exact hk
        cases r with
        | ok n w' =>
          cases n <;> simp only [PlainOK] at hr <;> simp only [Oper.upon]
          case value u => obtain ⟨rfl, rfl⟩ := hr; exact fin
          case skip => obtain ⟨rfl, rfl⟩ := hr; exact fin
        | halt x w' => simp only [PlainOK] at hr
      | true =>
        obtain ⟨v, hv, _⟩ := each' ν hν hA
        unfold Yv at hv
        rw [if_pos hsp] at hv
        have hnone : σ i = none := by
          cases h : σ i with
          | none => rfl
          | some u => have := (hp i u h).2; rw [hunf] at this; cases this
        have hr := hv.2 σ w hA hD hnone hC
        generalize (execOp a.eval o).run P w = r at hr
        have fin : ∀ u w', p i u → C (upd σ i u) w' → wpAny P md ops Q' fuel (listed.setIfInBounds i true) (a.put o.dst u) w' := by
          intro u w' hpu hC'
          refine ih _ _ (upd σ i u) w' hC' hcl' hz' (fun s hs hl => ?_) (fun s x hx => ?_) (fun ν' h1 h2 => ?_)
          · by_cases hsi : s = i
            · subst hsi; exact ⟨u, upd_same _ _ _⟩
            · rw [upd_other _ _ hsi]; rw [getD_set_ne false (Ne.symm hsi)] at hl; exact hall s hs hl
          · by_cases hsi : s = i
            · subst hsi
              rw [upd_same] at hx
              obtain rfl := Option.some.inj hx
              refine ⟨hpu, ?_⟩
              simp [hisz]
            · rw [upd_other _ _ hsi] at hx
              exact ⟨(hp s x hx).1, getD_set_true (hp s x hx).2⟩
          · have h2' : Agree σ ν' := fun s x hx => by
              by_cases hsi : s = i
              · subst hsi; rw [hnone] at hx; cases hx
              · exact h2 s x (by rw [upd_other _ _ hsi]; exact hx)
            obtain ⟨v', hv1, hk⟩ := each' ν' h1 h2'
            unfold Yv at hv1
            rw [if_pos hsp] at hv1
            have e : u = ν' i := h2 i u (upd_same _ _ _)
            rw [hv1.1, ← e] at hk
            exact hk
        cases r with
        | ok n w' =>
          cases n <;> simp only [SpecialOK] at hr <;> simp only [Oper.upon]
          case value u => exact fin _ _ hr.1 hr.2
          case skip => exact fin _ _ hr.1 hr.2
          case enter f args => exact hr.mono fun e w'' ⟨u, he, hpu, hc⟩ => by subst he; exact fin _ _ hpu hc
        | halt x w' => simp only [SpecialOK] at hr
    · simp only [hw, if_false, Bool.false_eq_true]
      have each' : ∀ ν, (∀ s, p s (ν s)) → Agree σ ν → sp i = false ∧ wpAnyY md ops sp (Yv P ops md sp p C ν) (Qv ν) fuel (listed.setIfInBounds i true) (a.put o.dst undef) := by
        intro ν h1 h2
        have := each ν h1 h2
        unfold yOp at this
        simpa only [ho, hw, if_false, Bool.false_eq_true] using this
      exact step _ (fun ν' h1 h2 => (each' ν' h1 h2).2) (each' ν hν hA).1

/-- THE RULE: 'sp' says which operations are special, 'p' what each may give back, 'C' what holds of the world, by what those that have come up gave back. -/
theorem wp_region_spec {id : Nat} {Q : Exit → Act → World → Prop} {a : Act} {w : World} {l : List Oper} (sp : Nat → Bool) (p : Nat → Value → Prop) (C : (Nat → Option Value) → World → Prop)
    (hm : P.follows .mixedOrders = true) (hB : Region.lexB .any l.toArray = true) (inh : ∀ s, ∃ u, p s u) (h0 : C (fun _ => none) w.drew)
    (h : ∀ ν, (∀ s, p s (ν s)) → wpLex l.toArray sp (Yv P l.toArray .any sp p C ν) (fun a' => ∀ σ w', Agree σ ν → (∀ s, sp s = true → s < l.length → σ s = some (ν s)) → C σ w' → Q .normal a' w') 0 l a) :
    (Code.region id l.toArray true).wp P Q a w := by
  simp only [Region.lexB, Bool.and_eq_true] at hB
  refine wp_region_any hm ?_
  refine any_of (sp := sp) (p := p) (C := C) (Qv := fun ν a' => ∀ σ w', Agree σ ν → (∀ s, sp s = true → s < l.length → σ s = some (ν s)) → C σ w' → Q .normal a' w') inh
    (fun ν σ w a hA hall hC hq => hq σ w hA (fun s h1 h2 => hall s h1 (by simpa using h2)) hC) _ _ _ (fun _ => none) _ h0 ?_ (by simp) ?_ ?_ ?_
  · intro i o hi
    by_cases h : i < l.toArray.size
    · simp at h; simp [h] at hi
    · simp at h; simp [h] at hi
  · intro s _ hl
    by_cases h : s < l.toArray.size
    · simp at h; simp [h] at hl
    · simp at h; simp [h] at hl
  · intro s u hu; cases hu
  · intro ν hν _
    have := lex_ (md := .any) (S := sp) (Y := Yv P l.toArray .any sp p C ν) hB.1 l 0 (Array.replicate l.toArray.size false) a (by simp) (by simp) (by simp) (fun j hj => by omega) (by simpa using hB.2) (h ν hν)
    simpa using this

/-! ### Steps of its walk -/
variable {S : Nat → Bool} {Y : Nat → Sem Next → Value → Prop} {Q : Act → Prop} {k : Nat} {o : Oper} {rest : List Oper} {a : Act}
theorem lex_nil (h : Q a) : wpLex ops S Y Q k [] a := h
theorem lex_skip (hw : Region.wanted o (yielded ops a.tmps) = false) (hs : S k = false) (h : wpLex ops S Y Q (k + 1) rest (a.put o.dst undef)) : wpLex ops S Y Q k (o :: rest) a := by
  unfold wpLex; simp only [hw, Bool.false_eq_true, if_false]; exact ⟨hs, h⟩
theorem lex_want {v : Value} (hw : Region.wanted o (yielded ops a.tmps) = true) (hy : Y k (execOp a.eval o) v) (h : wpLex ops S Y Q (k + 1) rest (a.put o.dst v)) : wpLex ops S Y Q k (o :: rest) a := by
  unfold wpLex; simp only [hw, if_true]; exact ⟨v, hy, h⟩
variable {ν : Nat → Value}
theorem lex_plain (hw : Region.wanted o (yielded ops a.tmps) = true) (hs : sp k = false)
    (h : ∃ v, (∀ σ w, Agree σ ν → Deps ops md sp k σ → C σ w → PlainOK v w ((execOp a.eval o).run P w)) ∧ wpLex ops sp (Yv P ops md sp p C ν) Q (k + 1) rest (a.put o.dst v)) : wpLex ops sp (Yv P ops md sp p C ν) Q k (o :: rest) a := by
  obtain ⟨v, hy, h⟩ := h
  exact lex_want hw (by unfold Yv; rw [if_neg (by rw [hs]; exact Bool.false_ne_true)]; exact hy) h
theorem lex_special (hw : Region.wanted o (yielded ops a.tmps) = true) (hs : sp k = true)
    (hy : ∀ σ w, Agree σ ν → Deps ops md sp k σ → σ k = none → C σ w → SpecialOK P (p k) (fun u => C (upd σ k u)) ((execOp a.eval o).run P w))
    (h : wpLex ops sp (Yv P ops md sp p C ν) Q (k + 1) rest (a.put o.dst (ν k))) : wpLex ops sp (Yv P ops md sp p C ν) Q k (o :: rest) a :=
  lex_want hw (by unfold Yv; rw [if_pos hs]; exact ⟨rfl, hy⟩) h
end

/-! ### Where memory only grows -/
/-- What each special operation gave back is as 'F' says, and nothing that was there has changed. -/
def CF (w0 : World) (F : Nat → World → Value → Prop) (σ : Nat → Option Value) (w : World) : Prop := Below w0.heap.size w0 w ∧ ∀ s u, σ s = some u → F s w u
def Stable (F : Nat → World → Value → Prop) : Prop := ∀ s w w' u, F s w u → Below w.heap.size w w' → F s w' u
section
variable {w0 w w' : World} {F : Nat → World → Value → Prop} {σ : Nat → Option Value} {k : Nat} {u : Value}
theorem CF.start : CF w0 F (fun _ => none) w0.drew := ⟨(Below.refl _ _).drew, fun _ _ h => by cases h⟩
theorem CF.next (st : Stable F) (h : CF w0 F σ w) (hb : Below w.heap.size w w') (hk : F k w' u) : CF w0 F (upd σ k u) w' := by
  refine ⟨h.1.trans (hb.mono h.1.size), fun s x hx => ?_⟩
  by_cases e : s = k
  · subst e
    rw [upd_same] at hx
    obtain rfl := Option.some.inj hx
    exact hk
  · rw [upd_other _ _ e] at hx
    exact st s w w' x (h.2 s x hx) hb
/-- a special call that changes nothing that was there -/
theorem call_ok {P : Program} {p : Value → Prop} {f : FuncId} {args : Array Value} (st : Stable F) (hC : CF w0 F σ w)
    (h : Calls P f args w fun e w' => ∃ u, e = .returned u ∧ p u ∧ F k w' u ∧ Below w.heap.size w w') : SpecialOK P p (fun u => CF w0 F (upd σ k u)) (.ok (.enter f args) w) :=
  h.mono fun _ _ ⟨u, he, hp, hf, hb⟩ => ⟨u, he, hp, hC.next st hb hf⟩
theorem value_ok {P : Program} {p : Value → Prop} (st : Stable F) (hC : CF w0 F σ w) (hb : Below w.heap.size w w') (hp : p u) (hf : F k w' u) : SpecialOK P p (fun u => CF w0 F (upd σ k u)) (.ok (.value u) w') :=
  ⟨hp, hC.next st hb hf⟩
/-- the value of a special operation that has come up -/
theorem got {ν : Nat → Value} {ops : Array Oper} {md : Region.Mode} {sp : Nat → Bool} {i : Nat} (hA : Agree σ ν) (hD : Deps ops md sp i σ) (s : Nat) (hs : sp s = true) (hd : depB ops md ops.size i s = true) : σ s = some (ν s) := by
  obtain ⟨u, hu⟩ := hD s hs hd
  rw [hu, hA s u hu]
end
end Reg
end Go.Proofs.Ytikimmhkfjaijaa
