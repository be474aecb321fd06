/-
  REGIONS THAT DRAW THEIR ORDER, WHOSE SPECIAL OPERATIONS (calls, stores, what makes memory) STAND IN A CHAIN, each waiting for the one ahead: then what holds of the world is said stage by stage (J: by the values that the chain's operations have given back so far), and every other operation meets just the stages between what it waits for and what waits for it.
-/
import Derived.Test.YtikimmhkfjaijaaRegion
import Derived.Great.BuildSlice
import Derived.Deep.MidRow
namespace Go.Proofs.Ytikimmhkfjaijaa
open Go.RowKit
namespace Reg
def Deps2 (ops : Array Oper) (md : Region.Mode) (sp : Nat → Bool) (i : Nat) (σ : Nat → Option Value) : Prop := ∀ d s, sp s = true → depB ops md d i s = true → ∃ u, σ s = some u
/-- what waits for i has not come up -/
def Bef (ops : Array Oper) (md : Region.Mode) (sp : Nat → Bool) (i : Nat) (σ : Nat → Option Value) : Prop := ∀ d s, sp s = true → depB ops md d s i = true → σ s = none
def Yw (P : Program) (ops : Array Oper) (md : Region.Mode) (sp : Nat → Bool) (p : Nat → Value → Prop) (C : (Nat → Option Value) → World → Prop) (ν : Nat → Value) (i : Nat) (s : Sem Next) (v : Value) : Prop :=
  if sp i = true then v = ν i ∧ ∀ σ w, Agree σ ν → Deps2 ops md sp i σ → Bef ops md sp i σ → σ i = none → C σ w → SpecialOK P (p i) (fun u => C (upd σ i u)) (s.run P w)
  else ∀ σ w, Agree σ ν → Deps2 ops md sp i σ → Bef ops md sp i σ → C σ w → PlainOK v w (s.run P w)
section
variable {P : Program} {ops : Array Oper} {md : Region.Mode} {sp : Nat → Bool} {p : Nat → Value → Prop} {C : (Nat → Option Value) → World → Prop}
theorem any_of2 {Qv : (Nat → Value) → Act → Prop} {Q' : Exit → Act → World → Prop} (inh : ∀ s, ∃ u, p s u)
    (hQ : ∀ ν σ w a, Agree σ ν → (∀ s, sp s = true → s < ops.size → σ s = some (ν s)) → C σ w → Qv ν a → Q' .normal a w) :
    ∀ (fuel : Nat) (listed : Array Bool) (a : Act) (σ : Nat → Option Value) (w : World), C σ w → Closed ops md listed → listed.size = ops.size →
      (∀ s, sp s = true → listed.getD s false = true → ∃ u, σ s = some u) → (∀ s u, σ s = some u → p s u ∧ listed.getD s false = true) →
      (∀ ν, (∀ s, p s (ν s)) → Agree σ ν → wpAnyY md ops sp (Yw P ops md sp p C ν) (Qv ν) fuel listed a) → wpAny P md ops Q' fuel listed a w := by
  have pick : ∀ σ : Nat → Option Value, (∀ s u, σ s = some u → p s u) → ∃ ν : Nat → Value, (∀ s, p s (ν s)) ∧ Agree σ ν := by
    intro σ hp
    refine ⟨fun s => (σ s).getD (Classical.choose (inh s)), fun s => ?_, fun s u h => by simp [h]⟩
    cases h : σ s with
    | none => simpa [h] using Classical.choose_spec (inh s)
    | some u => simpa [h] using hp s u h
  intro fuel
  induction fuel with
  | zero =>
    intro listed a σ w hC hcl hz hall hp H
    obtain ⟨ν, hν, hA⟩ := pick σ (fun s u h => (hp s u h).1)
    obtain ⟨h1, h2, h3⟩ := H ν hν hA
    refine ⟨h2, hQ ν σ w a hA (fun s hs hlt => ?_) hC h3⟩
    obtain ⟨u, hu⟩ := hall s hs (h1 s hlt)
    rw [hu, hA s u hu]
  | succ fuel ih =>
    intro listed a σ w hC hcl hz hall hp H
    obtain ⟨ν, hν, hA⟩ := pick σ (fun s u h => (hp s u h).1)
    have H0 := H ν hν hA
    refine ⟨fun h => absurd h H0.1, fun i hi => ?_⟩
    obtain ⟨hun, o, ho, hall'⟩ := mem_ready.1 hi
    have hisz : i < listed.size := by
      rcases Nat.lt_or_ge i listed.size with h | h
      · exact h
      · simp [Array.getElem?_eq_none h] at hun
    have hunf : listed.getD i false = false := by
      simp [hisz] at hun ⊢; exact hun
    have hcl' : Closed ops md (listed.setIfInBounds i true) := by
      intro j oj hj hoj e he hb
      by_cases hji : i = j
      · subst hji
        rw [ho] at hoj
        obtain rfl := Option.some.inj hoj
        exact getD_set_true (hall' e he hb)
      · rw [getD_set_ne false hji] at hj
        exact getD_set_true (hcl j oj hj hoj e he hb)
    have hD : Deps2 ops md sp i σ := fun d s hs hd => hall s hs (dep_listed hcl d i s o ho hall' hd)
    have hBf : Bef ops md sp i σ := fun d s hs hd => by
      cases hσ : σ s with
      | none => rfl
      | some u =>
        have hls := (hp s u hσ).2
        cases hos : ops[s]? with
        | none => cases d <;> simp [depB, hos] at hd
        | some os =>
          have := dep_listed hcl d s i os hos (hcl s os hls hos) hd
          rw [hunf] at this
          cases this
    have hz' : (listed.setIfInBounds i true).size = ops.size := by simpa using hz
    have step : ∀ a', (∀ ν, (∀ s, p s (ν s)) → Agree σ ν → wpAnyY md ops sp (Yw P ops md sp p C ν) (Qv ν) fuel (listed.setIfInBounds i true) a') → sp i = false → wpAny P md ops Q' fuel (listed.setIfInBounds i true) a' w := by
      intro a' h hsp
      refine ih _ a' σ w hC hcl' hz' (fun s hs hl => ?_) (fun s u hu => ⟨(hp s u hu).1, getD_set_true (hp s u hu).2⟩) h
      by_cases hsi : i = s
      · subst hsi; rw [hsp] at hs; cases hs
      · rw [getD_set_ne false hsi] at hl; exact hall s hs hl
    -- what each assignment says of this operation
    have each : ∀ ν, (∀ s, p s (ν s)) → Agree σ ν → yOp ops sp (Yw P ops md sp p C ν) i (wpAnyY md ops sp (Yw P ops md sp p C ν) (Qv ν) fuel (listed.setIfInBounds i true)) a := fun ν h1 h2 => (H ν h1 h2).2 i hi
    unfold wpOp
    simp only [ho]
    by_cases hw : Region.wanted o (yielded ops a.tmps) = true
    · simp only [hw, if_true]
      have each' : ∀ ν, (∀ s, p s (ν s)) → Agree σ ν → ∃ v, Yw P ops md sp p C ν i (execOp a.eval o) v ∧ wpAnyY md ops sp (Yw P ops md sp p C ν) (Qv ν) fuel (listed.setIfInBounds i true) (a.put o.dst v) := by
        intro ν h1 h2
        have := each ν h1 h2
        unfold yOp at this
        simpa only [ho, hw, if_true] using this
      left
      unfold Oper.wp
      cases hsp : sp i with
      | false =>
        obtain ⟨v, hv, _⟩ := each' ν hν hA
        have hv' := hv
        unfold Yw at hv'
        rw [if_neg (by rw [hsp]; exact Bool.false_ne_true)] at hv'
        have hr := hv' σ w hA hD hBf hC
        generalize hrun : (execOp a.eval o).run P w = r at hr
        have fin : wpAny P md ops Q' fuel (listed.setIfInBounds i true) (a.put o.dst v) w := by
          refine step _ (fun ν' h1 h2 => ?_) hsp
          obtain ⟨v', hv1, hk⟩ := each' ν' h1 h2
          unfold Yw at hv1
          rw [if_neg (by rw [hsp]; exact Bool.false_ne_true)] at hv1
          have hr' := hv1 σ w h2 hD hBf hC
          rw [hrun] at hr'
          have e : v' = v := by
            cases r with
            | ok n w' =>
              cases n <;> simp only [PlainOK] at hr hr'
              case value u => exact hr'.2.symm.trans hr.2
              case skip => exact hr'.2.trans hr.2.symm
            | halt x w' => simp only [PlainOK] at hr
          rw [← e]; exact hk
        cases r with
        | ok n w' =>
          cases n <;> simp only [PlainOK] at hr <;> simp only [Oper.upon]
          case value u => obtain ⟨rfl, rfl⟩ := hr; exact fin
          case skip => obtain ⟨rfl, rfl⟩ := hr; exact fin
        | halt x w' => simp only [PlainOK] at hr
      | true =>
        obtain ⟨v, hv, _⟩ := each' ν hν hA
        unfold Yw at hv
        rw [if_pos hsp] at hv
        have hnone : σ i = none := by
          cases h : σ i with
          | none => rfl
          | some u => have := (hp i u h).2; rw [hunf] at this; cases this
        have hr := hv.2 σ w hA hD hBf hnone hC
        generalize (execOp a.eval o).run P w = r at hr
        have fin : ∀ u w', p i u → C (upd σ i u) w' → wpAny P md ops Q' fuel (listed.setIfInBounds i true) (a.put o.dst u) w' := by
          intro u w' hpu hC'
          refine ih _ _ (upd σ i u) w' hC' hcl' hz' (fun s hs hl => ?_) (fun s x hx => ?_) (fun ν' h1 h2 => ?_)
          · by_cases hsi : s = i
            · subst hsi; exact ⟨u, upd_same _ _ _⟩
            · rw [upd_other _ _ hsi]; rw [getD_set_ne false (Ne.symm hsi)] at hl; exact hall s hs hl
          · by_cases hsi : s = i
            · subst hsi
              rw [upd_same] at hx
              obtain rfl := Option.some.inj hx
              refine ⟨hpu, ?_⟩
              simp [hisz]
            · rw [upd_other _ _ hsi] at hx
              exact ⟨(hp s x hx).1, getD_set_true (hp s x hx).2⟩
          · have h2' : Agree σ ν' := fun s x hx => by
              by_cases hsi : s = i
              · subst hsi; rw [hnone] at hx; cases hx
              · exact h2 s x (by rw [upd_other _ _ hsi]; exact hx)
            obtain ⟨v', hv1, hk⟩ := each' ν' h1 h2'
            unfold Yw at hv1
            rw [if_pos hsp] at hv1
            have e : u = ν' i := h2 i u (upd_same _ _ _)
            rw [hv1.1, ← e] at hk
            exact hk
        cases r with
        | ok n w' =>
          cases n <;> simp only [SpecialOK] at hr <;> simp only [Oper.upon]
          case value u => exact fin _ _ hr.1 hr.2
          case skip => exact fin _ _ hr.1 hr.2
          case enter f args => exact hr.mono fun e w'' ⟨u, he, hpu, hc⟩ => by subst he; exact fin _ _ hpu hc
        | halt x w' => simp only [SpecialOK] at hr
    · simp only [hw, if_false, Bool.false_eq_true]
      have each' : ∀ ν, (∀ s, p s (ν s)) → Agree σ ν → sp i = false ∧ wpAnyY md ops sp (Yw P ops md sp p C ν) (Qv ν) fuel (listed.setIfInBounds i true) (a.put o.dst undef) := by
        intro ν h1 h2
        have := each ν h1 h2
        unfold yOp at this
        simpa only [ho, hw, if_false, Bool.false_eq_true] using this
      exact step _ (fun ν' h1 h2 => (each' ν' h1 h2).2) (each' ν hν hA).1

/-- THE RULE: 'sp' says which operations are special, 'p' what each may give back, 'C' what holds of the world, by what those that have come up gave back. -/
theorem wp_region_spec2 {id : Nat} {Q : Exit → Act → World → Prop} {a : Act} {w : World} {l : List Oper} (sp : Nat → Bool) (p : Nat → Value → Prop) (C : (Nat → Option Value) → World → Prop)
    (hm : P.follows .mixedOrders = true) (hB : Region.lexB .any l.toArray = true) (inh : ∀ s, ∃ u, p s u) (h0 : C (fun _ => none) w.drew)
    (h : ∀ ν, (∀ s, p s (ν s)) → wpLex l.toArray sp (Yw P l.toArray .any sp p C ν) (fun a' => ∀ σ w', Agree σ ν → (∀ s, sp s = true → s < l.length → σ s = some (ν s)) → C σ w' → Q .normal a' w') 0 l a) :
    (Code.region id l.toArray true).wp P Q a w := by
  simp only [Region.lexB, Bool.and_eq_true] at hB
  refine wp_region_any hm ?_
  refine any_of2 (sp := sp) (p := p) (C := C) (Qv := fun ν a' => ∀ σ w', Agree σ ν → (∀ s, sp s = true → s < l.length → σ s = some (ν s)) → C σ w' → Q .normal a' w') inh
    (fun ν σ w a hA hall hC hq => hq σ w hA (fun s h1 h2 => hall s h1 (by simpa using h2)) hC) _ _ _ (fun _ => none) _ h0 ?_ (by simp) ?_ ?_ ?_
  · intro i o hi
    by_cases h : i < l.toArray.size
    · simp at h; simp [h] at hi
    · simp at h; simp [h] at hi
  · intro s _ hl
    by_cases h : s < l.toArray.size
    · simp at h; simp [h] at hl
    · simp at h; simp [h] at hl
  · intro s u hu; cases hu
  · intro ν hν _
    have := lex_ (md := .any) (S := sp) (Y := Yw P l.toArray .any sp p C ν) hB.1 l 0 (Array.replicate l.toArray.size false) a (by simp) (by simp) (by simp) (fun j hj => by omega) (by simpa using hB.2) (h ν hν)
    simpa using this


end

theorem lex_mono {ops : Array Oper} {S : Nat → Bool} {Y : Nat → Sem Next → Value → Prop} {Q Q' : Act → Prop} (h : ∀ a, Q a → Q' a) : ∀ (l : List Oper) (k : Nat) (a : Act), wpLex ops S Y Q k l a → wpLex ops S Y Q' k l a
  | [], _, _, hh => h _ hh
  | o :: l, k, a, hh => by
    unfold wpLex at hh ⊢
    by_cases hw : Region.wanted o (yielded ops a.tmps) = true
    · simp only [hw, if_true] at hh ⊢
      obtain ⟨v, h1, h2⟩ := hh
      exact ⟨v, h1, lex_mono h l _ _ h2⟩
    · simp only [hw, if_false, Bool.false_eq_true] at hh ⊢
      exact ⟨hh.1, lex_mono h l _ _ hh.2⟩
/-! ### Chains -/
def vals (σ : Nat → Option Value) (l : List Nat) : List Value := l.map fun i => (σ i).getD undef
/-- as many of the chain's operations as J's list has values have come up -/
def ChC (cs : List Nat) (J : List Value → World → Prop) (σ : Nat → Option Value) (w : World) : Prop :=
  ∃ n, n ≤ cs.length ∧ (∀ j s, j < n → cs[j]? = some s → (σ s).isSome = true) ∧ (∀ j s, n ≤ j → cs[j]? = some s → σ s = none) ∧ J (vals σ (cs.take n)) w
def loB (ops : Array Oper) (cs : List Nat) (d k lo : Nat) : Bool := lo == 0 || (match cs[lo - 1]? with | some s => depB ops .any d k s | none => false)
def hiB (ops : Array Oper) (cs : List Nat) (d k hi : Nat) : Bool := match cs[hi]? with | some s => depB ops .any d s k | none => cs.length == hi
def inB (cs : List Nat) (i : Nat) : Bool := cs.any (· == i)
theorem inB_of {cs : List Nat} {j s : Nat} (h : cs[j]? = some s) : inB cs s = true := by
  unfold inB
  rw [List.any_eq_true]
  exact ⟨s, List.mem_of_getElem? h, by simp⟩
theorem vals_agree {σ : Nat → Option Value} {ν : Nat → Value} (hA : Agree σ ν) : ∀ (l : List Nat), (∀ s ∈ l, (σ s).isSome = true) → vals σ l = l.map ν := by
  intro l h
  refine List.map_congr_left fun s hs => ?_
  have := h s hs
  cases hσ : σ s with
  | none => rw [hσ] at this; cases this
  | some u => simp [hA s u hσ]
theorem mem_take {cs : List Nat} {n s : Nat} (h : s ∈ cs.take n) : ∃ j, j < n ∧ cs[j]? = some s := by
  obtain ⟨j, hj⟩ := List.getElem?_of_mem h
  rw [List.getElem?_take] at hj
  by_cases hlt : j < n
  · rw [if_pos hlt] at hj; exact ⟨j, hlt, hj⟩
  · rw [if_neg hlt] at hj; cases hj
section
variable {P : Program} {ops : Array Oper} {cs : List Nat} {p : Nat → Value → Prop} {J : List Value → World → Prop} {ν : Nat → Value} {Q : Act → Prop} {k : Nat} {o : Oper} {rest : List Oper} {a : Act}
/-- an operation that is none of the chain's: it meets the stages from lo to hi -/
theorem ch_plain (lo hi d : Nat) (hw : Region.wanted o (yielded ops a.tmps) = true) (hs : inB cs k = false) (hlo : loB ops cs d k lo = true) (hhi : hiB ops cs d k hi = true)
    (h : ∃ v, (∀ n w, lo ≤ n → n ≤ hi → J ((cs.take n).map ν) w → PlainOK v w ((execOp a.eval o).run P w)) ∧ wpLex ops (inB cs) (Yw P ops .any (inB cs) p (ChC cs J) ν) Q (k + 1) rest (a.put o.dst v)) : wpLex ops (inB cs) (Yw P ops .any (inB cs) p (ChC cs J) ν) Q k (o :: rest) a := by
  obtain ⟨v, h, hk⟩ := h
  refine lex_want hw ?_ hk
  unfold Yw
  rw [if_neg (by rw [hs]; exact Bool.false_ne_true)]
  intro σ w hA hD hB hC
  obtain ⟨n, hn, h1, h2, hj⟩ := hC
  have hl : lo ≤ n := by
    unfold loB at hlo
    simp only [Bool.or_eq_true, beq_iff_eq] at hlo
    rcases hlo with h0 | hlo
    · omega
    · cases hc : cs[lo - 1]? with
      | none => rw [hc] at hlo; cases hlo
      | some s =>
        rw [hc] at hlo
        obtain ⟨u, hu⟩ := hD d s (inB_of hc) hlo
        rcases Nat.lt_or_ge (lo - 1) n with q | q
        · omega
        · rw [h2 _ s q hc] at hu; cases hu
  have hh : n ≤ hi := by
    unfold hiB at hhi
    cases hc : cs[hi]? with
    | none =>
      rw [hc] at hhi
      have : cs.length = hi := by simpa using hhi
      omega
    | some s =>
      rw [hc] at hhi
      have hu := hB d s (inB_of hc) hhi
      rcases Nat.lt_or_ge hi n with q | q
      · have := h1 _ s q hc
        rw [hu] at this; cases this
      · exact q
  rw [vals_agree hA _ (fun s hs => by obtain ⟨j, hj, hc⟩ := mem_take hs; exact h1 j s hj hc)] at hj
  exact h n w hl hh hj
/-- the chain's j-th operation -/
theorem ch_special (j d : Nat) (hw : Region.wanted o (yielded ops a.tmps) = true) (hj : cs[j]? = some k) (hnd : cs.Nodup) (hlo : loB ops cs d k j = true)
    (h : ∀ w, J ((cs.take j).map ν) w → SpecialOK P (p k) (fun u => J ((cs.take j).map ν ++ [u])) ((execOp a.eval o).run P w))
    (hk : wpLex ops (inB cs) (Yw P ops .any (inB cs) p (ChC cs J) ν) Q (k + 1) rest (a.put o.dst (ν k))) : wpLex ops (inB cs) (Yw P ops .any (inB cs) p (ChC cs J) ν) Q k (o :: rest) a := by
  refine lex_want hw ?_ hk
  unfold Yw
  rw [if_pos (inB_of hj)]
  refine ⟨rfl, fun σ w hA hD hB hno hC => ?_⟩
  obtain ⟨n, hn, h1, h2, hJ⟩ := hC
  have hl : j ≤ n := by
    unfold loB at hlo
    simp only [Bool.or_eq_true, beq_iff_eq] at hlo
    rcases hlo with h0 | hlo
    · omega
    · cases hc : cs[j - 1]? with
      | none => rw [hc] at hlo; cases hlo
      | some s =>
        rw [hc] at hlo
        obtain ⟨u, hu⟩ := hD d s (inB_of hc) hlo
        rcases Nat.lt_or_ge (j - 1) n with q | q
        · omega
        · rw [h2 _ s q hc] at hu; cases hu
  have hh : n = j := by
    rcases Nat.lt_or_ge j n with q | q
    · have := h1 _ k q hj
      rw [hno] at this; cases this
    · omega
  subst hh
  rw [vals_agree hA _ (fun s hs => by obtain ⟨j, hj, hc⟩ := mem_take hs; exact h1 j s hj hc)] at hJ
  have key : ∀ u w', J ((cs.take n).map ν ++ [u]) w' → ChC cs J (upd σ k u) w' := by
    intro u w' hJ'
    have hlt : n < cs.length := by
      rcases Nat.lt_or_ge n cs.length with q | q
      · exact q
      · rw [List.getElem?_eq_none q] at hj; cases hj
    have hne : ∀ i s, cs[i]? = some s → i ≠ n → s ≠ k := fun i s hi hin e => by
      subst e
      exact hin ((List.getElem?_inj (by rcases Nat.lt_or_ge i cs.length with q | q; exact q; rw [List.getElem?_eq_none q] at hi; cases hi) hnd).1 (hi.trans hj.symm))
    refine ⟨n + 1, hlt, fun i s hi hc => ?_, fun i s hi hc => ?_, ?_⟩
    · by_cases e : i = n
      · subst e
        rw [hj] at hc
        obtain rfl := Option.some.inj hc
        rw [upd_same]; rfl
      · rw [upd_other _ _ (hne i s hc e)]
        exact h1 i s (by omega) hc
    · rw [upd_other _ _ (hne i s hc (by omega))]
      exact h2 i s (by omega) hc
    · rw [List.take_add_one, hj]
      have e1 : vals (upd σ k u) (cs.take n ++ (some k).toList) = (cs.take n).map ν ++ [u] := by
        unfold vals
        rw [List.map_append]
        congr 1
        · refine List.map_congr_left fun s hs => ?_
          obtain ⟨i, hi, hc⟩ := mem_take hs
          rw [upd_other _ _ (hne i s hc (by omega))]
          have := h1 i s hi hc
          cases hσ : σ s with
          | none => rw [hσ] at this; cases this
          | some x => simp [hA s x hσ]
        · simp [upd_same]
      rw [e1]
      exact hJ'
  have hs := h w hJ
  generalize (execOp a.eval o).run P w = r at hs ⊢
  cases r with
  | halt x w' => exact hs.elim
  | ok m w' =>
    cases m with
    | value u => exact ⟨hs.1, key _ _ hs.2⟩
    | skip => exact ⟨hs.1, key _ _ hs.2⟩
    | enter f args => exact hs.mono fun e w'' ⟨u, he, hp, hc⟩ => ⟨u, he, hp, key _ _ hc⟩
    | _ => exact hs.elim
theorem ch_nil (h : Q a) : wpLex ops (inB cs) (Yw P ops .any (inB cs) p (ChC cs J) ν) Q k [] a := h
theorem ch_skip (hw : Region.wanted o (yielded ops a.tmps) = false) (hs : inB cs k = false) (h : wpLex ops (inB cs) (Yw P ops .any (inB cs) p (ChC cs J) ν) Q (k + 1) rest (a.put o.dst undef)) :
    wpLex ops (inB cs) (Yw P ops .any (inB cs) p (ChC cs J) ν) Q k (o :: rest) a := by
  unfold wpLex
  simp only [hw, Bool.false_eq_true, if_false]
  exact ⟨hs, h⟩
end
/-- the shapes of what the chain's operations give back -/
inductive KV where
  | any
  | is (v : Value)
  | sl (n : Nat)
  | sla (n : Nat)
  | ex (Q : Value → Prop) (h : ∃ u, Q u)
def KV.ok : KV → Value → Prop
  | .any, _ => True
  | .is v, u => u = v
  | .sl n, u => ∃ g, u = .slice (some ⟨g, 0, none⟩) n n
  | .sla n, u => ∃ a c, u = .slice a n c
  | .ex Q _, u => Q u
theorem KV.inh (k : KV) : ∃ u, k.ok u := by
  cases k with
  | any => exact ⟨undef, trivial⟩
  | is v => exact ⟨v, rfl⟩
  | sl n => exact ⟨_, 0, rfl⟩
  | sla n => exact ⟨_, none, 0, rfl⟩
  | ex Q h => exact h
def kv (l : List (Nat × KV)) (s : Nat) (u : Value) : Prop := ((l.lookup s).getD .any).ok u
theorem kv_inh (l : List (Nat × KV)) (s : Nat) : ∃ u, kv l s u := KV.inh _
/-- THE RULE -/
theorem wp_region_chain {P : Program} {id : Nat} {Q : Exit → Act → World → Prop} {a : Act} {w : World} {l : List Oper} (cs : List Nat) (p : Nat → Value → Prop) (J : List Value → World → Prop)
    (hm : P.follows .mixedOrders = true) (hB : Region.lexB .any l.toArray = true) (hlt : (cs.all fun s => decide (s < l.length)) = true) (inh : ∀ s, ∃ u, p s u) (h0 : J [] w.drew)
    (h : ∀ ν, (∀ s, p s (ν s)) → wpLex l.toArray (inB cs) (Yw P l.toArray .any (inB cs) p (ChC cs J) ν) (fun a' => ∀ w', J (cs.map ν) w' → Q .normal a' w') 0 l a) :
    (Code.region id l.toArray true).wp P Q a w := by
  refine wp_region_spec2 (inB cs) p (ChC cs J) hm hB inh ⟨0, Nat.zero_le _, fun j s hj _ => by omega, fun _ _ _ _ => rfl, h0⟩ fun ν hν => ?_
  refine lex_mono (fun a' hq σ w' hA hall hC => ?_) _ _ _ (h ν hν)
  obtain ⟨n, hn, h1, h2, hJ⟩ := hC
  have e : n = cs.length := by
    rcases Nat.lt_or_ge n cs.length with q | q
    · have hc : cs[n]? = some cs[n] := List.getElem?_eq_getElem q
      have hs := List.all_eq_true.1 hlt _ (List.getElem_mem q)
      have := hall _ (inB_of hc) (by simpa using hs)
      rw [h2 n _ (Nat.le_refl _) hc] at this
      cases this
    · omega
  subst e
  rw [vals_agree hA _ (fun s hs => by obtain ⟨j, hj, hc⟩ := mem_take hs; exact h1 j s hj hc), List.take_length] at hJ
  exact hq w' hJ
end Reg
end Go.Proofs.Ytikimmhkfjaijaa
