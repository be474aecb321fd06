/-
  A CHAIN (XChain) BESIDE WHICH ONE MORE SPECIAL OPERATION STANDS FREE (a variable that is laid, 'al'): what holds is said by the chain's values so far and by what the free one has given, if it has come up.
-/
import Derived.Test.YtimgecflcackbaaChain
namespace Go.Proofs.Ytimgecflcackbaa
open Go.RowKit
namespace Reg
def ChF (cs : List Nat) (al : Nat) (J : List Value → Option Value → World → Prop) (σ : Nat → Option Value) (w : World) : Prop :=
  ∃ n, n ≤ cs.length ∧ (∀ j s, j < n → cs[j]? = some s → (σ s).isSome = true) ∧ (∀ j s, n ≤ j → cs[j]? = some s → σ s = none) ∧ J (vals σ (cs.take n)) (σ al) w
section
variable {P : Program} {ops : Array Oper} {cs : List Nat} {al : Nat} {p : Nat → Value → Prop} {J : List Value → Option Value → World → Prop} {ν : Nat → Value} {Q : Act → Prop} {k : Nat} {o : Oper} {rest : List Oper} {a : Act}
theorem agree_opt {σ : Nat → Option Value} (hA : Agree σ ν) (al : Nat) : σ al = none ∨ σ al = some (ν al) := by
  cases h : σ al with
  | none => exact .inl rfl
  | some u => exact .inr (by rw [hA al u h])
theorem lo_of {σ : Nat → Option Value} {n d lo : Nat} {L : List Nat} (hD : Deps2 ops .any (inB L) k σ) (hL : ∀ (j s : Nat), cs[j]? = some s → inB L s = true) (h2 : ∀ j s, n ≤ j → cs[j]? = some s → σ s = none) (hlo : loB ops cs d k lo = true) : lo ≤ n := by
  unfold loB at hlo
  simp only [Bool.or_eq_true, beq_iff_eq] at hlo
  rcases hlo with h0 | hlo
  · omega
  · cases hc : cs[lo - 1]? with
    | none => rw [hc] at hlo; cases hlo
    | some s =>
      rw [hc] at hlo
      obtain ⟨u, hu⟩ := hD d s (hL _ _ hc) hlo
      rcases Nat.lt_or_ge (lo - 1) n with q | q
      · omega
      · rw [h2 _ s q hc] at hu; cases hu
theorem hi_of {σ : Nat → Option Value} {n d hi : Nat} {L : List Nat} (hB : Bef ops .any (inB L) k σ) (hL : ∀ (j s : Nat), cs[j]? = some s → inB L s = true) (hn : n ≤ cs.length) (h1 : ∀ j s, j < n → cs[j]? = some s → (σ s).isSome = true) (hhi : hiB ops cs d k hi = true) : n ≤ hi := by
  unfold hiB at hhi
  cases hc : cs[hi]? with
  | none =>
    rw [hc] at hhi
    have : cs.length = hi := by simpa using hhi
    omega
  | some s =>
    rw [hc] at hhi
    have hu := hB d s (hL _ _ hc) hhi
    rcases Nat.lt_or_ge hi n with q | q
    · have := h1 _ s q hc
      rw [hu] at this; cases this
    · exact q
theorem inB_cons {j s : Nat} (h : cs[j]? = some s) : inB (al :: cs) s = true := inB_of (cs := al :: cs) (j := j + 1) (by simpa using h)
theorem chf_plain (lo hi d : Nat) (hw : Region.wanted o (yielded ops a.tmps) = true) (hs : inB (al :: cs) k = false) (hlo : loB ops cs d k lo = true) (hhi : hiB ops cs d k hi = true)
    (h : ∃ v, (∀ n x w, lo ≤ n → n ≤ hi → (x = none ∨ x = some (ν al)) → J ((cs.take n).map ν) x w → PlainOK v w ((execOp a.eval o).run P w)) ∧ wpLex ops (inB (al :: cs)) (Yw P ops .any (inB (al :: cs)) p (ChF cs al J) ν) Q (k + 1) rest (a.put o.dst v)) :
    wpLex ops (inB (al :: cs)) (Yw P ops .any (inB (al :: cs)) p (ChF cs al J) ν) Q k (o :: rest) a := by
  obtain ⟨v, h, hk⟩ := h
  refine lex_want hw ?_ hk
  unfold Yw
  rw [if_neg (by rw [hs]; exact Bool.false_ne_true)]
  intro σ w hA hD hB hC
  obtain ⟨n, hn, h1, h2, hj⟩ := hC
  have hl := lo_of hD (fun _ _ => inB_cons) h2 hlo
  have hh := hi_of hB (fun _ _ => inB_cons) hn h1 hhi
  rw [vals_agree hA _ (fun s hs => by obtain ⟨j, hj, hc⟩ := mem_take hs; exact h1 j s hj hc)] at hj
  exact h n _ w hl hh (agree_opt hA al) hj
/-- the chain's j-th operation; 'dep': it waits for the free one -/
theorem chf_special (j d : Nat) (dep : Bool) (hw : Region.wanted o (yielded ops a.tmps) = true) (hj : cs[j]? = some k) (hnd : (al :: cs).Nodup) (hlo : loB ops cs d k j = true) (hdep : (!dep || depB ops .any d k al) = true)
    (h : ∀ x w, (x = none ∨ x = some (ν al)) → (dep = true → x = some (ν al)) → J ((cs.take j).map ν) x w → SpecialOK P (p k) (fun u => J ((cs.take j).map ν ++ [u]) x) ((execOp a.eval o).run P w))
    (hk : wpLex ops (inB (al :: cs)) (Yw P ops .any (inB (al :: cs)) p (ChF cs al J) ν) Q (k + 1) rest (a.put o.dst (ν k))) : wpLex ops (inB (al :: cs)) (Yw P ops .any (inB (al :: cs)) p (ChF cs al J) ν) Q k (o :: rest) a := by
  refine lex_want hw ?_ hk
  unfold Yw
  rw [if_pos (inB_cons hj)]
  refine ⟨rfl, fun σ w hA hD hB hno hC => ?_⟩
  obtain ⟨n, hn, h1, h2, hJ⟩ := hC
  have hl := lo_of hD (fun _ _ => inB_cons) h2 hlo
  have hh : n = j := by
    rcases Nat.lt_or_ge j n with q | q
    · have := h1 _ k q hj
      rw [hno] at this; cases this
    · omega
  subst hh
  rw [vals_agree hA _ (fun s hs => by obtain ⟨j, hj, hc⟩ := mem_take hs; exact h1 j s hj hc)] at hJ
  have hnd2 : cs.Nodup := (List.nodup_cons.1 hnd).2
  have hak : k ≠ al := fun e => (List.nodup_cons.1 hnd).1 (e ▸ List.mem_of_getElem? hj)
  have hdp : dep = true → σ al = some (ν al) := fun hd => by
    rw [hd] at hdep
    obtain ⟨u, hu⟩ := hD d al (inB_of (cs := al :: cs) (j := 0) rfl) (by simpa using hdep)
    rw [hu, hA al u hu]
  have key : ∀ u w', J ((cs.take n).map ν ++ [u]) (σ al) w' → ChF cs al J (upd σ k u) w' := by
    intro u w' hJ'
    have hlt : n < cs.length := by
      rcases Nat.lt_or_ge n cs.length with q | q
      · exact q
      · rw [List.getElem?_eq_none q] at hj; cases hj
    have hne : ∀ i s, cs[i]? = some s → i ≠ n → s ≠ k := fun i s hi hin e => by
      subst e
      exact hin ((List.getElem?_inj (by rcases Nat.lt_or_ge i cs.length with q | q; exact q; rw [List.getElem?_eq_none q] at hi; cases hi) hnd2).1 (hi.trans hj.symm))
    refine ⟨n + 1, hlt, fun i s hi hc => ?_, fun i s hi hc => ?_, ?_⟩
    · by_cases e : i = n
      · subst e
        rw [hj] at hc
        obtain rfl := Option.some.inj hc
        rw [upd_same]; rfl
      · rw [upd_other _ _ (hne i s hc e)]
        exact h1 i s (by omega) hc
    · rw [upd_other _ _ (hne i s hc (by omega))]
      exact h2 i s (by omega) hc
    · rw [List.take_add_one, hj, upd_other _ _ (Ne.symm hak)]
      have e1 : vals (upd σ k u) (cs.take n ++ (some k).toList) = (cs.take n).map ν ++ [u] := by
        unfold vals
        rw [List.map_append]
        congr 1
        · refine List.map_congr_left fun s hs => ?_
          obtain ⟨i, hi, hc⟩ := mem_take hs
          rw [upd_other _ _ (hne i s hc (by omega))]
          have := h1 i s hi hc
          cases hσ : σ s with
          | none => rw [hσ] at this; cases this
          | some x => simp [hA s x hσ]
        · simp [upd_same]
      rw [e1]
      exact hJ'
  have hs := h _ w (agree_opt hA al) hdp hJ
  generalize (execOp a.eval o).run P w = r at hs ⊢
  cases r with
  | halt x w' => exact hs.elim
  | ok m w' =>
    cases m with
    | value u => exact ⟨hs.1, key _ _ hs.2⟩
    | skip => exact ⟨hs.1, key _ _ hs.2⟩
    | enter f args => exact hs.mono fun e w'' ⟨u, he, hp, hc⟩ => ⟨u, he, hp, key _ _ hc⟩
    | _ => exact hs.elim
/-- the free one -/
theorem chf_free (lo hi d : Nat) (hw : Region.wanted o (yielded ops a.tmps) = true) (hnd : (al :: cs).Nodup) (hk0 : k = al) (hlo : loB ops cs d k lo = true) (hhi : hiB ops cs d k hi = true)
    (h : ∀ n w, lo ≤ n → n ≤ hi → J ((cs.take n).map ν) none w → SpecialOK P (p k) (fun u => J ((cs.take n).map ν) (some u)) ((execOp a.eval o).run P w))
    (hk : wpLex ops (inB (al :: cs)) (Yw P ops .any (inB (al :: cs)) p (ChF cs al J) ν) Q (k + 1) rest (a.put o.dst (ν k))) : wpLex ops (inB (al :: cs)) (Yw P ops .any (inB (al :: cs)) p (ChF cs al J) ν) Q k (o :: rest) a := by
  subst hk0
  refine lex_want hw ?_ hk
  unfold Yw
  rw [if_pos (inB_of (cs := k :: cs) (j := 0) rfl)]
  refine ⟨rfl, fun σ w hA hD hB hno hC => ?_⟩
  obtain ⟨n, hn, h1, h2, hJ⟩ := hC
  have hl := lo_of hD (fun _ _ => inB_cons) h2 hlo
  have hh := hi_of hB (fun _ _ => inB_cons) hn h1 hhi
  rw [vals_agree hA _ (fun s hs => by obtain ⟨j, hj, hc⟩ := mem_take hs; exact h1 j s hj hc), hno] at hJ
  have hne : ∀ i s, cs[i]? = some s → s ≠ k := fun i s hi e => (List.nodup_cons.1 hnd).1 (e ▸ List.mem_of_getElem? hi)
  have key : ∀ u w', J ((cs.take n).map ν) (some u) w' → ChF cs k J (upd σ k u) w' := by
    intro u w' hJ'
    refine ⟨n, hn, fun i s hi hc => by rw [upd_other _ _ (hne i s hc)]; exact h1 i s hi hc, fun i s hi hc => by rw [upd_other _ _ (hne i s hc)]; exact h2 i s hi hc, ?_⟩
    rw [upd_same]
    have e1 : vals (upd σ k u) (cs.take n) = (cs.take n).map ν := by
      refine List.map_congr_left fun s hs => ?_
      obtain ⟨i, hi, hc⟩ := mem_take hs
      rw [upd_other _ _ (hne i s hc)]
      have := h1 i s hi hc
      cases hσ : σ s with
      | none => rw [hσ] at this; cases this
      | some x => simp [hA s x hσ]
    rw [e1]
    exact hJ'
  have hs := h n w hl hh hJ
  generalize (execOp a.eval o).run P w = r at hs ⊢
  cases r with
  | halt x w' => exact hs.elim
  | ok m w' =>
    cases m with
    | value u => exact ⟨hs.1, key _ _ hs.2⟩
    | skip => exact ⟨hs.1, key _ _ hs.2⟩
    | enter f args => exact hs.mono fun e w'' ⟨u, he, hp, hc⟩ => ⟨u, he, hp, key _ _ hc⟩
    | _ => exact hs.elim
theorem chf_nil (h : Q a) : wpLex ops (inB (al :: cs)) (Yw P ops .any (inB (al :: cs)) p (ChF cs al J) ν) Q k [] a := h
end
/-- THE RULE -/
theorem wp_region_chainF {P : Program} {id : Nat} {Q : Exit → Act → World → Prop} {a : Act} {w : World} {l : List Oper} (cs : List Nat) (al : Nat) (p : Nat → Value → Prop) (J : List Value → Option Value → World → Prop)
    (hm : P.follows .mixedOrders = true) (hB : Region.lexB .any l.toArray = true) (hlt : ((al :: cs).all fun s => decide (s < l.length)) = true) (inh : ∀ s, ∃ u, p s u) (h0 : J [] none w.drew)
    (h : ∀ ν, (∀ s, p s (ν s)) → wpLex l.toArray (inB (al :: cs)) (Yw P l.toArray .any (inB (al :: cs)) p (ChF cs al J) ν) (fun a' => ∀ w', J (cs.map ν) (some (ν al)) w' → Q .normal a' w') 0 l a) :
    (Code.region id l.toArray true).wp P Q a w := by
  refine wp_region_spec2 (inB (al :: cs)) p (ChF cs al J) hm hB inh ⟨0, Nat.zero_le _, fun j s hj _ => by omega, fun _ _ _ _ => rfl, h0⟩ fun ν hν => ?_
  refine lex_mono (fun a' hq σ w' hA hall hC => ?_) _ _ _ (h ν hν)
  obtain ⟨n, hn, h1, h2, hJ⟩ := hC
  have e : n = cs.length := by
    rcases Nat.lt_or_ge n cs.length with q | q
    · have hc : cs[n]? = some cs[n] := List.getElem?_eq_getElem q
      have hs := List.all_eq_true.1 hlt _ (List.mem_cons_of_mem _ (List.getElem_mem q))
      have := hall _ (inB_cons hc) (by simpa using hs)
      rw [h2 n _ (Nat.le_refl _) hc] at this
      cases this
    · omega
  subst e
  have hal := hall al (inB_of (cs := al :: cs) (j := 0) rfl) (by have := List.all_eq_true.1 hlt al List.mem_cons_self; simpa using this)
  rw [vals_agree hA _ (fun s hs => by obtain ⟨j, hj, hc⟩ := mem_take hs; exact h1 j s hj hc), List.take_length, hal] at hJ
  exact hq w' hJ
end Reg
end Go.Proofs.Ytimgecflcackbaa
