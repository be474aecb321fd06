/-
  LOOK: nodes of one lineage are as they should be. No walk in it.
-/
import Derived.Test.YteplcpiamocclaaBuilt
namespace Go.Proofs.Yteplcpiamocclaa
open Go.RowKit Reg Go.ChangeShapes

theorem kn_pre {L : List Gd} : ∀ (es : List El) (acc : List Gd), (∃ t, acc = L.take t) → (∀ e ∈ es, ∃ t, e.line = L.take t) → ∃ t, es.foldl (fun out s => if out.length < s.line.length then s.line else out) acc = L.take t
  | [], acc, h, _ => h
  | e :: es, acc, h, he => by
    refine kn_pre es _ ?_ fun x hx => he x (List.mem_cons_of_mem _ hx)
    show ∃ t, (if acc.length < e.line.length then e.line else acc) = L.take t
    split
    · exact he e (List.mem_cons_self ..)
    · exact h
theorem kn_take {L : List Gd} {es : List El} (he : ∀ e ∈ es, ∃ t, e.line = L.take t) : ∃ K, K ≤ L.length ∧ kn es = L.take K := by
  obtain ⟨t, h⟩ := kn_pre es [] ⟨0, by simp⟩ he
  refine ⟨min t L.length, Nat.min_le_right .., ?_⟩
  unfold kn
  rw [h, List.take_eq_take_iff]
  omega
theorem begB_take {L : List Gd} {a b : Nat} (h : a ≤ b) : begB (L.take a) (L.take b) = true := by
  unfold begB
  rw [Bool.and_eq_true, decide_eq_true_iff, decide_eq_true_iff]
  refine ⟨by simp only [List.length_take]; omega, ?_⟩
  rw [List.take_take, List.length_take, List.take_eq_take_iff]
  omega
theorem apart_take (L : List Gd) (a b : Nat) : apart (L.take a) (L.take b) = false := by
  unfold apart
  rcases Nat.le_total a b with h | h
  · rw [begB_take h]; rfl
  · rw [begB_take h]; simp
/-- the line of each is a beginning of L -/
def Pre (L : List Gd) (es : List El) : Prop := ∀ e ∈ es, ∃ t, e.line = L.take t
theorem pre_nth {L : List Gd} {es : List El} (h : Pre L es) (j : Nat) : ∃ t, (nth es j).line = L.take t := by
  rcases Nat.lt_or_ge j es.length with hj | hj
  · have e : nth es j = es[j] := by simp [nth, hj]
    rw [e]
    exact h _ (List.getElem_mem hj)
  · have e : nth es j = el0 := by simp [nth, hj]
    rw [e]
    exact ⟨0, by simp [el0]⟩
theorem lineV_pre {L : List Gd} {b n : List El} (hb : Pre L b) (hn : Pre L n) : lineV b n = -1 := by
  refine fIx_none fun i _ => ?_
  unfold lineP
  obtain ⟨t, ht⟩ := pre_nth hn i
  rw [Bool.or_eq_false_iff, List.any_eq_false, List.any_eq_false]
  refine ⟨fun j _ => ?_, fun j _ => ?_⟩
  · obtain ⟨s, hs⟩ := pre_nth hb j
    rw [ht, hs, apart_take]; simp
  · obtain ⟨s, hs⟩ := pre_nth hn j
    rw [ht, hs, apart_take]; simp
theorem builtB_pre (L : List Gd) (xs : List Shp) (m : Nat) : Pre L (builtB L xs m) := by
  intro e he
  obtain ⟨i, _, rfl⟩ := List.mem_map.1 he
  exact ⟨_, rfl⟩
theorem builtB_len (L : List Gd) (xs : List Shp) (m : Nat) : (builtB L xs m).length = m := by simp [builtB]
theorem builtB_nth (L : List Gd) (xs : List Shp) {m j : Nat} (h : j < m) : nth (builtB L xs m) j = nodeB L j (xs.getD j shp0) := by simp [nth, builtB, h]
/-- a node's list -/
def lst (N h i o : Nat) : List Gd := (linG N).take h ++ ownG i o
theorem lst_len {N h i o : Nat} (hh : h ≤ N) : (lst N h i o).length = h + o := by
  unfold lst
  rw [List.length_append, List.length_take, linG_len, ownG_len]
  omega
theorem gth_lin {N h j : Nat} (hh : h ≤ N) (hj : j < h) : gth ((linG N).take h) j = linA j := by
  have : j < N := by omega
  simp [gth, linG, hj, this]
theorem gth_lst {N h i o j : Nat} (hh : h ≤ N) (hj : j < h + o) : gth (lst N h i o) j = if j < h then linA j else ownA i (j - h) := by
  have hl : ((linG N).take h).length = h := by rw [List.length_take, linG_len]; omega
  unfold lst
  split
  · rename_i h1
    have := gth_lin hh h1
    unfold gth at this ⊢
    simp only [List.getD_eq_getElem?_getD] at this ⊢
    rw [List.getElem?_append_left (by omega)]
    exact this
  · rename_i h1
    unfold gth
    simp only [List.getD_eq_getElem?_getD]
    rw [List.getElem?_append_right (by omega), hl]
    have h2 : j - h < o := by omega
    simp [ownG, h2]
theorem lst_rises {N h i o : Nat} (hN : N < 12) (hh : h ≤ N) : risesB (lst N h i o) = true := by
  refine risesB_true fun j hp hj => ?_
  rw [lst_len hh] at hj
  rw [gth_lst hh (by omega), gth_lst hh hj]
  unfold upG
  rw [decide_eq_true_iff]
  by_cases h1 : j < h
  · rw [if_pos (by omega), if_pos h1]
    unfold linA
    simp only
    omega
  · rw [if_neg h1]
    by_cases h2 : j - 1 < h
    · rw [if_pos h2]
      refine .inl ?_
      show ((1 + (j - 1) / 3 : Nat) : Int) < ((90 + i : Nat) : Int)
      omega
    · rw [if_neg h2]
      refine .inr ⟨rfl, ?_⟩
      show ((j - 1 - h + 1 : Nat) : Int) < ((j - h + 1 : Nat) : Int)
      omega
theorem own_ne_lin {i j s : Nat} (hs : s < 12) : ownA i j ≠ linA s := by
  intro e
  have := congrArg Prod.fst e
  unfold ownA linA at this
  simp only at this
  omega
theorem lin_inj {s t : Nat} (h : linA s = linA t) : s = t := by
  have h1 := congrArg Prod.fst h
  have h2 := congrArg Prod.snd h
  unfold linA at h1 h2
  simp only at h1 h2
  omega
theorem lst_comm {N h i o K : Nat} (hN : N < 12) (hh : h ≤ N) (hK : K ≤ N) : comm (lst N h i o) ((linG N).take K) = min h K := by
  have hl : ((linG N).take K).length = K := by rw [List.length_take, linG_len]; omega
  refine comm_spec _ _ _ (by rw [lst_len hh]; omega) (by rw [hl]; omega) (fun j hj => ?_) ?_
  · have e1 := gth_lst (i := i) (o := o) hh (show j < h + o by omega)
    have e2 := gth_lin hK (show j < K by omega)
    rw [if_pos (by omega)] at e1
    exact e1.trans e2.symm
  · rcases Nat.lt_or_ge h K with h1 | h1
    · have hm : min h K = h := by omega
      rw [hm]
      rcases Nat.eq_zero_or_pos o with h0 | h0
      · exact .inl (by rw [lst_len hh, h0]; rfl)
      · refine .inr (.inr ?_)
        have e1 := gth_lst (i := i) (o := o) hh (show h < h + o by omega)
        have e2 := gth_lin hK h1
        rw [if_neg (by omega)] at e1
        intro e
        exact own_ne_lin (show h < 12 by omega) (e1.symm.trans (e.trans e2))
    · exact .inr (.inl (by rw [hl]; omega))
theorem lst_notin {N h i o K : Nat} (hN : N < 12) (hh : h ≤ N) (hK : K ≤ N) : anyIn ((lst N h i o).drop (min h K)) ((linG N).take K) = false := by
  have hl : ((linG N).take K).length = K := by rw [List.length_take, linG_len]; omega
  unfold anyIn
  rw [List.any_eq_false]
  intro g hg
  rw [decide_eq_true_iff]
  intro hg2
  obtain ⟨t, ht, e1⟩ := mem_iff_gth.1 hg
  obtain ⟨s, hs, e2⟩ := mem_iff_gth.1 hg2
  rw [List.length_drop, lst_len hh] at ht
  rw [hl] at hs
  rw [gth_lin hK hs] at e2
  have e3 : gth ((lst N h i o).drop (min h K)) t = gth (lst N h i o) (min h K + t) := by
    unfold gth
    simp only [List.getD_eq_getElem?_getD, List.getElem?_drop]
  rw [e3, gth_lst hh (by omega)] at e1
  split at e1
  · have := lin_inj (e1.trans e2.symm)
    omega
  · exact own_ne_lin (show s < 12 by omega) (e1.trans e2.symm)
/-- the list of a node that is built -/
theorem nodeB_list (N : Nat) (i : Nat) (x : Shp) : (nodeB (linG N) i x).list = lst N (x.h.toNat % (N + 1)) i (x.o.toNat % 4) := by
  unfold nodeB lst
  rw [linG_len]
theorem badL_built {N m j : Nat} {xs : List Shp} (hN : N < 12) (hj : j < m) : badL (builtB (linG N) xs m) j = false := by
  obtain ⟨K, hK, hk⟩ := kn_take (builtB_pre (linG N) xs m)
  rw [linG_len] at hK
  have hh : (xs.getD j shp0).h.toNat % (N + 1) ≤ N := by have := Nat.mod_lt (xs.getD j shp0).h.toNat (show 0 < N + 1 by omega); omega
  unfold badL
  rw [hk, builtB_nth _ _ hj, nodeB_list, lst_rises hN hh, lst_comm hN hh hK, lst_notin hN hh hK]
  rfl
theorem listsV_built {N m : Nat} {xs : List Shp} (hN : N < 12) : listsV (builtB (linG N) xs m) = -1 := by
  refine fIx_none fun j hj => ?_
  rw [builtB_len] at hj
  rw [badL_built hN hj]
  simp
theorem keptV_built {N m : Nat} {xs ys : List Shp} (hN : N < 12) (h : ∀ j, j < m → (ys.getD j shp0).h.toNat % (N + 1) ≤ (xs.getD j shp0).h.toNat % (N + 1)) : keptV (builtB (linG N) ys m) (builtB (linG N) xs m) = -1 := by
  refine fIx_none fun j hj => ?_
  rw [builtB_len] at hj
  obtain ⟨K, hK, hk⟩ := kn_take (builtB_pre (linG N) xs m)
  rw [linG_len] at hK
  have h1 := h j hj
  have hh : (xs.getD j shp0).h.toNat % (N + 1) ≤ N := by have := Nat.mod_lt (xs.getD j shp0).h.toNat (show 0 < N + 1 by omega); omega
  unfold badK
  rw [hk, builtB_nth _ _ hj, builtB_nth _ _ hj, nodeB_list, nodeB_list, lst_comm hN hh hK, lst_comm hN (by omega) hK]
  have hd : decide (min ((xs.getD j shp0).h.toNat % (N + 1)) K < min ((ys.getD j shp0).h.toNat % (N + 1)) K) = false := decide_eq_false (by omega)
  rw [hd]
  simp
end Go.Proofs.Yteplcpiamocclaa
