/-
  LOOK: when nodes of one lineage are settled. No walk in it.
-/
import Derived.Test.YteplcpiamocclaaGoodP
namespace Go.Proofs.Yteplcpiamocclaa
open Go.RowKit Reg Go.ChangeShapes

theorem kn_ge_aux : ∀ (es : List El) (acc : List Gd), acc.length ≤ (es.foldl (fun out s => if out.length < s.line.length then s.line else out) acc).length ∧ ∀ e ∈ es, e.line.length ≤ (es.foldl (fun out s => if out.length < s.line.length then s.line else out) acc).length
  | [], acc => ⟨Nat.le_refl _, fun e he => by cases he⟩
  | s :: es, acc => by
    have h := kn_ge_aux es (if acc.length < s.line.length then s.line else acc)
    have h1 : acc.length ≤ (if acc.length < s.line.length then s.line else acc).length ∧ s.line.length ≤ (if acc.length < s.line.length then s.line else acc).length := by
      split <;> omega
    refine ⟨Nat.le_trans h1.1 h.1, fun e he => ?_⟩
    rcases List.mem_cons.1 he with rfl | he
    · exact Nat.le_trans h1.2 h.1
    · exact h.2 e he
theorem kn_ge {es : List El} {e : El} (he : e ∈ es) : e.line.length ≤ (kn es).length := (kn_ge_aux es []).2 e he
theorem kn_mem_aux : ∀ (es : List El) (acc : List Gd), es.foldl (fun out s => if out.length < s.line.length then s.line else out) acc = acc ∨ ∃ e ∈ es, es.foldl (fun out s => if out.length < s.line.length then s.line else out) acc = e.line
  | [], acc => .inl rfl
  | s :: es, acc => by
    show es.foldl _ (if acc.length < s.line.length then s.line else acc) = acc ∨ ∃ e ∈ s :: es, es.foldl _ (if acc.length < s.line.length then s.line else acc) = e.line
    rcases kn_mem_aux es (if acc.length < s.line.length then s.line else acc) with h | ⟨e, he, h⟩
    · rw [h]
      split
      · exact .inr ⟨s, List.mem_cons_self .., rfl⟩
      · exact .inl rfl
    · exact .inr ⟨e, List.mem_cons_of_mem _ he, h⟩
theorem kn_mem (es : List El) : kn es = [] ∨ ∃ e ∈ es, kn es = e.line := kn_mem_aux es []
theorem nth_mem {es : List El} {j : Nat} (hj : j < es.length) : nth es j ∈ es := by
  have e : nth es j = es[j] := by simp [nth, hj]
  rw [e]
  exact List.getElem_mem hj
theorem mem_nth {es : List El} {e : El} (he : e ∈ es) : ∃ j, j < es.length ∧ nth es j = e := by
  obtain ⟨j, hj, h⟩ := List.mem_iff_getElem.1 he
  exact ⟨j, hj, by simp [nth, hj, h]⟩
theorem take_of_len {L : List Gd} {a b : Nat} (h : (L.take a).length = (L.take b).length) : L.take a = L.take b := by
  rw [List.length_take, List.length_take] at h
  rw [List.take_eq_take_iff]
  exact h
/-- is the j-th as the law says? -/
def goodB (es : List El) (xs : List Shp) (j : Nat) : Bool :=
  (nth es j).up && (decide ((nth es j).line.length = (nth es 0).line.length) && (decide ((nth es j).list.length = (nth es j).line.length) && decide ((xs.getD j shp0).o.toNat % 4 = 0)))
def allI (es : List El) (xs : List Shp) (i : Nat) : Bool := decide (0 < es.length) && (List.range i).all (goodB es xs)
theorem allI_succ (es : List El) (xs : List Shp) (i : Nat) : allI es xs (i + 1) = (allI es xs i && goodB es xs i) := by
  unfold allI
  rw [List.range_succ, List.all_append]
  simp [Bool.and_assoc]
theorem prims_pos {es : List El} (h : prims es = 1) : 0 < es.length := by
  cases es with
  | nil => simp [prims, cntP, ups] at h
  | cons e es => simp
/-- a built node's list ends with what is its own -/
theorem lst_eq_take {N h i o K : Nat} (hN : N < 12) (hh : h ≤ N) (hK : K ≤ N) (e : lst N h i o = (linG N).take K) : o = 0 := by
  rcases Nat.eq_zero_or_pos o with h0 | h0
  · exact h0
  · exfalso
    have hl := congrArg List.length e
    rw [lst_len hh, List.length_take, linG_len] at hl
    have e1 := gth_lst (i := i) (o := o) hh (show h + o - 1 < h + o by omega)
    rw [if_neg (by omega), e, gth_lin hK (by omega)] at e1
    exact own_ne_lin (show h + o - 1 < 12 by omega) e1.symm
theorem settled_built {N m : Nat} {xs : List Shp} (hN : N < 12) : settledB (builtB (linG N) xs m) = (allI (builtB (linG N) xs m) xs m && decide (prims (builtB (linG N) xs m) = 1)) := by
  obtain ⟨es, hes⟩ : ∃ z, z = builtB (linG N) xs m := ⟨_, rfl⟩
  have hlen : es.length = m := by rw [hes]; exact builtB_len _ _ _
  have hpre : Pre (linG N) es := hes ▸ builtB_pre _ _ _
  have hnth : ∀ j, j < m → nth es j = nodeB (linG N) j (xs.getD j shp0) := fun j hj => by rw [hes]; exact builtB_nth _ _ hj
  rw [← hes]
  unfold settledB
  rw [Bool.and_comm]
  by_cases hp : prims es = 1
  · rw [decide_eq_true hp, Bool.and_true, Bool.and_true]
    have hpos := prims_pos hp
    rw [Bool.eq_iff_iff, Bool.not_eq_true', List.any_eq_false]
    unfold allI
    rw [decide_eq_true hpos, Bool.true_and, List.all_eq_true]
    obtain ⟨K, hK, hk⟩ := kn_take hpre
    rw [linG_len] at hK
    have hline : ∀ j, ∃ t, (nth es j).line = (linG N).take t := pre_nth hpre
    have hlist : ∀ j, j < m → (nth es j).list = lst N ((xs.getD j shp0).h.toNat % (N + 1)) j ((xs.getD j shp0).o.toNat % 4) := fun j hj => by rw [hnth j hj, nodeB_list]
    have hhj : ∀ j, (xs.getD j shp0).h.toNat % (N + 1) ≤ N := fun j => by have := Nat.mod_lt (xs.getD j shp0).h.toNat (show 0 < N + 1 by omega); omega
    constructor
    · intro h j hj
      have hj' := List.mem_range.1 hj
      have hu : ∀ i, i < es.length → (nth es i).up = true ∧ (nth es i).line = kn es ∧ (nth es i).list = kn es := fun i hi => by
        have := h i (List.mem_range.2 hi)
        unfold otherB at this
        simp at this
        exact ⟨this.1.1, this.1.2, this.2⟩
      have h1 := hu j (by omega)
      have h2 := hu 0 hpos
      have h3 : (xs.getD j shp0).o.toNat % 4 = 0 := lst_eq_take hN (hhj j) hK (by rw [← hlist j (by omega), h1.2.2, hk])
      unfold goodB
      rw [h1.1, h1.2.1, h1.2.2, h2.2.1, decide_eq_true rfl, decide_eq_true h3]
      rfl
    · intro h j hj
      have hj' := List.mem_range.1 hj
      have hg : ∀ i, i < m → (nth es i).up = true ∧ (nth es i).line.length = (nth es 0).line.length ∧ (nth es i).list.length = (nth es i).line.length ∧ (xs.getD i shp0).o.toNat % 4 = 0 := fun i hi => by
        have := h i (List.mem_range.2 hi)
        unfold goodB at this
        simp only [Bool.and_eq_true, decide_eq_true_eq] at this
        exact ⟨this.1, this.2.1, this.2.2.1, this.2.2.2⟩
      have heq : ∀ i, i < m → (nth es i).line = (nth es 0).line := fun i hi => by
        obtain ⟨t, ht⟩ := hline i
        obtain ⟨s, hs⟩ := hline 0
        have := (hg i hi).2.1
        rw [ht, hs] at this ⊢
        exact take_of_len this
      have hkn : kn es = (nth es 0).line := by
        rcases kn_mem es with h0 | ⟨e, he, h0⟩
        · have := kn_ge (nth_mem hpos)
          rw [h0] at this ⊢
          exact (List.eq_nil_of_length_eq_zero (by simpa using this)).symm
        · obtain ⟨i, hi, rfl⟩ := mem_nth he
          rw [h0]
          exact heq i (by omega)
      have h1 := hg j (by omega)
      have h2 : (nth es j).list = (nth es j).line := by
        obtain ⟨t, ht⟩ := hline j
        have h3 := h1.2.2.1
        have h4 := hlist j (by omega)
        rw [h1.2.2.2] at h4
        unfold lst ownG at h4
        simp only [List.range_zero, List.map_nil, List.append_nil] at h4
        rw [h4, ht] at h3 ⊢
        exact take_of_len h3
      unfold otherB
      rw [h1.1, h2, heq j (by omega), hkn, decide_eq_true rfl]
      simp
  · rw [decide_eq_false hp]
    simp
theorem goodB_strip (es : List El) (xs : List Shp) (j : Nat) : goodB (es.map El.strip) xs j = goodB es xs j := by
  unfold goodB
  simp only [nth_strip]
  rfl
theorem allI_strip (es : List El) (xs : List Shp) (i : Nat) : allI (es.map El.strip) xs i = allI es xs i := by
  unfold allI
  rw [List.length_map]
  congr 1
  congr 1
  funext j
  exact goodB_strip es xs j
end Go.Proofs.Yteplcpiamocclaa
