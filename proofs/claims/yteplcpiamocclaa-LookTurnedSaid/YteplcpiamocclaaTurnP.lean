/-
  LookTurned: the law, without a walk.
-/
import Derived.Test.YteplcpiamocclaaTells2
import Derived.Test.YteplcpiamocclaaLook13
namespace Go.Proofs.Yteplcpiamocclaa
open Go.RowKit Reg Go.ChangeShapes

def turnL (es : List El) (t : Nat) : List El := (List.range es.length).map fun i => nth es (es.length - 1 - (i + t) % es.length)
theorem turnL_len (es : List El) (t : Nat) : (turnL es t).length = es.length := by simp [turnL]
theorem add_mod_small {i t n k : Nat} (hk : k = t % n) (hi : i < n) : (i + t) % n = if i + k < n then i + k else i + k - n := by
  have hkn : k < n := by rw [hk]; exact Nat.mod_lt _ (by omega)
  rw [Nat.add_mod, ← hk, Nat.mod_eq_of_lt hi]
  split
  · rename_i h
    exact Nat.mod_eq_of_lt h
  · rename_i h
    rw [Nat.mod_eq_sub_mod (by omega)]
    exact Nat.mod_eq_of_lt (by omega)
theorem nth_get {es : List El} {j : Nat} (h : j < es.length) : nth es j = es[j] := by simp [nth, h]
theorem turnL_perm (es : List El) (t : Nat) : (turnL es t).Perm es := by
  obtain ⟨n, hn⟩ : ∃ z, z = es.length := ⟨_, rfl⟩
  obtain ⟨k, hk⟩ : ∃ z, z = t % n := ⟨_, rfl⟩
  have e : turnL es t = es.reverse.drop k ++ es.reverse.take k := by
    rcases Nat.eq_zero_or_pos n with h0 | hp
    · have : es = [] := List.length_eq_zero_iff.1 (by omega)
      subst this
      simp [turnL]
    have hkn : k < n := by rw [hk]; exact Nat.mod_lt _ hp
    apply List.ext_getElem
    · rw [turnL_len, List.length_append, List.length_drop, List.length_take, List.length_reverse, ← hn]
      omega
    intro i h1 h2
    rw [turnL_len, ← hn] at h1
    have hm := add_mod_small (i := i) (t := t) hk h1
    simp only [turnL, List.getElem_map, List.getElem_range]
    rw [← hn, hm]
    by_cases hik : i + k < n
    · rw [if_pos hik, List.getElem_append_left (by rw [List.length_drop, List.length_reverse]; omega), List.getElem_drop, List.getElem_reverse, nth_get (by omega)]
      congr 1
      omega
    · rw [if_neg hik, List.getElem_append_right (by rw [List.length_drop, List.length_reverse]; omega), List.getElem_take, List.getElem_reverse, nth_get (by omega)]
      congr 1
      rw [List.length_drop, List.length_reverse]
      omega
  rw [e]
  exact (List.perm_append_comm.trans (by rw [List.take_append_drop])).trans (List.reverse_perm es)
theorem mem_nth {es : List El} {x : El} : x ∈ es ↔ ∃ j, j < es.length ∧ nth es j = x := by
  rw [List.mem_iff_getElem]
  constructor
  · rintro ⟨j, hj, rfl⟩
    exact ⟨j, hj, nth_get hj⟩
  · rintro ⟨j, hj, rfl⟩
    exact ⟨j, hj, (nth_get hj).symm⟩
theorem lineV_neg {b n : List El} : lineV b n = -1 ↔ ∀ x ∈ n, ∀ y, (y ∈ b ∨ y ∈ n) → Go.Proofs.Yteplcpiamocclaa.apart x.line y.line = false := by
  unfold lineV
  rw [fIx_neg]
  constructor
  · intro h x hx y hy
    obtain ⟨i, hi, rfl⟩ := mem_nth.1 hx
    have := h i hi
    unfold lineP at this
    rw [Bool.or_eq_false_iff, List.any_eq_false, List.any_eq_false] at this
    rcases hy with hy | hy
    · obtain ⟨j, hj, rfl⟩ := mem_nth.1 hy
      simpa using this.1 j (List.mem_range.2 hj)
    · obtain ⟨j, hj, rfl⟩ := mem_nth.1 hy
      simpa using this.2 j (List.mem_range.2 hj)
  · intro h j hj
    unfold lineP
    rw [Bool.or_eq_false_iff, List.any_eq_false, List.any_eq_false]
    exact ⟨fun k hk => by rw [h _ (mem_nth.2 ⟨j, hj, rfl⟩) _ (.inl (mem_nth.2 ⟨k, List.mem_range.1 hk, rfl⟩))]; decide,
      fun k hk => by rw [h _ (mem_nth.2 ⟨j, hj, rfl⟩) _ (.inr (mem_nth.2 ⟨k, List.mem_range.1 hk, rfl⟩))]; decide⟩
theorem cnt_take (es : List El) : ∀ k, k ≤ es.length → cntP es (ups es k) = ((es.take k).filter fun e => e.up && e.prim).length
  | 0, _ => rfl
  | k + 1, h => by
    rw [primsN_succ, cnt_take es k (by omega), take_snoc h, List.filter_append, List.length_append]
    congr 1
    simp only [List.filter_cons, List.filter_nil]
    split <;> rfl
theorem prims_filter (es : List El) : prims es = (es.filter fun e => e.up && e.prim).length := by
  unfold prims
  rw [cnt_take es es.length (Nat.le_refl _), List.take_length]
theorem kf_spec : ∀ (es : List El) (out : List Gd), out.length ≤ (es.foldl (fun out s => if out.length < s.line.length then s.line else out) out).length ∧
    (∀ x ∈ es, x.line.length ≤ (es.foldl (fun out s => if out.length < s.line.length then s.line else out) out).length) ∧
    (es.foldl (fun out s => if out.length < s.line.length then s.line else out) out = out ∨ ∃ x ∈ es, es.foldl (fun out s => if out.length < s.line.length then s.line else out) out = x.line)
  | [], out => ⟨Nat.le_refl _, (fun x hx => by cases hx), .inl rfl⟩
  | e :: es, out => by
    have ih := kf_spec es (if out.length < e.line.length then e.line else out)
    rw [List.foldl_cons]
    generalize es.foldl (fun out s => if out.length < s.line.length then s.line else out) (if out.length < e.line.length then e.line else out) = K at *
    obtain ⟨h1, h2, h3⟩ := ih
    refine ⟨?_, fun x hx => ?_, ?_⟩
    · split at h1 <;> omega
    · rcases List.mem_cons.1 hx with rfl | hx
      · split at h1 <;> omega
      · exact h2 x hx
    · rcases h3 with h3 | ⟨x, hx, h3⟩
      · rw [h3]
        split
        · exact .inr ⟨e, List.mem_cons_self, rfl⟩
        · exact .inl rfl
      · exact .inr ⟨x, List.mem_cons_of_mem _ hx, h3⟩
theorem apart_len {a b : List Gd} (h : Go.Proofs.Yteplcpiamocclaa.apart a b = false) (hl : a.length = b.length) : a = b := by
  unfold Go.Proofs.Yteplcpiamocclaa.apart at h
  have hh : begB a b = true ∨ begB b a = true := by
    cases h1 : begB a b with
    | true => exact .inl rfl
    | false =>
      cases h2 : begB b a with
      | true => exact .inr rfl
      | false => rw [h1, h2] at h; cases h
  rcases hh with h | h
  · unfold begB at h
    rw [Bool.and_eq_true, decide_eq_true_iff, decide_eq_true_iff] at h
    rw [h.2, hl, List.take_length]
  · unfold begB at h
    rw [Bool.and_eq_true, decide_eq_true_iff, decide_eq_true_iff] at h
    rw [h.2, ← hl, List.take_length]
theorem kn_perm {es es' : List El} (hm : ∀ x, x ∈ es' ↔ x ∈ es) (h : lineV [] es = -1) : kn es' = kn es := by
  rw [lineV_neg] at h
  obtain ⟨-, a2, a3⟩ := kf_spec es []
  obtain ⟨-, b2, b3⟩ := kf_spec es' []
  change ∀ x ∈ es, x.line.length ≤ (kn es).length at a2
  change kn es = [] ∨ ∃ x ∈ es, kn es = x.line at a3
  change ∀ x ∈ es', x.line.length ≤ (kn es').length at b2
  change kn es' = [] ∨ ∃ x ∈ es', kn es' = x.line at b3
  rcases a3 with a3 | ⟨x, hx, ex⟩
  · rcases b3 with b3 | ⟨y, hy, ey⟩
    · rw [a3, b3]
    · have := a2 y ((hm y).1 hy)
      rw [a3, ← ey] at this
      rw [a3]
      exact List.length_eq_zero_iff.1 (by simpa using this)
  · rcases b3 with b3 | ⟨y, hy, ey⟩
    · have := b2 x ((hm x).2 hx)
      rw [b3, ← ex] at this
      rw [b3]
      exact (List.length_eq_zero_iff.1 (by simpa using this)).symm
    · have h1 := a2 y ((hm y).1 hy)
      have h2 := b2 x ((hm x).2 hx)
      rw [← ey] at h1
      rw [← ex] at h2
      have h3 := h y ((hm y).1 hy) x (.inr hx)
      rw [← ey, ← ex] at h3
      exact apart_len h3 (by omega)
def badX (K : List Gd) (x : El) : Bool := !risesB x.list || anyIn (x.list.drop (comm x.list K)) K
theorem listsV_neg {es : List El} : listsV es = -1 ↔ ∀ x ∈ es, (x.up && badX (kn es) x) = false := by
  unfold listsV
  rw [fIx_neg]
  constructor
  · intro h x hx
    obtain ⟨j, hj, rfl⟩ := mem_nth.1 hx
    exact h j hj
  · intro h j hj
    exact h _ (mem_nth.2 ⟨j, hj, rfl⟩)
theorem toldV_neg {es : List El} : toldV es = -1 ↔ ∀ x ∈ es, anyOut x.told (kn es) = false := by
  unfold toldV
  rw [fIx_neg]
  constructor
  · intro h x hx
    obtain ⟨j, hj, rfl⟩ := mem_nth.1 hx
    exact h j hj
  · intro h j hj
    exact h _ (mem_nth.2 ⟨j, hj, rfl⟩)
theorem settled_iff {es : List El} : settledB es = true ↔ prims es = 1 ∧ ∀ x ∈ es, otherB (kn es) x = false := by
  unfold settledB
  rw [Bool.and_eq_true, decide_eq_true_iff, Bool.not_eq_true', List.any_eq_false]
  constructor
  · rintro ⟨h1, h2⟩
    refine ⟨h1, fun x hx => ?_⟩
    obtain ⟨j, hj, rfl⟩ := mem_nth.1 hx
    simpa using h2 j (List.mem_range.2 hj)
  · rintro ⟨h1, h2⟩
    exact ⟨h1, fun j hj => by rw [h2 _ (mem_nth.2 ⟨j, List.mem_range.1 hj, rfl⟩)]; decide⟩
theorem turn_mem (es : List El) (t : Nat) (x : El) : x ∈ turnL es t ↔ x ∈ es := (turnL_perm es t).mem_iff
theorem turn_line (b n : List El) (t : Nat) : decide (lineV (turnL b t) (turnL n t) = -1) = decide (lineV b n = -1) := by
  rw [decide_eq_decide, lineV_neg, lineV_neg]
  simp only [turn_mem]
theorem turn_prims (n : List El) (t : Nat) : prims (turnL n t) = prims n := by
  rw [prims_filter, prims_filter]
  exact ((turnL_perm n t).filter _).length_eq
theorem turn_lists {n : List El} (t : Nat) (h : lineV [] n = -1) : decide (listsV (turnL n t) = -1) = decide (listsV n = -1) := by
  rw [decide_eq_decide, listsV_neg, listsV_neg, kn_perm (turn_mem n t) h]
  simp only [turn_mem]
theorem turn_told {n : List El} (t : Nat) (h : lineV [] n = -1) : decide (toldV (turnL n t) = -1) = decide (toldV n = -1) := by
  rw [decide_eq_decide, toldV_neg, toldV_neg, kn_perm (turn_mem n t) h]
  simp only [turn_mem]
theorem turn_settled {n : List El} (t : Nat) (h : lineV [] n = -1) : settledB (turnL n t) = settledB n := by
  rw [Bool.eq_iff_iff, settled_iff, settled_iff, kn_perm (turn_mem n t) h, turn_prims]
  simp only [turn_mem]
end Go.Proofs.Yteplcpiamocclaa
