/-
  WHERE TWO IMAGES DIFFER: what follows for three of them.
-/
import Derived.Test.YtmljeifooamlcaaImgLaws
namespace Go.Proofs.Ytmljeifooamlcaa
open Go.RowKit

theorem mem_diffTo {Z Z' : Nat → Int} {k : Nat} {z : Int} : z ∈ diffTo Z Z' k ↔ ∃ j : Nat, z = (j : Int) ∧ j < k ∧ Z j ≠ Z' j := by
  unfold diffTo
  rw [List.mem_map]
  constructor
  · rintro ⟨j, hj, rfl⟩
    rw [List.mem_filter, List.mem_range, bne_iff_ne] at hj
    exact ⟨j, rfl, hj.1, hj.2⟩
  · rintro ⟨j, rfl, hj, hz⟩
    exact ⟨j, by rw [List.mem_filter, List.mem_range, bne_iff_ne]; exact ⟨hj, hz⟩, rfl⟩
theorem getD_out (zs : List Int) (j : Nat) (h : zs.length ≤ j) : zs.getD j 0 = 0 := by simp [List.getElem?_eq_none h]
theorem mem_diffOf {A B : List Int} {z : Int} : z ∈ diffOf A B ↔ ∃ j : Nat, z = (j : Int) ∧ A.getD j 0 ≠ B.getD j 0 := by
  unfold diffOf
  rw [mem_diffTo]
  constructor
  · rintro ⟨j, h1, _, h2⟩; exact ⟨j, h1, h2⟩
  · rintro ⟨j, h1, h2⟩
    refine ⟨j, h1, ?_, h2⟩
    rcases Nat.lt_or_ge j (max A.length B.length) with q | q
    · exact q
    · exact absurd (by rw [getD_out A j (by omega), getD_out B j (by omega)]) h2
theorem diffOf_comm (A B : List Int) : diffOf B A = diffOf A B := by
  unfold diffOf diffTo
  rw [Nat.max_comm]
  congr 1
  apply List.filter_congr
  intro j _
  exact bne_comm
theorem diffOf_self (A : List Int) : diffOf A A = [] := diffOf_same A A fun _ _ => rfl
theorem diffOf_third {A B C : List Int} {z : Int} (h : z ∈ diffOf A C) (h1 : z ∉ diffOf A B) : z ∈ diffOf B C := by
  obtain ⟨j, rfl, hj⟩ := mem_diffOf.1 h
  refine mem_diffOf.2 ⟨j, rfl, fun e => ?_⟩
  refine h1 (mem_diffOf.2 ⟨j, rfl, fun e2 => ?_⟩)
  exact hj (e2.trans e)
theorem filter_head {p q : Nat → Bool} {l rest : List Nat} {j : Nat} (hn : l.Nodup) (h : l.filter p = j :: rest) (hq : ∀ i ∈ l, q i = (p i && i != j)) : l.filter q = rest := by
  have e : l.filter q = (l.filter p).filter (fun i => i != j) := by
    rw [List.filter_filter]
    apply List.filter_congr
    intro i hi
    rw [hq i hi, Bool.and_comm]
  have hnd := hn.filter p
  rw [h] at hnd
  rw [e, h, List.filter_cons]
  simp only [bne_self_eq_false, Bool.false_eq_true, if_false]
  rw [List.filter_eq_self]
  intro i hi
  rw [bne_iff_ne]
  rintro rfl
  exact (List.nodup_cons.1 hnd).1 hi
theorem diffOf_step {X B : List Int} {j : Nat} {rest : List Int} (hj : j < X.length) (h : diffOf X B = (j : Int) :: rest) : diffOf (X.set j (B.getD j 0)) B = rest := by
  unfold diffOf diffTo at h ⊢
  rw [List.length_set]
  cases hf : (List.range (max X.length B.length)).filter (fun i => X.getD i 0 != B.getD i 0) with
  | nil => rw [hf] at h; cases h
  | cons i is =>
    rw [hf] at h
    simp only [List.map_cons, List.cons.injEq] at h
    obtain ⟨h1, rfl⟩ := h
    have h2 : i = j := by omega
    subst h2
    rw [filter_head List.nodup_range hf]
    intro t ht
    by_cases e : t = i
    · subst e
      simp [hj]
    · have e1 : (X.set i (B.getD i 0)).getD t 0 = X.getD t 0 := by
        simp [Ne.symm e]
      show ((X.set i (B.getD i 0)).getD t 0 != B.getD t 0) = _
      rw [e1]
      simp [e]
theorem diffOf_head {X B : List Int} {z : Int} {rest : List Int} (hB : B.length ≤ X.length) (h : diffOf X B = z :: rest) : ∃ j : Nat, z = (j : Int) ∧ j < X.length := by
  have hm : z ∈ diffOf X B := by rw [h]; simp
  obtain ⟨j, rfl, hj⟩ := mem_diffOf.1 hm
  refine ⟨j, rfl, ?_⟩
  rcases Nat.lt_or_ge j X.length with q | q
  · exact q
  · exact absurd (by rw [getD_out X j q, getD_out B j (by omega)]) hj
theorem diffOf_length (A B : List Int) : (diffOf A B).length ≤ max A.length B.length := diffTo_length _ _ _
theorem drop_at (l : List Int) (k : Nat) (h : k < l.length) : l.drop k = l.getD k 0 :: l.drop (k + 1) := by
  rw [List.drop_eq_getElem_cons h]
  simp [h]
end Go.Proofs.Ytmljeifooamlcaa
