/-
  HOW TWO NUMBERS, AND TWO GUIDS, ARE ORDERED (cmp.Compare, cmp.Or). With got1, got2.
-/
import Derived.Test.YtikimmhkfjaijaaGrow
import Derived.Test.YtikimmhkfjaijaaGuids
namespace Go.Proofs.Ytikimmhkfjaijaa
open Go.RowKit Reg

def cmp3 (a b : Int) : Int := if a < b then -1 else if b < a then 1 else 0
theorem nan_any (a : Int) (w : World) : Calls Try.prog 74 #[.int .u64 a] w fun e w' => e = .returned (.bool false) ∧ w = w' := by
  go_enter Try.func74, Try.ntmps74
  go_wp2
  go_ret
  exact ⟨by simp, rfl⟩
theorem cmp_any (a b : Int) (w : World) : Calls Try.prog 62 #[.int .u64 a, .int .u64 b] w fun e w' => e = .returned (.int .i64 (cmp3 a b)) ∧ w = w' := by
  have hs : (a < b ∧ cmp3 a b = -1) ∨ (b ≤ a ∧ b < a ∧ cmp3 a b = 1) ∨ (b ≤ a ∧ a ≤ b ∧ cmp3 a b = 0) := by
    unfold cmp3
    by_cases h1 : a < b
    · exact .inl ⟨h1, if_pos h1⟩
    · by_cases h2 : b < a
      · exact .inr (.inl ⟨by omega, h2, by rw [if_neg h1, if_pos h2]⟩)
      · exact .inr (.inr ⟨by omega, by omega, by rw [if_neg h1, if_neg h2]⟩)
  generalize cmp3 a b = r at *
  rcases hs with ⟨h1, rfl⟩ | ⟨h0, h1, rfl⟩ | ⟨h0, h1, rfl⟩
  all_goals
    go_enter Try.func62, Try.ntmps62
    go_wp2_with fail
    refine (nan_any _ _).mono ?_
    rintro e w1 ⟨rfl, rfl⟩
    go_wp2_with fail
    refine (nan_any _ _).mono ?_
    rintro e w1 ⟨rfl, rfl⟩
    go_wp2
    go_ret
    exact ⟨rfl, rfl⟩
section
variable {ops : Array Oper} {md : Region.Mode} {i s m : Nat}
theorem dep_at (n : Nat) (h : directB ops md i s = true) : depB ops md (n + 1) i s = true := by
  unfold directB at h
  cases ho : ops[i]? with
  | none => rw [ho] at h; cases h
  | some o =>
    rw [ho] at h
    simp only [Array.any_eq_true, Bool.and_eq_true] at h
    obtain ⟨k, hk, hb, he⟩ := h
    simp only [depB, ho, Array.any_eq_true, Bool.and_eq_true, Bool.or_eq_true]
    exact ⟨k, hk, hb, .inl he⟩
theorem dep_two (n : Nat) (h1 : directB ops md i m = true) (h2 : directB ops md m s = true) : depB ops md (n + 2) i s = true := by
  have h3 := dep_at n h2
  unfold directB at h1
  cases ho : ops[i]? with
  | none => rw [ho] at h1; cases h1
  | some o =>
    rw [ho] at h1
    simp only [Array.any_eq_true, Bool.and_eq_true] at h1
    obtain ⟨k, hk, hb, he⟩ := h1
    rw [depB, ho]
    simp only [Array.any_eq_true, Bool.and_eq_true, Bool.or_eq_true]
    refine ⟨k, hk, hb, .inr ?_⟩
    have : o.after[k].on = m := by simpa using he
    rw [this]
    exact h3
theorem got2 {σ : Nat → Option Value} {ν : Nat → Value} {sp : Nat → Bool} (hA : Agree σ ν) (hD : Deps ops md sp i σ) (s m : Nat) (hs : sp s = true) (h1 : directB ops md i m = true) (h2 : directB ops md m s = true) (hz : 2 ≤ ops.size) : σ s = some (ν s) := by
  obtain ⟨n, hn⟩ : ∃ n, ops.size = n + 2 := ⟨ops.size - 2, by omega⟩
  exact got hA hD s hs (by rw [hn]; exact dep_two n h1 h2)
end
def or2 (r0 r1 : Int) : Int := if r0 ≠ 0 then r0 else r1
set_option maxRecDepth 100000 in
theorem or_any (r0 r1 : Int) (g c : Nat) (w : World) (h0 : w.cell? ⟨g, 0, none⟩ = some (.int .i64 r0)) (h1 : w.cell? ⟨g, 1, none⟩ = some (.int .i64 r1)) :
    Calls Try.prog 61 #[.slice (some ⟨g, 0, none⟩) 2 c] w fun e w' => e = .returned (.int .i64 (or2 r0 r1)) ∧ w = w' := by
  unfold or2
  by_cases k0 : r0 = 0
  · rw [if_neg (fun h => h k0)]
    subst k0
    by_cases k1 : r1 = 0
    · subst k1
      go_enter Try.func61, Try.ntmps61
      go_wp2_with fail
      refine wp_loop_rounds 3 ?_
      rw [rounds_succ]
      go_wp2_with fail
      rw [rounds_succ]
      go_wp2_with fail
      rw [rounds_succ]
      go_wp2
      go_ret
      exact ⟨rfl, rfl⟩
    · have b1 : (r1 == 0) = false := by simpa using k1
      have b2 : decide (r1 = 0) = false := decide_eq_false k1
      go_enter Try.func61, Try.ntmps61
      go_wp2_with fail
      refine wp_loop_rounds 3 ?_
      rw [rounds_succ]
      go_wp2_with fail
      rw [rounds_succ]
      go_wp2
      go_ret
      exact ⟨rfl, rfl⟩
  · rw [if_pos k0]
    have b1 : (r0 == 0) = false := by simpa using k0
    have b2 : decide (r0 = 0) = false := decide_eq_false k0
    go_enter Try.func61, Try.ntmps61
    go_wp2_with fail
    refine wp_loop_rounds 3 ?_
    rw [rounds_succ]
    go_wp2
    go_ret
    exact ⟨rfl, rfl⟩
/-- the guid b is above a -/
def upG (a b : Gd) : Bool := decide (a.1 < b.1 ∨ (a.1 = b.1 ∧ a.2 < b.2))
theorem or2_le (a b : Gd) : decide (or2 (cmp3 b.1 a.1) (cmp3 b.2 a.2) ≤ 0) = !upG a b := by
  unfold or2 cmp3 upG
  by_cases h : a.1 < b.1
  · simp only [h, true_or, decide_true, Bool.not_true, decide_eq_false_iff_not]
    rw [if_neg (show ¬ b.1 < a.1 by omega)]
    simp
  · by_cases h2 : b.1 < a.1
    · simp [h2, h, show ¬ a.1 = b.1 by omega]
    · have e : a.1 = b.1 := by omega
      by_cases h3 : a.2 < b.2
      · simp [e, h3, show ¬ b.2 < a.2 by omega]
      · by_cases h4 : b.2 < a.2
        · simp [e, h3, h4]
        · simp [e, h3, h4]
end Go.Proofs.Ytikimmhkfjaijaa
