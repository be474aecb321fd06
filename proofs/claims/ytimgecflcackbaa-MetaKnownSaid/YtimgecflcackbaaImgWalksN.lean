/-
  IMAGES: the small functions, walked.
-/
import Derived.Test.YtimgecflcackbaaInts
import Derived.Test.YtimgecflcackbaaRegion
import Derived.Laws.CopyOwn
namespace Go.Proofs.Ytimgecflcackbaa
open Go.RowKit Reg

theorem ints_any (v v' : Value) (zs zs' : List Int) (w : World) (hv : InI w v zs) (hv' : InI w v' zs') :
    Calls Try.prog 56 #[v, v'] w fun e w' => e = .returned (.bool (decide (zs = zs'))) ∧ Below w.heap.size w w' := by
  obtain ⟨a, c, rfl, _, hx⟩ := hv.open_
  obtain ⟨a', c', rfl, _, hx'⟩ := hv'.open_
  by_cases hl : zs.length = zs'.length
  · rw [← hl] at hx' ⊢
    have hres : ∀ b, (b = true ↔ ∀ j, j < zs.length → zs.getD j 0 = zs'.getD j 0) → decide (zs = zs') = b := by
      intro b hb
      rw [Bool.eq_iff_iff, hb, decide_eq_true_iff]
      exact ⟨fun h => h ▸ fun _ _ => rfl, eq_of_getD hl⟩
    generalize decide (zs = zs') = b at *
    generalize hZ : (fun j => zs.getD j 0) = Z at *
    generalize hZ' : (fun j => zs'.getD j 0) = Z' at *
    have hX : ∀ j, j < zs.length → ∃ g off, a = some ⟨g, off, none⟩ ∧ w.cell? ⟨g, off + j, none⟩ = some (.int .i64 (Z j)) := by subst hZ; exact hx
    have hX' : ∀ j, j < zs.length → ∃ g off, a' = some ⟨g, off, none⟩ ∧ w.cell? ⟨g, off + j, none⟩ = some (.int .i64 (Z' j)) := by subst hZ'; exact hx'
    have hR : ∀ b', (b' = true ↔ ∀ j, j < zs.length → Z j = Z' j) → b = b' := by subst hZ; subst hZ'; exact hres
    have hn := hv.2.1
    clear hx hx' hZ hZ' hres hv hv' hl
    generalize zs.length = n at *
    have HX := Lib.hid hX
    have HX' := Lib.hid hX'
    have HR := Lib.hid hR
    have HN := Lib.hid hn
    clear hX hX' hR hn
    go_enter Try.func56, Try.ntmps56
    go_wp2
    go_loopw [5] (fun i wr => ∃ k : Nat, k ≤ n ∧ (∀ j, j < k → Z j = Z' j) ∧ i = .int .i64 k ∧ Below w.heap.size w wr) (fun i _ => n - (intOf i).toNat)
    case atStart => exact ⟨0, Nat.zero_le _, fun j hj => by omega, rfl, Below.refl _ _⟩
    case round =>
      obtain ⟨k, hk, hq, rfl, hb⟩ := hrel
      have HB := Lib.hid hb
      have HQ := Lib.hid hq
      clear hb hq
      by_cases hkn : k < n
      · obtain ⟨g, off, rfl, hc⟩ := HX.out k hkn
        obtain ⟨g', off', rfl, hc'⟩ := HX'.out k hkn
        have hc1 := cell_later HB.out hc
        have hc2 := cell_later HB.out hc'
        have i1 : (k : Int) < (n : Int) := by omega
        have HKN := Lib.hid hkn
        clear hc hc' hkn
        by_cases hz : Z k = Z' k
        · have hz2 : (Z k == Z' k) = true := by simp [hz]
          have HZ := Lib.hid hz
          clear hz
          go_wp2_with fail
          go_quiet (fail)
          have HB1 := Lib.hid (below_drewN HB.out nq)
          clear HB
          have hn := HN.out
          have hkn := HKN.out
          unfold maxLen at hn
          go_wp2
          refine ⟨⟨k + 1, by omega, ?_, by go_num, HB1.out⟩, by simp [intOf]; omega⟩
          intro j hj
          rcases Nat.lt_succ_iff_lt_or_eq.1 hj with h | rfl
          · exact HQ.out j h
          · exact HZ.out
        · have hb : b = false := HR.out false ⟨(fun h => by cases h), fun h => absurd (h k HKN.out) hz⟩
          have hz2 : (Z k == Z' k) = false := by simp [hz]
          have HBB := Lib.hid hb
          have HZ := Lib.hid hz
          clear hb hz
          go_wp2_with fail
          go_quiet (fail)
          have HB1 := Lib.hid (below_drewN HB.out nq)
          clear HB
          go_wp2
          go_ret
          exact ⟨by rw [HBB.out]; rfl, HB1.out⟩
      · obtain rfl : k = n := by omega
        have hb : b = true := HR.out true ⟨fun _ => HQ.out, fun _ => rfl⟩
        have HBB := Lib.hid hb
        clear hb
        go_wp2
        go_ret
        exact ⟨by rw [HBB.out]; rfl, HB.out⟩
  · have hd : decide (zs = zs') = false := by
      rw [decide_eq_false_iff_not]
      rintro rfl
      exact hl rfl
    have i1 : ((zs.length : Int) == (zs'.length : Int)) = false := by simp; omega
    have i2 : ¬ (zs.length : Int) = (zs'.length : Int) := by omega
    rw [hd]
    clear hx hx' hv hv' hd
    generalize zs.length = n at *
    generalize zs'.length = n' at *
    go_enter Try.func56, Try.ntmps56
    go_wp2
    go_ret
    exact ⟨rfl, Below.refl _ _⟩

def diffTo (Z Z' : Nat → Int) (k : Nat) : List Int := ((List.range k).filter fun i => Z i != Z' i).map fun i : Nat => (i : Int)
theorem diffTo_eq (Z Z' : Nat → Int) (k : Nat) (h : Z k = Z' k) : diffTo Z Z' (k + 1) = diffTo Z Z' k := by
  unfold diffTo
  rw [List.range_succ, List.filter_append]
  simp [h]
theorem diffTo_ne (Z Z' : Nat → Int) (k : Nat) (h : ¬ Z k = Z' k) : diffTo Z Z' (k + 1) = diffTo Z Z' k ++ [(k : Int)] := by
  unfold diffTo
  rw [List.range_succ, List.filter_append]
  simp [h]
theorem diffTo_length (Z Z' : Nat → Int) (k : Nat) : (diffTo Z Z' k).length ≤ k := by
  unfold diffTo
  rw [List.length_map]
  exact Nat.le_trans (List.length_filter_le _ _) (by simp)
def diffOf (zs zs' : List Int) : List Int := diffTo (fun j => zs.getD j 0) (fun j => zs'.getD j 0) (max zs.length zs'.length)
end Go.Proofs.Ytimgecflcackbaa
