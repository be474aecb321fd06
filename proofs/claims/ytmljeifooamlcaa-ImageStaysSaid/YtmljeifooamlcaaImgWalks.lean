/-
  IMAGES: the small functions, walked.
-/
import Derived.Test.YtmljeifooamlcaaInts
import Derived.Test.YtmljeifooamlcaaRegion
import Derived.Laws.CopyOwn
namespace Go.Proofs.Ytmljeifooamlcaa
open Go.RowKit Reg

theorem own_any (v : Value) (zs : List Int) (w : World) (hv : InI w v zs) :
    Calls Try.prog 9 #[v] w fun e w' => ∃ v', e = .returned v' ∧ OwI w' w.heap.size v' (zs.take 60) ∧ Below w.heap.size w w' := by
  obtain ⟨a, c, rfl, hc, _⟩ := hv.open_
  have hcut : ∀ m : Nat, m ≤ zs.length → InI w (.slice a m c) (zs.take m) := by
    intro m hm
    refine ⟨?_, by rw [List.length_take]; have := hv.2.1; omega, fun z hz => hv.2.2 z (List.mem_of_mem_take hz)⟩
    rw [List.length_take, Nat.min_eq_left hm, List.map_take]
    rcases hv.1 with ⟨a', c', h1, h0, hx⟩ | ⟨hp, h1, ⟨h2, h0⟩ | ⟨g, off, c', h2, hc2, hx⟩⟩
    · obtain rfl : m = 0 := by omega
      exact .inl ⟨_, _, rfl, rfl, by simp⟩
    · omega
    · rcases Nat.eq_zero_or_pos m with rfl | hm0
      · exact .inl ⟨_, _, rfl, rfl, by simp⟩
      · simp only [Value.slice.injEq] at h2
        obtain ⟨rfl, -, rfl⟩ := h2
        exact .inr ⟨hm0, Rd.take ⟨h1, .inr ⟨g, off, _, rfl, hc2, hx⟩⟩ hm c (by omega)⟩
  have h0 : OwI w w.heap.size (.slice none 0 0) [] := OwI.nil_ _ _
  have H0 := Lib.hid h0
  rcases Nat.lt_or_ge 60 zs.length with h | h
  · have hA := app_ints 22 h0 (hcut 60 (by omega)) (by simp; omega) (Nat.le_refl _)
    have i1 : (60 : Int) < (zs.length : Int) := by omega
    have i2 : (60 : Int) ≤ (c : Int) := by omega
    clear hcut hc h0 hv
    have HA := Lib.hid hA
    clear hA
    go_enter Try.func9, Try.ntmps9
    go_wp2_with (at_builtin; refine wpList_append_run rfl _ _ 22 rfl _ _ rfl rfl _ HA.out ?_)
    refine Later.mk fun _ _ v' w' hp => ?_
    have HP := Lib.hid hp
    clear hp HA
    go_wp2
    go_ret
    exact ⟨v', rfl, HP.out.1, HP.out.below H0.out (Nat.le_refl _)⟩
  · have hA := app_ints 22 h0 (hcut zs.length (by omega)) (by simp; omega) (Nat.le_refl _)
    have i1 : (zs.length : Int) ≤ (60 : Int) := by omega
    have i2 : (zs.length : Int) ≤ (c : Int) := by omega
    have e : [] ++ List.take zs.length zs = zs.take 60 := by rw [List.take_of_length_le (by omega), List.take_of_length_le (by omega)]; rfl
    rw [e] at hA
    clear hcut hc h0 hv e
    have HA := Lib.hid hA
    clear hA
    go_enter Try.func9, Try.ntmps9
    go_wp2_with (at_builtin; refine wpList_append_run rfl _ _ 22 rfl _ _ rfl rfl _ HA.out ?_)
    refine Later.mk fun _ _ v' w' hp => ?_
    have HP := Lib.hid hp
    clear hp HA
    go_wp2
    go_ret
    exact ⟨v', rfl, HP.out.1, HP.out.below H0.out (Nat.le_refl _)⟩

theorem ints_any (v v' : Value) (zs zs' : List Int) (w : World) (hv : InI w v zs) (hv' : InI w v' zs') :
    Calls Try.prog 13 #[v, v'] w fun e w' => e = .returned (.bool (decide (zs = zs'))) ∧ Below w.heap.size w w' := by
  obtain ⟨a, c, rfl, _, hx⟩ := hv.open_
  obtain ⟨a', c', rfl, _, hx'⟩ := hv'.open_
  by_cases hl : zs.length = zs'.length
  · rw [← hl] at hx' ⊢
    have hres : ∀ b, (b = true ↔ ∀ j, j < zs.length → zs.getD j 0 = zs'.getD j 0) → decide (zs = zs') = b := by
      intro b hb
      rw [Bool.eq_iff_iff, hb, decide_eq_true_iff]
      exact ⟨fun h => h ▸ fun _ _ => rfl, eq_of_getD hl⟩
    generalize decide (zs = zs') = b at *
    generalize hZ : (fun j => zs.getD j 0) = Z at *
    generalize hZ' : (fun j => zs'.getD j 0) = Z' at *
    have hX : ∀ j, j < zs.length → ∃ g off, a = some ⟨g, off, none⟩ ∧ w.cell? ⟨g, off + j, none⟩ = some (.int .i64 (Z j)) := by subst hZ; exact hx
    have hX' : ∀ j, j < zs.length → ∃ g off, a' = some ⟨g, off, none⟩ ∧ w.cell? ⟨g, off + j, none⟩ = some (.int .i64 (Z' j)) := by subst hZ'; exact hx'
    have hR : ∀ b', (b' = true ↔ ∀ j, j < zs.length → Z j = Z' j) → b = b' := by subst hZ; subst hZ'; exact hres
    have hn := hv.2.1
    clear hx hx' hZ hZ' hres hv hv' hl
    generalize zs.length = n at *
    have HX := Lib.hid hX
    have HX' := Lib.hid hX'
    have HR := Lib.hid hR
    have HN := Lib.hid hn
    clear hX hX' hR hn
    go_enter Try.func13, Try.ntmps13
    go_wp2
    go_loopw [5] (fun i wr => ∃ k : Nat, k ≤ n ∧ (∀ j, j < k → Z j = Z' j) ∧ i = .int .i64 k ∧ Below w.heap.size w wr) (fun i _ => n - (intOf i).toNat)
    case atStart => exact ⟨0, Nat.zero_le _, fun j hj => by omega, rfl, Below.refl _ _⟩
    case round =>
      obtain ⟨k, hk, hq, rfl, hb⟩ := hrel
      have HB := Lib.hid hb
      have HQ := Lib.hid hq
      clear hb hq
      by_cases hkn : k < n
      · obtain ⟨g, off, rfl, hc⟩ := HX.out k hkn
        obtain ⟨g', off', rfl, hc'⟩ := HX'.out k hkn
        have hc1 := cell_later HB.out hc
        have hc2 := cell_later HB.out hc'
        have i1 : (k : Int) < (n : Int) := by omega
        have HKN := Lib.hid hkn
        clear hc hc' hkn
        by_cases hz : Z k = Z' k
        · have hz2 : (Z k == Z' k) = true := by simp [hz]
          have HZ := Lib.hid hz
          clear hz
          go_wp2_with fail
          go_quiet (fail)
          have HB1 := Lib.hid (below_drewN HB.out nq)
          clear HB
          have hn := HN.out
          have hkn := HKN.out
          unfold maxLen at hn
          go_wp2
          refine ⟨⟨k + 1, by omega, ?_, by go_num, HB1.out⟩, by simp [intOf]; omega⟩
          intro j hj
          rcases Nat.lt_succ_iff_lt_or_eq.1 hj with h | rfl
          · exact HQ.out j h
          · exact HZ.out
        · have hb : b = false := HR.out false ⟨(fun h => by cases h), fun h => absurd (h k HKN.out) hz⟩
          have hz2 : (Z k == Z' k) = false := by simp [hz]
          have HBB := Lib.hid hb
          have HZ := Lib.hid hz
          clear hb hz
          go_wp2_with fail
          go_quiet (fail)
          have HB1 := Lib.hid (below_drewN HB.out nq)
          clear HB
          go_wp2
          go_ret
          exact ⟨by rw [HBB.out]; rfl, HB1.out⟩
      · obtain rfl : k = n := by omega
        have hb : b = true := HR.out true ⟨fun _ => HQ.out, fun _ => rfl⟩
        have HBB := Lib.hid hb
        clear hb
        go_wp2
        go_ret
        exact ⟨by rw [HBB.out]; rfl, HB.out⟩
  · have hd : decide (zs = zs') = false := by
      rw [decide_eq_false_iff_not]
      rintro rfl
      exact hl rfl
    have i1 : ((zs.length : Int) == (zs'.length : Int)) = false := by simp; omega
    have i2 : ¬ (zs.length : Int) = (zs'.length : Int) := by omega
    rw [hd]
    clear hx hx' hv hv' hd
    generalize zs.length = n at *
    generalize zs'.length = n' at *
    go_enter Try.func13, Try.ntmps13
    go_wp2
    go_ret
    exact ⟨rfl, Below.refl _ _⟩

theorem is_any (v v' : Value) (zs zs' : List Int) (w : World) (hv : InI w v zs) (hv' : InI w v' zs') :
    Calls Try.prog 18 #[v, v'] w fun e w' => e = .returned (.bool (decide (zs = zs'))) ∧ Below w.heap.size w w' := by
  obtain ⟨a, c, rfl, _, hx⟩ := hv.open_
  obtain ⟨a', c', rfl, _, hx'⟩ := hv'.open_
  by_cases hl : zs.length = zs'.length
  · rw [← hl] at hx' ⊢
    have hres : ∀ b, (b = true ↔ ∀ j, j < zs.length → zs.getD j 0 = zs'.getD j 0) → decide (zs = zs') = b := by
      intro b hb
      rw [Bool.eq_iff_iff, hb, decide_eq_true_iff]
      exact ⟨fun h => h ▸ fun _ _ => rfl, eq_of_getD hl⟩
    generalize decide (zs = zs') = b at *
    generalize hZ : (fun j => zs.getD j 0) = Z at *
    generalize hZ' : (fun j => zs'.getD j 0) = Z' at *
    have hX : ∀ j, j < zs.length → ∃ g off, a = some ⟨g, off, none⟩ ∧ w.cell? ⟨g, off + j, none⟩ = some (.int .i64 (Z j)) := by subst hZ; exact hx
    have hX' : ∀ j, j < zs.length → ∃ g off, a' = some ⟨g, off, none⟩ ∧ w.cell? ⟨g, off + j, none⟩ = some (.int .i64 (Z' j)) := by subst hZ'; exact hx'
    have hR : ∀ b', (b' = true ↔ ∀ j, j < zs.length → Z j = Z' j) → b = b' := by subst hZ; subst hZ'; exact hres
    have hn := hv.2.1
    clear hx hx' hZ hZ' hres hv hv' hl
    generalize zs.length = n at *
    have HX := Lib.hid hX
    have HX' := Lib.hid hX'
    have HR := Lib.hid hR
    have HN := Lib.hid hn
    clear hX hX' hR hn
    go_enter Try.func18, Try.ntmps18
    go_wp2
    go_loopw [5] (fun i wr => ∃ k : Nat, k ≤ n ∧ (∀ j, j < k → Z j = Z' j) ∧ i = .int .i64 k ∧ Below w.heap.size w wr) (fun i _ => n - (intOf i).toNat)
    case atStart => exact ⟨0, Nat.zero_le _, fun j hj => by omega, rfl, Below.refl _ _⟩
    case round =>
      obtain ⟨k, hk, hq, rfl, hb⟩ := hrel
      have HB := Lib.hid hb
      have HQ := Lib.hid hq
      clear hb hq
      by_cases hkn : k < n
      · obtain ⟨g, off, rfl, hc⟩ := HX.out k hkn
        obtain ⟨g', off', rfl, hc'⟩ := HX'.out k hkn
        have hc1 := cell_later HB.out hc
        have hc2 := cell_later HB.out hc'
        have i1 : (k : Int) < (n : Int) := by omega
        have HKN := Lib.hid hkn
        clear hc hc' hkn
        by_cases hz : Z k = Z' k
        · have hz2 : (Z k == Z' k) = true := by simp [hz]
          have HZ := Lib.hid hz
          clear hz
          go_wp2_with fail
          go_quiet (fail)
          have HB1 := Lib.hid (below_drewN HB.out nq)
          clear HB
          have hn := HN.out
          have hkn := HKN.out
          unfold maxLen at hn
          go_wp2
          refine ⟨⟨k + 1, by omega, ?_, by go_num, HB1.out⟩, by simp [intOf]; omega⟩
          intro j hj
          rcases Nat.lt_succ_iff_lt_or_eq.1 hj with h | rfl
          · exact HQ.out j h
          · exact HZ.out
        · have hb : b = false := HR.out false ⟨(fun h => by cases h), fun h => absurd (h k HKN.out) hz⟩
          have hz2 : (Z k == Z' k) = false := by simp [hz]
          have HBB := Lib.hid hb
          have HZ := Lib.hid hz
          clear hb hz
          go_wp2_with fail
          go_quiet (fail)
          have HB1 := Lib.hid (below_drewN HB.out nq)
          clear HB
          go_wp2
          go_ret
          exact ⟨by rw [HBB.out]; rfl, HB1.out⟩
      · obtain rfl : k = n := by omega
        have hb : b = true := HR.out true ⟨fun _ => HQ.out, fun _ => rfl⟩
        have HBB := Lib.hid hb
        clear hb
        go_wp2
        go_ret
        exact ⟨by rw [HBB.out]; rfl, HB.out⟩
  · have hd : decide (zs = zs') = false := by
      rw [decide_eq_false_iff_not]
      rintro rfl
      exact hl rfl
    have i1 : ((zs.length : Int) == (zs'.length : Int)) = false := by simp; omega
    have i2 : ¬ (zs.length : Int) = (zs'.length : Int) := by omega
    rw [hd]
    clear hx hx' hv hv' hd
    generalize zs.length = n at *
    generalize zs'.length = n' at *
    go_enter Try.func18, Try.ntmps18
    go_wp2
    go_ret
    exact ⟨rfl, Below.refl _ _⟩

theorem has_any (v : Value) (zs : List Int) (n : Int) (w : World) (hv : InI w v zs) :
    Calls Try.prog 19 #[v, .int .i64 n] w fun e w' => e = .returned (.bool (decide (n ∈ zs))) ∧ Below w.heap.size w w' := by
  obtain ⟨a, c, rfl, _, hx⟩ := hv.open_
  have hres : ∀ b, (b = true ↔ ∃ j, j < zs.length ∧ zs.getD j 0 = n) → decide (n ∈ zs) = b := by
    intro b hb
    rw [Bool.eq_iff_iff, hb, decide_eq_true_iff]
    constructor
    · intro h
      obtain ⟨j, hj, e⟩ := List.mem_iff_getElem.1 h
      exact ⟨j, hj, by simp [hj, e]⟩
    · rintro ⟨j, hj, e⟩
      rw [← e]
      simp [hj]
  generalize decide (n ∈ zs) = b at *
  generalize hZ : (fun j => zs.getD j 0) = Z at *
  have hX : ∀ j, j < zs.length → ∃ g off, a = some ⟨g, off, none⟩ ∧ w.cell? ⟨g, off + j, none⟩ = some (.int .i64 (Z j)) := by subst hZ; exact hx
  have hR : ∀ b', (b' = true ↔ ∃ j, j < zs.length ∧ Z j = n) → b = b' := by subst hZ; exact hres
  have hn := hv.2.1
  clear hx hZ hres hv
  generalize zs.length = m at *
  have HX := Lib.hid hX
  have HR := Lib.hid hR
  have HN := Lib.hid hn
  clear hX hR hn
  go_enter Try.func19, Try.ntmps19
  go_wp2
  go_loopw [5] (fun i wr => ∃ k : Nat, k ≤ m ∧ (∀ j, j < k → ¬ Z j = n) ∧ i = .int .i64 k ∧ Below w.heap.size w wr) (fun i _ => m - (intOf i).toNat)
  case atStart => exact ⟨0, Nat.zero_le _, fun j hj => by omega, rfl, Below.refl _ _⟩
  case round =>
    obtain ⟨k, hk, hq, rfl, hb⟩ := hrel
    have HB := Lib.hid hb
    have HQ := Lib.hid hq
    clear hb hq
    by_cases hkn : k < m
    · obtain ⟨g, off, rfl, hc⟩ := HX.out k hkn
      have hc1 := cell_later HB.out hc
      have i1 : (k : Int) < (m : Int) := by omega
      have HKN := Lib.hid hkn
      clear hc hkn
      by_cases hz : Z k = n
      · have hb : b = true := HR.out true ⟨fun _ => ⟨k, HKN.out, hz⟩, fun _ => rfl⟩
        have HBB := Lib.hid hb
        clear hb
        go_wp2
        go_ret
        exact ⟨by rw [HBB.out]; rfl, HB.out⟩
      · have hn := HN.out
        have hkn := HKN.out
        unfold maxLen at hn
        go_wp2
        refine ⟨⟨k + 1, by omega, ?_, by go_num, HB.out⟩, by simp [intOf]; omega⟩
        intro j hj
        rcases Nat.lt_succ_iff_lt_or_eq.1 hj with h | rfl
        · exact HQ.out j h
        · exact hz
    · obtain rfl : k = m := by omega
      have hb : b = false := HR.out false ⟨(fun h => by cases h), fun ⟨j, hj, hz⟩ => absurd hz (HQ.out j hj)⟩
      have HBB := Lib.hid hb
      clear hb
      go_wp2
      go_ret
      exact ⟨by rw [HBB.out]; rfl, HB.out⟩

theorem place_any (v : Value) (zs : List Int) (i : Nat) (w : World) (hv : InI w v zs) :
    Calls Try.prog 22 #[v, .int .i64 (i : Int)] w fun e w' => e = .returned (.int .i64 (zs.getD i 0)) ∧ w = w' := by
  obtain ⟨a, c, rfl, _, hx⟩ := hv.open_
  by_cases h : i < zs.length
  · obtain ⟨g, off, rfl, hc⟩ := hx i h
    have i1 : (i : Int) < (zs.length : Int) := by omega
    clear hx hv h
    generalize zs.getD i 0 = z at *
    generalize zs.length = n at *
    go_enter Try.func22, Try.ntmps22
    go_wp2
    go_ret
    exact ⟨rfl, rfl⟩
  · have i1 : (zs.length : Int) ≤ (i : Int) := by omega
    rw [show zs.getD i 0 = 0 from by simp [List.getElem?_eq_none (show zs.length ≤ i by omega)]]
    clear hx hv h
    generalize zs.length = n at *
    go_enter Try.func22, Try.ntmps22
    go_wp2
    go_ret
    exact ⟨rfl, rfl⟩

theorem at_any (v : Value) (zs : List Int) (i : Nat) (w : World) (hv : InI w v zs) :
    Calls Try.prog 21 #[v, .int .i64 (i : Int)] w fun e w' => e = .returned (.int .i64 (zs.getD i 0)) ∧ w = w' := by
  obtain ⟨a, c, rfl, _, hx⟩ := hv.open_
  by_cases h : i < zs.length
  · obtain ⟨g, off, rfl, hc⟩ := hx i h
    have i1 : (i : Int) < (zs.length : Int) := by omega
    clear hx hv h
    generalize zs.getD i 0 = z at *
    generalize zs.length = n at *
    go_enter Try.func21, Try.ntmps21
    go_wp2
    go_ret
    exact ⟨rfl, rfl⟩
  · have i1 : (zs.length : Int) ≤ (i : Int) := by omega
    rw [show zs.getD i 0 = 0 from by simp [List.getElem?_eq_none (show zs.length ≤ i by omega)]]
    clear hx hv h
    generalize zs.length = n at *
    go_enter Try.func21, Try.ntmps21
    go_wp2
    go_ret
    exact ⟨rfl, rfl⟩

/-! ### in which blocks two images differ -/
def diffTo (Z Z' : Nat → Int) (k : Nat) : List Int := ((List.range k).filter fun i => Z i != Z' i).map fun i : Nat => (i : Int)
theorem diffTo_eq (Z Z' : Nat → Int) (k : Nat) (h : Z k = Z' k) : diffTo Z Z' (k + 1) = diffTo Z Z' k := by
  unfold diffTo
  rw [List.range_succ, List.filter_append]
  simp [h]
theorem diffTo_ne (Z Z' : Nat → Int) (k : Nat) (h : ¬ Z k = Z' k) : diffTo Z Z' (k + 1) = diffTo Z Z' k ++ [(k : Int)] := by
  unfold diffTo
  rw [List.range_succ, List.filter_append]
  simp [h]
theorem diffTo_length (Z Z' : Nat → Int) (k : Nat) : (diffTo Z Z' k).length ≤ k := by
  unfold diffTo
  rw [List.length_map]
  exact Nat.le_trans (List.length_filter_le _ _) (by simp)
def diffOf (zs zs' : List Int) : List Int := diffTo (fun j => zs.getD j 0) (fun j => zs'.getD j 0) (max zs.length zs'.length)
end Go.Proofs.Ytmljeifooamlcaa
