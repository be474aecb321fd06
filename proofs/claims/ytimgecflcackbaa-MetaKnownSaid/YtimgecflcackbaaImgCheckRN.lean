/-
  WHETHER AN IMAGE MAY BE, the reference's way.
-/
import Derived.Test.YtimgecflcackbaaImgCheckN
namespace Go.Proofs.Ytimgecflcackbaa
open Go.RowKit Reg

theorem dupAt_false {Z : Nat → Int} {k : Nat} (h : ∀ j, j < k → ¬ (Z k ≠ 0 ∧ Z k = Z j)) : dupAt Z k = false := by
  unfold dupAt
  by_cases hz : Z k = 0
  · simp [hz]
  · rw [Bool.and_eq_false_iff]
    right
    rw [List.any_eq_false]
    intro j hj
    rw [List.mem_range] at hj
    have := h j hj
    simp only [beq_iff_eq]
    intro e
    exact this ⟨hz, e.symm⟩
theorem dupAt_true {Z : Nat → Int} {k j : Nat} (hj : j < k) (hz : Z k ≠ 0) (he : Z k = Z j) : dupAt Z k = true := by
  unfold dupAt
  rw [Bool.and_eq_true, bne_iff_ne, List.any_eq_true]
  exact ⟨hz, j, List.mem_range.2 hj, beq_iff_eq.2 he.symm⟩
set_option maxRecDepth 100000 in
set_option maxHeartbeats 2000000 in
theorem checkR_any (v : Value) (zs : List Int) (blocks n : Int) (w : World) (hv : InI w v zs) :
    Calls Try.prog 43 #[v, .int .i64 blocks, .int .i64 n] w fun e w' => e = .returned (.int .i64 (chkOf zs blocks n)) ∧ Below w.heap.size w w' := by
  obtain ⟨a, c, rfl, -, hx⟩ := hv.open_
  by_cases hoff : blocks < 1 ∨ 8 < blocks ∨ ¬ (zs.length : Int) = blocks
  · rw [chk_off _ _ _ hoff]
    have hs : blocks < 1 ∨ (1 ≤ blocks ∧ 8 < blocks) ∨ (1 ≤ blocks ∧ blocks ≤ 8 ∧ ((zs.length : Int) != blocks) = true) := by
      rw [bne_iff_ne]; omega
    clear hv hx hoff
    generalize zs.length = m at *
    rcases hs with i1 | ⟨i1, i2⟩ | ⟨i1, i2, i3⟩
    all_goals
      go_enter Try.func43, Try.ntmps43
      go_wp2
      go_ret
      exact ⟨rfl, Below.refl _ _⟩
  · obtain rfl : (zs.length : Int) = blocks := by omega
    have h8 : zs.length ≤ 8 := by omega
    have h1 : 1 ≤ zs.length := by omega
    unfold chkOf
    generalize hZ : (fun j => zs.getD j 0) = Z at *
    have hg : ∀ k, zs.getD k 0 = Z k := fun k => by subst hZ; rfl
    simp only [hg] at hx
    clear hv hZ hg
    generalize zs.length = m at *
    have hres : ∀ r, r = (if badTo Z n m = true then 2 else if dupTo Z m = true then 16 else 0) → chkZ Z m (m : Int) n = r := by
      rintro r rfl
      unfold chkZ
      rw [if_neg (by omega)]
    generalize chkZ Z m (m : Int) n = res at *
    have HR := Lib.hid hres
    have HX := Lib.hid hx
    have i1 : (1 : Int) ≤ (m : Int) := by omega
    have i2 : (m : Int) ≤ (8 : Int) := by omega
    clear hres hx h8 h1 hoff
    have d1 : decide ((m : Int) < 1) = false := by simp; omega
    have d2 : decide ((8 : Int) < (m : Int)) = false := by simp; omega
    have d3 : decide (8 < m) = false := by simp; omega
    go_enter Try.func43, Try.ntmps43
    go_wp2
    go_loopw [7] (fun i wr => ∃ (k : Nat), k ≤ m ∧ badTo Z n k = false ∧ i = .int .i64 k ∧ w = wr) (fun i _ => m - (intOf i).toNat)
    case atStart => exact ⟨0, Nat.zero_le _, rfl, rfl, rfl⟩
    case round =>
      obtain ⟨k, hk, hbad, rfl, hw⟩ := hrel
      subst hw
      have HBAD := Lib.hid hbad
      clear hbad
      by_cases hkm : k < m
      · obtain ⟨g, off, rfl, hc1⟩ := HX.out k hkm
        have i3 : (k : Int) < (m : Int) := by omega
        have hbs := badTo_step Z n k
        rw [HBAD.out, Bool.false_or] at hbs
        by_cases hz : Z k = 0
        · have e2 : badTo Z n (k + 1) = false := by rw [hbs]; simp [badPl, hz]
          have E2 := Lib.hid e2
          clear hbs e2 hkm
          go_wp2
          refine ⟨⟨k + 1, by omega, E2.out, by go_num, trivial⟩, by simp [intOf]; omega⟩
        · cases hbp : badPl n (Z k) with
          | true =>
            have hr : res = 2 := HR.out 2 (by rw [if_pos (badTo_of hbp hkm)])
            have HRR := Lib.hid hr
            simp only [badPl, Bool.and_eq_true, bne_iff_ne, Bool.or_eq_true, decide_eq_true_eq] at hbp
            obtain ⟨-, hbp⟩ := hbp
            have hbq : Z k < 193 ∨ (193 ≤ Z k ∧ n ≤ Z k) := by omega
            have hz2 : (Z k != 0) = true := by simp [hz]
            clear hr hbs hbp hkm
            rcases hbq with j1 | ⟨j1, j2⟩
            all_goals
              go_wp2
              go_ret
              exact ⟨by rw [HRR.out]; rfl, Below.refl _ _⟩
          | false =>
            rw [hbp] at hbs
            have E2 := Lib.hid hbs
            simp only [badPl, Bool.and_eq_false_iff, bne_eq_false_iff_eq, Bool.or_eq_false_iff, decide_eq_false_iff_not] at hbp
            have hbq : 193 ≤ Z k ∧ Z k < n := by omega
            obtain ⟨j1, j2⟩ := hbq
            have hz2 : (Z k != 0) = true := by simp [hz]
            clear hbs hbp hkm
            go_wp2
            refine ⟨⟨k + 1, by omega, E2.out, by go_num, trivial⟩, by simp [intOf]; omega⟩
      · obtain rfl : k = m := by omega
        have hr := HR.out
        rw [HBAD.out] at hr
        simp only [Bool.false_eq_true, if_false] at hr
        have HR2 := Lib.hid hr
        clear hr HR HBAD hkm
        go_wp2_with fail
        go_loopw [8] (fun x wr => ∃ (i : Nat), i ≤ k ∧ dupTo Z i = false ∧ x = .int .i64 i ∧ Below w.heap.size w wr) (fun x _ => k - (intOf x).toNat)
        case atStart => exact ⟨0, Nat.zero_le _, rfl, rfl, Below.refl _ _⟩
        case round =>
          obtain ⟨i, hi, hdu, rfl, hb⟩ := hrel
          have HB := Lib.hid hb
          have HDU := Lib.hid hdu
          clear hb hdu
          by_cases hik : i < k
          · obtain ⟨g, off, rfl, hc⟩ := HX.out i hik
            have i3 : (i : Int) < (k : Int) := by omega
            have HIC := Lib.hid hc
            have HIK := Lib.hid hik
            have hds := dupTo_step Z i
            rw [HDU.out, Bool.false_or] at hds
            have HDS := Lib.hid hds
            clear hc hds
            go_wp2_with fail
            go_loopw [9] (fun y wr2 => ∃ (j : Nat), j ≤ i ∧ (∀ t, t < j → ¬ (Z i ≠ 0 ∧ Z i = Z t)) ∧ y = .int .i64 j ∧ Below w.heap.size w wr2) (fun y _ => i - (intOf y).toNat)
            case atStart => exact ⟨0, Nat.zero_le _, fun t ht => by omega, rfl, HB.out⟩
            case round =>
              clear HB
              obtain ⟨j, hj, hno, rfl, hb⟩ := hrel
              have HB := Lib.hid hb
              have HNO := Lib.hid hno
              clear hb hno
              by_cases hji : j < i
              · obtain ⟨g', off', hgg, hc⟩ := HX.out j (by omega)
                cases hgg
                have hc1 := cell_later HB.out HIC.out
                have hc2 := cell_later HB.out hc
                have i4 : (j : Int) < (i : Int) := by omega
                have i5 : (j : Int) < (k : Int) := by omega
                have HJI := Lib.hid hji
                clear hc
                by_cases hq : Z i ≠ 0 ∧ Z i = Z j
                · have hds := HDS.out
                  rw [dupAt_true hji hq.1 hq.2] at hds
                  have hr : res = 16 := HR2.out 16 (by rw [if_pos]; exact dupTo_of (dupAt_true hji hq.1 hq.2) HIK.out)
                  have HRR := Lib.hid hr
                  have z1 : (Z i != 0) = true := by simp [hq.1]
                  have z2 : (Z i == Z j) = true := by simp [hq.2]
                  clear hds hr hq
                  go_wp2_with fail
                  go_quiet (fail)
                  have HB1 := Lib.hid (below_drewN HB.out nq)
                  clear HB
                  go_wp2
                  go_ret
                  exact ⟨by rw [HRR.out]; rfl, HB1.out⟩
                · have hstep : ∀ t, t < j + 1 → ¬ (Z i ≠ 0 ∧ Z i = Z t) := by
                    intro t ht
                    rcases Nat.lt_succ_iff_lt_or_eq.1 ht with h | rfl
                    · exact HNO.out t h
                    · exact hq
                  have HST := Lib.hid hstep
                  have hz : Z i = 0 ∨ (¬ Z i = 0 ∧ ¬ Z i = Z j) := by
                    by_cases h : Z i = 0
                    · exact .inl h
                    · exact .inr ⟨h, fun e => hq ⟨h, e⟩⟩
                  clear hstep hq
                  rcases hz with hz | ⟨hz, hz2⟩
                  · have z1 : (Z i != 0) = false := by simp [hz]
                    clear hz
                    go_wp2_with fail
                    go_quiet (fail)
                    have HB1 := Lib.hid (below_drewN HB.out nq)
                    clear HB
                    go_wp2
                    refine ⟨⟨j + 1, by omega, HST.out, by go_num, HB1.out⟩, by simp [intOf]; omega⟩
                  · have z1 : (Z i != 0) = true := by simp [hz]
                    have z2 : (Z i == Z j) = false := by simp [hz2]
                    clear hz hz2
                    go_wp2_with fail
                    go_quiet (fail)
                    have HB1 := Lib.hid (below_drewN HB.out nq)
                    clear HB
                    go_wp2
                    refine ⟨⟨j + 1, by omega, HST.out, by go_num, HB1.out⟩, by simp [intOf]; omega⟩
              · obtain rfl : j = i := by omega
                have hds := HDS.out
                rw [dupAt_false HNO.out] at hds
                have HE := Lib.hid hds
                clear hds
                go_wp2
                refine ⟨⟨j + 1, by omega, HE.out, by go_num, HB.out⟩, by simp [intOf]; omega⟩
          · obtain rfl : i = k := by omega
            have hr := HR2.out
            rw [HDU.out] at hr
            have hr2 := hr _ rfl
            have HRR := Lib.hid hr2
            clear hr hr2
            go_wp2
            go_ret
            exact ⟨by rw [HRR.out]; rfl, HB.out⟩
end Go.Proofs.Ytimgecflcackbaa
