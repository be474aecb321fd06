/-
  THE REFERENCE's LISTS, SETTLED (printed by wip/gen-tells4.py).
-/
import Derived.Test.YteplcpiamocclaaTells3
namespace Go.Proofs.Yteplcpiamocclaa
open Go.RowKit Reg Go.ChangeShapes

theorem badL_up {es : List El} {i k : Nat} (hk : k + 1 < (nth es i).list.length) (h : upG (gth (nth es i).list k) (gth (nth es i).list (k + 1)) = false) : badL es i = true := by
  unfold badL
  rw [risesB_false (Nat.succ_pos k) hk h]
  rfl
theorem badL_in {es : List El} {i k : Nat} (hk : k < (nth es i).list.length) (h1 : comm (nth es i).list (kn es) ≤ k) (h2 : decide (gth (nth es i).list k ∈ kn es) = true) : badL es i = true := by
  unfold badL
  rw [Bool.or_eq_true]
  refine .inr ?_
  unfold anyIn
  rw [List.any_eq_true]
  refine ⟨_, ?_, h2⟩
  rw [mem_iff_gth]
  refine ⟨k - comm (nth es i).list (kn es), by rw [List.length_drop]; omega, ?_⟩
  unfold gth
  simp only [List.getD_eq_getElem?_getD, List.getElem?_drop]
  congr 2
  omega
theorem badL_no {es : List El} {i : Nat} (h1 : ∀ k, k + 1 < (nth es i).list.length → upG (gth (nth es i).list k) (gth (nth es i).list (k + 1)) = true)
    (h2 : ∀ k, k < (nth es i).list.length → comm (nth es i).list (kn es) ≤ k → decide (gth (nth es i).list k ∈ kn es) = false) : badL es i = false := by
  unfold badL
  rw [risesB_true fun j hj hl => by
    obtain ⟨k, rfl⟩ : ∃ k, j = k + 1 := ⟨j - 1, by omega⟩
    exact h1 k hl]
  rw [Bool.not_true, Bool.false_or]
  unfold anyIn
  rw [List.any_eq_false]
  intro g hg
  obtain ⟨j, hj, rfl⟩ := mem_iff_gth.1 hg
  rw [List.length_drop] at hj
  have := h2 (comm (nth es i).list (kn es) + j) (by omega) (by omega)
  unfold gth at this ⊢
  simp only [List.getD_eq_getElem?_getD, List.getElem?_drop] at this ⊢
  simpa using this
set_option maxRecDepth 100000 in
set_option maxHeartbeats 3000000 in
theorem listsR_any (v : Value) (es : List El) (w : World) (hv : InS w v es) :
    Calls Try.prog 18 #[v] w fun e w' => e = .returned (.int .i64 (listsV es)) ∧ Below w.heap.size w w' := by
  have hkn := knownR_any v es w hv
  have heq := run_eq_guid
  obtain ⟨a', c', rfl, hm', hx'⟩ := hv.parts
  have hr1 := fun (k : Nat) (h1 : k < es.length) (h2 : ∀ j, j < k → ((nth es j).up && badL es j) = false) (h3 : ((nth es k).up && badL es k) = true) => fIx_some (p := fun j => (nth es j).up && badL es j) h1 h2 h3
  have hr2 := fun (h : ∀ j, j < es.length → ((nth es j).up && badL es j) = false) => fIx_none (p := fun j => (nth es j).up && badL es j) h
  have hb1 := fun (i k : Nat) (h1 : k + 1 < (nth es i).list.length) (h2 : upG (gth (nth es i).list k) (gth (nth es i).list (k + 1)) = false) => badL_up h1 h2
  have hb2 := fun (i k : Nat) (h1 : k < (nth es i).list.length) (h2 : comm (nth es i).list (kn es) ≤ k) (h3 : decide (gth (nth es i).list k ∈ kn es) = true) => badL_in h1 h2 h3
  have hb3 := fun (i : Nat) (h1 : ∀ k, k + 1 < (nth es i).list.length → upG (gth (nth es i).list k) (gth (nth es i).list (k + 1)) = true) (h2 : ∀ k, k < (nth es i).list.length → comm (nth es i).list (kn es) ≤ k → decide (gth (nth es i).list k ∈ kn es) = false) => badL_no h1 h2
  unfold listsV
  obtain ⟨res, hres⟩ : ∃ z, z = fIx es.length fun j => (nth es j).up && badL es j := ⟨_, rfl⟩
  rw [← hres] at hr1 hr2
  rw [← hres]
  generalize badL es = P at *
  obtain ⟨nn, hnn⟩ : ∃ z, z = es.length := ⟨_, rfl⟩
  rw [← hnn] at hx' hm' hr1 hr2 hkn
  rw [← hnn]
  obtain ⟨K, hK⟩ : ∃ z, z = kn es := ⟨_, rfl⟩
  rw [← hK] at hb2 hb3 hkn
  have HX' := Lib.hid hx'
  have HM := Lib.hid hm'
  have HR1 := Lib.hid hr1
  have HR2 := Lib.hid hr2
  have HB1 := Lib.hid hb1
  have HB2 := Lib.hid hb2
  have HB3 := Lib.hid hb3
  have HKF := Lib.hid hkn
  clear hx' hr1 hr2 hb1 hb2 hb3 hres hnn hv hm' hkn hK
  go_enter Try.func18, Try.ntmps18
  go_wp2_with fail
  refine HKF.out.mono ?_
  rintro e w0 ⟨u, rfl, hu, hb⟩
  obtain ⟨ua, uc, rfl⟩ := hu.slice_
  have HU := Lib.hid hu
  have HB0 := Lib.hid hb
  clear hu hb HKF
  go_wp2_with fail
  go_loopw [4] (fun t wr => ∃ i : Nat, i ≤ nn ∧ t = .int .i64 i ∧ Below w.heap.size w wr ∧ ∀ j, j < i → ((nth es j).up && P j) = false) (fun t _ => nn - (intOf t).toNat)
  case atStart => exact ⟨0, Nat.zero_le _, rfl, HB0.out, fun j hj => absurd hj (Nat.not_lt_zero j)⟩
  case round =>
    obtain ⟨i, hi, rfl, hb, hq⟩ := hrel
    have HB := Lib.hid hb
    have HP := Lib.hid hq
    clear hb hq
    by_cases hin : i < nn
    · have i1 : (i : Int) < (nn : Int) := by omega
      obtain ⟨⟨g, off, rfl, hs⟩, hok⟩ := HX'.out i hin
      have hb1 := HB1.out i
      have hb2 := HB2.out i
      have hb3 := HB3.out i
      have hr1 := HR1.out i hin HP.out
      obtain ⟨X, hX⟩ : ∃ z, z = nth es i := ⟨_, rfl⟩
      rw [← hX] at hs hok hb1 hb2 hb3 hr1
      obtain ⟨s0, s1, s2, s3, s4, s5, s6, s7, s8⟩ := hs.keep HB.out
      dsimp only [El.vs] at s6
      have HIN := Lib.hid hin
      have I9 := Lib.hid (show (i : Int) < 9223372036854775807 by have := HM.out; unfold maxLen at this; omega)
      have HXX := Lib.hid hX
      clear s1 s2 s3 s4 s5 s7 s8 hs hin hi hX
      cases hux : X.up with
      | false =>
        rw [hux] at s0
        have HBD := Lib.hid (show ((nth es i).up && P i) = false by rw [← HXX.out, hux, Bool.false_and])
        clear hok hb1 hb2 hb3 hr1
        have i9 := I9.out
        go_wp2
        have hin := HIN.out
        refine ⟨⟨i + 1, by omega, by go_num, HB.out, fun j hj => ?_⟩, by simp [intOf]; omega⟩
        rcases Nat.lt_succ_iff_lt_or_eq.1 hj with h | rfl
        · exact HP.out j h
        · exact HBD.out
      | true =>
        rw [hux] at s0
        have HUPX := Lib.hid (show (nth es i).up = true by rw [← HXX.out, hux])
        rw [hux, Bool.true_and] at hr1
        have hig : InG w (.slice X.sa X.list.length X.sc) X.list := hok.2.1
        obtain ⟨a2, c2, e2, -, hx2⟩ := hig.open_
        simp only [Value.slice.injEq] at e2
        obtain ⟨ea, -, -⟩ := e2
        rw [← ea] at hx2
        change ∀ j, j < X.list.length → ∃ g off, X.sa = some ⟨g, off, none⟩ ∧ w.cell? ⟨g, off + j * 2, none⟩ = some (.int .u64 (gth X.list j).1) ∧ w.cell? ⟨g, off + j * 2 + 1, none⟩ = some (.int .u64 (gth X.list j).2) at hx2
        obtain ⟨XA, hXA⟩ : ∃ z, z = X.sa := ⟨_, rfl⟩
        obtain ⟨XC, hXC⟩ : ∃ z, z = X.sc := ⟨_, rfl⟩
        obtain ⟨L, hL⟩ : ∃ z, z = X.list := ⟨_, rfl⟩
        rw [← hXA, ← hL] at hx2
        rw [← hXA, ← hL, ← hXC] at hig
        rw [← hXA, ← hL, ← hXC] at s6
        rw [← hL] at hb1 hb2 hb3
        obtain ⟨ln, hln⟩ : ∃ z, z = L.length := ⟨_, rfl⟩
        have hl63 : ln ≤ maxLen := by rw [hln]; exact hig.2.1
        rw [← hln] at hx2 hig s6 hb1 hb2 hb3
        obtain ⟨cm, hcm⟩ : ∃ z, z = comm L K := ⟨_, rfl⟩
        rw [← hcm] at hb2 hb3
        have HC := Lib.hid hcm
        have HX2 := Lib.hid hx2
        have HIG := Lib.hid hig
        have HLN := Lib.hid hl63
        have HB1 := Lib.hid hb1
        have HB2 := Lib.hid hb2
        have HB3 := Lib.hid hb3
        have HR := Lib.hid hr1
        clear hx2 hig hl63 hb1 hb2 hb3 hr1 hok ea hXA hXC hL hln hcm hux HX' HXX
        go_wp2_with fail
        go_loopw [6] (fun t wr => ∃ k : Nat, k ≤ ln ∧ t = .int .i64 k ∧ Below w.heap.size w wr ∧ (∀ j, j + 1 < k → upG (gth L j) (gth L (j + 1)) = true) ∧ ∀ j, j < k → cm ≤ j → decide (gth L j ∈ K) = false) (fun t _ => ln - (intOf t).toNat)
        case atStart => exact ⟨0, Nat.zero_le _, rfl, HB.out, fun j hj => absurd hj (Nat.not_lt_zero _), fun j hj => absurd hj (Nat.not_lt_zero j)⟩
        case round =>
          clear s0 s6 HB
          obtain ⟨k, hk, rfl, hb, hq1, hq2⟩ := hrel
          have HB := Lib.hid hb
          have HQ1 := Lib.hid hq1
          have HQ2 := Lib.hid hq2
          clear hb hq1 hq2
          by_cases hkl : k < ln
          · obtain ⟨g2, off2, et, hc, hd⟩ := HX2.out k hkl
            have hc0 := cell_later HB.out hc
            have hd0 := cell_later HB.out hd
            have i3 : (k : Int) < (ln : Int) := by omega
            have HKL := Lib.hid hkl
            have K9 := Lib.hid (show (k : Int) < 9223372036854775807 by have := HLN.out; unfold maxLen at this; omega)
            subst et
            obtain ⟨gk, hgk⟩ : ∃ z, z = gth L k := ⟨_, rfl⟩
            rw [← hgk] at hc hd hc0 hd0
            have HGK := Lib.hid hgk
            have HCD := Lib.hid (And.intro hc hd)
            clear hkl hk hgk hc hd
            rcases Nat.eq_zero_or_pos k with hk0 | hk0
            · have HUP := Lib.hid (show ∀ j, j + 1 < k + 1 → upG (gth L j) (gth L (j + 1)) = true from fun j hj => absurd hj (by omega))
              have d4 : decide (0 < k) = false := decide_eq_false (by omega)
              clear hk0
              go_wp2_with fail
              go_quiet (fail)
              have HB9 := Lib.hid (below_drewN HB.out nq)
              clear HB hc0 hd0 d4
              go_wp2_with fail
              refine (common27_any _ _ L K _ (HIG.out.keep HB9.out) (HU.out.keep HB9.out)).mono ?_
              rintro e w4 ⟨rfl, hb⟩
              rw [← HC.out]
              have HB4 := Lib.hid (HB9.out.trans (hb.mono HB9.out.size))
              have hc4 := cell_later HB4.out HCD.out.1
              have hd4 := cell_later HB4.out HCD.out.2
              clear hb HB9
              by_cases hck : cm ≤ k
              · have j1 : decide (cm ≤ k) = true := decide_eq_true hck
                have HCK := Lib.hid hck
                clear hck
                go_wp2_with fail
                refine (inR_any _ K gk _ (HU.out.keep HB4.out)).mono ?_
                rintro e w5 ⟨rfl, hb⟩
                have HB5 := Lib.hid (HB4.out.trans (hb.mono HB4.out.size))
                clear hb
                obtain ⟨b1, hb1⟩ : ∃ z, z = decide (gk ∈ K) := ⟨_, rfl⟩
                rw [← hb1]
                have HBN := Lib.hid (show decide (gth L k ∈ K) = b1 by rw [hb1, HGK.out])
                clear hb1
                cases b1 with
                | true =>
                  have HRR := Lib.hid (HR.out (HB2.out k HKL.out HCK.out HBN.out))
                  go_wp2
                  go_ret
                  exact ⟨by rw [HRR.out]; rfl, HB5.out⟩
                | false =>
                  clear hc4 hd4 j1 i3
                  have k9 := K9.out
                  go_wp2
                  have hkl := HKL.out
                  refine ⟨⟨k + 1, by omega, by go_num, HB5.out, HUP.out, fun j hj hcj => ?_⟩, by simp [intOf]; omega⟩
                  rcases Nat.lt_succ_iff_lt_or_eq.1 hj with h | rfl
                  · exact HQ2.out j h hcj
                  · exact HBN.out
              · have j1 : decide (cm ≤ k) = false := decide_eq_false hck
                have HCK := Lib.hid hck
                clear hck hc4 hd4 i3
                have k9 := K9.out
                go_wp2
                have hkl := HKL.out
                refine ⟨⟨k + 1, by omega, by go_num, HB4.out, HUP.out, fun j hj hcj => ?_⟩, by simp [intOf]; omega⟩
                rcases Nat.lt_succ_iff_lt_or_eq.1 hj with h | rfl
                · exact HQ2.out j h hcj
                · exact absurd hcj HCK.out
            · obtain ⟨k1, rfl⟩ : ∃ z, k = z + 1 := ⟨k - 1, by omega⟩
              obtain ⟨g3, off3, et, hc, hd⟩ := HX2.out k1 (by have := HKL.out; omega)
              simp only [Option.some.injEq, Addr.mk.injEq, and_true] at et
              obtain ⟨rfl, rfl⟩ := et
              have hc1 := cell_later HB.out hc
              have hd1 := cell_later HB.out hd
              obtain ⟨gj, hgj⟩ : ∃ z, z = gth L k1 := ⟨_, rfl⟩
              rw [← hgj] at hc1 hd1
              have d4 : decide (0 < k1 + 1) = true := decide_eq_true hk0
              have i5 : (k1 : Int) < (ln : Int) := by have := HKL.out; omega
              have hwk : wrap64 (((k1 + 1 : Nat) : Int) - 1) = (k1 : Int) := by
                have := K9.out
                rw [IntWalk.wrap64_in _ (by omega)]
                omega
              have hwk2 : IntKind.i64.wrap (((k1 + 1 : Nat) : Int) - 1) = (k1 : Int) := by
                have := K9.out
                rw [IntWalk.i64_in _ (by omega)]
                omega
              have HGJ := Lib.hid hgj
              clear hc hd hk0 hgj
              generalize hkk : k1 + 1 = k at *
              have HKK := Lib.hid hkk
              clear hkk
              obtain ⟨ea, eb⟩ := gk
              obtain ⟨fa, fb⟩ := gj
              simp only at hc0 hd0 hc1 hd1
              by_cases hE : fa < ea
              · have d5 : decide (ea > fa) = true := decide_eq_true hE
                have HUP := Lib.hid (show ∀ j, j + 1 < k + 1 → upG (gth L j) (gth L (j + 1)) = true from fun j hj => by
                  rcases Nat.lt_or_ge (j + 1) k with h | h
                  · exact HQ1.out j h
                  · obtain rfl : j = k1 := by have := HKK.out; omega
                    rw [HKK.out, ← HGJ.out, ← HGK.out]
                    exact (by unfold upG; rw [decide_eq_true_iff]; exact .inl hE))
                go_wp2_with fail
                go_quiet (fail)
                have HB9 := Lib.hid (below_drewN HB.out nq)
                clear HB hc0 hd0 hc1 hd1 hwk hwk2 d5 d4 i5
                go_wp2_with fail
                refine (common27_any _ _ L K _ (HIG.out.keep HB9.out) (HU.out.keep HB9.out)).mono ?_
                rintro e w4 ⟨rfl, hb⟩
                rw [← HC.out]
                have HB4 := Lib.hid (HB9.out.trans (hb.mono HB9.out.size))
                have hc4 := cell_later HB4.out HCD.out.1
                have hd4 := cell_later HB4.out HCD.out.2
                clear hb HB9
                by_cases hck : cm ≤ k
                · have j1 : decide (cm ≤ k) = true := decide_eq_true hck
                  have HCK := Lib.hid hck
                  clear hck
                  go_wp2_with fail
                  refine (inR_any _ K (ea, eb) _ (HU.out.keep HB4.out)).mono ?_
                  rintro e w5 ⟨rfl, hb⟩
                  have HB5 := Lib.hid (HB4.out.trans (hb.mono HB4.out.size))
                  clear hb
                  obtain ⟨b1, hb1⟩ : ∃ z, z = decide ((ea, eb) ∈ K) := ⟨_, rfl⟩
                  rw [← hb1]
                  have HBN := Lib.hid (show decide (gth L k ∈ K) = b1 by rw [hb1, HGK.out])
                  clear hb1
                  cases b1 with
                  | true =>
                    have HRR := Lib.hid (HR.out (HB2.out k HKL.out HCK.out HBN.out))
                    go_wp2
                    go_ret
                    exact ⟨by rw [HRR.out]; rfl, HB5.out⟩
                  | false =>
                    clear hc4 hd4 j1 i3
                    have k9 := K9.out
                    go_wp2
                    have hkl := HKL.out
                    refine ⟨⟨k + 1, by omega, by go_num, HB5.out, HUP.out, fun j hj hcj => ?_⟩, by simp [intOf]; omega⟩
                    rcases Nat.lt_succ_iff_lt_or_eq.1 hj with h | rfl
                    · exact HQ2.out j h hcj
                    · exact HBN.out
                · have j1 : decide (cm ≤ k) = false := decide_eq_false hck
                  have HCK := Lib.hid hck
                  clear hck hc4 hd4 i3
                  have k9 := K9.out
                  go_wp2
                  have hkl := HKL.out
                  refine ⟨⟨k + 1, by omega, by go_num, HB4.out, HUP.out, fun j hj hcj => ?_⟩, by simp [intOf]; omega⟩
                  rcases Nat.lt_succ_iff_lt_or_eq.1 hj with h | rfl
                  · exact HQ2.out j h hcj
                  · exact absurd hcj HCK.out
              · have d5 : decide (ea > fa) = false := decide_eq_false hE
                by_cases hEq : ea = fa
                · subst hEq
                  by_cases hF : fb < eb
                  · have d7 : decide (eb > fb) = true := decide_eq_true hF
                    have HUP := Lib.hid (show ∀ j, j + 1 < k + 1 → upG (gth L j) (gth L (j + 1)) = true from fun j hj => by
                      rcases Nat.lt_or_ge (j + 1) k with h | h
                      · exact HQ1.out j h
                      · obtain rfl : j = k1 := by have := HKK.out; omega
                        rw [HKK.out, ← HGJ.out, ← HGK.out]
                        exact (by unfold upG; rw [decide_eq_true_iff]; exact .inr ⟨rfl, hF⟩))
                    go_wp2_with fail
                    go_quiet (fail)
                    have HB9 := Lib.hid (below_drewN HB.out nq)
                    clear HB hc0 hd0 hc1 hd1 hwk hwk2 d5 d7 d4 i5
                    go_wp2_with fail
                    refine (common27_any _ _ L K _ (HIG.out.keep HB9.out) (HU.out.keep HB9.out)).mono ?_
                    rintro e w4 ⟨rfl, hb⟩
                    rw [← HC.out]
                    have HB4 := Lib.hid (HB9.out.trans (hb.mono HB9.out.size))
                    have hc4 := cell_later HB4.out HCD.out.1
                    have hd4 := cell_later HB4.out HCD.out.2
                    clear hb HB9
                    by_cases hck : cm ≤ k
                    · have j1 : decide (cm ≤ k) = true := decide_eq_true hck
                      have HCK := Lib.hid hck
                      clear hck
                      go_wp2_with fail
                      refine (inR_any _ K (ea, eb) _ (HU.out.keep HB4.out)).mono ?_
                      rintro e w5 ⟨rfl, hb⟩
                      have HB5 := Lib.hid (HB4.out.trans (hb.mono HB4.out.size))
                      clear hb
                      obtain ⟨b1, hb1⟩ : ∃ z, z = decide ((ea, eb) ∈ K) := ⟨_, rfl⟩
                      rw [← hb1]
                      have HBN := Lib.hid (show decide (gth L k ∈ K) = b1 by rw [hb1, HGK.out])
                      clear hb1
                      cases b1 with
                      | true =>
                        have HRR := Lib.hid (HR.out (HB2.out k HKL.out HCK.out HBN.out))
                        go_wp2
                        go_ret
                        exact ⟨by rw [HRR.out]; rfl, HB5.out⟩
                      | false =>
                        clear hc4 hd4 j1 i3
                        have k9 := K9.out
                        go_wp2
                        have hkl := HKL.out
                        refine ⟨⟨k + 1, by omega, by go_num, HB5.out, HUP.out, fun j hj hcj => ?_⟩, by simp [intOf]; omega⟩
                        rcases Nat.lt_succ_iff_lt_or_eq.1 hj with h | rfl
                        · exact HQ2.out j h hcj
                        · exact HBN.out
                    · have j1 : decide (cm ≤ k) = false := decide_eq_false hck
                      have HCK := Lib.hid hck
                      clear hck hc4 hd4 i3
                      have k9 := K9.out
                      go_wp2
                      have hkl := HKL.out
                      refine ⟨⟨k + 1, by omega, by go_num, HB4.out, HUP.out, fun j hj hcj => ?_⟩, by simp [intOf]; omega⟩
                      rcases Nat.lt_succ_iff_lt_or_eq.1 hj with h | rfl
                      · exact HQ2.out j h hcj
                      · exact absurd hcj HCK.out
                  · have d7 : decide (eb > fb) = false := decide_eq_false hF
                    have HNU := Lib.hid (show upG (gth L k1) (gth L k) = false by rw [← HGJ.out, ← HGK.out]; exact (by unfold upG; rw [decide_eq_false_iff_not]; rintro (h | ⟨_, h⟩) <;> omega))
                    go_wp2_with fail
                    go_quiet (fail)
                    have HB9 := Lib.hid (below_drewN HB.out nq)
                    have HRR := Lib.hid (HR.out (HB1.out k1 (by rw [HKK.out]; exact HKL.out) (by rw [HKK.out]; exact HNU.out)))
                    go_wp2
                    go_ret
                    exact ⟨by rw [HRR.out]; rfl, HB9.out⟩
                · have d6 : decide (ea = fa) = false := decide_eq_false hEq
                  have HNU := Lib.hid (show upG (gth L k1) (gth L k) = false by rw [← HGJ.out, ← HGK.out]; exact (by unfold upG; rw [decide_eq_false_iff_not]; rintro (h | ⟨h, _⟩) <;> omega))
                  go_wp2_with fail
                  go_quiet (fail)
                  have HB9 := Lib.hid (below_drewN HB.out nq)
                  have HRR := Lib.hid (HR.out (HB1.out k1 (by rw [HKK.out]; exact HKL.out) (by rw [HKK.out]; exact HNU.out)))
                  go_wp2
                  go_ret
                  exact ⟨by rw [HRR.out]; rfl, HB9.out⟩
          · obtain rfl : ln = k := by omega
            have HPI := Lib.hid (show ((nth es i).up && P i) = false by rw [HB3.out (fun j hj => HQ1.out j hj) (fun j hj => HQ2.out j hj), Bool.and_false])
            have i9 := I9.out
            clear hkl hk
            go_wp2
            have hin := HIN.out
            refine ⟨⟨i + 1, by omega, by go_num, HB.out, fun j hj => ?_⟩, by simp [intOf]; omega⟩
            rcases Nat.lt_succ_iff_lt_or_eq.1 hj with h | rfl
            · exact HP.out j h
            · exact HPI.out
    · obtain rfl : nn = i := by omega
      have HRR := Lib.hid (HR2.out HP.out)
      clear hin hi
      go_wp2
      go_ret
      exact ⟨by rw [HRR.out]; rfl, HB.out⟩
end Go.Proofs.Yteplcpiamocclaa
