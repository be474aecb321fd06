/-
  THE REFERENCE's LINE, TOLD, ONE (printed by wip/gen-tells2.py).
-/
import Derived.Test.YteplcpiamocclaaTells1
import Derived.Test.YteplcpiamocclaaLook13
namespace Go.Proofs.Yteplcpiamocclaa
open Go.RowKit Reg Go.ChangeShapes

def lineQ (b n : List El) (i k : Nat) : Bool := Go.Proofs.Yteplcpiamocclaa.apart (nth n i).line (if k < b.length then nth b k else nth n (k - b.length)).line
theorem lineP_yes {b n : List El} {i k : Nat} (h : k < b.length + n.length) (hq : lineQ b n i k = true) : lineP b n i = true := by
  unfold lineQ at hq
  unfold lineP
  rw [Bool.or_eq_true, List.any_eq_true, List.any_eq_true]
  by_cases hk : k < b.length
  · rw [if_pos hk] at hq
    exact .inl ⟨k, List.mem_range.2 hk, hq⟩
  · rw [if_neg hk] at hq
    exact .inr ⟨k - b.length, List.mem_range.2 (by omega), hq⟩
theorem lineP_no {b n : List El} {i : Nat} (h : ∀ k, k < b.length + n.length → lineQ b n i k = false) : lineP b n i = false := by
  unfold lineP
  rw [Bool.or_eq_false_iff, List.any_eq_false, List.any_eq_false]
  refine ⟨fun j hj => ?_, fun j hj => ?_⟩
  · rw [List.mem_range] at hj
    have := h j (by omega)
    unfold lineQ at this
    rw [if_pos hj] at this
    simp [this]
  · rw [List.mem_range] at hj
    have := h (b.length + j) (by omega)
    unfold lineQ at this
    rw [if_neg (by omega), Nat.add_sub_cancel_left] at this
    simp [this]
theorem lineQ_b {b n : List El} {i k : Nat} (h : k < b.length) : lineQ b n i k = (!begB (nth n i).line (nth b k).line && !begB (nth b k).line (nth n i).line) := by
  unfold lineQ
  rw [if_pos h]
  rfl
theorem lineQ_n {b n : List El} {i k : Nat} (h : ¬ k < b.length) : lineQ b n i k = (!begB (nth n i).line (nth n (k - b.length)).line && !begB (nth n (k - b.length)).line (nth n i).line) := by
  unfold lineQ
  rw [if_neg h]
  rfl
theorem InS.parts {w : World} {v : Value} {es : List El} (h : InS w v es) : ∃ a c, v = .slice a es.length c ∧ es.length ≤ maxLen ∧ ∀ j, j < es.length → (∃ g off, a = some ⟨g, off, none⟩ ∧ SeenAt w g (off + j * 9) (nth es j)) ∧ ElOK w (nth es j) := by
  obtain ⟨a, c, rfl, _, hm, hx⟩ := h
  exact ⟨a, c, rfl, hm, hx⟩
set_option maxRecDepth 100000 in
set_option maxHeartbeats 2000000 in
theorem lineR_any (vb v : Value) (before es : List El) (w : World) (hvb : InS w vb before) (hv : InS w v es) (hm : before.length ≤ 1000) (hm' : es.length ≤ 1000) :
    Calls Try.prog 17 #[vb, v] w fun e w' => e = .returned (.int .i64 (lineV before es)) ∧ Below w.heap.size w w' := by
  obtain ⟨a, c, rfl, -, hx⟩ := hvb.parts
  obtain ⟨a', c', rfl, -, hx'⟩ := hv.parts
  have hr1 := fun (k : Nat) (h1 : k < es.length) (h2 : ∀ j, j < k → lineP before es j = false) (h3 : lineP before es k = true) => fIx_some (p := lineP before es) h1 h2 h3
  have hr2 := fun (h : ∀ j, j < es.length → lineP before es j = false) => fIx_none (p := lineP before es) h
  have hy := fun (i k : Nat) (h : k < before.length + es.length) (hq : lineQ before es i k = true) => lineP_yes h hq
  have hno := fun (i : Nat) (h : ∀ k, k < before.length + es.length → lineQ before es i k = false) => lineP_no h
  have hqb := fun (i k : Nat) (h : k < before.length) => lineQ_b (n := es) (i := i) h
  have hqn := fun (i k : Nat) (h : ¬ k < before.length) => lineQ_n (n := es) (i := i) h
  unfold lineV
  obtain ⟨res, hres⟩ : ∃ z, z = fIx es.length (lineP before es) := ⟨_, rfl⟩
  rw [← hres] at hr1 hr2
  rw [← hres]
  generalize hP : lineP before es = P at *
  generalize hQ : lineQ before es = Q at *
  obtain ⟨nb, hnb⟩ : ∃ z, z = before.length := ⟨_, rfl⟩
  obtain ⟨nn, hnn⟩ : ∃ z, z = es.length := ⟨_, rfl⟩
  obtain ⟨nt, hnt⟩ : ∃ z, z = nb + nn := ⟨_, rfl⟩
  rw [← hnb] at hx hm hy hno hqb hqn
  rw [← hnn] at hx' hm' hy hno hr1 hr2
  rw [← hnt] at hy hno
  rw [← hnb, ← hnn]
  have HX := Lib.hid hx
  have HX' := Lib.hid hx'
  have HM := Lib.hid (And.intro hm hm')
  have HR1 := Lib.hid hr1
  have HR2 := Lib.hid hr2
  have HY := Lib.hid hy
  have HNO := Lib.hid hno
  have HQB := Lib.hid hqb
  have HQN := Lib.hid hqn
  have HNT := Lib.hid hnt
  have hwn : wrap64 ((nb : Int) + (nn : Int)) = (nt : Int) := by
    rw [IntWalk.wrap64_in _ (by omega)]
    omega
  clear hx hx' hr1 hr2 hy hno hqb hqn hres hP hQ hnb hnn hnt hvb hv hm hm'
  go_enter Try.func17, Try.ntmps17
  go_wp2_with fail
  go_loopw [5] (fun t wr => ∃ i : Nat, i ≤ nn ∧ t = .int .i64 i ∧ Below w.heap.size w wr ∧ ∀ j, j < i → P j = false) (fun t _ => nn - (intOf t).toNat)
  case atStart => exact ⟨0, Nat.zero_le _, rfl, Below.refl _ _, fun j hj => absurd hj (Nat.not_lt_zero j)⟩
  case round =>
    obtain ⟨i, hi, rfl, hb, hq⟩ := hrel
    have HB := Lib.hid hb
    have HP := Lib.hid hq
    clear hb hq
    by_cases hin : i < nn
    · obtain ⟨⟨g, off, rfl, hs⟩, hok⟩ := HX'.out i hin
      obtain ⟨s0, s1, s2, s3, s4, s5, s6, s7, s8⟩ := hs.keep HB.out
      dsimp only [El.vl] at s5
      have HOK := Lib.hid hok.1
      have HIN := Lib.hid hin
      have i1 : (i : Int) < (nn : Int) := by omega
      have I9 := Lib.hid (show (i : Int) < 9223372036854775807 by have := HM.out.2; omega)
      have HB0 := HB
      clear hs hok s0 s1 s2 s3 s4 s6 s7 s8 hin hi
      go_wp2_with fail
      go_loopw [7] (fun t wr => ∃ k : Nat, k ≤ nt ∧ t = .int .i64 k ∧ Below w.heap.size w wr ∧ ∀ j, j < k → Q i j = false) (fun t _ => nt - (intOf t).toNat)
      case atStart => exact ⟨0, Nat.zero_le _, rfl, HB.out, fun j hj => absurd hj (Nat.not_lt_zero j)⟩
      case round =>
        clear s5 HB
        obtain ⟨k, hk, rfl, hb, hq⟩ := hrel
        have HB := Lib.hid hb
        have HQ := Lib.hid hq
        clear hb hq
        by_cases hkn : k < nt
        · have HKN := Lib.hid hkn
          have i3 : (k : Int) < (nt : Int) := by omega
          have K9 := Lib.hid (show (k : Int) < 9223372036854775807 by have := HM.out; have := HNT.out; omega)
          by_cases hkb : k < nb
          · have hqq := HQB.out i k hkb
            obtain ⟨⟨g', off', rfl, hs⟩, hok⟩ := HX.out k hkb
            obtain ⟨s0, s1, s2, s3, s4, s5, s6, s7, s8⟩ := hs.keep HB.out
            dsimp only [El.vl] at s5
            have HOK2 := Lib.hid hok.1
            have i4 : (k : Int) < (nb : Int) := by omega
            clear hs hok s0 s1 s2 s3 s4 s6 s7 s8 hkb hkn hk
            obtain ⟨A, hA⟩ : ∃ z, z = (nth es i).line := ⟨_, rfl⟩
            obtain ⟨C, hC⟩ : ∃ z, z = (nth before k).line := ⟨_, rfl⟩
            have hin1 : InG w (.slice (nth es i).la A.length (nth es i).lc) A := by rw [hA]; exact HOK.out
            have hin2 : InG w (.slice (nth before k).la C.length (nth before k).lc) C := by rw [hC]; exact HOK2.out
            rw [← hA, ← hC] at hqq
            rw [← hC] at s5
            rw [← hA]
            have HI1 := Lib.hid (hin1.keep HB.out)
            have HI2 := Lib.hid (hin2.keep HB.out)
            clear hin1 hin2 hA hC
            go_wp2_with fail
            refine (beginsR_any _ _ A C _ HI1.out HI2.out).mono ?_
            rintro e w3 ⟨rfl, hb⟩
            have HB3 := Lib.hid (HB.out.trans (hb.mono HB.out.size))
            have HI1' := Lib.hid (HI1.out.keep hb)
            have HI2' := Lib.hid (HI2.out.keep hb)
            clear hb HI1 HI2
            obtain ⟨b1, hb1⟩ : ∃ z, z = begB A C := ⟨_, rfl⟩
            rw [← hb1] at hqq
            rw [← hb1]
            clear hb1
            cases b1 with
            | true =>
              have HQQ := Lib.hid (show Q i k = false from hqq)
              clear hqq
              have k9 := K9.out
              go_wp2
              have hkn := HKN.out
              refine ⟨⟨k + 1, by omega, by go_num, HB3.out, fun j hj => ?_⟩, by simp [intOf]; omega⟩
              rcases Nat.lt_succ_iff_lt_or_eq.1 hj with h | rfl
              · exact HQ.out j h
              · exact HQQ.out
            | false =>
              have HQQ := Lib.hid (show Q i k = !begB C A from by rw [hqq, Bool.not_false, Bool.true_and])
              clear hqq
              go_wp2_with fail
              refine (beginsR_any _ _ C A _ HI2'.out HI1'.out).mono ?_
              rintro e w4 ⟨rfl, hb⟩
              have HB4 := Lib.hid (HB3.out.trans (hb.mono HB3.out.size))
              clear hb HI1' HI2'
              obtain ⟨b2, hb2⟩ : ∃ z, z = begB C A := ⟨_, rfl⟩
              have HQQ := Lib.hid (show Q i k = !b2 by rw [hb2]; exact HQQ.out)
              rw [← hb2]
              clear hb2
              cases b2 with
              | true =>
                have k9 := K9.out
                go_wp2
                have hkn := HKN.out
                refine ⟨⟨k + 1, by omega, by go_num, HB4.out, fun j hj => ?_⟩, by simp [intOf]; omega⟩
                rcases Nat.lt_succ_iff_lt_or_eq.1 hj with h | rfl
                · exact HQ.out j h
                · exact HQQ.out
              | false =>
                have HRR := Lib.hid (HR1.out i HIN.out HP.out (HY.out i k HKN.out HQQ.out))
                go_wp2
                go_ret
                exact ⟨by rw [HRR.out]; rfl, HB4.out⟩
          · have hqq := HQN.out i k hkb
            obtain ⟨kd, hkd⟩ : ∃ z, z = k - nb := ⟨_, rfl⟩
            rw [← hkd] at hqq
            have hkdn : kd < nn := by have := HNT.out; omega
            have hwk : wrap64 ((k : Int) - (nb : Int)) = (kd : Int) := by
              have := HM.out
              have := HNT.out
              rw [IntWalk.wrap64_in _ (by omega)]
              omega
            obtain ⟨⟨g', off', e', hs⟩, hok⟩ := HX'.out kd hkdn
            simp only [Option.some.injEq, Addr.mk.injEq, and_true] at e'
            obtain ⟨rfl, rfl⟩ := e'
            obtain ⟨s0, s1, s2, s3, s4, s5, s6, s7, s8⟩ := hs.keep HB.out
            dsimp only [El.vl] at s5
            have HOK2 := Lib.hid hok.1
            have i4 : ¬ (k : Int) < (nb : Int) := by omega
            have i5 : (kd : Int) < (nn : Int) := by omega
            clear hs hok s0 s1 s2 s3 s4 s6 s7 s8 hkb hkn hk hkd hkdn
            obtain ⟨A, hA⟩ : ∃ z, z = (nth es i).line := ⟨_, rfl⟩
            obtain ⟨C, hC⟩ : ∃ z, z = (nth es kd).line := ⟨_, rfl⟩
            have hin1 : InG w (.slice (nth es i).la A.length (nth es i).lc) A := by rw [hA]; exact HOK.out
            have hin2 : InG w (.slice (nth es kd).la C.length (nth es kd).lc) C := by rw [hC]; exact HOK2.out
            rw [← hA, ← hC] at hqq
            rw [← hC] at s5
            rw [← hA]
            have HI1 := Lib.hid (hin1.keep HB.out)
            have HI2 := Lib.hid (hin2.keep HB.out)
            clear hin1 hin2 hA hC
            go_wp2_with fail
            refine (beginsR_any _ _ A C _ HI1.out HI2.out).mono ?_
            rintro e w3 ⟨rfl, hb⟩
            have HB3 := Lib.hid (HB.out.trans (hb.mono HB.out.size))
            have HI1' := Lib.hid (HI1.out.keep hb)
            have HI2' := Lib.hid (HI2.out.keep hb)
            clear hb HI1 HI2
            obtain ⟨b1, hb1⟩ : ∃ z, z = begB A C := ⟨_, rfl⟩
            rw [← hb1] at hqq
            rw [← hb1]
            clear hb1
            cases b1 with
            | true =>
              have HQQ := Lib.hid (show Q i k = false from hqq)
              clear hqq
              have k9 := K9.out
              go_wp2
              have hkn := HKN.out
              refine ⟨⟨k + 1, by omega, by go_num, HB3.out, fun j hj => ?_⟩, by simp [intOf]; omega⟩
              rcases Nat.lt_succ_iff_lt_or_eq.1 hj with h | rfl
              · exact HQ.out j h
              · exact HQQ.out
            | false =>
              have HQQ := Lib.hid (show Q i k = !begB C A from by rw [hqq, Bool.not_false, Bool.true_and])
              clear hqq
              go_wp2_with fail
              refine (beginsR_any _ _ C A _ HI2'.out HI1'.out).mono ?_
              rintro e w4 ⟨rfl, hb⟩
              have HB4 := Lib.hid (HB3.out.trans (hb.mono HB3.out.size))
              clear hb HI1' HI2'
              obtain ⟨b2, hb2⟩ : ∃ z, z = begB C A := ⟨_, rfl⟩
              have HQQ := Lib.hid (show Q i k = !b2 by rw [hb2]; exact HQQ.out)
              rw [← hb2]
              clear hb2
              cases b2 with
              | true =>
                have k9 := K9.out
                go_wp2
                have hkn := HKN.out
                refine ⟨⟨k + 1, by omega, by go_num, HB4.out, fun j hj => ?_⟩, by simp [intOf]; omega⟩
                rcases Nat.lt_succ_iff_lt_or_eq.1 hj with h | rfl
                · exact HQ.out j h
                · exact HQQ.out
              | false =>
                have HRR := Lib.hid (HR1.out i HIN.out HP.out (HY.out i k HKN.out HQQ.out))
                go_wp2
                go_ret
                exact ⟨by rw [HRR.out]; rfl, HB4.out⟩
        · obtain rfl : nt = k := by omega
          have HPI := Lib.hid (HNO.out i HQ.out)
          clear hkn hk
          have i9 := I9.out
          go_wp2
          have hin := HIN.out
          refine ⟨⟨i + 1, by omega, by go_num, HB.out, fun j hj => ?_⟩, by simp [intOf]; omega⟩
          rcases Nat.lt_succ_iff_lt_or_eq.1 hj with h | rfl
          · exact HP.out j h
          · exact HPI.out
    · obtain rfl : nn = i := by omega
      have HRR := Lib.hid (HR2.out HP.out)
      clear hin hi
      go_wp2
      go_ret
      exact ⟨by rw [HRR.out]; rfl, HB.out⟩
set_option maxRecDepth 100000 in
set_option maxHeartbeats 2000000 in
theorem toldR_any (v : Value) (es : List El) (w : World) (hv : InS w v es) :
    Calls Try.prog 21 #[v] w fun e w' => e = .returned (.int .i64 (toldV es)) ∧ Below w.heap.size w w' := by
  have hkn := fun w1 (hb : Below w.heap.size w w1) => knownR_any v es w1 (hv.keep hb)
  obtain ⟨a, c, rfl, hm, hx⟩ := hv.parts
  have hr1 := fun (k : Nat) (h1 : k < es.length) (h2 : ∀ j, j < k → anyOut (nth es j).told (kn es) = false) (h3 : anyOut (nth es k).told (kn es) = true) => fIx_some (p := fun i => anyOut (nth es i).told (kn es)) h1 h2 h3
  have hr2 := fun (h : ∀ j, j < es.length → anyOut (nth es j).told (kn es) = false) => fIx_none (p := fun i => anyOut (nth es i).told (kn es)) h
  have ho1 := fun (i k : Nat) (h1 : k < (nth es i).told.length) (h2 : decide (gth (nth es i).told k ∈ kn es) = false) => (show anyOut (nth es i).told (kn es) = true by
    unfold anyOut
    rw [List.any_eq_true]
    exact ⟨gth (nth es i).told k, mem_iff_gth.2 ⟨k, h1, rfl⟩, by rw [h2]; rfl⟩)
  have ho2 := fun (i : Nat) (h : ∀ k, k < (nth es i).told.length → decide (gth (nth es i).told k ∈ kn es) = true) => (show anyOut (nth es i).told (kn es) = false by
    unfold anyOut
    rw [List.any_eq_false]
    intro g hg
    obtain ⟨k, hk, rfl⟩ := mem_iff_gth.1 hg
    rw [h k hk]
    decide)
  unfold toldV
  obtain ⟨res, hres⟩ : ∃ z, z = fIx es.length fun i => anyOut (nth es i).told (kn es) := ⟨_, rfl⟩
  rw [← hres] at hr1 hr2
  rw [← hres]
  obtain ⟨nn, hnn⟩ : ∃ z, z = es.length := ⟨_, rfl⟩
  rw [← hnn] at hx hm hr1 hr2 hkn
  rw [← hnn]
  obtain ⟨KK, hKK⟩ : ∃ z, z = kn es := ⟨_, rfl⟩
  rw [← hKK] at hr1 hr2 hkn ho1 ho2
  have HX := Lib.hid hx
  have HM := Lib.hid hm
  have HR1 := Lib.hid hr1
  have HR2 := Lib.hid hr2
  have HO1 := Lib.hid ho1
  have HO2 := Lib.hid ho2
  have HKF := Lib.hid hkn
  clear hx hr1 hr2 ho1 ho2 hres hnn hv hm hkn hKK
  go_enter Try.func21, Try.ntmps21
  go_wp2_with fail
  refine (HKF.out w (Below.refl _ _)).mono ?_
  rintro e w0 ⟨u, rfl, hu, hb⟩
  obtain ⟨ua, uc, rfl⟩ := hu.slice_
  have HU := Lib.hid hu
  have HB0 := Lib.hid hb
  clear hu hb HKF
  go_wp2_with fail
  go_loopw [4] (fun t wr => ∃ i : Nat, i ≤ nn ∧ t = .int .i64 i ∧ Below w0.heap.size w0 wr ∧ ∀ j, j < i → anyOut (nth es j).told KK = false) (fun t _ => nn - (intOf t).toNat)
  case atStart => exact ⟨0, Nat.zero_le _, rfl, Below.refl _ _, fun j hj => absurd hj (Nat.not_lt_zero j)⟩
  case round =>
    obtain ⟨i, hi, rfl, hb, hq⟩ := hrel
    have HB := Lib.hid hb
    have HP := Lib.hid hq
    clear hb hq
    by_cases hin : i < nn
    · obtain ⟨⟨g, off, rfl, hs⟩, hok⟩ := HX.out i hin
      have HOK := Lib.hid hok.2.2
      have HS := Lib.hid hs
      have HIN := Lib.hid hin
      have i1 : (i : Int) < (nn : Int) := by omega
      have i9 : (i : Int) < 9223372036854775807 := by have := HM.out; unfold maxLen at this; omega
      obtain ⟨A, hA⟩ : ∃ z, z = (nth es i).told := ⟨_, rfl⟩
      have HA := Lib.hid hA
      clear hs hok hin hi hA
      go_wp2_with fail
      go_loopw [5] (fun t wr => ∃ k : Nat, k ≤ A.length ∧ t = .int .i64 k ∧ Below w0.heap.size w0 wr ∧ ∀ j, j < k → decide (gth A j ∈ KK) = true) (fun t _ => A.length - (intOf t).toNat)
      case atStart => exact ⟨0, Nat.zero_le _, rfl, HB.out, fun j hj => absurd hj (Nat.not_lt_zero j)⟩
      case round =>
        clear HB
        obtain ⟨k, hk, rfl, hb, hq⟩ := hrel
        have HB := Lib.hid hb
        have HQ := Lib.hid hq
        clear hb hq
        have hbw := HB0.out.trans (HB.out.mono HB0.out.size)
        obtain ⟨s0, s1, s2, s3, s4, s5, s6, s7, s8⟩ := HS.out.keep hbw
        dsimp only [El.vt] at s7
        have hig : InG wr (.slice (nth es i).ta (nth es i).told.length (nth es i).tc) (nth es i).told := HOK.out.keep hbw
        rw [← HA.out] at s7 hig
        obtain ⟨a2, c2, e2, -, hx2⟩ := hig.open_
        simp only [Value.slice.injEq] at e2
        obtain ⟨ea, -, -⟩ := e2
        rw [← ea] at hx2
        have HBW := Lib.hid hbw
        clear s0 s1 s2 s3 s4 s5 s6 s8 hbw hig ea
        by_cases hkn : k < A.length
        · obtain ⟨g2, off2, et, hc, hd⟩ := hx2 k hkn
          change wr.cell? ⟨g2, off2 + k * 2, none⟩ = some (.int .u64 (gth A k).1) at hc
          change wr.cell? ⟨g2, off2 + k * 2 + 1, none⟩ = some (.int .u64 (gth A k).2) at hd
          have HKN := Lib.hid hkn
          have i3 : (k : Int) < (A.length : Int) := by omega
          have k9 : (k : Int) < 9223372036854775807 := by
            have := HOK.out.2.1
            rw [← HA.out] at this
            unfold maxLen at this
            omega
          rw [et] at s7
          obtain ⟨tc, htc⟩ : ∃ z, z = (nth es i).tc := ⟨_, rfl⟩
          rw [← htc] at s7
          obtain ⟨nA, hnA⟩ : ∃ z, z = A.length := ⟨_, rfl⟩
          rw [← hnA] at s7 i3
          have HNA := Lib.hid hnA
          obtain ⟨gk, hgk⟩ : ∃ z, z = gth A k := ⟨_, rfl⟩
          rw [← hgk] at hc hd
          have HGK := Lib.hid hgk
          clear hx2 hkn hk et htc hnA hgk
          go_wp2_with fail
          refine (inR_any _ KK gk _ (HU.out.keep HBW.out)).mono ?_
          rintro e w3 ⟨rfl, hb⟩
          have HB3 := Lib.hid (HB.out.trans (hb.mono HB.out.size))
          clear hb
          obtain ⟨b1, hb1⟩ : ∃ z, z = decide (gk ∈ KK) := ⟨_, rfl⟩
          rw [← hb1]
          have HB1 := Lib.hid (show decide (gth A k ∈ KK) = b1 by rw [hb1, HGK.out])
          clear hb1
          cases b1 with
          | true =>
            go_wp2
            have hkn := HKN.out
            refine ⟨⟨k + 1, by omega, by go_num, HB3.out, fun j hj => ?_⟩, by simp [intOf]; omega⟩
            rcases Nat.lt_succ_iff_lt_or_eq.1 hj with h | rfl
            · exact HQ.out j h
            · exact HB1.out
          | false =>
            have HRR := Lib.hid (HR1.out i HIN.out HP.out (HO1.out i k (by rw [← HA.out]; exact HKN.out) (by rw [← HA.out]; exact HB1.out)))
            go_wp2
            go_ret
            exact ⟨by rw [HRR.out]; rfl, HB0.out.trans (HB3.out.mono HB0.out.size)⟩
        · have hke : k = A.length := by omega
          subst hke
          have HPI := Lib.hid (HO2.out i (by rw [← HA.out]; exact HQ.out))
          obtain ⟨nA, hnA⟩ : ∃ z, z = A.length := ⟨_, rfl⟩
          rw [← hnA] at s7
          rw [← hnA]
          clear hx2 hkn hk hnA
          go_wp2
          have hin := HIN.out
          refine ⟨⟨i + 1, by omega, by go_num, HB.out, fun j hj => ?_⟩, by simp [intOf]; omega⟩
          rcases Nat.lt_succ_iff_lt_or_eq.1 hj with h | rfl
          · exact HP.out j h
          · exact HPI.out
    · obtain rfl : nn = i := by omega
      have HRR := Lib.hid (HR2.out HP.out)
      clear hin hi
      go_wp2
      go_ret
      exact ⟨by rw [HRR.out]; rfl, HB0.out.trans (HB.out.mono HB0.out.size)⟩
theorem primsN_succ (es : List El) (k : Nat) : cntP es (ups es (k + 1)) = cntP es (ups es k) + (if ((nth es k).up && (nth es k).prim) = true then 1 else 0) := by
  rw [ups_succ]
  by_cases hu : (nth es k).up = true
  · rw [if_pos hu, cntP_snoc, hu, Bool.true_and]
    split <;> rfl
  · rw [if_neg hu]
    simp [hu]
theorem primsN_le (es : List El) (k : Nat) : cntP es (ups es k) ≤ k := by
  induction k with
  | zero => exact Nat.le_of_eq rfl
  | succ k ih =>
    rw [primsN_succ]
    split <;> omega
set_option maxRecDepth 100000 in
set_option maxHeartbeats 2000000 in
theorem oneR_any (v : Value) (es : List El) (w : World) (hv : InS w v es) :
    Calls Try.prog 22 #[v] w fun e w' => e = .returned (.bool (decide (prims es ≤ 1))) ∧ Below w.heap.size w w' := by
  obtain ⟨a, c, rfl, hm, hx⟩ := hv.parts
  have hr : decide (prims es ≤ 1) = decide ((prims es : Int) ≤ 1) := by simp only [decide_eq_decide]; omega
  rw [hr]
  unfold prims
  obtain ⟨nn, hnn⟩ : ∃ z, z = es.length := ⟨_, rfl⟩
  rw [← hnn] at hx hm
  rw [← hnn]
  have HX := Lib.hid hx
  have HM := Lib.hid hm
  clear hx hnn hv hm hr
  go_enter Try.func22, Try.ntmps22
  go_wp2_with fail
  go_loopw [3, 4] (fun s t wr => ∃ i : Nat, i ≤ nn ∧ s = .int .i64 ((cntP es (ups es i) : Nat) : Int) ∧ t = .int .i64 i ∧ w = wr) (fun _ t _ => nn - (intOf t).toNat)
  case atStart => exact ⟨0, Nat.zero_le _, rfl, rfl, rfl⟩
  case round =>
    obtain ⟨i, hi, rfl, rfl, rfl⟩ := hrel
    have hsu := primsN_succ es i
    have hle := primsN_le es i
    obtain ⟨C, hC⟩ : ∃ z, z = cntP es (ups es i) := ⟨_, rfl⟩
    rw [← hC] at hsu hle
    rw [← hC]
    by_cases hin : i < nn
    · obtain ⟨⟨g, off, rfl, hs⟩, hok⟩ := HX.out i hin
      obtain ⟨s0, s1, s2, s3, s4, s5, s6, s7, s8⟩ := hs
      have HIN := Lib.hid hin
      have i1 : (i : Int) < (nn : Int) := by omega
      have i9 : (i : Int) < 9223372036854775807 := by have := HM.out; unfold maxLen at this; omega
      have c9 : (C : Int) < 9223372036854775807 := by omega
      obtain ⟨x, hx⟩ : ∃ z, z = nth es i := ⟨_, rfl⟩
      rw [← hx] at s0 s1 hsu
      clear s2 s3 s4 s5 s6 s7 s8 hok hin hi hx hle hC
      cases hu : x.up with
      | false =>
        rw [hu] at s0 hsu
        have HSU := Lib.hid (show cntP es (ups es (i + 1)) = C from hsu)
        clear hsu c9
        go_wp2
        have hin := HIN.out
        refine ⟨⟨i + 1, by omega, by rw [HSU.out], by go_num, by trivial⟩, by simp [intOf]; omega⟩
      | true =>
        rw [hu] at s0 hsu
        cases hp : x.prim with
        | false =>
          rw [hp] at s1 hsu
          have HSU := Lib.hid (show cntP es (ups es (i + 1)) = C from hsu)
          clear hsu c9
          go_wp2
          have hin := HIN.out
          refine ⟨⟨i + 1, by omega, by rw [HSU.out], by go_num, by trivial⟩, by simp [intOf]; omega⟩
        | true =>
          rw [hp] at s1 hsu
          have HSU := Lib.hid (show cntP es (ups es (i + 1)) = C + 1 from hsu)
          clear hsu
          go_wp2
          have hin := HIN.out
          refine ⟨⟨i + 1, by omega, by rw [HSU.out]; go_num, by go_num, by trivial⟩, by simp [intOf]; omega⟩
    · obtain rfl : nn = i := by omega
      have HC := Lib.hid hC
      clear hin hi hsu hle hC
      go_wp2
      go_ret
      exact ⟨by rw [← HC.out]; rfl, Below.refl _ _⟩
end Go.Proofs.Yteplcpiamocclaa
