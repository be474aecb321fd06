/-
  THE REFERENCE's KEPT, LISTS, SETTLED (printed by wip/gen-tells3.py).
-/
import Derived.Test.YteplcpiamocclaaTells2
namespace Go.Proofs.Yteplcpiamocclaa
open Go.RowKit Reg Go.ChangeShapes

theorem badK_far {b n : List El} {j : Nat} (h : ¬ j < b.length) : badK b n j = false := by
  unfold badK
  rw [decide_eq_false h, Bool.false_and]
theorem badK_near {b n : List El} {j : Nat} (h : j < b.length) : badK b n j = ((nth b j).up && decide (comm (nth n j).list (kn n) < comm (nth b j).list (kn n))) := by
  unfold badK
  rw [decide_eq_true h, Bool.true_and]
set_option maxRecDepth 100000 in
set_option maxHeartbeats 2000000 in
theorem keptR_any (vb v : Value) (before es : List El) (w : World) (hvb : InS w vb before) (hv : InS w v es) :
    Calls Try.prog 19 #[vb, v] w fun e w' => e = .returned (.int .i64 (keptV before es)) ∧ Below w.heap.size w w' := by
  have hkn := knownR_any v es w hv
  obtain ⟨a, c, rfl, hm, hx⟩ := hvb.parts
  obtain ⟨a', c', rfl, hm', hx'⟩ := hv.parts
  have hr1 := fun (k : Nat) (h1 : k < es.length) (h2 : ∀ j, j < k → ((nth es j).up && badK before es j) = false) (h3 : ((nth es k).up && badK before es k) = true) => fIx_some (p := fun j => (nth es j).up && badK before es j) h1 h2 h3
  have hr2 := fun (h : ∀ j, j < es.length → ((nth es j).up && badK before es j) = false) => fIx_none (p := fun j => (nth es j).up && badK before es j) h
  have hbk := fun (j : Nat) (h : j < before.length) => badK_near (n := es) h
  have hbf := fun (j : Nat) (h : ¬ j < before.length) => badK_far (n := es) h
  unfold keptV
  obtain ⟨res, hres⟩ : ∃ z, z = fIx es.length fun j => (nth es j).up && badK before es j := ⟨_, rfl⟩
  rw [← hres] at hr1 hr2
  rw [← hres]
  generalize badK before es = P at *
  obtain ⟨nb, hnb⟩ : ∃ z, z = before.length := ⟨_, rfl⟩
  obtain ⟨nn, hnn⟩ : ∃ z, z = es.length := ⟨_, rfl⟩
  rw [← hnb] at hx hm hbk hbf
  rw [← hnn] at hx' hm' hr1 hr2 hkn
  rw [← hnb, ← hnn]
  obtain ⟨K, hK⟩ : ∃ z, z = kn es := ⟨_, rfl⟩
  rw [← hK] at hbk hkn
  have HX := Lib.hid hx
  have HX' := Lib.hid hx'
  have HM := Lib.hid (And.intro hm hm')
  have HR1 := Lib.hid hr1
  have HR2 := Lib.hid hr2
  have HBK := Lib.hid hbk
  have HBF := Lib.hid hbf
  have HKF := Lib.hid hkn
  clear hx hx' hr1 hr2 hbk hbf hres hnb hnn hvb hv hm hm' hkn hK
  go_enter Try.func19, Try.ntmps19
  go_wp2_with fail
  refine HKF.out.mono ?_
  rintro e w0 ⟨u, rfl, hu, hb⟩
  obtain ⟨ua, uc, rfl⟩ := hu.slice_
  have HU := Lib.hid hu
  have HB0 := Lib.hid hb
  clear hu hb HKF
  go_wp2_with fail
  go_loopw [6] (fun t wr => ∃ i : Nat, i ≤ nn ∧ i ≤ nb ∧ t = .int .i64 i ∧ Below w.heap.size w wr ∧ ∀ j, j < i → ((nth es j).up && P j) = false) (fun t _ => nn - (intOf t).toNat)
  case atStart => exact ⟨0, Nat.zero_le _, Nat.zero_le _, rfl, HB0.out, fun j hj => absurd hj (Nat.not_lt_zero j)⟩
  case round =>
    obtain ⟨i, hi, hi2, rfl, hb, hq⟩ := hrel
    have HB := Lib.hid hb
    have HP := Lib.hid hq
    clear hb hq
    by_cases hin : i < nn
    · have i1 : (i : Int) < (nn : Int) := by omega
      have d1 : decide ((i : Int) < (nn : Int)) = true := decide_eq_true i1
      by_cases hib : i < nb
      · obtain ⟨⟨g, off, rfl, hs⟩, hok⟩ := HX'.out i hin
        obtain ⟨⟨g2, off2, rfl, hs2⟩, hok2⟩ := HX.out i hib
        have hbk := HBK.out i hib
        obtain ⟨X, hX⟩ : ∃ z, z = nth es i := ⟨_, rfl⟩
        obtain ⟨Y, hY⟩ : ∃ z, z = nth before i := ⟨_, rfl⟩
        rw [← hX, ← hY] at hbk
        rw [← hX] at hs hok
        rw [← hY] at hs2 hok2
        have HXX := Lib.hid hX
        have HS := Lib.hid (hs.keep HB.out)
        have HS2 := Lib.hid (hs2.keep HB.out)
        have HOK := Lib.hid (hok.keep HB.out)
        have HOK2 := Lib.hid (hok2.keep HB.out)
        have HUW := Lib.hid (HU.out.keep HB.out)
        have HIN := Lib.hid (And.intro hin hib)
        have i2 : (i : Int) < (nb : Int) := by omega
        have d2 : decide ((i : Int) < (nb : Int)) = true := decide_eq_true i2
        have I9 := Lib.hid (show (i : Int) < 9223372036854775807 by have := HM.out.2; unfold maxLen at this; omega)
        clear hs hok hs2 hok2 hin hib hi hi2 hX hY
        go_wp2_with fail
        cases huy : Y.up with
        | false =>
          rw [huy, Bool.false_and] at hbk
          have HBD := Lib.hid (show ((nth es i).up && P i) = false by rw [hbk, Bool.and_false])
          have HUY := Lib.hid huy
          clear huy hbk
          refine wp_region_spec (fun _ => false) (kinds []) (CF wr (fun _ _ _ => True)) (by kernel_rfl) (by kernel_rfl) (kinds_inh _) CF.start ?_
          intro ν hν
          clear hν
          refine lex_plain (by rfl) rfl ?_
          apply Exists.intro
          refine ⟨fun σ w2 hA hD hC => ?_, ?_⟩
          · clear hA hD hC
            go_simp
            exact And.intro rfl rfl
          simp only [Act.put, List.setIfInBounds_toArray, List.set_cons_succ, List.set_cons_zero, Nat.reduceAdd]
          refine lex_plain (by rfl) rfl ?_
          apply Exists.intro
          refine ⟨fun σ w2 hA hD hC => ?_, ?_⟩
          · clear hA hD hC
            go_simp
            exact And.intro rfl rfl
          simp only [Act.put, List.setIfInBounds_toArray, List.set_cons_succ, List.set_cons_zero, Nat.reduceAdd]
          refine lex_plain (by rfl) rfl ?_
          apply Exists.intro
          refine ⟨fun σ w2 hA hD hC => ?_, ?_⟩
          · clear hA hD hC
            go_simp
            exact And.intro rfl rfl
          simp only [Act.put, List.setIfInBounds_toArray, List.set_cons_succ, List.set_cons_zero, Nat.reduceAdd]
          refine lex_plain (by rfl) rfl ?_
          apply Exists.intro
          refine ⟨fun σ w2 hA hD hC => ?_, ?_⟩
          · clear hA hD hC
            go_simp
            exact And.intro rfl rfl
          simp only [Act.put, List.setIfInBounds_toArray, List.set_cons_succ, List.set_cons_zero, Nat.reduceAdd]
          refine lex_plain (by rfl) rfl ?_
          apply Exists.intro
          refine ⟨fun σ w2 hA hD hC => ?_, ?_⟩
          · have hx := (HS2.out.keep hC.1).1
            rw [HUY.out] at hx
            clear hA hD hC
            go_simp
            exact And.intro rfl rfl
          simp only [Act.put, List.setIfInBounds_toArray, List.set_cons_succ, List.set_cons_zero, Nat.reduceAdd]
          refine lex_plain (by rfl) rfl ?_
          apply Exists.intro
          refine ⟨fun σ w2 hA hD hC => ?_, ?_⟩
          · clear hA hD hC
            go_simp
            exact And.intro rfl rfl
          simp only [Act.put, List.setIfInBounds_toArray, List.set_cons_succ, List.set_cons_zero, Nat.reduceAdd]
          refine lex_skip (by rfl) rfl ?_
          simp only [Act.put, List.setIfInBounds_toArray, List.set_cons_succ, List.set_cons_zero, Nat.reduceAdd]
          refine lex_skip (by rfl) rfl ?_
          simp only [Act.put, List.setIfInBounds_toArray, List.set_cons_succ, List.set_cons_zero, Nat.reduceAdd]
          refine lex_skip (by rfl) rfl ?_
          simp only [Act.put, List.setIfInBounds_toArray, List.set_cons_succ, List.set_cons_zero, Nat.reduceAdd]
          refine lex_skip (by rfl) rfl ?_
          simp only [Act.put, List.setIfInBounds_toArray, List.set_cons_succ, List.set_cons_zero, Nat.reduceAdd]
          refine lex_skip (by rfl) rfl ?_
          simp only [Act.put, List.setIfInBounds_toArray, List.set_cons_succ, List.set_cons_zero, Nat.reduceAdd]
          refine lex_plain (by rfl) rfl ?_
          apply Exists.intro
          refine ⟨fun σ w2 hA hD hC => ?_, ?_⟩
          · clear hA hD hC
            go_simp
            exact And.intro rfl rfl
          simp only [Act.put, List.setIfInBounds_toArray, List.set_cons_succ, List.set_cons_zero, Nat.reduceAdd]
          refine lex_plain (by rfl) rfl ?_
          apply Exists.intro
          refine ⟨fun σ w2 hA hD hC => ?_, ?_⟩
          · clear hA hD hC
            go_simp
            exact And.intro rfl rfl
          simp only [Act.put, List.setIfInBounds_toArray, List.set_cons_succ, List.set_cons_zero, Nat.reduceAdd]
          refine lex_skip (by rfl) rfl ?_
          simp only [Act.put, List.setIfInBounds_toArray, List.set_cons_succ, List.set_cons_zero, Nat.reduceAdd]
          refine lex_skip (by rfl) rfl ?_
          simp only [Act.put, List.setIfInBounds_toArray, List.set_cons_succ, List.set_cons_zero, Nat.reduceAdd]
          refine lex_skip (by rfl) rfl ?_
          simp only [Act.put, List.setIfInBounds_toArray, List.set_cons_succ, List.set_cons_zero, Nat.reduceAdd]
          refine lex_skip (by rfl) rfl ?_
          simp only [Act.put, List.setIfInBounds_toArray, List.set_cons_succ, List.set_cons_zero, Nat.reduceAdd]
          refine lex_skip (by rfl) rfl ?_
          simp only [Act.put, List.setIfInBounds_toArray, List.set_cons_succ, List.set_cons_zero, Nat.reduceAdd]
          refine lex_skip (by rfl) rfl ?_
          simp only [Act.put, List.setIfInBounds_toArray, List.set_cons_succ, List.set_cons_zero, Nat.reduceAdd]
          refine lex_skip (by rfl) rfl ?_
          simp only [Act.put, List.setIfInBounds_toArray, List.set_cons_succ, List.set_cons_zero, Nat.reduceAdd]
          refine lex_skip (by rfl) rfl ?_
          simp only [Act.put, List.setIfInBounds_toArray, List.set_cons_succ, List.set_cons_zero, Nat.reduceAdd]
          refine lex_skip (by rfl) rfl ?_
          simp only [Act.put, List.setIfInBounds_toArray, List.set_cons_succ, List.set_cons_zero, Nat.reduceAdd]
          refine lex_skip (by rfl) rfl ?_
          simp only [Act.put, List.setIfInBounds_toArray, List.set_cons_succ, List.set_cons_zero, Nat.reduceAdd]
          refine lex_skip (by rfl) rfl ?_
          simp only [Act.put, List.setIfInBounds_toArray, List.set_cons_succ, List.set_cons_zero, Nat.reduceAdd]
          refine lex_skip (by rfl) rfl ?_
          simp only [Act.put, List.setIfInBounds_toArray, List.set_cons_succ, List.set_cons_zero, Nat.reduceAdd]
          refine lex_skip (by rfl) rfl ?_
          simp only [Act.put, List.setIfInBounds_toArray, List.set_cons_succ, List.set_cons_zero, Nat.reduceAdd]
          refine lex_skip (by rfl) rfl ?_
          simp only [Act.put, List.setIfInBounds_toArray, List.set_cons_succ, List.set_cons_zero, Nat.reduceAdd]
          refine lex_skip (by rfl) rfl ?_
          simp only [Act.put, List.setIfInBounds_toArray, List.set_cons_succ, List.set_cons_zero, Nat.reduceAdd]
          refine lex_plain (by rfl) rfl ?_
          apply Exists.intro
          refine ⟨fun σ w2 hA hD hC => ?_, ?_⟩
          · clear hA hD hC
            go_simp
            exact And.intro rfl rfl
          simp only [Act.put, List.setIfInBounds_toArray, List.set_cons_succ, List.set_cons_zero, Nat.reduceAdd]
          refine lex_nil (fun σ w9 hA hall hC => ?_)
          have HB9 := Lib.hid (HB.out.trans (hC.1.mono HB.out.size))
          clear hA hall hC ν  σ
          have i9 := I9.out
          go_wp2
          have hin := HIN.out
          refine ⟨⟨i + 1, by omega, by omega, by go_num, HB9.out, fun j hj => ?_⟩, by simp [intOf]; omega⟩
          rcases Nat.lt_succ_iff_lt_or_eq.1 hj with h | rfl
          · exact HP.out j h
          · exact HBD.out
        | true =>
          have HUY := Lib.hid huy
          rw [huy, Bool.true_and] at hbk
          clear huy
          cases hux : X.up with
          | false =>
            have HBD := Lib.hid (show ((nth es i).up && P i) = false by rw [← HXX.out, hux, Bool.false_and])
            have HUX := Lib.hid hux
            clear hux hbk
            refine wp_region_spec (fun _ => false) (kinds []) (CF wr (fun _ _ _ => True)) (by kernel_rfl) (by kernel_rfl) (kinds_inh _) CF.start ?_
            intro ν hν
            clear hν
            refine lex_plain (by rfl) rfl ?_
            apply Exists.intro
            refine ⟨fun σ w2 hA hD hC => ?_, ?_⟩
            · clear hA hD hC
              go_simp
              exact And.intro rfl rfl
            simp only [Act.put, List.setIfInBounds_toArray, List.set_cons_succ, List.set_cons_zero, Nat.reduceAdd]
            refine lex_plain (by rfl) rfl ?_
            apply Exists.intro
            refine ⟨fun σ w2 hA hD hC => ?_, ?_⟩
            · clear hA hD hC
              go_simp
              exact And.intro rfl rfl
            simp only [Act.put, List.setIfInBounds_toArray, List.set_cons_succ, List.set_cons_zero, Nat.reduceAdd]
            refine lex_plain (by rfl) rfl ?_
            apply Exists.intro
            refine ⟨fun σ w2 hA hD hC => ?_, ?_⟩
            · clear hA hD hC
              go_simp
              exact And.intro rfl rfl
            simp only [Act.put, List.setIfInBounds_toArray, List.set_cons_succ, List.set_cons_zero, Nat.reduceAdd]
            refine lex_plain (by rfl) rfl ?_
            apply Exists.intro
            refine ⟨fun σ w2 hA hD hC => ?_, ?_⟩
            · clear hA hD hC
              go_simp
              exact And.intro rfl rfl
            simp only [Act.put, List.setIfInBounds_toArray, List.set_cons_succ, List.set_cons_zero, Nat.reduceAdd]
            refine lex_plain (by rfl) rfl ?_
            apply Exists.intro
            refine ⟨fun σ w2 hA hD hC => ?_, ?_⟩
            · have hx := (HS2.out.keep hC.1).1
              rw [HUY.out] at hx
              clear hA hD hC
              go_simp
              exact And.intro rfl rfl
            simp only [Act.put, List.setIfInBounds_toArray, List.set_cons_succ, List.set_cons_zero, Nat.reduceAdd]
            refine lex_plain (by rfl) rfl ?_
            apply Exists.intro
            refine ⟨fun σ w2 hA hD hC => ?_, ?_⟩
            · clear hA hD hC
              go_simp
              exact And.intro rfl rfl
            simp only [Act.put, List.setIfInBounds_toArray, List.set_cons_succ, List.set_cons_zero, Nat.reduceAdd]
            refine lex_plain (by rfl) rfl ?_
            apply Exists.intro
            refine ⟨fun σ w2 hA hD hC => ?_, ?_⟩
            · clear hA hD hC
              go_simp
              exact And.intro rfl rfl
            simp only [Act.put, List.setIfInBounds_toArray, List.set_cons_succ, List.set_cons_zero, Nat.reduceAdd]
            refine lex_plain (by rfl) rfl ?_
            apply Exists.intro
            refine ⟨fun σ w2 hA hD hC => ?_, ?_⟩
            · clear hA hD hC
              go_simp
              exact And.intro rfl rfl
            simp only [Act.put, List.setIfInBounds_toArray, List.set_cons_succ, List.set_cons_zero, Nat.reduceAdd]
            refine lex_plain (by rfl) rfl ?_
            apply Exists.intro
            refine ⟨fun σ w2 hA hD hC => ?_, ?_⟩
            · clear hA hD hC
              go_simp
              exact And.intro rfl rfl
            simp only [Act.put, List.setIfInBounds_toArray, List.set_cons_succ, List.set_cons_zero, Nat.reduceAdd]
            refine lex_plain (by rfl) rfl ?_
            apply Exists.intro
            refine ⟨fun σ w2 hA hD hC => ?_, ?_⟩
            · clear hA hD hC
              go_simp
              exact And.intro rfl rfl
            simp only [Act.put, List.setIfInBounds_toArray, List.set_cons_succ, List.set_cons_zero, Nat.reduceAdd]
            refine lex_plain (by rfl) rfl ?_
            apply Exists.intro
            refine ⟨fun σ w2 hA hD hC => ?_, ?_⟩
            · have hx := (HS.out.keep hC.1).1
              rw [HUX.out] at hx
              clear hA hD hC
              go_simp
              exact And.intro rfl rfl
            simp only [Act.put, List.setIfInBounds_toArray, List.set_cons_succ, List.set_cons_zero, Nat.reduceAdd]
            refine lex_plain (by rfl) rfl ?_
            apply Exists.intro
            refine ⟨fun σ w2 hA hD hC => ?_, ?_⟩
            · clear hA hD hC
              go_simp
              exact And.intro rfl rfl
            simp only [Act.put, List.setIfInBounds_toArray, List.set_cons_succ, List.set_cons_zero, Nat.reduceAdd]
            refine lex_plain (by rfl) rfl ?_
            apply Exists.intro
            refine ⟨fun σ w2 hA hD hC => ?_, ?_⟩
            · clear hA hD hC
              go_simp
              exact And.intro rfl rfl
            simp only [Act.put, List.setIfInBounds_toArray, List.set_cons_succ, List.set_cons_zero, Nat.reduceAdd]
            refine lex_skip (by rfl) rfl ?_
            simp only [Act.put, List.setIfInBounds_toArray, List.set_cons_succ, List.set_cons_zero, Nat.reduceAdd]
            refine lex_skip (by rfl) rfl ?_
            simp only [Act.put, List.setIfInBounds_toArray, List.set_cons_succ, List.set_cons_zero, Nat.reduceAdd]
            refine lex_skip (by rfl) rfl ?_
            simp only [Act.put, List.setIfInBounds_toArray, List.set_cons_succ, List.set_cons_zero, Nat.reduceAdd]
            refine lex_skip (by rfl) rfl ?_
            simp only [Act.put, List.setIfInBounds_toArray, List.set_cons_succ, List.set_cons_zero, Nat.reduceAdd]
            refine lex_skip (by rfl) rfl ?_
            simp only [Act.put, List.setIfInBounds_toArray, List.set_cons_succ, List.set_cons_zero, Nat.reduceAdd]
            refine lex_skip (by rfl) rfl ?_
            simp only [Act.put, List.setIfInBounds_toArray, List.set_cons_succ, List.set_cons_zero, Nat.reduceAdd]
            refine lex_skip (by rfl) rfl ?_
            simp only [Act.put, List.setIfInBounds_toArray, List.set_cons_succ, List.set_cons_zero, Nat.reduceAdd]
            refine lex_skip (by rfl) rfl ?_
            simp only [Act.put, List.setIfInBounds_toArray, List.set_cons_succ, List.set_cons_zero, Nat.reduceAdd]
            refine lex_skip (by rfl) rfl ?_
            simp only [Act.put, List.setIfInBounds_toArray, List.set_cons_succ, List.set_cons_zero, Nat.reduceAdd]
            refine lex_skip (by rfl) rfl ?_
            simp only [Act.put, List.setIfInBounds_toArray, List.set_cons_succ, List.set_cons_zero, Nat.reduceAdd]
            refine lex_skip (by rfl) rfl ?_
            simp only [Act.put, List.setIfInBounds_toArray, List.set_cons_succ, List.set_cons_zero, Nat.reduceAdd]
            refine lex_skip (by rfl) rfl ?_
            simp only [Act.put, List.setIfInBounds_toArray, List.set_cons_succ, List.set_cons_zero, Nat.reduceAdd]
            refine lex_skip (by rfl) rfl ?_
            simp only [Act.put, List.setIfInBounds_toArray, List.set_cons_succ, List.set_cons_zero, Nat.reduceAdd]
            refine lex_skip (by rfl) rfl ?_
            simp only [Act.put, List.setIfInBounds_toArray, List.set_cons_succ, List.set_cons_zero, Nat.reduceAdd]
            refine lex_skip (by rfl) rfl ?_
            simp only [Act.put, List.setIfInBounds_toArray, List.set_cons_succ, List.set_cons_zero, Nat.reduceAdd]
            refine lex_plain (by rfl) rfl ?_
            apply Exists.intro
            refine ⟨fun σ w2 hA hD hC => ?_, ?_⟩
            · clear hA hD hC
              go_simp
              exact And.intro rfl rfl
            simp only [Act.put, List.setIfInBounds_toArray, List.set_cons_succ, List.set_cons_zero, Nat.reduceAdd]
            refine lex_nil (fun σ w9 hA hall hC => ?_)
            have HB9 := Lib.hid (HB.out.trans (hC.1.mono HB.out.size))
            clear hA hall hC ν  σ
            have i9 := I9.out
            go_wp2
            have hin := HIN.out
            refine ⟨⟨i + 1, by omega, by omega, by go_num, HB9.out, fun j hj => ?_⟩, by simp [intOf]; omega⟩
            rcases Nat.lt_succ_iff_lt_or_eq.1 hj with h | rfl
            · exact HP.out j h
            · exact HBD.out
          | true =>
            obtain ⟨C1, hC1⟩ : ∃ z, z = comm X.list K := ⟨_, rfl⟩
            obtain ⟨C2, hC2⟩ : ∃ z, z = comm Y.list K := ⟨_, rfl⟩
            rw [← hC1, ← hC2] at hbk
            have HBD := Lib.hid (show ((nth es i).up && P i) = decide (C1 < C2) by rw [hbk, ← HXX.out, hux, Bool.true_and])
            have HUX := Lib.hid hux
            have HC1 := Lib.hid hC1
            have HC2 := Lib.hid hC2
            clear hux hbk hC1 hC2
            refine wp_region_spec (fun i => i == 19 || i == 26) (kinds [(19, .is (.int .i64 (C1 : Int))), (26, .is (.int .i64 (C2 : Int)))]) (CF wr (fun _ _ _ => True)) (by kernel_rfl) (by kernel_rfl) (kinds_inh _) CF.start ?_
            intro ν hν
            have n19 : ν 19 = .int .i64 (C1 : Int) := hν 19
            have n26 : ν 26 = .int .i64 (C2 : Int) := hν 26
            clear hν
            refine lex_plain (by rfl) rfl ?_
            apply Exists.intro
            refine ⟨fun σ w2 hA hD hC => ?_, ?_⟩
            · clear hA hD hC
              go_simp
              exact And.intro rfl rfl
            simp only [Act.put, List.setIfInBounds_toArray, List.set_cons_succ, List.set_cons_zero, Nat.reduceAdd]
            refine lex_plain (by rfl) rfl ?_
            apply Exists.intro
            refine ⟨fun σ w2 hA hD hC => ?_, ?_⟩
            · clear hA hD hC
              go_simp
              exact And.intro rfl rfl
            simp only [Act.put, List.setIfInBounds_toArray, List.set_cons_succ, List.set_cons_zero, Nat.reduceAdd]
            refine lex_plain (by rfl) rfl ?_
            apply Exists.intro
            refine ⟨fun σ w2 hA hD hC => ?_, ?_⟩
            · clear hA hD hC
              go_simp
              exact And.intro rfl rfl
            simp only [Act.put, List.setIfInBounds_toArray, List.set_cons_succ, List.set_cons_zero, Nat.reduceAdd]
            refine lex_plain (by rfl) rfl ?_
            apply Exists.intro
            refine ⟨fun σ w2 hA hD hC => ?_, ?_⟩
            · clear hA hD hC
              go_simp
              exact And.intro rfl rfl
            simp only [Act.put, List.setIfInBounds_toArray, List.set_cons_succ, List.set_cons_zero, Nat.reduceAdd]
            refine lex_plain (by rfl) rfl ?_
            apply Exists.intro
            refine ⟨fun σ w2 hA hD hC => ?_, ?_⟩
            · have hx := (HS2.out.keep hC.1).1
              rw [HUY.out] at hx
              clear hA hD hC
              go_simp
              exact And.intro rfl rfl
            simp only [Act.put, List.setIfInBounds_toArray, List.set_cons_succ, List.set_cons_zero, Nat.reduceAdd]
            refine lex_plain (by rfl) rfl ?_
            apply Exists.intro
            refine ⟨fun σ w2 hA hD hC => ?_, ?_⟩
            · clear hA hD hC
              go_simp
              exact And.intro rfl rfl
            simp only [Act.put, List.setIfInBounds_toArray, List.set_cons_succ, List.set_cons_zero, Nat.reduceAdd]
            refine lex_plain (by rfl) rfl ?_
            apply Exists.intro
            refine ⟨fun σ w2 hA hD hC => ?_, ?_⟩
            · clear hA hD hC
              go_simp
              exact And.intro rfl rfl
            simp only [Act.put, List.setIfInBounds_toArray, List.set_cons_succ, List.set_cons_zero, Nat.reduceAdd]
            refine lex_plain (by rfl) rfl ?_
            apply Exists.intro
            refine ⟨fun σ w2 hA hD hC => ?_, ?_⟩
            · clear hA hD hC
              go_simp
              exact And.intro rfl rfl
            simp only [Act.put, List.setIfInBounds_toArray, List.set_cons_succ, List.set_cons_zero, Nat.reduceAdd]
            refine lex_plain (by rfl) rfl ?_
            apply Exists.intro
            refine ⟨fun σ w2 hA hD hC => ?_, ?_⟩
            · clear hA hD hC
              go_simp
              exact And.intro rfl rfl
            simp only [Act.put, List.setIfInBounds_toArray, List.set_cons_succ, List.set_cons_zero, Nat.reduceAdd]
            refine lex_plain (by rfl) rfl ?_
            apply Exists.intro
            refine ⟨fun σ w2 hA hD hC => ?_, ?_⟩
            · clear hA hD hC
              go_simp
              exact And.intro rfl rfl
            simp only [Act.put, List.setIfInBounds_toArray, List.set_cons_succ, List.set_cons_zero, Nat.reduceAdd]
            refine lex_plain (by rfl) rfl ?_
            apply Exists.intro
            refine ⟨fun σ w2 hA hD hC => ?_, ?_⟩
            · have hx := (HS.out.keep hC.1).1
              rw [HUX.out] at hx
              clear hA hD hC
              go_simp
              exact And.intro rfl rfl
            simp only [Act.put, List.setIfInBounds_toArray, List.set_cons_succ, List.set_cons_zero, Nat.reduceAdd]
            refine lex_plain (by rfl) rfl ?_
            apply Exists.intro
            refine ⟨fun σ w2 hA hD hC => ?_, ?_⟩
            · clear hA hD hC
              go_simp
              exact And.intro rfl rfl
            simp only [Act.put, List.setIfInBounds_toArray, List.set_cons_succ, List.set_cons_zero, Nat.reduceAdd]
            refine lex_plain (by rfl) rfl ?_
            apply Exists.intro
            refine ⟨fun σ w2 hA hD hC => ?_, ?_⟩
            · clear hA hD hC
              go_simp
              exact And.intro rfl rfl
            simp only [Act.put, List.setIfInBounds_toArray, List.set_cons_succ, List.set_cons_zero, Nat.reduceAdd]
            refine lex_plain (by rfl) rfl ?_
            apply Exists.intro
            refine ⟨fun σ w2 hA hD hC => ?_, ?_⟩
            · clear hA hD hC
              go_simp
              exact And.intro rfl rfl
            simp only [Act.put, List.setIfInBounds_toArray, List.set_cons_succ, List.set_cons_zero, Nat.reduceAdd]
            refine lex_plain (by rfl) rfl ?_
            apply Exists.intro
            refine ⟨fun σ w2 hA hD hC => ?_, ?_⟩
            · clear hA hD hC
              go_simp
              exact And.intro rfl rfl
            simp only [Act.put, List.setIfInBounds_toArray, List.set_cons_succ, List.set_cons_zero, Nat.reduceAdd]
            refine lex_plain (by rfl) rfl ?_
            apply Exists.intro
            refine ⟨fun σ w2 hA hD hC => ?_, ?_⟩
            · clear hA hD hC
              go_simp
              exact And.intro rfl rfl
            simp only [Act.put, List.setIfInBounds_toArray, List.set_cons_succ, List.set_cons_zero, Nat.reduceAdd]
            refine lex_plain (by rfl) rfl ?_
            apply Exists.intro
            refine ⟨fun σ w2 hA hD hC => ?_, ?_⟩
            · clear hA hD hC
              go_simp
              exact And.intro rfl rfl
            simp only [Act.put, List.setIfInBounds_toArray, List.set_cons_succ, List.set_cons_zero, Nat.reduceAdd]
            refine lex_plain (by rfl) rfl ?_
            apply Exists.intro
            refine ⟨fun σ w2 hA hD hC => ?_, ?_⟩
            · obtain ⟨z0, z1, z2, z3, z4, z5, hx, z7, z8⟩ := HS.out.keep hC.1
              dsimp only [El.vs] at hx
              clear z0 z1 z2 z3 z4 z5 z7 z8
              clear hA hD hC
              go_simp
              exact And.intro rfl rfl
            simp only [Act.put, List.setIfInBounds_toArray, List.set_cons_succ, List.set_cons_zero, Nat.reduceAdd]
            refine lex_plain (by rfl) rfl ?_
            apply Exists.intro
            refine ⟨fun σ w2 hA hD hC => ?_, ?_⟩
            · clear hA hD hC
              go_simp
              exact And.intro rfl rfl
            simp only [Act.put, List.setIfInBounds_toArray, List.set_cons_succ, List.set_cons_zero, Nat.reduceAdd]
            refine lex_special (by rfl) rfl (fun σ w2 hA hD hn hC => ?_) ?_
            · go_simp
              refine call_ok (fun _ _ _ _ _ _ => trivial) hC ((common27_any _ _ X.list K w2 (HOK.out.2.1.keep hC.1) (HUW.out.keep hC.1)).mono ?_)
              rintro e' w' ⟨rfl, hb⟩
              exact ⟨_, rfl, (show Value.int .i64 _ = .int .i64 _ from by rw [HC1.out]), trivial, hb⟩
            rw [n19]
            simp only [Act.put, List.setIfInBounds_toArray, List.set_cons_succ, List.set_cons_zero, Nat.reduceAdd]
            refine lex_plain (by rfl) rfl ?_
            apply Exists.intro
            refine ⟨fun σ w2 hA hD hC => ?_, ?_⟩
            · clear hA hD hC
              go_simp
              exact And.intro rfl rfl
            simp only [Act.put, List.setIfInBounds_toArray, List.set_cons_succ, List.set_cons_zero, Nat.reduceAdd]
            refine lex_plain (by rfl) rfl ?_
            apply Exists.intro
            refine ⟨fun σ w2 hA hD hC => ?_, ?_⟩
            · clear hA hD hC
              go_simp
              exact And.intro rfl rfl
            simp only [Act.put, List.setIfInBounds_toArray, List.set_cons_succ, List.set_cons_zero, Nat.reduceAdd]
            refine lex_plain (by rfl) rfl ?_
            apply Exists.intro
            refine ⟨fun σ w2 hA hD hC => ?_, ?_⟩
            · clear hA hD hC
              go_simp
              exact And.intro rfl rfl
            simp only [Act.put, List.setIfInBounds_toArray, List.set_cons_succ, List.set_cons_zero, Nat.reduceAdd]
            refine lex_plain (by rfl) rfl ?_
            apply Exists.intro
            refine ⟨fun σ w2 hA hD hC => ?_, ?_⟩
            · clear hA hD hC
              go_simp
              exact And.intro rfl rfl
            simp only [Act.put, List.setIfInBounds_toArray, List.set_cons_succ, List.set_cons_zero, Nat.reduceAdd]
            refine lex_plain (by rfl) rfl ?_
            apply Exists.intro
            refine ⟨fun σ w2 hA hD hC => ?_, ?_⟩
            · obtain ⟨z0, z1, z2, z3, z4, z5, hx, z7, z8⟩ := HS2.out.keep hC.1
              dsimp only [El.vs] at hx
              clear z0 z1 z2 z3 z4 z5 z7 z8
              clear hA hD hC
              go_simp
              exact And.intro rfl rfl
            simp only [Act.put, List.setIfInBounds_toArray, List.set_cons_succ, List.set_cons_zero, Nat.reduceAdd]
            refine lex_plain (by rfl) rfl ?_
            apply Exists.intro
            refine ⟨fun σ w2 hA hD hC => ?_, ?_⟩
            · clear hA hD hC
              go_simp
              exact And.intro rfl rfl
            simp only [Act.put, List.setIfInBounds_toArray, List.set_cons_succ, List.set_cons_zero, Nat.reduceAdd]
            refine lex_special (by rfl) rfl (fun σ w2 hA hD hn hC => ?_) ?_
            · go_simp
              refine call_ok (fun _ _ _ _ _ _ => trivial) hC ((common27_any _ _ Y.list K w2 (HOK2.out.2.1.keep hC.1) (HUW.out.keep hC.1)).mono ?_)
              rintro e' w' ⟨rfl, hb⟩
              exact ⟨_, rfl, (show Value.int .i64 _ = .int .i64 _ from by rw [HC2.out]), trivial, hb⟩
            rw [n26]
            simp only [Act.put, List.setIfInBounds_toArray, List.set_cons_succ, List.set_cons_zero, Nat.reduceAdd]
            refine lex_plain (by rfl) rfl ?_
            apply Exists.intro
            refine ⟨fun σ w2 hA hD hC => ?_, ?_⟩
            · clear hA hD hC
              go_simp
              exact And.intro rfl rfl
            simp only [Act.put, List.setIfInBounds_toArray, List.set_cons_succ, List.set_cons_zero, Nat.reduceAdd]
            refine lex_plain (by rfl) rfl ?_
            apply Exists.intro
            refine ⟨fun σ w2 hA hD hC => ?_, ?_⟩
            · clear hA hD hC
              go_simp
              exact And.intro rfl rfl
            simp only [Act.put, List.setIfInBounds_toArray, List.set_cons_succ, List.set_cons_zero, Nat.reduceAdd]
            refine lex_nil (fun σ w9 hA hall hC => ?_)
            clear i1 i2 d1 d2
            obtain ⟨bb, hbb⟩ : ∃ z, z = decide (C1 < C2) := ⟨_, rfl⟩
            have HBD := Lib.hid (show ((nth es i).up && P i) = bb by rw [hbb]; exact HBD.out)
            rw [← hbb]
            clear hbb
            cases bb with
            | true =>
              have HRR := Lib.hid (HR1.out i HIN.out.1 HP.out HBD.out)
              have HB9 := Lib.hid (HB.out.trans (hC.1.mono HB.out.size))
              clear hA hall hC ν n19 n26 σ
              go_wp2
              go_ret
              exact ⟨by rw [HRR.out]; rfl, HB9.out⟩
            | false =>
              have HB9 := Lib.hid (HB.out.trans (hC.1.mono HB.out.size))
              clear hA hall hC ν n19 n26 σ
              have i9 := I9.out
              go_wp2
              have hin := HIN.out
              refine ⟨⟨i + 1, by omega, by omega, by go_num, HB9.out, fun j hj => ?_⟩, by simp [intOf]; omega⟩
              rcases Nat.lt_succ_iff_lt_or_eq.1 hj with h | rfl
              · exact HP.out j h
              · exact HBD.out
      · have i2 : ¬ (i : Int) < (nb : Int) := by omega
        have d2 : decide ((i : Int) < (nb : Int)) = false := decide_eq_false i2
        have HRR := Lib.hid (HR2.out fun j hj => by
          rcases Nat.lt_or_ge j i with h | h
          · exact HP.out j h
          · rw [HBF.out j (by omega), Bool.and_false])
        clear hin hib hi hi2
        go_wp2
        go_ret
        exact ⟨by rw [HRR.out]; rfl, HB.out⟩
    · obtain rfl : nn = i := by omega
      have HRR := Lib.hid (HR2.out HP.out)
      have d1 : decide ((nn : Int) < (nn : Int)) = false := decide_eq_false (by omega)
      clear hin hi hi2
      go_wp2
      go_ret
      exact ⟨by rw [HRR.out]; rfl, HB.out⟩
end Go.Proofs.Yteplcpiamocclaa
