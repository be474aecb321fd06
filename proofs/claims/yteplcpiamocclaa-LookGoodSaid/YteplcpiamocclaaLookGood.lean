/-
  LookGood, WALKED (printed by wip/gen-lookgood.py).
-/
import Derived.Test.YteplcpiamocclaaGoodP
import Derived.Test.YteplcpiamocclaaOpenShape
namespace Go.Proofs.Yteplcpiamocclaa
open Go.RowKit Reg Go.ChangeShapes

def halfS (N : Nat) (x : Shp) : Shp := ⟨x.k, ((x.h.toNat % (N + 1) / 2 : Nat) : Int), x.o, x.up, x.pr⟩
set_option maxRecDepth 100000 in
set_option maxHeartbeats 4000000 in
theorem law_LookGood (n : Int) (v : Value) (xs : List Shp) (w : World) (hn0 : (Lit.int .u8 n).wf = true) (hv : InH w v xs) (_ : True) :
    Calls Try.prog 3 #[.int .u8 n, v] w fun e w' => e = .returned (.bool true) ∧ Below w.heap.size w w' := by
  have hn := lit_u8.1 hn0
  have hv' := hv
  have hbu := built_any n v xs w (by omega) hv
  have hbu2 := fun u ys w1 (h : InH w1 u ys) => built_any n u ys w1 (by omega) h
  obtain ⟨va, vc, rfl, hml, hxs⟩ := hv
  obtain ⟨N, hN⟩ : ∃ z, z = n.toNat % 12 := ⟨_, rfl⟩
  rw [← hN] at hbu
  simp only [← hN] at hbu2
  have hmod : n.tmod 12 = (N : Int) := by rw [Int.tmod_eq_emod_of_nonneg hn.1]; omega
  have hn12 : N < 12 := by omega
  have HX := Lib.hid hxs
  have HML := Lib.hid hml
  have HN12 := Lib.hid hn12
  have HMOD := Lib.hid hmod
  have HBU := Lib.hid hbu
  have HBU2 := Lib.hid hbu2
  clear hxs hml hN hn hn12 hbu hbu2 hmod hv' hn0
  generalize hxl : xs.length = m at *
  have HXL := Lib.hid hxl
  clear hxl
  go_enter Try.func3, Try.ntmps3
  go_wp2_with fail
  refine HBU.out.mono ?_
  rintro e w1 ⟨u, es, rfl, hin, hst, hb⟩
  have hel : es.length = min m 6 := by
    have := congrArg List.length hst
    rwa [List.length_map, builtB_len] at this
  obtain ⟨ua, uc, rfl⟩ := hin.slice_
  have HIN := Lib.hid hin
  have HST := Lib.hid hst
  have HB := Lib.hid hb
  have HEL := Lib.hid hel
  clear hin hst hb hel HBU
  go_wp2_with fail
  go_loopw [6, 7] (fun u t wr => ∃ (i : Nat) (ys : List Shp), i ≤ m ∧ i ≤ 6 ∧ t = .int .i64 i ∧ Below w1.heap.size w1 wr ∧ OwH wr w1.heap.size u ys ∧ ys.length = i ∧ (∀ y ∈ ys, y.wf) ∧ ∀ j, j < i → ys.getD j shp0 = halfS N (xs.getD j shp0)) (fun _ t _ => m - (intOf t).toNat)
  case atStart => exact ⟨0, [], Nat.zero_le _, Nat.zero_le _, rfl, Below.refl _ _, OwH.nil_ _ _, rfl, (fun y hy => by cases hy), (fun j hj => absurd hj (Nat.not_lt_zero j))⟩
  case round =>
    obtain ⟨i, ys, him, hi6, rfl, hb, ho, hyl, hyw, hyh⟩ := hrel
    have HBL := Lib.hid hb
    have HO := Lib.hid ho
    have HYL := Lib.hid hyl
    have HYW := Lib.hid hyw
    have HYH := Lib.hid hyh
    clear hb ho hyl hyw hyh
    by_cases h1 : i < m
    · by_cases h2 : i < 6
      · obtain ⟨⟨gx, ox, rfl, hsh⟩, hwf⟩ := HX.out i h1
        obtain ⟨x, hx⟩ : ∃ z, z = xs.getD i shp0 := ⟨_, rfl⟩
        rw [← hx] at hsh hwf
        obtain ⟨c0, c1, c2, c3, c4⟩ := hsh
        have hbw := HB.out.trans (HBL.out.mono HB.out.size)
        replace c0 := cell_later hbw c0
        replace c1 := cell_later hbw c1
        replace c2 := cell_later hbw c2
        replace c3 := cell_later hbw c3
        replace c4 := cell_later hbw c4
        obtain ⟨xk, xh, xo, xu, xp⟩ := x
        obtain ⟨⟨k0, k1⟩, ⟨k2, k3⟩, k4, k5⟩ := hwf
        simp only at c0 c1 c2 c3 c4 k0 k1 k2 k3 k4 k5
        obtain ⟨yh, rfl⟩ : ∃ z : Nat, xh = z := ⟨xh.toNat, by omega⟩
        have i1 : (i : Int) < (m : Int) := by omega
        have i2 : (i : Int) < 6 := by omega
        have HI := Lib.hid (And.intro h1 h2)
        have HX1 := Lib.hid hx
        have HYB := Lib.hid (show (0 ≤ xk ∧ xk < 256) ∧ yh < 256 ∧ (0 ≤ xo ∧ xo < 256) by omega)
        have hmod := HMOD.out
        have hwN : IntKind.u8.wrap ((N : Int) + 1) = (N : Int) + 1 := by have := HN12.out; rw [IntKind.wrap_u8]; omega
        obtain ⟨kk, hkk⟩ : ∃ z, z = yh % (N + 1) := ⟨_, rfl⟩
        have hk1 : (yh : Int).tmod ((N : Int) + 1) = (kk : Int) := by
          rw [Int.tmod_eq_emod_of_nonneg (by omega), hkk]
          exact (Int.natCast_emod _ _).symm
        have HKK := Lib.hid hkk
        clear him hi6 h1 h2 hx k0 k1 k2 k3 k4 k5 hbw hkk
        obtain ⟨S, hS⟩ : ∃ z : Shp, z = ⟨xk, (kk : Int) / 2 % 256, xo, xu, xp⟩ := ⟨_, rfl⟩
        have hSc : S.cells = #[.int .u8 xk, .int .u8 ((kk : Int) / 2 % 256), .int .u8 xo, .bool xu, .bool xp] := by rw [hS]; rfl
        have hk12 : kk < 12 := by
          have h3 := HN12.out
          have h4 := HKK.out
          have := Nat.mod_lt yh (show 0 < N + 1 by omega)
          omega
        have hSh : S = halfS N (xs.getD i shp0) := by
          rw [← HX1.out, hS]
          unfold halfS
          simp only [Int.toNat_natCast, ← HKK.out]
          congr 1
          omega
        have hSw : S.wf := by
          have h3 := HYB.out
          rw [hS]
          unfold Shp.wf
          simp only
          omega
        have hy6 : ys.length < 6 := by have := HYL.out; have := HI.out; omega
        have hbl := (Below.refl wr.heap.size wr).alloc (Nat.le_refl _) (Obj.cells S.cells 26)
        have ho1 : OwH (wr.alloc (.cells S.cells 26)) w1.heap.size u6 ys := own_kp (A := fun _ => False) (.of_below hbl) HO.out (fun _ _ h => h)
        have hap := app_shape (x := S) 22 ho1 (by omega) (Nat.le_trans HBL.out.size hbl.size)
        have hbl2 := hbl.trans (((Below.refl (wr.alloc (.cells S.cells 26)).heap.size (wr.alloc (.cells S.cells 26))).alloc (Nat.le_refl _) (Obj.cells S.cells 26)).mono hbl.size)
        have ho2 : OwH ((wr.alloc (.cells S.cells 26)).alloc (.cells S.cells 26)) w1.heap.size u6 ys := own_kp (A := fun _ => False) (.of_below hbl2) HO.out (fun _ _ h => h)
        rw [World.size_alloc] at hap
        rw [hSc] at hap hbl2 ho2
        have HA := Lib.hid hap
        have HBL2 := Lib.hid hbl2
        have HO2 := Lib.hid ho2
        have HSH := Lib.hid hSh
        have HSW := Lib.hid hSw
        clear hSc hk12 hSh hSw hy6 hbl ho1 hap hbl2 ho2 hS
        go_wp2_with (at_builtin; refine wpList_append_run rfl _ _ 22 rfl _ _ rfl rfl _ HA.out ?_)
        refine Later.mk fun _ _ u w3 hp1 hp2 => ?_
        have HB3 := Lib.hid ((HBL.out.trans (HBL2.out.mono HBL.out.size)).trans (below_grown hp2 (Nat.le_trans HBL.out.size HBL2.out.size) (own_block HO2.out)))
        have HO3 := Lib.hid hp1
        clear hp1 hp2 HA HO2 HBL2 hmod hwN hk1 c0 c1 c2 c3 c4
        have i9 : (i : Int) < 9223372036854775807 := by have := HI.out; omega
        go_wp2
        have h6 := HI.out
        refine ⟨⟨i + 1, ys ++ [S], by omega, by omega, by go_num, HB3.out, HO3.out, by rw [List.length_append, HYL.out]; rfl, fun y hy => ?_, fun j hj => ?_⟩, by simp [intOf]; omega⟩
        · rcases List.mem_append.1 hy with h | h
          · exact HYW.out y h
          · obtain rfl : y = S := by simpa using h
            exact HSW.out
        · rcases Nat.lt_succ_iff_lt_or_eq.1 hj with h | rfl
          · rw [← HYH.out j h]
            have : j < ys.length := by rw [HYL.out]; exact h
            simp [List.getElem?_append_left this]
          · rw [← HSH.out]
            simp [← HYL.out]
      · have him' : i = min m 6 := by omega
        have hy6 : ys.length ≤ 6 := by have := HYL.out; omega
        have hinh := HO.out.inh HYW.out (by unfold maxLen; omega)
        have hyl' : min ys.length 6 = min m 6 := by have := HYL.out; omega
        have hc := HBU2.out _ ys wr hinh
        rw [hyl'] at hc
        have hsl : ∃ a c, u6 = .slice a ys.length c := own_slice HO.out
        obtain ⟨ya, yc, rfl⟩ := hsl
        have HC := Lib.hid hc
        have HBW := Lib.hid (HB.out.trans (HBL.out.mono HB.out.size))
        have HINR := Lib.hid (HIN.out.keep HBL.out)
        have hh : ∀ j, j < min m 6 → (ys.getD j shp0).h.toNat % (N + 1) ≤ (xs.getD j shp0).h.toNat % (N + 1) := fun j hj => by
          rw [HYH.out j (by omega)]
          unfold halfS
          simp only [Int.toNat_natCast]
          have h3 := Nat.mod_lt (xs.getD j shp0).h.toNat (show 0 < N + 1 by omega)
          generalize (xs.getD j shp0).h.toNat % (N + 1) = z at *
          rw [Nat.mod_eq_of_lt (by omega)]
          omega
        have HH := Lib.hid hh
        have i1 : (i : Int) < (m : Int) := by omega
        have i2 : ¬ (i < 6) := h2
        have d2 : decide (i < 6) = false := decide_eq_false i2
        clear h2
        clear him' hy6 hinh hyl' hc him hi6 h1 hh HO HBL HYL HYW HYH HIN
        go_wp2_with fail
        refine HC.out.mono ?_
        rintro e w3 ⟨u2, es2, rfl, hin2, hst2, hb2⟩
        obtain ⟨ua2, uc2, rfl⟩ := hin2.slice_
        have HIN1 := Lib.hid (HINR.out.keep hb2)
        have HIN2 := Lib.hid hin2
        have HB3 := Lib.hid (HBW.out.trans (hb2.mono HBW.out.size))
        have HV1 := Lib.hid (show lineV es2 es = -1 from by rw [← lineV_strip, hst2, HST.out]; exact lineV_pre (builtB_pre _ _ _) (builtB_pre _ _ _))
        have HV2 := Lib.hid (show lineV es es2 = -1 from by rw [← lineV_strip, hst2, HST.out]; exact lineV_pre (builtB_pre _ _ _) (builtB_pre _ _ _))
        have HV3 := Lib.hid (show listsV es = -1 from by rw [← listsV_strip, HST.out]; exact listsV_built HN12.out)
        have HV4 := Lib.hid (show listsV es2 = -1 from by rw [← listsV_strip, hst2]; exact listsV_built HN12.out)
        have HV5 := Lib.hid (show keptV es2 es = -1 from by rw [← keptV_strip, hst2, HST.out]; exact keptV_built HN12.out HH.out)
        clear hin2 hst2 hb2 HC HBW HINR HST HEL HH
        go_wp2_with fail
        refine (line_v HV1.out HIN2.out HIN1.out).mono ?_
        rintro e y ⟨rfl, hb⟩
        have HIN1 := Lib.hid (HIN1.out.keep hb)
        have HIN2 := Lib.hid (HIN2.out.keep hb)
        have HB3 := Lib.hid (HB3.out.trans (hb.mono HB3.out.size))
        clear hb
        go_wp2_with fail
        refine (line_v HV2.out HIN1.out HIN2.out).mono ?_
        rintro e y ⟨rfl, hb⟩
        have HIN1 := Lib.hid (HIN1.out.keep hb)
        have HIN2 := Lib.hid (HIN2.out.keep hb)
        have HB3 := Lib.hid (HB3.out.trans (hb.mono HB3.out.size))
        clear hb
        go_wp2_with fail
        refine (lists_v HV3.out HIN1.out).mono ?_
        rintro e y ⟨rfl, hb⟩
        have HIN1 := Lib.hid (HIN1.out.keep hb)
        have HIN2 := Lib.hid (HIN2.out.keep hb)
        have HB3 := Lib.hid (HB3.out.trans (hb.mono HB3.out.size))
        clear hb
        go_wp2_with fail
        refine (lists_v HV4.out HIN2.out).mono ?_
        rintro e y ⟨rfl, hb⟩
        have HIN1 := Lib.hid (HIN1.out.keep hb)
        have HIN2 := Lib.hid (HIN2.out.keep hb)
        have HB3 := Lib.hid (HB3.out.trans (hb.mono HB3.out.size))
        clear hb
        go_wp2_with fail
        refine (kept_v HV5.out HIN2.out HIN1.out).mono ?_
        rintro e y ⟨rfl, hb⟩
        have HIN1 := Lib.hid (HIN1.out.keep hb)
        have HIN2 := Lib.hid (HIN2.out.keep hb)
        have HB3 := Lib.hid (HB3.out.trans (hb.mono HB3.out.size))
        clear hb
        go_wp2_with fail
        refine (works_any _).mono ?_
        rintro e w9 ⟨rfl, hb⟩
        have HB9 := Lib.hid (HB3.out.trans (hb.mono HB3.out.size))
        clear hb
        go_wp2
        go_ret
        exact ⟨rfl, HB9.out⟩
    · have him' : i = min m 6 := by omega
      have hy6 : ys.length ≤ 6 := by have := HYL.out; omega
      have hinh := HO.out.inh HYW.out (by unfold maxLen; omega)
      have hyl' : min ys.length 6 = min m 6 := by have := HYL.out; omega
      have hc := HBU2.out _ ys wr hinh
      rw [hyl'] at hc
      have hsl : ∃ a c, u6 = .slice a ys.length c := own_slice HO.out
      obtain ⟨ya, yc, rfl⟩ := hsl
      have HC := Lib.hid hc
      have HBW := Lib.hid (HB.out.trans (HBL.out.mono HB.out.size))
      have HINR := Lib.hid (HIN.out.keep HBL.out)
      have hh : ∀ j, j < min m 6 → (ys.getD j shp0).h.toNat % (N + 1) ≤ (xs.getD j shp0).h.toNat % (N + 1) := fun j hj => by
        rw [HYH.out j (by omega)]
        unfold halfS
        simp only [Int.toNat_natCast]
        have h3 := Nat.mod_lt (xs.getD j shp0).h.toNat (show 0 < N + 1 by omega)
        generalize (xs.getD j shp0).h.toNat % (N + 1) = z at *
        rw [Nat.mod_eq_of_lt (by omega)]
        omega
      have HH := Lib.hid hh
      have i1 : ¬ (i < m) := h1
      have d1 : decide (i < m) = false := decide_eq_false i1
      clear him' hy6 hinh hyl' hc him hi6 h1 hh HO HBL HYL HYW HYH HIN
      go_wp2_with fail
      refine HC.out.mono ?_
      rintro e w3 ⟨u2, es2, rfl, hin2, hst2, hb2⟩
      obtain ⟨ua2, uc2, rfl⟩ := hin2.slice_
      have HIN1 := Lib.hid (HINR.out.keep hb2)
      have HIN2 := Lib.hid hin2
      have HB3 := Lib.hid (HBW.out.trans (hb2.mono HBW.out.size))
      have HV1 := Lib.hid (show lineV es2 es = -1 from by rw [← lineV_strip, hst2, HST.out]; exact lineV_pre (builtB_pre _ _ _) (builtB_pre _ _ _))
      have HV2 := Lib.hid (show lineV es es2 = -1 from by rw [← lineV_strip, hst2, HST.out]; exact lineV_pre (builtB_pre _ _ _) (builtB_pre _ _ _))
      have HV3 := Lib.hid (show listsV es = -1 from by rw [← listsV_strip, HST.out]; exact listsV_built HN12.out)
      have HV4 := Lib.hid (show listsV es2 = -1 from by rw [← listsV_strip, hst2]; exact listsV_built HN12.out)
      have HV5 := Lib.hid (show keptV es2 es = -1 from by rw [← keptV_strip, hst2, HST.out]; exact keptV_built HN12.out HH.out)
      clear hin2 hst2 hb2 HC HBW HINR HST HEL HH
      go_wp2_with fail
      refine (line_v HV1.out HIN2.out HIN1.out).mono ?_
      rintro e y ⟨rfl, hb⟩
      have HIN1 := Lib.hid (HIN1.out.keep hb)
      have HIN2 := Lib.hid (HIN2.out.keep hb)
      have HB3 := Lib.hid (HB3.out.trans (hb.mono HB3.out.size))
      clear hb
      go_wp2_with fail
      refine (line_v HV2.out HIN1.out HIN2.out).mono ?_
      rintro e y ⟨rfl, hb⟩
      have HIN1 := Lib.hid (HIN1.out.keep hb)
      have HIN2 := Lib.hid (HIN2.out.keep hb)
      have HB3 := Lib.hid (HB3.out.trans (hb.mono HB3.out.size))
      clear hb
      go_wp2_with fail
      refine (lists_v HV3.out HIN1.out).mono ?_
      rintro e y ⟨rfl, hb⟩
      have HIN1 := Lib.hid (HIN1.out.keep hb)
      have HIN2 := Lib.hid (HIN2.out.keep hb)
      have HB3 := Lib.hid (HB3.out.trans (hb.mono HB3.out.size))
      clear hb
      go_wp2_with fail
      refine (lists_v HV4.out HIN2.out).mono ?_
      rintro e y ⟨rfl, hb⟩
      have HIN1 := Lib.hid (HIN1.out.keep hb)
      have HIN2 := Lib.hid (HIN2.out.keep hb)
      have HB3 := Lib.hid (HB3.out.trans (hb.mono HB3.out.size))
      clear hb
      go_wp2_with fail
      refine (kept_v HV5.out HIN2.out HIN1.out).mono ?_
      rintro e y ⟨rfl, hb⟩
      have HIN1 := Lib.hid (HIN1.out.keep hb)
      have HIN2 := Lib.hid (HIN2.out.keep hb)
      have HB3 := Lib.hid (HB3.out.trans (hb.mono HB3.out.size))
      clear hb
      go_wp2_with fail
      refine (works_any _).mono ?_
      rintro e w9 ⟨rfl, hb⟩
      have HB9 := Lib.hid (HB3.out.trans (hb.mono HB3.out.size))
      clear hb
      go_wp2
      go_ret
      exact ⟨rfl, HB9.out⟩
end Go.Proofs.Yteplcpiamocclaa
