/-
  META's REFERENCE: Check (printed by wip/gen-metg.py).
-/
import Derived.Test.YtimgecflcackbaaMetF
namespace Go.Proofs.Ytimgecflcackbaa
open Go.RowKit Reg

set_option maxRecDepth 100000 in
set_option maxHeartbeats 1000000 in
theorem checkRM_live (w : World) (v : Value) (m : Mt) (blocks n : Int) (hv : InMt w v m) (h0 : chkOf m.live blocks n ≠ 0) :
    Calls Try.prog 11 #[v, .int .i64 blocks, .int .i64 n] w fun e w' => e = .returned (.int .i64 (mtOf m blocks n)) ∧ Below w.heap.size w w' := by
  obtain ⟨lv, sv, iv, rfl, hl, hs, hi, hw⟩ := hv
  have HCK := Lib.hid (fun w2 (h : Below w.heap.size w w2) => checkR_any lv m.live blocks n w2 (hl.keep h))
  have hres : mtOf m blocks n = chkOf m.live blocks n := if_pos h0
  rw [hres]
  generalize chkOf m.live blocks n = ck at *
  obtain ⟨live, snaps, ⟨⟨b1, b2⟩, ⟨t1, t2⟩, nx, al, im⟩⟩ := m
  unfold mtV
  dsimp only at *
  have e0 : (ck != 0) = true := by simp [h0]
  have HBO := Lib.hid ((Below.refl w.heap.size w).alloc (Nat.le_refl _) (Obj.cells #[lv, sv, .int .u64 b1, .int .u64 b2, .int .u64 t1, .int .u64 t2, .int .i64 nx, .int .i64 al, iv] 30))
  obtain ⟨la, lc, rfl, -, -⟩ := hl.open_
  obtain ⟨sa, sc, rfl, -, -⟩ := hs
  obtain ⟨ia, ic, rfl, -, -⟩ := hi.open_
  have HC2 := Lib.hid (HCK.out _ HBO.out)
  clear hl hi hw h0 hres HCK
  go_enter Try.func11, Try.ntmps11
  go_wp2_with fail
  refine HC2.out.mono ?_
  rintro e w2 ⟨rfl, hb⟩
  have HB2 := Lib.hid (HBO.out.trans (hb.mono HBO.out.size))
  clear hb HC2 HBO
  go_wp2
  go_ret
  exact ⟨rfl, HB2.out⟩
set_option maxRecDepth 100000 in
set_option maxHeartbeats 1000000 in
theorem checkRM_long (w : World) (v : Value) (m : Mt) (blocks n : Int) (hv : InMt w v m) (h0 : chkOf m.live blocks n = 0) (h2 : 20 < m.snaps.length) :
    Calls Try.prog 11 #[v, .int .i64 blocks, .int .i64 n] w fun e w' => e = .returned (.int .i64 (mtOf m blocks n)) ∧ Below w.heap.size w w' := by
  obtain ⟨lv, sv, iv, rfl, hl, hs, hi, hw⟩ := hv
  have HCK := Lib.hid (fun w2 (h : Below w.heap.size w w2) => checkR_any lv m.live blocks n w2 (hl.keep h))
  rw [h0] at HCK
  have hres : mtOf m blocks n = 3 := by unfold mtOf; rw [if_neg (fun h => h h0), if_pos h2]
  rw [hres]
  obtain ⟨live, snaps, ⟨⟨b1, b2⟩, ⟨t1, t2⟩, nx, al, im⟩⟩ := m
  unfold mtV
  dsimp only at *
  have HBO := Lib.hid ((Below.refl w.heap.size w).alloc (Nat.le_refl _) (Obj.cells #[lv, sv, .int .u64 b1, .int .u64 b2, .int .u64 t1, .int .u64 t2, .int .i64 nx, .int .i64 al, iv] 30))
  obtain ⟨la, lc, rfl, -, -⟩ := hl.open_
  obtain ⟨sa, sc, rfl, -, -⟩ := hs
  obtain ⟨ia, ic, rfl, -, -⟩ := hi.open_
  have i2 : (20 : Int) < (snaps.length : Int) := by omega
  generalize snaps.length = mm at *
  have HBX := Lib.hid (Blk.new w 30 #[.slice la live.length lc, .slice sa mm sc, .int .u64 b1, .int .u64 b2, .int .u64 t1, .int .u64 t2, .int .i64 nx, .int .i64 al, .slice ia im.length ic])
  have HC2 := Lib.hid (HCK.out _ HBO.out)
  clear hl hi hw h0 h2 hres HCK
  go_enter Try.func11, Try.ntmps11
  go_wp2_with fail
  refine HC2.out.mono ?_
  rintro e w2 ⟨rfl, hb⟩
  have HB2 := Lib.hid (HBO.out.trans (hb.mono HBO.out.size))
  have x1 := (HBX.out.keep hb).cell 1
  simp at x1
  clear hb HC2 HBO HBX
  go_wp2
  go_ret
  exact ⟨rfl, HB2.out⟩
set_option maxRecDepth 100000 in
set_option maxHeartbeats 1000000 in
theorem checkRM_main (w : World) (v : Value) (m : Mt) (blocks n : Int) (hv : InMt w v m) (h0 : chkOf m.live blocks n = 0) (h2 : ¬ 20 < m.snaps.length) :
    Calls Try.prog 11 #[v, .int .i64 blocks, .int .i64 n] w fun e w' => e = .returned (.int .i64 (mtOf m blocks n)) ∧ Below w.heap.size w w' := by
  obtain ⟨lv, sv, iv, rfl, hl, hs, hi, hw⟩ := hv
  have HCK := Lib.hid (fun w2 (h : Below w.heap.size w w2) => checkR_any lv m.live blocks n w2 (hl.keep h))
  have HCT := Lib.hid (fun w2 (h : Below w.heap.size w w2) => checkR_any iv m.token.image blocks n w2 (hi.keep h))
  have HABV := Lib.hid (fun last w => aboveR_any m.token.target last w)
  unfold aggG at HABV
  rw [h0] at HCK
  obtain ⟨X0, hX⟩ : ∃ X, X = snOf m.snaps (0, 0) blocks n := ⟨_, rfl⟩
  have hres : mtOf m blocks n = if X0.1 ≠ 0 then X0.1 else tokOf m.token X0.2 blocks n := by unfold mtOf; rw [if_neg (fun h => h h0), if_neg h2, hX]
  generalize mtOf m blocks n = res at *
  have HX0 := hX
  rw [show m.snaps = m.snaps.drop 0 from rfl] at HX0
  have HST := Lib.hid (fun k (hk : k < m.snaps.length) last => snOf_step hk last blocks n)
  obtain ⟨live, snaps, ⟨⟨b1, b2⟩, ⟨t1, t2⟩, nx, al, im⟩⟩ := m
  unfold mtV
  dsimp only at *
  have HBO := Lib.hid ((Below.refl w.heap.size w).alloc (Nat.le_refl _) (Obj.cells #[lv, sv, .int .u64 b1, .int .u64 b2, .int .u64 t1, .int .u64 t2, .int .i64 nx, .int .i64 al, iv] 30))
  obtain ⟨la, cl, rfl, -, -⟩ := hl.open_
  obtain ⟨sa, sc, rfl, hsm, hsx⟩ := hs
  obtain ⟨ia, ic, rfl, -, -⟩ := hi.open_
  have i2 : (snaps.length : Int) ≤ 20 := by omega
  have HBX := Lib.hid (Blk.new w 30 #[.slice la live.length cl, .slice sa snaps.length sc, .int .u64 b1, .int .u64 b2, .int .u64 t1, .int .u64 t2, .int .i64 nx, .int .i64 al, .slice ia im.length ic])
  have HC2 := Lib.hid (HCK.out _ HBO.out)
  have HSX := Lib.hid hsx
  have HRES := Lib.hid hres
  have HX := Lib.hid hX
  clear hl hi hw h0 h2 hres HCK hsx hX
  go_enter Try.func11, Try.ntmps11
  go_wp2_with fail
  refine HC2.out.mono ?_
  rintro e w2 ⟨rfl, hb⟩
  have HB2 := Lib.hid (HBO.out.trans (hb.mono HBO.out.size))
  have HBM := Lib.hid (HBX.out.keep hb)
  have x1 := HBM.out.cell 1
  simp at x1
  have x1a := (HBM.out.alloc (Obj.cells #[.int .u64 0, .int .u64 0] 26)).cell 1
  simp at x1a
  clear hb HC2 HBO HBX
  go_wp2_with fail
  have HBL := Lib.hid (Blk.new w2 26 #[.int .u64 0, .int .u64 0])
  have HBM2 := Lib.hid (HBM.out.alloc (Obj.cells #[.int .u64 0, .int .u64 0] 26))
  have HBW := Lib.hid (HB2.out.alloc HB2.out.size (Obj.cells #[.int .u64 0, .int .u64 0] 26))
  have HGL := Lib.hid HB2.out.size
  have HGN := Lib.hid (show w.heap.size ≠ w2.heap.size from fun e => absurd HBM.out.lt (by omega))
  generalize w2.heap.size = gl at *
  generalize hwl : w2.alloc (Obj.cells #[.int .u64 0, .int .u64 0] 26) = wl at *
  clear hwl x1 x1a HBM HB2
  have HX0' := Lib.hid HX0
  clear HX0
  go_loopw [9] (fun i wr => ∃ (k : Nat) (le lc : Int), k ≤ snaps.length ∧ i = .int .i64 k ∧ Below w.heap.size w wr ∧ Blk wr gl 26 #[.int .u64 le, .int .u64 lc] ∧ Blk wr w.heap.size 30 #[.slice la live.length cl, .slice sa snaps.length sc, .int .u64 b1, .int .u64 b2, .int .u64 t1, .int .u64 t2, .int .i64 nx, .int .i64 al, .slice ia im.length ic] ∧ X0 = snOf (snaps.drop k) (le, lc) blocks n) (fun i _ => snaps.length - (intOf i).toNat)
  case atStart => exact ⟨0, 0, 0, Nat.zero_le _, rfl, HBW.out, HBL.out, HBM2.out, HX0'.out⟩
  case round =>
    obtain ⟨k, le, lc, hk, rfl, hb, hbl, hbm, hre⟩ := hrel
    have HB := Lib.hid hb
    have HBLr := Lib.hid hbl
    have HBMr := Lib.hid hbm
    have HRE := Lib.hid hre
    have y1 := hbm.cell 1
    simp at y1
    clear hb hbl hbm hre
    by_cases hkm : k < snaps.length
    · obtain ⟨sg, so, si, rfl, s0, s1, s2, hsi, s3, hsw⟩ := HSX.out k hkm
      have S0 := Lib.hid s0
      have S1 := Lib.hid s1
      have S2 := Lib.hid s2
      replace s0 := cell_later HB.out s0
      replace s1 := cell_later HB.out s1
      have HST2 := Lib.hid (HST.out k hkm (le, lc))
      have l1 : (k : Int) < (snaps.length : Int) := by omega
      have HCI := Lib.hid (fun w2 (h : Below w.heap.size w w2) => checkR_any si _ blocks n w2 (hsi.keep h))
      obtain ⟨ia', ci', rfl, -, -⟩ := hsi.open_
      clear hsi s2 s3
      generalize snaps.getD k snap0 = sn at *
      obtain ⟨⟨ge, gc⟩, zs, hd⟩ := sn
      dsimp only at *
      have x0 := HBLr.out.cell 0
      have x1 := HBLr.out.cell 1
      simp at x0 x1
      have HOA := Lib.hid (fun w => aboveR_any (ge, gc) (le, lc) w)
      unfold aggG at HOA
      have hst := HST2.out
      try dsimp only at hst
      rw [← HRE.out] at hst
      generalize upG (le, lc) (ge, gc) = up at *
      have HST3 := Lib.hid hst
      have e1 : ∀ q : Bw wr, q.w.cell? ⟨sg, so + k * 4, none⟩ = some (.int .u64 ge) := fun q => q.cell s0
      have e2 : ∀ q : Bw wr, q.w.cell? ⟨sg, so + k * 4 + 1, none⟩ = some (.int .u64 gc) := fun q => q.cell s1
      have e3 : ∀ q : Bw wr, q.w.cell? ⟨gl, 0, none⟩ = some (.int .u64 le) := fun q => q.cell x0
      have e4 : ∀ q : Bw wr, q.w.cell? ⟨gl, 1, none⟩ = some (.int .u64 lc) := fun q => q.cell x1
      have e5 : ∀ q : Bw wr, q.w.cell? ⟨w.heap.size, 1, none⟩ = some (.slice (some ⟨sg, so, none⟩) snaps.length sc) := fun q => q.cell y1
      go_wp2_with fail
      clear s0 s1 x0 x1 y1 hst
      refine wp_region_below (by kernel_rfl) (by kernel_rfl) ?_
      repeat (go_big_quiet_step (first | (go_at_call 44; exact below_call (HOA.out _))))
      refine wpQuiet_nil ?_
      intro w3 hb3
      have HB3 := Lib.hid (HB.out.trans (hb3.mono HB.out.size))
      have HBL3 := Lib.hid (HBLr.out.keep hb3)
      have HBM3 := Lib.hid (HBMr.out.keep hb3)
      clear e1 e2 e3 e4 e5 HOA hb3 HBLr HBMr HST2
      cases up with
      | false =>
        have HR := Lib.hid (show res = 2 by rw [HRES.out, HST3.out]; simp)
        clear HST3
        go_wp2
        go_ret
        exact ⟨by rw [HR.out]; rfl, HB3.out⟩
      | true =>
        have y1 := HBM3.out.cell 1
        simp at y1
        have z0 := cell_later HB3.out S0.out
        have z1 := cell_later HB3.out S1.out
        go_wp2_with (refine wpList_store_then rfl 26 _ _ rfl gl #[.int .u64 ge, .int .u64 gc] rfl rfl 26 _ HBL3.out (by kernel_rfl) rfl (gcells_one _ _) ?_)
        refine Later.mk fun w6 hw6 => ?_
        have HBL6 := Lib.hid (show Blk w6 gl 26 #[.int .u64 ge, .int .u64 gc] by rw [hw6]; exact HBL3.out.row _)
        have HBM6 := Lib.hid (show Blk w6 w.heap.size 30 _ by rw [hw6]; exact HBM3.out.farRow (by have := HGN.out; omega) _)
        have HB6 := Lib.hid (show Below w.heap.size w w6 by rw [hw6]; exact Below.setRow HB3.out HGL.out _)
        clear hw6 HBL3 HBM3 HB3 z0 z1 y1
        have y1 := HBM6.out.cell 1
        simp at y1
        have z2 := cell_later HB6.out S2.out
        have HC6 := Lib.hid (HCI.out _ HB6.out)
        generalize chkOf zs blocks n = ck at *
        clear HCI
        go_wp2_with fail
        refine HC6.out.mono ?_
        rintro e w7 ⟨rfl, hb7⟩
        have HB7 := Lib.hid (HB6.out.trans (hb7.mono HB6.out.size))
        have HBL7 := Lib.hid (HBL6.out.keep hb7)
        have HBM7 := Lib.hid (HBM6.out.keep hb7)
        clear hb7 HC6 HBL6 HBM6 HB6 y1 z2
        by_cases h1 : ck = 0
        · have e1 : (ck != 0) = false := by simp [h1]
          have HRE3 := Lib.hid (show X0 = snOf (snaps.drop (k + 1)) (ge, gc) blocks n by rw [HST3.out]; simp [h1])
          have HKM := Lib.hid hkm
          have I9 := Lib.hid (show wrap64 ((k : Int) + 1) = (k : Int) + 1 from IntWalk.wrap64_in _ (by omega))
          clear hkm hk i2 l1 h1 HST3 HRE
          go_wp2
          rw [I9.out]
          clear I9
          exact ⟨⟨k + 1, ge, gc, HKM.out, by simp, HB7.out, HBL7.out, HBM7.out, HRE3.out⟩, meas_succ HKM.out⟩
        · have e1 : (ck != 0) = true := by simp [h1]
          have HR := Lib.hid (show res = ck by rw [HRES.out, HST3.out]; simp [h1])
          go_wp2
          go_ret
          exact ⟨by rw [HR.out]; rfl, HB7.out⟩
    · obtain rfl : k = snaps.length := by omega
      have hr := (show res = tokOf ⟨(b1, b2), (t1, t2), nx, al, im⟩ (le, lc) blocks n by rw [HRES.out, HRE.out, List.drop_length]; rfl)
      unfold tokOf at hr
      dsimp only at hr
      have x0 := (HBLr.out.alloc (Obj.cells #[.int .u64 b1, .int .u64 b2, .int .u64 t1, .int .u64 t2, .int .i64 nx, .int .i64 al, .slice ia im.length ic] 28)).cell 0
      have x1 := (HBLr.out.alloc (Obj.cells #[.int .u64 b1, .int .u64 b2, .int .u64 t1, .int .u64 t2, .int .i64 nx, .int .i64 al, .slice ia im.length ic] 28)).cell 1
      have y2 := HBMr.out.cell 2
      have y3 := HBMr.out.cell 3
      have y4 := HBMr.out.cell 4
      have y5 := HBMr.out.cell 5
      have y6 := HBMr.out.cell 6
      have y7 := HBMr.out.cell 7
      have y8 := HBMr.out.cell 8
      simp at x0 x1 y2 y3 y4 y5 y6 y7 y8
      have HBT := Lib.hid (HB.out.alloc HB.out.size (Obj.cells #[.int .u64 b1, .int .u64 b2, .int .u64 t1, .int .u64 t2, .int .i64 nx, .int .i64 al, .slice ia im.length ic] 28))
      have HBX := Lib.hid (Blk.new wr 28 #[.int .u64 b1, .int .u64 b2, .int .u64 t1, .int .u64 t2, .int .i64 nx, .int .i64 al, .slice ia im.length ic])
      clear HBLr HBMr HRE HST HSX HBL HBM2 HRES HX HX0' hk hkm
      by_cases h0 : (t1, t2) = ((0 : Int), (0 : Int))
      · rw [if_pos h0] at hr
        simp only [Prod.mk.injEq] at h0
        obtain ⟨rfl, rfl⟩ := h0
        have hb : decide ((b1, b2) ≠ ((0 : Int), (0 : Int))) = !(b1 == 0 && b2 == 0) := by
          by_cases h1 : b1 = 0 <;> by_cases h2 : b2 = 0 <;> simp [h1, h2]
        have hm : im ≠ [] ↔ im.length ≠ 0 := by cases im <;> simp
        have hE := run_eq_guid 0 0 0 0
        have hN := run_neq_guid b1 b2 0 0
        have e0 : ((0 : Int) == 0 && (0 : Int) == 0) = true := rfl
        rw [e0] at hE
        clear e0
        replace hr : ∀ s : Bool, (!(b1 == 0 && b2 == 0)) = s → res = if s = true ∨ nx ≠ 0 ∨ al ≠ 0 ∨ im.length ≠ 0 then 2 else 0 := by
          intro s hs
          rw [hs] at hb
          rw [hr]
          have h3 : (b1, b2) ≠ ((0 : Int), (0 : Int)) ↔ s = true := by rw [← hb, decide_eq_true_iff]
          simp only [h3, hm]
        generalize (!(b1 == 0 && b2 == 0)) = nb at *
        replace hr := hr nb rfl
        clear hb hm
        generalize im.length = m at *
        have HR := Lib.hid hr
        clear hr HCT HABV
        cases nb with
        | true =>
          have HF := Lib.hid (show res = 2 by rw [HR.out]; simp)
          go_wp2
          go_ret
          exact ⟨by rw [HF.out]; rfl, HBT.out⟩
        | false =>
          by_cases h1 : nx = 0
          · subst h1
            by_cases h2 : al = 0
            · subst h2
              by_cases h3 : m = 0
              · subst h3
                have HF := Lib.hid (show res = 0 by rw [HR.out]; simp)
                go_wp2
                go_ret
                exact ⟨by rw [HF.out]; rfl, HBT.out⟩
              · have HF := Lib.hid (show res = 2 by rw [HR.out]; simp [h3])
                have e3 : ((m : Int) != 0) = true := by simp [h3]
                clear h3
                go_wp2
                go_ret
                exact ⟨by rw [HF.out]; rfl, HBT.out⟩
            · have HF := Lib.hid (show res = 2 by rw [HR.out]; simp [h2])
              have e2 : (al != 0) = true := by simp [h2]
              clear h2
              go_wp2
              go_ret
              exact ⟨by rw [HF.out]; rfl, HBT.out⟩
          · have HF := Lib.hid (show res = 2 by rw [HR.out]; simp [h1])
            have e1 : (nx != 0) = true := by simp [h1]
            clear h1
            go_wp2
            go_ret
            exact ⟨by rw [HF.out]; rfl, HBT.out⟩
      · rw [if_neg h0] at hr
        have hb : decide ((b1, b2) ≠ (le, lc)) = !(b1 == le && b2 == lc) := by
          by_cases h1 : b1 = le <;> by_cases h2 : b2 = lc <;> simp [h1, h2]
        have hE := run_eq_guid t1 t2 0 0
        have hN := run_neq_guid b1 b2 le lc
        have e0 : (t1 == 0 && t2 == 0) = false := by
          cases h : (t1 == 0 && t2 == 0) with
          | false => rfl
          | true => simp only [Bool.and_eq_true, beq_iff_eq] at h; exact absurd (Prod.ext_iff.2 h) h0
        rw [e0] at hE
        have hoa := HABV.out (le, lc)
        dsimp only at hoa
        generalize upG (le, lc) (t1, t2) = up at *
        have HOA := Lib.hid hoa
        replace hr : ∀ s : Bool, (!(b1 == le && b2 == lc)) = s → res = if s = true ∨ up = false ∨ nx < 1 ∨ al ≤ nx ∨ blocks < al then 2 else chkOf im blocks n := by
          intro s hs
          rw [hs] at hb
          have h3 : (b1, b2) ≠ (le, lc) ↔ s = true := by rw [← hb, decide_eq_true_iff]
          rw [hr]
          simp only [h3]
        generalize (!(b1 == le && b2 == lc)) = nb at *
        replace hr := hr nb rfl
        generalize chkOf im blocks n = ck at *
        clear hb hoa e0 h0
        generalize im.length = m at *
        have HR := Lib.hid hr
        clear hr HABV
        cases nb with
        | true =>
          have HF := Lib.hid (show res = 2 by rw [HR.out]; simp)
          clear HR HCT HOA HBX
          go_wp2
          go_ret
          exact ⟨by rw [HF.out]; rfl, HBT.out⟩
        | false =>
          go_wp2_with fail
          refine (HOA.out _).mono ?_
          rintro e w2 ⟨rfl, hbw⟩
          have HB2 := Lib.hid (HBT.out.trans (hbw.mono HBT.out.size))
          have hbk := HBX.out.keep hbw
          have q2 := hbk.cell 4
          have q3 := hbk.cell 5
          have q4 := hbk.cell 6
          simp at q2 q3 q4
          have HC2 := Lib.hid (HCT.out w2 HB2.out)
          clear hbw hbk HBX HBT HOA HCT x0 x1 y2 y3 y4 y5 y6 y7 y8
          cases up with
          | false =>
            have HF := Lib.hid (show res = 2 by rw [HR.out]; simp)
            clear HR HC2
            go_wp2
            go_ret
            exact ⟨by rw [HF.out]; rfl, HB2.out⟩
          | true =>
            by_cases h1 : nx < 1
            · have HF := Lib.hid (show res = 2 by rw [HR.out]; simp [h1])
              clear HR HC2
              go_wp2
              go_ret
              exact ⟨by rw [HF.out]; rfl, HB2.out⟩
            · by_cases h2 : al ≤ nx
              · have HF := Lib.hid (show res = 2 by rw [HR.out]; simp [h2])
                have h1' := decide_eq_false h1
                clear HR HC2 h1
                go_wp2
                go_ret
                exact ⟨by rw [HF.out]; rfl, HB2.out⟩
              · by_cases h3 : blocks < al
                · have HF := Lib.hid (show res = 2 by rw [HR.out]; simp [h3])
                  have h1' := decide_eq_false h1
                  have h2' := decide_eq_false h2
                  clear HR HC2 h1 h2
                  go_wp2
                  go_ret
                  exact ⟨by rw [HF.out]; rfl, HB2.out⟩
                · have HF := Lib.hid (show res = ck by rw [HR.out]; simp [h1, h2, h3])
                  have h1' := decide_eq_false h1
                  have h2' := decide_eq_false h2
                  have h3' := decide_eq_false h3
                  clear HR h1 h2 h3
                  go_wp2_with fail
                  refine HC2.out.mono ?_
                  rintro e w4 ⟨rfl, hb4⟩
                  have HB4 := Lib.hid (HB2.out.trans (hb4.mono HB2.out.size))
                  clear hb4 HC2
                  go_wp2
                  go_ret
                  exact ⟨by rw [HF.out]; rfl, HB4.out⟩
theorem checkRM_any (w : World) (v : Value) (m : Mt) (blocks n : Int) (hv : InMt w v m) :
    Calls Try.prog 11 #[v, .int .i64 blocks, .int .i64 n] w fun e w' => e = .returned (.int .i64 (mtOf m blocks n)) ∧ Below w.heap.size w w' := by
  by_cases h0 : chkOf m.live blocks n = 0
  · by_cases h2 : 20 < m.snaps.length
    · exact checkRM_long w v m blocks n hv h0 h2
    · exact checkRM_main w v m blocks n hv h0 h2
  · exact checkRM_live w v m blocks n hv h0
end Go.Proofs.Ytimgecflcackbaa
