/-
  META: meta.Check, the loop; the whole.
-/
import Derived.Test.YtimgecflcackbaaMetK
namespace Go.Proofs.Ytimgecflcackbaa
open Go.RowKit Reg

theorem gcells_one (a b : Int) : (#[Value.int .u64 a, .int .u64 b].all fun x => x.oneCell') = true := by simp; exact ⟨rfl, rfl⟩

set_option maxRecDepth 100000 in
set_option maxHeartbeats 1000000 in
theorem checkM_main (w : World) (v : Value) (m : Mt) (blocks n : Int) (hv : InMt w v m) (h0 : chkOf m.live blocks n = 0) (h2 : ¬ 20 < m.snaps.length) :
    Calls Try.prog 10 #[v, .int .i64 blocks, .int .i64 n] w fun e w' => e = .returned (.int .i64 (mtOf m blocks n)) ∧ Below w.heap.size w w' := by
  obtain ⟨lv, sv, iv, rfl, hl, hs, hi, hw⟩ := hv
  have HCK := Lib.hid (fun w2 (h : Below w.heap.size w w2) => check_any lv m.live blocks n w2 (hl.keep h))
  have HTK := Lib.hid (fun last w2 (h : Below w.heap.size w w2) => token_any w2 _ m.token last blocks n (InTk.keep ⟨iv, rfl, hi, hw⟩ h))
  rw [h0] at HCK
  obtain ⟨X0, hX⟩ : ∃ X, X = snOf m.snaps (0, 0) blocks n := ⟨_, rfl⟩
  have hres : mtOf m blocks n = if X0.1 ≠ 0 then X0.1 else tokOf m.token X0.2 blocks n := by unfold mtOf; rw [if_neg (fun h => h h0), if_neg h2, hX]
  generalize mtOf m blocks n = res at *
  have HX0 := hX
  rw [show m.snaps = m.snaps.drop 0 from rfl] at HX0
  have HST := Lib.hid (fun k (hk : k < m.snaps.length) last => snOf_step hk last blocks n)
  obtain ⟨live, snaps, ⟨⟨b1, b2⟩, ⟨t1, t2⟩, nx, al, im⟩⟩ := m
  unfold mtV
  unfold tkV at HTK
  dsimp only at *
  have HBO := Lib.hid ((Below.refl w.heap.size w).alloc (Nat.le_refl _) (Obj.cells #[lv, sv, .int .u64 b1, .int .u64 b2, .int .u64 t1, .int .u64 t2, .int .i64 nx, .int .i64 al, iv] 30))
  obtain ⟨la, cl, rfl, -, -⟩ := hl.open_
  obtain ⟨sa, sc, rfl, hsm, hsx⟩ := hs
  obtain ⟨ia, ic, rfl, -, -⟩ := hi.open_
  have i2 : (snaps.length : Int) ≤ 20 := by omega
  have HBX := Lib.hid (Blk.new w 30 #[.slice la live.length cl, .slice sa snaps.length sc, .int .u64 b1, .int .u64 b2, .int .u64 t1, .int .u64 t2, .int .i64 nx, .int .i64 al, .slice ia im.length ic])
  have HC2 := Lib.hid (HCK.out _ HBO.out)
  have HSX := Lib.hid hsx
  have HRES := Lib.hid hres
  have HX := Lib.hid hX
  clear hl hi hw h0 h2 hres HCK hsx hX
  go_enter Try.func10, Try.ntmps10
  go_wp2_with fail
  refine HC2.out.mono ?_
  rintro e w2 ⟨rfl, hb⟩
  have HB2 := Lib.hid (HBO.out.trans (hb.mono HBO.out.size))
  have HBM := Lib.hid (HBX.out.keep hb)
  have x1 := HBM.out.cell 1
  simp at x1
  have x1a := (HBM.out.alloc (Obj.cells #[.int .u64 0, .int .u64 0] 26)).cell 1
  simp at x1a
  clear hb HC2 HBO HBX
  go_wp2_with fail
  have HBL := Lib.hid (Blk.new w2 26 #[.int .u64 0, .int .u64 0])
  have HBM2 := Lib.hid (HBM.out.alloc (Obj.cells #[.int .u64 0, .int .u64 0] 26))
  have HBW := Lib.hid (HB2.out.alloc HB2.out.size (Obj.cells #[.int .u64 0, .int .u64 0] 26))
  have HGL := Lib.hid HB2.out.size
  have HGN := Lib.hid (show w.heap.size ≠ w2.heap.size from fun e => absurd HBM.out.lt (by omega))
  generalize w2.heap.size = gl at *
  generalize hwl : w2.alloc (Obj.cells #[.int .u64 0, .int .u64 0] 26) = wl at *
  clear hwl x1 x1a HBM HB2
  have HX0' := Lib.hid HX0
  clear HX0
  go_loopw [27] (fun i wr => ∃ (k : Nat) (le lc : Int), k ≤ snaps.length ∧ i = .int .i64 k ∧ Below w.heap.size w wr ∧ Blk wr gl 26 #[.int .u64 le, .int .u64 lc] ∧ Blk wr w.heap.size 30 #[.slice la live.length cl, .slice sa snaps.length sc, .int .u64 b1, .int .u64 b2, .int .u64 t1, .int .u64 t2, .int .i64 nx, .int .i64 al, .slice ia im.length ic] ∧ X0 = snOf (snaps.drop k) (le, lc) blocks n) (fun i _ => snaps.length - (intOf i).toNat)
  case atStart => exact ⟨0, 0, 0, Nat.zero_le _, rfl, HBW.out, HBL.out, HBM2.out, HX0'.out⟩
  case round =>
    obtain ⟨k, le, lc, hk, rfl, hb, hbl, hbm, hre⟩ := hrel
    have HB := Lib.hid hb
    have HBLr := Lib.hid hbl
    have HBMr := Lib.hid hbm
    have HRE := Lib.hid hre
    clear hb hbl hbm hre
    by_cases hkm : k < snaps.length
    · obtain ⟨sg, so, si, rfl, s0, s1, s2, hsi, s3, hsw⟩ := HSX.out k hkm
      replace s0 := cell_later HB.out s0
      replace s1 := cell_later HB.out s1
      replace s2 := cell_later HB.out s2
      replace s3 := cell_later HB.out s3
      have HST2 := Lib.hid (HST.out k hkm (le, lc))
      have l1 : (k : Int) < (snaps.length : Int) := by omega
      have HCI := Lib.hid (fun w2 (h : Below w.heap.size w w2) => check_any si _ blocks n w2 (hsi.keep h))
      obtain ⟨ia', ci', rfl, -, -⟩ := hsi.open_
      clear hsi
      generalize snaps.getD k snap0 = sn at *
      obtain ⟨⟨ge, gc⟩, zs, hd⟩ := sn
      dsimp only at *
      have x0 := (HBLr.out.alloc (Obj.cells #[.int .u64 ge, .int .u64 gc, .slice ia' zs.length ci', .bool hd] 48)).cell 0
      have x1 := (HBLr.out.alloc (Obj.cells #[.int .u64 ge, .int .u64 gc, .slice ia' zs.length ci', .bool hd] 48)).cell 1
      simp at x0 x1
      go_wp2_with fail
      have HOA := Lib.hid (fun w => order_any (ge, gc) (le, lc) w)
      unfold aggG at HOA
      refine (HOA.out _).mono ?_
      rintro e w3 ⟨rfl, hb3⟩
      have hop := ordG_pos (ge, gc) (le, lc)
      have hst := HST2.out
      try dsimp only at hst
      rw [← HRE.out] at hst
      have HBS := Lib.hid ((Blk.new wr 48 #[.int .u64 ge, .int .u64 gc, .slice ia' zs.length ci', .bool hd]).keep hb3)
      generalize ordG (ge, gc) (le, lc) = o at *
      generalize upG (le, lc) (ge, gc) = up at *
      have HB3 := Lib.hid ((HB.out.alloc HB.out.size (Obj.cells #[.int .u64 ge, .int .u64 gc, .slice ia' zs.length ci', .bool hd] 48)).trans (hb3.mono (by have := HB.out.size; simp; omega)))
      cases up with
      | false =>
        have ho : decide (o ≤ 0) = true := hop
        have HR := Lib.hid (show res = 2 by rw [HRES.out, hst]; simp)
        clear hst hop
        go_wp2
        go_ret
        exact ⟨by rw [HR.out]; rfl, HB3.out⟩
      | true =>
        have ho : decide (o ≤ 0) = false := hop
        have HBL3 := Lib.hid ((HBLr.out.alloc (Obj.cells #[.int .u64 ge, .int .u64 gc, .slice ia' zs.length ci', .bool hd] 48)).keep hb3)
        have HBM3 := Lib.hid ((HBMr.out.alloc (Obj.cells #[.int .u64 ge, .int .u64 gc, .slice ia' zs.length ci', .bool hd] 48)).keep hb3)
        have HC3 := Lib.hid (HCI.out _ HB3.out)
        have x2 := HBS.out.cell 2
        simp at x2
        generalize chkOf zs blocks n = ck at *
        have HST3 := Lib.hid hst
        clear hst hop hb3 HCI HOA HST HTK HST2 HBLr HBMr HB
        go_wp2_with fail
        refine HC3.out.mono ?_
        rintro e w4 ⟨rfl, hb4⟩
        have HB4 := Lib.hid (HB3.out.trans (hb4.mono HB3.out.size))
        have HBL4 := Lib.hid (HBL3.out.keep hb4)
        have HBM4 := Lib.hid (HBM3.out.keep hb4)
        have HBS4 := Lib.hid (HBS.out.keep hb4)
        have y0 := HBS4.out.cell 0
        have y1 := HBS4.out.cell 1
        simp at y0 y1
        clear hb4 HC3 HBL3 HBM3 HBS
        by_cases h1 : ck = 0
        · have e1 : (ck != 0) = false := by simp [h1]
          have HRE3 := Lib.hid (show X0 = snOf (snaps.drop (k + 1)) (ge, gc) blocks n by rw [HST3.out]; simp [h1])
          go_wp2_with (refine wpList_store_then rfl 26 _ _ rfl gl #[.int .u64 ge, .int .u64 gc] rfl rfl 26 _ HBL4.out (by kernel_rfl) rfl (gcells_one _ _) ?_)
          refine Later.mk fun w6 hw6 => ?_
          have HBL6 := Lib.hid (show Blk w6 gl 26 #[.int .u64 ge, .int .u64 gc] by rw [hw6]; exact HBL4.out.row _)
          have HBM6 := Lib.hid (show Blk w6 w.heap.size 30 _ by rw [hw6]; exact HBM4.out.farRow (by have := HGN.out; omega) _)
          have HB6 := Lib.hid (show Below w.heap.size w w6 by rw [hw6]; exact Below.setRow HB4.out HGL.out _)
          clear hw6 HBL4 HBM4 HB4 HBS4 y0 y1 h1 HST3 HRE
          have HKM := Lib.hid hkm
          have I9 := Lib.hid (show wrap64 ((k : Int) + 1) = (k : Int) + 1 from IntWalk.wrap64_in _ (by omega))
          clear hkm hk i2 l1
          go_wp2
          rw [I9.out]
          clear I9
          exact ⟨⟨k + 1, ge, gc, HKM.out, by simp, HB6.out, HBL6.out, HBM6.out, HRE3.out⟩, meas_succ HKM.out⟩
        · have e1 : (ck != 0) = true := by simp [h1]
          have HR := Lib.hid (show res = ck by rw [HRES.out, HST3.out]; simp [h1])
          go_wp2
          go_ret
          exact ⟨by rw [HR.out]; rfl, HB4.out⟩
    · obtain rfl : k = snaps.length := by omega
      have HR := Lib.hid (show res = tokOf ⟨(b1, b2), (t1, t2), nx, al, im⟩ (le, lc) blocks n by rw [HRES.out, HRE.out, List.drop_length]; rfl)
      have HT2 := Lib.hid (HTK.out (le, lc) wr HB.out)
      unfold aggG at HT2
      try dsimp only at HT2
      have x0 := HBLr.out.cell 0
      have x1 := HBLr.out.cell 1
      have y2 := HBMr.out.cell 2
      have y3 := HBMr.out.cell 3
      have y4 := HBMr.out.cell 4
      have y5 := HBMr.out.cell 5
      have y6 := HBMr.out.cell 6
      have y7 := HBMr.out.cell 7
      have y8 := HBMr.out.cell 8
      simp at x0 x1 y2 y3 y4 y5 y6 y7 y8
      clear HBLr HBMr HRE HTK HST HSX HBL HBM2 HRES HX HX0' hk hkm
      go_wp2_with fail
      refine HT2.out.mono ?_
      rintro e w4 ⟨rfl, hb4⟩
      have HB4 := Lib.hid (HB.out.trans (hb4.mono HB.out.size))
      clear hb4 HT2
      go_wp2
      go_ret
      exact ⟨by rw [HR.out]; rfl, HB4.out⟩
theorem checkM_any (w : World) (v : Value) (m : Mt) (blocks n : Int) (hv : InMt w v m) :
    Calls Try.prog 10 #[v, .int .i64 blocks, .int .i64 n] w fun e w' => e = .returned (.int .i64 (mtOf m blocks n)) ∧ Below w.heap.size w w' := by
  by_cases h0 : chkOf m.live blocks n = 0
  · by_cases h2 : 20 < m.snaps.length
    · exact checkM_long w v m blocks n hv h0 h2
    · exact checkM_main w v m blocks n hv h0 h2
  · exact checkM_live w v m blocks n hv h0
end Go.Proofs.Ytimgecflcackbaa
