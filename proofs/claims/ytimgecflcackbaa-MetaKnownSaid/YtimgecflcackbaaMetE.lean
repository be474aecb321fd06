/-
  META: meta.Check, its early ends (the loop is still to come).
-/
import Derived.Test.YtimgecflcackbaaMetD
namespace Go.Proofs.Ytimgecflcackbaa
open Go.RowKit Reg

set_option maxRecDepth 100000 in
set_option maxHeartbeats 1000000 in
theorem checkM_live (w : World) (v : Value) (m : Mt) (blocks n : Int) (hv : InMt w v m) (h0 : chkOf m.live blocks n ≠ 0) :
    Calls Try.prog 10 #[v, .int .i64 blocks, .int .i64 n] w fun e w' => e = .returned (.int .i64 (mtOf m blocks n)) ∧ Below w.heap.size w w' := by
  obtain ⟨lv, sv, iv, rfl, hl, hs, hi, hw⟩ := hv
  have HCK := Lib.hid (fun w2 (h : Below w.heap.size w w2) => check_any lv m.live blocks n w2 (hl.keep h))
  have hres : mtOf m blocks n = chkOf m.live blocks n := if_pos h0
  rw [hres]
  generalize chkOf m.live blocks n = ck at *
  obtain ⟨live, snaps, ⟨⟨b1, b2⟩, ⟨t1, t2⟩, nx, al, im⟩⟩ := m
  unfold mtV
  dsimp only at *
  have e0 : (ck != 0) = true := by simp [h0]
  have HBO := Lib.hid ((Below.refl w.heap.size w).alloc (Nat.le_refl _) (Obj.cells #[lv, sv, .int .u64 b1, .int .u64 b2, .int .u64 t1, .int .u64 t2, .int .i64 nx, .int .i64 al, iv] 30))
  obtain ⟨la, lc, rfl, -, -⟩ := hl.open_
  obtain ⟨sa, sc, rfl, -, -⟩ := hs
  obtain ⟨ia, ic, rfl, -, -⟩ := hi.open_
  have HC2 := Lib.hid (HCK.out _ HBO.out)
  clear hl hi hw h0 hres HCK
  go_enter Try.func10, Try.ntmps10
  go_wp2_with fail
  refine HC2.out.mono ?_
  rintro e w2 ⟨rfl, hb⟩
  have HB2 := Lib.hid (HBO.out.trans (hb.mono HBO.out.size))
  clear hb HC2 HBO
  go_wp2
  go_ret
  exact ⟨rfl, HB2.out⟩
set_option maxRecDepth 100000 in
set_option maxHeartbeats 1000000 in
theorem checkM_long (w : World) (v : Value) (m : Mt) (blocks n : Int) (hv : InMt w v m) (h0 : chkOf m.live blocks n = 0) (h2 : 20 < m.snaps.length) :
    Calls Try.prog 10 #[v, .int .i64 blocks, .int .i64 n] w fun e w' => e = .returned (.int .i64 (mtOf m blocks n)) ∧ Below w.heap.size w w' := by
  obtain ⟨lv, sv, iv, rfl, hl, hs, hi, hw⟩ := hv
  have HCK := Lib.hid (fun w2 (h : Below w.heap.size w w2) => check_any lv m.live blocks n w2 (hl.keep h))
  rw [h0] at HCK
  have hres : mtOf m blocks n = 3 := by unfold mtOf; rw [if_neg (fun h => h h0), if_pos h2]
  rw [hres]
  obtain ⟨live, snaps, ⟨⟨b1, b2⟩, ⟨t1, t2⟩, nx, al, im⟩⟩ := m
  unfold mtV
  dsimp only at *
  have HBO := Lib.hid ((Below.refl w.heap.size w).alloc (Nat.le_refl _) (Obj.cells #[lv, sv, .int .u64 b1, .int .u64 b2, .int .u64 t1, .int .u64 t2, .int .i64 nx, .int .i64 al, iv] 30))
  obtain ⟨la, lc, rfl, -, -⟩ := hl.open_
  obtain ⟨sa, sc, rfl, -, -⟩ := hs
  obtain ⟨ia, ic, rfl, -, -⟩ := hi.open_
  have i2 : (20 : Int) < (snaps.length : Int) := by omega
  generalize snaps.length = mm at *
  have HBX := Lib.hid (Blk.new w 30 #[.slice la live.length lc, .slice sa mm sc, .int .u64 b1, .int .u64 b2, .int .u64 t1, .int .u64 t2, .int .i64 nx, .int .i64 al, .slice ia im.length ic])
  have HC2 := Lib.hid (HCK.out _ HBO.out)
  clear hl hi hw h0 h2 hres HCK
  go_enter Try.func10, Try.ntmps10
  go_wp2_with fail
  refine HC2.out.mono ?_
  rintro e w2 ⟨rfl, hb⟩
  have HB2 := Lib.hid (HBO.out.trans (hb.mono HBO.out.size))
  have x1 := (HBX.out.keep hb).cell 1
  simp at x1
  clear hb HC2 HBO HBX
  go_wp2
  go_ret
  exact ⟨rfl, HB2.out⟩
end Go.Proofs.Ytimgecflcackbaa
