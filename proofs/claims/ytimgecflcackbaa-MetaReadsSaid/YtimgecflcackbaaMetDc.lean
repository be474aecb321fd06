/-
  META: the law MetaReads, walked (printed by wip/gen-metdc.py).
-/
import Derived.Test.YtimgecflcackbaaMetDb
import Derived.Test.YtimgecflcackbaaMetW
import Derived.Test.YtimgecflcackbaaMetT
namespace Go.Proofs.Ytimgecflcackbaa
open Go.RowKit Reg Go.ChangeShapes

theorem capR_le {n : Nat} (h : n ≤ 100) : capR n = n := by unfold capR; omega
theorem sameRw (w : World) {u v : Value} {m : Mt} (hu : InMt w u m) (hv : InMt w v m) : Calls Try.prog 16 #[u, v] w fun e w' => e = .returned (.bool true) ∧ Below w.heap.size w w' := by
  have := sameRM_any w u v m m hu hv
  rwa [sameM_refl] at this
set_option maxRecDepth 100000 in
set_option maxHeartbeats 4000000 in
theorem law_MetaReads (s : ByteArray) (w : World) (_ : s.size ≤ reachBytes) : Calls Try.prog 5 #[.string s] w fun e w' => e = .returned (.bool true) ∧ Below w.heap.size w w' := by
  obtain ⟨K, hK⟩ : ∃ K, K = min s.size 2000 := ⟨_, rfl⟩
  obtain ⟨Y, hY⟩ : ∃ Y, s.extract 0 K = Y := ⟨_, rfl⟩
  have hYs : Y.size ≤ 2000 := by rw [← hY]; simp; omega
  have hmin : min ((s.size : Nat) : Int) 2000 = (K : Int) := by omega
  have hk1 : (K : Int) ≤ s.size := by omega
  have hk0 : (0 : Int) ≤ (K : Int) := by omega
  have hk2 : K ≤ s.size := by omega
  have hag := dec_agree Y (c := 1024) (c' := 1048576) (fb := capB) (fs := capS) (fb' := capR) (fs' := capR) ⟨by decide, by decide⟩ (fun _ => capB_le) (fun _ => capS_le) ⟨by decide, by decide⟩ (fun n h => capR_le (by omega)) (fun n h => capR_le (by omega))
  have h1 := fun w => dec_any w Y (by omega)
  have h2 := fun w => decR_any w Y (by omega)
  rw [← hag.1, ← hag.2] at h2
  generalize decM (readM 1024 capB capS Y) Y = dm at *
  generalize decZ (readM 1024 capB capS Y) Y = dz at *
  have HD1 := Lib.hid (fun w => (h1 w).mono fun _ _ h => h.z)
  have HD2 := Lib.hid (fun w => (h2 w).mono fun _ _ h => h.z)
  have HB := Lib.hid (Below.refl w.heap.size w)
  clear hK hYs hag h1 h2
  go_enter Try.func5, Try.ntmps5
  go_wp2_with fail
  clear hmin hk1 hk0 hk2 hY
  refine (HD1.out _).mono ?_
  rintro e wx ⟨lb, kb, sb, tb, ib, jb, rfl, hi, hb⟩
  replace HB := Lib.hid (HB.out.trans (hb.mono HB.out.size))
  have hbx := (Below.refl wx.heap.size wx).alloc (Nat.le_refl _) (Obj.cells #[.slice lb dm.live.length kb, .slice sb dm.snaps.length tb, .int .u64 dm.token.base.1, .int .u64 dm.token.base.2, .int .u64 dm.token.target.1, .int .u64 dm.token.target.2, .int .i64 dm.token.next, .int .i64 dm.token.all, .slice ib dm.token.image.length jb] 30)
  have HX := Lib.hid (Blk.new wx 30 #[.slice lb dm.live.length kb, .slice sb dm.snaps.length tb, .int .u64 dm.token.base.1, .int .u64 dm.token.base.2, .int .u64 dm.token.target.1, .int .u64 dm.token.target.2, .int .i64 dm.token.next, .int .i64 dm.token.all, .slice ib dm.token.image.length jb])
  have HXI := Lib.hid (hi.keep hbx)
  replace HB := Lib.hid (HB.out.trans (hbx.mono HB.out.size))
  clear hb hi hbx
  go_wp2_with fail
  generalize wx.alloc (Obj.cells #[.slice lb dm.live.length kb, .slice sb dm.snaps.length tb, .int .u64 dm.token.base.1, .int .u64 dm.token.base.2, .int .u64 dm.token.target.1, .int .u64 dm.token.target.2, .int .i64 dm.token.next, .int .i64 dm.token.all, .slice ib dm.token.image.length jb] 30) = wy at *
  generalize wx.heap.size = gx at *
  refine (HD2.out _).mono ?_
  rintro e wz ⟨lq, kq, sq, tq, iq, jq, rfl, hi, hb⟩
  replace HB := Lib.hid (HB.out.trans (hb.mono HB.out.size))
  have hbx := (Below.refl wz.heap.size wz).alloc (Nat.le_refl _) (Obj.cells #[.slice lq dm.live.length kq, .slice sq dm.snaps.length tq, .int .u64 dm.token.base.1, .int .u64 dm.token.base.2, .int .u64 dm.token.target.1, .int .u64 dm.token.target.2, .int .i64 dm.token.next, .int .i64 dm.token.all, .slice iq dm.token.image.length jq] 30)
  have hx := (HX.out.keep hb).keep hbx
  have HXI2 := Lib.hid ((HXI.out.keep hb).keep hbx)
  have HQI := Lib.hid (hi.keep hbx)
  replace HB := Lib.hid (HB.out.trans (hbx.mono HB.out.size))
  have x0 := hx.cell 0
  have x1 := hx.cell 1
  have x2 := hx.cell 2
  have x3 := hx.cell 3
  have x4 := hx.cell 4
  have x5 := hx.cell 5
  have x6 := hx.cell 6
  have x7 := hx.cell 7
  have x8 := hx.cell 8
  simp at x0 x1 x2 x3 x4 x5 x6 x7 x8
  clear hb hi hbx hx HX HXI
  go_wp2_with fail
  generalize wz.alloc (Obj.cells #[.slice lq dm.live.length kq, .slice sq dm.snaps.length tq, .int .u64 dm.token.base.1, .int .u64 dm.token.base.2, .int .u64 dm.token.target.1, .int .u64 dm.token.target.2, .int .i64 dm.token.next, .int .i64 dm.token.all, .slice iq dm.token.image.length jq] 30) = wu at *
  clear x0 x1 x2 x3 x4 x5 x6 x7 x8
  refine (sameRw _ HXI2.out HQI.out).mono ?_
  rintro e wv ⟨rfl, hb⟩
  replace HB := Lib.hid (HB.out.trans (hb.mono HB.out.size))
  clear hb HXI2 HQI
  go_wp2_with fail
  refine (works_any _).mono ?_
  rintro e wz ⟨rfl, hb⟩
  replace HB := Lib.hid (HB.out.trans (hb.mono HB.out.size))
  clear hb
  go_wp2
  go_ret
  exact ⟨rfl, HB.out⟩
end Go.Proofs.Ytimgecflcackbaa
