/-
  MESSAGES: the law MsgChecks (printed by wip/gen-mschk.py).
-/
import Derived.Test.YtikimmhkfjaijaaGreatMsRE
namespace Go.Proofs.YtikimmhkfjaijaaGreat
open Go.RowKit Reg Go.ChangeShapes

set_option maxRecDepth 100000 in
set_option maxHeartbeats 8000000 in
theorem law_MsgChecks (u : Value) (x : Ms) (v : Value) (y : Ms) (w : World) (hu : InMs w u x) (_ : True) (hv : InMs w v y) (_ : True) : Calls Tryz.prog 3 #[u, v] w fun e w' => e = .returned (.bool true) ∧ Below w.heap.size w w' := by
  have HENC := Lib.hid (fun w2 (h : Below w.heap.size w w2) => mencode_any w2 u x (hu.keep h))
  have HENR := Lib.hid (fun w2 (h : Below w.heap.size w w2) => rencode_any w2 u x (hu.keep h))
  have HCX := Lib.hid (fun w2 (h : Below w.heap.size w w2) => mcheck_any w2 u x (hu.keep h))
  have HRX := Lib.hid (fun w2 (h : Below w.heap.size w w2) => rcheck_any w2 u x (hu.keep h))
  have HCY := Lib.hid (fun w2 (h : Below w.heap.size w w2) => mcheck_any w2 v y (hv.keep h))
  have HRY := Lib.hid (fun w2 (h : Below w.heap.size w w2) => rcheck_any w2 v y (hv.keep h))
  have HS := Lib.hid (fun w2 (h : Below w.heap.size w w2) => msame_any w2 u v x y (hu.keep h) (hv.keep h))
  have HSR := Lib.hid (fun w2 (h : Below w.heap.size w w2) => rsame_any w2 u v x y (hu.keep h) (hv.keep h))
  have HSX := Lib.hid (fun w2 (h : Below w.heap.size w w2) => msame_any w2 u u x x (hu.keep h) (hu.keep h))
  rw [sameM_iff.2 (rfl : x = x)] at HSX
  have HW := Lib.hid works_any
  obtain ⟨ma, a1, a2, a3, c1, c2, c3, rfl, hone, hsz, hma, -, -, -, -⟩ := ms_cells hu
  obtain ⟨mb, b1, b2, b3, d1, d2, d3, rfl, hone2, hsz2, hmb, -, -, -, -⟩ := ms_cells hv
  have HB := Lib.hid (((Below.refl w.heap.size w).alloc (Nat.le_refl _) (Obj.cells ma 33)).alloc (by simp) (Obj.cells mb 33))
  have HMA := Lib.hid ((Blk.new w 33 ma).alloc (Obj.cells mb 33))
  have HMB := Lib.hid (Blk.newAt (w := w.alloc (.cells ma 33)) 33 mb (g := w.heap.size + 1) (by simp))
  have HONE := Lib.hid hone
  have HSZ := Lib.hid hsz
  have HONE2 := Lib.hid hone2
  have HSZ2 := Lib.hid hsz2
  clear hu hv hma hmb hone hsz hone2 hsz2
  generalize encM x = E at *
  generalize checkM x = cx at *
  generalize checkM y = cy at *
  generalize sameM x y = sb at *
  have hEE : (E.toList == E.toList) = true := by simp
  have hsb : (sb == sb) = true := by simp
  go_enter Tryz.func3, Tryz.ntmps3
  go_upto_region 1 with fail
  generalize (w.alloc (Obj.cells ma 33)).alloc (Obj.cells mb 33) = w1 at *
  go_wp2_with (first | refine wpList_wanted_run (by rfl) (.agg ma) (exec_load_blk 33 _ rfl w.heap.size rfl _ HMA.out Tryz.underlying33 rfl HSZ.out) ?_)
  refine (HENC.out _ HB.out).mono ?_
  rintro e w2 ⟨rfl, hb⟩
  replace HB := Lib.hid (HB.out.trans (hb.mono HB.out.size))
  replace HMA := Lib.hid (HMA.out.keep hb)
  replace HMB := Lib.hid (HMB.out.keep hb)
  clear hb HENC
  go_wp2_with (first | refine wpList_wanted_run (by rfl) (.agg ma) (exec_load_blk 33 _ rfl w.heap.size rfl _ HMA.out Tryz.underlying33 rfl HSZ.out) ?_)
  refine (HENR.out _ HB.out).mono ?_
  rintro e w3 ⟨rfl, hb⟩
  replace HB := Lib.hid (HB.out.trans (hb.mono HB.out.size))
  replace HMA := Lib.hid (HMA.out.keep hb)
  replace HMB := Lib.hid (HMB.out.keep hb)
  clear hb HENR
  go_wp2_with fail
  refine wp_region_chain [1, 3, 7, 9, 15, 18, 24, 37] (kv [(1, .is (.int .i64 cx)), (3, .is (.int .i64 cx)), (7, .is (.int .i64 cy)), (9, .is (.int .i64 cy)), (15, .is (.bool sb)), (18, .is (.bool sb)), (24, .is (.bool true)), (37, .is (.bool true))]) (fun _ w => Below (w3).heap.size (w3) w) (by kernel_rfl) (by kernel_rfl) (by kernel_rfl) (kv_inh _) (Below.drew (Below.refl _ _)) ?_
  intro ν hν
  have n1 : ν 1 = .int .i64 cx := hν 1
  have n3 : ν 3 = .int .i64 cx := hν 3
  have n7 : ν 7 = .int .i64 cy := hν 7
  have n9 : ν 9 = .int .i64 cy := hν 9
  have n15 : ν 15 = .bool sb := hν 15
  have n18 : ν 18 = .bool sb := hν 18
  have n24 : ν 24 = .bool true := hν 24
  have n37 : ν 37 = .bool true := hν 37
  clear hν
  refine ch_plain 0 8 1 (by rfl) rfl (by kernel_rfl) (by kernel_rfl) ?_
  apply Exists.intro
  refine ⟨fun st w2 hlo hhi hJ => ?_, ?_⟩
  · have hJ' : Below w3.heap.size w3 w2 := hJ
    have hy := HMA.out.keep hJ'
    clear hlo hhi hJ hJ'
    rw [exec_load_blk 33 _ rfl w.heap.size rfl _ hy Tryz.underlying33 rfl HSZ.out]
    exact And.intro rfl rfl
  simp only [Act.put, List.setIfInBounds_toArray, List.set_cons_succ, List.set_cons_zero, Nat.reduceAdd]
  refine ch_special 0 6 (by rfl) rfl (by decide) (by kernel_rfl) (fun w2 hJ => ?_) ?_
  · replace hJ : Below (w3).heap.size (w3) w2 := hJ
    go_simp
    refine (HCX.out w2 (HB.out.trans (hJ.mono HB.out.size))).mono ?_
    rintro e w3 ⟨rfl, hb⟩
    exact ⟨_, rfl, rfl, hJ.trans (hb.mono hJ.size)⟩
  rw [n1]
  simp only [Act.put, List.setIfInBounds_toArray, List.set_cons_succ, List.set_cons_zero, Nat.reduceAdd]
  refine ch_plain 0 8 1 (by rfl) rfl (by kernel_rfl) (by kernel_rfl) ?_
  apply Exists.intro
  refine ⟨fun st w2 hlo hhi hJ => ?_, ?_⟩
  · have hJ' : Below w3.heap.size w3 w2 := hJ
    have hy := HMA.out.keep hJ'
    clear hlo hhi hJ hJ'
    rw [exec_load_blk 33 _ rfl w.heap.size rfl _ hy Tryz.underlying33 rfl HSZ.out]
    exact And.intro rfl rfl
  simp only [Act.put, List.setIfInBounds_toArray, List.set_cons_succ, List.set_cons_zero, Nat.reduceAdd]
  refine ch_special 1 6 (by rfl) rfl (by decide) (by kernel_rfl) (fun w2 hJ => ?_) ?_
  · replace hJ : Below (w3).heap.size (w3) w2 := hJ
    go_simp
    refine (HRX.out w2 (HB.out.trans (hJ.mono HB.out.size))).mono ?_
    rintro e w3 ⟨rfl, hb⟩
    exact ⟨_, rfl, rfl, hJ.trans (hb.mono hJ.size)⟩
  rw [n3]
  simp only [Act.put, List.setIfInBounds_toArray, List.set_cons_succ, List.set_cons_zero, Nat.reduceAdd]
  refine ch_plain 0 8 1 (by rfl) rfl (by kernel_rfl) (by kernel_rfl) ?_
  apply Exists.intro
  refine ⟨fun st w2 hlo hhi hJ => ?_, ?_⟩
  · clear hlo hhi hJ
    go_simp
    exact And.intro rfl rfl
  simp only [Act.put, List.setIfInBounds_toArray, List.set_cons_succ, List.set_cons_zero, Nat.reduceAdd]
  refine ch_plain 0 8 1 (by rfl) rfl (by kernel_rfl) (by kernel_rfl) ?_
  apply Exists.intro
  refine ⟨fun st w2 hlo hhi hJ => ?_, ?_⟩
  · clear hlo hhi hJ
    go_simp
    exact And.intro rfl rfl
  simp only [Act.put, List.setIfInBounds_toArray, List.set_cons_succ, List.set_cons_zero, Nat.reduceAdd]
  refine ch_plain 0 8 1 (by rfl) rfl (by kernel_rfl) (by kernel_rfl) ?_
  apply Exists.intro
  refine ⟨fun st w2 hlo hhi hJ => ?_, ?_⟩
  · have hJ' : Below w3.heap.size w3 w2 := hJ
    have hy := HMB.out.keep hJ'
    clear hlo hhi hJ hJ'
    rw [exec_load_blk 33 _ rfl (w.heap.size + 1) rfl _ hy Tryz.underlying33 rfl HSZ2.out]
    exact And.intro rfl rfl
  simp only [Act.put, List.setIfInBounds_toArray, List.set_cons_succ, List.set_cons_zero, Nat.reduceAdd]
  refine ch_special 2 6 (by rfl) rfl (by decide) (by kernel_rfl) (fun w2 hJ => ?_) ?_
  · replace hJ : Below (w3).heap.size (w3) w2 := hJ
    go_simp
    refine (HCY.out w2 (HB.out.trans (hJ.mono HB.out.size))).mono ?_
    rintro e w3 ⟨rfl, hb⟩
    exact ⟨_, rfl, rfl, hJ.trans (hb.mono hJ.size)⟩
  rw [n7]
  simp only [Act.put, List.setIfInBounds_toArray, List.set_cons_succ, List.set_cons_zero, Nat.reduceAdd]
  refine ch_plain 0 8 1 (by rfl) rfl (by kernel_rfl) (by kernel_rfl) ?_
  apply Exists.intro
  refine ⟨fun st w2 hlo hhi hJ => ?_, ?_⟩
  · have hJ' : Below w3.heap.size w3 w2 := hJ
    have hy := HMB.out.keep hJ'
    clear hlo hhi hJ hJ'
    rw [exec_load_blk 33 _ rfl (w.heap.size + 1) rfl _ hy Tryz.underlying33 rfl HSZ2.out]
    exact And.intro rfl rfl
  simp only [Act.put, List.setIfInBounds_toArray, List.set_cons_succ, List.set_cons_zero, Nat.reduceAdd]
  refine ch_special 3 6 (by rfl) rfl (by decide) (by kernel_rfl) (fun w2 hJ => ?_) ?_
  · replace hJ : Below (w3).heap.size (w3) w2 := hJ
    go_simp
    refine (HRY.out w2 (HB.out.trans (hJ.mono HB.out.size))).mono ?_
    rintro e w3 ⟨rfl, hb⟩
    exact ⟨_, rfl, rfl, hJ.trans (hb.mono hJ.size)⟩
  rw [n9]
  simp only [Act.put, List.setIfInBounds_toArray, List.set_cons_succ, List.set_cons_zero, Nat.reduceAdd]
  refine ch_plain 0 8 1 (by rfl) rfl (by kernel_rfl) (by kernel_rfl) ?_
  apply Exists.intro
  refine ⟨fun st w2 hlo hhi hJ => ?_, ?_⟩
  · clear hlo hhi hJ
    go_simp
    exact And.intro rfl rfl
  simp only [Act.put, List.setIfInBounds_toArray, List.set_cons_succ, List.set_cons_zero, Nat.reduceAdd]
  refine ch_plain 0 8 1 (by rfl) rfl (by kernel_rfl) (by kernel_rfl) ?_
  apply Exists.intro
  refine ⟨fun st w2 hlo hhi hJ => ?_, ?_⟩
  · clear hlo hhi hJ
    go_simp
    exact And.intro rfl rfl
  simp only [Act.put, List.setIfInBounds_toArray, List.set_cons_succ, List.set_cons_zero, Nat.reduceAdd]
  refine ch_plain 0 8 1 (by rfl) rfl (by kernel_rfl) (by kernel_rfl) ?_
  apply Exists.intro
  refine ⟨fun st w2 hlo hhi hJ => ?_, ?_⟩
  · clear hlo hhi hJ
    go_simp
    exact And.intro rfl rfl
  simp only [Act.put, List.setIfInBounds_toArray, List.set_cons_succ, List.set_cons_zero, Nat.reduceAdd]
  refine ch_plain 0 8 1 (by rfl) rfl (by kernel_rfl) (by kernel_rfl) ?_
  apply Exists.intro
  refine ⟨fun st w2 hlo hhi hJ => ?_, ?_⟩
  · have hJ' : Below w3.heap.size w3 w2 := hJ
    have hy := HMA.out.keep hJ'
    clear hlo hhi hJ hJ'
    rw [exec_load_blk 33 _ rfl w.heap.size rfl _ hy Tryz.underlying33 rfl HSZ.out]
    exact And.intro rfl rfl
  simp only [Act.put, List.setIfInBounds_toArray, List.set_cons_succ, List.set_cons_zero, Nat.reduceAdd]
  refine ch_plain 0 8 1 (by rfl) rfl (by kernel_rfl) (by kernel_rfl) ?_
  apply Exists.intro
  refine ⟨fun st w2 hlo hhi hJ => ?_, ?_⟩
  · have hJ' : Below w3.heap.size w3 w2 := hJ
    have hy := HMB.out.keep hJ'
    clear hlo hhi hJ hJ'
    rw [exec_load_blk 33 _ rfl (w.heap.size + 1) rfl _ hy Tryz.underlying33 rfl HSZ2.out]
    exact And.intro rfl rfl
  simp only [Act.put, List.setIfInBounds_toArray, List.set_cons_succ, List.set_cons_zero, Nat.reduceAdd]
  refine ch_special 4 6 (by rfl) rfl (by decide) (by kernel_rfl) (fun w2 hJ => ?_) ?_
  · replace hJ : Below (w3).heap.size (w3) w2 := hJ
    go_simp
    refine (HS.out w2 (HB.out.trans (hJ.mono HB.out.size))).mono ?_
    rintro e w3 ⟨rfl, hb⟩
    exact ⟨_, rfl, rfl, hJ.trans (hb.mono hJ.size)⟩
  rw [n15]
  simp only [Act.put, List.setIfInBounds_toArray, List.set_cons_succ, List.set_cons_zero, Nat.reduceAdd]
  refine ch_plain 0 8 1 (by rfl) rfl (by kernel_rfl) (by kernel_rfl) ?_
  apply Exists.intro
  refine ⟨fun st w2 hlo hhi hJ => ?_, ?_⟩
  · have hJ' : Below w3.heap.size w3 w2 := hJ
    have hy := HMA.out.keep hJ'
    clear hlo hhi hJ hJ'
    rw [exec_load_blk 33 _ rfl w.heap.size rfl _ hy Tryz.underlying33 rfl HSZ.out]
    exact And.intro rfl rfl
  simp only [Act.put, List.setIfInBounds_toArray, List.set_cons_succ, List.set_cons_zero, Nat.reduceAdd]
  refine ch_plain 0 8 1 (by rfl) rfl (by kernel_rfl) (by kernel_rfl) ?_
  apply Exists.intro
  refine ⟨fun st w2 hlo hhi hJ => ?_, ?_⟩
  · have hJ' : Below w3.heap.size w3 w2 := hJ
    have hy := HMB.out.keep hJ'
    clear hlo hhi hJ hJ'
    rw [exec_load_blk 33 _ rfl (w.heap.size + 1) rfl _ hy Tryz.underlying33 rfl HSZ2.out]
    exact And.intro rfl rfl
  simp only [Act.put, List.setIfInBounds_toArray, List.set_cons_succ, List.set_cons_zero, Nat.reduceAdd]
  refine ch_special 5 6 (by rfl) rfl (by decide) (by kernel_rfl) (fun w2 hJ => ?_) ?_
  · replace hJ : Below (w3).heap.size (w3) w2 := hJ
    go_simp
    refine (HSR.out w2 (HB.out.trans (hJ.mono HB.out.size))).mono ?_
    rintro e w3 ⟨rfl, hb⟩
    exact ⟨_, rfl, rfl, hJ.trans (hb.mono hJ.size)⟩
  rw [n18]
  simp only [Act.put, List.setIfInBounds_toArray, List.set_cons_succ, List.set_cons_zero, Nat.reduceAdd]
  refine ch_plain 0 8 1 (by rfl) rfl (by kernel_rfl) (by kernel_rfl) ?_
  apply Exists.intro
  refine ⟨fun st w2 hlo hhi hJ => ?_, ?_⟩
  · clear hlo hhi hJ
    go_simp
    exact And.intro rfl rfl
  simp only [Act.put, List.setIfInBounds_toArray, List.set_cons_succ, List.set_cons_zero, Nat.reduceAdd]
  refine ch_plain 0 8 1 (by rfl) rfl (by kernel_rfl) (by kernel_rfl) ?_
  apply Exists.intro
  refine ⟨fun st w2 hlo hhi hJ => ?_, ?_⟩
  · clear hlo hhi hJ
    go_simp
    exact And.intro rfl rfl
  simp only [Act.put, List.setIfInBounds_toArray, List.set_cons_succ, List.set_cons_zero, Nat.reduceAdd]
  refine ch_plain 0 8 1 (by rfl) rfl (by kernel_rfl) (by kernel_rfl) ?_
  apply Exists.intro
  refine ⟨fun st w2 hlo hhi hJ => ?_, ?_⟩
  · clear hlo hhi hJ
    go_simp
    exact And.intro rfl rfl
  simp only [Act.put, List.setIfInBounds_toArray, List.set_cons_succ, List.set_cons_zero, Nat.reduceAdd]
  refine ch_plain 0 8 1 (by rfl) rfl (by kernel_rfl) (by kernel_rfl) ?_
  apply Exists.intro
  refine ⟨fun st w2 hlo hhi hJ => ?_, ?_⟩
  · have hJ' : Below w3.heap.size w3 w2 := hJ
    have hy := HMA.out.keep hJ'
    clear hlo hhi hJ hJ'
    rw [exec_load_blk 33 _ rfl w.heap.size rfl _ hy Tryz.underlying33 rfl HSZ.out]
    exact And.intro rfl rfl
  simp only [Act.put, List.setIfInBounds_toArray, List.set_cons_succ, List.set_cons_zero, Nat.reduceAdd]
  refine ch_plain 0 8 1 (by rfl) rfl (by kernel_rfl) (by kernel_rfl) ?_
  apply Exists.intro
  refine ⟨fun st w2 hlo hhi hJ => ?_, ?_⟩
  · have hJ' : Below w3.heap.size w3 w2 := hJ
    have hy := HMA.out.keep hJ'
    clear hlo hhi hJ hJ'
    rw [exec_load_blk 33 _ rfl w.heap.size rfl _ hy Tryz.underlying33 rfl HSZ.out]
    exact And.intro rfl rfl
  simp only [Act.put, List.setIfInBounds_toArray, List.set_cons_succ, List.set_cons_zero, Nat.reduceAdd]
  refine ch_special 6 6 (by rfl) rfl (by decide) (by kernel_rfl) (fun w2 hJ => ?_) ?_
  · replace hJ : Below (w3).heap.size (w3) w2 := hJ
    go_simp
    refine (HSX.out w2 (HB.out.trans (hJ.mono HB.out.size))).mono ?_
    rintro e w3 ⟨rfl, hb⟩
    exact ⟨_, rfl, rfl, hJ.trans (hb.mono hJ.size)⟩
  rw [n24]
  simp only [Act.put, List.setIfInBounds_toArray, List.set_cons_succ, List.set_cons_zero, Nat.reduceAdd]
  refine ch_plain 0 8 1 (by rfl) rfl (by kernel_rfl) (by kernel_rfl) ?_
  apply Exists.intro
  refine ⟨fun st w2 hlo hhi hJ => ?_, ?_⟩
  · clear hlo hhi hJ
    go_simp
    exact And.intro rfl rfl
  simp only [Act.put, List.setIfInBounds_toArray, List.set_cons_succ, List.set_cons_zero, Nat.reduceAdd]
  refine ch_plain 0 8 1 (by rfl) rfl (by kernel_rfl) (by kernel_rfl) ?_
  apply Exists.intro
  refine ⟨fun st w2 hlo hhi hJ => ?_, ?_⟩
  · clear hlo hhi hJ
    go_simp
    exact And.intro rfl rfl
  simp only [Act.put, List.setIfInBounds_toArray, List.set_cons_succ, List.set_cons_zero, Nat.reduceAdd]
  refine ch_plain 0 8 1 (by rfl) rfl (by kernel_rfl) (by kernel_rfl) ?_
  apply Exists.intro
  refine ⟨fun st w2 hlo hhi hJ => ?_, ?_⟩
  · clear hlo hhi hJ
    go_simp
    exact And.intro rfl rfl
  simp only [Act.put, List.setIfInBounds_toArray, List.set_cons_succ, List.set_cons_zero, Nat.reduceAdd]
  refine ch_plain 0 8 1 (by rfl) rfl (by kernel_rfl) (by kernel_rfl) ?_
  apply Exists.intro
  refine ⟨fun st w2 hlo hhi hJ => ?_, ?_⟩
  · clear hlo hhi hJ
    go_simp
    exact And.intro rfl rfl
  simp only [Act.put, List.setIfInBounds_toArray, List.set_cons_succ, List.set_cons_zero, Nat.reduceAdd]
  refine ch_plain 0 8 1 (by rfl) rfl (by kernel_rfl) (by kernel_rfl) ?_
  apply Exists.intro
  refine ⟨fun st w2 hlo hhi hJ => ?_, ?_⟩
  · clear hlo hhi hJ
    go_simp
    exact And.intro rfl rfl
  simp only [Act.put, List.setIfInBounds_toArray, List.set_cons_succ, List.set_cons_zero, Nat.reduceAdd]
  refine ch_plain 0 8 1 (by rfl) rfl (by kernel_rfl) (by kernel_rfl) ?_
  apply Exists.intro
  refine ⟨fun st w2 hlo hhi hJ => ?_, ?_⟩
  · clear hlo hhi hJ
    go_simp
    exact And.intro rfl rfl
  simp only [Act.put, List.setIfInBounds_toArray, List.set_cons_succ, List.set_cons_zero, Nat.reduceAdd]
  refine ch_plain 0 8 1 (by rfl) rfl (by kernel_rfl) (by kernel_rfl) ?_
  apply Exists.intro
  refine ⟨fun st w2 hlo hhi hJ => ?_, ?_⟩
  · clear hlo hhi hJ
    go_simp
    exact And.intro rfl rfl
  simp only [Act.put, List.setIfInBounds_toArray, List.set_cons_succ, List.set_cons_zero, Nat.reduceAdd]
  refine ch_plain 0 8 1 (by rfl) rfl (by kernel_rfl) (by kernel_rfl) ?_
  apply Exists.intro
  refine ⟨fun st w2 hlo hhi hJ => ?_, ?_⟩
  · clear hlo hhi hJ
    go_simp
    exact And.intro rfl rfl
  simp only [Act.put, List.setIfInBounds_toArray, List.set_cons_succ, List.set_cons_zero, Nat.reduceAdd]
  refine ch_plain 0 8 1 (by rfl) rfl (by kernel_rfl) (by kernel_rfl) ?_
  apply Exists.intro
  refine ⟨fun st w2 hlo hhi hJ => ?_, ?_⟩
  · clear hlo hhi hJ
    go_simp
    exact And.intro rfl rfl
  simp only [Act.put, List.setIfInBounds_toArray, List.set_cons_succ, List.set_cons_zero, Nat.reduceAdd]
  refine ch_plain 0 8 1 (by rfl) rfl (by kernel_rfl) (by kernel_rfl) ?_
  apply Exists.intro
  refine ⟨fun st w2 hlo hhi hJ => ?_, ?_⟩
  · clear hlo hhi hJ
    go_simp
    exact And.intro rfl rfl
  simp only [Act.put, List.setIfInBounds_toArray, List.set_cons_succ, List.set_cons_zero, Nat.reduceAdd]
  refine ch_plain 0 8 1 (by rfl) rfl (by kernel_rfl) (by kernel_rfl) ?_
  apply Exists.intro
  refine ⟨fun st w2 hlo hhi hJ => ?_, ?_⟩
  · clear hlo hhi hJ
    go_simp
    exact And.intro rfl rfl
  simp only [Act.put, List.setIfInBounds_toArray, List.set_cons_succ, List.set_cons_zero, Nat.reduceAdd]
  refine ch_plain 0 8 1 (by rfl) rfl (by kernel_rfl) (by kernel_rfl) ?_
  apply Exists.intro
  refine ⟨fun st w2 hlo hhi hJ => ?_, ?_⟩
  · clear hlo hhi hJ
    go_simp
    exact And.intro rfl rfl
  simp only [Act.put, List.setIfInBounds_toArray, List.set_cons_succ, List.set_cons_zero, Nat.reduceAdd]
  refine ch_special 7 6 (by rfl) rfl (by decide) (by kernel_rfl) (fun w2 hJ => ?_) ?_
  · replace hJ : Below (w3).heap.size (w3) w2 := hJ
    go_simp
    refine (HW.out w2).mono ?_
    rintro e w3 ⟨rfl, hb⟩
    exact ⟨_, rfl, rfl, hJ.trans (hb.mono hJ.size)⟩
  rw [n37]
  simp only [Act.put, List.setIfInBounds_toArray, List.set_cons_succ, List.set_cons_zero, Nat.reduceAdd]
  refine ch_plain 0 8 1 (by rfl) rfl (by kernel_rfl) (by kernel_rfl) ?_
  apply Exists.intro
  refine ⟨fun st w2 hlo hhi hJ => ?_, ?_⟩
  · clear hlo hhi hJ
    go_simp
    exact And.intro rfl rfl
  simp only [Act.put, List.setIfInBounds_toArray, List.set_cons_succ, List.set_cons_zero, Nat.reduceAdd]
  refine ch_plain 0 8 1 (by rfl) rfl (by kernel_rfl) (by kernel_rfl) ?_
  apply Exists.intro
  refine ⟨fun st w2 hlo hhi hJ => ?_, ?_⟩
  · clear hlo hhi hJ
    go_simp
    exact And.intro rfl rfl
  simp only [Act.put, Nat.reduceAdd]
  refine ch_nil (fun w5 hJ => ?_)
  replace hJ : Below (w3).heap.size (w3) w5 := hJ
  clear n1 n3 n7 n9 n15 n18 n24 n37
  replace HB := Lib.hid (HB.out.trans (hJ.mono HB.out.size))
  clear hJ
  go_wp2
  go_ret
  exact ⟨rfl, HB.out⟩
end Go.Proofs.YtikimmhkfjaijaaGreat
