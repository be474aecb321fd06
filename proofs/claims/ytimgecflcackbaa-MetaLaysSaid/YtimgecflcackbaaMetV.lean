/-
  META: the laws MetaChecks and MetaLays, walked (printed by wip/gen-metv.py).
-/
import Derived.Test.YtimgecflcackbaaMetU
namespace Go.Proofs.Ytimgecflcackbaa
open Go.RowKit Reg Go.ChangeShapes

set_option maxRecDepth 100000 in
set_option maxHeartbeats 4000000 in
theorem law_MetaChecks (v : Value) (m : Mt) (blocks n : Int) (w : World) (hv : InMt w v m) (_ : True) (_ : (Lit.int .i64 blocks).wf = true) (_ : (Lit.int .i64 n).wf = true) :
    Calls Try.prog 3 #[v, .int .i64 blocks, .int .i64 n] w fun e w' => e = .returned (.bool true) ∧ Below w.heap.size w w' := by
  have hin := hv
  obtain ⟨la, lc, sa, sc, ia, ic, rfl⟩ := hv.open_
  have hb0 := (Below.refl w.heap.size w).alloc (Nat.le_refl _) (Obj.cells #[.slice la m.live.length lc, .slice sa m.snaps.length sc, .int .u64 m.token.base.1, .int .u64 m.token.base.2, .int .u64 m.token.target.1, .int .u64 m.token.target.2, .int .i64 m.token.next, .int .i64 m.token.all, .slice ia m.token.image.length ic] 30)
  have HB := Lib.hid hb0
  have HP := Lib.hid (Blk.new w 30 #[.slice la m.live.length lc, .slice sa m.snaps.length sc, .int .u64 m.token.base.1, .int .u64 m.token.base.2, .int .u64 m.token.target.1, .int .u64 m.token.target.2, .int .i64 m.token.next, .int .i64 m.token.all, .slice ia m.token.image.length ic])
  have HI := Lib.hid (hin.keep hb0)
  clear hin hv hb0
  go_enter Try.func3, Try.ntmps3
  go_wp2_with fail
  generalize w.alloc (Obj.cells #[.slice la m.live.length lc, .slice sa m.snaps.length sc, .int .u64 m.token.base.1, .int .u64 m.token.base.2, .int .u64 m.token.target.1, .int .u64 m.token.target.2, .int .i64 m.token.next, .int .i64 m.token.all, .slice ia m.token.image.length ic] 30) = w0 at *
  refine (short_any w0 _ m HI.out).mono ?_
  generalize shortM m = sm at *
  rintro e w1 ⟨u, rfl, ho, hb⟩
  obtain ⟨la', lc', sa', sc', ia', ic', rfl⟩ := ho.inm.open_
  have HO := Lib.hid ho
  have HPL := Lib.hid HP.out.lt
  replace HB := Lib.hid (HB.out.trans (hb.mono HB.out.size))
  replace HP := Lib.hid (HP.out.keep hb)
  clear ho hb HI
  go_wp2_with (refine wpList_store_then rfl 30 _ _ rfl w.heap.size #[.slice la' sm.live.length lc', .slice sa' sm.snaps.length sc', .int .u64 sm.token.base.1, .int .u64 sm.token.base.2, .int .u64 sm.token.target.1, .int .u64 sm.token.target.2, .int .i64 sm.token.next, .int .i64 sm.token.all, .slice ia' sm.token.image.length ic'] rfl rfl 30 _ HP.out meta_size rfl (mt_one _ _ _ _ _ _ _ _ _ _ _ _ _ _ _) ?_)
  refine Later.mk fun wq hw2 => ?_
  have H2 := Lib.hid (show Below w.heap.size w wq ∧ Blk wq w.heap.size 30 #[.slice la' sm.live.length lc', .slice sa' sm.snaps.length sc', .int .u64 sm.token.base.1, .int .u64 sm.token.base.2, .int .u64 sm.token.target.1, .int .u64 sm.token.target.2, .int .i64 sm.token.next, .int .i64 sm.token.all, .slice ia' sm.token.image.length ic'] ∧ InMt wq (.agg #[.slice la' sm.live.length lc', .slice sa' sm.snaps.length sc', .int .u64 sm.token.base.1, .int .u64 sm.token.base.2, .int .u64 sm.token.target.1, .int .u64 sm.token.target.2, .int .i64 sm.token.next, .int .i64 sm.token.all, .slice ia' sm.token.image.length ic']) sm by
    rw [hw2]
    exact ⟨Below.setRow HB.out (Nat.le_refl _) _, HP.out.row _, (HO.out.kp (kp_row w1 w.heap.size #[.slice la' sm.live.length lc', .slice sa' sm.snaps.length sc', .int .u64 sm.token.base.1, .int .u64 sm.token.base.2, .int .u64 sm.token.target.1, .int .u64 sm.token.target.2, .int .i64 sm.token.next, .int .i64 sm.token.all, .slice ia' sm.token.image.length ic']) (fun b hb e => by have := HPL.out; omega)).inm⟩)
  clear hw2 HB HP HO HPL
  go_wp2_with fail
  obtain ⟨z1, hz1⟩ : ∃ z, z = mtOf sm blocks n := ⟨_, rfl⟩
  obtain ⟨z2, hz2⟩ : ∃ z, z = mtOf sm sm.live.length n := ⟨_, rfl⟩
  have HC1 := Lib.hid (fun w3 (h : Below wq.heap.size wq w3) => checkM_any w3 _ sm blocks n (H2.out.2.2.keep h))
  have HC2 := Lib.hid (fun w3 (h : Below wq.heap.size wq w3) => checkRM_any w3 _ sm blocks n (H2.out.2.2.keep h))
  have HC3 := Lib.hid (fun w3 (h : Below wq.heap.size wq w3) => checkM_any w3 _ sm sm.live.length n (H2.out.2.2.keep h))
  have HC4 := Lib.hid (fun w3 (h : Below wq.heap.size wq w3) => checkRM_any w3 _ sm sm.live.length n (H2.out.2.2.keep h))
  rw [← hz1] at HC1 HC2
  rw [← hz2] at HC3 HC4
  clear hz1 hz2
  refine wp_region_chain [3, 7, 15, 21, 25] (kv [(3, .is (.int .i64 z1)), (7, .is (.int .i64 z1)), (15, .is (.int .i64 z2)), (21, .is (.int .i64 z2)), (25, .is (.bool true))]) (fun _ w => Below (wq).heap.size (wq) w) (by kernel_rfl) (by kernel_rfl) (by kernel_rfl) (kv_inh _) (Below.drew (Below.refl _ _)) ?_
  intro ν hν
  have n3 : ν 3 = .int .i64 z1 := hν 3
  have n7 : ν 7 = .int .i64 z1 := hν 7
  have n15 : ν 15 = .int .i64 z2 := hν 15
  have n21 : ν 21 = .int .i64 z2 := hν 21
  have n25 : ν 25 = .bool true := hν 25
  clear hν
  refine ch_plain 0 5 1 (by rfl) rfl (by kernel_rfl) (by kernel_rfl) ?_
  apply Exists.intro
  refine ⟨fun st w2 hlo hhi hJ => ?_, ?_⟩
  · replace hJ : Below (wq).heap.size (wq) w2 := hJ
    have y0 := (H2.out.2.1.keep hJ).cell 0
    have y1 := (H2.out.2.1.keep hJ).cell 1
    have y2 := (H2.out.2.1.keep hJ).cell 2
    have y3 := (H2.out.2.1.keep hJ).cell 3
    have y4 := (H2.out.2.1.keep hJ).cell 4
    have y5 := (H2.out.2.1.keep hJ).cell 5
    have y6 := (H2.out.2.1.keep hJ).cell 6
    have y7 := (H2.out.2.1.keep hJ).cell 7
    have y8 := (H2.out.2.1.keep hJ).cell 8
    simp at y0 y1 y2 y3 y4 y5 y6 y7 y8
    clear hlo hhi hJ
    go_simp
    exact And.intro rfl rfl
  simp only [Act.put, List.setIfInBounds_toArray, List.set_cons_succ, List.set_cons_zero, Nat.reduceAdd]
  refine ch_plain 0 5 1 (by rfl) rfl (by kernel_rfl) (by kernel_rfl) ?_
  apply Exists.intro
  refine ⟨fun st w2 hlo hhi hJ => ?_, ?_⟩
  · clear hlo hhi hJ
    go_simp
    exact And.intro rfl rfl
  simp only [Act.put, List.setIfInBounds_toArray, List.set_cons_succ, List.set_cons_zero, Nat.reduceAdd]
  refine ch_plain 0 5 1 (by rfl) rfl (by kernel_rfl) (by kernel_rfl) ?_
  apply Exists.intro
  refine ⟨fun st w2 hlo hhi hJ => ?_, ?_⟩
  · clear hlo hhi hJ
    go_simp
    exact And.intro rfl rfl
  simp only [Act.put, List.setIfInBounds_toArray, List.set_cons_succ, List.set_cons_zero, Nat.reduceAdd]
  refine ch_special 0 6 (by rfl) rfl (by decide) (by kernel_rfl) (fun w2 hJ => ?_) ?_
  · replace hJ : Below (wq).heap.size (wq) w2 := hJ
    go_simp
    refine (HC1.out w2 hJ).mono ?_
    rintro e w3 ⟨rfl, hb⟩
    exact ⟨_, rfl, rfl, hJ.trans (hb.mono hJ.size)⟩
  rw [n3]
  simp only [Act.put, List.setIfInBounds_toArray, List.set_cons_succ, List.set_cons_zero, Nat.reduceAdd]
  refine ch_plain 0 5 1 (by rfl) rfl (by kernel_rfl) (by kernel_rfl) ?_
  apply Exists.intro
  refine ⟨fun st w2 hlo hhi hJ => ?_, ?_⟩
  · replace hJ : Below (wq).heap.size (wq) w2 := hJ
    have y0 := (H2.out.2.1.keep hJ).cell 0
    have y1 := (H2.out.2.1.keep hJ).cell 1
    have y2 := (H2.out.2.1.keep hJ).cell 2
    have y3 := (H2.out.2.1.keep hJ).cell 3
    have y4 := (H2.out.2.1.keep hJ).cell 4
    have y5 := (H2.out.2.1.keep hJ).cell 5
    have y6 := (H2.out.2.1.keep hJ).cell 6
    have y7 := (H2.out.2.1.keep hJ).cell 7
    have y8 := (H2.out.2.1.keep hJ).cell 8
    simp at y0 y1 y2 y3 y4 y5 y6 y7 y8
    clear hlo hhi hJ
    go_simp
    exact And.intro rfl rfl
  simp only [Act.put, List.setIfInBounds_toArray, List.set_cons_succ, List.set_cons_zero, Nat.reduceAdd]
  refine ch_plain 0 5 1 (by rfl) rfl (by kernel_rfl) (by kernel_rfl) ?_
  apply Exists.intro
  refine ⟨fun st w2 hlo hhi hJ => ?_, ?_⟩
  · clear hlo hhi hJ
    go_simp
    exact And.intro rfl rfl
  simp only [Act.put, List.setIfInBounds_toArray, List.set_cons_succ, List.set_cons_zero, Nat.reduceAdd]
  refine ch_plain 0 5 1 (by rfl) rfl (by kernel_rfl) (by kernel_rfl) ?_
  apply Exists.intro
  refine ⟨fun st w2 hlo hhi hJ => ?_, ?_⟩
  · clear hlo hhi hJ
    go_simp
    exact And.intro rfl rfl
  simp only [Act.put, List.setIfInBounds_toArray, List.set_cons_succ, List.set_cons_zero, Nat.reduceAdd]
  refine ch_special 1 6 (by rfl) rfl (by decide) (by kernel_rfl) (fun w2 hJ => ?_) ?_
  · replace hJ : Below (wq).heap.size (wq) w2 := hJ
    go_simp
    refine (HC2.out w2 hJ).mono ?_
    rintro e w3 ⟨rfl, hb⟩
    exact ⟨_, rfl, rfl, hJ.trans (hb.mono hJ.size)⟩
  rw [n7]
  simp only [Act.put, List.setIfInBounds_toArray, List.set_cons_succ, List.set_cons_zero, Nat.reduceAdd]
  refine ch_plain 0 5 1 (by rfl) rfl (by kernel_rfl) (by kernel_rfl) ?_
  apply Exists.intro
  refine ⟨fun st w2 hlo hhi hJ => ?_, ?_⟩
  · clear hlo hhi hJ
    go_simp
    exact And.intro rfl rfl
  simp only [Act.put, List.setIfInBounds_toArray, List.set_cons_succ, List.set_cons_zero, Nat.reduceAdd]
  refine ch_plain 0 5 1 (by rfl) rfl (by kernel_rfl) (by kernel_rfl) ?_
  apply Exists.intro
  refine ⟨fun st w2 hlo hhi hJ => ?_, ?_⟩
  · clear hlo hhi hJ
    go_simp
    exact And.intro rfl rfl
  simp only [Act.put, List.setIfInBounds_toArray, List.set_cons_succ, List.set_cons_zero, Nat.reduceAdd]
  refine ch_plain 0 5 1 (by rfl) rfl (by kernel_rfl) (by kernel_rfl) ?_
  apply Exists.intro
  refine ⟨fun st w2 hlo hhi hJ => ?_, ?_⟩
  · replace hJ : Below (wq).heap.size (wq) w2 := hJ
    have y0 := (H2.out.2.1.keep hJ).cell 0
    have y1 := (H2.out.2.1.keep hJ).cell 1
    have y2 := (H2.out.2.1.keep hJ).cell 2
    have y3 := (H2.out.2.1.keep hJ).cell 3
    have y4 := (H2.out.2.1.keep hJ).cell 4
    have y5 := (H2.out.2.1.keep hJ).cell 5
    have y6 := (H2.out.2.1.keep hJ).cell 6
    have y7 := (H2.out.2.1.keep hJ).cell 7
    have y8 := (H2.out.2.1.keep hJ).cell 8
    simp at y0 y1 y2 y3 y4 y5 y6 y7 y8
    clear hlo hhi hJ
    go_simp
    exact And.intro rfl rfl
  simp only [Act.put, List.setIfInBounds_toArray, List.set_cons_succ, List.set_cons_zero, Nat.reduceAdd]
  refine ch_plain 0 5 1 (by rfl) rfl (by kernel_rfl) (by kernel_rfl) ?_
  apply Exists.intro
  refine ⟨fun st w2 hlo hhi hJ => ?_, ?_⟩
  · clear hlo hhi hJ
    go_simp
    exact And.intro rfl rfl
  simp only [Act.put, List.setIfInBounds_toArray, List.set_cons_succ, List.set_cons_zero, Nat.reduceAdd]
  refine ch_plain 0 5 1 (by rfl) rfl (by kernel_rfl) (by kernel_rfl) ?_
  apply Exists.intro
  refine ⟨fun st w2 hlo hhi hJ => ?_, ?_⟩
  · replace hJ : Below (wq).heap.size (wq) w2 := hJ
    have y0 := (H2.out.2.1.keep hJ).cell 0
    simp at y0
    clear hlo hhi hJ
    go_simp
    exact And.intro rfl rfl
  simp only [Act.put, List.setIfInBounds_toArray, List.set_cons_succ, List.set_cons_zero, Nat.reduceAdd]
  refine ch_plain 0 5 1 (by rfl) rfl (by kernel_rfl) (by kernel_rfl) ?_
  apply Exists.intro
  refine ⟨fun st w2 hlo hhi hJ => ?_, ?_⟩
  · clear hlo hhi hJ
    go_simp
    exact And.intro rfl rfl
  simp only [Act.put, List.setIfInBounds_toArray, List.set_cons_succ, List.set_cons_zero, Nat.reduceAdd]
  refine ch_plain 0 5 1 (by rfl) rfl (by kernel_rfl) (by kernel_rfl) ?_
  apply Exists.intro
  refine ⟨fun st w2 hlo hhi hJ => ?_, ?_⟩
  · clear hlo hhi hJ
    go_simp
    exact And.intro rfl rfl
  simp only [Act.put, List.setIfInBounds_toArray, List.set_cons_succ, List.set_cons_zero, Nat.reduceAdd]
  refine ch_special 2 6 (by rfl) rfl (by decide) (by kernel_rfl) (fun w2 hJ => ?_) ?_
  · replace hJ : Below (wq).heap.size (wq) w2 := hJ
    go_simp
    refine (HC3.out w2 hJ).mono ?_
    rintro e w3 ⟨rfl, hb⟩
    exact ⟨_, rfl, rfl, hJ.trans (hb.mono hJ.size)⟩
  rw [n15]
  simp only [Act.put, List.setIfInBounds_toArray, List.set_cons_succ, List.set_cons_zero, Nat.reduceAdd]
  refine ch_plain 0 5 1 (by rfl) rfl (by kernel_rfl) (by kernel_rfl) ?_
  apply Exists.intro
  refine ⟨fun st w2 hlo hhi hJ => ?_, ?_⟩
  · replace hJ : Below (wq).heap.size (wq) w2 := hJ
    have y0 := (H2.out.2.1.keep hJ).cell 0
    have y1 := (H2.out.2.1.keep hJ).cell 1
    have y2 := (H2.out.2.1.keep hJ).cell 2
    have y3 := (H2.out.2.1.keep hJ).cell 3
    have y4 := (H2.out.2.1.keep hJ).cell 4
    have y5 := (H2.out.2.1.keep hJ).cell 5
    have y6 := (H2.out.2.1.keep hJ).cell 6
    have y7 := (H2.out.2.1.keep hJ).cell 7
    have y8 := (H2.out.2.1.keep hJ).cell 8
    simp at y0 y1 y2 y3 y4 y5 y6 y7 y8
    clear hlo hhi hJ
    go_simp
    exact And.intro rfl rfl
  simp only [Act.put, List.setIfInBounds_toArray, List.set_cons_succ, List.set_cons_zero, Nat.reduceAdd]
  refine ch_plain 0 5 1 (by rfl) rfl (by kernel_rfl) (by kernel_rfl) ?_
  apply Exists.intro
  refine ⟨fun st w2 hlo hhi hJ => ?_, ?_⟩
  · clear hlo hhi hJ
    go_simp
    exact And.intro rfl rfl
  simp only [Act.put, List.setIfInBounds_toArray, List.set_cons_succ, List.set_cons_zero, Nat.reduceAdd]
  refine ch_plain 0 5 1 (by rfl) rfl (by kernel_rfl) (by kernel_rfl) ?_
  apply Exists.intro
  refine ⟨fun st w2 hlo hhi hJ => ?_, ?_⟩
  · replace hJ : Below (wq).heap.size (wq) w2 := hJ
    have y0 := (H2.out.2.1.keep hJ).cell 0
    simp at y0
    clear hlo hhi hJ
    go_simp
    exact And.intro rfl rfl
  simp only [Act.put, List.setIfInBounds_toArray, List.set_cons_succ, List.set_cons_zero, Nat.reduceAdd]
  refine ch_plain 0 5 1 (by rfl) rfl (by kernel_rfl) (by kernel_rfl) ?_
  apply Exists.intro
  refine ⟨fun st w2 hlo hhi hJ => ?_, ?_⟩
  · clear hlo hhi hJ
    go_simp
    exact And.intro rfl rfl
  simp only [Act.put, List.setIfInBounds_toArray, List.set_cons_succ, List.set_cons_zero, Nat.reduceAdd]
  refine ch_plain 0 5 1 (by rfl) rfl (by kernel_rfl) (by kernel_rfl) ?_
  apply Exists.intro
  refine ⟨fun st w2 hlo hhi hJ => ?_, ?_⟩
  · clear hlo hhi hJ
    go_simp
    exact And.intro rfl rfl
  simp only [Act.put, List.setIfInBounds_toArray, List.set_cons_succ, List.set_cons_zero, Nat.reduceAdd]
  refine ch_special 3 6 (by rfl) rfl (by decide) (by kernel_rfl) (fun w2 hJ => ?_) ?_
  · replace hJ : Below (wq).heap.size (wq) w2 := hJ
    go_simp
    refine (HC4.out w2 hJ).mono ?_
    rintro e w3 ⟨rfl, hb⟩
    exact ⟨_, rfl, rfl, hJ.trans (hb.mono hJ.size)⟩
  rw [n21]
  simp only [Act.put, List.setIfInBounds_toArray, List.set_cons_succ, List.set_cons_zero, Nat.reduceAdd]
  refine ch_plain 0 5 1 (by rfl) rfl (by kernel_rfl) (by kernel_rfl) ?_
  apply Exists.intro
  refine ⟨fun st w2 hlo hhi hJ => ?_, ?_⟩
  · clear hlo hhi hJ
    go_simp
    exact And.intro rfl rfl
  simp only [Act.put, List.setIfInBounds_toArray, List.set_cons_succ, List.set_cons_zero, Nat.reduceAdd]
  refine ch_plain 0 5 1 (by rfl) rfl (by kernel_rfl) (by kernel_rfl) ?_
  apply Exists.intro
  refine ⟨fun st w2 hlo hhi hJ => ?_, ?_⟩
  · clear hlo hhi hJ
    go_simp
    exact And.intro rfl rfl
  simp only [Act.put, List.setIfInBounds_toArray, List.set_cons_succ, List.set_cons_zero, Nat.reduceAdd]
  refine ch_plain 0 5 1 (by rfl) rfl (by kernel_rfl) (by kernel_rfl) ?_
  apply Exists.intro
  refine ⟨fun st w2 hlo hhi hJ => ?_, ?_⟩
  · clear hlo hhi hJ
    go_simp
    exact And.intro rfl rfl
  simp only [Act.put, List.setIfInBounds_toArray, List.set_cons_succ, List.set_cons_zero, Nat.reduceAdd]
  refine ch_special 4 6 (by rfl) rfl (by decide) (by kernel_rfl) (fun w2 hJ => ?_) ?_
  · replace hJ : Below (wq).heap.size (wq) w2 := hJ
    go_simp
    refine (works_any w2).mono ?_
    rintro e w3 ⟨rfl, hb⟩
    exact ⟨_, rfl, rfl, hJ.trans (hb.mono hJ.size)⟩
  rw [n25]
  simp only [Act.put, List.setIfInBounds_toArray, List.set_cons_succ, List.set_cons_zero, Nat.reduceAdd]
  refine ch_plain 0 5 1 (by rfl) rfl (by kernel_rfl) (by kernel_rfl) ?_
  apply Exists.intro
  refine ⟨fun st w2 hlo hhi hJ => ?_, ?_⟩
  · clear hlo hhi hJ
    go_simp
    exact And.intro rfl rfl
  simp only [Act.put, List.setIfInBounds_toArray, List.set_cons_succ, List.set_cons_zero, Nat.reduceAdd]
  refine ch_plain 0 5 1 (by rfl) rfl (by kernel_rfl) (by kernel_rfl) ?_
  apply Exists.intro
  refine ⟨fun st w2 hlo hhi hJ => ?_, ?_⟩
  · clear hlo hhi hJ
    go_simp
    exact And.intro rfl rfl
  simp only [Act.put, Nat.reduceAdd]
  refine ch_nil (fun w5 hJ => ?_)
  replace hJ : Below (wq).heap.size (wq) w5 := hJ
  clear n3 n7 n15 n21 n25
  have HB9 := Lib.hid (H2.out.1.trans (hJ.mono H2.out.1.size))
  clear hJ
  go_wp2
  go_ret
  exact ⟨rfl, HB9.out⟩
set_option maxRecDepth 100000 in
set_option maxHeartbeats 4000000 in
theorem law_MetaLays (v : Value) (m : Mt) (v' : Value) (q : Mt) (w : World) (hv : InMt w v m) (_ : True) (hv' : InMt w v' q) (_ : True) :
    Calls Try.prog 4 #[v, v'] w fun e w' => e = .returned (.bool true) ∧ Below w.heap.size w w' := by
  have hin := hv
  have hin' := hv'
  obtain ⟨la, lc, sa, sc, ia, ic, rfl⟩ := hv.open_
  obtain ⟨laq, lcq, saq, scq, iaq, icq, rfl⟩ := hv'.open_
  have hb0 := ((Below.refl w.heap.size w).alloc (Nat.le_refl _) (Obj.cells #[.slice la m.live.length lc, .slice sa m.snaps.length sc, .int .u64 m.token.base.1, .int .u64 m.token.base.2, .int .u64 m.token.target.1, .int .u64 m.token.target.2, .int .i64 m.token.next, .int .i64 m.token.all, .slice ia m.token.image.length ic] 30)).alloc (by simp) (Obj.cells #[.slice laq q.live.length lcq, .slice saq q.snaps.length scq, .int .u64 q.token.base.1, .int .u64 q.token.base.2, .int .u64 q.token.target.1, .int .u64 q.token.target.2, .int .i64 q.token.next, .int .i64 q.token.all, .slice iaq q.token.image.length icq] 30)
  have HB := Lib.hid hb0
  have HP := Lib.hid ((Blk.new w 30 #[.slice la m.live.length lc, .slice sa m.snaps.length sc, .int .u64 m.token.base.1, .int .u64 m.token.base.2, .int .u64 m.token.target.1, .int .u64 m.token.target.2, .int .i64 m.token.next, .int .i64 m.token.all, .slice ia m.token.image.length ic]).alloc (Obj.cells #[.slice laq q.live.length lcq, .slice saq q.snaps.length scq, .int .u64 q.token.base.1, .int .u64 q.token.base.2, .int .u64 q.token.target.1, .int .u64 q.token.target.2, .int .i64 q.token.next, .int .i64 q.token.all, .slice iaq q.token.image.length icq] 30))
  have HQ := Lib.hid (Blk.newAt (w := w.alloc (Obj.cells #[.slice la m.live.length lc, .slice sa m.snaps.length sc, .int .u64 m.token.base.1, .int .u64 m.token.base.2, .int .u64 m.token.target.1, .int .u64 m.token.target.2, .int .i64 m.token.next, .int .i64 m.token.all, .slice ia m.token.image.length ic] 30)) 30 #[.slice laq q.live.length lcq, .slice saq q.snaps.length scq, .int .u64 q.token.base.1, .int .u64 q.token.base.2, .int .u64 q.token.target.1, .int .u64 q.token.target.2, .int .i64 q.token.next, .int .i64 q.token.all, .slice iaq q.token.image.length icq] (g := w.heap.size + 1) (by simp))
  have HI := Lib.hid (hin.keep hb0)
  have HJ := Lib.hid hin'
  clear hin hin' hv hv' hb0
  go_enter Try.func4, Try.ntmps4
  go_wp2_with fail
  generalize (w.alloc (Obj.cells #[.slice la m.live.length lc, .slice sa m.snaps.length sc, .int .u64 m.token.base.1, .int .u64 m.token.base.2, .int .u64 m.token.target.1, .int .u64 m.token.target.2, .int .i64 m.token.next, .int .i64 m.token.all, .slice ia m.token.image.length ic] 30)).alloc (Obj.cells #[.slice laq q.live.length lcq, .slice saq q.snaps.length scq, .int .u64 q.token.base.1, .int .u64 q.token.base.2, .int .u64 q.token.target.1, .int .u64 q.token.target.2, .int .i64 q.token.next, .int .i64 q.token.all, .slice iaq q.token.image.length icq] 30) = w0 at *
  refine (short_any w0 _ m HI.out).mono ?_
  generalize shortM m = sm at *
  rintro e w1 ⟨u, rfl, ho, hb⟩
  obtain ⟨la', lc', sa', sc', ia', ic', rfl⟩ := ho.inm.open_
  have HO := Lib.hid ho
  have HPL := Lib.hid HQ.out.lt
  replace HB := Lib.hid (HB.out.trans (hb.mono HB.out.size))
  replace HP := Lib.hid (HP.out.keep hb)
  replace HQ := Lib.hid (HQ.out.keep hb)
  clear ho hb HI
  go_wp2_with (refine wpList_store_then rfl 30 _ _ rfl w.heap.size #[.slice la' sm.live.length lc', .slice sa' sm.snaps.length sc', .int .u64 sm.token.base.1, .int .u64 sm.token.base.2, .int .u64 sm.token.target.1, .int .u64 sm.token.target.2, .int .i64 sm.token.next, .int .i64 sm.token.all, .slice ia' sm.token.image.length ic'] rfl rfl 30 _ HP.out meta_size rfl (mt_one _ _ _ _ _ _ _ _ _ _ _ _ _ _ _) ?_)
  refine Later.mk fun w2 hw2 => ?_
  have hkr := kp_row w1 w.heap.size #[.slice la' sm.live.length lc', .slice sa' sm.snaps.length sc', .int .u64 sm.token.base.1, .int .u64 sm.token.base.2, .int .u64 sm.token.target.1, .int .u64 sm.token.target.2, .int .i64 sm.token.next, .int .i64 sm.token.all, .slice ia' sm.token.image.length ic']
  have H2 := Lib.hid (show Below w.heap.size w w2 ∧ Blk w2 w.heap.size 30 #[.slice la' sm.live.length lc', .slice sa' sm.snaps.length sc', .int .u64 sm.token.base.1, .int .u64 sm.token.base.2, .int .u64 sm.token.target.1, .int .u64 sm.token.target.2, .int .i64 sm.token.next, .int .i64 sm.token.all, .slice ia' sm.token.image.length ic'] ∧ OwMt w2 w0.heap.size (.agg #[.slice la' sm.live.length lc', .slice sa' sm.snaps.length sc', .int .u64 sm.token.base.1, .int .u64 sm.token.base.2, .int .u64 sm.token.target.1, .int .u64 sm.token.target.2, .int .i64 sm.token.next, .int .i64 sm.token.all, .slice ia' sm.token.image.length ic']) sm ∧ Blk w2 (w.heap.size + 1) 30 #[.slice laq q.live.length lcq, .slice saq q.snaps.length scq, .int .u64 q.token.base.1, .int .u64 q.token.base.2, .int .u64 q.token.target.1, .int .u64 q.token.target.2, .int .i64 q.token.next, .int .i64 q.token.all, .slice iaq q.token.image.length icq] ∧ InMt w2 (.agg #[.slice laq q.live.length lcq, .slice saq q.snaps.length scq, .int .u64 q.token.base.1, .int .u64 q.token.base.2, .int .u64 q.token.target.1, .int .u64 q.token.target.2, .int .i64 q.token.next, .int .i64 q.token.all, .slice iaq q.token.image.length icq]) q by
    rw [hw2]
    exact ⟨Below.setRow HB.out (Nat.le_refl _) _, HP.out.row _, HO.out.kp hkr (fun b hb e => by have := HPL.out; omega), hkr.blk HQ.out (by omega), HJ.out.keep (Below.setRow HB.out (Nat.le_refl _) _)⟩)
  clear hw2 HB HP HO HQ HJ hkr
  have y0 := H2.out.2.2.2.1.cell 0
  have y1 := H2.out.2.2.2.1.cell 1
  have y2 := H2.out.2.2.2.1.cell 2
  have y3 := H2.out.2.2.2.1.cell 3
  have y4 := H2.out.2.2.2.1.cell 4
  have y5 := H2.out.2.2.2.1.cell 5
  have y6 := H2.out.2.2.2.1.cell 6
  have y7 := H2.out.2.2.2.1.cell 7
  have y8 := H2.out.2.2.2.1.cell 8
  simp at y0 y1 y2 y3 y4 y5 y6 y7 y8
  go_wp2_with fail
  clear y0 y1 y2 y3 y4 y5 y6 y7 y8
  refine (short_any w2 _ q H2.out.2.2.2.2).mono ?_
  generalize shortM q = sq at *
  rintro e w3 ⟨u, rfl, ho, hb⟩
  obtain ⟨lb, lx, sb, sx, ib, ix, rfl⟩ := ho.inm.open_
  have HO := Lib.hid ho
  have HP3 := Lib.hid (H2.out.2.1.keep hb)
  have HQ3 := Lib.hid (H2.out.2.2.2.1.keep hb)
  have HM3 := Lib.hid (H2.out.2.2.1.kp (A := fun _ => False) (Kp.of_below hb) fun _ _ h => h)
  have HB3 := Lib.hid (H2.out.1.trans (hb.mono H2.out.1.size))
  have HQL := Lib.hid H2.out.2.2.2.1.lt
  clear ho hb H2
  go_wp2_with (refine wpList_store_then rfl 30 _ _ rfl (w.heap.size + 1) #[.slice lb sq.live.length lx, .slice sb sq.snaps.length sx, .int .u64 sq.token.base.1, .int .u64 sq.token.base.2, .int .u64 sq.token.target.1, .int .u64 sq.token.target.2, .int .i64 sq.token.next, .int .i64 sq.token.all, .slice ib sq.token.image.length ix] rfl rfl 30 _ HQ3.out meta_size rfl (mt_one _ _ _ _ _ _ _ _ _ _ _ _ _ _ _) ?_)
  refine Later.mk fun w4 hw4 => ?_
  have hkr := kp_row w3 (w.heap.size + 1) #[.slice lb sq.live.length lx, .slice sb sq.snaps.length sx, .int .u64 sq.token.base.1, .int .u64 sq.token.base.2, .int .u64 sq.token.target.1, .int .u64 sq.token.target.2, .int .i64 sq.token.next, .int .i64 sq.token.all, .slice ib sq.token.image.length ix]
  have HB := Lib.hid (show Below w.heap.size w w4 by rw [hw4]; exact Below.setRow HB3.out (by omega) _)
  have HP := Lib.hid (show Blk w4 w.heap.size 30 #[.slice la' sm.live.length lc', .slice sa' sm.snaps.length sc', .int .u64 sm.token.base.1, .int .u64 sm.token.base.2, .int .u64 sm.token.target.1, .int .u64 sm.token.target.2, .int .i64 sm.token.next, .int .i64 sm.token.all, .slice ia' sm.token.image.length ic'] by rw [hw4]; exact hkr.blk HP3.out (by omega))
  have HQ := Lib.hid (show Blk w4 (w.heap.size + 1) 30 #[.slice lb sq.live.length lx, .slice sb sq.snaps.length sx, .int .u64 sq.token.base.1, .int .u64 sq.token.base.2, .int .u64 sq.token.target.1, .int .u64 sq.token.target.2, .int .i64 sq.token.next, .int .i64 sq.token.all, .slice ib sq.token.image.length ix] by rw [hw4]; exact HQ3.out.row _)
  have HI := Lib.hid (show InMt w4 (.agg #[.slice la' sm.live.length lc', .slice sa' sm.snaps.length sc', .int .u64 sm.token.base.1, .int .u64 sm.token.base.2, .int .u64 sm.token.target.1, .int .u64 sm.token.target.2, .int .i64 sm.token.next, .int .i64 sm.token.all, .slice ia' sm.token.image.length ic']) sm by rw [hw4]; exact (HM3.out.kp hkr (fun b hb e => by have := HPL.out; omega)).inm)
  have HJ := Lib.hid (show InMt w4 (.agg #[.slice lb sq.live.length lx, .slice sb sq.snaps.length sx, .int .u64 sq.token.base.1, .int .u64 sq.token.base.2, .int .u64 sq.token.target.1, .int .u64 sq.token.target.2, .int .i64 sq.token.next, .int .i64 sq.token.all, .slice ib sq.token.image.length ix]) sq by rw [hw4]; exact (HO.out.kp hkr (fun b hb e => by have := HQL.out; omega)).inm)
  clear hw4 hkr HB3 HP3 HQ3 HM3 HO HQL HPL
  have x0 := HP.out.cell 0
  have x1 := HP.out.cell 1
  have x2 := HP.out.cell 2
  have x3 := HP.out.cell 3
  have x4 := HP.out.cell 4
  have x5 := HP.out.cell 5
  have x6 := HP.out.cell 6
  have x7 := HP.out.cell 7
  have x8 := HP.out.cell 8
  simp at x0 x1 x2 x3 x4 x5 x6 x7 x8
  obtain ⟨ES, hES⟩ : ∃ z, z = encM sm := ⟨_, rfl⟩
  obtain ⟨EZ, hEZ⟩ : ∃ z, z = encE sm := ⟨_, rfl⟩
  obtain ⟨SB, hSB⟩ : ∃ z, z = sameM sm sq := ⟨_, rfl⟩
  have HEN := Lib.hid (fun w3 (h : Below w4.heap.size w4 w3) => enc_any w3 _ sm (HI.out.keep h))
  have HER := Lib.hid (fun w3 (h : Below w4.heap.size w4 w3) => encR_any w3 _ sm (HI.out.keep h))
  have HSA := Lib.hid (fun w3 (h : Below w4.heap.size w4 w3) => sameM_any w3 _ _ sm sq (HI.out.keep h) (HJ.out.keep h))
  have HSR := Lib.hid (fun w3 (h : Below w4.heap.size w4 w3) => sameRM_any w3 _ _ sm sq (HI.out.keep h) (HJ.out.keep h))
  have HSS := Lib.hid (fun w3 (h : Below w4.heap.size w4 w3) => samew w3 (m := sm) (HI.out.keep h) (HI.out.keep h))
  rw [← hES, ← hEZ] at HEN HER
  rw [← hSB] at HSA HSR
  clear hES hEZ hSB
  go_wp2_with fail
  refine (HEN.out _ (Below.refl _ _)).mono ?_
  rintro e w5 ⟨rfl, hb⟩
  have HB5 := Lib.hid hb
  replace x0 := cell_later hb x0
  replace x1 := cell_later hb x1
  replace x2 := cell_later hb x2
  replace x3 := cell_later hb x3
  replace x4 := cell_later hb x4
  replace x5 := cell_later hb x5
  replace x6 := cell_later hb x6
  replace x7 := cell_later hb x7
  replace x8 := cell_later hb x8
  clear hb
  go_wp2_with fail
  clear x0 x1 x2 x3 x4 x5 x6 x7 x8
  refine (HER.out _ HB5.out).mono ?_
  rintro e w6 ⟨rfl, hb⟩
  replace HB5 := Lib.hid (HB5.out.trans (hb.mono HB5.out.size))
  clear hb
  go_wp2_with fail
  refine wp_region_chain [11, 14, 20, 23] (kv [(11, .is (.bool SB)), (14, .is (.bool SB)), (20, .is (.bool true)), (23, .is (.bool true))]) (fun _ w => Below (w6).heap.size (w6) w) (by kernel_rfl) (by kernel_rfl) (by kernel_rfl) (kv_inh _) (Below.drew (Below.refl _ _)) ?_
  intro ν hν
  have n11 : ν 11 = .bool SB := hν 11
  have n14 : ν 14 = .bool SB := hν 14
  have n20 : ν 20 = .bool true := hν 20
  have n23 : ν 23 = .bool true := hν 23
  clear hν
  refine ch_plain 0 4 1 (by rfl) rfl (by kernel_rfl) (by kernel_rfl) ?_
  apply Exists.intro
  refine ⟨fun st w2 hlo hhi hJ => ?_, ?_⟩
  · clear hlo hhi hJ
    go_simp
    exact And.intro rfl rfl
  simp only [Act.put, List.setIfInBounds_toArray, List.set_cons_succ, List.set_cons_zero, Nat.reduceAdd]
  refine ch_plain 0 4 1 (by rfl) rfl (by kernel_rfl) (by kernel_rfl) ?_
  apply Exists.intro
  refine ⟨fun st w2 hlo hhi hJ => ?_, ?_⟩
  · clear hlo hhi hJ
    go_simp
    exact And.intro rfl rfl
  simp only [Act.put, List.setIfInBounds_toArray, List.set_cons_succ, List.set_cons_zero, Nat.reduceAdd]
  refine ch_plain 0 4 1 (by rfl) rfl (by kernel_rfl) (by kernel_rfl) ?_
  apply Exists.intro
  refine ⟨fun st w2 hlo hhi hJ => ?_, ?_⟩
  · clear hlo hhi hJ
    go_simp
    exact And.intro rfl rfl
  simp only [Act.put, List.setIfInBounds_toArray, List.set_cons_succ, List.set_cons_zero, Nat.reduceAdd]
  refine ch_plain 0 4 1 (by rfl) rfl (by kernel_rfl) (by kernel_rfl) ?_
  apply Exists.intro
  refine ⟨fun st w2 hlo hhi hJ => ?_, ?_⟩
  · clear hlo hhi hJ
    go_simp
    exact And.intro rfl rfl
  simp only [Act.put, List.setIfInBounds_toArray, List.set_cons_succ, List.set_cons_zero, Nat.reduceAdd]
  refine ch_plain 0 4 1 (by rfl) rfl (by kernel_rfl) (by kernel_rfl) ?_
  apply Exists.intro
  refine ⟨fun st w2 hlo hhi hJ => ?_, ?_⟩
  · clear hlo hhi hJ
    go_simp
    exact And.intro rfl rfl
  simp only [Act.put, List.setIfInBounds_toArray, List.set_cons_succ, List.set_cons_zero, Nat.reduceAdd]
  refine ch_plain 0 4 1 (by rfl) rfl (by kernel_rfl) (by kernel_rfl) ?_
  apply Exists.intro
  refine ⟨fun st w2 hlo hhi hJ => ?_, ?_⟩
  · clear hlo hhi hJ
    go_simp
    exact And.intro rfl rfl
  simp only [Act.put, List.setIfInBounds_toArray, List.set_cons_succ, List.set_cons_zero, Nat.reduceAdd]
  refine ch_plain 0 4 1 (by rfl) rfl (by kernel_rfl) (by kernel_rfl) ?_
  apply Exists.intro
  refine ⟨fun st w2 hlo hhi hJ => ?_, ?_⟩
  · clear hlo hhi hJ
    go_simp
    exact And.intro rfl rfl
  simp only [Act.put, List.setIfInBounds_toArray, List.set_cons_succ, List.set_cons_zero, Nat.reduceAdd]
  refine ch_plain 0 4 1 (by rfl) rfl (by kernel_rfl) (by kernel_rfl) ?_
  apply Exists.intro
  refine ⟨fun st w2 hlo hhi hJ => ?_, ?_⟩
  · clear hlo hhi hJ
    go_simp
    exact And.intro rfl rfl
  simp only [Act.put, List.setIfInBounds_toArray, List.set_cons_succ, List.set_cons_zero, Nat.reduceAdd]
  refine ch_plain 0 4 1 (by rfl) rfl (by kernel_rfl) (by kernel_rfl) ?_
  apply Exists.intro
  refine ⟨fun st w2 hlo hhi hJ => ?_, ?_⟩
  · clear hlo hhi hJ
    go_simp
    exact And.intro rfl rfl
  simp only [Act.put, List.setIfInBounds_toArray, List.set_cons_succ, List.set_cons_zero, Nat.reduceAdd]
  refine ch_plain 0 4 1 (by rfl) rfl (by kernel_rfl) (by kernel_rfl) ?_
  apply Exists.intro
  refine ⟨fun st w2 hlo hhi hJ => ?_, ?_⟩
  · replace hJ : Below (w6).heap.size (w6) w2 := hJ
    have hJ2 := HB5.out.trans (hJ.mono HB5.out.size)
    have y0 := (HP.out.keep hJ2).cell 0
    have y1 := (HP.out.keep hJ2).cell 1
    have y2 := (HP.out.keep hJ2).cell 2
    have y3 := (HP.out.keep hJ2).cell 3
    have y4 := (HP.out.keep hJ2).cell 4
    have y5 := (HP.out.keep hJ2).cell 5
    have y6 := (HP.out.keep hJ2).cell 6
    have y7 := (HP.out.keep hJ2).cell 7
    have y8 := (HP.out.keep hJ2).cell 8
    simp at y0 y1 y2 y3 y4 y5 y6 y7 y8
    clear hJ2
    clear hlo hhi hJ
    go_simp
    exact And.intro rfl rfl
  simp only [Act.put, List.setIfInBounds_toArray, List.set_cons_succ, List.set_cons_zero, Nat.reduceAdd]
  refine ch_plain 0 4 1 (by rfl) rfl (by kernel_rfl) (by kernel_rfl) ?_
  apply Exists.intro
  refine ⟨fun st w2 hlo hhi hJ => ?_, ?_⟩
  · replace hJ : Below (w6).heap.size (w6) w2 := hJ
    have hJ2 := HB5.out.trans (hJ.mono HB5.out.size)
    have y0 := (HQ.out.keep hJ2).cell 0
    have y1 := (HQ.out.keep hJ2).cell 1
    have y2 := (HQ.out.keep hJ2).cell 2
    have y3 := (HQ.out.keep hJ2).cell 3
    have y4 := (HQ.out.keep hJ2).cell 4
    have y5 := (HQ.out.keep hJ2).cell 5
    have y6 := (HQ.out.keep hJ2).cell 6
    have y7 := (HQ.out.keep hJ2).cell 7
    have y8 := (HQ.out.keep hJ2).cell 8
    simp at y0 y1 y2 y3 y4 y5 y6 y7 y8
    clear hJ2
    clear hlo hhi hJ
    go_simp
    exact And.intro rfl rfl
  simp only [Act.put, List.setIfInBounds_toArray, List.set_cons_succ, List.set_cons_zero, Nat.reduceAdd]
  refine ch_special 0 6 (by rfl) rfl (by decide) (by kernel_rfl) (fun w2 hJ => ?_) ?_
  · replace hJ : Below (w6).heap.size (w6) w2 := hJ
    go_simp
    refine (HSA.out w2 (HB5.out.trans (hJ.mono HB5.out.size))).mono ?_
    rintro e w3 ⟨rfl, hb⟩
    exact ⟨_, rfl, rfl, hJ.trans (hb.mono hJ.size)⟩
  rw [n11]
  simp only [Act.put, List.setIfInBounds_toArray, List.set_cons_succ, List.set_cons_zero, Nat.reduceAdd]
  refine ch_plain 0 4 1 (by rfl) rfl (by kernel_rfl) (by kernel_rfl) ?_
  apply Exists.intro
  refine ⟨fun st w2 hlo hhi hJ => ?_, ?_⟩
  · replace hJ : Below (w6).heap.size (w6) w2 := hJ
    have hJ2 := HB5.out.trans (hJ.mono HB5.out.size)
    have y0 := (HP.out.keep hJ2).cell 0
    have y1 := (HP.out.keep hJ2).cell 1
    have y2 := (HP.out.keep hJ2).cell 2
    have y3 := (HP.out.keep hJ2).cell 3
    have y4 := (HP.out.keep hJ2).cell 4
    have y5 := (HP.out.keep hJ2).cell 5
    have y6 := (HP.out.keep hJ2).cell 6
    have y7 := (HP.out.keep hJ2).cell 7
    have y8 := (HP.out.keep hJ2).cell 8
    simp at y0 y1 y2 y3 y4 y5 y6 y7 y8
    clear hJ2
    clear hlo hhi hJ
    go_simp
    exact And.intro rfl rfl
  simp only [Act.put, List.setIfInBounds_toArray, List.set_cons_succ, List.set_cons_zero, Nat.reduceAdd]
  refine ch_plain 0 4 1 (by rfl) rfl (by kernel_rfl) (by kernel_rfl) ?_
  apply Exists.intro
  refine ⟨fun st w2 hlo hhi hJ => ?_, ?_⟩
  · replace hJ : Below (w6).heap.size (w6) w2 := hJ
    have hJ2 := HB5.out.trans (hJ.mono HB5.out.size)
    have y0 := (HQ.out.keep hJ2).cell 0
    have y1 := (HQ.out.keep hJ2).cell 1
    have y2 := (HQ.out.keep hJ2).cell 2
    have y3 := (HQ.out.keep hJ2).cell 3
    have y4 := (HQ.out.keep hJ2).cell 4
    have y5 := (HQ.out.keep hJ2).cell 5
    have y6 := (HQ.out.keep hJ2).cell 6
    have y7 := (HQ.out.keep hJ2).cell 7
    have y8 := (HQ.out.keep hJ2).cell 8
    simp at y0 y1 y2 y3 y4 y5 y6 y7 y8
    clear hJ2
    clear hlo hhi hJ
    go_simp
    exact And.intro rfl rfl
  simp only [Act.put, List.setIfInBounds_toArray, List.set_cons_succ, List.set_cons_zero, Nat.reduceAdd]
  refine ch_special 1 6 (by rfl) rfl (by decide) (by kernel_rfl) (fun w2 hJ => ?_) ?_
  · replace hJ : Below (w6).heap.size (w6) w2 := hJ
    go_simp
    refine (HSR.out w2 (HB5.out.trans (hJ.mono HB5.out.size))).mono ?_
    rintro e w3 ⟨rfl, hb⟩
    exact ⟨_, rfl, rfl, hJ.trans (hb.mono hJ.size)⟩
  rw [n14]
  simp only [Act.put, List.setIfInBounds_toArray, List.set_cons_succ, List.set_cons_zero, Nat.reduceAdd]
  refine ch_plain 0 4 1 (by rfl) rfl (by kernel_rfl) (by kernel_rfl) ?_
  apply Exists.intro
  refine ⟨fun st w2 hlo hhi hJ => ?_, ?_⟩
  · clear hlo hhi hJ
    go_simp
    exact And.intro rfl rfl
  simp only [Act.put, List.setIfInBounds_toArray, List.set_cons_succ, List.set_cons_zero, Nat.reduceAdd]
  refine ch_plain 0 4 1 (by rfl) rfl (by kernel_rfl) (by kernel_rfl) ?_
  apply Exists.intro
  refine ⟨fun st w2 hlo hhi hJ => ?_, ?_⟩
  · clear hlo hhi hJ
    go_simp
    exact And.intro rfl rfl
  simp only [Act.put, List.setIfInBounds_toArray, List.set_cons_succ, List.set_cons_zero, Nat.reduceAdd]
  refine ch_plain 0 4 1 (by rfl) rfl (by kernel_rfl) (by kernel_rfl) ?_
  apply Exists.intro
  refine ⟨fun st w2 hlo hhi hJ => ?_, ?_⟩
  · clear hlo hhi hJ
    go_simp
    exact And.intro rfl rfl
  simp only [Act.put, List.setIfInBounds_toArray, List.set_cons_succ, List.set_cons_zero, Nat.reduceAdd]
  refine ch_plain 0 4 1 (by rfl) rfl (by kernel_rfl) (by kernel_rfl) ?_
  apply Exists.intro
  refine ⟨fun st w2 hlo hhi hJ => ?_, ?_⟩
  · replace hJ : Below (w6).heap.size (w6) w2 := hJ
    have hJ2 := HB5.out.trans (hJ.mono HB5.out.size)
    have y0 := (HP.out.keep hJ2).cell 0
    have y1 := (HP.out.keep hJ2).cell 1
    have y2 := (HP.out.keep hJ2).cell 2
    have y3 := (HP.out.keep hJ2).cell 3
    have y4 := (HP.out.keep hJ2).cell 4
    have y5 := (HP.out.keep hJ2).cell 5
    have y6 := (HP.out.keep hJ2).cell 6
    have y7 := (HP.out.keep hJ2).cell 7
    have y8 := (HP.out.keep hJ2).cell 8
    simp at y0 y1 y2 y3 y4 y5 y6 y7 y8
    clear hJ2
    clear hlo hhi hJ
    go_simp
    exact And.intro rfl rfl
  simp only [Act.put, List.setIfInBounds_toArray, List.set_cons_succ, List.set_cons_zero, Nat.reduceAdd]
  refine ch_plain 0 4 1 (by rfl) rfl (by kernel_rfl) (by kernel_rfl) ?_
  apply Exists.intro
  refine ⟨fun st w2 hlo hhi hJ => ?_, ?_⟩
  · replace hJ : Below (w6).heap.size (w6) w2 := hJ
    have hJ2 := HB5.out.trans (hJ.mono HB5.out.size)
    have y0 := (HP.out.keep hJ2).cell 0
    have y1 := (HP.out.keep hJ2).cell 1
    have y2 := (HP.out.keep hJ2).cell 2
    have y3 := (HP.out.keep hJ2).cell 3
    have y4 := (HP.out.keep hJ2).cell 4
    have y5 := (HP.out.keep hJ2).cell 5
    have y6 := (HP.out.keep hJ2).cell 6
    have y7 := (HP.out.keep hJ2).cell 7
    have y8 := (HP.out.keep hJ2).cell 8
    simp at y0 y1 y2 y3 y4 y5 y6 y7 y8
    clear hJ2
    clear hlo hhi hJ
    go_simp
    exact And.intro rfl rfl
  simp only [Act.put, List.setIfInBounds_toArray, List.set_cons_succ, List.set_cons_zero, Nat.reduceAdd]
  refine ch_special 2 6 (by rfl) rfl (by decide) (by kernel_rfl) (fun w2 hJ => ?_) ?_
  · replace hJ : Below (w6).heap.size (w6) w2 := hJ
    go_simp
    refine (HSS.out w2 (HB5.out.trans (hJ.mono HB5.out.size))).mono ?_
    rintro e w3 ⟨rfl, hb⟩
    exact ⟨_, rfl, rfl, hJ.trans (hb.mono hJ.size)⟩
  rw [n20]
  simp only [Act.put, List.setIfInBounds_toArray, List.set_cons_succ, List.set_cons_zero, Nat.reduceAdd]
  refine ch_plain 0 4 1 (by rfl) rfl (by kernel_rfl) (by kernel_rfl) ?_
  apply Exists.intro
  refine ⟨fun st w2 hlo hhi hJ => ?_, ?_⟩
  · clear hlo hhi hJ
    go_simp
    exact And.intro rfl rfl
  simp only [Act.put, List.setIfInBounds_toArray, List.set_cons_succ, List.set_cons_zero, Nat.reduceAdd]
  refine ch_plain 0 4 1 (by rfl) rfl (by kernel_rfl) (by kernel_rfl) ?_
  apply Exists.intro
  refine ⟨fun st w2 hlo hhi hJ => ?_, ?_⟩
  · clear hlo hhi hJ
    go_simp
    exact And.intro rfl rfl
  simp only [Act.put, List.setIfInBounds_toArray, List.set_cons_succ, List.set_cons_zero, Nat.reduceAdd]
  refine ch_special 3 6 (by rfl) rfl (by decide) (by kernel_rfl) (fun w2 hJ => ?_) ?_
  · replace hJ : Below (w6).heap.size (w6) w2 := hJ
    go_simp
    refine (works_any w2).mono ?_
    rintro e w3 ⟨rfl, hb⟩
    exact ⟨_, rfl, rfl, hJ.trans (hb.mono hJ.size)⟩
  rw [n23]
  simp only [Act.put, List.setIfInBounds_toArray, List.set_cons_succ, List.set_cons_zero, Nat.reduceAdd]
  refine ch_plain 0 4 1 (by rfl) rfl (by kernel_rfl) (by kernel_rfl) ?_
  apply Exists.intro
  refine ⟨fun st w2 hlo hhi hJ => ?_, ?_⟩
  · clear hlo hhi hJ
    go_simp
    exact And.intro rfl rfl
  simp only [Act.put, List.setIfInBounds_toArray, List.set_cons_succ, List.set_cons_zero, Nat.reduceAdd]
  refine ch_plain 0 4 1 (by rfl) rfl (by kernel_rfl) (by kernel_rfl) ?_
  apply Exists.intro
  refine ⟨fun st w2 hlo hhi hJ => ?_, ?_⟩
  · clear hlo hhi hJ
    go_simp
    exact And.intro rfl rfl
  simp only [Act.put, Nat.reduceAdd]
  refine ch_nil (fun w5 hJ => ?_)
  replace hJ : Below (w6).heap.size (w6) w5 := hJ
  clear n11 n14 n20 n23
  have HB9 := Lib.hid (HB.out.trans ((HB5.out.trans (hJ.mono HB5.out.size)).mono HB.out.size))
  clear hJ
  go_wp2
  go_ret
  exact ⟨rfl, HB9.out⟩
end Go.Proofs.Ytimgecflcackbaa
