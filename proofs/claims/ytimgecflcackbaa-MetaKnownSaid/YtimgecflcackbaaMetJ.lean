/-
  META: the reference's Encode (printed by wip/gen-meti.py).
-/
import Derived.Test.YtimgecflcackbaaMetI
namespace Go.Proofs.Ytimgecflcackbaa
open Go.RowKit Reg Go.ChangeShapes

set_option maxRecDepth 100000 in
set_option maxHeartbeats 1000000 in
theorem encR_bad (w : World) (v : Value) (m : Mt) (hv : InMt w v m) (h0 : mtOf m m.live.length 1024 ≠ 0) :
    Calls Try.prog 14 #[v] w fun e w' => e = .returned (.tuple #[.string (encM m), .int .i64 (encE m)]) ∧ Below w.heap.size w w' := by
  have HCK := Lib.hid (fun w2 (h : Below w.heap.size w w2) => checkRM_any w2 v m m.live.length 1024 (hv.keep h))
  have hE : encE m = mtOf m m.live.length 1024 := if_pos h0
  have hS : encM m = strOf [] := by unfold encM; rw [hE, if_neg h0]
  rw [hE, hS]
  generalize mtOf m m.live.length 1024 = z at *
  obtain ⟨lv, sv, iv, rfl, hl, hs, hi, hw⟩ := hv
  unfold mtV at *
  obtain ⟨la, cl, rfl, -, -⟩ := hl.open_
  obtain ⟨sa, sc, rfl, -, -⟩ := hs
  obtain ⟨ia, ic, rfl, -, -⟩ := hi.open_
  have e0 : (z != 0) = true := by simp [h0]
  have HBO := Lib.hid ((Below.refl w.heap.size w).alloc (Nat.le_refl _) (Obj.cells #[.slice la m.live.length cl, .slice sa m.snaps.length sc, .int .u64 m.token.base.1, .int .u64 m.token.base.2, .int .u64 m.token.target.1, .int .u64 m.token.target.2, .int .i64 m.token.next, .int .i64 m.token.all, .slice ia m.token.image.length ic] 30))
  have HC2 := Lib.hid (HCK.out _ HBO.out)
  have hEm : strOf [] = ⟨#[]⟩ := rfl
  rw [hEm]
  clear hl hi hw h0 hE hS HCK hEm
  go_enter Try.func14, Try.ntmps14
  go_wp2_with fail
  refine HC2.out.mono ?_
  rintro e w2 ⟨rfl, hb⟩
  have HB2 := Lib.hid (HBO.out.trans (hb.mono HBO.out.size))
  clear hb HC2 HBO
  go_wp2
  go_ret2
  exact ⟨rfl, HB2.out⟩
set_option maxRecDepth 100000 in
set_option maxHeartbeats 4000000 in
theorem encR_good (w : World) (v : Value) (m : Mt) (hv : InMt w v m) (h0 : mtOf m m.live.length 1024 = 0) :
    Calls Try.prog 14 #[v] w fun e w' => e = .returned (.tuple #[.string (encM m), .int .i64 (encE m)]) ∧ Below w.heap.size w w' := by
  have HCK := Lib.hid (fun w2 (h : Below w.heap.size w w2) => checkRM_any w2 v m m.live.length 1024 (hv.keep h))
  have hE : encE m = if 48 < sizeS (mtB m).length then 3 else 0 := if_neg (fun h => h h0)
  have hS : encM m = if 48 < sizeS (mtB m).length then strOf [] else strOf (mtB m) := by unfold encM; rw [hE]; by_cases h : 48 < sizeS (mtB m).length <;> simp [h]
  obtain ⟨RS, hRS⟩ : ∃ r, encM m = r := ⟨_, rfl⟩
  obtain ⟨RZ, hRZ⟩ : ∃ r, encE m = r := ⟨_, rfl⟩
  rw [hRS] at hS ⊢
  rw [hRZ] at hE ⊢
  have HRS := Lib.hid hS
  have HRZ := Lib.hid hE
  clear hE hS hRS hRZ
  rw [h0] at HCK
  obtain ⟨h1, h2, h3, h4⟩ := mt_ok h0
  obtain ⟨s1, s2, s3, E, HB⟩ := Bts.ex h0
  have HBT := Lib.hid HB
  have hl8 := chk_len h1
  obtain ⟨lv, sv, iv, rfl, hl, hs, hi, hw⟩ := hv
  have HP1 := Lib.hid (fun v w2 (hv : InI w2 v [(m.live.length : Int)]) => numsRC (strOf []) v _ w2 hv (by simp) (by decide) (by simp))
  have HP2 := Lib.hid (fun w2 (h : Below w.heap.size w w2) => numsRC s1 lv _ w2 (hl.keep h) (chk_nonneg h1) (Nat.le_trans HB.z1 (by decide)) (by omega))
  have HP3 := Lib.hid (fun v w2 (hv : InI w2 v [(m.snaps.length : Int)]) => numsRC s2 v _ w2 hv (by simp) (Nat.le_trans HB.z2 (by decide)) (by simp))
  rw [HB.e1] at HP1
  rw [HB.e2] at HP2
  rw [HB.e3] at HP3
  unfold mtV at *
  obtain ⟨la, cl, rfl, -, -⟩ := hl.open_
  obtain ⟨sa, sc, rfl, hsm, hsx⟩ := hs
  have HTI := Lib.hid hi
  obtain ⟨ia, ic, rfl, -, -⟩ := hi.open_
  have HWL := Lib.hid (show ∀ z ∈ [(m.live.length : Int)], (Lit.int .i64 z).wf = true from by simp; exact lit_len (by unfold maxLen; omega))
  have HWS := Lib.hid (show ∀ z ∈ [(m.snaps.length : Int)], (Lit.int .i64 z).wf = true from by simp; exact lit_len (by unfold maxLen; omega))
  have HBO := Lib.hid ((Below.refl w.heap.size w).alloc (Nat.le_refl _) (Obj.cells #[.slice la m.live.length cl, .slice sa m.snaps.length sc, .int .u64 m.token.base.1, .int .u64 m.token.base.2, .int .u64 m.token.target.1, .int .u64 m.token.target.2, .int .i64 m.token.next, .int .i64 m.token.all, .slice ia m.token.image.length ic] 30))
  have HBX := Lib.hid (Blk.new w 30 #[.slice la m.live.length cl, .slice sa m.snaps.length sc, .int .u64 m.token.base.1, .int .u64 m.token.base.2, .int .u64 m.token.target.1, .int .u64 m.token.target.2, .int .i64 m.token.next, .int .i64 m.token.all, .slice ia m.token.image.length ic])
  have HC2 := Lib.hid (HCK.out _ HBO.out)
  have HSX := Lib.hid hsx
  have HOK := Lib.hid (sn_ok h3)
  have HTK := Lib.hid h4
  have HML := Lib.hid h2
  have HTW := Lib.hid hw
  clear hl hi hw h0 HCK hsx h1 h2 h3 h4 HB hl8
  go_enter Try.func14, Try.ntmps14
  go_wp2_with fail
  refine HC2.out.mono ?_
  rintro e wa ⟨rfl, hb⟩
  have HB2 := Lib.hid (HBO.out.trans (hb.mono HBO.out.size))
  have HBM := Lib.hid (HBX.out.keep hb)
  clear hb HC2 HBO HBX
  go_wp2_with fail
  refine wp_region_chain [3, 4, 7] (kv [(3, .sl 1), (4, .is (.string s1)), (7, .is (.string s2))]) (JI (wa) [(0, [(m.live.length : Int)])]) (by kernel_rfl) (by kernel_rfl) (by kernel_rfl) (kv_inh _) (JI.start _ _) ?_
  intro ν hν
  obtain ⟨g3, n3⟩ : ∃ g, ν 3 = .slice (some ⟨g, 0, none⟩) 1 1 := hν 3
  have n4 : ν 4 = .string s1 := hν 4
  have n7 : ν 7 = .string s2 := hν 7
  clear hν
  refine ch_plain 0 3 6 (by rfl) rfl (by kernel_rfl) (by kernel_rfl) ?_
  apply Exists.intro
  refine ⟨fun st w2 hlo hhi hJ => ?_, ?_⟩
  · clear hlo hhi hJ
    go_simp
    exact And.intro rfl rfl
  simp only [Act.put, List.setIfInBounds_toArray, List.set_cons_succ, List.set_cons_zero, Nat.reduceAdd]
  refine ch_plain 0 3 6 (by rfl) rfl (by kernel_rfl) (by kernel_rfl) ?_
  apply Exists.intro
  refine ⟨fun st w2 hlo hhi hJ => ?_, ?_⟩
  · have hZ := hJ.1
    have x0 := (HBM.out.keep hZ).cell 0
    simp at x0
    clear hZ
    clear hlo hhi hJ
    go_simp
    exact And.intro rfl rfl
  simp only [Act.put, List.setIfInBounds_toArray, List.set_cons_succ, List.set_cons_zero, Nat.reduceAdd]
  refine ch_plain 0 3 6 (by rfl) rfl (by kernel_rfl) (by kernel_rfl) ?_
  apply Exists.intro
  refine ⟨fun st w2 hlo hhi hJ => ?_, ?_⟩
  · clear hlo hhi hJ
    go_simp
    exact And.intro rfl rfl
  simp only [Act.put, List.setIfInBounds_toArray, List.set_cons_succ, List.set_cons_zero, Nat.reduceAdd]
  refine ch_special 0 6 (by rfl) rfl (by decide) (by kernel_rfl) (fun w2 hJ => ?_) ?_
  · have hj : JI (wa) [(0, [(m.live.length : Int)])] [] w2 := hJ
    go_simp
    have hbx := JI.build hj ((Below.refl w2.heap.size w2).alloc (Nat.le_refl _) (Obj.cells #[.int .i64 ((m.live.length : Int))] 3)) (InI.litAt w2 [(m.live.length : Int)] _ _ rfl rfl (by simp) HWL.out) (by simp)
    exact ⟨⟨_, rfl⟩, hbx⟩
  rw [n3]
  simp only [Act.put, List.setIfInBounds_toArray, List.set_cons_succ, List.set_cons_zero, Nat.reduceAdd]
  refine ch_special 1 6 (by rfl) rfl (by decide) (by kernel_rfl) (fun w2 hJ => ?_) ?_
  · have hj : JI (wa) [(0, [(m.live.length : Int)])] [ν 3] w2 := hJ
    rw [n3] at hj
    go_simp
    refine (HP1.out _ w2 (hj.get (i := 0) (by simp) rfl)).mono ?_
    rintro e w3 ⟨rfl, hb⟩
    have hbx := hj.call hb (.string s1) rfl
    exact ⟨_, rfl, rfl, hbx⟩
  rw [n4]
  simp only [Act.put, List.setIfInBounds_toArray, List.set_cons_succ, List.set_cons_zero, Nat.reduceAdd]
  refine ch_plain 0 3 6 (by rfl) rfl (by kernel_rfl) (by kernel_rfl) ?_
  apply Exists.intro
  refine ⟨fun st w2 hlo hhi hJ => ?_, ?_⟩
  · clear hlo hhi hJ
    go_simp
    exact And.intro rfl rfl
  simp only [Act.put, List.setIfInBounds_toArray, List.set_cons_succ, List.set_cons_zero, Nat.reduceAdd]
  refine ch_plain 0 3 6 (by rfl) rfl (by kernel_rfl) (by kernel_rfl) ?_
  apply Exists.intro
  refine ⟨fun st w2 hlo hhi hJ => ?_, ?_⟩
  · have hZ := hJ.1
    have x0 := (HBM.out.keep hZ).cell 0
    simp at x0
    clear hZ
    clear hlo hhi hJ
    go_simp
    exact And.intro rfl rfl
  simp only [Act.put, List.setIfInBounds_toArray, List.set_cons_succ, List.set_cons_zero, Nat.reduceAdd]
  refine ch_special 2 6 (by rfl) rfl (by decide) (by kernel_rfl) (fun w2 hJ => ?_) ?_
  · have hj : JI (wa) [(0, [(m.live.length : Int)])] [ν 3, ν 4] w2 := hJ
    rw [n3, n4] at hj
    go_simp
    refine (HP2.out w2 (HB2.out.trans (hj.1.mono HB2.out.size))).mono ?_
    rintro e w3 ⟨rfl, hb⟩
    have hbx := hj.call hb (.string s2) rfl
    exact ⟨_, rfl, rfl, hbx⟩
  rw [n7]
  simp only [Act.put, List.setIfInBounds_toArray, List.set_cons_succ, List.set_cons_zero, Nat.reduceAdd]
  refine ch_plain 0 3 6 (by rfl) rfl (by kernel_rfl) (by kernel_rfl) ?_
  apply Exists.intro
  refine ⟨fun st w2 hlo hhi hJ => ?_, ?_⟩
  · clear hlo hhi hJ
    go_simp
    exact And.intro rfl rfl
  simp only [Act.put, Nat.reduceAdd]
  refine ch_nil (fun w5 hJ => ?_)
  have hZ : Below (wa).heap.size (wa) w5 := hJ.1
  clear hJ n3 n4 n7
  have HB3 := Lib.hid (HB2.out.trans (hZ.mono HB2.out.size))
  have HBM3 := Lib.hid (HBM.out.keep hZ)
  clear hZ HB2 HBM HP1 HP2 HWL
  have x1 := HBM3.out.cell 1
  simp at x1
  go_wp2_with fail
  have hbn := (Below.refl w5.heap.size w5).alloc (Nat.le_refl _) (Obj.cells #[.int .i64 (m.snaps.length : Int)] 3)
  refine (HP3.out _ _ (InI.litAt w5 [(m.snaps.length : Int)] _ _ rfl rfl (by simp) HWS.out)).mono ?_
  rintro e w6 ⟨rfl, hb⟩
  have HB6 := Lib.hid (HB3.out.trans ((hbn.trans (hb.mono hbn.size)).mono HB3.out.size))
  have HBM6 := Lib.hid (HBM3.out.keep (hbn.trans (hb.mono hbn.size)))
  clear hbn hb HB3 HBM3 x1 HP3 HWS
  have x1 := HBM6.out.cell 1
  simp at x1
  rw [← HBT.out.start]
  go_wp2_with fail
  go_loopw [5, 6] (fun s i wr => ∃ (k : Nat), k ≤ m.snaps.length ∧ s = .string (E k) ∧ i = .int .i64 k ∧ Below w.heap.size w wr ∧ Blk wr w.heap.size 30 #[.slice la m.live.length cl, .slice sa m.snaps.length sc, .int .u64 m.token.base.1, .int .u64 m.token.base.2, .int .u64 m.token.target.1, .int .u64 m.token.target.2, .int .i64 m.token.next, .int .i64 m.token.all, .slice ia m.token.image.length ic]) (fun _ i _ => m.snaps.length - (intOf i).toNat)
  case atStart => exact ⟨0, Nat.zero_le _, rfl, rfl, HB6.out, HBM6.out⟩
  case round =>
    obtain ⟨k, hk, rfl, rfl, hb, hbm⟩ := hrel
    have HB := Lib.hid hb
    have HBMr := Lib.hid hbm
    clear hb hbm
    clear HB6 HBM6 x1
    have x1 := HBMr.out.cell 1
    simp at x1
    by_cases hkm : k < m.snaps.length
    · have HST := Lib.hid (HBT.out.step k hkm)
      have HCO := Lib.hid (HOK.out (m.snaps.getD k snap0) (by rw [List.getD, List.getElem?_eq_getElem hkm]; exact List.getElem_mem hkm))
      obtain ⟨sg, so, si, rfl, c0, c1, c2, hsi, c3, hsw⟩ := HSX.out k hkm
      have S0 := Lib.hid c0
      have S1 := Lib.hid c1
      have S2 := Lib.hid c2
      have S3 := Lib.hid c3
      have HSI := Lib.hid hsi
      obtain ⟨ia', ci', rfl, -, -⟩ := hsi.open_
      have l1 : (k : Int) < (m.snaps.length : Int) := by omega
      clear c0 c1 c2 c3 hsi
      generalize m.snaps.getD k snap0 = sn at *
      obtain ⟨⟨ge, gc⟩, zs, hd⟩ := sn
      dsimp only at *
      obtain ⟨q1, hq1⟩ : ∃ q, cat (E k) (gdB (ge, gc)) = q := ⟨_, rfl⟩
      obtain ⟨q2, hq2⟩ : ∃ q, cat q1 (numsB [bitZ hd]) = q := ⟨_, rfl⟩
      obtain ⟨q3, hq3⟩ : ∃ q, cat q2 (numsB zs) = q := ⟨_, rfl⟩
      have HQ := Lib.hid (show E (k + 1) = q3 by rw [HST.out, ← hq3, ← hq2, ← hq1, cat_cat, cat_cat]; rfl)
      have zk := HBT.out.zE k
      have g18 := gdB_le (ge, gc)
      have b9 := numsB_one (bitZ hd)
      have z1 : q1.size ≤ 20000 := by rw [← hq1, cat_size]; omega
      have z2 : q2.size ≤ 30000 := by rw [← hq2, cat_size]; omega
      have HG1 := Lib.hid (fun w => guidRC (E k) (ge, gc) w hsw (by omega))
      have HG2 := Lib.hid (fun v w2 (hv : InI w2 v [bitZ hd]) => numsRC q1 v _ w2 hv (by simp; cases hd <;> decide) (by omega) (by simp))
      have HWB := Lib.hid (show ∀ z ∈ [bitZ hd], (Lit.int .i64 z).wf = true from by simp; cases hd <;> rfl)
      have HG3 := Lib.hid (fun w2 (h : Below w.heap.size w w2) => numsRC q2 _ zs w2 (HSI.out.keep h) (chk_nonneg HCO.out) (by omega) (by have := chk_len HCO.out; omega))
      rw [hq1] at HG1
      rw [hq2] at HG2
      rw [hq3] at HG3
      unfold aggG at HG1
      dsimp only at HG1
      clear hq1 hq2 hq3 zk g18 b9 z1 z2 hsw
      have x3 := cell_later HB.out S3.out
      have x1 := HBMr.out.cell 1
      simp at x1
      have l0 : k < m.snaps.length := hkm
      cases hd with
      | true =>
        go_wp2_with fail
        clear x1 x3
        refine wp_region_chainF [7, 10, 17] 9 (kv [(7, .is (.string q1)), (9, .sl 1), (10, .is (.string q2)), (17, .is (.string q3))]) (JF (wr) [1]) (by kernel_rfl) (by kernel_rfl) (by kernel_rfl) (kv_inh _) (JF.start _ _) ?_
        intro ν hν
        have n7 : ν 7 = .string q1 := hν 7
        obtain ⟨g9, n9⟩ : ∃ g, ν 9 = .slice (some ⟨g, 0, none⟩) 1 1 := hν 9
        have n10 : ν 10 = .string q2 := hν 10
        have n17 : ν 17 = .string q3 := hν 17
        clear hν
        refine chf_plain 0 3 6 (by rfl) rfl (by kernel_rfl) (by kernel_rfl) ?_
        apply Exists.intro
        refine ⟨fun st x w2 hlo hhi hx hJ => ?_, ?_⟩
        · clear hlo hhi hx hJ
          go_simp
          exact And.intro rfl rfl
        simp only [Act.put, List.setIfInBounds_toArray, List.set_cons_succ, List.set_cons_zero, Nat.reduceAdd]
        refine chf_plain 0 3 6 (by rfl) rfl (by kernel_rfl) (by kernel_rfl) ?_
        apply Exists.intro
        refine ⟨fun st x w2 hlo hhi hx hJ => ?_, ?_⟩
        · clear hlo hhi hx hJ
          go_simp
          exact And.intro rfl rfl
        simp only [Act.put, List.setIfInBounds_toArray, List.set_cons_succ, List.set_cons_zero, Nat.reduceAdd]
        refine chf_plain 0 3 6 (by rfl) rfl (by kernel_rfl) (by kernel_rfl) ?_
        apply Exists.intro
        refine ⟨fun st x w2 hlo hhi hx hJ => ?_, ?_⟩
        · have hZ := hJ.1
          have y1 := (HBMr.out.keep hZ).cell 1
          simp at y1
          clear hZ
          clear hlo hhi hx hJ
          go_simp
          exact And.intro rfl rfl
        simp only [Act.put, List.setIfInBounds_toArray, List.set_cons_succ, List.set_cons_zero, Nat.reduceAdd]
        refine chf_plain 0 3 6 (by rfl) rfl (by kernel_rfl) (by kernel_rfl) ?_
        apply Exists.intro
        refine ⟨fun st x w2 hlo hhi hx hJ => ?_, ?_⟩
        · clear hlo hhi hx hJ
          go_simp
          exact And.intro rfl rfl
        simp only [Act.put, List.setIfInBounds_toArray, List.set_cons_succ, List.set_cons_zero, Nat.reduceAdd]
        refine chf_plain 0 3 6 (by rfl) rfl (by kernel_rfl) (by kernel_rfl) ?_
        apply Exists.intro
        refine ⟨fun st x w2 hlo hhi hx hJ => ?_, ?_⟩
        · clear hlo hhi hx hJ
          go_simp
          exact And.intro rfl rfl
        simp only [Act.put, List.setIfInBounds_toArray, List.set_cons_succ, List.set_cons_zero, Nat.reduceAdd]
        refine chf_plain 0 3 6 (by rfl) rfl (by kernel_rfl) (by kernel_rfl) ?_
        apply Exists.intro
        refine ⟨fun st x w2 hlo hhi hx hJ => ?_, ?_⟩
        · clear hlo hhi hx hJ
          go_simp
          exact And.intro rfl rfl
        simp only [Act.put, List.setIfInBounds_toArray, List.set_cons_succ, List.set_cons_zero, Nat.reduceAdd]
        refine chf_plain 0 3 6 (by rfl) rfl (by kernel_rfl) (by kernel_rfl) ?_
        apply Exists.intro
        refine ⟨fun st x w2 hlo hhi hx hJ => ?_, ?_⟩
        · have hZ := hJ.1
          have y0 := cell_later (HB.out.trans (hZ.mono HB.out.size)) S0.out
          have y1 := cell_later (HB.out.trans (hZ.mono HB.out.size)) S1.out
          clear hZ
          clear hlo hhi hx hJ
          go_simp
          exact And.intro rfl rfl
        simp only [Act.put, List.setIfInBounds_toArray, List.set_cons_succ, List.set_cons_zero, Nat.reduceAdd]
        refine chf_special 0 6 false (by rfl) rfl (by decide) (by kernel_rfl) (by kernel_rfl) (fun x w2 hx hdep hJ => ?_) ?_
        · have hj : JF (wr) [1] [] x w2 := hJ
          clear hx hdep
          go_simp
          refine (HG1.out w2).mono ?_
          rintro e w3 ⟨rfl, hb⟩
          exact ⟨_, rfl, rfl, hj.call hb⟩
        rw [n7]
        simp only [Act.put, List.setIfInBounds_toArray, List.set_cons_succ, List.set_cons_zero, Nat.reduceAdd]
        refine chf_plain 0 3 6 (by rfl) rfl (by kernel_rfl) (by kernel_rfl) ?_
        apply Exists.intro
        refine ⟨fun st x w2 hlo hhi hx hJ => ?_, ?_⟩
        · clear hlo hhi hx hJ
          go_simp
          exact And.intro rfl rfl
        simp only [Act.put, List.setIfInBounds_toArray, List.set_cons_succ, List.set_cons_zero, Nat.reduceAdd]
        refine chf_free 0 1 6 (by rfl) (by decide) rfl (by kernel_rfl) (by kernel_rfl) (fun st w2 hlo hhi hJ => ?_) ?_
        · go_simp
          exact ⟨⟨_, rfl⟩, JF.build hJ ((Below.refl w2.heap.size w2).alloc (Nat.le_refl _) (Obj.cells #[.int .i64 (1)] 3)) (InI.litAt w2 [1] _ _ rfl rfl (by simp) (by decide))⟩
        rw [n9]
        simp only [Act.put, List.setIfInBounds_toArray, List.set_cons_succ, List.set_cons_zero, Nat.reduceAdd]
        refine chf_special 1 6 true (by rfl) rfl (by decide) (by kernel_rfl) (by kernel_rfl) (fun x w2 hx hdep hJ => ?_) ?_
        · have hj : JF (wr) [1] [ν 7] x w2 := hJ
          have hxr := hj.2 _ (hdep rfl)
          rw [n9] at hxr
          clear hx hdep
          go_simp
          refine (HG2.out _ w2 hxr).mono ?_
          rintro e w3 ⟨rfl, hb⟩
          exact ⟨_, rfl, rfl, hj.call hb⟩
        rw [n10]
        simp only [Act.put, List.setIfInBounds_toArray, List.set_cons_succ, List.set_cons_zero, Nat.reduceAdd]
        refine chf_plain 0 3 6 (by rfl) rfl (by kernel_rfl) (by kernel_rfl) ?_
        apply Exists.intro
        refine ⟨fun st x w2 hlo hhi hx hJ => ?_, ?_⟩
        · clear hlo hhi hx hJ
          go_simp
          exact And.intro rfl rfl
        simp only [Act.put, List.setIfInBounds_toArray, List.set_cons_succ, List.set_cons_zero, Nat.reduceAdd]
        refine chf_plain 0 3 6 (by rfl) rfl (by kernel_rfl) (by kernel_rfl) ?_
        apply Exists.intro
        refine ⟨fun st x w2 hlo hhi hx hJ => ?_, ?_⟩
        · have hZ := hJ.1
          have y1 := (HBMr.out.keep hZ).cell 1
          simp at y1
          clear hZ
          clear hlo hhi hx hJ
          go_simp
          exact And.intro rfl rfl
        simp only [Act.put, List.setIfInBounds_toArray, List.set_cons_succ, List.set_cons_zero, Nat.reduceAdd]
        refine chf_plain 0 3 6 (by rfl) rfl (by kernel_rfl) (by kernel_rfl) ?_
        apply Exists.intro
        refine ⟨fun st x w2 hlo hhi hx hJ => ?_, ?_⟩
        · clear hlo hhi hx hJ
          go_simp
          exact And.intro rfl rfl
        simp only [Act.put, List.setIfInBounds_toArray, List.set_cons_succ, List.set_cons_zero, Nat.reduceAdd]
        refine chf_plain 0 3 6 (by rfl) rfl (by kernel_rfl) (by kernel_rfl) ?_
        apply Exists.intro
        refine ⟨fun st x w2 hlo hhi hx hJ => ?_, ?_⟩
        · clear hlo hhi hx hJ
          go_simp
          exact And.intro rfl rfl
        simp only [Act.put, List.setIfInBounds_toArray, List.set_cons_succ, List.set_cons_zero, Nat.reduceAdd]
        refine chf_plain 0 3 6 (by rfl) rfl (by kernel_rfl) (by kernel_rfl) ?_
        apply Exists.intro
        refine ⟨fun st x w2 hlo hhi hx hJ => ?_, ?_⟩
        · clear hlo hhi hx hJ
          go_simp
          exact And.intro rfl rfl
        simp only [Act.put, List.setIfInBounds_toArray, List.set_cons_succ, List.set_cons_zero, Nat.reduceAdd]
        refine chf_plain 0 3 6 (by rfl) rfl (by kernel_rfl) (by kernel_rfl) ?_
        apply Exists.intro
        refine ⟨fun st x w2 hlo hhi hx hJ => ?_, ?_⟩
        · have hZ := hJ.1
          have y2 := cell_later (HB.out.trans (hZ.mono HB.out.size)) S2.out
          clear hZ
          clear hlo hhi hx hJ
          go_simp
          exact And.intro rfl rfl
        simp only [Act.put, List.setIfInBounds_toArray, List.set_cons_succ, List.set_cons_zero, Nat.reduceAdd]
        refine chf_special 2 6 false (by rfl) rfl (by decide) (by kernel_rfl) (by kernel_rfl) (fun x w2 hx hdep hJ => ?_) ?_
        · have hj : JF (wr) [1] [ν 7, ν 10] x w2 := hJ
          clear hx hdep
          go_simp
          refine (HG3.out w2 (HB.out.trans (hj.1.mono HB.out.size))).mono ?_
          rintro e w3 ⟨rfl, hb⟩
          exact ⟨_, rfl, rfl, hj.call hb⟩
        rw [n17]
        simp only [Act.put, List.setIfInBounds_toArray, List.set_cons_succ, List.set_cons_zero, Nat.reduceAdd]
        refine chf_plain 0 3 6 (by rfl) rfl (by kernel_rfl) (by kernel_rfl) ?_
        apply Exists.intro
        refine ⟨fun st x w2 hlo hhi hx hJ => ?_, ?_⟩
        · clear hlo hhi hx hJ
          go_simp
          exact And.intro rfl rfl
        simp only [Act.put, Nat.reduceAdd]
        refine chf_nil (fun w5 hJ => ?_)
        have hZ : Below (wr).heap.size (wr) w5 := hJ.1
        clear hJ n7 n9 n10 n17
        have HB9 := Lib.hid (HB.out.trans (hZ.mono HB.out.size))
        have HBM9 := Lib.hid (HBMr.out.keep hZ)
        have HKM := Lib.hid hkm
        have I9 := Lib.hid (show wrap64 ((k : Int) + 1) = (k : Int) + 1 from wrap_succ hkm hsm)
        clear hZ hkm hk l1 l0 HB HBMr HG1 HG2 HG3 HWB
        go_wp2
        rw [I9.out]
        clear I9
        exact ⟨⟨k + 1, HKM.out, by rw [HQ.out], by simp, HB9.out, HBM9.out⟩, meas_succ HKM.out⟩
      | false =>
        go_wp2_with fail
        clear x1 x3
        refine wp_region_chainF [7, 10, 17] 9 (kv [(7, .is (.string q1)), (9, .sl 1), (10, .is (.string q2)), (17, .is (.string q3))]) (JF (wr) [0]) (by kernel_rfl) (by kernel_rfl) (by kernel_rfl) (kv_inh _) (JF.start _ _) ?_
        intro ν hν
        have n7 : ν 7 = .string q1 := hν 7
        obtain ⟨g9, n9⟩ : ∃ g, ν 9 = .slice (some ⟨g, 0, none⟩) 1 1 := hν 9
        have n10 : ν 10 = .string q2 := hν 10
        have n17 : ν 17 = .string q3 := hν 17
        clear hν
        refine chf_plain 0 3 6 (by rfl) rfl (by kernel_rfl) (by kernel_rfl) ?_
        apply Exists.intro
        refine ⟨fun st x w2 hlo hhi hx hJ => ?_, ?_⟩
        · clear hlo hhi hx hJ
          go_simp
          exact And.intro rfl rfl
        simp only [Act.put, List.setIfInBounds_toArray, List.set_cons_succ, List.set_cons_zero, Nat.reduceAdd]
        refine chf_plain 0 3 6 (by rfl) rfl (by kernel_rfl) (by kernel_rfl) ?_
        apply Exists.intro
        refine ⟨fun st x w2 hlo hhi hx hJ => ?_, ?_⟩
        · clear hlo hhi hx hJ
          go_simp
          exact And.intro rfl rfl
        simp only [Act.put, List.setIfInBounds_toArray, List.set_cons_succ, List.set_cons_zero, Nat.reduceAdd]
        refine chf_plain 0 3 6 (by rfl) rfl (by kernel_rfl) (by kernel_rfl) ?_
        apply Exists.intro
        refine ⟨fun st x w2 hlo hhi hx hJ => ?_, ?_⟩
        · have hZ := hJ.1
          have y1 := (HBMr.out.keep hZ).cell 1
          simp at y1
          clear hZ
          clear hlo hhi hx hJ
          go_simp
          exact And.intro rfl rfl
        simp only [Act.put, List.setIfInBounds_toArray, List.set_cons_succ, List.set_cons_zero, Nat.reduceAdd]
        refine chf_plain 0 3 6 (by rfl) rfl (by kernel_rfl) (by kernel_rfl) ?_
        apply Exists.intro
        refine ⟨fun st x w2 hlo hhi hx hJ => ?_, ?_⟩
        · clear hlo hhi hx hJ
          go_simp
          exact And.intro rfl rfl
        simp only [Act.put, List.setIfInBounds_toArray, List.set_cons_succ, List.set_cons_zero, Nat.reduceAdd]
        refine chf_plain 0 3 6 (by rfl) rfl (by kernel_rfl) (by kernel_rfl) ?_
        apply Exists.intro
        refine ⟨fun st x w2 hlo hhi hx hJ => ?_, ?_⟩
        · clear hlo hhi hx hJ
          go_simp
          exact And.intro rfl rfl
        simp only [Act.put, List.setIfInBounds_toArray, List.set_cons_succ, List.set_cons_zero, Nat.reduceAdd]
        refine chf_plain 0 3 6 (by rfl) rfl (by kernel_rfl) (by kernel_rfl) ?_
        apply Exists.intro
        refine ⟨fun st x w2 hlo hhi hx hJ => ?_, ?_⟩
        · clear hlo hhi hx hJ
          go_simp
          exact And.intro rfl rfl
        simp only [Act.put, List.setIfInBounds_toArray, List.set_cons_succ, List.set_cons_zero, Nat.reduceAdd]
        refine chf_plain 0 3 6 (by rfl) rfl (by kernel_rfl) (by kernel_rfl) ?_
        apply Exists.intro
        refine ⟨fun st x w2 hlo hhi hx hJ => ?_, ?_⟩
        · have hZ := hJ.1
          have y0 := cell_later (HB.out.trans (hZ.mono HB.out.size)) S0.out
          have y1 := cell_later (HB.out.trans (hZ.mono HB.out.size)) S1.out
          clear hZ
          clear hlo hhi hx hJ
          go_simp
          exact And.intro rfl rfl
        simp only [Act.put, List.setIfInBounds_toArray, List.set_cons_succ, List.set_cons_zero, Nat.reduceAdd]
        refine chf_special 0 6 false (by rfl) rfl (by decide) (by kernel_rfl) (by kernel_rfl) (fun x w2 hx hdep hJ => ?_) ?_
        · have hj : JF (wr) [0] [] x w2 := hJ
          clear hx hdep
          go_simp
          refine (HG1.out w2).mono ?_
          rintro e w3 ⟨rfl, hb⟩
          exact ⟨_, rfl, rfl, hj.call hb⟩
        rw [n7]
        simp only [Act.put, List.setIfInBounds_toArray, List.set_cons_succ, List.set_cons_zero, Nat.reduceAdd]
        refine chf_plain 0 3 6 (by rfl) rfl (by kernel_rfl) (by kernel_rfl) ?_
        apply Exists.intro
        refine ⟨fun st x w2 hlo hhi hx hJ => ?_, ?_⟩
        · clear hlo hhi hx hJ
          go_simp
          exact And.intro rfl rfl
        simp only [Act.put, List.setIfInBounds_toArray, List.set_cons_succ, List.set_cons_zero, Nat.reduceAdd]
        refine chf_free 0 1 6 (by rfl) (by decide) rfl (by kernel_rfl) (by kernel_rfl) (fun st w2 hlo hhi hJ => ?_) ?_
        · go_simp
          exact ⟨⟨_, rfl⟩, JF.build hJ ((Below.refl w2.heap.size w2).alloc (Nat.le_refl _) (Obj.cells #[.int .i64 (0)] 3)) (InI.litAt w2 [0] _ _ rfl rfl (by simp) (by decide))⟩
        rw [n9]
        simp only [Act.put, List.setIfInBounds_toArray, List.set_cons_succ, List.set_cons_zero, Nat.reduceAdd]
        refine chf_special 1 6 true (by rfl) rfl (by decide) (by kernel_rfl) (by kernel_rfl) (fun x w2 hx hdep hJ => ?_) ?_
        · have hj : JF (wr) [0] [ν 7] x w2 := hJ
          have hxr := hj.2 _ (hdep rfl)
          rw [n9] at hxr
          clear hx hdep
          go_simp
          refine (HG2.out _ w2 hxr).mono ?_
          rintro e w3 ⟨rfl, hb⟩
          exact ⟨_, rfl, rfl, hj.call hb⟩
        rw [n10]
        simp only [Act.put, List.setIfInBounds_toArray, List.set_cons_succ, List.set_cons_zero, Nat.reduceAdd]
        refine chf_plain 0 3 6 (by rfl) rfl (by kernel_rfl) (by kernel_rfl) ?_
        apply Exists.intro
        refine ⟨fun st x w2 hlo hhi hx hJ => ?_, ?_⟩
        · clear hlo hhi hx hJ
          go_simp
          exact And.intro rfl rfl
        simp only [Act.put, List.setIfInBounds_toArray, List.set_cons_succ, List.set_cons_zero, Nat.reduceAdd]
        refine chf_plain 0 3 6 (by rfl) rfl (by kernel_rfl) (by kernel_rfl) ?_
        apply Exists.intro
        refine ⟨fun st x w2 hlo hhi hx hJ => ?_, ?_⟩
        · have hZ := hJ.1
          have y1 := (HBMr.out.keep hZ).cell 1
          simp at y1
          clear hZ
          clear hlo hhi hx hJ
          go_simp
          exact And.intro rfl rfl
        simp only [Act.put, List.setIfInBounds_toArray, List.set_cons_succ, List.set_cons_zero, Nat.reduceAdd]
        refine chf_plain 0 3 6 (by rfl) rfl (by kernel_rfl) (by kernel_rfl) ?_
        apply Exists.intro
        refine ⟨fun st x w2 hlo hhi hx hJ => ?_, ?_⟩
        · clear hlo hhi hx hJ
          go_simp
          exact And.intro rfl rfl
        simp only [Act.put, List.setIfInBounds_toArray, List.set_cons_succ, List.set_cons_zero, Nat.reduceAdd]
        refine chf_plain 0 3 6 (by rfl) rfl (by kernel_rfl) (by kernel_rfl) ?_
        apply Exists.intro
        refine ⟨fun st x w2 hlo hhi hx hJ => ?_, ?_⟩
        · clear hlo hhi hx hJ
          go_simp
          exact And.intro rfl rfl
        simp only [Act.put, List.setIfInBounds_toArray, List.set_cons_succ, List.set_cons_zero, Nat.reduceAdd]
        refine chf_plain 0 3 6 (by rfl) rfl (by kernel_rfl) (by kernel_rfl) ?_
        apply Exists.intro
        refine ⟨fun st x w2 hlo hhi hx hJ => ?_, ?_⟩
        · clear hlo hhi hx hJ
          go_simp
          exact And.intro rfl rfl
        simp only [Act.put, List.setIfInBounds_toArray, List.set_cons_succ, List.set_cons_zero, Nat.reduceAdd]
        refine chf_plain 0 3 6 (by rfl) rfl (by kernel_rfl) (by kernel_rfl) ?_
        apply Exists.intro
        refine ⟨fun st x w2 hlo hhi hx hJ => ?_, ?_⟩
        · have hZ := hJ.1
          have y2 := cell_later (HB.out.trans (hZ.mono HB.out.size)) S2.out
          clear hZ
          clear hlo hhi hx hJ
          go_simp
          exact And.intro rfl rfl
        simp only [Act.put, List.setIfInBounds_toArray, List.set_cons_succ, List.set_cons_zero, Nat.reduceAdd]
        refine chf_special 2 6 false (by rfl) rfl (by decide) (by kernel_rfl) (by kernel_rfl) (fun x w2 hx hdep hJ => ?_) ?_
        · have hj : JF (wr) [0] [ν 7, ν 10] x w2 := hJ
          clear hx hdep
          go_simp
          refine (HG3.out w2 (HB.out.trans (hj.1.mono HB.out.size))).mono ?_
          rintro e w3 ⟨rfl, hb⟩
          exact ⟨_, rfl, rfl, hj.call hb⟩
        rw [n17]
        simp only [Act.put, List.setIfInBounds_toArray, List.set_cons_succ, List.set_cons_zero, Nat.reduceAdd]
        refine chf_plain 0 3 6 (by rfl) rfl (by kernel_rfl) (by kernel_rfl) ?_
        apply Exists.intro
        refine ⟨fun st x w2 hlo hhi hx hJ => ?_, ?_⟩
        · clear hlo hhi hx hJ
          go_simp
          exact And.intro rfl rfl
        simp only [Act.put, Nat.reduceAdd]
        refine chf_nil (fun w5 hJ => ?_)
        have hZ : Below (wr).heap.size (wr) w5 := hJ.1
        clear hJ n7 n9 n10 n17
        have HB9 := Lib.hid (HB.out.trans (hZ.mono HB.out.size))
        have HBM9 := Lib.hid (HBMr.out.keep hZ)
        have HKM := Lib.hid hkm
        have I9 := Lib.hid (show wrap64 ((k : Int) + 1) = (k : Int) + 1 from wrap_succ hkm hsm)
        clear hZ hkm hk l1 l0 HB HBMr HG1 HG2 HG3 HWB
        go_wp2
        rw [I9.out]
        clear I9
        exact ⟨⟨k + 1, HKM.out, by rw [HQ.out], by simp, HB9.out, HBM9.out⟩, meas_succ HKM.out⟩
    · obtain rfl : k = m.snaps.length := by omega
      clear hkm hk HSX HOK
      have hstop := HBT.out.stop
      have zE := HBT.out.zE m.snaps.length
      generalize E m.snaps.length = t0 at *
      clear HBT
      obtain ⟨F, hF⟩ : ∃ F, strOf (mtB m) = F := ⟨_, rfl⟩
      obtain ⟨Z, hZz⟩ : ∃ Z, sizeS (mtB m).length = Z := ⟨_, rfl⟩
      have hsz : F.size = (mtB m).length := by rw [← hF, size_strOf]
      rw [hZz, hF] at HRS
      rw [hZz] at HRZ
      rw [hF] at hstop
      have htl := tok_len HTK.out
      have hZ2 : sizeS F.size = Z := by rw [hsz, hZz]
      have htb := tkB_le htl
      have HSZ := Lib.hid (fun w => sizeR_any F w (by rw [hstop, cat_size]; omega))
      rw [hZ2] at HSZ
      clear hF hZz hsz hZ2 htb
      have htk := tok_ok HTK.out
      have hw := HTW.out
      have HTI2 := Lib.hid (fun w2 (h : Below w.heap.size w w2) => HTI.out.keep h)
      generalize (snOf m.snaps (0, 0) (m.live.length : Int) 1024).2 = lst at *
      generalize m.token = tk at *
      obtain ⟨⟨b1, b2⟩, ⟨t1, t2⟩, nx, al, im⟩ := tk
      obtain ⟨hwb, hwt, hwn, hwa⟩ := hw
      dsimp only at *
      have y2 := HBMr.out.cell 2
      have y3 := HBMr.out.cell 3
      have y4 := HBMr.out.cell 4
      have y5 := HBMr.out.cell 5
      have y6 := HBMr.out.cell 6
      have y7 := HBMr.out.cell 7
      have y8 := HBMr.out.cell 8
      simp at y2 y3 y4 y5 y6 y7 y8
      have HBN := Lib.hid (HB.out.alloc HB.out.size (Obj.cells #[.int .u64 b1, .int .u64 b2, .int .u64 t1, .int .u64 t2, .int .i64 nx, .int .i64 al, .slice ia im.length ic] 28))
      have HBX := Lib.hid (Blk.new wr 28 #[.int .u64 b1, .int .u64 b2, .int .u64 t1, .int .u64 t2, .int .i64 nx, .int .i64 al, .slice ia im.length ic])
      have hN := run_eq_guid t1 t2 0 0
      clear HTK HTW HTI
      by_cases h0 : (t1, t2) = ((0 : Int), (0 : Int))
      · have htb : tkB ⟨(b1, b2), (t1, t2), nx, al, im⟩ = numsB [bitZ false] := if_pos h0
        have e0 : (t1 == 0 && t2 == 0) = true := by simp only [Prod.mk.injEq] at h0; simp [h0]
        rw [e0] at hN
        rw [htb] at hstop
        have HP := Lib.hid (fun v w2 (hv : InI w2 v [bitZ false]) => numsRC t0 v _ w2 hv (by decide) (by omega) (by decide))
        rw [← hstop] at HP
        clear e0 htb hstop htk h0 hwb hwt hwn hwa htl HTI2
        go_wp2_with fail
        have hg9 : (wr.alloc (Obj.cells #[.int .u64 b1, .int .u64 b2, .int .u64 t1, .int .u64 t2, .int .i64 nx, .int .i64 al, .slice ia im.length ic] 28)).heap.size = wr.heap.size + 1 := by simp
        generalize wr.alloc (Obj.cells #[.int .u64 b1, .int .u64 b2, .int .u64 t1, .int .u64 t2, .int .i64 nx, .int .i64 al, .slice ia im.length ic] 28) = wb at *
        have HBN2 := HBN
        have HG9 := Lib.hid hg9
        clear hg9
        have hbn := (Below.refl wb.heap.size wb).alloc (Nat.le_refl _) (Obj.cells #[.int .i64 0] 3)
        refine (HP.out _ _ (InI.litAt wb [bitZ false] _ _ HG9.out rfl (by decide) (by decide))).mono ?_
        rintro e wc ⟨rfl, hb⟩
        have HBF := Lib.hid (HBN2.out.trans ((hbn.trans (hb.mono hbn.size)).mono HBN2.out.size))
        clear hbn hb HBN2 HP
        go_wp2_with fail
        refine (HSZ.out _).mono ?_
        rintro e w9 ⟨rfl, rfl⟩
        by_cases hz : 48 < Z
        · have e1 : (48 : Int) < (Z : Int) := by omega
          have HR1 := Lib.hid (HRS.out.trans (if_pos hz))
          have HR2 := Lib.hid (HRZ.out.trans (if_pos hz))
          clear hz
          go_wp2
          go_ret2
          exact ⟨by rw [HR1.out, HR2.out]; rfl, HBF.out⟩
        · have e1 : (Z : Int) ≤ (48 : Int) := by omega
          have HR1 := Lib.hid (HRS.out.trans (if_neg hz))
          have HR2 := Lib.hid (HRZ.out.trans (if_neg hz))
          clear hz
          go_wp2
          go_ret2
          exact ⟨by rw [HR1.out, HR2.out]; rfl, HBF.out⟩
      · have htb : tkB ⟨(b1, b2), (t1, t2), nx, al, im⟩ = numsB [bitZ true] ++ (gdB (b1, b2) ++ (gdB (t1, t2) ++ (numsB [nx, al] ++ numsB im))) := if_neg h0
        have e0 : (t1 == 0 && t2 == 0) = false := by
          cases h : (t1 == 0 && t2 == 0) with
          | false => rfl
          | true => simp only [Bool.and_eq_true, beq_iff_eq] at h; exact absurd (Prod.ext_iff.2 h) h0
        rw [e0] at hN
        obtain ⟨k1, hk1⟩ : ∃ q, cat t0 (numsB [bitZ true]) = q := ⟨_, rfl⟩
        obtain ⟨k2, hk2⟩ : ∃ q, cat k1 (gdB (b1, b2)) = q := ⟨_, rfl⟩
        obtain ⟨k3, hk3⟩ : ∃ q, cat k2 (gdB (t1, t2)) = q := ⟨_, rfl⟩
        obtain ⟨k4, hk4⟩ : ∃ q, cat k3 (numsB [nx, al]) = q := ⟨_, rfl⟩
        have hk5 : cat k4 (numsB im) = F := by rw [hstop, htb, ← hk4, ← hk3, ← hk2, ← hk1]; simp only [cat_cat, List.append_assoc]
        have g1 := gdB_le (b1, b2)
        have g2 := gdB_le (t1, t2)
        have g3 := numsB_le [nx, al]
        have g4 := numsB_one (bitZ true)
        simp only [List.length_cons, List.length_nil] at g3
        have z1 : k1.size ≤ 20000 := by rw [← hk1, cat_size]; omega
        have z2 : k2.size ≤ 30000 := by rw [← hk2, cat_size]; omega
        have z3 : k3.size ≤ 40000 := by rw [← hk3, cat_size]; omega
        have z4 : k4.size ≤ 50000 := by rw [← hk4, cat_size]; omega
        obtain htk | ⟨-, -, -, hn1, hn2, hn3, hck⟩ := htk
        case inl => exact absurd htk.1 h0
        have HP1 := Lib.hid (fun v w2 (hv : InI w2 v [bitZ true]) => numsRC t0 v _ w2 hv (by decide) (by omega) (by decide))
        have HP2 := Lib.hid (fun w => guidRC k1 (b1, b2) w hwb (by omega))
        have HP3 := Lib.hid (fun w => guidRC k2 (t1, t2) w hwt (by omega))
        have HP4 := Lib.hid (fun v w2 (hv : InI w2 v [nx, al]) => numsRC k3 v _ w2 hv (by simp; omega) (by omega) (by simp))
        have HP5 := Lib.hid (fun w2 (h : Below w.heap.size w w2) => numsRC k4 _ im w2 (HTI2.out w2 h) (chk_nonneg hck) (by omega) (by omega))
        have HWN := Lib.hid (show ∀ z ∈ [nx, al], (Lit.int .i64 z).wf = true from by simp; exact ⟨hwn, hwa⟩)
        rw [hk1] at HP1
        rw [hk2] at HP2
        rw [hk3] at HP3
        rw [hk4] at HP4
        rw [hk5] at HP5
        unfold aggG at HP2 HP3
        dsimp only at HP2 HP3
        clear e0 htb hstop h0 hwb hwt hwn hwa htl HTI2 hk1 hk2 hk3 hk4 hk5 g1 g2 g3 g4 z1 z2 z3 z4 hn1 hn2 hn3 hck
        go_wp2_with fail
        generalize hwb : wr.alloc (Obj.cells #[.int .u64 b1, .int .u64 b2, .int .u64 t1, .int .u64 t2, .int .i64 nx, .int .i64 al, .slice ia im.length ic] 28) = wb at *
        clear hwb
        refine wp_region_chain [1, 2, 5, 8] (kv [(1, .sl 1), (2, .is (.string k1)), (5, .is (.string k2)), (8, .is (.string k3))]) (JI (wb) [(0, [1])]) (by kernel_rfl) (by kernel_rfl) (by kernel_rfl) (kv_inh _) (JI.start _ _) ?_
        intro ν hν
        obtain ⟨g1, n1⟩ : ∃ g, ν 1 = .slice (some ⟨g, 0, none⟩) 1 1 := hν 1
        have n2 : ν 2 = .string k1 := hν 2
        have n5 : ν 5 = .string k2 := hν 5
        have n8 : ν 8 = .string k3 := hν 8
        clear hν
        refine ch_plain 0 4 6 (by rfl) rfl (by kernel_rfl) (by kernel_rfl) ?_
        apply Exists.intro
        refine ⟨fun st w2 hlo hhi hJ => ?_, ?_⟩
        · clear hlo hhi hJ
          go_simp
          exact And.intro rfl rfl
        simp only [Act.put, List.setIfInBounds_toArray, List.set_cons_succ, List.set_cons_zero, Nat.reduceAdd]
        refine ch_special 0 6 (by rfl) rfl (by decide) (by kernel_rfl) (fun w2 hJ => ?_) ?_
        · have hj : JI (wb) [(0, [1])] [] w2 := hJ
          go_simp
          have hbx := JI.build hj ((Below.refl w2.heap.size w2).alloc (Nat.le_refl _) (Obj.cells #[.int .i64 (1)] 3)) (InI.litAt w2 [1] _ _ rfl rfl (by simp) (by decide)) (by simp)
          exact ⟨⟨_, rfl⟩, hbx⟩
        rw [n1]
        simp only [Act.put, List.setIfInBounds_toArray, List.set_cons_succ, List.set_cons_zero, Nat.reduceAdd]
        refine ch_special 1 6 (by rfl) rfl (by decide) (by kernel_rfl) (fun w2 hJ => ?_) ?_
        · have hj : JI (wb) [(0, [1])] [ν 1] w2 := hJ
          rw [n1] at hj
          go_simp
          refine (HP1.out _ w2 (hj.get (i := 0) (zs := [1]) (by simp) rfl)).mono ?_
          rintro e w3 ⟨rfl, hb⟩
          have hbx := hj.call hb (.string k1) rfl
          exact ⟨_, rfl, rfl, hbx⟩
        rw [n2]
        simp only [Act.put, List.setIfInBounds_toArray, List.set_cons_succ, List.set_cons_zero, Nat.reduceAdd]
        refine ch_plain 0 4 6 (by rfl) rfl (by kernel_rfl) (by kernel_rfl) ?_
        apply Exists.intro
        refine ⟨fun st w2 hlo hhi hJ => ?_, ?_⟩
        · clear hlo hhi hJ
          go_simp
          exact And.intro rfl rfl
        simp only [Act.put, List.setIfInBounds_toArray, List.set_cons_succ, List.set_cons_zero, Nat.reduceAdd]
        refine ch_plain 0 4 6 (by rfl) rfl (by kernel_rfl) (by kernel_rfl) ?_
        apply Exists.intro
        refine ⟨fun st w2 hlo hhi hJ => ?_, ?_⟩
        · have hZ := hJ.1
          have y0 := (HBX.out.keep hZ).cell 0
          have y1 := (HBX.out.keep hZ).cell 1
          simp at y0 y1
          clear hZ
          clear hlo hhi hJ
          go_simp
          exact And.intro rfl rfl
        simp only [Act.put, List.setIfInBounds_toArray, List.set_cons_succ, List.set_cons_zero, Nat.reduceAdd]
        refine ch_special 2 6 (by rfl) rfl (by decide) (by kernel_rfl) (fun w2 hJ => ?_) ?_
        · have hj : JI (wb) [(0, [1])] [ν 1, ν 2] w2 := hJ
          rw [n1, n2] at hj
          go_simp
          refine (HP2.out w2).mono ?_
          rintro e w3 ⟨rfl, hb⟩
          have hbx := hj.call hb (.string k2) rfl
          exact ⟨_, rfl, rfl, hbx⟩
        rw [n5]
        simp only [Act.put, List.setIfInBounds_toArray, List.set_cons_succ, List.set_cons_zero, Nat.reduceAdd]
        refine ch_plain 0 4 6 (by rfl) rfl (by kernel_rfl) (by kernel_rfl) ?_
        apply Exists.intro
        refine ⟨fun st w2 hlo hhi hJ => ?_, ?_⟩
        · clear hlo hhi hJ
          go_simp
          exact And.intro rfl rfl
        simp only [Act.put, List.setIfInBounds_toArray, List.set_cons_succ, List.set_cons_zero, Nat.reduceAdd]
        refine ch_plain 0 4 6 (by rfl) rfl (by kernel_rfl) (by kernel_rfl) ?_
        apply Exists.intro
        refine ⟨fun st w2 hlo hhi hJ => ?_, ?_⟩
        · have hZ := hJ.1
          have y2 := (HBX.out.keep hZ).cell 2
          have y3 := (HBX.out.keep hZ).cell 3
          simp at y2 y3
          clear hZ
          clear hlo hhi hJ
          go_simp
          exact And.intro rfl rfl
        simp only [Act.put, List.setIfInBounds_toArray, List.set_cons_succ, List.set_cons_zero, Nat.reduceAdd]
        refine ch_special 3 6 (by rfl) rfl (by decide) (by kernel_rfl) (fun w2 hJ => ?_) ?_
        · have hj : JI (wb) [(0, [1])] [ν 1, ν 2, ν 5] w2 := hJ
          rw [n1, n2, n5] at hj
          go_simp
          refine (HP3.out w2).mono ?_
          rintro e w3 ⟨rfl, hb⟩
          have hbx := hj.call hb (.string k3) rfl
          exact ⟨_, rfl, rfl, hbx⟩
        rw [n8]
        simp only [Act.put, List.setIfInBounds_toArray, List.set_cons_succ, List.set_cons_zero, Nat.reduceAdd]
        refine ch_plain 0 4 6 (by rfl) rfl (by kernel_rfl) (by kernel_rfl) ?_
        apply Exists.intro
        refine ⟨fun st w2 hlo hhi hJ => ?_, ?_⟩
        · clear hlo hhi hJ
          go_simp
          exact And.intro rfl rfl
        simp only [Act.put, Nat.reduceAdd]
        refine ch_nil (fun wd hJ => ?_)
        have hZ : Below (wb).heap.size (wb) wd := hJ.1
        clear hJ n1 n2 n5 n8
        replace HBN := Lib.hid (HBN.out.trans (hZ.mono HBN.out.size))
        replace HBX := Lib.hid (HBX.out.keep hZ)
        clear hZ HP1 HP2 HP3
        go_wp2_with fail
        refine wp_region_chain [5, 6, 9] (kv [(5, .sl 2), (6, .is (.string k4)), (9, .is (.string F))]) (JI (wd) [(0, [nx, al])]) (by kernel_rfl) (by kernel_rfl) (by kernel_rfl) (kv_inh _) (JI.start _ _) ?_
        intro ν hν
        obtain ⟨g5, n5⟩ : ∃ g, ν 5 = .slice (some ⟨g, 0, none⟩) 2 2 := hν 5
        have n6 : ν 6 = .string k4 := hν 6
        have n9 : ν 9 = .string F := hν 9
        clear hν
        refine ch_plain 0 3 6 (by rfl) rfl (by kernel_rfl) (by kernel_rfl) ?_
        apply Exists.intro
        refine ⟨fun st w2 hlo hhi hJ => ?_, ?_⟩
        · clear hlo hhi hJ
          go_simp
          exact And.intro rfl rfl
        simp only [Act.put, List.setIfInBounds_toArray, List.set_cons_succ, List.set_cons_zero, Nat.reduceAdd]
        refine ch_plain 0 3 6 (by rfl) rfl (by kernel_rfl) (by kernel_rfl) ?_
        apply Exists.intro
        refine ⟨fun st w2 hlo hhi hJ => ?_, ?_⟩
        · clear hlo hhi hJ
          go_simp
          exact And.intro rfl rfl
        simp only [Act.put, List.setIfInBounds_toArray, List.set_cons_succ, List.set_cons_zero, Nat.reduceAdd]
        refine ch_plain 0 3 6 (by rfl) rfl (by kernel_rfl) (by kernel_rfl) ?_
        apply Exists.intro
        refine ⟨fun st w2 hlo hhi hJ => ?_, ?_⟩
        · have hZ := hJ.1
          have y4 := (HBX.out.keep hZ).cell 4
          simp at y4
          clear hZ
          clear hlo hhi hJ
          go_simp
          exact And.intro rfl rfl
        simp only [Act.put, List.setIfInBounds_toArray, List.set_cons_succ, List.set_cons_zero, Nat.reduceAdd]
        refine ch_plain 0 3 6 (by rfl) rfl (by kernel_rfl) (by kernel_rfl) ?_
        apply Exists.intro
        refine ⟨fun st w2 hlo hhi hJ => ?_, ?_⟩
        · clear hlo hhi hJ
          go_simp
          exact And.intro rfl rfl
        simp only [Act.put, List.setIfInBounds_toArray, List.set_cons_succ, List.set_cons_zero, Nat.reduceAdd]
        refine ch_plain 0 3 6 (by rfl) rfl (by kernel_rfl) (by kernel_rfl) ?_
        apply Exists.intro
        refine ⟨fun st w2 hlo hhi hJ => ?_, ?_⟩
        · have hZ := hJ.1
          have y5 := (HBX.out.keep hZ).cell 5
          simp at y5
          clear hZ
          clear hlo hhi hJ
          go_simp
          exact And.intro rfl rfl
        simp only [Act.put, List.setIfInBounds_toArray, List.set_cons_succ, List.set_cons_zero, Nat.reduceAdd]
        refine ch_special 0 6 (by rfl) rfl (by decide) (by kernel_rfl) (fun w2 hJ => ?_) ?_
        · have hj : JI (wd) [(0, [nx, al])] [] w2 := hJ
          go_simp
          have hbx := JI.build hj ((Below.refl w2.heap.size w2).alloc (Nat.le_refl _) (Obj.cells #[.int .i64 (nx), .int .i64 (al)] 3)) (InI.litAt w2 [nx, al] _ _ rfl rfl (by simp) HWN.out) (by simp)
          exact ⟨⟨_, rfl⟩, hbx⟩
        rw [n5]
        simp only [Act.put, List.setIfInBounds_toArray, List.set_cons_succ, List.set_cons_zero, Nat.reduceAdd]
        refine ch_special 1 6 (by rfl) rfl (by decide) (by kernel_rfl) (fun w2 hJ => ?_) ?_
        · have hj : JI (wd) [(0, [nx, al])] [ν 5] w2 := hJ
          rw [n5] at hj
          go_simp
          refine (HP4.out _ w2 (hj.get (i := 0) (by simp) rfl)).mono ?_
          rintro e w3 ⟨rfl, hb⟩
          have hbx := hj.call hb (.string k4) rfl
          exact ⟨_, rfl, rfl, hbx⟩
        rw [n6]
        simp only [Act.put, List.setIfInBounds_toArray, List.set_cons_succ, List.set_cons_zero, Nat.reduceAdd]
        refine ch_plain 0 3 6 (by rfl) rfl (by kernel_rfl) (by kernel_rfl) ?_
        apply Exists.intro
        refine ⟨fun st w2 hlo hhi hJ => ?_, ?_⟩
        · clear hlo hhi hJ
          go_simp
          exact And.intro rfl rfl
        simp only [Act.put, List.setIfInBounds_toArray, List.set_cons_succ, List.set_cons_zero, Nat.reduceAdd]
        refine ch_plain 0 3 6 (by rfl) rfl (by kernel_rfl) (by kernel_rfl) ?_
        apply Exists.intro
        refine ⟨fun st w2 hlo hhi hJ => ?_, ?_⟩
        · have hZ := hJ.1
          have y6 := (HBX.out.keep hZ).cell 6
          simp at y6
          clear hZ
          clear hlo hhi hJ
          go_simp
          exact And.intro rfl rfl
        simp only [Act.put, List.setIfInBounds_toArray, List.set_cons_succ, List.set_cons_zero, Nat.reduceAdd]
        refine ch_special 2 6 (by rfl) rfl (by decide) (by kernel_rfl) (fun w2 hJ => ?_) ?_
        · have hj : JI (wd) [(0, [nx, al])] [ν 5, ν 6] w2 := hJ
          rw [n5, n6] at hj
          go_simp
          refine (HP5.out w2 (HBN.out.trans (hj.1.mono HBN.out.size))).mono ?_
          rintro e w3 ⟨rfl, hb⟩
          have hbx := hj.call hb (.string F) rfl
          exact ⟨_, rfl, rfl, hbx⟩
        rw [n9]
        simp only [Act.put, List.setIfInBounds_toArray, List.set_cons_succ, List.set_cons_zero, Nat.reduceAdd]
        refine ch_plain 0 3 6 (by rfl) rfl (by kernel_rfl) (by kernel_rfl) ?_
        apply Exists.intro
        refine ⟨fun st w2 hlo hhi hJ => ?_, ?_⟩
        · clear hlo hhi hJ
          go_simp
          exact And.intro rfl rfl
        simp only [Act.put, Nat.reduceAdd]
        refine ch_nil (fun w5 hJ => ?_)
        have hZ : Below (wd).heap.size (wd) w5 := hJ.1
        clear hJ n5 n6 n9
        have HBF := Lib.hid (HBN.out.trans (hZ.mono HBN.out.size))
        clear hZ HBN HBX HP4 HP5 HWN
        go_wp2_with fail
        refine (HSZ.out _).mono ?_
        rintro e w9 ⟨rfl, rfl⟩
        by_cases hz : 48 < Z
        · have e1 : (48 : Int) < (Z : Int) := by omega
          have HR1 := Lib.hid (HRS.out.trans (if_pos hz))
          have HR2 := Lib.hid (HRZ.out.trans (if_pos hz))
          clear hz
          go_wp2
          go_ret2
          exact ⟨by rw [HR1.out, HR2.out]; rfl, HBF.out⟩
        · have e1 : (Z : Int) ≤ (48 : Int) := by omega
          have HR1 := Lib.hid (HRS.out.trans (if_neg hz))
          have HR2 := Lib.hid (HRZ.out.trans (if_neg hz))
          clear hz
          go_wp2
          go_ret2
          exact ⟨by rw [HR1.out, HR2.out]; rfl, HBF.out⟩
theorem encR_any (w : World) (v : Value) (m : Mt) (hv : InMt w v m) :
    Calls Try.prog 14 #[v] w fun e w' => e = .returned (.tuple #[.string (encM m), .int .i64 (encE m)]) ∧ Below w.heap.size w w' := by
  by_cases h0 : mtOf m m.live.length 1024 = 0
  · exact encR_good w v m hv h0
  · exact encR_bad w v m hv h0
end Go.Proofs.Ytimgecflcackbaa
