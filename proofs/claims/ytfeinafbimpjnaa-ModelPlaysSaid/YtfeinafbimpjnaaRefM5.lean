/-
  THE DOCUMENT'S MODEL: Begin.
-/
import Derived.Test.YtfeinafbimpjnaaRefM4
namespace Go.Proofs.Ytfeinafbimpjnaa
open Go.RowKit Reg Go.WideShapes Go.ChangeShapes

theorem own_slice {w : World} {base m n : Nat} {t : TypeId} {v : Value} {xs : List Value} (h : w.ownsRow base t m v n xs) : ∃ a c, v = .slice a n c := by
  rcases h.2 with ⟨rfl, rfl⟩ | ⟨g, cap, cur, rfl, _⟩
  · exact ⟨none, 0, rfl⟩
  · exact ⟨_, cap, rfl⟩
theorem live_info : (Try.prog.info? 68).map (fun i => (i.zero, i.size, i.bytes)) = some (some (.agg #[.int .u64 0, .slice none 0 0]), 2, 32) := by kernel_rfl
theorem image_info : (Try.prog.info? 71).map (fun i => (i.zero, i.size, i.bytes)) = some (some (.agg #[.int .u64 0, .int .u64 0, .slice none 0 0]), 3, 40) := by kernel_rfl
section
variable {w : World}
theorem app_live {base n : Nat} {v : Value} {xs : List Value} (ty : TypeId) {e : Int} {a : Option Addr} {l c : Nat} (ho : w.ownsRow base 68 2 v n xs) (hn : n + 1 ≤ 2 ^ 40) (hbase : base ≤ w.heap.size) :
    ∃ v' w', (Builtin.append_ #[27, 27] ty #[v, .slice (some ⟨w.heap.size, 0, none⟩) 1 1]).run Try.prog (w.alloc (.cells #[.int .u64 e, .slice a l c] 68)) = .ok v' w' ∧
      Appended (w.alloc (.cells #[.int .u64 e, .slice a l c] 68)) base 68 2 v (n + 1) (xs ++ [.int .u64 e, .slice a l c]) v' w' := by
  obtain ⟨i, hi, hz0, hz1, hz2⟩ := info_parts live_info
  have hu := own_new w w.heap.size 68 #[.int .u64 e, .slice a l c] 2 1 rfl (Nat.le_refl _) (by decide)
  exact app_own _ base 27 ty 68 i (.agg #[.int .u64 0, .slice none 0 0]) 2 32 Try.underlying27 hi hz0 hz1 hz2 rfl (by decide) (own_below ((Below.refl _ _).alloc (Nat.le_refl _) _) ho) (Rd.of_own hu) (by simp [Value.oneCell']) (by unfold maxLen; omega) (by omega) (by simp; omega)
theorem app_image {base n : Nat} {v : Value} {xs : List Value} (ty : TypeId) {g : Gd} {a : Option Addr} {l c : Nat} (ho : w.ownsRow base 71 3 v n xs) (hn : n + 1 ≤ 2 ^ 40) (hbase : base ≤ w.heap.size) {u : Value} (hu : Rd w 3 u 1 [.int .u64 g.1, .int .u64 g.2, .slice a l c]) :
    ∃ v' w', (Builtin.append_ #[28, 28] ty #[v, u]).run Try.prog w = .ok v' w' ∧
      Appended w base 71 3 v (n + 1) (xs ++ [.int .u64 g.1, .int .u64 g.2, .slice a l c]) v' w' := by
  obtain ⟨i, hi, hz0, hz1, hz2⟩ := info_parts image_info
  exact app_own _ base 28 ty 71 i (.agg #[.int .u64 0, .int .u64 0, .slice none 0 0]) 3 40 Try.underlying28 hi hz0 hz1 hz2 rfl (by decide) ho hu (by simp [Value.oneCell']) (by unfold maxLen; omega) (by omega) hbase
end
theorem RMx.blkL {w w' : World} {base q : Nat} {R : Rf} {sl si sc : Value} {lv iv : List Value} (h : RMx w base q R sl si sc lv iv) (hb : base ≤ w.heap.size) (hg : w.grownBy w' sl.ownBlock) : Blk w' q 31 #[.int .i64 R.n, sl, si, sc] :=
  ((Kp.of_grown hg (own_block h.rl) hb).2 q h.obj.lt fun e => own_ne h.rl h.obj (by decide) e rfl).trans h.obj
theorem RMx.blkI {w w' : World} {base q : Nat} {R : Rf} {sl si sc : Value} {lv iv : List Value} (h : RMx w base q R sl si sc lv iv) (hb : base ≤ w.heap.size) (hg : w.grownBy w' si.ownBlock) : Blk w' q 31 #[.int .i64 R.n, sl, si, sc] :=
  ((Kp.of_grown hg (own_block h.ri) hb).2 q h.obj.lt fun e => own_ne h.ri h.obj (by decide) e rfl).trans h.obj
theorem Z0_size : Z0.size ≤ maxLen := by unfold Z0; rw [strOfNums_size]; decide
set_option maxRecDepth 100000 in
theorem rbegin_any (w : World) (base q : Nat) (R : Rf) (e : Int) (g : Gd) (h : RM w base q R) (hbase : base ≤ w.heap.size) (h80 : R.lk.length ≤ 1000) (h81 : R.ik.length ≤ 1000) :
    Calls Try.prog 11 #[.pointer (some ⟨q, 0, none⟩), .int .u64 e, aggG g] w fun e' w' => e' = .returned (.tuple #[]) ∧ RM w' base q (R.begin e g) ∧ Kr base w w' := by
  have hb0 := (Below.refl w.heap.size w).alloc (Nat.le_refl _) (Obj.cells #[.int .u64 g.1, .int .u64 g.2] 34)
  have bg := Blk.new w 34 #[.int .u64 g.1, .int .u64 g.2]
  have h1 := h.keep hb0
  have hep := epoch_any _ base q R e h1 h80
  have him := fun w2 (h2 : RM w2 base q R) => rimage_any w2 base q R g h2 h81
  obtain ⟨R', hR'⟩ : ∃ z, z = R.begin e g := ⟨_, rfl⟩
  rw [← hR']
  have hR2 := hR'
  unfold Rf.begin at hR'
  unfold aggG at him ⊢
  obtain ⟨ga, gb⟩ := g
  simp only at him bg hb0 hep h1 ⊢
  have HEP := Lib.hid hep
  have HIM := Lib.hid him
  have HM0 := Lib.hid h
  have HM := Lib.hid h1
  have HB := Lib.hid hb0
  have HBG := Lib.hid bg
  have HBA := Lib.hid hbase
  have H80 := Lib.hid h80
  clear hep him h h1 hb0 bg hbase h80 h81 hR2
  by_cases hi : ix R.lk e < R.lk.length
  · have he : R.ep e = (ix R.lk e : Nat) := by unfold Rf.ep; rw [if_pos hi]
    rw [he] at HEP
    rw [if_pos hi] at hR'
    subst hR'
    clear he hi
    generalize ix R'.lk e = i at *
    have i0 : (0 : Int) ≤ (i : Int) := by omega
    go_enter Try.func11, Try.ntmps11
    go_wp2_with fail
    generalize w.alloc (Obj.cells #[.int .u64 ga, .int .u64 gb] 34) = w1 at *
    refine HEP.out.mono ?_
    rintro e' w2 ⟨rfl, hb⟩
    have HB2 := Lib.hid (HB.out.trans (hb.mono HB.out.size))
    clear hb HEP
    go_wp2
    refine bodyPost_ret (results_none rfl _ _ _) rfl ?_
    exact ⟨rfl, HM0.out.keep HB2.out, .of_below HB2.out⟩
  · have he : R.ep e = -1 := by unfold Rf.ep; rw [if_neg hi]
    rw [he] at HEP
    rw [if_neg hi] at hR'
    have HR' := Lib.hid hR'
    clear he hi hR'
    go_enter Try.func11, Try.ntmps11
    go_wp2_with fail
    generalize w.alloc (Obj.cells #[.int .u64 ga, .int .u64 gb] 34) = w1 at *
    obtain ⟨qx, hqx⟩ : ∃ z, z = w.heap.size := ⟨_, rfl⟩
    rw [← hqx] at HBG
    rw [← hqx]
    clear hqx
    refine HEP.out.mono ?_
    rintro e' w2 ⟨rfl, hb⟩
    have HB2 := Lib.hid (HB.out.trans (hb.mono HB.out.size))
    have HBG2 := Lib.hid (HBG.out.keep hb)
    have d0 := HBG2.out.cell 0
    have d1 := HBG2.out.cell 1
    simp at d0 d1
    clear hb HEP
    go_wp2_with fail
    refine (HIM.out _ (HM0.out.keep HB2.out)).mono ?_
    rintro e' w3 ⟨u, rfl, ho, hb⟩
    have HO := Lib.hid ho
    have HB23 := Lib.hid hb
    obtain ⟨sl, si, sc, lv, iv, hx0⟩ := HM0.out
    have HX0 := Lib.hid hx0
    have hx := hx0.keep HB2.out
    have c0 := hx.obj.cell 0
    simp at c0
    have hn := hx.n
    have himl : R.has (ga, gb) = true → (R.image (ga, gb)).length = R.n.toNat := fun hh => by
      have h1 : ix R.ik (ga, gb) < R.ik.length := of_decide_eq_true hh
      unfold Rf.image
      rw [if_pos h1]
      exact (hx.ei _ h1).2
    have him0 : R.has (ga, gb) = false → R.image (ga, gb) = [] := fun hh => by
      unfold Rf.image
      exact if_neg (of_decide_eq_false hh)
    obtain ⟨n, hnn⟩ : ∃ n : Nat, R.n = n := ⟨R.n.toNat, by omega⟩
    rw [hnn] at c0 hn
    have hn8 : n ≤ 8 := by omega
    have hnt : R.n.toNat = n := by omega
    rw [hnt] at himl
    have HN8 := Lib.hid hn8
    have C0 := Lib.hid c0
    have HNT := Lib.hid hnt
    have HIML := Lib.hid himl
    have HX := Lib.hid hx
    rw [hnt] at HR'
    generalize R.image (ga, gb) = im at *
    generalize R.has (ga, gb) = has at *
    have HIM0 := Lib.hid him0
    clear ho hb hx hx0 c0 hn hnn hn8 hnt himl him0 HIM d0 d1 HBG HBG2 HB HM
    go_wp2_with fail
    go_loopw [6, 8] (fun l t wr => ∃ k : Nat, k ≤ n ∧ t = .int .i64 k ∧ Below w2.heap.size w2 wr ∧ OwT wr w2.heap.size l (if has = true then im else List.replicate k Z0)) (fun l t _ => n - (intOf t).toNat)
    case atStart => 
      refine ⟨0, Nat.zero_le _, rfl, HB23.out, ?_⟩
      cases has with
      | true => exact HO.out
      | false => have := HO.out; rw [HIM0.out rfl] at this; exact this
    case round =>
      obtain ⟨k, hk, rfl, hb, hol⟩ := hrel
      have HBL := Lib.hid hb
      have HOL := Lib.hid hol
      have c0 := cell_later HBL.out C0.out
      clear hb hol HO HIM0
      cases has with
      | true =>
        obtain ⟨zs, hzs⟩ : ∃ z, z = im := ⟨_, rfl⟩
        have hr := HR'.out
        rw [if_pos rfl, ← hzs] at hr
        rw [if_pos rfl, ← hzs] at HOL
        have HRZ := Lib.hid hr
        have HZL := Lib.hid (show zs.length = n from by rw [hzs]; exact HIML.out rfl)
        clear hr hzs HR' HIML
        by_cases hkn : k < n
        · have i1 : (k : Int) < (n : Int) := by omega
          clear hkn
          have hx := HX.out.keep HBL.out
          have HBW := Lib.hid (HB2.out.trans (HBL.out.mono HB2.out.size))
          obtain ⟨ua, uc, rfl, -, -⟩ := HOL.out.rd.open_
          rw [HZL.out] at HOL
          rw [HZL.out]
          have c1 := hx.obj.cell 1
          simp at c1
          obtain ⟨la, lc, rfl⟩ := own_slice hx.rl
          have hbw : base ≤ wr.heap.size := Nat.le_trans HBA.out HBW.out.size
          have HA := Lib.hid (app_live (a := ua) (l := n) (c := uc) (e := e) 27 hx.rl (by have := H80.out; omega) hbw)
          have HXR := Lib.hid hx
          have HBB := Lib.hid hbw
          clear hx hbw hk
          go_wp2_with (at_builtin; refine wpList_append_run rfl _ _ 27 rfl _ _ rfl rfl _ HA.out ?_)
          refine Later.mk fun _ _ v7 w7 hp => ?_
          obtain ⟨va, vc, rfl⟩ := own_slice hp.1
          have hb1 := (Below.refl wr.heap.size wr).alloc (Nat.le_refl _) (Obj.cells #[.int .u64 e, .slice ua n uc] 68)
          have hx1 := HXR.out.keep hb1
          have hbs1 : base ≤ (wr.alloc (Obj.cells #[.int .u64 e, .slice ua n uc] 68)).heap.size := Nat.le_trans HBB.out hb1.size
          have hq := hx1.blkL hbs1 hp.2.1
          have f1 := hq.frozen 1
          have c1 := hq.cell 1
          simp at c1
          have hfin := hx1.addL hbs1 (u := .slice ua n uc) (zs := zs) ((HOL.out.keep hb1).mono (Nat.le_trans HBA.out HB2.out.size)) (HZL.out.trans HNT.out.symm) (fun g hg => by
            have hge := own_block HOL.out.1 g hg
            have hw2 := HB2.out.size
            exact ⟨fun j hj e => by have := own_in (HX0.out.el j hj).1.1 e; omega, fun j hj e => by have := own_in (HX0.out.ei j hj).1.1 e; omega⟩) hp.1 hp.2.1
          have HF := Lib.hid (show RM _ base q R' from by rw [HRZ.out]; exact ⟨_, _, _, _, _, hfin.1⟩)
          have HK := Lib.hid ((Kr.of_below (base := base) (HBW.out.trans (hb1.mono HBW.out.size))).trans hfin.2)
          clear hp hb1 hx1 hbs1 hq hfin HA c0
          go_wp2
          go_end0
          exact ⟨rfl, HF.out, HK.out⟩
        · have i1 : ¬ ((k : Int) < (n : Int)) := by omega
          have d1 : decide ((k : Int) < (n : Int)) = false := decide_eq_false i1
          clear hkn
          have hx := HX.out.keep HBL.out
          have HBW := Lib.hid (HB2.out.trans (HBL.out.mono HB2.out.size))
          obtain ⟨ua, uc, rfl, -, -⟩ := HOL.out.rd.open_
          rw [HZL.out] at HOL
          rw [HZL.out]
          have c1 := hx.obj.cell 1
          simp at c1
          obtain ⟨la, lc, rfl⟩ := own_slice hx.rl
          have hbw : base ≤ wr.heap.size := Nat.le_trans HBA.out HBW.out.size
          have HA := Lib.hid (app_live (a := ua) (l := n) (c := uc) (e := e) 27 hx.rl (by have := H80.out; omega) hbw)
          have HXR := Lib.hid hx
          have HBB := Lib.hid hbw
          clear hx hbw hk
          go_wp2_with (at_builtin; refine wpList_append_run rfl _ _ 27 rfl _ _ rfl rfl _ HA.out ?_)
          refine Later.mk fun _ _ v7 w7 hp => ?_
          obtain ⟨va, vc, rfl⟩ := own_slice hp.1
          have hb1 := (Below.refl wr.heap.size wr).alloc (Nat.le_refl _) (Obj.cells #[.int .u64 e, .slice ua n uc] 68)
          have hx1 := HXR.out.keep hb1
          have hbs1 : base ≤ (wr.alloc (Obj.cells #[.int .u64 e, .slice ua n uc] 68)).heap.size := Nat.le_trans HBB.out hb1.size
          have hq := hx1.blkL hbs1 hp.2.1
          have f1 := hq.frozen 1
          have c1 := hq.cell 1
          simp at c1
          have hfin := hx1.addL hbs1 (u := .slice ua n uc) (zs := zs) ((HOL.out.keep hb1).mono (Nat.le_trans HBA.out HB2.out.size)) (HZL.out.trans HNT.out.symm) (fun g hg => by
            have hge := own_block HOL.out.1 g hg
            have hw2 := HB2.out.size
            exact ⟨fun j hj e => by have := own_in (HX0.out.el j hj).1.1 e; omega, fun j hj e => by have := own_in (HX0.out.ei j hj).1.1 e; omega⟩) hp.1 hp.2.1
          have HF := Lib.hid (show RM _ base q R' from by rw [HRZ.out]; exact ⟨_, _, _, _, _, hfin.1⟩)
          have HK := Lib.hid ((Kr.of_below (base := base) (HBW.out.trans (hb1.mono HBW.out.size))).trans hfin.2)
          clear hp hb1 hx1 hbs1 hq hfin HA c0
          go_wp2
          go_end0
          exact ⟨rfl, HF.out, HK.out⟩
      | false =>
        rw [if_neg (by decide)] at HOL
        by_cases hkn : k < n
        · have i1 : (k : Int) < (n : Int) := by omega
          have k9 : (k : Int) < 8 := by have := HN8.out; omega
          have hmk := made_32 wr
          have hb1 := (Below.refl wr.heap.size wr).alloc (Nat.le_refl _) (Obj.cells (layC 0 0) 5)
          have b1 := Blk.new wr 5 (layC 0 0)
          have HN := Lib.hid hkn
          have ho1 := HOL.out.keep hb1
          have HBL1 := Lib.hid (HBL.out.trans (hb1.mono HBL.out.size))
          generalize wr.alloc (Obj.cells (layC 0 0) 5) = w5 at *
          have hcv := run_convert_bytes_arg (P := Try.prog) w5 66 5 Try.underlying66 Try.underlying5 wr.heap.size 0 32 32 (List.replicate 32 0) (by simp) (fun i hi => by
            rw [b1.cell, show layC 0 0 = layC 0 32 from rfl, layC_all 0 (0 + i) (by omega), rep_getD 32 0 i hi]) 9 Try.underlying9
          rw [show strOfNums (List.replicate 32 0) = Z0 from rfl] at hcv
          have hbw : w2.heap.size ≤ w5.heap.size := HBL1.out.size
          have HA := Lib.hid (app_text 42 Z0 ho1 Z0_size (by simp; omega) hbw)
          have HO1 := Lib.hid ho1
          have HBW := Lib.hid hbw
          have HSZ := Lib.hid HB2.out.size
          clear hb1 b1 ho1 hbw hkn hk HR' HIML
          generalize Z0 = z0 at *
          go_wp2_with (at_builtin; refine wpList_append_run rfl _ _ 42 rfl _ _ rfl rfl _ HA.out ?_)
          refine Later.mk fun _ _ u7 w7 hp => ?_
          have hb7 := AppT.below hp HO1.out HBW.out
          have ho7 := hp.1
          rw [show List.replicate k z0 ++ [z0] = List.replicate (k + 1) z0 from by rw [List.replicate_succ']] at ho7
          have HO7 := Lib.hid ho7
          have HB7 := Lib.hid (HBL1.out.trans hb7)
          clear hp hb7 ho7 HA hmk hcv
          go_wp2
          have hn := HN.out
          refine ⟨⟨k + 1, by omega, by go_num, HB7.out, by rw [if_neg (by decide)]; exact HO7.out⟩, by simp [intOf]; omega⟩
        · obtain rfl : k = n := by omega
          obtain ⟨zs, hzs⟩ : ∃ z, z = List.replicate k Z0 := ⟨_, rfl⟩
          have hr := HR'.out
          rw [if_neg (by decide), ← hzs] at hr
          rw [← hzs] at HOL
          have HRZ := Lib.hid hr
          have HZL := Lib.hid (show zs.length = k from by rw [hzs]; simp)
          have i1 : ¬ ((k : Int) < (k : Int)) := by omega
          clear hr hzs HR' HIML hkn
          have hx := HX.out.keep HBL.out
          have HBW := Lib.hid (HB2.out.trans (HBL.out.mono HB2.out.size))
          obtain ⟨ua, uc, rfl, -, -⟩ := HOL.out.rd.open_
          rw [HZL.out] at HOL
          rw [HZL.out]
          have c1 := hx.obj.cell 1
          simp at c1
          obtain ⟨la, lc, rfl⟩ := own_slice hx.rl
          have hbw : base ≤ wr.heap.size := Nat.le_trans HBA.out HBW.out.size
          have HA := Lib.hid (app_live (a := ua) (l := k) (c := uc) (e := e) 27 hx.rl (by have := H80.out; omega) hbw)
          have HXR := Lib.hid hx
          have HBB := Lib.hid hbw
          clear hx hbw hk
          go_wp2_with (at_builtin; refine wpList_append_run rfl _ _ 27 rfl _ _ rfl rfl _ HA.out ?_)
          refine Later.mk fun _ _ v7 w7 hp => ?_
          obtain ⟨va, vc, rfl⟩ := own_slice hp.1
          have hb1 := (Below.refl wr.heap.size wr).alloc (Nat.le_refl _) (Obj.cells #[.int .u64 e, .slice ua k uc] 68)
          have hx1 := HXR.out.keep hb1
          have hbs1 : base ≤ (wr.alloc (Obj.cells #[.int .u64 e, .slice ua k uc] 68)).heap.size := Nat.le_trans HBB.out hb1.size
          have hq := hx1.blkL hbs1 hp.2.1
          have f1 := hq.frozen 1
          have c1 := hq.cell 1
          simp at c1
          have hfin := hx1.addL hbs1 (u := .slice ua k uc) (zs := zs) ((HOL.out.keep hb1).mono (Nat.le_trans HBA.out HB2.out.size)) (HZL.out.trans HNT.out.symm) (fun g hg => by
            have hge := own_block HOL.out.1 g hg
            have hw2 := HB2.out.size
            exact ⟨fun j hj e => by have := own_in (HX0.out.el j hj).1.1 e; omega, fun j hj e => by have := own_in (HX0.out.ei j hj).1.1 e; omega⟩) hp.1 hp.2.1
          have HF := Lib.hid (show RM _ base q R' from by rw [HRZ.out]; exact ⟨_, _, _, _, _, hfin.1⟩)
          have HK := Lib.hid ((Kr.of_below (base := base) (HBW.out.trans (hb1.mono HBW.out.size))).trans hfin.2)
          clear hp hb1 hx1 hbs1 hq hfin HA c0
          go_wp2
          go_end0
          exact ⟨rfl, HF.out, HK.out⟩
end Go.Proofs.Ytfeinafbimpjnaa
