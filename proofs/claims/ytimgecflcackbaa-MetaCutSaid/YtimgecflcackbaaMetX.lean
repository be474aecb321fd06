/-
  META: the laws MetaBack and MetaCut, walked (printed by wip/gen-metx.py).
-/
import Derived.Test.YtimgecflcackbaaMetU
import Derived.Test.YtimgecflcackbaaMetW
namespace Go.Proofs.Ytimgecflcackbaa
open Go.RowKit Reg Go.ChangeShapes

theorem RetZ.zero {w w' : World} {z : Int} {e : Ending} (h : RetZ w zeroM z e w') : ∃ lb kb sb tb ib jb, e = .returned (.tuple #[.agg #[.slice lb 0 kb, .slice sb 0 tb, .int .u64 0, .int .u64 0, .int .u64 0, .int .u64 0, .int .i64 0, .int .i64 0, .slice ib 0 jb], .int .i64 z]) ∧ Below w.heap.size w w' := by
  obtain ⟨a, b, c, d, f, g, rfl, -, h⟩ := h
  exact ⟨a, b, c, d, f, g, rfl, h⟩
theorem enc_cases (m : Mt) : (mtOf m m.live.length 1024 ≠ 0 ∧ encE m = mtOf m m.live.length 1024) ∨ (mtOf m m.live.length 1024 = 0 ∧ encE m = 3) ∨ (mtOf m m.live.length 1024 = 0 ∧ encE m = 0) := by
  unfold encE
  by_cases h : mtOf m m.live.length 1024 ≠ 0
  · rw [if_pos h]; exact .inl ⟨h, rfl⟩
  · rw [if_neg h]
    by_cases h2 : 48 < sizeS (mtB m).length
    · rw [if_pos h2]; exact .inr (.inl ⟨Classical.not_not.1 h, rfl⟩)
    · rw [if_neg h2]; exact .inr (.inr ⟨Classical.not_not.1 h, rfl⟩)
theorem encM_le {m : Mt} (h : mtOf m m.live.length 1024 = 0) : (encM m).size ≤ 20000 := by
  unfold encM
  by_cases h0 : encE m = 0
  · rw [if_pos h0, size_strOf]
    obtain ⟨h1, h2, h3, h4⟩ := mt_ok h
    have a0 := snsB_le (l := m.snaps) fun s hs => chk_len (sn_ok h3 s hs)
    have a1 := numsB_one (m.live.length : Int)
    have a2 := numsB_le m.live
    have a3 := numsB_one (m.snaps.length : Int)
    have a4 := tkB_le (tok_len h4)
    have a5 := chk_len h1
    unfold mtB hdB
    simp only [List.length_append]
    omega
  · rw [if_neg h0, size_strOf]; simp
/-- what Decode gives: a table that may be, laid again just so; or nothing -/
theorem dec_two (Y : ByteArray) (hY : Y.size ≤ 1152921504606846976) : ∃ m2 : Mt,
    ((∀ w, Calls Try.prog 17 #[.string Y] w (RetZ w m2 0)) ∧ (∀ w v, InMt w v m2 → Calls Try.prog 13 #[v] w fun e w' => e = .returned (.tuple #[.string Y, .int .i64 0]) ∧ Below w.heap.size w w') ∧
      (∀ w v, InMt w v m2 → Calls Try.prog 10 #[v, .int .i64 m2.live.length, .int .i64 1024] w fun e w' => e = .returned (.int .i64 0) ∧ Below w.heap.size w w')) ∨
    (∀ w, Calls Try.prog 17 #[.string Y] w fun e w' => ∃ lb kb sb tb ib jb, e = .returned (.tuple #[.agg #[.slice lb 0 kb, .slice sb 0 tb, .int .u64 0, .int .u64 0, .int .u64 0, .int .u64 0, .int .i64 0, .int .i64 0, .slice ib 0 jb], .int .i64 4]) ∧ Below w.heap.size w w') := by
  refine ⟨readM 1024 capB capS Y, ?_⟩
  by_cases h : okD (readM 1024 capB capS Y) Y
  · left
    refine ⟨fun w => ?_, fun w v hv => ?_, fun w v hv => ?_⟩
    · have := dec_any w Y hY
      unfold decM decZ at this
      rw [if_pos h, if_pos h] at this
      exact this.mono fun _ _ h => h.z
    · have := enc_any w v _ hv
      rw [h.1, h.2] at this
      exact this
    · have := checkM_any w v _ (readM 1024 capB capS Y).live.length 1024 hv
      rw [(okD_mt h).1] at this
      exact this
  · right
    intro w
    have := dec_any w Y hY
    unfold decM decZ at this
    rw [if_neg h, if_neg h] at this
    exact this.mono fun _ _ h => h.z.zero
set_option maxRecDepth 100000 in
set_option maxHeartbeats 4000000 in
theorem law_MetaBack (v : Value) (m : Mt) (s : ByteArray) (w : World) (hv : InMt w v m) (_ : True) (_ : s.size ≤ reachBytes) :
    Calls Try.prog 6 #[v, .string s] w fun e w' => e = .returned (.bool true) ∧ Below w.heap.size w w' := by
  have hin := hv
  obtain ⟨la, lc, sa, sc, ia, ic, rfl⟩ := hv.open_
  have hb0 := (Below.refl w.heap.size w).alloc (Nat.le_refl _) (Obj.cells #[.slice la m.live.length lc, .slice sa m.snaps.length sc, .int .u64 m.token.base.1, .int .u64 m.token.base.2, .int .u64 m.token.target.1, .int .u64 m.token.target.2, .int .i64 m.token.next, .int .i64 m.token.all, .slice ia m.token.image.length ic] 30)
  have HB := Lib.hid hb0
  have HP := Lib.hid (Blk.new w 30 #[.slice la m.live.length lc, .slice sa m.snaps.length sc, .int .u64 m.token.base.1, .int .u64 m.token.base.2, .int .u64 m.token.target.1, .int .u64 m.token.target.2, .int .i64 m.token.next, .int .i64 m.token.all, .slice ia m.token.image.length ic])
  have HI := Lib.hid (hin.keep hb0)
  obtain ⟨K, hK⟩ : ∃ K, K = min s.size 2000 := ⟨_, rfl⟩
  obtain ⟨Y, hY⟩ : ∃ Y, s.extract 0 K = Y := ⟨_, rfl⟩
  have hYs : Y.size ≤ 2000 := by rw [← hY]; simp; omega
  obtain ⟨m2, hcase⟩ := dec_two Y (by omega)
  have HCASE := Lib.hid hcase
  have HYK := Lib.hid (And.intro hY (show min ((s.size : Nat) : Int) 2000 = (K : Int) ∧ (K : Int) ≤ s.size ∧ K ≤ s.size by omega))
  clear hin hv hb0 hK hY hYs hcase
  go_enter Try.func6, Try.ntmps6
  go_wp2_with fail
  generalize w.alloc (Obj.cells #[.slice la m.live.length lc, .slice sa m.snaps.length sc, .int .u64 m.token.base.1, .int .u64 m.token.base.2, .int .u64 m.token.target.1, .int .u64 m.token.target.2, .int .i64 m.token.next, .int .i64 m.token.all, .slice ia m.token.image.length ic] 30) = w0 at *
  refine (short_any w0 _ m HI.out).mono ?_
  generalize shortM m = sm at *
  rintro e w1 ⟨u, rfl, ho, hb⟩
  obtain ⟨la', lc', sa', sc', ia', ic', rfl⟩ := ho.inm.open_
  have HO := Lib.hid ho
  have HPL := Lib.hid HP.out.lt
  replace HB := Lib.hid (HB.out.trans (hb.mono HB.out.size))
  replace HP := Lib.hid (HP.out.keep hb)
  clear ho hb HI
  go_wp2_with (refine wpList_store_then rfl 30 _ _ rfl w.heap.size #[.slice la' sm.live.length lc', .slice sa' sm.snaps.length sc', .int .u64 sm.token.base.1, .int .u64 sm.token.base.2, .int .u64 sm.token.target.1, .int .u64 sm.token.target.2, .int .i64 sm.token.next, .int .i64 sm.token.all, .slice ia' sm.token.image.length ic'] rfl rfl 30 _ HP.out meta_size rfl (mt_one _ _ _ _ _ _ _ _ _ _ _ _ _ _ _) ?_)
  refine Later.mk fun w2 hw2 => ?_
  have H2 := Lib.hid (show Below w.heap.size w w2 ∧ Blk w2 w.heap.size 30 #[.slice la' sm.live.length lc', .slice sa' sm.snaps.length sc', .int .u64 sm.token.base.1, .int .u64 sm.token.base.2, .int .u64 sm.token.target.1, .int .u64 sm.token.target.2, .int .i64 sm.token.next, .int .i64 sm.token.all, .slice ia' sm.token.image.length ic'] ∧ InMt w2 (.agg #[.slice la' sm.live.length lc', .slice sa' sm.snaps.length sc', .int .u64 sm.token.base.1, .int .u64 sm.token.base.2, .int .u64 sm.token.target.1, .int .u64 sm.token.target.2, .int .i64 sm.token.next, .int .i64 sm.token.all, .slice ia' sm.token.image.length ic']) sm by
    rw [hw2]
    exact ⟨Below.setRow HB.out (Nat.le_refl _) _, HP.out.row _, (HO.out.kp (kp_row w1 w.heap.size #[.slice la' sm.live.length lc', .slice sa' sm.snaps.length sc', .int .u64 sm.token.base.1, .int .u64 sm.token.base.2, .int .u64 sm.token.target.1, .int .u64 sm.token.target.2, .int .i64 sm.token.next, .int .i64 sm.token.all, .slice ia' sm.token.image.length ic']) (fun b hb e => by have := HPL.out; omega)).inm⟩)
  clear hw2 HB HP HO HPL
  have HB := Lib.hid H2.out.1
  have HP := Lib.hid H2.out.2.1
  have HI := Lib.hid H2.out.2.2
  have HWF := Lib.hid H2.out.2.2.wfm
  have hmin := HYK.out.2.1
  have hk1 := HYK.out.2.2.1
  have hk0 : (0 : Int) ≤ (K : Int) := by omega
  have hk2 := HYK.out.2.2.2
  have hex := HYK.out.1
  have HEC := Lib.hid (enc_cases sm)
  have HEN := Lib.hid (fun w3 (h : Below w2.heap.size w2 w3) => enc_any w3 _ sm (HI.out.keep h))
  have HCK := Lib.hid (fun w3 (h : Below w2.heap.size w2 w3) => checkM_any w3 _ sm sm.live.length 1024 (HI.out.keep h))
  have HDE := Lib.hid (fun (h : encE sm = 0) => dec_enc HWF.out h)
  have HLE := Lib.hid (fun (h : mtOf sm sm.live.length 1024 = 0) => encM_le h)
  have x0 := H2.out.2.1.cell 0
  have x1 := H2.out.2.1.cell 1
  have x2 := H2.out.2.1.cell 2
  have x3 := H2.out.2.1.cell 3
  have x4 := H2.out.2.1.cell 4
  have x5 := H2.out.2.1.cell 5
  have x6 := H2.out.2.1.cell 6
  have x7 := H2.out.2.1.cell 7
  have x8 := H2.out.2.1.cell 8
  simp at x0 x1 x2 x3 x4 x5 x6 x7 x8
  clear H2
  go_wp2_with fail
  clear hmin hk1 hk0 hk2 hex HYK
  refine (HEN.out _ (Below.refl _ _)).mono ?_
  rintro e w3 ⟨rfl, hb⟩
  replace HB := Lib.hid (HB.out.trans (hb.mono HB.out.size))
  have HB3 := Lib.hid hb
  replace x0 := cell_later hb x0
  replace x1 := cell_later hb x1
  replace x2 := cell_later hb x2
  replace x3 := cell_later hb x3
  replace x4 := cell_later hb x4
  replace x5 := cell_later hb x5
  replace x6 := cell_later hb x6
  replace x7 := cell_later hb x7
  replace x8 := cell_later hb x8
  clear hb
  go_wp2_with fail
  clear x0 x1 x2 x3 x4 x5 x6 x7 x8
  refine (HCK.out _ HB3.out).mono ?_
  rintro e w4 ⟨rfl, hb⟩
  replace HB := Lib.hid (HB.out.trans (hb.mono HB.out.size))
  replace HB3 := Lib.hid (HB3.out.trans (hb.mono HB3.out.size))
  clear hb
  have hec := HEC.out
  generalize hz1 : mtOf sm sm.live.length 1024 = z1 at *
  generalize hz2 : encE sm = z2 at *
  rcases hec with ⟨h1, rfl⟩ | ⟨rfl, rfl⟩ | ⟨rfl, rfl⟩
  · have e1 : (z2 != z2) = false := by simp
    have e2 : (z2 == 0) = false := by simpa using h1
    clear h1 hz1 hz2 HDE HLE HEC HEN HCK
    go_wp2_with fail
    rcases HCASE.out with ⟨hd, he, hc⟩ | hd
    · have HEN := Lib.hid he
      have HCK := Lib.hid hc
      refine (hd _).mono ?_
      clear hd he hc
      rintro e wx ⟨lb, kb, sb, tb, ib, jb, rfl, hi, hb⟩
      replace HB := Lib.hid (HB.out.trans (hb.mono HB.out.size))
      have hbx := (Below.refl wx.heap.size wx).alloc (Nat.le_refl _) (Obj.cells #[.slice lb m2.live.length kb, .slice sb m2.snaps.length tb, .int .u64 m2.token.base.1, .int .u64 m2.token.base.2, .int .u64 m2.token.target.1, .int .u64 m2.token.target.2, .int .i64 m2.token.next, .int .i64 m2.token.all, .slice ib m2.token.image.length jb] 30)
      have HX := Lib.hid (Blk.new wx 30 #[.slice lb m2.live.length kb, .slice sb m2.snaps.length tb, .int .u64 m2.token.base.1, .int .u64 m2.token.base.2, .int .u64 m2.token.target.1, .int .u64 m2.token.target.2, .int .i64 m2.token.next, .int .i64 m2.token.all, .slice ib m2.token.image.length jb])
      have HXI := Lib.hid (hi.keep hbx)
      replace HB := Lib.hid (HB.out.trans (hbx.mono HB.out.size))
      clear hb hi hbx
      go_wp2_with fail
      generalize wx.alloc (Obj.cells #[.slice lb m2.live.length kb, .slice sb m2.snaps.length tb, .int .u64 m2.token.base.1, .int .u64 m2.token.base.2, .int .u64 m2.token.target.1, .int .u64 m2.token.target.2, .int .i64 m2.token.next, .int .i64 m2.token.all, .slice ib m2.token.image.length jb] 30) = wy at *
      generalize wx.heap.size = gx at *
      refine (HEN.out _ _ HXI.out).mono ?_
      rintro e wz ⟨rfl, hb⟩
      replace HB := Lib.hid (HB.out.trans (hb.mono HB.out.size))
      replace HX := Lib.hid (HX.out.keep hb)
      replace HXI := Lib.hid (HXI.out.keep hb)
      clear hb
      have x0 := HX.out.cell 0
      have x1 := HX.out.cell 1
      have x2 := HX.out.cell 2
      have x3 := HX.out.cell 3
      have x4 := HX.out.cell 4
      have x5 := HX.out.cell 5
      have x6 := HX.out.cell 6
      have x7 := HX.out.cell 7
      have x8 := HX.out.cell 8
      simp at x0 x1 x2 x3 x4 x5 x6 x7 x8
      go_wp2_with fail
      clear x0 x1 x2 x3 x4 x5 x6 x7 x8
      refine (HCK.out _ _ HXI.out).mono ?_
      rintro e wu ⟨rfl, hb⟩
      replace HB := Lib.hid (HB.out.trans (hb.mono HB.out.size))
      clear hb HX HXI
      go_wp2_with fail
      refine (works_any _).mono ?_
      rintro e wz ⟨rfl, hb⟩
      replace HB := Lib.hid (HB.out.trans (hb.mono HB.out.size))
      clear hb
      go_wp2
      go_ret
      exact ⟨rfl, HB.out⟩
    · refine (hd _).mono ?_
      clear hd
      rintro e wx ⟨lb, kb, sb, tb, ib, jb, rfl, hb⟩
      replace HB := Lib.hid (HB.out.trans (hb.mono HB.out.size))
      have hbx := (Below.refl wx.heap.size wx).alloc (Nat.le_refl _) (Obj.cells #[.slice lb 0 kb, .slice sb 0 tb, .int .u64 0, .int .u64 0, .int .u64 0, .int .u64 0, .int .i64 0, .int .i64 0, .slice ib 0 jb] 30)
      replace HB := Lib.hid (HB.out.trans (hbx.mono HB.out.size))
      clear hb hbx
      go_wp2_with fail
      generalize wx.alloc (Obj.cells #[.slice lb 0 kb, .slice sb 0 tb, .int .u64 0, .int .u64 0, .int .u64 0, .int .u64 0, .int .i64 0, .int .i64 0, .slice ib 0 jb] 30) = wy at *
      refine (works_any _).mono ?_
      rintro e wz ⟨rfl, hb⟩
      replace HB := Lib.hid (HB.out.trans (hb.mono HB.out.size))
      clear hb
      go_wp2
      go_ret
      exact ⟨rfl, HB.out⟩
  · clear hz1 hz2 HDE HLE HEC HEN HCK
    go_wp2_with fail
    rcases HCASE.out with ⟨hd, he, hc⟩ | hd
    · have HEN := Lib.hid he
      have HCK := Lib.hid hc
      refine (hd _).mono ?_
      clear hd he hc
      rintro e wx ⟨lb, kb, sb, tb, ib, jb, rfl, hi, hb⟩
      replace HB := Lib.hid (HB.out.trans (hb.mono HB.out.size))
      have hbx := (Below.refl wx.heap.size wx).alloc (Nat.le_refl _) (Obj.cells #[.slice lb m2.live.length kb, .slice sb m2.snaps.length tb, .int .u64 m2.token.base.1, .int .u64 m2.token.base.2, .int .u64 m2.token.target.1, .int .u64 m2.token.target.2, .int .i64 m2.token.next, .int .i64 m2.token.all, .slice ib m2.token.image.length jb] 30)
      have HX := Lib.hid (Blk.new wx 30 #[.slice lb m2.live.length kb, .slice sb m2.snaps.length tb, .int .u64 m2.token.base.1, .int .u64 m2.token.base.2, .int .u64 m2.token.target.1, .int .u64 m2.token.target.2, .int .i64 m2.token.next, .int .i64 m2.token.all, .slice ib m2.token.image.length jb])
      have HXI := Lib.hid (hi.keep hbx)
      replace HB := Lib.hid (HB.out.trans (hbx.mono HB.out.size))
      clear hb hi hbx
      go_wp2_with fail
      generalize wx.alloc (Obj.cells #[.slice lb m2.live.length kb, .slice sb m2.snaps.length tb, .int .u64 m2.token.base.1, .int .u64 m2.token.base.2, .int .u64 m2.token.target.1, .int .u64 m2.token.target.2, .int .i64 m2.token.next, .int .i64 m2.token.all, .slice ib m2.token.image.length jb] 30) = wy at *
      generalize wx.heap.size = gx at *
      refine (HEN.out _ _ HXI.out).mono ?_
      rintro e wz ⟨rfl, hb⟩
      replace HB := Lib.hid (HB.out.trans (hb.mono HB.out.size))
      replace HX := Lib.hid (HX.out.keep hb)
      replace HXI := Lib.hid (HXI.out.keep hb)
      clear hb
      have x0 := HX.out.cell 0
      have x1 := HX.out.cell 1
      have x2 := HX.out.cell 2
      have x3 := HX.out.cell 3
      have x4 := HX.out.cell 4
      have x5 := HX.out.cell 5
      have x6 := HX.out.cell 6
      have x7 := HX.out.cell 7
      have x8 := HX.out.cell 8
      simp at x0 x1 x2 x3 x4 x5 x6 x7 x8
      go_wp2_with fail
      clear x0 x1 x2 x3 x4 x5 x6 x7 x8
      refine (HCK.out _ _ HXI.out).mono ?_
      rintro e wu ⟨rfl, hb⟩
      replace HB := Lib.hid (HB.out.trans (hb.mono HB.out.size))
      clear hb HX HXI
      go_wp2_with fail
      refine (works_any _).mono ?_
      rintro e wz ⟨rfl, hb⟩
      replace HB := Lib.hid (HB.out.trans (hb.mono HB.out.size))
      clear hb
      go_wp2
      go_ret
      exact ⟨rfl, HB.out⟩
    · refine (hd _).mono ?_
      clear hd
      rintro e wx ⟨lb, kb, sb, tb, ib, jb, rfl, hb⟩
      replace HB := Lib.hid (HB.out.trans (hb.mono HB.out.size))
      have hbx := (Below.refl wx.heap.size wx).alloc (Nat.le_refl _) (Obj.cells #[.slice lb 0 kb, .slice sb 0 tb, .int .u64 0, .int .u64 0, .int .u64 0, .int .u64 0, .int .i64 0, .int .i64 0, .slice ib 0 jb] 30)
      replace HB := Lib.hid (HB.out.trans (hbx.mono HB.out.size))
      clear hb hbx
      go_wp2_with fail
      generalize wx.alloc (Obj.cells #[.slice lb 0 kb, .slice sb 0 tb, .int .u64 0, .int .u64 0, .int .u64 0, .int .u64 0, .int .i64 0, .int .i64 0, .slice ib 0 jb] 30) = wy at *
      refine (works_any _).mono ?_
      rintro e wz ⟨rfl, hb⟩
      replace HB := Lib.hid (HB.out.trans (hb.mono HB.out.size))
      clear hb
      go_wp2
      go_ret
      exact ⟨rfl, HB.out⟩
  · have hde := HDE.out rfl
    have hle := HLE.out rfl
    clear hz1 hz2 HDE HLE HEC HEN HCK
    have HD1 := Lib.hid (fun w => by have := dec_any w (encM sm) (by omega); rw [hde.1, hde.2] at this; exact this.mono fun _ _ h => h.z)
    clear hde hle
    generalize encM sm = ES at *
    go_wp2_with fail
    refine (HD1.out _).mono ?_
    rintro e w5 ⟨lq, kq, sq, tq, iq, jq, rfl, hi, hb⟩
    replace HB := Lib.hid (HB.out.trans (hb.mono HB.out.size))
    replace HB3 := Lib.hid (HB3.out.trans (hb.mono HB3.out.size))
    have hbx := (Below.refl w5.heap.size w5).alloc (Nat.le_refl _) (Obj.cells #[.slice lq sm.live.length kq, .slice sq sm.snaps.length tq, .int .u64 sm.token.base.1, .int .u64 sm.token.base.2, .int .u64 sm.token.target.1, .int .u64 sm.token.target.2, .int .i64 sm.token.next, .int .i64 sm.token.all, .slice iq sm.token.image.length jq] 30)
    have HQI := Lib.hid (hi.keep hbx)
    replace HB := Lib.hid (HB.out.trans (hbx.mono HB.out.size))
    have hb35 := HB3.out.trans (hbx.mono HB3.out.size)
    have HII := Lib.hid (HI.out.keep hb35)
    have hp5 := HP.out.keep hb35
    have y0 := hp5.cell 0
    have y1 := hp5.cell 1
    have y2 := hp5.cell 2
    have y3 := hp5.cell 3
    have y4 := hp5.cell 4
    have y5 := hp5.cell 5
    have y6 := hp5.cell 6
    have y7 := hp5.cell 7
    have y8 := hp5.cell 8
    simp at y0 y1 y2 y3 y4 y5 y6 y7 y8
    clear hb hi hbx hb35 hp5
    go_wp2_with fail
    clear y0 y1 y2 y3 y4 y5 y6 y7 y8
    refine (samew _ HII.out HQI.out).mono ?_
    rintro e w6 ⟨rfl, hb⟩
    replace HB := Lib.hid (HB.out.trans (hb.mono HB.out.size))
    clear hb HII HQI
    go_wp2_with fail
    rcases HCASE.out with ⟨hd, he, hc⟩ | hd
    · have HEN := Lib.hid he
      have HCK := Lib.hid hc
      refine (hd _).mono ?_
      clear hd he hc
      rintro e wx ⟨lb, kb, sb, tb, ib, jb, rfl, hi, hb⟩
      replace HB := Lib.hid (HB.out.trans (hb.mono HB.out.size))
      have hbx := (Below.refl wx.heap.size wx).alloc (Nat.le_refl _) (Obj.cells #[.slice lb m2.live.length kb, .slice sb m2.snaps.length tb, .int .u64 m2.token.base.1, .int .u64 m2.token.base.2, .int .u64 m2.token.target.1, .int .u64 m2.token.target.2, .int .i64 m2.token.next, .int .i64 m2.token.all, .slice ib m2.token.image.length jb] 30)
      have HX := Lib.hid (Blk.new wx 30 #[.slice lb m2.live.length kb, .slice sb m2.snaps.length tb, .int .u64 m2.token.base.1, .int .u64 m2.token.base.2, .int .u64 m2.token.target.1, .int .u64 m2.token.target.2, .int .i64 m2.token.next, .int .i64 m2.token.all, .slice ib m2.token.image.length jb])
      have HXI := Lib.hid (hi.keep hbx)
      replace HB := Lib.hid (HB.out.trans (hbx.mono HB.out.size))
      clear hb hi hbx
      go_wp2_with fail
      generalize wx.alloc (Obj.cells #[.slice lb m2.live.length kb, .slice sb m2.snaps.length tb, .int .u64 m2.token.base.1, .int .u64 m2.token.base.2, .int .u64 m2.token.target.1, .int .u64 m2.token.target.2, .int .i64 m2.token.next, .int .i64 m2.token.all, .slice ib m2.token.image.length jb] 30) = wy at *
      generalize wx.heap.size = gx at *
      refine (HEN.out _ _ HXI.out).mono ?_
      rintro e wz ⟨rfl, hb⟩
      replace HB := Lib.hid (HB.out.trans (hb.mono HB.out.size))
      replace HX := Lib.hid (HX.out.keep hb)
      replace HXI := Lib.hid (HXI.out.keep hb)
      clear hb
      have x0 := HX.out.cell 0
      have x1 := HX.out.cell 1
      have x2 := HX.out.cell 2
      have x3 := HX.out.cell 3
      have x4 := HX.out.cell 4
      have x5 := HX.out.cell 5
      have x6 := HX.out.cell 6
      have x7 := HX.out.cell 7
      have x8 := HX.out.cell 8
      simp at x0 x1 x2 x3 x4 x5 x6 x7 x8
      go_wp2_with fail
      clear x0 x1 x2 x3 x4 x5 x6 x7 x8
      refine (HCK.out _ _ HXI.out).mono ?_
      rintro e wu ⟨rfl, hb⟩
      replace HB := Lib.hid (HB.out.trans (hb.mono HB.out.size))
      clear hb HX HXI
      go_wp2_with fail
      refine (works_any _).mono ?_
      rintro e wz ⟨rfl, hb⟩
      replace HB := Lib.hid (HB.out.trans (hb.mono HB.out.size))
      clear hb
      go_wp2
      go_ret
      exact ⟨rfl, HB.out⟩
    · refine (hd _).mono ?_
      clear hd
      rintro e wx ⟨lb, kb, sb, tb, ib, jb, rfl, hb⟩
      replace HB := Lib.hid (HB.out.trans (hb.mono HB.out.size))
      have hbx := (Below.refl wx.heap.size wx).alloc (Nat.le_refl _) (Obj.cells #[.slice lb 0 kb, .slice sb 0 tb, .int .u64 0, .int .u64 0, .int .u64 0, .int .u64 0, .int .i64 0, .int .i64 0, .slice ib 0 jb] 30)
      replace HB := Lib.hid (HB.out.trans (hbx.mono HB.out.size))
      clear hb hbx
      go_wp2_with fail
      generalize wx.alloc (Obj.cells #[.slice lb 0 kb, .slice sb 0 tb, .int .u64 0, .int .u64 0, .int .u64 0, .int .u64 0, .int .i64 0, .int .i64 0, .slice ib 0 jb] 30) = wy at *
      refine (works_any _).mono ?_
      rintro e wz ⟨rfl, hb⟩
      replace HB := Lib.hid (HB.out.trans (hb.mono HB.out.size))
      clear hb
      go_wp2
      go_ret
      exact ⟨rfl, HB.out⟩
end Go.Proofs.Ytimgecflcackbaa
