/-
  ModelKnown, WALKED (printed by wip/gen-modelknown.py).
-/
import Derived.Test.YtfeinafbimpjnaaModel8
namespace Go.Proofs.Ytfeinafbimpjnaa
open Go.RowKit Reg Go.WideShapes Go.ChangeShapes

abbrev K0 : Mdl := Mdl.new 2
def K1 : Mdl := K0.snap (1, 1)
def K2 : Mdl := K1.write 1 0 (letS 120 false)
def K3 : Mdl := K2.begin 1 (0, 0)
def K4 : Mdl := K3.write 1 0 (letS 97 false)
def K5 : Mdl := K4.write 1 2 (letS 120 false)
def K6 : Mdl := K5.write 1 (-1) (letS 120 false)
def K7 : Mdl := K6.write 1 1 (letS 120 true)
def K8 : Mdl := K7.snap (1, 1)
def K9 : Mdl := K8.write 1 0 (letS 98 false)
def K10 : Mdl := K9.snap (1, 1)
def K11 : Mdl := K10.begin 2 (1, 1)
def K12 : Mdl := K11.write 2 1 (letS 98 false)
def K13 : Mdl := K12.snap (2, 1)
def K14 : Mdl := K13.begin 2 (0, 0)
def K15 : Mdl := K14.snap (2, 2)
def K16 : Mdl := K15.snap (3, 1)
def K17 : Mdl := K16.commit [(1, 1)]
def K18 : Mdl := K17.commit [(1, 1), (2, 1)]
def K19 : Mdl := K18.commit [(1, 1)]
def K20 : Mdl := K19.commit [(1, 1), (2, 2)]
def K21 : Mdl := K20.commit []
theorem img_K10_1_2 : (K10.img (1, 2)).isSome = false := by kernel_rfl
theorem im_K10_1_1 : (K10.img (1, 1)).isSome = true ∧ K10.image (1, 1) = [letS 97 false, letS 0 false] := ⟨by kernel_rfl, by kernel_rfl⟩
theorem img_K16_3_1 : (K16.img (3, 1)).isSome = false := by kernel_rfl
theorem im_K16_2_1 : (K16.img (2, 1)).isSome = true ∧ K16.image (2, 1) = [letS 97 false, letS 98 false] := ⟨by kernel_rfl, by kernel_rfl⟩
theorem im_K16_2_2 : (K16.img (2, 2)).isSome = true ∧ K16.image (2, 2) = [letS 97 false, letS 98 false] := ⟨by kernel_rfl, by kernel_rfl⟩
theorem tk_K16_1 : K16.taken [(1, 1)] = true := by kernel_rfl
theorem tk_K17_2 : K17.taken [(1, 1), (2, 1)] = true := by kernel_rfl
theorem tk_K18_1 : K18.taken [(1, 1)] = true := by kernel_rfl
theorem tk_K19_2 : K19.taken [(1, 1), (2, 2)] = false := by kernel_rfl
theorem tk_K20_0 : K20.taken [] = true := by kernel_rfl
theorem end_list : K21.list = [(1, 1), (2, 1)] := by kernel_rfl
set_option maxRecDepth 100000 in
set_option maxHeartbeats 4000000 in
theorem law_ModelKnown (w : World) : Calls Try.prog 6 #[] w fun e w' => e = .returned (.bool true) ∧ Below w.heap.size w w' := by
  go_enter Try.func6, Try.ntmps6
  go_wp2_with fail
  refine (new_any 2 _ (by omega) (by omega)).mono ?_
  rintro e w1 ⟨rfl, hm, hb⟩
  have HB := Lib.hid hb
  obtain ⟨bm, hbm⟩ : ∃ z, z = w.heap.size + 1 + 1 := ⟨_, rfl⟩
  obtain ⟨bl, hbl⟩ : ∃ z, z = w.heap.size := ⟨_, rfl⟩
  obtain ⟨bi, hbi⟩ : ∃ z, z = w.heap.size + 1 := ⟨_, rfl⟩
  have hge : ∀ b, fp bm bl bi b → w.heap.size ≤ b := by
    rintro b (rfl | rfl | rfl) <;> omega
  have HGE := Lib.hid hge
  have hm2 : Md w1 bm bl bi (Mdl.new 2) := by rw [hbm, hbl, hbi]; exact hm
  have HM := Lib.hid hm2
  rw [← hbm]
  clear hm hm2 hb hge hbm hbl hbi
  go_wp2_with fail
  refine (new_none 0 _ (by omega)).mono ?_
  rintro e w2 ⟨rfl, hb⟩
  replace HM := Lib.hid (HM.out.keep hb)
  replace HB := Lib.hid (HB.out.trans (hb.mono HB.out.size))
  clear hb
  go_wp2_with fail
  refine (new_none 9 _ (by omega)).mono ?_
  rintro e w3 ⟨rfl, hb⟩
  replace HM := Lib.hid (HM.out.keep hb)
  replace HB := Lib.hid (HB.out.trans (hb.mono HB.out.size))
  clear hb
  go_wp2_with fail
  refine (new_any 8 _ (by omega) (by omega)).mono ?_
  rintro e w4 ⟨rfl, -, hb⟩
  replace HM := Lib.hid (HM.out.keep hb)
  replace HB := Lib.hid (HB.out.trans (hb.mono HB.out.size))
  clear hb
  go_wp2_with fail
  refine (guid_any 1 1 _).mono ?_
  rintro e w5 ⟨rfl, hb⟩
  replace HM := Lib.hid (HM.out.keep hb)
  replace HB := Lib.hid (HB.out.trans (hb.mono HB.out.size))
  clear hb
  go_wp2_with fail
  refine (snap_any _ bm bl bi K0 (1, 1) HM.out (by decide)).mono ?_
  rintro e w6 ⟨rfl, hm, hk⟩
  replace HM := Lib.hid (show Md w6 bm bl bi K1 from hm)
  replace HB := Lib.hid (HB.out.trans (hk.below HGE.out HB.out.size))
  clear hm hk
  go_wp2_with fail
  refine (letters_any 120 false _).mono ?_
  rintro e w7 ⟨rfl, hb⟩
  replace HM := Lib.hid (HM.out.keep hb)
  replace HB := Lib.hid (HB.out.trans (hb.mono HB.out.size))
  clear hb
  go_wp2_with fail
  refine (write_any _ bm bl bi K1 1 0 (letS 120 false) HM.out (by decide) (letS_size _ _)).mono ?_
  rintro e w8 ⟨rfl, hm, hk⟩
  replace HM := Lib.hid (show Md w8 bm bl bi K2 from hm)
  replace HB := Lib.hid (HB.out.trans (hk.below HGE.out HB.out.size))
  clear hm hk
  go_wp2_with fail
  refine (guid_any 0 0 _).mono ?_
  rintro e w9 ⟨rfl, hb⟩
  replace HM := Lib.hid (HM.out.keep hb)
  replace HB := Lib.hid (HB.out.trans (hb.mono HB.out.size))
  clear hb
  go_wp2_with fail
  refine (begin_any _ bm bl bi K2 1 (0, 0) HM.out (by decide) (by decide)).mono ?_
  rintro e w10 ⟨rfl, hm, hk⟩
  replace HM := Lib.hid (show Md w10 bm bl bi K3 from hm)
  replace HB := Lib.hid (HB.out.trans (hk.below HGE.out HB.out.size))
  clear hm hk
  go_wp2_with fail
  refine (letters_any 97 false _).mono ?_
  rintro e w11 ⟨rfl, hb⟩
  replace HM := Lib.hid (HM.out.keep hb)
  replace HB := Lib.hid (HB.out.trans (hb.mono HB.out.size))
  clear hb
  go_wp2_with fail
  refine (write_any _ bm bl bi K3 1 0 (letS 97 false) HM.out (by decide) (letS_size _ _)).mono ?_
  rintro e w12 ⟨rfl, hm, hk⟩
  replace HM := Lib.hid (show Md w12 bm bl bi K4 from hm)
  replace HB := Lib.hid (HB.out.trans (hk.below HGE.out HB.out.size))
  clear hm hk
  go_wp2_with fail
  refine (letters_any 120 false _).mono ?_
  rintro e w13 ⟨rfl, hb⟩
  replace HM := Lib.hid (HM.out.keep hb)
  replace HB := Lib.hid (HB.out.trans (hb.mono HB.out.size))
  clear hb
  go_wp2_with fail
  refine (write_any _ bm bl bi K4 1 2 (letS 120 false) HM.out (by decide) (letS_size _ _)).mono ?_
  rintro e w14 ⟨rfl, hm, hk⟩
  replace HM := Lib.hid (show Md w14 bm bl bi K5 from hm)
  replace HB := Lib.hid (HB.out.trans (hk.below HGE.out HB.out.size))
  clear hm hk
  go_wp2_with fail
  refine (letters_any 120 false _).mono ?_
  rintro e w15 ⟨rfl, hb⟩
  replace HM := Lib.hid (HM.out.keep hb)
  replace HB := Lib.hid (HB.out.trans (hb.mono HB.out.size))
  clear hb
  go_wp2_with fail
  refine (write_any _ bm bl bi K5 1 (-1) (letS 120 false) HM.out (by decide) (letS_size _ _)).mono ?_
  rintro e w16 ⟨rfl, hm, hk⟩
  replace HM := Lib.hid (show Md w16 bm bl bi K6 from hm)
  replace HB := Lib.hid (HB.out.trans (hk.below HGE.out HB.out.size))
  clear hm hk
  go_wp2_with fail
  refine (letters_any 120 true _).mono ?_
  rintro e w17 ⟨rfl, hb⟩
  replace HM := Lib.hid (HM.out.keep hb)
  replace HB := Lib.hid (HB.out.trans (hb.mono HB.out.size))
  clear hb
  go_wp2_with fail
  refine (write_any _ bm bl bi K6 1 1 (letS 120 true) HM.out (by decide) (letS_size _ _)).mono ?_
  rintro e w18 ⟨rfl, hm, hk⟩
  replace HM := Lib.hid (show Md w18 bm bl bi K7 from hm)
  replace HB := Lib.hid (HB.out.trans (hk.below HGE.out HB.out.size))
  clear hm hk
  go_wp2_with fail
  refine (guid_any 1 1 _).mono ?_
  rintro e w19 ⟨rfl, hb⟩
  replace HM := Lib.hid (HM.out.keep hb)
  replace HB := Lib.hid (HB.out.trans (hb.mono HB.out.size))
  clear hb
  go_wp2_with fail
  refine (snap_any _ bm bl bi K7 (1, 1) HM.out (by decide)).mono ?_
  rintro e w20 ⟨rfl, hm, hk⟩
  replace HM := Lib.hid (show Md w20 bm bl bi K8 from hm)
  replace HB := Lib.hid (HB.out.trans (hk.below HGE.out HB.out.size))
  clear hm hk
  go_wp2_with fail
  refine (letters_any 98 false _).mono ?_
  rintro e w21 ⟨rfl, hb⟩
  replace HM := Lib.hid (HM.out.keep hb)
  replace HB := Lib.hid (HB.out.trans (hb.mono HB.out.size))
  clear hb
  go_wp2_with fail
  refine (write_any _ bm bl bi K8 1 0 (letS 98 false) HM.out (by decide) (letS_size _ _)).mono ?_
  rintro e w22 ⟨rfl, hm, hk⟩
  replace HM := Lib.hid (show Md w22 bm bl bi K9 from hm)
  replace HB := Lib.hid (HB.out.trans (hk.below HGE.out HB.out.size))
  clear hm hk
  go_wp2_with fail
  refine (guid_any 1 1 _).mono ?_
  rintro e w23 ⟨rfl, hb⟩
  replace HM := Lib.hid (HM.out.keep hb)
  replace HB := Lib.hid (HB.out.trans (hb.mono HB.out.size))
  clear hb
  go_wp2_with fail
  refine (snap_any _ bm bl bi K9 (1, 1) HM.out (by decide)).mono ?_
  rintro e w24 ⟨rfl, hm, hk⟩
  replace HM := Lib.hid (show Md w24 bm bl bi K10 from hm)
  replace HB := Lib.hid (HB.out.trans (hk.below HGE.out HB.out.size))
  clear hm hk
  go_wp2_with fail
  refine (guid_any 1 2 _).mono ?_
  rintro e w25 ⟨rfl, hb⟩
  replace HM := Lib.hid (HM.out.keep hb)
  replace HB := Lib.hid (HB.out.trans (hb.mono HB.out.size))
  clear hb
  go_wp2_with fail
  refine (image_any _ bm bl bi K10 (1, 2) HM.out (by decide)).mono ?_
  rintro e w26 ⟨u, rfl, -, hb⟩
  rw [img_K10_1_2]
  replace HM := Lib.hid (HM.out.keep hb)
  replace HB := Lib.hid (HB.out.trans (hb.mono HB.out.size))
  clear hb
  go_wp2_with fail
  refine (guid_any 1 1 _).mono ?_
  rintro e w27 ⟨rfl, hb⟩
  replace HM := Lib.hid (HM.out.keep hb)
  replace HB := Lib.hid (HB.out.trans (hb.mono HB.out.size))
  clear hb
  go_wp2_with fail
  refine (is_true ⟨#[97, 48]⟩ _ bm bl bi K10 (1, 1) HM.out (by decide) (by decide) im_K10_1_1.1 (by rw [im_K10_1_1.2]; rfl) (by rw [im_K10_1_1.2]; decide)).mono ?_
  rintro e w28 ⟨rfl, hb⟩
  replace HM := Lib.hid (HM.out.keep hb)
  replace HB := Lib.hid (HB.out.trans (hb.mono HB.out.size))
  clear hb
  go_wp2_with fail
  refine (guid_any 1 1 _).mono ?_
  rintro e w29 ⟨rfl, hb⟩
  replace HM := Lib.hid (HM.out.keep hb)
  replace HB := Lib.hid (HB.out.trans (hb.mono HB.out.size))
  clear hb
  go_wp2_with fail
  refine (begin_any _ bm bl bi K10 2 (1, 1) HM.out (by decide) (by decide)).mono ?_
  rintro e w30 ⟨rfl, hm, hk⟩
  replace HM := Lib.hid (show Md w30 bm bl bi K11 from hm)
  replace HB := Lib.hid (HB.out.trans (hk.below HGE.out HB.out.size))
  clear hm hk
  go_wp2_with fail
  refine (letters_any 98 false _).mono ?_
  rintro e w31 ⟨rfl, hb⟩
  replace HM := Lib.hid (HM.out.keep hb)
  replace HB := Lib.hid (HB.out.trans (hb.mono HB.out.size))
  clear hb
  go_wp2_with fail
  refine (write_any _ bm bl bi K11 2 1 (letS 98 false) HM.out (by decide) (letS_size _ _)).mono ?_
  rintro e w32 ⟨rfl, hm, hk⟩
  replace HM := Lib.hid (show Md w32 bm bl bi K12 from hm)
  replace HB := Lib.hid (HB.out.trans (hk.below HGE.out HB.out.size))
  clear hm hk
  go_wp2_with fail
  refine (guid_any 2 1 _).mono ?_
  rintro e w33 ⟨rfl, hb⟩
  replace HM := Lib.hid (HM.out.keep hb)
  replace HB := Lib.hid (HB.out.trans (hb.mono HB.out.size))
  clear hb
  go_wp2_with fail
  refine (snap_any _ bm bl bi K12 (2, 1) HM.out (by decide)).mono ?_
  rintro e w34 ⟨rfl, hm, hk⟩
  replace HM := Lib.hid (show Md w34 bm bl bi K13 from hm)
  replace HB := Lib.hid (HB.out.trans (hk.below HGE.out HB.out.size))
  clear hm hk
  go_wp2_with fail
  refine (guid_any 0 0 _).mono ?_
  rintro e w35 ⟨rfl, hb⟩
  replace HM := Lib.hid (HM.out.keep hb)
  replace HB := Lib.hid (HB.out.trans (hb.mono HB.out.size))
  clear hb
  go_wp2_with fail
  refine (begin_any _ bm bl bi K13 2 (0, 0) HM.out (by decide) (by decide)).mono ?_
  rintro e w36 ⟨rfl, hm, hk⟩
  replace HM := Lib.hid (show Md w36 bm bl bi K14 from hm)
  replace HB := Lib.hid (HB.out.trans (hk.below HGE.out HB.out.size))
  clear hm hk
  go_wp2_with fail
  refine (guid_any 2 2 _).mono ?_
  rintro e w37 ⟨rfl, hb⟩
  replace HM := Lib.hid (HM.out.keep hb)
  replace HB := Lib.hid (HB.out.trans (hb.mono HB.out.size))
  clear hb
  go_wp2_with fail
  refine (snap_any _ bm bl bi K14 (2, 2) HM.out (by decide)).mono ?_
  rintro e w38 ⟨rfl, hm, hk⟩
  replace HM := Lib.hid (show Md w38 bm bl bi K15 from hm)
  replace HB := Lib.hid (HB.out.trans (hk.below HGE.out HB.out.size))
  clear hm hk
  go_wp2_with fail
  refine (guid_any 3 1 _).mono ?_
  rintro e w39 ⟨rfl, hb⟩
  replace HM := Lib.hid (HM.out.keep hb)
  replace HB := Lib.hid (HB.out.trans (hb.mono HB.out.size))
  clear hb
  go_wp2_with fail
  refine (snap_any _ bm bl bi K15 (3, 1) HM.out (by decide)).mono ?_
  rintro e w40 ⟨rfl, hm, hk⟩
  replace HM := Lib.hid (show Md w40 bm bl bi K16 from hm)
  replace HB := Lib.hid (HB.out.trans (hk.below HGE.out HB.out.size))
  clear hm hk
  go_wp2_with fail
  refine (guid_any 3 1 _).mono ?_
  rintro e w41 ⟨rfl, hb⟩
  replace HM := Lib.hid (HM.out.keep hb)
  replace HB := Lib.hid (HB.out.trans (hb.mono HB.out.size))
  clear hb
  go_wp2_with fail
  refine (image_any _ bm bl bi K16 (3, 1) HM.out (by decide)).mono ?_
  rintro e w42 ⟨u, rfl, -, hb⟩
  rw [img_K16_3_1]
  replace HM := Lib.hid (HM.out.keep hb)
  replace HB := Lib.hid (HB.out.trans (hb.mono HB.out.size))
  clear hb
  go_wp2_with fail
  refine (guid_any 2 1 _).mono ?_
  rintro e w43 ⟨rfl, hb⟩
  replace HM := Lib.hid (HM.out.keep hb)
  replace HB := Lib.hid (HB.out.trans (hb.mono HB.out.size))
  clear hb
  go_wp2_with fail
  refine (is_true ⟨#[97, 98]⟩ _ bm bl bi K16 (2, 1) HM.out (by decide) (by decide) im_K16_2_1.1 (by rw [im_K16_2_1.2]; rfl) (by rw [im_K16_2_1.2]; decide)).mono ?_
  rintro e w44 ⟨rfl, hb⟩
  replace HM := Lib.hid (HM.out.keep hb)
  replace HB := Lib.hid (HB.out.trans (hb.mono HB.out.size))
  clear hb
  go_wp2_with fail
  refine (guid_any 2 2 _).mono ?_
  rintro e w45 ⟨rfl, hb⟩
  replace HM := Lib.hid (HM.out.keep hb)
  replace HB := Lib.hid (HB.out.trans (hb.mono HB.out.size))
  clear hb
  go_wp2_with fail
  refine (is_true ⟨#[97, 98]⟩ _ bm bl bi K16 (2, 2) HM.out (by decide) (by decide) im_K16_2_2.1 (by rw [im_K16_2_2.2]; rfl) (by rw [im_K16_2_2.2]; decide)).mono ?_
  rintro e w46 ⟨rfl, hb⟩
  replace HM := Lib.hid (HM.out.keep hb)
  replace HB := Lib.hid (HB.out.trans (hb.mono HB.out.size))
  clear hb
  go_wp2_with fail
  refine (guid_any 1 1 _).mono ?_
  rintro e w47 ⟨rfl, hb⟩
  replace HM := Lib.hid (HM.out.keep hb)
  replace HB := Lib.hid (HB.out.trans (hb.mono HB.out.size))
  clear hb
  go_wp2_with fail
  have hz := (Below.refl w47.heap.size w47).alloc (Nat.le_refl _) (Obj.cells #[.int .u64 1, .int .u64 1] 34)
  have hin := InG.litAt w47 [(1, 1)] #[.int .u64 1, .int .u64 1] _ rfl rfl (by decide) (by decide)
  replace HM := Lib.hid (HM.out.keep hz)
  replace HB := Lib.hid (HB.out.trans (hz.mono HB.out.size))
  have HIN := Lib.hid hin
  clear hz hin
  generalize w47.alloc (Obj.cells #[.int .u64 1, .int .u64 1] 34) = w48 at *
  refine (commit_any _ [(1, 1)] _ bm bl bi K16 HM.out HIN.out (by decide)).mono ?_
  rintro e w49 ⟨rfl, hm, hk⟩
  rw [tk_K16_1]
  clear HIN
  replace HM := Lib.hid (show Md w49 bm bl bi K17 from hm)
  replace HB := Lib.hid (HB.out.trans (hk.below HGE.out HB.out.size))
  clear hm hk
  go_wp2_with fail
  refine (guid_any 1 1 _).mono ?_
  rintro e w50 ⟨rfl, hb⟩
  replace HM := Lib.hid (HM.out.keep hb)
  replace HB := Lib.hid (HB.out.trans (hb.mono HB.out.size))
  clear hb
  go_wp2_with fail
  refine (guid_any 2 1 _).mono ?_
  rintro e w51 ⟨rfl, hb⟩
  replace HM := Lib.hid (HM.out.keep hb)
  replace HB := Lib.hid (HB.out.trans (hb.mono HB.out.size))
  clear hb
  go_wp2_with fail
  have hz := (Below.refl w51.heap.size w51).alloc (Nat.le_refl _) (Obj.cells #[.int .u64 1, .int .u64 1, .int .u64 2, .int .u64 1] 34)
  have hin := InG.litAt w51 [(1, 1), (2, 1)] #[.int .u64 1, .int .u64 1, .int .u64 2, .int .u64 1] _ rfl rfl (by decide) (by decide)
  replace HM := Lib.hid (HM.out.keep hz)
  replace HB := Lib.hid (HB.out.trans (hz.mono HB.out.size))
  have HIN := Lib.hid hin
  clear hz hin
  generalize w51.alloc (Obj.cells #[.int .u64 1, .int .u64 1, .int .u64 2, .int .u64 1] 34) = w52 at *
  refine (commit_any _ [(1, 1), (2, 1)] _ bm bl bi K17 HM.out HIN.out (by decide)).mono ?_
  rintro e w53 ⟨rfl, hm, hk⟩
  rw [tk_K17_2]
  clear HIN
  replace HM := Lib.hid (show Md w53 bm bl bi K18 from hm)
  replace HB := Lib.hid (HB.out.trans (hk.below HGE.out HB.out.size))
  clear hm hk
  go_wp2_with fail
  refine (guid_any 1 1 _).mono ?_
  rintro e w54 ⟨rfl, hb⟩
  replace HM := Lib.hid (HM.out.keep hb)
  replace HB := Lib.hid (HB.out.trans (hb.mono HB.out.size))
  clear hb
  go_wp2_with fail
  have hz := (Below.refl w54.heap.size w54).alloc (Nat.le_refl _) (Obj.cells #[.int .u64 1, .int .u64 1] 34)
  have hin := InG.litAt w54 [(1, 1)] #[.int .u64 1, .int .u64 1] _ rfl rfl (by decide) (by decide)
  replace HM := Lib.hid (HM.out.keep hz)
  replace HB := Lib.hid (HB.out.trans (hz.mono HB.out.size))
  have HIN := Lib.hid hin
  clear hz hin
  generalize w54.alloc (Obj.cells #[.int .u64 1, .int .u64 1] 34) = w55 at *
  refine (commit_any _ [(1, 1)] _ bm bl bi K18 HM.out HIN.out (by decide)).mono ?_
  rintro e w56 ⟨rfl, hm, hk⟩
  rw [tk_K18_1]
  clear HIN
  replace HM := Lib.hid (show Md w56 bm bl bi K19 from hm)
  replace HB := Lib.hid (HB.out.trans (hk.below HGE.out HB.out.size))
  clear hm hk
  go_wp2_with fail
  refine (guid_any 1 1 _).mono ?_
  rintro e w57 ⟨rfl, hb⟩
  replace HM := Lib.hid (HM.out.keep hb)
  replace HB := Lib.hid (HB.out.trans (hb.mono HB.out.size))
  clear hb
  go_wp2_with fail
  refine (guid_any 2 2 _).mono ?_
  rintro e w58 ⟨rfl, hb⟩
  replace HM := Lib.hid (HM.out.keep hb)
  replace HB := Lib.hid (HB.out.trans (hb.mono HB.out.size))
  clear hb
  go_wp2_with fail
  have hz := (Below.refl w58.heap.size w58).alloc (Nat.le_refl _) (Obj.cells #[.int .u64 1, .int .u64 1, .int .u64 2, .int .u64 2] 34)
  have hin := InG.litAt w58 [(1, 1), (2, 2)] #[.int .u64 1, .int .u64 1, .int .u64 2, .int .u64 2] _ rfl rfl (by decide) (by decide)
  replace HM := Lib.hid (HM.out.keep hz)
  replace HB := Lib.hid (HB.out.trans (hz.mono HB.out.size))
  have HIN := Lib.hid hin
  clear hz hin
  generalize w58.alloc (Obj.cells #[.int .u64 1, .int .u64 1, .int .u64 2, .int .u64 2] 34) = w59 at *
  refine (commit_any _ [(1, 1), (2, 2)] _ bm bl bi K19 HM.out HIN.out (by decide)).mono ?_
  rintro e w60 ⟨rfl, hm, hk⟩
  rw [tk_K19_2]
  clear HIN
  replace HM := Lib.hid (show Md w60 bm bl bi K20 from hm)
  replace HB := Lib.hid (HB.out.trans (hk.below HGE.out HB.out.size))
  clear hm hk
  go_wp2_with fail
  refine (commit_any _ [] _ bm bl bi K20 HM.out (InG.nil_ _) (by decide)).mono ?_
  rintro e w61 ⟨rfl, hm, hk⟩
  rw [tk_K20_0]
  replace HM := Lib.hid (show Md w61 bm bl bi K21 from hm)
  replace HB := Lib.hid (HB.out.trans (hk.below HGE.out HB.out.size))
  clear hm hk
  go_wp2_with fail
  refine (list_any _ bm bl bi K21 HM.out).mono ?_
  rintro e w62 ⟨u, rfl, ho, hb⟩
  rw [end_list] at ho
  have HU := Lib.hid ho.rd
  replace HM := Lib.hid (HM.out.keep hb)
  replace HB := Lib.hid (HB.out.trans (hb.mono HB.out.size))
  clear ho hb
  go_wp2_with fail
  refine (guid_any 1 1 _).mono ?_
  rintro e w63 ⟨rfl, hb⟩
  replace HM := Lib.hid (HM.out.keep hb)
  replace HB := Lib.hid (HB.out.trans (hb.mono HB.out.size))
  replace HU := Lib.hid (HU.out.keep hb)
  clear hb
  go_wp2_with fail
  refine (guid_any 2 1 _).mono ?_
  rintro e w64 ⟨rfl, hb⟩
  replace HM := Lib.hid (HM.out.keep hb)
  replace HB := Lib.hid (HB.out.trans (hb.mono HB.out.size))
  replace HU := Lib.hid (HU.out.keep hb)
  clear hb
  go_wp2_with fail
  have hz := (Below.refl w64.heap.size w64).alloc (Nat.le_refl _) (Obj.cells #[.int .u64 1, .int .u64 1, .int .u64 2, .int .u64 1] 34)
  have hin := InG.litAt w64 [(1, 1), (2, 1)] #[.int .u64 1, .int .u64 1, .int .u64 2, .int .u64 1] _ rfl rfl (by decide) (by decide)
  replace HM := Lib.hid (HM.out.keep hz)
  replace HB := Lib.hid (HB.out.trans (hz.mono HB.out.size))
  replace HU := Lib.hid (HU.out.keep hz)
  have HIN := Lib.hid hin
  clear hz hin
  generalize w64.alloc (Obj.cells #[.int .u64 1, .int .u64 1, .int .u64 2, .int .u64 1] 34) = w65 at *
  refine (guids_any _ _ [(1, 1), (2, 1)] [(1, 1), (2, 1)] _ HU.out HIN.out).mono ?_
  rintro e w66 ⟨rfl, hb⟩
  rw [decide_eq_true rfl]
  replace HB := Lib.hid (HB.out.trans (hb.mono HB.out.size))
  clear hb HU HIN HM
  go_wp2_with fail
  refine (guid_any 1 1 _).mono ?_
  rintro e w67 ⟨rfl, hb⟩
  replace HB := Lib.hid (HB.out.trans (hb.mono HB.out.size))
  clear hb
  go_wp2_with fail
  refine (begin_none 1 (1, 1) _).mono ?_
  rintro e w68 ⟨rfl, hb⟩
  replace HB := Lib.hid (HB.out.trans (hb.mono HB.out.size))
  clear hb
  go_wp2_with fail
  refine (letters_any 97 false _).mono ?_
  rintro e w69 ⟨rfl, hb⟩
  replace HB := Lib.hid (HB.out.trans (hb.mono HB.out.size))
  clear hb
  go_wp2_with fail
  refine (write_none 1 0 (letS 97 false) _).mono ?_
  rintro e w70 ⟨rfl, hb⟩
  replace HB := Lib.hid (HB.out.trans (hb.mono HB.out.size))
  clear hb
  go_wp2_with fail
  refine (guid_any 1 1 _).mono ?_
  rintro e w71 ⟨rfl, hb⟩
  replace HB := Lib.hid (HB.out.trans (hb.mono HB.out.size))
  clear hb
  go_wp2_with fail
  refine (snap_none (1, 1) _).mono ?_
  rintro e w72 ⟨rfl, hb⟩
  replace HB := Lib.hid (HB.out.trans (hb.mono HB.out.size))
  clear hb
  go_wp2_with fail
  refine (guid_any 1 1 _).mono ?_
  rintro e w73 ⟨rfl, hb⟩
  replace HB := Lib.hid (HB.out.trans (hb.mono HB.out.size))
  clear hb
  go_wp2_with fail
  refine (image_none (1, 1) _).mono ?_
  rintro e w74 ⟨rfl, hb⟩
  replace HB := Lib.hid (HB.out.trans (hb.mono HB.out.size))
  clear hb
  go_wp2_with fail
  refine (commit_none (.slice none 0 0) _).mono ?_
  rintro e w75 ⟨rfl, hb⟩
  replace HB := Lib.hid (HB.out.trans (hb.mono HB.out.size))
  clear hb
  go_wp2_with fail
  refine (list_none _).mono ?_
  rintro e w76 ⟨rfl, hb⟩
  replace HB := Lib.hid (HB.out.trans (hb.mono HB.out.size))
  clear hb
  go_wp2_with fail
  refine (works_any _).mono ?_
  rintro e w77 ⟨rfl, hb⟩
  replace HB := Lib.hid (HB.out.trans (hb.mono HB.out.size))
  clear hb
  go_wp2
  go_ret
  exact ⟨rfl, HB.out⟩
end Go.Proofs.Ytfeinafbimpjnaa
