/-
  A MODEL: works (printed by wip/gen-model7.py).
-/
import Derived.Test.YtfeinafbimpjnaaModel6
namespace Go.Proofs.Ytfeinafbimpjnaa
open Go.RowKit Reg Go.WideShapes Go.ChangeShapes

theorem letS_size (c : Int) (s : Bool) : (letS c s).size ≤ maxLen := by
  unfold letS
  rw [strOfNums_size, List.length_replicate]
  split <;> decide
instance (g : Gd) : Decidable (wfG g) := by
  unfold wfG
  infer_instance
abbrev S0 : Mdl := Mdl.new 2
def S1 : Mdl := S0.begin 1 (0, 0)
def S2 : Mdl := S1.write 1 0 (letS 97 false)
def S3 : Mdl := S2.snap (1, 1)
def S4 : Mdl := S3.write 1 0 (letS 98 false)
theorem s4_img : (S4.img (1, 1)).isSome = true := by kernel_rfl
theorem s4_image : S4.image (1, 1) = [letS 97 false, letS 0 false] := by kernel_rfl
theorem s4_taken : S4.taken [(1, 1)] = true := by kernel_rfl
theorem s5_list : (S4.commit [(1, 1)]).list = [(1, 1)] := by kernel_rfl
set_option maxRecDepth 100000 in
set_option maxHeartbeats 1000000 in
theorem works_any (w : World) : Calls Try.prog 9 #[] w fun e w' => e = .returned (.bool true) ∧ Below w.heap.size w w' := by
  go_enter Try.func9, Try.ntmps9
  go_wp2_with fail
  refine (new_any 2 _ (by omega) (by omega)).mono ?_
  rintro e w1 ⟨rfl, hm, hb⟩
  have HB := Lib.hid hb
  obtain ⟨bm, hbm⟩ : ∃ z, z = w.heap.size + 1 + 1 := ⟨_, rfl⟩
  obtain ⟨bl, hbl⟩ : ∃ z, z = w.heap.size := ⟨_, rfl⟩
  obtain ⟨bi, hbi⟩ : ∃ z, z = w.heap.size + 1 := ⟨_, rfl⟩
  have hge : ∀ b, fp bm bl bi b → w.heap.size ≤ b := by
    rintro b (rfl | rfl | rfl) <;> omega
  have HGE := Lib.hid hge
  have hm2 : Md w1 bm bl bi (Mdl.new 2) := by rw [hbm, hbl, hbi]; exact hm
  have HM := Lib.hid hm2
  rw [← hbm]
  clear hm hm2 hb hge hbm hbl hbi
  go_wp2_with fail
  refine (guid_any 0 0 _).mono ?_
  rintro e w2 ⟨rfl, hb⟩
  replace HM := Lib.hid (HM.out.keep hb)
  replace HB := Lib.hid (HB.out.trans (hb.mono HB.out.size))
  clear hb
  go_wp2_with fail
  refine (begin_any _ bm bl bi S0 1 (0, 0) HM.out (by decide) (by decide)).mono ?_
  rintro e w3 ⟨rfl, hm, hk⟩
  replace HM := Lib.hid hm
  replace HB := Lib.hid (HB.out.trans (hk.below HGE.out HB.out.size))
  clear hm hk
  go_wp2_with fail
  refine (letters_any 97 false _).mono ?_
  rintro e w4 ⟨rfl, hb⟩
  replace HM := Lib.hid (HM.out.keep hb)
  replace HB := Lib.hid (HB.out.trans (hb.mono HB.out.size))
  clear hb
  go_wp2_with fail
  refine (write_any _ bm bl bi S1 1 0 (letS 97 false) HM.out (by decide) (letS_size _ _)).mono ?_
  rintro e w5 ⟨rfl, hm, hk⟩
  replace HM := Lib.hid hm
  replace HB := Lib.hid (HB.out.trans (hk.below HGE.out HB.out.size))
  clear hm hk
  go_wp2_with fail
  refine (guid_any 1 1 _).mono ?_
  rintro e w6 ⟨rfl, hb⟩
  replace HM := Lib.hid (HM.out.keep hb)
  replace HB := Lib.hid (HB.out.trans (hb.mono HB.out.size))
  clear hb
  go_wp2_with fail
  refine (snap_any _ bm bl bi S2 (1, 1) HM.out (by decide)).mono ?_
  rintro e w7 ⟨rfl, hm, hk⟩
  replace HM := Lib.hid hm
  replace HB := Lib.hid (HB.out.trans (hk.below HGE.out HB.out.size))
  clear hm hk
  go_wp2_with fail
  refine (letters_any 98 false _).mono ?_
  rintro e w8 ⟨rfl, hb⟩
  replace HM := Lib.hid (HM.out.keep hb)
  replace HB := Lib.hid (HB.out.trans (hb.mono HB.out.size))
  clear hb
  go_wp2_with fail
  refine (write_any _ bm bl bi S3 1 0 (letS 98 false) HM.out (by decide) (letS_size _ _)).mono ?_
  rintro e w9 ⟨rfl, hm, hk⟩
  replace HM := Lib.hid hm
  replace HB := Lib.hid (HB.out.trans (hk.below HGE.out HB.out.size))
  clear hm hk
  go_wp2_with fail
  refine (guid_any 1 1 _).mono ?_
  rintro e w10 ⟨rfl, hb⟩
  replace HM := Lib.hid (HM.out.keep hb)
  replace HB := Lib.hid (HB.out.trans (hb.mono HB.out.size))
  clear hb
  go_wp2_with fail
  refine (is_true ⟨#[97, 48]⟩ _ bm bl bi S4 (1, 1) HM.out (by decide) (by decide) s4_img (by rw [s4_image]; rfl) (by rw [s4_image]; decide)).mono ?_
  rintro e w11 ⟨rfl, hb⟩
  replace HM := Lib.hid (HM.out.keep hb)
  replace HB := Lib.hid (HB.out.trans (hb.mono HB.out.size))
  clear hb
  go_wp2_with fail
  refine (guid_any 1 1 _).mono ?_
  rintro e w12 ⟨rfl, hb⟩
  replace HM := Lib.hid (HM.out.keep hb)
  replace HB := Lib.hid (HB.out.trans (hb.mono HB.out.size))
  clear hb
  go_wp2_with fail
  have hz := (Below.refl w12.heap.size w12).alloc (Nat.le_refl _) (Obj.cells #[.int .u64 1, .int .u64 1] 34)
  have hin := InG.litAt w12 [(1, 1)] #[.int .u64 1, .int .u64 1] _ rfl rfl (by decide) (by decide)
  replace HM := Lib.hid (HM.out.keep hz)
  replace HB := Lib.hid (HB.out.trans (hz.mono HB.out.size))
  have HIN := Lib.hid hin
  clear hz hin
  generalize w12.alloc (Obj.cells #[.int .u64 1, .int .u64 1] 34) = w12a at *
  refine (commit_any _ [(1, 1)] _ bm bl bi S4 HM.out HIN.out (by decide)).mono ?_
  rintro e w13 ⟨rfl, hm, hk⟩
  rw [s4_taken]
  clear HIN
  replace HM := Lib.hid hm
  replace HB := Lib.hid (HB.out.trans (hk.below HGE.out HB.out.size))
  clear hm hk
  go_wp2_with fail
  refine (list_any _ bm bl bi _ HM.out).mono ?_
  rintro e w14 ⟨u, rfl, ho, hb⟩
  rw [s5_list] at ho
  obtain ⟨ua, uc, rfl, -, -⟩ := ho.rd.open_
  replace HB := Lib.hid (HB.out.trans (hb.mono HB.out.size))
  clear ho hb HM
  go_wp2
  go_ret
  exact ⟨rfl, HB.out⟩
end Go.Proofs.Ytfeinafbimpjnaa
