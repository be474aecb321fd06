/-
  ImageKnown, WALKED (printed by wip/gen-imageknown.py).
-/
import Derived.Test.YtmljeifooamlcaaImgLaws
namespace Go.Proofs.Ytmljeifooamlcaa
open Go.RowKit Reg

theorem InI.litAt (w : World) (zs : List Int) (cs : Array Value) (g : Nat) (hg : w.heap.size = g) (hc : cs = (zs.map (Value.int .i64)).toArray) (h1 : zs.length ≤ 1000) (hw : ∀ z ∈ zs, (Lit.int .i64 z).wf = true) :
    InI (w.alloc (.cells cs 3)) (.slice (some ⟨g, 0, none⟩) zs.length zs.length) zs := by
  subst hg
  exact InI.lit w zs cs hc h1 hw
theorem with_bad_lit (v : Value) (zs : List Int) (b s : Int) (w : World) (hv : InI w v zs) (hb : b < 0 ∨ (zs.length : Int) ≤ b ∨ s < 0) :
    Calls Try.prog 16 #[v, .int .i64 b, .int .i64 s] w fun e w' => e = .returned (.tuple #[.slice none 0 0, .int .i64 2]) ∧ Below w.heap.size w w' :=
  (with_bad v zs b s w hv hb).mono fun _ _ h => ⟨h.1, h.2 ▸ Below.refl _ _⟩
set_option maxRecDepth 100000 in
set_option maxHeartbeats 4000000 in
theorem law_ImageKnown (w : World) : Calls Try.prog 8 #[] w fun e w' => e = .returned (.bool true) ∧ Below w.heap.size w w' := by
  have hm9 : ∀ w : World, (Instr.makeSlice 22 (.int .i64 9) (.int .i64 9)).run Try.prog w = .ok (.slice (some ⟨w.heap.size, 0, none⟩) 9 9) (w.alloc (.cells #[.int .i64 0, .int .i64 0, .int .i64 0, .int .i64 0, .int .i64 0, .int .i64 0, .int .i64 0, .int .i64 0, .int .i64 0] 3)) := fun w => by kernel_rfl
  have hm8 : ∀ w : World, (Instr.makeSlice 22 (.int .i64 8) (.int .i64 8)).run Try.prog w = .ok (.slice (some ⟨w.heap.size, 0, none⟩) 8 8) (w.alloc (.cells #[.int .i64 0, .int .i64 0, .int .i64 0, .int .i64 0, .int .i64 0, .int .i64 0, .int .i64 0, .int .i64 0] 3)) := fun w => by kernel_rfl
  go_enter Try.func8, Try.ntmps8
  go_wp2_with fail
  refine (check_lit _ [0, 193, 200] _ _ (0) _ (InI.litAt w [0, 193, 200] _ _ (by simp) rfl (by decide) (by decide)) (by decide)).mono ?_
  rintro e w1 ⟨rfl, hb⟩
  have hb2 : Below w.heap.size w w1 := ((Below.refl w.heap.size w).alloc (by simp) (Obj.cells #[Value.int .i64 0, Value.int .i64 193, Value.int .i64 200] 3)).trans (hb.mono (by simp))
  have HB1 := Lib.hid hb2
  clear hb hb2 
  go_wp2_with fail
  refine (check_lit _ [0, 193, 200] _ _ (2) _ (InI.litAt w1 [0, 193, 200] _ _ (by simp) rfl (by decide) (by decide)) (by decide)).mono ?_
  rintro e w2 ⟨rfl, hb⟩
  have hb2 : Below w1.heap.size w1 w2 := ((Below.refl w1.heap.size w1).alloc (by simp) (Obj.cells #[Value.int .i64 0, Value.int .i64 193, Value.int .i64 200] 3)).trans (hb.mono (by simp))
  have HB2 := Lib.hid (HB1.out.trans (hb2.mono HB1.out.size))
  clear hb hb2 HB1
  go_wp2_with fail
  refine (check_lit _ [192] _ _ (2) _ (InI.litAt w2 [192] _ _ (by simp) rfl (by decide) (by decide)) (by decide)).mono ?_
  rintro e w3 ⟨rfl, hb⟩
  have hb2 : Below w2.heap.size w2 w3 := ((Below.refl w2.heap.size w2).alloc (by simp) (Obj.cells #[Value.int .i64 192] 3)).trans (hb.mono (by simp))
  have HB3 := Lib.hid (HB2.out.trans (hb2.mono HB2.out.size))
  clear hb hb2 HB2
  go_wp2_with fail
  refine (check_lit _ [193, 193] _ _ (16) _ (InI.litAt w3 [193, 193] _ _ (by simp) rfl (by decide) (by decide)) (by decide)).mono ?_
  rintro e w4 ⟨rfl, hb⟩
  have hb2 : Below w3.heap.size w3 w4 := ((Below.refl w3.heap.size w3).alloc (by simp) (Obj.cells #[Value.int .i64 193, Value.int .i64 193] 3)).trans (hb.mono (by simp))
  have HB4 := Lib.hid (HB3.out.trans (hb2.mono HB3.out.size))
  clear hb hb2 HB3
  go_wp2_with fail
  refine (check_lit _ [0] _ _ (2) _ (InI.litAt w4 [0] _ _ (by simp) rfl (by decide) (by decide)) (by decide)).mono ?_
  rintro e w5 ⟨rfl, hb⟩
  have hb2 : Below w4.heap.size w4 w5 := ((Below.refl w4.heap.size w4).alloc (by simp) (Obj.cells #[Value.int .i64 0] 3)).trans (hb.mono (by simp))
  have HB5 := Lib.hid (HB4.out.trans (hb2.mono HB4.out.size))
  clear hb hb2 HB4
  go_wp2_with fail
  refine (check_lit _ [0, 0] _ _ (0) _ (InI.litAt w5 [0, 0] _ _ (by simp) rfl (by decide) (by decide)) (by decide)).mono ?_
  rintro e w6 ⟨rfl, hb⟩
  have hb2 : Below w5.heap.size w5 w6 := ((Below.refl w5.heap.size w5).alloc (by simp) (Obj.cells #[Value.int .i64 0, Value.int .i64 0] 3)).trans (hb.mono (by simp))
  have HB6 := Lib.hid (HB5.out.trans (hb2.mono HB5.out.size))
  clear hb hb2 HB5
  go_wp2_with fail
  refine (check_lit _ [] _ _ (2) _ (InI.nil_ _) (by decide)).mono ?_
  rintro e w7 ⟨rfl, hb⟩
  have hb2 := hb
  have HB7 := Lib.hid (HB6.out.trans (hb2.mono HB6.out.size))
  clear hb hb2 HB6
  go_wp2_with fail
  refine (check_lit _ [0, 0, 0, 0, 0, 0, 0, 0, 0] _ _ (2) _ (InI.litAt w7 [0, 0, 0, 0, 0, 0, 0, 0, 0] _ _ (by simp) rfl (by decide) (by decide)) (by decide)).mono ?_
  rintro e w8 ⟨rfl, hb⟩
  have hb2 : Below w7.heap.size w7 w8 := ((Below.refl w7.heap.size w7).alloc (by simp) (Obj.cells #[Value.int .i64 0, Value.int .i64 0, Value.int .i64 0, Value.int .i64 0, Value.int .i64 0, Value.int .i64 0, Value.int .i64 0, Value.int .i64 0, Value.int .i64 0] 3)).trans (hb.mono (by simp))
  have HB8 := Lib.hid (HB7.out.trans (hb2.mono HB7.out.size))
  clear hb hb2 HB7
  go_wp2_with fail
  refine (check_lit _ [0, 0, 0, 0, 0, 0, 0, 0] _ _ (0) _ (InI.litAt w8 [0, 0, 0, 0, 0, 0, 0, 0] _ _ (by simp) rfl (by decide) (by decide)) (by decide)).mono ?_
  rintro e w9 ⟨rfl, hb⟩
  have hb2 : Below w8.heap.size w8 w9 := ((Below.refl w8.heap.size w8).alloc (by simp) (Obj.cells #[Value.int .i64 0, Value.int .i64 0, Value.int .i64 0, Value.int .i64 0, Value.int .i64 0, Value.int .i64 0, Value.int .i64 0, Value.int .i64 0] 3)).trans (hb.mono (by simp))
  have HB9 := Lib.hid (HB8.out.trans (hb2.mono HB8.out.size))
  clear hb hb2 HB8
  go_wp2_with fail
  refine (check_lit _ [(-1)] _ _ (2) _ (InI.litAt w9 [(-1)] _ _ (by simp) rfl (by decide) (by decide)) (by decide)).mono ?_
  rintro e w10 ⟨rfl, hb⟩
  have hb2 : Below w9.heap.size w9 w10 := ((Below.refl w9.heap.size w9).alloc (by simp) (Obj.cells #[Value.int .i64 (-1)] 3)).trans (hb.mono (by simp))
  have HB10 := Lib.hid (HB9.out.trans (hb2.mono HB9.out.size))
  clear hb hb2 HB9
  go_wp2_with fail
  refine (check_lit _ [1, 1] _ _ (2) _ (InI.litAt w10 [1, 1] _ _ (by simp) rfl (by decide) (by decide)) (by decide)).mono ?_
  rintro e w11 ⟨rfl, hb⟩
  have hb2 : Below w10.heap.size w10 w11 := ((Below.refl w10.heap.size w10).alloc (by simp) (Obj.cells #[Value.int .i64 1, Value.int .i64 1] 3)).trans (hb.mono (by simp))
  have HB11 := Lib.hid (HB10.out.trans (hb2.mono HB10.out.size))
  clear hb hb2 HB10
  go_wp2_with fail
  refine (diff_lit _ _ [0, 193] [194, 193] [0] _ ((InI.litAt w11 [0, 193] _ _ (by simp) rfl (by decide) (by decide)).keep ((Below.refl _ _).alloc (by simp) (Obj.cells #[Value.int .i64 194, Value.int .i64 193] 3))) (InI.litAt (w11.alloc (Obj.cells #[Value.int .i64 0, Value.int .i64 193] 3)) [194, 193] _ _ (by simp) rfl (by decide) (by decide)) (by decide) (by decide) (by decide)).mono ?_
  rintro e w12 ⟨D, rfl, ho, hb⟩
  have hb2 : Below w11.heap.size w11 w12 := (((Below.refl w11.heap.size w11).alloc (by simp) (Obj.cells #[Value.int .i64 0, Value.int .i64 193] 3)).alloc (by simp) (Obj.cells #[Value.int .i64 194, Value.int .i64 193] 3)).trans (hb.mono (by simp; omega))
  have HB12 := Lib.hid (HB11.out.trans (hb2.mono HB11.out.size))
  have HD12 := Lib.hid ho.rd
  clear hb hb2 ho HB11
  go_wp2_with fail
  refine (is_lit _ _ [0] [0] true _ (HD12.out.keep ((Below.refl _ _).alloc (by simp) (Obj.cells #[Value.int .i64 0] 3))) (InI.litAt w12 [0] _ _ (by simp) rfl (by decide) (by decide)) (by decide)).mono ?_
  rintro e w13 ⟨rfl, hb⟩
  have hb2 : Below w12.heap.size w12 w13 := ((Below.refl w12.heap.size w12).alloc (by simp) (Obj.cells #[Value.int .i64 0] 3)).trans (hb.mono (by simp))
  have HB13 := Lib.hid (HB12.out.trans (hb2.mono HB12.out.size))
  clear hb hb2 HB12 HD12
  go_wp2_with fail
  refine (diff_lit _ _ [0, 193] [0] [1] _ ((InI.litAt w13 [0, 193] _ _ (by simp) rfl (by decide) (by decide)).keep ((Below.refl _ _).alloc (by simp) (Obj.cells #[Value.int .i64 0] 3))) (InI.litAt (w13.alloc (Obj.cells #[Value.int .i64 0, Value.int .i64 193] 3)) [0] _ _ (by simp) rfl (by decide) (by decide)) (by decide) (by decide) (by decide)).mono ?_
  rintro e w14 ⟨D, rfl, ho, hb⟩
  have hb2 : Below w13.heap.size w13 w14 := (((Below.refl w13.heap.size w13).alloc (by simp) (Obj.cells #[Value.int .i64 0, Value.int .i64 193] 3)).alloc (by simp) (Obj.cells #[Value.int .i64 0] 3)).trans (hb.mono (by simp; omega))
  have HB14 := Lib.hid (HB13.out.trans (hb2.mono HB13.out.size))
  have HD14 := Lib.hid ho.rd
  clear hb hb2 ho HB13
  go_wp2_with fail
  refine (is_lit _ _ [1] [1] true _ (HD14.out.keep ((Below.refl _ _).alloc (by simp) (Obj.cells #[Value.int .i64 1] 3))) (InI.litAt w14 [1] _ _ (by simp) rfl (by decide) (by decide)) (by decide)).mono ?_
  rintro e w15 ⟨rfl, hb⟩
  have hb2 : Below w14.heap.size w14 w15 := ((Below.refl w14.heap.size w14).alloc (by simp) (Obj.cells #[Value.int .i64 1] 3)).trans (hb.mono (by simp))
  have HB15 := Lib.hid (HB14.out.trans (hb2.mono HB14.out.size))
  clear hb hb2 HB14 HD14
  go_wp2_with fail
  refine (diff_lit _ _ [0, 0] [] [] _ (InI.litAt w15 [0, 0] _ _ (by simp) rfl (by decide) (by decide)) (InI.nil_ _) (by decide) (by decide) (by decide)).mono ?_
  rintro e w16 ⟨D, rfl, ho, hb⟩
  have hb2 : Below w15.heap.size w15 w16 := ((Below.refl w15.heap.size w15).alloc (by simp) (Obj.cells #[Value.int .i64 0, Value.int .i64 0] 3)).trans (hb.mono (by simp))
  have HB16 := Lib.hid (HB15.out.trans (hb2.mono HB15.out.size))
  have HD16 := Lib.hid ho.rd
  clear hb hb2 ho HB15
  go_wp2_with fail
  refine (is_lit _ _ [] [] true _ HD16.out (InI.nil_ _) (by decide)).mono ?_
  rintro e w17 ⟨rfl, hb⟩
  have hb2 := hb
  have HB17 := Lib.hid (HB16.out.trans (hb2.mono HB16.out.size))
  clear hb hb2 HB16 HD16
  go_wp2_with fail
  refine (diff_lit _ _ [5, 6, 7] [6, 6, 8] [0, 2] _ ((InI.litAt w17 [5, 6, 7] _ _ (by simp) rfl (by decide) (by decide)).keep ((Below.refl _ _).alloc (by simp) (Obj.cells #[Value.int .i64 6, Value.int .i64 6, Value.int .i64 8] 3))) (InI.litAt (w17.alloc (Obj.cells #[Value.int .i64 5, Value.int .i64 6, Value.int .i64 7] 3)) [6, 6, 8] _ _ (by simp) rfl (by decide) (by decide)) (by decide) (by decide) (by decide)).mono ?_
  rintro e w18 ⟨D, rfl, ho, hb⟩
  have hb2 : Below w17.heap.size w17 w18 := (((Below.refl w17.heap.size w17).alloc (by simp) (Obj.cells #[Value.int .i64 5, Value.int .i64 6, Value.int .i64 7] 3)).alloc (by simp) (Obj.cells #[Value.int .i64 6, Value.int .i64 6, Value.int .i64 8] 3)).trans (hb.mono (by simp; omega))
  have HB18 := Lib.hid (HB17.out.trans (hb2.mono HB17.out.size))
  have HD18 := Lib.hid ho.rd
  clear hb hb2 ho HB17
  go_wp2_with fail
  refine (is_lit _ _ [0, 2] [0, 2] true _ (HD18.out.keep ((Below.refl _ _).alloc (by simp) (Obj.cells #[Value.int .i64 0, Value.int .i64 2] 3))) (InI.litAt w18 [0, 2] _ _ (by simp) rfl (by decide) (by decide)) (by decide)).mono ?_
  rintro e w19 ⟨rfl, hb⟩
  have hb2 : Below w18.heap.size w18 w19 := ((Below.refl w18.heap.size w18).alloc (by simp) (Obj.cells #[Value.int .i64 0, Value.int .i64 2] 3)).trans (hb.mono (by simp))
  have HB19 := Lib.hid (HB18.out.trans (hb2.mono HB18.out.size))
  clear hb hb2 HB18 HD18
  go_wp2_with fail
  refine (diff_lit _ _ [] [0, (-1)] [1] _ (InI.nil_ _) (InI.litAt w19 [0, (-1)] _ _ (by simp) rfl (by decide) (by decide)) (by decide) (by decide) (by decide)).mono ?_
  rintro e w20 ⟨D, rfl, ho, hb⟩
  have hb2 : Below w19.heap.size w19 w20 := ((Below.refl w19.heap.size w19).alloc (by simp) (Obj.cells #[Value.int .i64 0, Value.int .i64 (-1)] 3)).trans (hb.mono (by simp))
  have HB20 := Lib.hid (HB19.out.trans (hb2.mono HB19.out.size))
  have HD20 := Lib.hid ho.rd
  clear hb hb2 ho HB19
  go_wp2_with fail
  refine (is_lit _ _ [1] [1] true _ (HD20.out.keep ((Below.refl _ _).alloc (by simp) (Obj.cells #[Value.int .i64 1] 3))) (InI.litAt w20 [1] _ _ (by simp) rfl (by decide) (by decide)) (by decide)).mono ?_
  rintro e w21 ⟨rfl, hb⟩
  have hb2 : Below w20.heap.size w20 w21 := ((Below.refl w20.heap.size w20).alloc (by simp) (Obj.cells #[Value.int .i64 1] 3)).trans (hb.mono (by simp))
  have HB21 := Lib.hid (HB20.out.trans (hb2.mono HB20.out.size))
  clear hb hb2 HB20 HD20
  go_wp2_with fail
  refine (with_lit _ [0, 0] [0, 7] 1 _ _ _ (InI.litAt w21 [0, 0] _ _ (by simp) rfl (by decide) (by decide)) (by decide) (by decide) (by decide) (by decide) rfl rfl).mono ?_
  rintro e w22 ⟨A, rfl, ho, hb⟩
  have hb2 : Below w21.heap.size w21 w22 := ((Below.refl w21.heap.size w21).alloc (by simp) (Obj.cells #[Value.int .i64 0, Value.int .i64 0] 3)).trans (hb.mono (by simp))
  have HB22 := Lib.hid (HB21.out.trans (hb2.mono HB21.out.size))
  have HA22 := Lib.hid ho.rd
  clear hb hb2 ho HB21
  go_wp2_with fail
  refine (with_bad_lit _ [0] _ _ _ (InI.litAt w22 [0] _ _ (by simp) rfl (by decide) (by decide)) (by decide)).mono ?_
  rintro e w23 ⟨rfl, hb⟩
  have hb2 : Below w22.heap.size w22 w23 := ((Below.refl w22.heap.size w22).alloc (by simp) (Obj.cells #[Value.int .i64 0] 3)).trans (hb.mono (by simp))
  have HB23 := Lib.hid (HB22.out.trans (hb2.mono HB22.out.size))
  have HA23 := Lib.hid (HA22.out.keep hb2)
  clear hb hb2 HB22 HA22
  go_wp2_with fail
  refine (with_bad_lit _ [0] _ _ _ (InI.litAt w23 [0] _ _ (by simp) rfl (by decide) (by decide)) (by decide)).mono ?_
  rintro e w24 ⟨rfl, hb⟩
  have hb2 : Below w23.heap.size w23 w24 := ((Below.refl w23.heap.size w23).alloc (by simp) (Obj.cells #[Value.int .i64 0] 3)).trans (hb.mono (by simp))
  have HB24 := Lib.hid (HB23.out.trans (hb2.mono HB23.out.size))
  have HA24 := Lib.hid (HA23.out.keep hb2)
  clear hb hb2 HB23 HA23
  go_wp2_with fail
  refine (with_lit _ [3] [0] 0 _ _ _ (InI.litAt w24 [3] _ _ (by simp) rfl (by decide) (by decide)) (by decide) (by decide) (by decide) (by decide) rfl rfl).mono ?_
  rintro e w25 ⟨E, rfl, ho, hb⟩
  have hb2 : Below w24.heap.size w24 w25 := ((Below.refl w24.heap.size w24).alloc (by simp) (Obj.cells #[Value.int .i64 3] 3)).trans (hb.mono (by simp))
  have HB25 := Lib.hid (HB24.out.trans (hb2.mono HB24.out.size))
  have HA25 := Lib.hid (HA24.out.keep hb2)
  have HE25 := Lib.hid ho.rd
  clear hb hb2 ho HB24 HA24
  go_wp2_with fail
  refine (with_bad_lit _ [3] _ _ _ (InI.litAt w25 [3] _ _ (by simp) rfl (by decide) (by decide)) (by decide)).mono ?_
  rintro e w26 ⟨rfl, hb⟩
  have hb2 : Below w25.heap.size w25 w26 := ((Below.refl w25.heap.size w25).alloc (by simp) (Obj.cells #[Value.int .i64 3] 3)).trans (hb.mono (by simp))
  have HB26 := Lib.hid (HB25.out.trans (hb2.mono HB25.out.size))
  have HA26 := Lib.hid (HA25.out.keep hb2)
  have HE26 := Lib.hid (HE25.out.keep hb2)
  clear hb hb2 HB25 HA25 HE25
  go_wp2_with fail
  refine (is_lit _ _ [0, 7] [0, 7] true _ (HA26.out.keep ((Below.refl _ _).alloc (by simp) (Obj.cells #[Value.int .i64 0, Value.int .i64 7] 3))) (InI.litAt w26 [0, 7] _ _ (by simp) rfl (by decide) (by decide)) (by decide)).mono ?_
  rintro e w27 ⟨rfl, hb⟩
  have hb2 : Below w26.heap.size w26 w27 := ((Below.refl w26.heap.size w26).alloc (by simp) (Obj.cells #[Value.int .i64 0, Value.int .i64 7] 3)).trans (hb.mono (by simp))
  have HB27 := Lib.hid (HB26.out.trans (hb2.mono HB26.out.size))
  have HE27 := Lib.hid (HE26.out.keep hb2)
  clear hb hb2 HB26 HA26 HE26
  go_wp2_with fail
  refine (is_lit _ _ [] [] true _ (InI.nil_ _) (InI.nil_ _) (by decide)).mono ?_
  rintro e w28 ⟨rfl, hb⟩
  have hb2 := hb
  have HB28 := Lib.hid (HB27.out.trans (hb2.mono HB27.out.size))
  have HE28 := Lib.hid (HE27.out.keep hb2)
  clear hb hb2 HB27 HE27
  go_wp2_with fail
  refine (is_lit _ _ [] [] true _ (InI.nil_ _) (InI.nil_ _) (by decide)).mono ?_
  rintro e w29 ⟨rfl, hb⟩
  have hb2 := hb
  have HB29 := Lib.hid (HB28.out.trans (hb2.mono HB28.out.size))
  have HE29 := Lib.hid (HE28.out.keep hb2)
  clear hb hb2 HB28 HE28
  go_wp2_with fail
  refine (is_lit _ _ [0] [0] true _ (HE29.out.keep ((Below.refl _ _).alloc (by simp) (Obj.cells #[Value.int .i64 0] 3))) (InI.litAt w29 [0] _ _ (by simp) rfl (by decide) (by decide)) (by decide)).mono ?_
  rintro e w30 ⟨rfl, hb⟩
  have hb2 : Below w29.heap.size w29 w30 := ((Below.refl w29.heap.size w29).alloc (by simp) (Obj.cells #[Value.int .i64 0] 3)).trans (hb.mono (by simp))
  have HB30 := Lib.hid (HB29.out.trans (hb2.mono HB29.out.size))
  clear hb hb2 HB29 HE29
  go_wp2_with fail
  refine (works_any _).mono ?_
  rintro e w31 ⟨rfl, hb⟩
  have hb2 := hb
  have HB31 := Lib.hid (HB30.out.trans (hb2.mono HB30.out.size))
  clear hb hb2 HB30
  go_wp2
  go_ret
  exact ⟨rfl, HB31.out⟩
end Go.Proofs.Ytmljeifooamlcaa
