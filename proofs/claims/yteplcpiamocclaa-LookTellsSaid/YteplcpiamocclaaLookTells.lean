/-
  LookTells, WALKED (printed by wip/gen-looktells.py).
-/
import Derived.Test.YteplcpiamocclaaShort
import Derived.Test.YteplcpiamocclaaTells5
import Derived.Test.YteplcpiamocclaaLook14
import Derived.Test.YteplcpiamocclaaOpenSeen
namespace Go.Proofs.Yteplcpiamocclaa
open Go.RowKit Reg Go.ChangeShapes

set_option maxRecDepth 100000 in
set_option maxHeartbeats 2000000 in
theorem law_LookTells (v : Value) (es : List El) (v2 : Value) (ys : List El) (w : World) (hv : InS w v es) (_ : True) (hv2 : InS w v2 ys) (_ : True) :
    Calls Try.prog 6 #[v, v2] w fun e w' => e = .returned (.bool true) ∧ Below w.heap.size w w' := by
  have HV := Lib.hid hv
  have HV2 := Lib.hid hv2
  obtain ⟨a, c, rfl⟩ := hv.slice_
  obtain ⟨a2, c2, rfl⟩ := hv2.slice_
  clear hv hv2
  generalize es.length = n at *
  generalize ys.length = n2 at *
  go_enter Try.func6, Try.ntmps6
  go_wp2_with fail
  refine (short_any _ es w HV.out).mono ?_
  rintro e w1 ⟨u1, es1, rfl, hin, hl, hb⟩
  obtain ⟨b1, d1, rfl⟩ := hin.slice_
  have H1 := Lib.hid hin
  have HL1 := Lib.hid (show es1.length ≤ 1000 by omega)
  have HV2 := Lib.hid (HV2.out.keep hb)
  have HB := Lib.hid hb
  clear hb hin hl HV
  obtain ⟨n1, hn1⟩ : ∃ z, z = es1.length := ⟨_, rfl⟩
  rw [← hn1] at H1
  rw [← hn1]
  clear hn1
  go_wp2_with fail
  refine (short_any _ ys w1 HV2.out).mono ?_
  rintro e w2 ⟨u2, es2, rfl, hin, hl, hb⟩
  obtain ⟨b2, d2, rfl⟩ := hin.slice_
  have H2 := Lib.hid hin
  have HL2 := Lib.hid (show es2.length ≤ 1000 by omega)
  have H1 := Lib.hid (H1.out.keep hb)
  have HB := Lib.hid (HB.out.trans (hb.mono HB.out.size))
  clear hb hin hl HV2
  obtain ⟨n3, hn3⟩ : ∃ z, z = es2.length := ⟨_, rfl⟩
  rw [← hn3] at H2
  rw [← hn3]
  clear hn3
  obtain ⟨Za, hZa⟩ : ∃ z, lineV es1 es2 = z := ⟨_, rfl⟩
  have HZa := Lib.hid hZa
  clear hZa
  go_wp2_with fail
  refine (line_v HZa.out H1.out H2.out).mono ?_
  rintro e w3 ⟨rfl, hb⟩
  have H1 := Lib.hid (H1.out.keep hb)
  have H2 := Lib.hid (H2.out.keep hb)
  have HB := Lib.hid (HB.out.trans (hb.mono HB.out.size))
  clear hb
  go_wp2_with fail
  refine (lineR_any _ _ es1 es2 _ H1.out H2.out HL1.out HL2.out).mono ?_
  rintro e w4 ⟨rfl, hb⟩
  rw [HZa.out]
  have H1 := Lib.hid (H1.out.keep hb)
  have H2 := Lib.hid (H2.out.keep hb)
  have HB := Lib.hid (HB.out.trans (hb.mono HB.out.size))
  clear hb
  obtain ⟨Zb, hZb⟩ : ∃ z, listsV es2 = z := ⟨_, rfl⟩
  have HZb := Lib.hid hZb
  clear hZb
  go_wp2_with fail
  refine (lists_v HZb.out H2.out).mono ?_
  rintro e w5 ⟨rfl, hb⟩
  have H1 := Lib.hid (H1.out.keep hb)
  have H2 := Lib.hid (H2.out.keep hb)
  have HB := Lib.hid (HB.out.trans (hb.mono HB.out.size))
  clear hb
  go_wp2_with fail
  refine (listsR_any _ es2 _ H2.out).mono ?_
  rintro e w6 ⟨rfl, hb⟩
  rw [HZb.out]
  have H1 := Lib.hid (H1.out.keep hb)
  have H2 := Lib.hid (H2.out.keep hb)
  have HB := Lib.hid (HB.out.trans (hb.mono HB.out.size))
  clear hb
  obtain ⟨Zc, hZc⟩ : ∃ z, keptV es1 es2 = z := ⟨_, rfl⟩
  have HZc := Lib.hid hZc
  clear hZc
  go_wp2_with fail
  refine (kept_v HZc.out H1.out H2.out).mono ?_
  rintro e w7 ⟨rfl, hb⟩
  have H1 := Lib.hid (H1.out.keep hb)
  have H2 := Lib.hid (H2.out.keep hb)
  have HB := Lib.hid (HB.out.trans (hb.mono HB.out.size))
  clear hb
  go_wp2_with fail
  refine (keptR_any _ _ es1 es2 _ H1.out H2.out).mono ?_
  rintro e w8 ⟨rfl, hb⟩
  rw [HZc.out]
  have H1 := Lib.hid (H1.out.keep hb)
  have H2 := Lib.hid (H2.out.keep hb)
  have HB := Lib.hid (HB.out.trans (hb.mono HB.out.size))
  clear hb
  obtain ⟨Zd, hZd⟩ : ∃ z, toldV es2 = z := ⟨_, rfl⟩
  have HZd := Lib.hid hZd
  clear hZd
  go_wp2_with fail
  refine (told_v HZd.out H2.out).mono ?_
  rintro e w9 ⟨rfl, hb⟩
  have H1 := Lib.hid (H1.out.keep hb)
  have H2 := Lib.hid (H2.out.keep hb)
  have HB := Lib.hid (HB.out.trans (hb.mono HB.out.size))
  clear hb
  go_wp2_with fail
  refine (toldR_any _ es2 _ H2.out).mono ?_
  rintro e w10 ⟨rfl, hb⟩
  rw [HZd.out]
  have H1 := Lib.hid (H1.out.keep hb)
  have H2 := Lib.hid (H2.out.keep hb)
  have HB := Lib.hid (HB.out.trans (hb.mono HB.out.size))
  clear hb
  obtain ⟨Ze, hZe⟩ : ∃ z, decide (prims es2 ≤ 1) = z := ⟨_, rfl⟩
  have HZe := Lib.hid hZe
  have hZe' : (Ze == Ze) = true := by cases Ze <;> rfl
  clear hZe
  go_wp2_with fail
  refine (one_any _ es2 _ H2.out).mono ?_
  rintro e w11 ⟨rfl, hb⟩
  rw [HZe.out]
  have H1 := Lib.hid (H1.out.keep hb)
  have H2 := Lib.hid (H2.out.keep hb)
  have HB := Lib.hid (HB.out.trans (hb.mono HB.out.size))
  clear hb
  go_wp2_with fail
  refine (oneR_any _ es2 _ H2.out).mono ?_
  rintro e w12 ⟨rfl, hb⟩
  rw [HZe.out]
  have H1 := Lib.hid (H1.out.keep hb)
  have H2 := Lib.hid (H2.out.keep hb)
  have HB := Lib.hid (HB.out.trans (hb.mono HB.out.size))
  clear hb
  obtain ⟨Zf, hZf⟩ : ∃ z, settledB es2 = z := ⟨_, rfl⟩
  have HZf := Lib.hid hZf
  have hZf' : (Zf == Zf) = true := by cases Zf <;> rfl
  clear hZf
  go_wp2_with fail
  refine (settled_any _ es2 _ H2.out).mono ?_
  rintro e w13 ⟨rfl, hb⟩
  rw [HZf.out]
  have H1 := Lib.hid (H1.out.keep hb)
  have H2 := Lib.hid (H2.out.keep hb)
  have HB := Lib.hid (HB.out.trans (hb.mono HB.out.size))
  clear hb
  go_wp2_with fail
  refine (settledR_any _ es2 _ H2.out).mono ?_
  rintro e w14 ⟨rfl, hb⟩
  rw [HZf.out]
  have H1 := Lib.hid (H1.out.keep hb)
  have H2 := Lib.hid (H2.out.keep hb)
  have HB := Lib.hid (HB.out.trans (hb.mono HB.out.size))
  clear hb
  go_wp2_with fail
  refine (works_any _).mono ?_
  rintro e wz ⟨rfl, hb⟩
  have HB := Lib.hid (HB.out.trans (hb.mono HB.out.size))
  clear hb
  go_wp2
  go_ret
  exact ⟨rfl, HB.out⟩
end Go.Proofs.Yteplcpiamocclaa
