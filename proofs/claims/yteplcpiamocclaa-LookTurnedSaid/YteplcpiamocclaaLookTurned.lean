/-
  LookTurned, WALKED (printed by wip/gen-lookturned.py).
-/
import Derived.Test.YteplcpiamocclaaShort
import Derived.Test.YteplcpiamocclaaTurn
import Derived.Test.YteplcpiamocclaaLook14
import Derived.Test.YteplcpiamocclaaOpenSeen
import Derived.Deep.CutRange
import Derived.Deep.MidRow
namespace Go.Proofs.Yteplcpiamocclaa
open Go.RowKit Reg Go.ChangeShapes

theorem lit_u8t {z : Int} (h : (Lit.int .u8 z).wf = true) : ∃ t : Nat, z = t ∧ t < 256 := by
  simp [Lit.wf, show IntKind.u8.min = 0 from by decide, show IntKind.u8.max = 255 from by decide] at h
  exact ⟨z.toNat, by omega, by omega⟩
theorem InS.take_ {w : World} {a : Option Addr} {n c m : Nat} {es : List El} (h : InS w (.slice a n c) es) (hm : m ≤ es.length) : InS w (.slice a m c) (es.take m) ∧ m ≤ c := by
  obtain ⟨a', c', e, h1, h2, h3⟩ := h
  simp only [Value.slice.injEq] at e
  obtain ⟨rfl, rfl, rfl⟩ := e
  have hl : (es.take m).length = m := by rw [List.length_take]; omega
  refine ⟨⟨a, c, by rw [hl], by rw [hl]; omega, by rw [hl]; omega, fun j hj => ?_⟩, by omega⟩
  rw [hl] at hj
  have e : (es.take m).getD j el0 = es.getD j el0 := by simp [List.getElem?_take_of_lt hj]
  rw [e]
  exact h3 j (by omega)
theorem bq {a b : Int} (h : decide (b = -1) = decide (a = -1)) : (a == -1) = (b == -1) := by
  rw [Bool.eq_iff_iff, beq_iff_eq, beq_iff_eq]
  exact (decide_eq_decide.1 h).symm
theorem min6_min (n : Nat) : min (n : Int) 6 = ((min n 6 : Nat) : Int) := by omega
set_option maxRecDepth 100000 in
set_option maxHeartbeats 1000000 in
theorem law_LookTurned (v : Value) (es : List El) (v2 : Value) (ys : List El) (t0 : Int) (w : World) (hv : InS w v es) (_ : True) (hv2 : InS w v2 ys) (_ : True) (ht0 : (Lit.int .u8 t0).wf = true) :
    Calls Try.prog 8 #[v, v2, .int .u8 t0] w fun e w' => e = .returned (.bool true) ∧ Below w.heap.size w w' := by
  obtain ⟨t, rfl, ht⟩ := lit_u8t ht0
  have hbx := (Below.refl w.heap.size w).alloc (Nat.le_refl _) (Obj.cells #[.int .u8 (t : Int)] 5)
  have bx := Blk.new w 5 #[.int .u8 (t : Int)]
  have HV := Lib.hid (hv.keep hbx)
  have HV2 := Lib.hid (hv2.keep hbx)
  have HB := Lib.hid hbx
  have HX := Lib.hid bx
  have HT := Lib.hid ht
  obtain ⟨a, c, rfl⟩ := hv.slice_
  obtain ⟨a2, c2, rfl⟩ := hv2.slice_
  clear hv hv2 ht ht0 bx hbx
  obtain ⟨n, hn⟩ : ∃ z, z = es.length := ⟨_, rfl⟩
  obtain ⟨n2, hn2⟩ : ∃ z, z = ys.length := ⟨_, rfl⟩
  rw [← hn] at HV
  rw [← hn2] at HV2
  rw [← hn, ← hn2]
  have HN := Lib.hid hn
  have HN2 := Lib.hid hn2
  clear hn hn2
  go_enter Try.func8, Try.ntmps8
  go_upto_region 1 with fail
  generalize w.alloc (Obj.cells #[.int .u8 (t : Int)] 5) = w0 at *
  obtain ⟨q, hq⟩ : ∃ z, z = w.heap.size := ⟨_, rfl⟩
  rw [← hq] at HX
  rw [← hq]
  clear hq
  go_cut [0] from 11 to 16 (fun s wx => ∃ (b : Option Addr) (d m : Nat) (zs : List El), s = .slice b m d ∧ zs.length = m ∧ m ≤ 6 ∧ InS wx (.slice b m d) zs ∧ Below w0.heap.size w0 wx)
  case first =>
    go_wp2_with fail
    refine (short_any _ es w0 HV.out).mono ?_
    rintro e w1 ⟨u1, es0, rfl, hin, hl, hb⟩
    obtain ⟨b1, d1, rfl⟩ := hin.slice_
    rw [← HN.out] at hl
    obtain ⟨l0, hl0⟩ : ∃ z, z = es0.length := ⟨_, rfl⟩
    rw [← hl0] at hl hin
    rw [← hl0]
    have HBB := Lib.hid hb
    by_cases h6 : n ≤ 6
    · obtain ⟨hti, htc⟩ := hin.take_ (m := n) (by omega)
      have HTI := Lib.hid hti
      have HLL := Lib.hid (show (es0.take n).length = n by rw [List.length_take]; omega)
      have H6 := Lib.hid h6
      have i1 : ¬ (6 : Int) < (n : Int) := by omega
      have i4 : (if 6 < n then (6 : Int) else (n : Int)) = (n : Int) := by rw [if_neg (by omega)]
      have i5 : min (n : Int) 6 = (n : Int) := by omega
      clear hti hin hl hl0 hb h6
      go_wp2_with fail
      go_meet
      exact ⟨_, _, _, _, rfl, HLL.out, H6.out, HTI.out, HBB.out⟩
    · obtain ⟨hti, htc⟩ := hin.take_ (m := 6) (by omega)
      have HTI := Lib.hid hti
      have HLL := Lib.hid (show (es0.take 6).length = 6 by rw [List.length_take]; omega)
      have i1 : (6 : Int) < (n : Int) := by omega
      have i4 : (if 6 < n then (6 : Int) else (n : Int)) = 6 := by rw [if_pos (by omega)]
      have i5 : min (n : Int) 6 = 6 := by omega
      clear hti hin hl hl0 hb h6
      go_wp2_with fail
      go_meet
      exact ⟨_, _, _, _, rfl, HLL.out, Nat.le_refl _, HTI.out, HBB.out⟩
  case rest =>
  obtain ⟨b1, d1, m1, es1, rfl, hlen, h6, hin, hb⟩ := hcut
  have H1 := Lib.hid hin
  have HM1 := Lib.hid (And.intro h6 hlen)
  have HX := Lib.hid (HX.out.keep hb)
  have HB := Lib.hid (HB.out.trans (hb.mono HB.out.size))
  have HV2 := Lib.hid (HV2.out.keep hb)
  clear hin hb hlen h6 HV
  generalize wc = w1 at *
  go_upto_region 2 with fail
  go_cut [1] from 17 to 22 (fun s wx => ∃ (b : Option Addr) (d m : Nat) (zs : List El), s = .slice b m d ∧ zs.length = m ∧ m ≤ 6 ∧ InS wx (.slice b m d) zs ∧ Below w1.heap.size w1 wx)
  case first =>
    go_wp2_with fail
    refine (short_any _ ys w1 HV2.out).mono ?_
    rintro e w1 ⟨u1, es0, rfl, hin, hl, hb⟩
    obtain ⟨b1, d1, rfl⟩ := hin.slice_
    rw [← HN2.out] at hl
    obtain ⟨l0, hl0⟩ : ∃ z, z = es0.length := ⟨_, rfl⟩
    rw [← hl0] at hl hin
    rw [← hl0]
    have HBB := Lib.hid hb
    by_cases h6 : n2 ≤ 6
    · obtain ⟨hti, htc⟩ := hin.take_ (m := n2) (by omega)
      have HTI := Lib.hid hti
      have HLL := Lib.hid (show (es0.take n2).length = n2 by rw [List.length_take]; omega)
      have H6 := Lib.hid h6
      have i1 : ¬ (6 : Int) < (n2 : Int) := by omega
      have i4 : (if 6 < n2 then (6 : Int) else (n2 : Int)) = (n2 : Int) := by rw [if_neg (by omega)]
      have i5 : min (n2 : Int) 6 = (n2 : Int) := by omega
      clear hti hin hl hl0 hb h6
      go_wp2_with fail
      go_meet
      exact ⟨_, _, _, _, rfl, HLL.out, H6.out, HTI.out, HBB.out⟩
    · obtain ⟨hti, htc⟩ := hin.take_ (m := 6) (by omega)
      have HTI := Lib.hid hti
      have HLL := Lib.hid (show (es0.take 6).length = 6 by rw [List.length_take]; omega)
      have i1 : (6 : Int) < (n2 : Int) := by omega
      have i4 : (if 6 < n2 then (6 : Int) else (n2 : Int)) = 6 := by rw [if_pos (by omega)]
      have i5 : min (n2 : Int) 6 = 6 := by omega
      clear hti hin hl hl0 hb h6
      go_wp2_with fail
      go_meet
      exact ⟨_, _, _, _, rfl, HLL.out, Nat.le_refl _, HTI.out, HBB.out⟩
  case rest =>
  obtain ⟨b2, d2, m2, es2, rfl, hlen, h6, hin, hb⟩ := hcut
  have H2 := Lib.hid hin
  have HM2 := Lib.hid (And.intro h6 hlen)
  have HX := Lib.hid (HX.out.keep hb)
  have HB := Lib.hid (HB.out.trans (hb.mono HB.out.size))
  have H1 := Lib.hid (H1.out.keep hb)
  clear hin hb hlen h6 HV2
  generalize wc = w2 at *
  have c0 := HX.out.cell 0
  simp at c0
  have HC0 := Lib.hid c0
  go_wp2_with fail
  refine (turn_any _ es1 t q w2 H1.out (by rw [HM1.out.2]; exact HM1.out.1) HT.out HC0.out).mono ?_
  rintro e w3 ⟨u3, rfl, hin, hb⟩
  have H3 := Lib.hid hin
  obtain ⟨b3, d3, rfl⟩ := hin.slice_
  obtain ⟨m3, hm3⟩ : ∃ z, z = (turnL es1 t).length := ⟨_, rfl⟩
  rw [← hm3] at H3
  rw [← hm3]
  have H1 := Lib.hid (H1.out.keep hb)
  have H2 := Lib.hid (H2.out.keep hb)
  have HX := Lib.hid (HX.out.keep hb)
  have HB := Lib.hid (HB.out.trans (hb.mono HB.out.size))
  clear hb hin hm3 c0 HC0
  have c0 := HX.out.cell 0
  simp at c0
  have HC0 := Lib.hid c0
  clear c0
  go_wp2_with fail
  refine (turn_any _ es2 t q w3 H2.out (by rw [HM2.out.2]; exact HM2.out.1) HT.out HC0.out).mono ?_
  rintro e w4 ⟨u4, rfl, hin, hb⟩
  have H4 := Lib.hid hin
  obtain ⟨b4, d4, rfl⟩ := hin.slice_
  obtain ⟨m4, hm4⟩ : ∃ z, z = (turnL es2 t).length := ⟨_, rfl⟩
  rw [← hm4] at H4
  rw [← hm4]
  have H1 := Lib.hid (H1.out.keep hb)
  have H2 := Lib.hid (H2.out.keep hb)
  have H3 := Lib.hid (H3.out.keep hb)
  have HB := Lib.hid (HB.out.trans (hb.mono HB.out.size))
  clear hb hin hm4 HC0 HX
  obtain ⟨Z0, hZ0⟩ : ∃ z, lineV [] es2 = z := ⟨_, rfl⟩
  have HZ0 := Lib.hid hZ0
  clear hZ0
  go_wp2_with fail
  refine (line_v HZ0.out (InS.nil_ _) H2.out).mono ?_
  rintro e w13 ⟨rfl, hb⟩
  have H1 := Lib.hid (H1.out.keep hb)
  have H2 := Lib.hid (H2.out.keep hb)
  have H3 := Lib.hid (H3.out.keep hb)
  have H4 := Lib.hid (H4.out.keep hb)
  have HB := Lib.hid (HB.out.trans (hb.mono HB.out.size))
  clear hb
  obtain ⟨Z1, hZ1⟩ : ∃ z, lineV es1 es2 = z := ⟨_, rfl⟩
  obtain ⟨Z2, hZ2⟩ : ∃ z, lineV (turnL es1 t) (turnL es2 t) = z := ⟨_, rfl⟩
  have hdd := turn_line es1 es2 t
  rw [hZ1, hZ2] at hdd
  have hr1 := bq hdd
  have HZ1 := Lib.hid hZ1
  have HZ2 := Lib.hid hZ2
  clear hZ1 hZ2 hdd
  by_cases hz : Z0 = -1
  case neg =>
    have hz2 : decide (Z0 = -1) = false := decide_eq_false hz
    have hz3 : Z0 ≠ -1 := hz
    clear hz
    go_wp2_with fail
    refine (line_v HZ1.out H1.out H2.out).mono ?_
    rintro e w14 ⟨rfl, hb⟩
    have H1 := Lib.hid (H1.out.keep hb)
    have H2 := Lib.hid (H2.out.keep hb)
    have H3 := Lib.hid (H3.out.keep hb)
    have H4 := Lib.hid (H4.out.keep hb)
    have HB := Lib.hid (HB.out.trans (hb.mono HB.out.size))
    clear hb
    go_wp2_with fail
    refine (line_v HZ2.out H3.out H4.out).mono ?_
    rintro e w15 ⟨rfl, hb⟩
    have H1 := Lib.hid (H1.out.keep hb)
    have H2 := Lib.hid (H2.out.keep hb)
    have H3 := Lib.hid (H3.out.keep hb)
    have H4 := Lib.hid (H4.out.keep hb)
    have HB := Lib.hid (HB.out.trans (hb.mono HB.out.size))
    clear hb
    obtain ⟨r2, hr3⟩ : ∃ z, decide (prims es2 ≤ 1) = z := ⟨_, rfl⟩
    have HR2 := Lib.hid hr3
    have hrr2 : (r2 == r2) = true := by cases r2 <;> rfl
    clear hr3
    go_wp2_with fail
    refine (one_any _ es2 _ H2.out).mono ?_
    rintro e w5 ⟨rfl, hb⟩
    rw [HR2.out]
    have H1 := Lib.hid (H1.out.keep hb)
    have H2 := Lib.hid (H2.out.keep hb)
    have H3 := Lib.hid (H3.out.keep hb)
    have H4 := Lib.hid (H4.out.keep hb)
    have HB := Lib.hid (HB.out.trans (hb.mono HB.out.size))
    clear hb
    go_wp2_with fail
    refine (one_any _ (turnL es2 t) _ H4.out).mono ?_
    rintro e w6 ⟨rfl, hb⟩
    rw [turn_prims, HR2.out]
    have H1 := Lib.hid (H1.out.keep hb)
    have H2 := Lib.hid (H2.out.keep hb)
    have H3 := Lib.hid (H3.out.keep hb)
    have H4 := Lib.hid (H4.out.keep hb)
    have HB := Lib.hid (HB.out.trans (hb.mono HB.out.size))
    clear hb
    go_wp2_with fail
    refine (works_any _).mono ?_
    rintro e wz ⟨rfl, hb⟩
    have HB := Lib.hid (HB.out.trans (hb.mono HB.out.size))
    clear hb
    go_wp2
    go_ret
    exact ⟨rfl, HB.out⟩
  case pos =>
    subst hz
    go_wp2_with fail
    refine (line_v HZ1.out H1.out H2.out).mono ?_
    rintro e w14 ⟨rfl, hb⟩
    have H1 := Lib.hid (H1.out.keep hb)
    have H2 := Lib.hid (H2.out.keep hb)
    have H3 := Lib.hid (H3.out.keep hb)
    have H4 := Lib.hid (H4.out.keep hb)
    have HB := Lib.hid (HB.out.trans (hb.mono HB.out.size))
    clear hb
    go_wp2_with fail
    refine (line_v HZ2.out H3.out H4.out).mono ?_
    rintro e w15 ⟨rfl, hb⟩
    have H1 := Lib.hid (H1.out.keep hb)
    have H2 := Lib.hid (H2.out.keep hb)
    have H3 := Lib.hid (H3.out.keep hb)
    have H4 := Lib.hid (H4.out.keep hb)
    have HB := Lib.hid (HB.out.trans (hb.mono HB.out.size))
    clear hb
    obtain ⟨r2, hr3⟩ : ∃ z, decide (prims es2 ≤ 1) = z := ⟨_, rfl⟩
    have HR2 := Lib.hid hr3
    have hrr2 : (r2 == r2) = true := by cases r2 <;> rfl
    clear hr3
    go_wp2_with fail
    refine (one_any _ es2 _ H2.out).mono ?_
    rintro e w5 ⟨rfl, hb⟩
    rw [HR2.out]
    have H1 := Lib.hid (H1.out.keep hb)
    have H2 := Lib.hid (H2.out.keep hb)
    have H3 := Lib.hid (H3.out.keep hb)
    have H4 := Lib.hid (H4.out.keep hb)
    have HB := Lib.hid (HB.out.trans (hb.mono HB.out.size))
    clear hb
    go_wp2_with fail
    refine (one_any _ (turnL es2 t) _ H4.out).mono ?_
    rintro e w6 ⟨rfl, hb⟩
    rw [turn_prims, HR2.out]
    have H1 := Lib.hid (H1.out.keep hb)
    have H2 := Lib.hid (H2.out.keep hb)
    have H3 := Lib.hid (H3.out.keep hb)
    have H4 := Lib.hid (H4.out.keep hb)
    have HB := Lib.hid (HB.out.trans (hb.mono HB.out.size))
    clear hb
    obtain ⟨Za3, hZa3⟩ : ∃ z, listsV es2 = z := ⟨_, rfl⟩
    obtain ⟨Zb3, hZb3⟩ : ∃ z, listsV (turnL es2 t) = z := ⟨_, rfl⟩
    have hdd := turn_lists t HZ0.out
    rw [hZa3, hZb3] at hdd
    have hra3 := bq hdd
    have HZa3 := Lib.hid hZa3
    have HZb3 := Lib.hid hZb3
    clear hZa3 hZb3 hdd
    go_wp2_with fail
    refine (lists_v HZa3.out H2.out).mono ?_
    rintro e w7 ⟨rfl, hb⟩
    have H1 := Lib.hid (H1.out.keep hb)
    have H2 := Lib.hid (H2.out.keep hb)
    have H3 := Lib.hid (H3.out.keep hb)
    have H4 := Lib.hid (H4.out.keep hb)
    have HB := Lib.hid (HB.out.trans (hb.mono HB.out.size))
    clear hb
    go_wp2_with fail
    refine (lists_v HZb3.out H4.out).mono ?_
    rintro e w8 ⟨rfl, hb⟩
    have H1 := Lib.hid (H1.out.keep hb)
    have H2 := Lib.hid (H2.out.keep hb)
    have H3 := Lib.hid (H3.out.keep hb)
    have H4 := Lib.hid (H4.out.keep hb)
    have HB := Lib.hid (HB.out.trans (hb.mono HB.out.size))
    clear hb
    obtain ⟨Za4, hZa4⟩ : ∃ z, toldV es2 = z := ⟨_, rfl⟩
    obtain ⟨Zb4, hZb4⟩ : ∃ z, toldV (turnL es2 t) = z := ⟨_, rfl⟩
    have hdd := turn_told t HZ0.out
    rw [hZa4, hZb4] at hdd
    have hra4 := bq hdd
    have HZa4 := Lib.hid hZa4
    have HZb4 := Lib.hid hZb4
    clear hZa4 hZb4 hdd
    go_wp2_with fail
    refine (told_v HZa4.out H2.out).mono ?_
    rintro e w9 ⟨rfl, hb⟩
    have H1 := Lib.hid (H1.out.keep hb)
    have H2 := Lib.hid (H2.out.keep hb)
    have H3 := Lib.hid (H3.out.keep hb)
    have H4 := Lib.hid (H4.out.keep hb)
    have HB := Lib.hid (HB.out.trans (hb.mono HB.out.size))
    clear hb
    go_wp2_with fail
    refine (told_v HZb4.out H4.out).mono ?_
    rintro e w10 ⟨rfl, hb⟩
    have H1 := Lib.hid (H1.out.keep hb)
    have H2 := Lib.hid (H2.out.keep hb)
    have H3 := Lib.hid (H3.out.keep hb)
    have H4 := Lib.hid (H4.out.keep hb)
    have HB := Lib.hid (HB.out.trans (hb.mono HB.out.size))
    clear hb
    obtain ⟨r5, hr5⟩ : ∃ z, settledB es2 = z := ⟨_, rfl⟩
    have HR5 := Lib.hid hr5
    have hrr5 : (r5 == r5) = true := by cases r5 <;> rfl
    clear hr5
    go_wp2_with fail
    refine (settled_any _ es2 _ H2.out).mono ?_
    rintro e w11 ⟨rfl, hb⟩
    rw [HR5.out]
    have H1 := Lib.hid (H1.out.keep hb)
    have H2 := Lib.hid (H2.out.keep hb)
    have H3 := Lib.hid (H3.out.keep hb)
    have H4 := Lib.hid (H4.out.keep hb)
    have HB := Lib.hid (HB.out.trans (hb.mono HB.out.size))
    clear hb
    go_wp2_with fail
    refine (settled_any _ (turnL es2 t) _ H4.out).mono ?_
    rintro e w12 ⟨rfl, hb⟩
    rw [turn_settled t HZ0.out, HR5.out]
    have H1 := Lib.hid (H1.out.keep hb)
    have H2 := Lib.hid (H2.out.keep hb)
    have H3 := Lib.hid (H3.out.keep hb)
    have H4 := Lib.hid (H4.out.keep hb)
    have HB := Lib.hid (HB.out.trans (hb.mono HB.out.size))
    clear hb
    go_wp2_with fail
    refine (works_any _).mono ?_
    rintro e wz ⟨rfl, hb⟩
    have HB := Lib.hid (HB.out.trans (hb.mono HB.out.size))
    clear hb
    go_wp2
    go_ret
    exact ⟨rfl, HB.out⟩
end Go.Proofs.Yteplcpiamocclaa
