/-
  LOOK's statements: works (printed by wip/gen-look14.py).
-/
import Derived.Test.YteplcpiamocclaaLook13
namespace Go.Proofs.Yteplcpiamocclaa
open Go.RowKit Reg Go.ChangeShapes

section
variable {vb v : Value} {before es : List El} {w : World} {z : Int} {b : Bool}
theorem line_v (h : lineV before es = z) (hvb : InS w vb before) (hv : InS w v es) : Calls Try.prog 10 #[vb, v] w fun e w' => e = .returned (.int .i64 z) ∧ Below w.heap.size w w' := by
  subst h
  exact line_any vb v before es w hvb hv
theorem lists_v (h : listsV es = z) (hv : InS w v es) : Calls Try.prog 11 #[v] w fun e w' => e = .returned (.int .i64 z) ∧ Below w.heap.size w w' := by
  subst h
  exact lists_any v es w hv
theorem kept_v (h : keptV before es = z) (hvb : InS w vb before) (hv : InS w v es) : Calls Try.prog 12 #[vb, v] w fun e w' => e = .returned (.int .i64 z) ∧ Below w.heap.size w w' := by
  subst h
  exact kept_any vb v before es w hvb hv
theorem told_v (h : toldV es = z) (hv : InS w v es) : Calls Try.prog 20 #[v] w fun e w' => e = .returned (.int .i64 z) ∧ Below w.heap.size w w' := by
  subst h
  exact told_any v es w hv
theorem settled_v (h : settledB es = b) (hv : InS w v es) : Calls Try.prog 15 #[v] w fun e w' => e = .returned (.bool b) ∧ Below w.heap.size w w' := by
  subst h
  exact settled_any v es w hv
theorem one_v (h : decide (prims es ≤ 1) = b) (hv : InS w v es) : Calls Try.prog 14 #[v] w fun e w' => e = .returned (.bool b) ∧ Below w.heap.size w w' := by
  subst h
  exact one_any v es w hv
theorem InS.nil_ (w : World) : InS w (.slice none 0 0) [] := ⟨none, 0, rfl, .inl rfl, Nat.zero_le _, fun j hj => absurd hj (Nat.not_lt_zero j)⟩
end
set_option maxRecDepth 100000 in
set_option maxHeartbeats 4000000 in
theorem works_any (w : World) : Calls Try.prog 13 #[] w fun e w' => e = .returned (.bool true) ∧ Below w.heap.size w w' := by
  go_enter Try.func13, Try.ntmps13
  go_wp2_with fail
  refine (node_any ⟨#[97, 98]⟩ ⟨#[97, 98, 120]⟩ _ (by decide) (by decide)).mono ?_
  rintro e v1 ⟨x1, rfl, hx, hb⟩
  have HB := Lib.hid hb
  have HX1 := Lib.hid hx
  clear hb hx
  unfold El.enc
  dsimp only [El.cells, El.vl, El.vs, El.vt, El.vi]
  go_wp2_with fail
  refine (node_any ⟨#[97]⟩ ⟨#[97, 98]⟩ _ (by decide) (by decide)).mono ?_
  rintro e v2 ⟨x2, rfl, hx, hb⟩
  have HB := Lib.hid (HB.out.trans (hb.mono HB.out.size))
  have HX1 := Lib.hid (HX1.out.keep hb)
  have HX2 := Lib.hid hx
  clear hb hx
  unfold El.enc
  dsimp only [El.cells, El.vl, El.vs, El.vt, El.vi]
  go_wp2_with fail
  refine (node_any ⟨#[]⟩ ⟨#[97]⟩ _ (by decide) (by decide)).mono ?_
  rintro e v3 ⟨x3, rfl, hx, hb⟩
  have HB := Lib.hid (HB.out.trans (hb.mono HB.out.size))
  have HX1 := Lib.hid (HX1.out.keep hb)
  have HX2 := Lib.hid (HX2.out.keep hb)
  have HX3 := Lib.hid hx
  clear hb hx
  unfold El.enc
  dsimp only [El.cells, El.vl, El.vs, El.vt, El.vi]
  have hs : [x1, x2, x3].map El.strip = [nd ⟨#[97, 98]⟩ ⟨#[97, 98, 120]⟩, nd ⟨#[97]⟩ ⟨#[97, 98]⟩, nd ⟨#[]⟩ ⟨#[97]⟩] := by
    simp only [List.map_cons, List.map_nil, HX1.out.strip, HX2.out.strip, HX3.out.strip]
  have HS1 := Lib.hid hs
  have hlit := InS.litAt _ [x1, x2, x3] _ _ rfl rfl (by simp) (by
    intro e he
    simp only [List.mem_cons, List.not_mem_nil, or_false] at he
    rcases he with rfl | rfl | rfl
    · exact HX1.out.ok
    · exact HX2.out.ok
    · exact HX3.out.ok)
  have hb := (Below.refl _ v3).alloc (Nat.le_refl _) (Obj.cells (cellsS [x1, x2, x3]).toArray 40)
  have HB := Lib.hid (HB.out.trans (hb.mono HB.out.size))
  have HX1 := Lib.hid (HX1.out.keep hb)
  have HX2 := Lib.hid (HX2.out.keep hb)
  have HX3 := Lib.hid (HX3.out.keep hb)
  have HL1 := Lib.hid hlit
  clear hs hlit hb
  have HV1 := Lib.hid (show lineV [x1, x2, x3] [x1, x2, x3] = -1 from by rw [← lineV_strip, HS1.out]; exact works1)
  have HV2 := Lib.hid (show listsV [x1, x2, x3] = -1 from by rw [← listsV_strip, HS1.out]; exact works2)
  have HV5 := Lib.hid (show settledB [x1, x2, x3] = false from by rw [← settledB_strip, HS1.out]; exact works5)
  clear HX1 HX2 HX3 HS1
  go_wp2_with fail
  refine (line_v HV1.out HL1.out HL1.out).mono ?_
  rintro e y1 ⟨rfl, hb⟩
  have HB := Lib.hid (HB.out.trans (hb.mono HB.out.size))
  have HL1 := Lib.hid (HL1.out.keep hb)
  clear hb
  go_wp2_with fail
  refine (lists_v HV2.out HL1.out).mono ?_
  rintro e y2 ⟨rfl, hb⟩
  have HB := Lib.hid (HB.out.trans (hb.mono HB.out.size))
  have HL1 := Lib.hid (HL1.out.keep hb)
  clear hb
  go_wp2_with fail
  refine (node_any ⟨#[97, 98]⟩ ⟨#[97, 98]⟩ _ (by decide) (by decide)).mono ?_
  rintro e v4 ⟨x4, rfl, hx, hb⟩
  have HB := Lib.hid (HB.out.trans (hb.mono HB.out.size))
  have HL1 := Lib.hid (HL1.out.keep hb)
  have HX4 := Lib.hid hx
  clear hb hx
  unfold El.enc
  dsimp only [El.cells, El.vl, El.vs, El.vt, El.vi]
  go_wp2_with fail
  refine (node_any ⟨#[97, 120]⟩ ⟨#[97, 120]⟩ _ (by decide) (by decide)).mono ?_
  rintro e v5 ⟨x5, rfl, hx, hb⟩
  have HB := Lib.hid (HB.out.trans (hb.mono HB.out.size))
  have HL1 := Lib.hid (HL1.out.keep hb)
  have HX4 := Lib.hid (HX4.out.keep hb)
  have HX5 := Lib.hid hx
  clear hb hx
  unfold El.enc
  dsimp only [El.cells, El.vl, El.vs, El.vt, El.vi]
  have hs : [x4, x5].map El.strip = [nd ⟨#[97, 98]⟩ ⟨#[97, 98]⟩, nd ⟨#[97, 120]⟩ ⟨#[97, 120]⟩] := by
    simp only [List.map_cons, List.map_nil, HX4.out.strip, HX5.out.strip]
  have HS2 := Lib.hid hs
  have hlit := InS.litAt _ [x4, x5] _ _ rfl rfl (by simp) (by
    intro e he
    simp only [List.mem_cons, List.not_mem_nil, or_false] at he
    rcases he with rfl | rfl
    · exact HX4.out.ok
    · exact HX5.out.ok)
  have hb := (Below.refl _ v5).alloc (Nat.le_refl _) (Obj.cells (cellsS [x4, x5]).toArray 40)
  have HB := Lib.hid (HB.out.trans (hb.mono HB.out.size))
  have HL1 := Lib.hid (HL1.out.keep hb)
  have HX4 := Lib.hid (HX4.out.keep hb)
  have HX5 := Lib.hid (HX5.out.keep hb)
  have HL2 := Lib.hid hlit
  clear hs hlit hb
  have HV3 := Lib.hid (show lineV [] [x4, x5] = 0 from by rw [← lineV_strip, HS2.out]; exact works3)
  clear HX4 HX5 HS2
  go_wp2_with fail
  refine (line_v HV3.out (InS.nil_ _) HL2.out).mono ?_
  rintro e y3 ⟨rfl, hb⟩
  have HB := Lib.hid (HB.out.trans (hb.mono HB.out.size))
  have HL1 := Lib.hid (HL1.out.keep hb)
  have HL2 := Lib.hid (HL2.out.keep hb)
  clear hb
  clear HL2 HV3 HV1 HV2
  go_wp2_with fail
  refine (node_any ⟨#[97, 98]⟩ ⟨#[97, 98]⟩ _ (by decide) (by decide)).mono ?_
  rintro e v6 ⟨x6, rfl, hx, hb⟩
  have HB := Lib.hid (HB.out.trans (hb.mono HB.out.size))
  have HL1 := Lib.hid (HL1.out.keep hb)
  have HX6 := Lib.hid hx
  clear hb hx
  unfold El.enc
  dsimp only [El.cells, El.vl, El.vs, El.vt, El.vi]
  have hs : [x6].map El.strip = [nd ⟨#[97, 98]⟩ ⟨#[97, 98]⟩] := by
    simp only [List.map_cons, List.map_nil, HX6.out.strip]
  have HS3 := Lib.hid hs
  have hlit := InS.litAt _ [x6] _ _ rfl rfl (by simp) (by
    intro e he
    simp only [List.mem_cons, List.not_mem_nil, or_false] at he
    rcases he with rfl
    · exact HX6.out.ok)
  have hb := (Below.refl _ v6).alloc (Nat.le_refl _) (Obj.cells (cellsS [x6]).toArray 40)
  have HB := Lib.hid (HB.out.trans (hb.mono HB.out.size))
  have HL1 := Lib.hid (HL1.out.keep hb)
  have HX6 := Lib.hid (HX6.out.keep hb)
  have HL3 := Lib.hid hlit
  clear hs hlit hb
  clear HX6
  go_wp2_with fail
  refine (node_any ⟨#[97, 98]⟩ ⟨#[97]⟩ _ (by decide) (by decide)).mono ?_
  rintro e v7 ⟨x7, rfl, hx, hb⟩
  have HB := Lib.hid (HB.out.trans (hb.mono HB.out.size))
  have HL1 := Lib.hid (HL1.out.keep hb)
  have HL3 := Lib.hid (HL3.out.keep hb)
  have HX7 := Lib.hid hx
  clear hb hx
  unfold El.enc
  dsimp only [El.cells, El.vl, El.vs, El.vt, El.vi]
  have hs : [x7].map El.strip = [nd ⟨#[97, 98]⟩ ⟨#[97]⟩] := by
    simp only [List.map_cons, List.map_nil, HX7.out.strip]
  have HS4 := Lib.hid hs
  have hlit := InS.litAt _ [x7] _ _ rfl rfl (by simp) (by
    intro e he
    simp only [List.mem_cons, List.not_mem_nil, or_false] at he
    rcases he with rfl
    · exact HX7.out.ok)
  have hb := (Below.refl _ v7).alloc (Nat.le_refl _) (Obj.cells (cellsS [x7]).toArray 40)
  have HB := Lib.hid (HB.out.trans (hb.mono HB.out.size))
  have HL1 := Lib.hid (HL1.out.keep hb)
  have HL3 := Lib.hid (HL3.out.keep hb)
  have HX7 := Lib.hid (HX7.out.keep hb)
  have HL4 := Lib.hid hlit
  clear hs hlit hb
  clear HX7
  have HV4 := Lib.hid (show keptV [x6] [x7] = 0 from by rw [← keptV_strip, HS3.out, HS4.out]; exact works4)
  go_wp2_with fail
  refine (kept_v HV4.out HL3.out HL4.out).mono ?_
  rintro e y4 ⟨rfl, hb⟩
  have HB := Lib.hid (HB.out.trans (hb.mono HB.out.size))
  have HL1 := Lib.hid (HL1.out.keep hb)
  have HL3 := Lib.hid (HL3.out.keep hb)
  have HL4 := Lib.hid (HL4.out.keep hb)
  clear hb
  clear HL3 HL4 HV4
  go_wp2_with fail
  refine (settled_v HV5.out HL1.out).mono ?_
  rintro e y5 ⟨rfl, hb⟩
  have HB := Lib.hid (HB.out.trans (hb.mono HB.out.size))
  have HL1 := Lib.hid (HL1.out.keep hb)
  clear hb
  clear HL1 HV5
  go_wp2
  go_ret
  exact ⟨rfl, HB.out⟩
end Go.Proofs.Yteplcpiamocclaa
