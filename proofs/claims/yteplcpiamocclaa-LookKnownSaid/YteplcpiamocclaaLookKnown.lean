/-
  LookKnown, WALKED (printed by wip/gen-lookknown.py).
-/
import Derived.Test.YteplcpiamocclaaKnownP
import Derived.Test.YteplcpiamocclaaCmp
namespace Go.Proofs.Yteplcpiamocclaa
open Go.RowKit Reg Go.ChangeShapes

def tn7 : List (Nat × El) := [(11, nd ⟨#[97, 98]⟩ ⟨#[97, 98]⟩), (17, nd ⟨#[97, 98]⟩ ⟨#[97, 98]⟩), (36, nd ⟨#[97]⟩ ⟨#[97, 98]⟩), (42, nd ⟨#[97, 98]⟩ ⟨#[97, 98, 120]⟩)]
def tl7 : List (Nat × List El) := [(5, [firstS]), (12, [firstS, nd ⟨#[97, 98]⟩ ⟨#[97, 98]⟩]), (18, [nd ⟨#[97, 98]⟩ ⟨#[97, 98]⟩]), (31, [firstS, firstS]), (37, [firstS, nd ⟨#[97]⟩ ⟨#[97, 98]⟩]), (43, [firstS, nd ⟨#[97, 98]⟩ ⟨#[97, 98, 120]⟩]), (49, [firstS, downS])]
def tn17 : List (Nat × El) := [(0, nd ⟨#[97, 98]⟩ ⟨#[97, 98]⟩), (1, nd ⟨#[97]⟩ ⟨#[97, 120]⟩), (2, nd ⟨#[]⟩ ⟨#[120, 121, 122]⟩), (9, nd ⟨#[97, 98]⟩ ⟨#[98, 120]⟩)]
def tl17 : List (Nat × List El) := [(4, [nd ⟨#[97, 98]⟩ ⟨#[97, 98]⟩, nd ⟨#[97]⟩ ⟨#[97, 120]⟩, nd ⟨#[]⟩ ⟨#[120, 121, 122]⟩, downS]), (10, [downS, nd ⟨#[97, 98]⟩ ⟨#[98, 120]⟩])]
def tn21 : List (Nat × El) := [(0, nd ⟨#[]⟩ ⟨#[97, 98, 99]⟩), (2, nd ⟨#[97, 98]⟩ ⟨#[97, 98]⟩), (7, nd ⟨#[]⟩ ⟨#[97, 98]⟩), (9, nd ⟨#[97, 98]⟩ ⟨#[97, 120]⟩), (15, nd ⟨#[]⟩ ⟨#[97, 98]⟩), (18, nd ⟨#[97, 98]⟩ ⟨#[97, 98]⟩), (19, nd ⟨#[97, 98]⟩ ⟨#[]⟩), (20, nd ⟨#[]⟩ ⟨#[]⟩), (26, nd ⟨#[]⟩ ⟨#[]⟩)]
def tl21 : List (Nat × List El) := [(1, [nd ⟨#[]⟩ ⟨#[97, 98, 99]⟩]), (3, [nd ⟨#[97, 98]⟩ ⟨#[97, 98]⟩]), (8, [nd ⟨#[]⟩ ⟨#[97, 98]⟩]), (10, [nd ⟨#[97, 98]⟩ ⟨#[97, 120]⟩]), (17, [nd ⟨#[]⟩ ⟨#[97, 98]⟩, downS]), (21, [nd ⟨#[97, 98]⟩ ⟨#[97, 98]⟩, nd ⟨#[97, 98]⟩ ⟨#[]⟩, nd ⟨#[]⟩ ⟨#[]⟩]), (28, [nd ⟨#[]⟩ ⟨#[]⟩, lateS])]
set_option maxRecDepth 100000 in
set_option maxHeartbeats 16000000 in
theorem law_LookKnown (w : World) : Calls Try.prog 7 #[] w fun e w' => e = .returned (.bool true) ∧ Below w.heap.size w w' := by
  go_enter Try.func7, Try.ntmps7
  go_wp2_with fail
  refine (node_any ⟨#[97, 98]⟩ ⟨#[97, 98, 120]⟩ _ (by decide) (by decide)).mono ?_
  rintro e v1 ⟨x1, rfl, hx, hb⟩
  have HB := Lib.hid hb
  have HX1 := Lib.hid hx
  clear hb hx
  unfold El.enc
  dsimp only [El.cells, El.vl, El.vs, El.vt, El.vi]
  go_wp2_with fail
  refine (node_any ⟨#[97]⟩ ⟨#[97, 98]⟩ _ (by decide) (by decide)).mono ?_
  rintro e v2 ⟨x2, rfl, hx, hb⟩
  have HB := Lib.hid (HB.out.trans (hb.mono HB.out.size))
  have HX1 := Lib.hid (HX1.out.keep hb)
  have HX2 := Lib.hid hx
  clear hb hx
  unfold El.enc
  dsimp only [El.cells, El.vl, El.vs, El.vt, El.vi]
  go_wp2_with fail
  refine (node_any ⟨#[]⟩ ⟨#[97]⟩ _ (by decide) (by decide)).mono ?_
  rintro e v3 ⟨x3, rfl, hx, hb⟩
  have HB := Lib.hid (HB.out.trans (hb.mono HB.out.size))
  have HX1 := Lib.hid (HX1.out.keep hb)
  have HX2 := Lib.hid (HX2.out.keep hb)
  have HX3 := Lib.hid hx
  clear hb hx
  unfold El.enc
  dsimp only [El.cells, El.vl, El.vs, El.vt, El.vi]
  have hs : [x1, x2, x3].map El.strip = [nd ⟨#[97, 98]⟩ ⟨#[97, 98, 120]⟩, nd ⟨#[97]⟩ ⟨#[97, 98]⟩, nd ⟨#[]⟩ ⟨#[97]⟩] := by
    simp only [List.map_cons, List.map_nil, HX1.out.strip, HX2.out.strip, HX3.out.strip]
  have HS1 := Lib.hid hs
  have hlit := InS.litAt _ [x1, x2, x3] _ _ rfl rfl (by simp) (by
    intro e he
    simp only [List.mem_cons, List.not_mem_nil, or_false] at he
    rcases he with rfl | rfl | rfl
    · exact HX1.out.ok
    · exact HX2.out.ok
    · exact HX3.out.ok)
  have hb := (Below.refl _ v3).alloc (Nat.le_refl _) (Obj.cells (cellsS [x1, x2, x3]).toArray 40)
  have HB := Lib.hid (HB.out.trans (hb.mono HB.out.size))
  have HX1 := Lib.hid (HX1.out.keep hb)
  have HX2 := Lib.hid (HX2.out.keep hb)
  have HX3 := Lib.hid (HX3.out.keep hb)
  have HL1 := Lib.hid hlit
  clear hs hlit hb
  clear HX1 HX2 HX3
  go_wp2_with fail
  refine (node_any ⟨#[]⟩ ⟨#[122, 122, 122]⟩ _ (by decide) (by decide)).mono ?_
  rintro e v4 ⟨x4, rfl, hx, hb⟩
  have HB := Lib.hid (HB.out.trans (hb.mono HB.out.size))
  have HL1 := Lib.hid (HL1.out.keep hb)
  have HX4 := Lib.hid hx
  clear hb hx
  unfold El.enc
  dsimp only [El.cells, El.vl, El.vs, El.vt, El.vi]
  have hbd := Blk.new v4 40 (⟨false, x4.prim, x4.ep, x4.bef, x4.leased, x4.line, x4.list, x4.told, x4.la, x4.lc, x4.sa, x4.sc, x4.ta, x4.tc, x4.ia, x4.il, x4.ic⟩ : El).cells
  have hb := (Below.refl v4.heap.size v4).alloc (Nat.le_refl _) (Obj.cells (⟨false, x4.prim, x4.ep, x4.bef, x4.leased, x4.line, x4.list, x4.told, x4.la, x4.lc, x4.sa, x4.sc, x4.ta, x4.tc, x4.ia, x4.il, x4.ic⟩ : El).cells 40)
  have hd : NS (v4.alloc (Obj.cells (⟨false, x4.prim, x4.ep, x4.bef, x4.leased, x4.line, x4.list, x4.told, x4.la, x4.lc, x4.sa, x4.sc, x4.ta, x4.tc, x4.ia, x4.il, x4.ic⟩ : El).cells 40)) (⟨false, x4.prim, x4.ep, x4.bef, x4.leased, x4.line, x4.list, x4.told, x4.la, x4.lc, x4.sa, x4.sc, x4.ta, x4.tc, x4.ia, x4.il, x4.ic⟩ : El) downS := ⟨by
    have h := HX4.out
    unfold El.strip downS
    simp only [h.prim, h.line, h.list, h.told], HX4.out.ok.keep hb⟩
  have HB := Lib.hid (HB.out.trans (hb.mono HB.out.size))
  have HL1 := Lib.hid (HL1.out.keep hb)
  have HX4 := Lib.hid (HX4.out.keep hb)
  have HBD := Lib.hid hbd
  have HD := Lib.hid hd
  clear hbd hb hd
  go_wp2_with fail
  refine (node_any ⟨#[97, 98]⟩ ⟨#[97, 98]⟩ _ (by decide) (by decide)).mono ?_
  rintro e v5 ⟨x5, rfl, hx, hb⟩
  have HB := Lib.hid (HB.out.trans (hb.mono HB.out.size))
  have HL1 := Lib.hid (HL1.out.keep hb)
  have HBD := Lib.hid (HBD.out.keep hb)
  have HD := Lib.hid (HD.out.keep hb)
  have HX5 := Lib.hid hx
  clear hb hx
  unfold El.enc
  dsimp only [El.cells, El.vl, El.vs, El.vt, El.vi]
  obtain ⟨DE, hDE⟩ : ∃ z : El, z = (⟨false, x4.prim, x4.ep, x4.bef, x4.leased, x4.line, x4.list, x4.told, x4.la, x4.lc, x4.sa, x4.sc, x4.ta, x4.tc, x4.ia, x4.il, x4.ic⟩ : El) := ⟨_, rfl⟩
  rw [← hDE] at HBD HD
  clear hDE
  obtain ⟨qd, hqd⟩ : ∃ z, z = v4.heap.size := ⟨_, rfl⟩
  rw [← hqd] at HBD
  rw [← hqd]
  clear hqd HX4
  have hbf := Blk.new v5 40 (⟨x5.up, true, x5.ep, x5.bef, x5.leased, x5.line, x5.list, x5.told, x5.la, x5.lc, x5.sa, x5.sc, x5.ta, x5.tc, x5.ia, x5.il, x5.ic⟩ : El).cells
  have hba := (Below.refl v5.heap.size v5).alloc (Nat.le_refl _) (Obj.cells (⟨x5.up, true, x5.ep, x5.bef, x5.leased, x5.line, x5.list, x5.told, x5.la, x5.lc, x5.sa, x5.sc, x5.ta, x5.tc, x5.ia, x5.il, x5.ic⟩ : El).cells 40)
  have HBF := Lib.hid hbf
  have HBA := Lib.hid hba
  clear hbf hba
  go_wp2_with fail
  refine (names_any ⟨#[98, 97]⟩ _ (by decide)).mono ?_
  rintro e v6 ⟨u, rfl, ho, hb⟩
  obtain ⟨naf, ncf, rfl⟩ := ho.rd.slice_
  have hbf2 := HBF.out.keep hb
  obtain ⟨qf, hqf⟩ : ∃ z, z = v5.heap.size := ⟨_, rfl⟩
  have hsz : v5.heap.size + 1 ≤ (v5.alloc (Obj.cells (⟨x5.up, true, x5.ep, x5.bef, x5.leased, x5.line, x5.list, x5.told, x5.la, x5.lc, x5.sa, x5.sc, x5.ta, x5.tc, x5.ia, x5.il, x5.ic⟩ : El).cells 40)).heap.size := by simp
  have ho2 := ho.mono hsz
  have hb2 := HBA.out.trans (hb.mono HBA.out.size)
  rw [← hqf] at hbf2 ho2
  rw [← hqf]
  have hfz := hbf2.frozen 7
  have hc7 := hbf2.cell 7
  simp [El.cells] at hc7
  dsimp only [El.vt] at hc7
  have HQ := Lib.hid (show v5.heap.size ≤ qf from by omega)
  have hb := hb2.setCell (p := ⟨qf, 7, none⟩) HQ.out (.slice naf (namesG ⟨#[98, 97]⟩).length ncf)
  have hfb : Blk (v6.setCell ⟨qf, 7, none⟩ (.slice naf (namesG ⟨#[98, 97]⟩).length ncf)) qf 40 (⟨x5.up, true, x5.ep, x5.bef, x5.leased, x5.line, x5.list, namesG ⟨#[98, 97]⟩, x5.la, x5.lc, x5.sa, x5.sc, naf, ncf, x5.ia, x5.il, x5.ic⟩ : El).cells := hbf2.set 7 (.slice naf (namesG ⟨#[98, 97]⟩).length ncf)
  have hfn : NS (v6.setCell ⟨qf, 7, none⟩ (.slice naf (namesG ⟨#[98, 97]⟩).length ncf)) (⟨x5.up, true, x5.ep, x5.bef, x5.leased, x5.line, x5.list, namesG ⟨#[98, 97]⟩, x5.la, x5.lc, x5.sa, x5.sc, naf, ncf, x5.ia, x5.il, x5.ic⟩ : El) firstS := ⟨by
    have h := HX5.out
    unfold El.strip firstS
    simp only [h.up, h.line, h.list], (HX5.out.ok.keep hb).1, (HX5.out.ok.keep hb).2.1, (ho2.above (fun y hy => setCell_other _ _ y (by simp; omega))).rd⟩
  have HB := Lib.hid (HB.out.trans (hb.mono HB.out.size))
  have HL1 := Lib.hid (HL1.out.keep hb)
  have HBD := Lib.hid (HBD.out.keep hb)
  have HD := Lib.hid (HD.out.keep hb)
  have HX5 := Lib.hid (HX5.out.keep hb)
  have HFB := Lib.hid hfb
  have HFN := Lib.hid hfn
  clear hqf hb hb2 hbf2 ho ho2 hfb hfn hsz HBF HBA HQ
  go_wp2_with fail
  generalize v6.setCell ⟨qf, 7, none⟩ (.slice naf (namesG ⟨#[98, 97]⟩).length ncf) = w7 at *
  obtain ⟨FE, hFE⟩ : ∃ z : El, z = (⟨x5.up, true, x5.ep, x5.bef, x5.leased, x5.line, x5.list, namesG ⟨#[98, 97]⟩, x5.la, x5.lc, x5.sa, x5.sc, naf, ncf, x5.ia, x5.il, x5.ic⟩ : El) := ⟨_, rfl⟩
  rw [← hFE] at HFB HFN
  clear hFE hfz hc7 HX5
  have HF9 := Lib.hid (show SeenAt _ qf 0 FE from ⟨HFB.out.cell 0, HFB.out.cell 1, HFB.out.cell 2, HFB.out.cell 3, HFB.out.cell 4, HFB.out.cell 5, HFB.out.cell 6, HFB.out.cell 7, HFB.out.cell 8⟩)
  have HD9 := Lib.hid (show SeenAt _ qd 0 DE from ⟨HBD.out.cell 0, HBD.out.cell 1, HBD.out.cell 2, HBD.out.cell 3, HBD.out.cell 4, HBD.out.cell 5, HBD.out.cell 6, HBD.out.cell 7, HBD.out.cell 8⟩)
  clear HFB HBD
  refine wp_region_spec (fun i => i == 1 || i == 5 || i == 6 || i == 11 || i == 12 || i == 13 || i == 17 || i == 18 || i == 19 || i == 22 || i == 25 || i == 31 || i == 32 || i == 36 || i == 37 || i == 38 || i == 42 || i == 43 || i == 44 || i == 49 || i == 50) (kinds [(1, .is (.int .i64 (-1))), (6, .is (.int .i64 (-1))), (13, .is (.bool true)), (19, .is (.bool false)), (22, .is (.bool false)), (25, .is (.bool true)), (32, .is (.bool false)), (38, .is (.bool false)), (44, .is (.bool false)), (50, .is (.bool false))]) (CF w7 (FT tn7 tl7)) (by kernel_rfl) (by kernel_rfl) (kinds_inh _) CF.start ?_
  intro ν hν
  have n1 : ν 1 = .int .i64 (-1) := hν 1
  have n6 : ν 6 = .int .i64 (-1) := hν 6
  have n13 : ν 13 = .bool true := hν 13
  have n19 : ν 19 = .bool false := hν 19
  have n22 : ν 22 = .bool false := hν 22
  have n25 : ν 25 = .bool true := hν 25
  have n32 : ν 32 = .bool false := hν 32
  have n38 : ν 38 = .bool false := hν 38
  have n44 : ν 44 = .bool false := hν 44
  have n50 : ν 50 = .bool false := hν 50
  clear hν
  refine lex_plain (by rfl) rfl ?_
  apply Exists.intro
  refine ⟨fun σ w2 hA hD hC => ?_, ?_⟩
  · clear hA hD hC
    go_simp
    exact And.intro rfl rfl
  simp only [Act.put, List.setIfInBounds_toArray, List.set_cons_succ, List.set_cons_zero, Nat.reduceAdd]
  refine lex_special (by rfl) rfl (fun σ w2 hA hD hn hC => ?_) ?_
  · go_simp
    refine call_ok FT.stable hC ((told_v (by rewrite [← toldV_strip, HS1.out]; exact known_k1) (HL1.out.keep hC.1)).mono ?_)
    rintro e' w' ⟨rfl, hb⟩
    exact ⟨_, rfl, rfl, FT.val rfl rfl, hb⟩
  rw [n1]
  simp only [Act.put, List.setIfInBounds_toArray, List.set_cons_succ, List.set_cons_zero, Nat.reduceAdd]
  refine lex_plain (by rfl) rfl ?_
  apply Exists.intro
  refine ⟨fun σ w2 hA hD hC => ?_, ?_⟩
  · clear hA hD hC
    go_simp
    exact And.intro rfl rfl
  simp only [Act.put, List.setIfInBounds_toArray, List.set_cons_succ, List.set_cons_zero, Nat.reduceAdd]
  refine lex_plain (by rfl) rfl ?_
  apply Exists.intro
  refine ⟨fun σ w2 hA hD hC => ?_, ?_⟩
  · clear hA hD hC
    go_simp
    exact And.intro rfl rfl
  simp only [Act.put, List.setIfInBounds_toArray, List.set_cons_succ, List.set_cons_zero, Nat.reduceAdd]
  refine lex_plain (by rfl) rfl ?_
  apply Exists.intro
  refine ⟨fun σ w2 hA hD hC => ?_, ?_⟩
  · obtain ⟨z0, z1, z2, z3, z4, z5, z6, z7, z8⟩ := HF9.out.keep hC.1
    simp only [Nat.zero_add] at z0 z1 z2 z3 z4 z5 z6 z7 z8
    dsimp only [El.vl, El.vs, El.vt, El.vi] at z5 z6 z7 z8
    clear hA hD hC
    go_simp
    exact And.intro rfl rfl
  simp only [Act.put, List.setIfInBounds_toArray, List.set_cons_succ, List.set_cons_zero, Nat.reduceAdd]
  refine lex_special (by rfl) rfl (fun σ w2 hA hD hn hC => ?_) ?_
  · go_simp
    have hlit := InS.litAt w2 [FE] _ _ rfl rfl (by simp) (by
      intro e he
      simp only [List.mem_cons, List.not_mem_nil, or_false] at he
      subst he
      exact (HFN.out.ok.keep hC.1))
    exact value_ok FT.stable hC ((Below.refl _ _).alloc (Nat.le_refl _) _) trivial (FT.lit rfl rfl hlit (by simp only [List.map_cons, List.map_nil, HFN.out.strip]))
  simp only [Act.put, List.setIfInBounds_toArray, List.set_cons_succ, List.set_cons_zero, Nat.reduceAdd]
  refine lex_special (by rfl) rfl (fun σ w2 hA hD hn hC => ?_) ?_
  · have e5 := got1 hA hD 5 rfl (by kernel_rfl)
    obtain ⟨es5, hin5, hst5⟩ := (hC.2 5 _ e5).2 _ rfl
    go_simp
    refine call_ok FT.stable hC ((told_v (by rewrite [← toldV_strip, hst5]; exact known_k2) hin5).mono ?_)
    rintro e' w' ⟨rfl, hb⟩
    exact ⟨_, rfl, rfl, FT.val rfl rfl, hb⟩
  rw [n6]
  simp only [Act.put, List.setIfInBounds_toArray, List.set_cons_succ, List.set_cons_zero, Nat.reduceAdd]
  refine lex_plain (by rfl) rfl ?_
  apply Exists.intro
  refine ⟨fun σ w2 hA hD hC => ?_, ?_⟩
  · clear hA hD hC
    go_simp
    exact And.intro rfl rfl
  simp only [Act.put, List.setIfInBounds_toArray, List.set_cons_succ, List.set_cons_zero, Nat.reduceAdd]
  refine lex_plain (by rfl) rfl ?_
  apply Exists.intro
  refine ⟨fun σ w2 hA hD hC => ?_, ?_⟩
  · clear hA hD hC
    go_simp
    exact And.intro rfl rfl
  simp only [Act.put, List.setIfInBounds_toArray, List.set_cons_succ, List.set_cons_zero, Nat.reduceAdd]
  refine lex_plain (by rfl) rfl ?_
  apply Exists.intro
  refine ⟨fun σ w2 hA hD hC => ?_, ?_⟩
  · clear hA hD hC
    go_simp
    exact And.intro rfl rfl
  simp only [Act.put, List.setIfInBounds_toArray, List.set_cons_succ, List.set_cons_zero, Nat.reduceAdd]
  refine lex_plain (by rfl) rfl ?_
  apply Exists.intro
  refine ⟨fun σ w2 hA hD hC => ?_, ?_⟩
  · obtain ⟨z0, z1, z2, z3, z4, z5, z6, z7, z8⟩ := HF9.out.keep hC.1
    simp only [Nat.zero_add] at z0 z1 z2 z3 z4 z5 z6 z7 z8
    dsimp only [El.vl, El.vs, El.vt, El.vi] at z5 z6 z7 z8
    clear hA hD hC
    go_simp
    exact And.intro rfl rfl
  simp only [Act.put, List.setIfInBounds_toArray, List.set_cons_succ, List.set_cons_zero, Nat.reduceAdd]
  refine lex_special (by rfl) rfl (fun σ w2 hA hD hn hC => ?_) ?_
  · go_simp
    refine call_ok FT.stable hC ((node_any ⟨#[97, 98]⟩ ⟨#[97, 98]⟩ w2 (by decide) (by decide)).mono ?_)
    rintro e' w' ⟨x, rfl, hx, hb⟩
    exact ⟨_, rfl, trivial, FT.node rfl rfl hx.ns, hb⟩
  simp only [Act.put, List.setIfInBounds_toArray, List.set_cons_succ, List.set_cons_zero, Nat.reduceAdd]
  refine lex_special (by rfl) rfl (fun σ w2 hA hD hn hC => ?_) ?_
  · have e11 := got1 hA hD 11 rfl (by kernel_rfl)
    obtain ⟨x11, q11, hx11⟩ := (hC.2 11 _ e11).1 _ rfl
    rw [q11]
    unfold El.enc
    dsimp only [El.cells, El.vl, El.vs, El.vt, El.vi]
    go_simp
    have hlit := InS.litAt w2 [FE, x11] _ _ rfl rfl (by simp) (by
      intro e he
      simp only [List.mem_cons, List.not_mem_nil, or_false] at he
      rcases he with rfl | rfl
      · exact (HFN.out.ok.keep hC.1)
      · exact hx11.ok)
    exact value_ok FT.stable hC ((Below.refl _ _).alloc (Nat.le_refl _) _) trivial (FT.lit rfl rfl hlit (by simp only [List.map_cons, List.map_nil, HFN.out.strip, hx11.strip]))
  simp only [Act.put, List.setIfInBounds_toArray, List.set_cons_succ, List.set_cons_zero, Nat.reduceAdd]
  refine lex_special (by rfl) rfl (fun σ w2 hA hD hn hC => ?_) ?_
  · have e12 := got1 hA hD 12 rfl (by kernel_rfl)
    obtain ⟨es12, hin12, hst12⟩ := (hC.2 12 _ e12).2 _ rfl
    go_simp
    refine call_ok FT.stable hC ((settled_v (by rewrite [← settledB_strip, hst12]; exact known_k3) hin12).mono ?_)
    rintro e' w' ⟨rfl, hb⟩
    exact ⟨_, rfl, rfl, FT.val rfl rfl, hb⟩
  rw [n13]
  simp only [Act.put, List.setIfInBounds_toArray, List.set_cons_succ, List.set_cons_zero, Nat.reduceAdd]
  refine lex_plain (by rfl) rfl ?_
  apply Exists.intro
  refine ⟨fun σ w2 hA hD hC => ?_, ?_⟩
  · clear hA hD hC
    go_simp
    exact And.intro rfl rfl
  simp only [Act.put, List.setIfInBounds_toArray, List.set_cons_succ, List.set_cons_zero, Nat.reduceAdd]
  refine lex_plain (by rfl) rfl ?_
  apply Exists.intro
  refine ⟨fun σ w2 hA hD hC => ?_, ?_⟩
  · clear hA hD hC
    go_simp
    exact And.intro rfl rfl
  simp only [Act.put, List.setIfInBounds_toArray, List.set_cons_succ, List.set_cons_zero, Nat.reduceAdd]
  refine lex_plain (by rfl) rfl ?_
  apply Exists.intro
  refine ⟨fun σ w2 hA hD hC => ?_, ?_⟩
  · clear hA hD hC
    go_simp
    exact And.intro rfl rfl
  simp only [Act.put, List.setIfInBounds_toArray, List.set_cons_succ, List.set_cons_zero, Nat.reduceAdd]
  refine lex_special (by rfl) rfl (fun σ w2 hA hD hn hC => ?_) ?_
  · go_simp
    refine call_ok FT.stable hC ((node_any ⟨#[97, 98]⟩ ⟨#[97, 98]⟩ w2 (by decide) (by decide)).mono ?_)
    rintro e' w' ⟨x, rfl, hx, hb⟩
    exact ⟨_, rfl, trivial, FT.node rfl rfl hx.ns, hb⟩
  simp only [Act.put, List.setIfInBounds_toArray, List.set_cons_succ, List.set_cons_zero, Nat.reduceAdd]
  refine lex_special (by rfl) rfl (fun σ w2 hA hD hn hC => ?_) ?_
  · have e17 := got1 hA hD 17 rfl (by kernel_rfl)
    obtain ⟨x17, q17, hx17⟩ := (hC.2 17 _ e17).1 _ rfl
    rw [q17]
    unfold El.enc
    dsimp only [El.cells, El.vl, El.vs, El.vt, El.vi]
    go_simp
    have hlit := InS.litAt w2 [x17] _ _ rfl rfl (by simp) (by
      intro e he
      simp only [List.mem_cons, List.not_mem_nil, or_false] at he
      subst he
      exact hx17.ok)
    exact value_ok FT.stable hC ((Below.refl _ _).alloc (Nat.le_refl _) _) trivial (FT.lit rfl rfl hlit (by simp only [List.map_cons, List.map_nil, hx17.strip]))
  simp only [Act.put, List.setIfInBounds_toArray, List.set_cons_succ, List.set_cons_zero, Nat.reduceAdd]
  refine lex_special (by rfl) rfl (fun σ w2 hA hD hn hC => ?_) ?_
  · have e18 := got1 hA hD 18 rfl (by kernel_rfl)
    obtain ⟨es18, hin18, hst18⟩ := (hC.2 18 _ e18).2 _ rfl
    go_simp
    refine call_ok FT.stable hC ((settled_v (by rewrite [← settledB_strip, hst18]; exact known_k4) hin18).mono ?_)
    rintro e' w' ⟨rfl, hb⟩
    exact ⟨_, rfl, rfl, FT.val rfl rfl, hb⟩
  rw [n19]
  simp only [Act.put, List.setIfInBounds_toArray, List.set_cons_succ, List.set_cons_zero, Nat.reduceAdd]
  refine lex_plain (by rfl) rfl ?_
  apply Exists.intro
  refine ⟨fun σ w2 hA hD hC => ?_, ?_⟩
  · clear hA hD hC
    go_simp
    exact And.intro rfl rfl
  simp only [Act.put, List.setIfInBounds_toArray, List.set_cons_succ, List.set_cons_zero, Nat.reduceAdd]
  refine lex_plain (by rfl) rfl ?_
  apply Exists.intro
  refine ⟨fun σ w2 hA hD hC => ?_, ?_⟩
  · clear hA hD hC
    go_simp
    exact And.intro rfl rfl
  simp only [Act.put, List.setIfInBounds_toArray, List.set_cons_succ, List.set_cons_zero, Nat.reduceAdd]
  refine lex_special (by rfl) rfl (fun σ w2 hA hD hn hC => ?_) ?_
  · go_simp
    refine call_ok FT.stable hC ((settled_v known_k5 (InS.nil_ _)).mono ?_)
    rintro e' w' ⟨rfl, hb⟩
    exact ⟨_, rfl, rfl, FT.val rfl rfl, hb⟩
  rw [n22]
  simp only [Act.put, List.setIfInBounds_toArray, List.set_cons_succ, List.set_cons_zero, Nat.reduceAdd]
  refine lex_plain (by rfl) rfl ?_
  apply Exists.intro
  refine ⟨fun σ w2 hA hD hC => ?_, ?_⟩
  · clear hA hD hC
    go_simp
    exact And.intro rfl rfl
  simp only [Act.put, List.setIfInBounds_toArray, List.set_cons_succ, List.set_cons_zero, Nat.reduceAdd]
  refine lex_plain (by rfl) rfl ?_
  apply Exists.intro
  refine ⟨fun σ w2 hA hD hC => ?_, ?_⟩
  · clear hA hD hC
    go_simp
    exact And.intro rfl rfl
  simp only [Act.put, List.setIfInBounds_toArray, List.set_cons_succ, List.set_cons_zero, Nat.reduceAdd]
  refine lex_special (by rfl) rfl (fun σ w2 hA hD hn hC => ?_) ?_
  · go_simp
    refine call_ok FT.stable hC ((one_v known_k6 (InS.nil_ _)).mono ?_)
    rintro e' w' ⟨rfl, hb⟩
    exact ⟨_, rfl, rfl, FT.val rfl rfl, hb⟩
  rw [n25]
  simp only [Act.put, List.setIfInBounds_toArray, List.set_cons_succ, List.set_cons_zero, Nat.reduceAdd]
  refine lex_plain (by rfl) rfl ?_
  apply Exists.intro
  refine ⟨fun σ w2 hA hD hC => ?_, ?_⟩
  · clear hA hD hC
    go_simp
    exact And.intro rfl rfl
  simp only [Act.put, List.setIfInBounds_toArray, List.set_cons_succ, List.set_cons_zero, Nat.reduceAdd]
  refine lex_plain (by rfl) rfl ?_
  apply Exists.intro
  refine ⟨fun σ w2 hA hD hC => ?_, ?_⟩
  · clear hA hD hC
    go_simp
    exact And.intro rfl rfl
  simp only [Act.put, List.setIfInBounds_toArray, List.set_cons_succ, List.set_cons_zero, Nat.reduceAdd]
  refine lex_plain (by rfl) rfl ?_
  apply Exists.intro
  refine ⟨fun σ w2 hA hD hC => ?_, ?_⟩
  · clear hA hD hC
    go_simp
    exact And.intro rfl rfl
  simp only [Act.put, List.setIfInBounds_toArray, List.set_cons_succ, List.set_cons_zero, Nat.reduceAdd]
  refine lex_plain (by rfl) rfl ?_
  apply Exists.intro
  refine ⟨fun σ w2 hA hD hC => ?_, ?_⟩
  · obtain ⟨z0, z1, z2, z3, z4, z5, z6, z7, z8⟩ := HF9.out.keep hC.1
    simp only [Nat.zero_add] at z0 z1 z2 z3 z4 z5 z6 z7 z8
    dsimp only [El.vl, El.vs, El.vt, El.vi] at z5 z6 z7 z8
    clear hA hD hC
    go_simp
    exact And.intro rfl rfl
  simp only [Act.put, List.setIfInBounds_toArray, List.set_cons_succ, List.set_cons_zero, Nat.reduceAdd]
  refine lex_plain (by rfl) rfl ?_
  apply Exists.intro
  refine ⟨fun σ w2 hA hD hC => ?_, ?_⟩
  · obtain ⟨z0, z1, z2, z3, z4, z5, z6, z7, z8⟩ := HF9.out.keep hC.1
    simp only [Nat.zero_add] at z0 z1 z2 z3 z4 z5 z6 z7 z8
    dsimp only [El.vl, El.vs, El.vt, El.vi] at z5 z6 z7 z8
    clear hA hD hC
    go_simp
    exact And.intro rfl rfl
  simp only [Act.put, List.setIfInBounds_toArray, List.set_cons_succ, List.set_cons_zero, Nat.reduceAdd]
  refine lex_special (by rfl) rfl (fun σ w2 hA hD hn hC => ?_) ?_
  · go_simp
    have hlit := InS.litAt w2 [FE, FE] _ _ rfl rfl (by simp) (by
      intro e he
      simp only [List.mem_cons, List.not_mem_nil, or_false, or_self] at he
      subst he
      exact (HFN.out.ok.keep hC.1))
    exact value_ok FT.stable hC ((Below.refl _ _).alloc (Nat.le_refl _) _) trivial (FT.lit rfl rfl hlit (by simp only [List.map_cons, List.map_nil, HFN.out.strip]))
  simp only [Act.put, List.setIfInBounds_toArray, List.set_cons_succ, List.set_cons_zero, Nat.reduceAdd]
  refine lex_special (by rfl) rfl (fun σ w2 hA hD hn hC => ?_) ?_
  · have e31 := got1 hA hD 31 rfl (by kernel_rfl)
    obtain ⟨es31, hin31, hst31⟩ := (hC.2 31 _ e31).2 _ rfl
    go_simp
    refine call_ok FT.stable hC ((one_v (by rewrite [← prims_strip, hst31]; exact known_k7) hin31).mono ?_)
    rintro e' w' ⟨rfl, hb⟩
    exact ⟨_, rfl, rfl, FT.val rfl rfl, hb⟩
  rw [n32]
  simp only [Act.put, List.setIfInBounds_toArray, List.set_cons_succ, List.set_cons_zero, Nat.reduceAdd]
  refine lex_plain (by rfl) rfl ?_
  apply Exists.intro
  refine ⟨fun σ w2 hA hD hC => ?_, ?_⟩
  · clear hA hD hC
    go_simp
    exact And.intro rfl rfl
  simp only [Act.put, List.setIfInBounds_toArray, List.set_cons_succ, List.set_cons_zero, Nat.reduceAdd]
  refine lex_plain (by rfl) rfl ?_
  apply Exists.intro
  refine ⟨fun σ w2 hA hD hC => ?_, ?_⟩
  · clear hA hD hC
    go_simp
    exact And.intro rfl rfl
  simp only [Act.put, List.setIfInBounds_toArray, List.set_cons_succ, List.set_cons_zero, Nat.reduceAdd]
  refine lex_plain (by rfl) rfl ?_
  apply Exists.intro
  refine ⟨fun σ w2 hA hD hC => ?_, ?_⟩
  · obtain ⟨z0, z1, z2, z3, z4, z5, z6, z7, z8⟩ := HF9.out.keep hC.1
    simp only [Nat.zero_add] at z0 z1 z2 z3 z4 z5 z6 z7 z8
    dsimp only [El.vl, El.vs, El.vt, El.vi] at z5 z6 z7 z8
    clear hA hD hC
    go_simp
    exact And.intro rfl rfl
  simp only [Act.put, List.setIfInBounds_toArray, List.set_cons_succ, List.set_cons_zero, Nat.reduceAdd]
  refine lex_special (by rfl) rfl (fun σ w2 hA hD hn hC => ?_) ?_
  · go_simp
    refine call_ok FT.stable hC ((node_any ⟨#[97]⟩ ⟨#[97, 98]⟩ w2 (by decide) (by decide)).mono ?_)
    rintro e' w' ⟨x, rfl, hx, hb⟩
    exact ⟨_, rfl, trivial, FT.node rfl rfl hx.ns, hb⟩
  simp only [Act.put, List.setIfInBounds_toArray, List.set_cons_succ, List.set_cons_zero, Nat.reduceAdd]
  refine lex_special (by rfl) rfl (fun σ w2 hA hD hn hC => ?_) ?_
  · have e36 := got1 hA hD 36 rfl (by kernel_rfl)
    obtain ⟨x36, q36, hx36⟩ := (hC.2 36 _ e36).1 _ rfl
    rw [q36]
    unfold El.enc
    dsimp only [El.cells, El.vl, El.vs, El.vt, El.vi]
    go_simp
    have hlit := InS.litAt w2 [FE, x36] _ _ rfl rfl (by simp) (by
      intro e he
      simp only [List.mem_cons, List.not_mem_nil, or_false] at he
      rcases he with rfl | rfl
      · exact (HFN.out.ok.keep hC.1)
      · exact hx36.ok)
    exact value_ok FT.stable hC ((Below.refl _ _).alloc (Nat.le_refl _) _) trivial (FT.lit rfl rfl hlit (by simp only [List.map_cons, List.map_nil, HFN.out.strip, hx36.strip]))
  simp only [Act.put, List.setIfInBounds_toArray, List.set_cons_succ, List.set_cons_zero, Nat.reduceAdd]
  refine lex_special (by rfl) rfl (fun σ w2 hA hD hn hC => ?_) ?_
  · have e37 := got1 hA hD 37 rfl (by kernel_rfl)
    obtain ⟨es37, hin37, hst37⟩ := (hC.2 37 _ e37).2 _ rfl
    go_simp
    refine call_ok FT.stable hC ((settled_v (by rewrite [← settledB_strip, hst37]; exact known_k8) hin37).mono ?_)
    rintro e' w' ⟨rfl, hb⟩
    exact ⟨_, rfl, rfl, FT.val rfl rfl, hb⟩
  rw [n38]
  simp only [Act.put, List.setIfInBounds_toArray, List.set_cons_succ, List.set_cons_zero, Nat.reduceAdd]
  refine lex_plain (by rfl) rfl ?_
  apply Exists.intro
  refine ⟨fun σ w2 hA hD hC => ?_, ?_⟩
  · clear hA hD hC
    go_simp
    exact And.intro rfl rfl
  simp only [Act.put, List.setIfInBounds_toArray, List.set_cons_succ, List.set_cons_zero, Nat.reduceAdd]
  refine lex_plain (by rfl) rfl ?_
  apply Exists.intro
  refine ⟨fun σ w2 hA hD hC => ?_, ?_⟩
  · clear hA hD hC
    go_simp
    exact And.intro rfl rfl
  simp only [Act.put, List.setIfInBounds_toArray, List.set_cons_succ, List.set_cons_zero, Nat.reduceAdd]
  refine lex_plain (by rfl) rfl ?_
  apply Exists.intro
  refine ⟨fun σ w2 hA hD hC => ?_, ?_⟩
  · obtain ⟨z0, z1, z2, z3, z4, z5, z6, z7, z8⟩ := HF9.out.keep hC.1
    simp only [Nat.zero_add] at z0 z1 z2 z3 z4 z5 z6 z7 z8
    dsimp only [El.vl, El.vs, El.vt, El.vi] at z5 z6 z7 z8
    clear hA hD hC
    go_simp
    exact And.intro rfl rfl
  simp only [Act.put, List.setIfInBounds_toArray, List.set_cons_succ, List.set_cons_zero, Nat.reduceAdd]
  refine lex_special (by rfl) rfl (fun σ w2 hA hD hn hC => ?_) ?_
  · go_simp
    refine call_ok FT.stable hC ((node_any ⟨#[97, 98]⟩ ⟨#[97, 98, 120]⟩ w2 (by decide) (by decide)).mono ?_)
    rintro e' w' ⟨x, rfl, hx, hb⟩
    exact ⟨_, rfl, trivial, FT.node rfl rfl hx.ns, hb⟩
  simp only [Act.put, List.setIfInBounds_toArray, List.set_cons_succ, List.set_cons_zero, Nat.reduceAdd]
  refine lex_special (by rfl) rfl (fun σ w2 hA hD hn hC => ?_) ?_
  · have e42 := got1 hA hD 42 rfl (by kernel_rfl)
    obtain ⟨x42, q42, hx42⟩ := (hC.2 42 _ e42).1 _ rfl
    rw [q42]
    unfold El.enc
    dsimp only [El.cells, El.vl, El.vs, El.vt, El.vi]
    go_simp
    have hlit := InS.litAt w2 [FE, x42] _ _ rfl rfl (by simp) (by
      intro e he
      simp only [List.mem_cons, List.not_mem_nil, or_false] at he
      rcases he with rfl | rfl
      · exact (HFN.out.ok.keep hC.1)
      · exact hx42.ok)
    exact value_ok FT.stable hC ((Below.refl _ _).alloc (Nat.le_refl _) _) trivial (FT.lit rfl rfl hlit (by simp only [List.map_cons, List.map_nil, HFN.out.strip, hx42.strip]))
  simp only [Act.put, List.setIfInBounds_toArray, List.set_cons_succ, List.set_cons_zero, Nat.reduceAdd]
  refine lex_special (by rfl) rfl (fun σ w2 hA hD hn hC => ?_) ?_
  · have e43 := got1 hA hD 43 rfl (by kernel_rfl)
    obtain ⟨es43, hin43, hst43⟩ := (hC.2 43 _ e43).2 _ rfl
    go_simp
    refine call_ok FT.stable hC ((settled_v (by rewrite [← settledB_strip, hst43]; exact known_k9) hin43).mono ?_)
    rintro e' w' ⟨rfl, hb⟩
    exact ⟨_, rfl, rfl, FT.val rfl rfl, hb⟩
  rw [n44]
  simp only [Act.put, List.setIfInBounds_toArray, List.set_cons_succ, List.set_cons_zero, Nat.reduceAdd]
  refine lex_plain (by rfl) rfl ?_
  apply Exists.intro
  refine ⟨fun σ w2 hA hD hC => ?_, ?_⟩
  · clear hA hD hC
    go_simp
    exact And.intro rfl rfl
  simp only [Act.put, List.setIfInBounds_toArray, List.set_cons_succ, List.set_cons_zero, Nat.reduceAdd]
  refine lex_plain (by rfl) rfl ?_
  apply Exists.intro
  refine ⟨fun σ w2 hA hD hC => ?_, ?_⟩
  · clear hA hD hC
    go_simp
    exact And.intro rfl rfl
  simp only [Act.put, List.setIfInBounds_toArray, List.set_cons_succ, List.set_cons_zero, Nat.reduceAdd]
  refine lex_plain (by rfl) rfl ?_
  apply Exists.intro
  refine ⟨fun σ w2 hA hD hC => ?_, ?_⟩
  · obtain ⟨z0, z1, z2, z3, z4, z5, z6, z7, z8⟩ := HF9.out.keep hC.1
    simp only [Nat.zero_add] at z0 z1 z2 z3 z4 z5 z6 z7 z8
    dsimp only [El.vl, El.vs, El.vt, El.vi] at z5 z6 z7 z8
    clear hA hD hC
    go_simp
    exact And.intro rfl rfl
  simp only [Act.put, List.setIfInBounds_toArray, List.set_cons_succ, List.set_cons_zero, Nat.reduceAdd]
  refine lex_plain (by rfl) rfl ?_
  apply Exists.intro
  refine ⟨fun σ w2 hA hD hC => ?_, ?_⟩
  · obtain ⟨z0, z1, z2, z3, z4, z5, z6, z7, z8⟩ := HD9.out.keep hC.1
    simp only [Nat.zero_add] at z0 z1 z2 z3 z4 z5 z6 z7 z8
    dsimp only [El.vl, El.vs, El.vt, El.vi] at z5 z6 z7 z8
    clear hA hD hC
    go_simp
    exact And.intro rfl rfl
  simp only [Act.put, List.setIfInBounds_toArray, List.set_cons_succ, List.set_cons_zero, Nat.reduceAdd]
  refine lex_special (by rfl) rfl (fun σ w2 hA hD hn hC => ?_) ?_
  · go_simp
    have hlit := InS.litAt w2 [FE, DE] _ _ rfl rfl (by simp) (by
      intro e he
      simp only [List.mem_cons, List.not_mem_nil, or_false] at he
      rcases he with rfl | rfl
      · exact (HFN.out.ok.keep hC.1)
      · exact (HD.out.ok.keep hC.1))
    exact value_ok FT.stable hC ((Below.refl _ _).alloc (Nat.le_refl _) _) trivial (FT.lit rfl rfl hlit (by simp only [List.map_cons, List.map_nil, HFN.out.strip, HD.out.strip]))
  simp only [Act.put, List.setIfInBounds_toArray, List.set_cons_succ, List.set_cons_zero, Nat.reduceAdd]
  refine lex_special (by rfl) rfl (fun σ w2 hA hD hn hC => ?_) ?_
  · have e49 := got1 hA hD 49 rfl (by kernel_rfl)
    obtain ⟨es49, hin49, hst49⟩ := (hC.2 49 _ e49).2 _ rfl
    go_simp
    refine call_ok FT.stable hC ((settled_v (by rewrite [← settledB_strip, hst49]; exact known_k10) hin49).mono ?_)
    rintro e' w' ⟨rfl, hb⟩
    exact ⟨_, rfl, rfl, FT.val rfl rfl, hb⟩
  rw [n50]
  simp only [Act.put, List.setIfInBounds_toArray, List.set_cons_succ, List.set_cons_zero, Nat.reduceAdd]
  refine lex_plain (by rfl) rfl ?_
  apply Exists.intro
  refine ⟨fun σ w2 hA hD hC => ?_, ?_⟩
  · clear hA hD hC
    go_simp
    exact And.intro rfl rfl
  simp only [Act.put, List.setIfInBounds_toArray, List.set_cons_succ, List.set_cons_zero, Nat.reduceAdd]
  refine lex_nil (fun σ w8 hA hall hC => ?_)
  have hb := hC.1
  clear hA hall hC n1 n6 n13 n19 n22 n25 n32 n38 n44 n50
  have HB := Lib.hid (HB.out.trans (hb.mono HB.out.size))
  have HL1 := Lib.hid (HL1.out.keep hb)
  have HD9 := Lib.hid (HD9.out.keep hb)
  have HD := Lib.hid (HD.out.keep hb)
  clear hb HL1 HS1 HF9 HFN
  go_wp2_with fail
  refine (node_any ⟨#[97, 98]⟩ ⟨#[]⟩ _ (by decide) (by decide)).mono ?_
  rintro e v11 ⟨x11, rfl, hx, hb⟩
  have HB := Lib.hid (HB.out.trans (hb.mono HB.out.size))
  have HD9 := Lib.hid (HD9.out.keep hb)
  have HD := Lib.hid (HD.out.keep hb)
  have HX11 := Lib.hid hx
  clear hb hx
  unfold El.enc
  dsimp only [El.cells, El.vl, El.vs, El.vt, El.vi]
  have hs : [x11].map El.strip = [nd ⟨#[97, 98]⟩ ⟨#[]⟩] := by
    simp only [List.map_cons, List.map_nil, HX11.out.strip]
  have HS2 := Lib.hid hs
  have hlit := InS.litAt _ [x11] _ _ rfl rfl (by simp) (by
    intro e he
    simp only [List.mem_cons, List.not_mem_nil, or_false] at he
    rcases he with rfl
    · exact HX11.out.ok)
  have hb := (Below.refl _ v11).alloc (Nat.le_refl _) (Obj.cells (cellsS [x11]).toArray 40)
  have HB := Lib.hid (HB.out.trans (hb.mono HB.out.size))
  have HD9 := Lib.hid (HD9.out.keep hb)
  have HD := Lib.hid (HD.out.keep hb)
  have HX11 := Lib.hid (HX11.out.keep hb)
  have HL2 := Lib.hid hlit
  clear hs hlit hb
  clear HX11
  go_wp2_with fail
  refine (node_any ⟨#[97, 120]⟩ ⟨#[97, 120]⟩ _ (by decide) (by decide)).mono ?_
  rintro e v12 ⟨x12, rfl, hx, hb⟩
  have HB := Lib.hid (HB.out.trans (hb.mono HB.out.size))
  have HD9 := Lib.hid (HD9.out.keep hb)
  have HD := Lib.hid (HD.out.keep hb)
  have HL2 := Lib.hid (HL2.out.keep hb)
  have HX12 := Lib.hid hx
  clear hb hx
  unfold El.enc
  dsimp only [El.cells, El.vl, El.vs, El.vt, El.vi]
  have hs : [x12].map El.strip = [nd ⟨#[97, 120]⟩ ⟨#[97, 120]⟩] := by
    simp only [List.map_cons, List.map_nil, HX12.out.strip]
  have HS3 := Lib.hid hs
  have hlit := InS.litAt _ [x12] _ _ rfl rfl (by simp) (by
    intro e he
    simp only [List.mem_cons, List.not_mem_nil, or_false] at he
    rcases he with rfl
    · exact HX12.out.ok)
  have hb := (Below.refl _ v12).alloc (Nat.le_refl _) (Obj.cells (cellsS [x12]).toArray 40)
  have HB := Lib.hid (HB.out.trans (hb.mono HB.out.size))
  have HD9 := Lib.hid (HD9.out.keep hb)
  have HD := Lib.hid (HD.out.keep hb)
  have HL2 := Lib.hid (HL2.out.keep hb)
  have HX12 := Lib.hid (HX12.out.keep hb)
  have HL3 := Lib.hid hlit
  clear hs hlit hb
  clear HX12
  go_wp2_with fail
  refine (line_v (by rewrite [← lineV_strip, HS2.out, HS3.out]; exact known_k11) HL2.out HL3.out).mono ?_
  rintro e y1 ⟨rfl, hb⟩
  have HB := Lib.hid (HB.out.trans (hb.mono HB.out.size))
  have HD9 := Lib.hid (HD9.out.keep hb)
  have HD := Lib.hid (HD.out.keep hb)
  have HL2 := Lib.hid (HL2.out.keep hb)
  have HL3 := Lib.hid (HL3.out.keep hb)
  clear hb
  clear HL2 HL3 HS2 HS3
  go_wp2_with fail
  refine (node_any ⟨#[]⟩ ⟨#[]⟩ _ (by decide) (by decide)).mono ?_
  rintro e v13 ⟨x13, rfl, hx, hb⟩
  have HB := Lib.hid (HB.out.trans (hb.mono HB.out.size))
  have HD9 := Lib.hid (HD9.out.keep hb)
  have HD := Lib.hid (HD.out.keep hb)
  have HX13 := Lib.hid hx
  clear hb hx
  unfold El.enc
  dsimp only [El.cells, El.vl, El.vs, El.vt, El.vi]
  go_wp2_with fail
  refine (node_any ⟨#[97, 98]⟩ ⟨#[97, 98]⟩ _ (by decide) (by decide)).mono ?_
  rintro e v14 ⟨x14, rfl, hx, hb⟩
  have HB := Lib.hid (HB.out.trans (hb.mono HB.out.size))
  have HD9 := Lib.hid (HD9.out.keep hb)
  have HD := Lib.hid (HD.out.keep hb)
  have HX13 := Lib.hid (HX13.out.keep hb)
  have HX14 := Lib.hid hx
  clear hb hx
  unfold El.enc
  dsimp only [El.cells, El.vl, El.vs, El.vt, El.vi]
  go_wp2_with fail
  refine (node_any ⟨#[97, 120]⟩ ⟨#[97, 120]⟩ _ (by decide) (by decide)).mono ?_
  rintro e v15 ⟨x15, rfl, hx, hb⟩
  have HB := Lib.hid (HB.out.trans (hb.mono HB.out.size))
  have HD9 := Lib.hid (HD9.out.keep hb)
  have HD := Lib.hid (HD.out.keep hb)
  have HX13 := Lib.hid (HX13.out.keep hb)
  have HX14 := Lib.hid (HX14.out.keep hb)
  have HX15 := Lib.hid hx
  clear hb hx
  unfold El.enc
  dsimp only [El.cells, El.vl, El.vs, El.vt, El.vi]
  have hs : [x13, x14, x15].map El.strip = [nd ⟨#[]⟩ ⟨#[]⟩, nd ⟨#[97, 98]⟩ ⟨#[97, 98]⟩, nd ⟨#[97, 120]⟩ ⟨#[97, 120]⟩] := by
    simp only [List.map_cons, List.map_nil, HX13.out.strip, HX14.out.strip, HX15.out.strip]
  have HS4 := Lib.hid hs
  have hlit := InS.litAt _ [x13, x14, x15] _ _ rfl rfl (by simp) (by
    intro e he
    simp only [List.mem_cons, List.not_mem_nil, or_false] at he
    rcases he with rfl | rfl | rfl
    · exact HX13.out.ok
    · exact HX14.out.ok
    · exact HX15.out.ok)
  have hb := (Below.refl _ v15).alloc (Nat.le_refl _) (Obj.cells (cellsS [x13, x14, x15]).toArray 40)
  have HB := Lib.hid (HB.out.trans (hb.mono HB.out.size))
  have HD9 := Lib.hid (HD9.out.keep hb)
  have HD := Lib.hid (HD.out.keep hb)
  have HX13 := Lib.hid (HX13.out.keep hb)
  have HX14 := Lib.hid (HX14.out.keep hb)
  have HX15 := Lib.hid (HX15.out.keep hb)
  have HL4 := Lib.hid hlit
  clear hs hlit hb
  clear HX13 HX14 HX15
  have hl0 : ([] : List El).map El.strip = [] := rfl
  go_wp2_with fail
  refine (line_v (by rewrite [← lineV_strip, hl0, HS4.out]; exact known_k12) (InS.nil_ _) HL4.out).mono ?_
  rintro e y2 ⟨rfl, hb⟩
  have HB := Lib.hid (HB.out.trans (hb.mono HB.out.size))
  have HD9 := Lib.hid (HD9.out.keep hb)
  have HD := Lib.hid (HD.out.keep hb)
  have HL4 := Lib.hid (HL4.out.keep hb)
  clear hb
  clear hl0 HL4 HS4
  go_wp2_with fail
  refine (node_any ⟨#[120]⟩ ⟨#[]⟩ _ (by decide) (by decide)).mono ?_
  rintro e v16 ⟨x16, rfl, hx, hb⟩
  have HB := Lib.hid (HB.out.trans (hb.mono HB.out.size))
  have HD9 := Lib.hid (HD9.out.keep hb)
  have HD := Lib.hid (HD.out.keep hb)
  have HX16 := Lib.hid hx
  clear hb hx
  unfold El.enc
  dsimp only [El.cells, El.vl, El.vs, El.vt, El.vi]
  have hs : [x16].map El.strip = [nd ⟨#[120]⟩ ⟨#[]⟩] := by
    simp only [List.map_cons, List.map_nil, HX16.out.strip]
  have HS5 := Lib.hid hs
  have hlit := InS.litAt _ [x16] _ _ rfl rfl (by simp) (by
    intro e he
    simp only [List.mem_cons, List.not_mem_nil, or_false] at he
    rcases he with rfl
    · exact HX16.out.ok)
  have hb := (Below.refl _ v16).alloc (Nat.le_refl _) (Obj.cells (cellsS [x16]).toArray 40)
  have HB := Lib.hid (HB.out.trans (hb.mono HB.out.size))
  have HD9 := Lib.hid (HD9.out.keep hb)
  have HD := Lib.hid (HD.out.keep hb)
  have HX16 := Lib.hid (HX16.out.keep hb)
  have HL5 := Lib.hid hlit
  clear hs hlit hb
  clear HX16
  go_wp2_with fail
  refine (node_any ⟨#[]⟩ ⟨#[]⟩ _ (by decide) (by decide)).mono ?_
  rintro e v17 ⟨x17, rfl, hx, hb⟩
  have HB := Lib.hid (HB.out.trans (hb.mono HB.out.size))
  have HD9 := Lib.hid (HD9.out.keep hb)
  have HD := Lib.hid (HD.out.keep hb)
  have HL5 := Lib.hid (HL5.out.keep hb)
  have HX17 := Lib.hid hx
  clear hb hx
  unfold El.enc
  dsimp only [El.cells, El.vl, El.vs, El.vt, El.vi]
  go_wp2_with fail
  refine (node_any ⟨#[97, 98]⟩ ⟨#[97, 98]⟩ _ (by decide) (by decide)).mono ?_
  rintro e v18 ⟨x18, rfl, hx, hb⟩
  have HB := Lib.hid (HB.out.trans (hb.mono HB.out.size))
  have HD9 := Lib.hid (HD9.out.keep hb)
  have HD := Lib.hid (HD.out.keep hb)
  have HL5 := Lib.hid (HL5.out.keep hb)
  have HX17 := Lib.hid (HX17.out.keep hb)
  have HX18 := Lib.hid hx
  clear hb hx
  unfold El.enc
  dsimp only [El.cells, El.vl, El.vs, El.vt, El.vi]
  have hs : [x17, x18].map El.strip = [nd ⟨#[]⟩ ⟨#[]⟩, nd ⟨#[97, 98]⟩ ⟨#[97, 98]⟩] := by
    simp only [List.map_cons, List.map_nil, HX17.out.strip, HX18.out.strip]
  have HS6 := Lib.hid hs
  have hlit := InS.litAt _ [x17, x18] _ _ rfl rfl (by simp) (by
    intro e he
    simp only [List.mem_cons, List.not_mem_nil, or_false] at he
    rcases he with rfl | rfl
    · exact HX17.out.ok
    · exact HX18.out.ok)
  have hb := (Below.refl _ v18).alloc (Nat.le_refl _) (Obj.cells (cellsS [x17, x18]).toArray 40)
  have HB := Lib.hid (HB.out.trans (hb.mono HB.out.size))
  have HD9 := Lib.hid (HD9.out.keep hb)
  have HD := Lib.hid (HD.out.keep hb)
  have HL5 := Lib.hid (HL5.out.keep hb)
  have HX17 := Lib.hid (HX17.out.keep hb)
  have HX18 := Lib.hid (HX18.out.keep hb)
  have HL6 := Lib.hid hlit
  clear hs hlit hb
  clear HX17 HX18
  go_wp2_with fail
  refine (line_v (by rewrite [← lineV_strip, HS5.out, HS6.out]; exact known_k13) HL5.out HL6.out).mono ?_
  rintro e y3 ⟨rfl, hb⟩
  have HB := Lib.hid (HB.out.trans (hb.mono HB.out.size))
  have HD9 := Lib.hid (HD9.out.keep hb)
  have HD := Lib.hid (HD.out.keep hb)
  have HL5 := Lib.hid (HL5.out.keep hb)
  have HL6 := Lib.hid (HL6.out.keep hb)
  clear hb
  clear HL5 HL6 HS5 HS6
  go_wp2_with fail
  have hbs := Blk.new y3 9 #[.string ⟨#[97, 120, 98]⟩, .string ⟨#[120, 98]⟩, .string ⟨#[98]⟩, .string ⟨#[97, 98, 97]⟩, .string ⟨#[97, 98, 98]⟩, .string ⟨#[98, 97]⟩]
  have hb := (Below.refl y3.heap.size y3).alloc (Nat.le_refl _) (Obj.cells #[.string ⟨#[97, 120, 98]⟩, .string ⟨#[120, 98]⟩, .string ⟨#[98]⟩, .string ⟨#[97, 98, 97]⟩, .string ⟨#[97, 98, 98]⟩, .string ⟨#[98, 97]⟩] 9)
  have HB := Lib.hid (HB.out.trans (hb.mono HB.out.size))
  have HD9 := Lib.hid (HD9.out.keep hb)
  have HD := Lib.hid (HD.out.keep hb)
  have HBS := Lib.hid hbs
  clear hbs hb
  obtain ⟨qs, hqs⟩ : ∃ z, z = y3.heap.size := ⟨_, rfl⟩
  rw [← hqs] at HBS
  rw [← hqs]
  clear hqs
  generalize y3.alloc (Obj.cells #[.string ⟨#[97, 120, 98]⟩, .string ⟨#[120, 98]⟩, .string ⟨#[98]⟩, .string ⟨#[97, 98, 97]⟩, .string ⟨#[97, 98, 98]⟩, .string ⟨#[98, 97]⟩] 9) = y4 at *
  refine wp_loop_rounds 7 ?_
  rw [rounds_succ]
  have hck := HBS.out.cell 0
  simp at hck
  go_wp2_with fail
  refine (node_any ⟨#[97, 98]⟩ ⟨#[97, 98]⟩ _ (by decide) (by decide)).mono ?_
  rintro e v19 ⟨x19, rfl, hx, hb⟩
  have HB := Lib.hid (HB.out.trans (hb.mono HB.out.size))
  have HD9 := Lib.hid (HD9.out.keep hb)
  have HD := Lib.hid (HD.out.keep hb)
  have HBS := Lib.hid (HBS.out.keep hb)
  have HX19 := Lib.hid hx
  clear hb hx
  unfold El.enc
  dsimp only [El.cells, El.vl, El.vs, El.vt, El.vi]
  clear hck
  have hck := HBS.out.cell 0
  simp at hck
  go_wp2_with fail
  refine (node_any ⟨#[97]⟩ ⟨#[97, 120, 98]⟩ _ (by decide) (by decide)).mono ?_
  rintro e v20 ⟨x20, rfl, hx, hb⟩
  have HB := Lib.hid (HB.out.trans (hb.mono HB.out.size))
  have HD9 := Lib.hid (HD9.out.keep hb)
  have HD := Lib.hid (HD.out.keep hb)
  have HBS := Lib.hid (HBS.out.keep hb)
  have HX19 := Lib.hid (HX19.out.keep hb)
  have HX20 := Lib.hid hx
  clear hb hx
  unfold El.enc
  dsimp only [El.cells, El.vl, El.vs, El.vt, El.vi]
  clear hck
  have hs : [x19, x20].map El.strip = [nd ⟨#[97, 98]⟩ ⟨#[97, 98]⟩, nd ⟨#[97]⟩ ⟨#[97, 120, 98]⟩] := by
    simp only [List.map_cons, List.map_nil, HX19.out.strip, HX20.out.strip]
  have HS7 := Lib.hid hs
  have hlit := InS.litAt _ [x19, x20] _ _ rfl rfl (by simp) (by
    intro e he
    simp only [List.mem_cons, List.not_mem_nil, or_false] at he
    rcases he with rfl | rfl
    · exact HX19.out.ok
    · exact HX20.out.ok)
  have hb := (Below.refl _ v20).alloc (Nat.le_refl _) (Obj.cells (cellsS [x19, x20]).toArray 40)
  have HB := Lib.hid (HB.out.trans (hb.mono HB.out.size))
  have HD9 := Lib.hid (HD9.out.keep hb)
  have HD := Lib.hid (HD.out.keep hb)
  have HBS := Lib.hid (HBS.out.keep hb)
  have HX19 := Lib.hid (HX19.out.keep hb)
  have HX20 := Lib.hid (HX20.out.keep hb)
  have HL7 := Lib.hid hlit
  clear hs hlit hb
  clear HX19 HX20
  go_wp2_with fail
  refine (lists_v (by rewrite [← listsV_strip, HS7.out]; exact known_m0) HL7.out).mono ?_
  rintro e y5 ⟨rfl, hb⟩
  have HB := Lib.hid (HB.out.trans (hb.mono HB.out.size))
  have HD9 := Lib.hid (HD9.out.keep hb)
  have HD := Lib.hid (HD.out.keep hb)
  have HBS := Lib.hid (HBS.out.keep hb)
  have HL7 := Lib.hid (HL7.out.keep hb)
  clear hb
  clear HL7 HS7
  go_wp2_with fail
  rw [rounds_succ]
  have hck := HBS.out.cell 1
  simp at hck
  go_wp2_with fail
  refine (node_any ⟨#[97, 98]⟩ ⟨#[97, 98]⟩ _ (by decide) (by decide)).mono ?_
  rintro e v21 ⟨x21, rfl, hx, hb⟩
  have HB := Lib.hid (HB.out.trans (hb.mono HB.out.size))
  have HD9 := Lib.hid (HD9.out.keep hb)
  have HD := Lib.hid (HD.out.keep hb)
  have HBS := Lib.hid (HBS.out.keep hb)
  have HX21 := Lib.hid hx
  clear hb hx
  unfold El.enc
  dsimp only [El.cells, El.vl, El.vs, El.vt, El.vi]
  clear hck
  have hck := HBS.out.cell 1
  simp at hck
  go_wp2_with fail
  refine (node_any ⟨#[97]⟩ ⟨#[120, 98]⟩ _ (by decide) (by decide)).mono ?_
  rintro e v22 ⟨x22, rfl, hx, hb⟩
  have HB := Lib.hid (HB.out.trans (hb.mono HB.out.size))
  have HD9 := Lib.hid (HD9.out.keep hb)
  have HD := Lib.hid (HD.out.keep hb)
  have HBS := Lib.hid (HBS.out.keep hb)
  have HX21 := Lib.hid (HX21.out.keep hb)
  have HX22 := Lib.hid hx
  clear hb hx
  unfold El.enc
  dsimp only [El.cells, El.vl, El.vs, El.vt, El.vi]
  clear hck
  have hs : [x21, x22].map El.strip = [nd ⟨#[97, 98]⟩ ⟨#[97, 98]⟩, nd ⟨#[97]⟩ ⟨#[120, 98]⟩] := by
    simp only [List.map_cons, List.map_nil, HX21.out.strip, HX22.out.strip]
  have HS8 := Lib.hid hs
  have hlit := InS.litAt _ [x21, x22] _ _ rfl rfl (by simp) (by
    intro e he
    simp only [List.mem_cons, List.not_mem_nil, or_false] at he
    rcases he with rfl | rfl
    · exact HX21.out.ok
    · exact HX22.out.ok)
  have hb := (Below.refl _ v22).alloc (Nat.le_refl _) (Obj.cells (cellsS [x21, x22]).toArray 40)
  have HB := Lib.hid (HB.out.trans (hb.mono HB.out.size))
  have HD9 := Lib.hid (HD9.out.keep hb)
  have HD := Lib.hid (HD.out.keep hb)
  have HBS := Lib.hid (HBS.out.keep hb)
  have HX21 := Lib.hid (HX21.out.keep hb)
  have HX22 := Lib.hid (HX22.out.keep hb)
  have HL8 := Lib.hid hlit
  clear hs hlit hb
  clear HX21 HX22
  go_wp2_with fail
  refine (lists_v (by rewrite [← listsV_strip, HS8.out]; exact known_m1) HL8.out).mono ?_
  rintro e y6 ⟨rfl, hb⟩
  have HB := Lib.hid (HB.out.trans (hb.mono HB.out.size))
  have HD9 := Lib.hid (HD9.out.keep hb)
  have HD := Lib.hid (HD.out.keep hb)
  have HBS := Lib.hid (HBS.out.keep hb)
  have HL8 := Lib.hid (HL8.out.keep hb)
  clear hb
  clear HL8 HS8
  go_wp2_with fail
  rw [rounds_succ]
  have hck := HBS.out.cell 2
  simp at hck
  go_wp2_with fail
  refine (node_any ⟨#[97, 98]⟩ ⟨#[97, 98]⟩ _ (by decide) (by decide)).mono ?_
  rintro e v23 ⟨x23, rfl, hx, hb⟩
  have HB := Lib.hid (HB.out.trans (hb.mono HB.out.size))
  have HD9 := Lib.hid (HD9.out.keep hb)
  have HD := Lib.hid (HD.out.keep hb)
  have HBS := Lib.hid (HBS.out.keep hb)
  have HX23 := Lib.hid hx
  clear hb hx
  unfold El.enc
  dsimp only [El.cells, El.vl, El.vs, El.vt, El.vi]
  clear hck
  have hck := HBS.out.cell 2
  simp at hck
  go_wp2_with fail
  refine (node_any ⟨#[97]⟩ ⟨#[98]⟩ _ (by decide) (by decide)).mono ?_
  rintro e v24 ⟨x24, rfl, hx, hb⟩
  have HB := Lib.hid (HB.out.trans (hb.mono HB.out.size))
  have HD9 := Lib.hid (HD9.out.keep hb)
  have HD := Lib.hid (HD.out.keep hb)
  have HBS := Lib.hid (HBS.out.keep hb)
  have HX23 := Lib.hid (HX23.out.keep hb)
  have HX24 := Lib.hid hx
  clear hb hx
  unfold El.enc
  dsimp only [El.cells, El.vl, El.vs, El.vt, El.vi]
  clear hck
  have hs : [x23, x24].map El.strip = [nd ⟨#[97, 98]⟩ ⟨#[97, 98]⟩, nd ⟨#[97]⟩ ⟨#[98]⟩] := by
    simp only [List.map_cons, List.map_nil, HX23.out.strip, HX24.out.strip]
  have HS9 := Lib.hid hs
  have hlit := InS.litAt _ [x23, x24] _ _ rfl rfl (by simp) (by
    intro e he
    simp only [List.mem_cons, List.not_mem_nil, or_false] at he
    rcases he with rfl | rfl
    · exact HX23.out.ok
    · exact HX24.out.ok)
  have hb := (Below.refl _ v24).alloc (Nat.le_refl _) (Obj.cells (cellsS [x23, x24]).toArray 40)
  have HB := Lib.hid (HB.out.trans (hb.mono HB.out.size))
  have HD9 := Lib.hid (HD9.out.keep hb)
  have HD := Lib.hid (HD.out.keep hb)
  have HBS := Lib.hid (HBS.out.keep hb)
  have HX23 := Lib.hid (HX23.out.keep hb)
  have HX24 := Lib.hid (HX24.out.keep hb)
  have HL9 := Lib.hid hlit
  clear hs hlit hb
  clear HX23 HX24
  go_wp2_with fail
  refine (lists_v (by rewrite [← listsV_strip, HS9.out]; exact known_m2) HL9.out).mono ?_
  rintro e y7 ⟨rfl, hb⟩
  have HB := Lib.hid (HB.out.trans (hb.mono HB.out.size))
  have HD9 := Lib.hid (HD9.out.keep hb)
  have HD := Lib.hid (HD.out.keep hb)
  have HBS := Lib.hid (HBS.out.keep hb)
  have HL9 := Lib.hid (HL9.out.keep hb)
  clear hb
  clear HL9 HS9
  go_wp2_with fail
  rw [rounds_succ]
  have hck := HBS.out.cell 3
  simp at hck
  go_wp2_with fail
  refine (node_any ⟨#[97, 98]⟩ ⟨#[97, 98]⟩ _ (by decide) (by decide)).mono ?_
  rintro e v25 ⟨x25, rfl, hx, hb⟩
  have HB := Lib.hid (HB.out.trans (hb.mono HB.out.size))
  have HD9 := Lib.hid (HD9.out.keep hb)
  have HD := Lib.hid (HD.out.keep hb)
  have HBS := Lib.hid (HBS.out.keep hb)
  have HX25 := Lib.hid hx
  clear hb hx
  unfold El.enc
  dsimp only [El.cells, El.vl, El.vs, El.vt, El.vi]
  clear hck
  have hck := HBS.out.cell 3
  simp at hck
  go_wp2_with fail
  refine (node_any ⟨#[97]⟩ ⟨#[97, 98, 97]⟩ _ (by decide) (by decide)).mono ?_
  rintro e v26 ⟨x26, rfl, hx, hb⟩
  have HB := Lib.hid (HB.out.trans (hb.mono HB.out.size))
  have HD9 := Lib.hid (HD9.out.keep hb)
  have HD := Lib.hid (HD.out.keep hb)
  have HBS := Lib.hid (HBS.out.keep hb)
  have HX25 := Lib.hid (HX25.out.keep hb)
  have HX26 := Lib.hid hx
  clear hb hx
  unfold El.enc
  dsimp only [El.cells, El.vl, El.vs, El.vt, El.vi]
  clear hck
  have hs : [x25, x26].map El.strip = [nd ⟨#[97, 98]⟩ ⟨#[97, 98]⟩, nd ⟨#[97]⟩ ⟨#[97, 98, 97]⟩] := by
    simp only [List.map_cons, List.map_nil, HX25.out.strip, HX26.out.strip]
  have HS10 := Lib.hid hs
  have hlit := InS.litAt _ [x25, x26] _ _ rfl rfl (by simp) (by
    intro e he
    simp only [List.mem_cons, List.not_mem_nil, or_false] at he
    rcases he with rfl | rfl
    · exact HX25.out.ok
    · exact HX26.out.ok)
  have hb := (Below.refl _ v26).alloc (Nat.le_refl _) (Obj.cells (cellsS [x25, x26]).toArray 40)
  have HB := Lib.hid (HB.out.trans (hb.mono HB.out.size))
  have HD9 := Lib.hid (HD9.out.keep hb)
  have HD := Lib.hid (HD.out.keep hb)
  have HBS := Lib.hid (HBS.out.keep hb)
  have HX25 := Lib.hid (HX25.out.keep hb)
  have HX26 := Lib.hid (HX26.out.keep hb)
  have HL10 := Lib.hid hlit
  clear hs hlit hb
  clear HX25 HX26
  go_wp2_with fail
  refine (lists_v (by rewrite [← listsV_strip, HS10.out]; exact known_m3) HL10.out).mono ?_
  rintro e y8 ⟨rfl, hb⟩
  have HB := Lib.hid (HB.out.trans (hb.mono HB.out.size))
  have HD9 := Lib.hid (HD9.out.keep hb)
  have HD := Lib.hid (HD.out.keep hb)
  have HBS := Lib.hid (HBS.out.keep hb)
  have HL10 := Lib.hid (HL10.out.keep hb)
  clear hb
  clear HL10 HS10
  go_wp2_with fail
  rw [rounds_succ]
  have hck := HBS.out.cell 4
  simp at hck
  go_wp2_with fail
  refine (node_any ⟨#[97, 98]⟩ ⟨#[97, 98]⟩ _ (by decide) (by decide)).mono ?_
  rintro e v27 ⟨x27, rfl, hx, hb⟩
  have HB := Lib.hid (HB.out.trans (hb.mono HB.out.size))
  have HD9 := Lib.hid (HD9.out.keep hb)
  have HD := Lib.hid (HD.out.keep hb)
  have HBS := Lib.hid (HBS.out.keep hb)
  have HX27 := Lib.hid hx
  clear hb hx
  unfold El.enc
  dsimp only [El.cells, El.vl, El.vs, El.vt, El.vi]
  clear hck
  have hck := HBS.out.cell 4
  simp at hck
  go_wp2_with fail
  refine (node_any ⟨#[97]⟩ ⟨#[97, 98, 98]⟩ _ (by decide) (by decide)).mono ?_
  rintro e v28 ⟨x28, rfl, hx, hb⟩
  have HB := Lib.hid (HB.out.trans (hb.mono HB.out.size))
  have HD9 := Lib.hid (HD9.out.keep hb)
  have HD := Lib.hid (HD.out.keep hb)
  have HBS := Lib.hid (HBS.out.keep hb)
  have HX27 := Lib.hid (HX27.out.keep hb)
  have HX28 := Lib.hid hx
  clear hb hx
  unfold El.enc
  dsimp only [El.cells, El.vl, El.vs, El.vt, El.vi]
  clear hck
  have hs : [x27, x28].map El.strip = [nd ⟨#[97, 98]⟩ ⟨#[97, 98]⟩, nd ⟨#[97]⟩ ⟨#[97, 98, 98]⟩] := by
    simp only [List.map_cons, List.map_nil, HX27.out.strip, HX28.out.strip]
  have HS11 := Lib.hid hs
  have hlit := InS.litAt _ [x27, x28] _ _ rfl rfl (by simp) (by
    intro e he
    simp only [List.mem_cons, List.not_mem_nil, or_false] at he
    rcases he with rfl | rfl
    · exact HX27.out.ok
    · exact HX28.out.ok)
  have hb := (Below.refl _ v28).alloc (Nat.le_refl _) (Obj.cells (cellsS [x27, x28]).toArray 40)
  have HB := Lib.hid (HB.out.trans (hb.mono HB.out.size))
  have HD9 := Lib.hid (HD9.out.keep hb)
  have HD := Lib.hid (HD.out.keep hb)
  have HBS := Lib.hid (HBS.out.keep hb)
  have HX27 := Lib.hid (HX27.out.keep hb)
  have HX28 := Lib.hid (HX28.out.keep hb)
  have HL11 := Lib.hid hlit
  clear hs hlit hb
  clear HX27 HX28
  go_wp2_with fail
  refine (lists_v (by rewrite [← listsV_strip, HS11.out]; exact known_m4) HL11.out).mono ?_
  rintro e y9 ⟨rfl, hb⟩
  have HB := Lib.hid (HB.out.trans (hb.mono HB.out.size))
  have HD9 := Lib.hid (HD9.out.keep hb)
  have HD := Lib.hid (HD.out.keep hb)
  have HBS := Lib.hid (HBS.out.keep hb)
  have HL11 := Lib.hid (HL11.out.keep hb)
  clear hb
  clear HL11 HS11
  go_wp2_with fail
  rw [rounds_succ]
  have hck := HBS.out.cell 5
  simp at hck
  go_wp2_with fail
  refine (node_any ⟨#[97, 98]⟩ ⟨#[97, 98]⟩ _ (by decide) (by decide)).mono ?_
  rintro e v29 ⟨x29, rfl, hx, hb⟩
  have HB := Lib.hid (HB.out.trans (hb.mono HB.out.size))
  have HD9 := Lib.hid (HD9.out.keep hb)
  have HD := Lib.hid (HD.out.keep hb)
  have HBS := Lib.hid (HBS.out.keep hb)
  have HX29 := Lib.hid hx
  clear hb hx
  unfold El.enc
  dsimp only [El.cells, El.vl, El.vs, El.vt, El.vi]
  clear hck
  have hck := HBS.out.cell 5
  simp at hck
  go_wp2_with fail
  refine (node_any ⟨#[97]⟩ ⟨#[98, 97]⟩ _ (by decide) (by decide)).mono ?_
  rintro e v30 ⟨x30, rfl, hx, hb⟩
  have HB := Lib.hid (HB.out.trans (hb.mono HB.out.size))
  have HD9 := Lib.hid (HD9.out.keep hb)
  have HD := Lib.hid (HD.out.keep hb)
  have HBS := Lib.hid (HBS.out.keep hb)
  have HX29 := Lib.hid (HX29.out.keep hb)
  have HX30 := Lib.hid hx
  clear hb hx
  unfold El.enc
  dsimp only [El.cells, El.vl, El.vs, El.vt, El.vi]
  clear hck
  have hs : [x29, x30].map El.strip = [nd ⟨#[97, 98]⟩ ⟨#[97, 98]⟩, nd ⟨#[97]⟩ ⟨#[98, 97]⟩] := by
    simp only [List.map_cons, List.map_nil, HX29.out.strip, HX30.out.strip]
  have HS12 := Lib.hid hs
  have hlit := InS.litAt _ [x29, x30] _ _ rfl rfl (by simp) (by
    intro e he
    simp only [List.mem_cons, List.not_mem_nil, or_false] at he
    rcases he with rfl | rfl
    · exact HX29.out.ok
    · exact HX30.out.ok)
  have hb := (Below.refl _ v30).alloc (Nat.le_refl _) (Obj.cells (cellsS [x29, x30]).toArray 40)
  have HB := Lib.hid (HB.out.trans (hb.mono HB.out.size))
  have HD9 := Lib.hid (HD9.out.keep hb)
  have HD := Lib.hid (HD.out.keep hb)
  have HBS := Lib.hid (HBS.out.keep hb)
  have HX29 := Lib.hid (HX29.out.keep hb)
  have HX30 := Lib.hid (HX30.out.keep hb)
  have HL12 := Lib.hid hlit
  clear hs hlit hb
  clear HX29 HX30
  go_wp2_with fail
  refine (lists_v (by rewrite [← listsV_strip, HS12.out]; exact known_m5) HL12.out).mono ?_
  rintro e y10 ⟨rfl, hb⟩
  have HB := Lib.hid (HB.out.trans (hb.mono HB.out.size))
  have HD9 := Lib.hid (HD9.out.keep hb)
  have HD := Lib.hid (HD.out.keep hb)
  have HBS := Lib.hid (HBS.out.keep hb)
  have HL12 := Lib.hid (HL12.out.keep hb)
  clear hb
  clear HL12 HS12
  go_wp2_with fail
  rw [rounds_succ]
  clear HBS
  go_wp2_with fail
  refine wp_region_spec (fun i => i == 0 || i == 1 || i == 2 || i == 4 || i == 5 || i == 9 || i == 10 || i == 11) (kinds [(5, .is (.int .i64 (-1))), (11, .is (.int .i64 1))]) (CF y10 (FT tn17 tl17)) (by kernel_rfl) (by kernel_rfl) (kinds_inh _) CF.start ?_
  intro ν hν
  have n5 : ν 5 = .int .i64 (-1) := hν 5
  have n11 : ν 11 = .int .i64 1 := hν 11
  clear hν
  refine lex_special (by rfl) rfl (fun σ w2 hA hD hn hC => ?_) ?_
  · go_simp
    refine call_ok FT.stable hC ((node_any ⟨#[97, 98]⟩ ⟨#[97, 98]⟩ w2 (by decide) (by decide)).mono ?_)
    rintro e' w' ⟨x, rfl, hx, hb⟩
    exact ⟨_, rfl, trivial, FT.node rfl rfl hx.ns, hb⟩
  simp only [Act.put, List.setIfInBounds_toArray, List.set_cons_succ, List.set_cons_zero, Nat.reduceAdd]
  refine lex_special (by rfl) rfl (fun σ w2 hA hD hn hC => ?_) ?_
  · go_simp
    refine call_ok FT.stable hC ((node_any ⟨#[97]⟩ ⟨#[97, 120]⟩ w2 (by decide) (by decide)).mono ?_)
    rintro e' w' ⟨x, rfl, hx, hb⟩
    exact ⟨_, rfl, trivial, FT.node rfl rfl hx.ns, hb⟩
  simp only [Act.put, List.setIfInBounds_toArray, List.set_cons_succ, List.set_cons_zero, Nat.reduceAdd]
  refine lex_special (by rfl) rfl (fun σ w2 hA hD hn hC => ?_) ?_
  · go_simp
    refine call_ok FT.stable hC ((node_any ⟨#[]⟩ ⟨#[120, 121, 122]⟩ w2 (by decide) (by decide)).mono ?_)
    rintro e' w' ⟨x, rfl, hx, hb⟩
    exact ⟨_, rfl, trivial, FT.node rfl rfl hx.ns, hb⟩
  simp only [Act.put, List.setIfInBounds_toArray, List.set_cons_succ, List.set_cons_zero, Nat.reduceAdd]
  refine lex_plain (by rfl) rfl ?_
  apply Exists.intro
  refine ⟨fun σ w2 hA hD hC => ?_, ?_⟩
  · obtain ⟨z0, z1, z2, z3, z4, z5, z6, z7, z8⟩ := HD9.out.keep hC.1
    simp only [Nat.zero_add] at z0 z1 z2 z3 z4 z5 z6 z7 z8
    dsimp only [El.vl, El.vs, El.vt, El.vi] at z5 z6 z7 z8
    clear hA hD hC
    go_simp
    exact And.intro rfl rfl
  simp only [Act.put, List.setIfInBounds_toArray, List.set_cons_succ, List.set_cons_zero, Nat.reduceAdd]
  refine lex_special (by rfl) rfl (fun σ w2 hA hD hn hC => ?_) ?_
  · have e0 := got1 hA hD 0 rfl (by kernel_rfl)
    obtain ⟨x0, q0, hx0⟩ := (hC.2 0 _ e0).1 _ rfl
    have e1 := got1 hA hD 1 rfl (by kernel_rfl)
    obtain ⟨x1, q1, hx1⟩ := (hC.2 1 _ e1).1 _ rfl
    have e2 := got1 hA hD 2 rfl (by kernel_rfl)
    obtain ⟨x2, q2, hx2⟩ := (hC.2 2 _ e2).1 _ rfl
    rw [q0]
    rw [q1]
    rw [q2]
    unfold El.enc
    dsimp only [El.cells, El.vl, El.vs, El.vt, El.vi]
    go_simp
    have hlit := InS.litAt w2 [x0, x1, x2, DE] _ _ rfl rfl (by simp) (by
      intro e he
      simp only [List.mem_cons, List.not_mem_nil, or_false] at he
      rcases he with rfl | rfl | rfl | rfl
      · exact hx0.ok
      · exact hx1.ok
      · exact hx2.ok
      · exact (HD.out.ok.keep hC.1))
    exact value_ok FT.stable hC ((Below.refl _ _).alloc (Nat.le_refl _) _) trivial (FT.lit rfl rfl hlit (by simp only [List.map_cons, List.map_nil, hx0.strip, hx1.strip, hx2.strip, HD.out.strip]))
  simp only [Act.put, List.setIfInBounds_toArray, List.set_cons_succ, List.set_cons_zero, Nat.reduceAdd]
  refine lex_special (by rfl) rfl (fun σ w2 hA hD hn hC => ?_) ?_
  · have e4 := got1 hA hD 4 rfl (by kernel_rfl)
    obtain ⟨es4, hin4, hst4⟩ := (hC.2 4 _ e4).2 _ rfl
    go_simp
    refine call_ok FT.stable hC ((lists_v (by rewrite [← listsV_strip, hst4]; exact known_k14) hin4).mono ?_)
    rintro e' w' ⟨rfl, hb⟩
    exact ⟨_, rfl, rfl, FT.val rfl rfl, hb⟩
  rw [n5]
  simp only [Act.put, List.setIfInBounds_toArray, List.set_cons_succ, List.set_cons_zero, Nat.reduceAdd]
  refine lex_plain (by rfl) rfl ?_
  apply Exists.intro
  refine ⟨fun σ w2 hA hD hC => ?_, ?_⟩
  · clear hA hD hC
    go_simp
    exact And.intro rfl rfl
  simp only [Act.put, List.setIfInBounds_toArray, List.set_cons_succ, List.set_cons_zero, Nat.reduceAdd]
  refine lex_plain (by rfl) rfl ?_
  apply Exists.intro
  refine ⟨fun σ w2 hA hD hC => ?_, ?_⟩
  · clear hA hD hC
    go_simp
    exact And.intro rfl rfl
  simp only [Act.put, List.setIfInBounds_toArray, List.set_cons_succ, List.set_cons_zero, Nat.reduceAdd]
  refine lex_plain (by rfl) rfl ?_
  apply Exists.intro
  refine ⟨fun σ w2 hA hD hC => ?_, ?_⟩
  · obtain ⟨z0, z1, z2, z3, z4, z5, z6, z7, z8⟩ := HD9.out.keep hC.1
    simp only [Nat.zero_add] at z0 z1 z2 z3 z4 z5 z6 z7 z8
    dsimp only [El.vl, El.vs, El.vt, El.vi] at z5 z6 z7 z8
    clear hA hD hC
    go_simp
    exact And.intro rfl rfl
  simp only [Act.put, List.setIfInBounds_toArray, List.set_cons_succ, List.set_cons_zero, Nat.reduceAdd]
  refine lex_special (by rfl) rfl (fun σ w2 hA hD hn hC => ?_) ?_
  · go_simp
    refine call_ok FT.stable hC ((node_any ⟨#[97, 98]⟩ ⟨#[98, 120]⟩ w2 (by decide) (by decide)).mono ?_)
    rintro e' w' ⟨x, rfl, hx, hb⟩
    exact ⟨_, rfl, trivial, FT.node rfl rfl hx.ns, hb⟩
  simp only [Act.put, List.setIfInBounds_toArray, List.set_cons_succ, List.set_cons_zero, Nat.reduceAdd]
  refine lex_special (by rfl) rfl (fun σ w2 hA hD hn hC => ?_) ?_
  · have e9 := got1 hA hD 9 rfl (by kernel_rfl)
    obtain ⟨x9, q9, hx9⟩ := (hC.2 9 _ e9).1 _ rfl
    rw [q9]
    unfold El.enc
    dsimp only [El.cells, El.vl, El.vs, El.vt, El.vi]
    go_simp
    have hlit := InS.litAt w2 [DE, x9] _ _ rfl rfl (by simp) (by
      intro e he
      simp only [List.mem_cons, List.not_mem_nil, or_false] at he
      rcases he with rfl | rfl
      · exact (HD.out.ok.keep hC.1)
      · exact hx9.ok)
    exact value_ok FT.stable hC ((Below.refl _ _).alloc (Nat.le_refl _) _) trivial (FT.lit rfl rfl hlit (by simp only [List.map_cons, List.map_nil, HD.out.strip, hx9.strip]))
  simp only [Act.put, List.setIfInBounds_toArray, List.set_cons_succ, List.set_cons_zero, Nat.reduceAdd]
  refine lex_special (by rfl) rfl (fun σ w2 hA hD hn hC => ?_) ?_
  · have e10 := got1 hA hD 10 rfl (by kernel_rfl)
    obtain ⟨es10, hin10, hst10⟩ := (hC.2 10 _ e10).2 _ rfl
    go_simp
    refine call_ok FT.stable hC ((lists_v (by rewrite [← listsV_strip, hst10]; exact known_k15) hin10).mono ?_)
    rintro e' w' ⟨rfl, hb⟩
    exact ⟨_, rfl, rfl, FT.val rfl rfl, hb⟩
  rw [n11]
  simp only [Act.put, List.setIfInBounds_toArray, List.set_cons_succ, List.set_cons_zero, Nat.reduceAdd]
  refine lex_plain (by rfl) rfl ?_
  apply Exists.intro
  refine ⟨fun σ w2 hA hD hC => ?_, ?_⟩
  · clear hA hD hC
    go_simp
    exact And.intro rfl rfl
  simp only [Act.put, List.setIfInBounds_toArray, List.set_cons_succ, List.set_cons_zero, Nat.reduceAdd]
  refine lex_plain (by rfl) rfl ?_
  apply Exists.intro
  refine ⟨fun σ w2 hA hD hC => ?_, ?_⟩
  · clear hA hD hC
    go_simp
    exact And.intro rfl rfl
  simp only [Act.put, List.setIfInBounds_toArray, List.set_cons_succ, List.set_cons_zero, Nat.reduceAdd]
  refine lex_nil (fun σ z1 hA hall hC => ?_)
  have hb := hC.1
  clear hA hall hC n5 n11
  have HB := Lib.hid (HB.out.trans (hb.mono HB.out.size))
  have HD9 := Lib.hid (HD9.out.keep hb)
  have HD := Lib.hid (HD.out.keep hb)
  clear hb
  go_wp2_with fail
  refine (node_any ⟨#[97, 98, 99]⟩ ⟨#[97, 98, 99]⟩ _ (by decide) (by decide)).mono ?_
  rintro e v31 ⟨x31, rfl, hx, hb⟩
  have HB := Lib.hid (HB.out.trans (hb.mono HB.out.size))
  have HD9 := Lib.hid (HD9.out.keep hb)
  have HD := Lib.hid (HD.out.keep hb)
  have HX31 := Lib.hid hx
  clear hb hx
  unfold El.enc
  dsimp only [El.cells, El.vl, El.vs, El.vt, El.vi]
  have hbf := Blk.new v31 40 (⟨x31.up, x31.prim, x31.ep, x31.bef, x31.leased, x31.line, x31.list, x31.told, x31.la, x31.lc, x31.sa, x31.sc, x31.ta, x31.tc, x31.ia, x31.il, x31.ic⟩ : El).cells
  have hba := (Below.refl v31.heap.size v31).alloc (Nat.le_refl _) (Obj.cells (⟨x31.up, x31.prim, x31.ep, x31.bef, x31.leased, x31.line, x31.list, x31.told, x31.la, x31.lc, x31.sa, x31.sc, x31.ta, x31.tc, x31.ia, x31.il, x31.ic⟩ : El).cells 40)
  have HBF := Lib.hid hbf
  have HBA := Lib.hid hba
  clear hbf hba
  go_wp2_with fail
  refine (names_any ⟨#[100]⟩ _ (by decide)).mono ?_
  rintro e z2 ⟨u, rfl, ho, hb⟩
  obtain ⟨nal, ncl, rfl⟩ := ho.rd.slice_
  have hbf2 := HBF.out.keep hb
  obtain ⟨ql, hql⟩ : ∃ z, z = v31.heap.size := ⟨_, rfl⟩
  have hsz : v31.heap.size + 1 ≤ (v31.alloc (Obj.cells (⟨x31.up, x31.prim, x31.ep, x31.bef, x31.leased, x31.line, x31.list, x31.told, x31.la, x31.lc, x31.sa, x31.sc, x31.ta, x31.tc, x31.ia, x31.il, x31.ic⟩ : El).cells 40)).heap.size := by simp
  have ho2 := ho.mono hsz
  have hb2 := HBA.out.trans (hb.mono HBA.out.size)
  rw [← hql] at hbf2 ho2
  rw [← hql]
  have hfz := hbf2.frozen 7
  have hc7 := hbf2.cell 7
  simp [El.cells] at hc7
  dsimp only [El.vt] at hc7
  have HQ := Lib.hid (show v31.heap.size ≤ ql from by omega)
  have hb := hb2.setCell (p := ⟨ql, 7, none⟩) HQ.out (.slice nal (namesG ⟨#[100]⟩).length ncl)
  have hfb : Blk (z2.setCell ⟨ql, 7, none⟩ (.slice nal (namesG ⟨#[100]⟩).length ncl)) ql 40 (⟨x31.up, x31.prim, x31.ep, x31.bef, x31.leased, x31.line, x31.list, namesG ⟨#[100]⟩, x31.la, x31.lc, x31.sa, x31.sc, nal, ncl, x31.ia, x31.il, x31.ic⟩ : El).cells := hbf2.set 7 (.slice nal (namesG ⟨#[100]⟩).length ncl)
  have hfn : NS (z2.setCell ⟨ql, 7, none⟩ (.slice nal (namesG ⟨#[100]⟩).length ncl)) (⟨x31.up, x31.prim, x31.ep, x31.bef, x31.leased, x31.line, x31.list, namesG ⟨#[100]⟩, x31.la, x31.lc, x31.sa, x31.sc, nal, ncl, x31.ia, x31.il, x31.ic⟩ : El) lateS := ⟨by
    have h := HX31.out
    unfold El.strip lateS
    simp only [h.up, h.prim, h.line, h.list], (HX31.out.ok.keep hb).1, (HX31.out.ok.keep hb).2.1, (ho2.above (fun y hy => setCell_other _ _ y (by simp; omega))).rd⟩
  have HB := Lib.hid (HB.out.trans (hb.mono HB.out.size))
  have HD9 := Lib.hid (HD9.out.keep hb)
  have HD := Lib.hid (HD.out.keep hb)
  have HFB := Lib.hid hfb
  have HFN := Lib.hid hfn
  clear hql hb hb2 hbf2 ho ho2 hfb hfn hsz HBF HBA HQ
  go_wp2_with fail
  generalize z2.setCell ⟨ql, 7, none⟩ (.slice nal (namesG ⟨#[100]⟩).length ncl) = z3 at *
  obtain ⟨LE, hLE⟩ : ∃ z : El, z = (⟨x31.up, x31.prim, x31.ep, x31.bef, x31.leased, x31.line, x31.list, namesG ⟨#[100]⟩, x31.la, x31.lc, x31.sa, x31.sc, nal, ncl, x31.ia, x31.il, x31.ic⟩ : El) := ⟨_, rfl⟩
  rw [← hLE] at HFB HFN
  clear hLE hfz hc7 HX31
  have HL9 := Lib.hid (show SeenAt _ ql 0 LE from ⟨HFB.out.cell 0, HFB.out.cell 1, HFB.out.cell 2, HFB.out.cell 3, HFB.out.cell 4, HFB.out.cell 5, HFB.out.cell 6, HFB.out.cell 7, HFB.out.cell 8⟩)
  have HL := HFN
  clear HFB HFN
  refine wp_region_spec (fun i => i == 0 || i == 1 || i == 2 || i == 3 || i == 4 || i == 7 || i == 8 || i == 9 || i == 10 || i == 11 || i == 15 || i == 17 || i == 18 || i == 19 || i == 20 || i == 21 || i == 22 || i == 26 || i == 28 || i == 29) (kinds [(4, .is (.int .i64 (-1))), (11, .is (.int .i64 0)), (22, .is (.int .i64 (-1))), (29, .is (.int .i64 1))]) (CF z3 (FT tn21 tl21)) (by kernel_rfl) (by kernel_rfl) (kinds_inh _) CF.start ?_
  intro ν hν
  have n4 : ν 4 = .int .i64 (-1) := hν 4
  have n11 : ν 11 = .int .i64 0 := hν 11
  have n22 : ν 22 = .int .i64 (-1) := hν 22
  have n29 : ν 29 = .int .i64 1 := hν 29
  clear hν
  refine lex_special (by rfl) rfl (fun σ w2 hA hD hn hC => ?_) ?_
  · go_simp
    refine call_ok FT.stable hC ((node_any ⟨#[]⟩ ⟨#[97, 98, 99]⟩ w2 (by decide) (by decide)).mono ?_)
    rintro e' w' ⟨x, rfl, hx, hb⟩
    exact ⟨_, rfl, trivial, FT.node rfl rfl hx.ns, hb⟩
  simp only [Act.put, List.setIfInBounds_toArray, List.set_cons_succ, List.set_cons_zero, Nat.reduceAdd]
  refine lex_special (by rfl) rfl (fun σ w2 hA hD hn hC => ?_) ?_
  · have e0 := got1 hA hD 0 rfl (by kernel_rfl)
    obtain ⟨x0, q0, hx0⟩ := (hC.2 0 _ e0).1 _ rfl
    rw [q0]
    unfold El.enc
    dsimp only [El.cells, El.vl, El.vs, El.vt, El.vi]
    go_simp
    have hlit := InS.litAt w2 [x0] _ _ rfl rfl (by simp) (by
      intro e he
      simp only [List.mem_cons, List.not_mem_nil, or_false] at he
      subst he
      exact hx0.ok)
    exact value_ok FT.stable hC ((Below.refl _ _).alloc (Nat.le_refl _) _) trivial (FT.lit rfl rfl hlit (by simp only [List.map_cons, List.map_nil, hx0.strip]))
  simp only [Act.put, List.setIfInBounds_toArray, List.set_cons_succ, List.set_cons_zero, Nat.reduceAdd]
  refine lex_special (by rfl) rfl (fun σ w2 hA hD hn hC => ?_) ?_
  · go_simp
    refine call_ok FT.stable hC ((node_any ⟨#[97, 98]⟩ ⟨#[97, 98]⟩ w2 (by decide) (by decide)).mono ?_)
    rintro e' w' ⟨x, rfl, hx, hb⟩
    exact ⟨_, rfl, trivial, FT.node rfl rfl hx.ns, hb⟩
  simp only [Act.put, List.setIfInBounds_toArray, List.set_cons_succ, List.set_cons_zero, Nat.reduceAdd]
  refine lex_special (by rfl) rfl (fun σ w2 hA hD hn hC => ?_) ?_
  · have e2 := got1 hA hD 2 rfl (by kernel_rfl)
    obtain ⟨x2, q2, hx2⟩ := (hC.2 2 _ e2).1 _ rfl
    rw [q2]
    unfold El.enc
    dsimp only [El.cells, El.vl, El.vs, El.vt, El.vi]
    go_simp
    have hlit := InS.litAt w2 [x2] _ _ rfl rfl (by simp) (by
      intro e he
      simp only [List.mem_cons, List.not_mem_nil, or_false] at he
      subst he
      exact hx2.ok)
    exact value_ok FT.stable hC ((Below.refl _ _).alloc (Nat.le_refl _) _) trivial (FT.lit rfl rfl hlit (by simp only [List.map_cons, List.map_nil, hx2.strip]))
  simp only [Act.put, List.setIfInBounds_toArray, List.set_cons_succ, List.set_cons_zero, Nat.reduceAdd]
  refine lex_special (by rfl) rfl (fun σ w2 hA hD hn hC => ?_) ?_
  · have e1 := got1 hA hD 1 rfl (by kernel_rfl)
    obtain ⟨es1, hin1, hst1⟩ := (hC.2 1 _ e1).2 _ rfl
    have e3 := got1 hA hD 3 rfl (by kernel_rfl)
    obtain ⟨es3, hin3, hst3⟩ := (hC.2 3 _ e3).2 _ rfl
    go_simp
    refine call_ok FT.stable hC ((kept_v (by rewrite [← keptV_strip, hst1, hst3]; exact known_k16) hin1 hin3).mono ?_)
    rintro e' w' ⟨rfl, hb⟩
    exact ⟨_, rfl, rfl, FT.val rfl rfl, hb⟩
  rw [n4]
  simp only [Act.put, List.setIfInBounds_toArray, List.set_cons_succ, List.set_cons_zero, Nat.reduceAdd]
  refine lex_plain (by rfl) rfl ?_
  apply Exists.intro
  refine ⟨fun σ w2 hA hD hC => ?_, ?_⟩
  · clear hA hD hC
    go_simp
    exact And.intro rfl rfl
  simp only [Act.put, List.setIfInBounds_toArray, List.set_cons_succ, List.set_cons_zero, Nat.reduceAdd]
  refine lex_plain (by rfl) rfl ?_
  apply Exists.intro
  refine ⟨fun σ w2 hA hD hC => ?_, ?_⟩
  · clear hA hD hC
    go_simp
    exact And.intro rfl rfl
  simp only [Act.put, List.setIfInBounds_toArray, List.set_cons_succ, List.set_cons_zero, Nat.reduceAdd]
  refine lex_special (by rfl) rfl (fun σ w2 hA hD hn hC => ?_) ?_
  · go_simp
    refine call_ok FT.stable hC ((node_any ⟨#[]⟩ ⟨#[97, 98]⟩ w2 (by decide) (by decide)).mono ?_)
    rintro e' w' ⟨x, rfl, hx, hb⟩
    exact ⟨_, rfl, trivial, FT.node rfl rfl hx.ns, hb⟩
  simp only [Act.put, List.setIfInBounds_toArray, List.set_cons_succ, List.set_cons_zero, Nat.reduceAdd]
  refine lex_special (by rfl) rfl (fun σ w2 hA hD hn hC => ?_) ?_
  · have e7 := got1 hA hD 7 rfl (by kernel_rfl)
    obtain ⟨x7, q7, hx7⟩ := (hC.2 7 _ e7).1 _ rfl
    rw [q7]
    unfold El.enc
    dsimp only [El.cells, El.vl, El.vs, El.vt, El.vi]
    go_simp
    have hlit := InS.litAt w2 [x7] _ _ rfl rfl (by simp) (by
      intro e he
      simp only [List.mem_cons, List.not_mem_nil, or_false] at he
      subst he
      exact hx7.ok)
    exact value_ok FT.stable hC ((Below.refl _ _).alloc (Nat.le_refl _) _) trivial (FT.lit rfl rfl hlit (by simp only [List.map_cons, List.map_nil, hx7.strip]))
  simp only [Act.put, List.setIfInBounds_toArray, List.set_cons_succ, List.set_cons_zero, Nat.reduceAdd]
  refine lex_special (by rfl) rfl (fun σ w2 hA hD hn hC => ?_) ?_
  · go_simp
    refine call_ok FT.stable hC ((node_any ⟨#[97, 98]⟩ ⟨#[97, 120]⟩ w2 (by decide) (by decide)).mono ?_)
    rintro e' w' ⟨x, rfl, hx, hb⟩
    exact ⟨_, rfl, trivial, FT.node rfl rfl hx.ns, hb⟩
  simp only [Act.put, List.setIfInBounds_toArray, List.set_cons_succ, List.set_cons_zero, Nat.reduceAdd]
  refine lex_special (by rfl) rfl (fun σ w2 hA hD hn hC => ?_) ?_
  · have e9 := got1 hA hD 9 rfl (by kernel_rfl)
    obtain ⟨x9, q9, hx9⟩ := (hC.2 9 _ e9).1 _ rfl
    rw [q9]
    unfold El.enc
    dsimp only [El.cells, El.vl, El.vs, El.vt, El.vi]
    go_simp
    have hlit := InS.litAt w2 [x9] _ _ rfl rfl (by simp) (by
      intro e he
      simp only [List.mem_cons, List.not_mem_nil, or_false] at he
      subst he
      exact hx9.ok)
    exact value_ok FT.stable hC ((Below.refl _ _).alloc (Nat.le_refl _) _) trivial (FT.lit rfl rfl hlit (by simp only [List.map_cons, List.map_nil, hx9.strip]))
  simp only [Act.put, List.setIfInBounds_toArray, List.set_cons_succ, List.set_cons_zero, Nat.reduceAdd]
  refine lex_special (by rfl) rfl (fun σ w2 hA hD hn hC => ?_) ?_
  · have e8 := got1 hA hD 8 rfl (by kernel_rfl)
    obtain ⟨es8, hin8, hst8⟩ := (hC.2 8 _ e8).2 _ rfl
    have e10 := got1 hA hD 10 rfl (by kernel_rfl)
    obtain ⟨es10, hin10, hst10⟩ := (hC.2 10 _ e10).2 _ rfl
    go_simp
    refine call_ok FT.stable hC ((kept_v (by rewrite [← keptV_strip, hst8, hst10]; exact known_k17) hin8 hin10).mono ?_)
    rintro e' w' ⟨rfl, hb⟩
    exact ⟨_, rfl, rfl, FT.val rfl rfl, hb⟩
  rw [n11]
  simp only [Act.put, List.setIfInBounds_toArray, List.set_cons_succ, List.set_cons_zero, Nat.reduceAdd]
  refine lex_plain (by rfl) rfl ?_
  apply Exists.intro
  refine ⟨fun σ w2 hA hD hC => ?_, ?_⟩
  · clear hA hD hC
    go_simp
    exact And.intro rfl rfl
  simp only [Act.put, List.setIfInBounds_toArray, List.set_cons_succ, List.set_cons_zero, Nat.reduceAdd]
  refine lex_plain (by rfl) rfl ?_
  apply Exists.intro
  refine ⟨fun σ w2 hA hD hC => ?_, ?_⟩
  · clear hA hD hC
    go_simp
    exact And.intro rfl rfl
  simp only [Act.put, List.setIfInBounds_toArray, List.set_cons_succ, List.set_cons_zero, Nat.reduceAdd]
  refine lex_plain (by rfl) rfl ?_
  apply Exists.intro
  refine ⟨fun σ w2 hA hD hC => ?_, ?_⟩
  · clear hA hD hC
    go_simp
    exact And.intro rfl rfl
  simp only [Act.put, List.setIfInBounds_toArray, List.set_cons_succ, List.set_cons_zero, Nat.reduceAdd]
  refine lex_special (by rfl) rfl (fun σ w2 hA hD hn hC => ?_) ?_
  · go_simp
    refine call_ok FT.stable hC ((node_any ⟨#[]⟩ ⟨#[97, 98]⟩ w2 (by decide) (by decide)).mono ?_)
    rintro e' w' ⟨x, rfl, hx, hb⟩
    exact ⟨_, rfl, trivial, FT.node rfl rfl hx.ns, hb⟩
  simp only [Act.put, List.setIfInBounds_toArray, List.set_cons_succ, List.set_cons_zero, Nat.reduceAdd]
  refine lex_plain (by rfl) rfl ?_
  apply Exists.intro
  refine ⟨fun σ w2 hA hD hC => ?_, ?_⟩
  · obtain ⟨z0, z1, z2, z3, z4, z5, z6, z7, z8⟩ := HD9.out.keep hC.1
    simp only [Nat.zero_add] at z0 z1 z2 z3 z4 z5 z6 z7 z8
    dsimp only [El.vl, El.vs, El.vt, El.vi] at z5 z6 z7 z8
    clear hA hD hC
    go_simp
    exact And.intro rfl rfl
  simp only [Act.put, List.setIfInBounds_toArray, List.set_cons_succ, List.set_cons_zero, Nat.reduceAdd]
  refine lex_special (by rfl) rfl (fun σ w2 hA hD hn hC => ?_) ?_
  · have e15 := got1 hA hD 15 rfl (by kernel_rfl)
    obtain ⟨x15, q15, hx15⟩ := (hC.2 15 _ e15).1 _ rfl
    rw [q15]
    unfold El.enc
    dsimp only [El.cells, El.vl, El.vs, El.vt, El.vi]
    go_simp
    have hlit := InS.litAt w2 [x15, DE] _ _ rfl rfl (by simp) (by
      intro e he
      simp only [List.mem_cons, List.not_mem_nil, or_false] at he
      rcases he with rfl | rfl
      · exact hx15.ok
      · exact (HD.out.ok.keep hC.1))
    exact value_ok FT.stable hC ((Below.refl _ _).alloc (Nat.le_refl _) _) trivial (FT.lit rfl rfl hlit (by simp only [List.map_cons, List.map_nil, hx15.strip, HD.out.strip]))
  simp only [Act.put, List.setIfInBounds_toArray, List.set_cons_succ, List.set_cons_zero, Nat.reduceAdd]
  refine lex_special (by rfl) rfl (fun σ w2 hA hD hn hC => ?_) ?_
  · go_simp
    refine call_ok FT.stable hC ((node_any ⟨#[97, 98]⟩ ⟨#[97, 98]⟩ w2 (by decide) (by decide)).mono ?_)
    rintro e' w' ⟨x, rfl, hx, hb⟩
    exact ⟨_, rfl, trivial, FT.node rfl rfl hx.ns, hb⟩
  simp only [Act.put, List.setIfInBounds_toArray, List.set_cons_succ, List.set_cons_zero, Nat.reduceAdd]
  refine lex_special (by rfl) rfl (fun σ w2 hA hD hn hC => ?_) ?_
  · go_simp
    refine call_ok FT.stable hC ((node_any ⟨#[97, 98]⟩ ⟨#[]⟩ w2 (by decide) (by decide)).mono ?_)
    rintro e' w' ⟨x, rfl, hx, hb⟩
    exact ⟨_, rfl, trivial, FT.node rfl rfl hx.ns, hb⟩
  simp only [Act.put, List.setIfInBounds_toArray, List.set_cons_succ, List.set_cons_zero, Nat.reduceAdd]
  refine lex_special (by rfl) rfl (fun σ w2 hA hD hn hC => ?_) ?_
  · go_simp
    refine call_ok FT.stable hC ((node_any ⟨#[]⟩ ⟨#[]⟩ w2 (by decide) (by decide)).mono ?_)
    rintro e' w' ⟨x, rfl, hx, hb⟩
    exact ⟨_, rfl, trivial, FT.node rfl rfl hx.ns, hb⟩
  simp only [Act.put, List.setIfInBounds_toArray, List.set_cons_succ, List.set_cons_zero, Nat.reduceAdd]
  refine lex_special (by rfl) rfl (fun σ w2 hA hD hn hC => ?_) ?_
  · have e18 := got1 hA hD 18 rfl (by kernel_rfl)
    obtain ⟨x18, q18, hx18⟩ := (hC.2 18 _ e18).1 _ rfl
    have e19 := got1 hA hD 19 rfl (by kernel_rfl)
    obtain ⟨x19, q19, hx19⟩ := (hC.2 19 _ e19).1 _ rfl
    have e20 := got1 hA hD 20 rfl (by kernel_rfl)
    obtain ⟨x20, q20, hx20⟩ := (hC.2 20 _ e20).1 _ rfl
    rw [q18]
    rw [q19]
    rw [q20]
    unfold El.enc
    dsimp only [El.cells, El.vl, El.vs, El.vt, El.vi]
    go_simp
    have hlit := InS.litAt w2 [x18, x19, x20] _ _ rfl rfl (by simp) (by
      intro e he
      simp only [List.mem_cons, List.not_mem_nil, or_false] at he
      rcases he with rfl | rfl | rfl
      · exact hx18.ok
      · exact hx19.ok
      · exact hx20.ok)
    exact value_ok FT.stable hC ((Below.refl _ _).alloc (Nat.le_refl _) _) trivial (FT.lit rfl rfl hlit (by simp only [List.map_cons, List.map_nil, hx18.strip, hx19.strip, hx20.strip]))
  simp only [Act.put, List.setIfInBounds_toArray, List.set_cons_succ, List.set_cons_zero, Nat.reduceAdd]
  refine lex_special (by rfl) rfl (fun σ w2 hA hD hn hC => ?_) ?_
  · have e17 := got1 hA hD 17 rfl (by kernel_rfl)
    obtain ⟨es17, hin17, hst17⟩ := (hC.2 17 _ e17).2 _ rfl
    have e21 := got1 hA hD 21 rfl (by kernel_rfl)
    obtain ⟨es21, hin21, hst21⟩ := (hC.2 21 _ e21).2 _ rfl
    go_simp
    refine call_ok FT.stable hC ((kept_v (by rewrite [← keptV_strip, hst17, hst21]; exact known_k18) hin17 hin21).mono ?_)
    rintro e' w' ⟨rfl, hb⟩
    exact ⟨_, rfl, rfl, FT.val rfl rfl, hb⟩
  rw [n22]
  simp only [Act.put, List.setIfInBounds_toArray, List.set_cons_succ, List.set_cons_zero, Nat.reduceAdd]
  refine lex_plain (by rfl) rfl ?_
  apply Exists.intro
  refine ⟨fun σ w2 hA hD hC => ?_, ?_⟩
  · clear hA hD hC
    go_simp
    exact And.intro rfl rfl
  simp only [Act.put, List.setIfInBounds_toArray, List.set_cons_succ, List.set_cons_zero, Nat.reduceAdd]
  refine lex_plain (by rfl) rfl ?_
  apply Exists.intro
  refine ⟨fun σ w2 hA hD hC => ?_, ?_⟩
  · clear hA hD hC
    go_simp
    exact And.intro rfl rfl
  simp only [Act.put, List.setIfInBounds_toArray, List.set_cons_succ, List.set_cons_zero, Nat.reduceAdd]
  refine lex_plain (by rfl) rfl ?_
  apply Exists.intro
  refine ⟨fun σ w2 hA hD hC => ?_, ?_⟩
  · clear hA hD hC
    go_simp
    exact And.intro rfl rfl
  simp only [Act.put, List.setIfInBounds_toArray, List.set_cons_succ, List.set_cons_zero, Nat.reduceAdd]
  refine lex_special (by rfl) rfl (fun σ w2 hA hD hn hC => ?_) ?_
  · go_simp
    refine call_ok FT.stable hC ((node_any ⟨#[]⟩ ⟨#[]⟩ w2 (by decide) (by decide)).mono ?_)
    rintro e' w' ⟨x, rfl, hx, hb⟩
    exact ⟨_, rfl, trivial, FT.node rfl rfl hx.ns, hb⟩
  simp only [Act.put, List.setIfInBounds_toArray, List.set_cons_succ, List.set_cons_zero, Nat.reduceAdd]
  refine lex_plain (by rfl) rfl ?_
  apply Exists.intro
  refine ⟨fun σ w2 hA hD hC => ?_, ?_⟩
  · obtain ⟨z0, z1, z2, z3, z4, z5, z6, z7, z8⟩ := HL9.out.keep hC.1
    simp only [Nat.zero_add] at z0 z1 z2 z3 z4 z5 z6 z7 z8
    dsimp only [El.vl, El.vs, El.vt, El.vi] at z5 z6 z7 z8
    clear hA hD hC
    go_simp
    exact And.intro rfl rfl
  simp only [Act.put, List.setIfInBounds_toArray, List.set_cons_succ, List.set_cons_zero, Nat.reduceAdd]
  refine lex_special (by rfl) rfl (fun σ w2 hA hD hn hC => ?_) ?_
  · have e26 := got1 hA hD 26 rfl (by kernel_rfl)
    obtain ⟨x26, q26, hx26⟩ := (hC.2 26 _ e26).1 _ rfl
    rw [q26]
    unfold El.enc
    dsimp only [El.cells, El.vl, El.vs, El.vt, El.vi]
    go_simp
    have hlit := InS.litAt w2 [x26, LE] _ _ rfl rfl (by simp) (by
      intro e he
      simp only [List.mem_cons, List.not_mem_nil, or_false] at he
      rcases he with rfl | rfl
      · exact hx26.ok
      · exact (HL.out.ok.keep hC.1))
    exact value_ok FT.stable hC ((Below.refl _ _).alloc (Nat.le_refl _) _) trivial (FT.lit rfl rfl hlit (by simp only [List.map_cons, List.map_nil, hx26.strip, HL.out.strip]))
  simp only [Act.put, List.setIfInBounds_toArray, List.set_cons_succ, List.set_cons_zero, Nat.reduceAdd]
  refine lex_special (by rfl) rfl (fun σ w2 hA hD hn hC => ?_) ?_
  · have e28 := got1 hA hD 28 rfl (by kernel_rfl)
    obtain ⟨es28, hin28, hst28⟩ := (hC.2 28 _ e28).2 _ rfl
    go_simp
    refine call_ok FT.stable hC ((told_v (by rewrite [← toldV_strip, hst28]; exact known_k19) hin28).mono ?_)
    rintro e' w' ⟨rfl, hb⟩
    exact ⟨_, rfl, rfl, FT.val rfl rfl, hb⟩
  rw [n29]
  simp only [Act.put, List.setIfInBounds_toArray, List.set_cons_succ, List.set_cons_zero, Nat.reduceAdd]
  refine lex_plain (by rfl) rfl ?_
  apply Exists.intro
  refine ⟨fun σ w2 hA hD hC => ?_, ?_⟩
  · clear hA hD hC
    go_simp
    exact And.intro rfl rfl
  simp only [Act.put, List.setIfInBounds_toArray, List.set_cons_succ, List.set_cons_zero, Nat.reduceAdd]
  refine lex_plain (by rfl) rfl ?_
  apply Exists.intro
  refine ⟨fun σ w2 hA hD hC => ?_, ?_⟩
  · clear hA hD hC
    go_simp
    exact And.intro rfl rfl
  simp only [Act.put, List.setIfInBounds_toArray, List.set_cons_succ, List.set_cons_zero, Nat.reduceAdd]
  refine lex_nil (fun σ z4 hA hall hC => ?_)
  have hb := hC.1
  clear hA hall hC n4 n11 n22 n29
  have HB := Lib.hid (HB.out.trans (hb.mono HB.out.size))
  clear hb HD9 HD HL9 HL
  go_wp2_with fail
  refine (works_any _).mono ?_
  rintro e z5 ⟨rfl, hb⟩
  have HB := Lib.hid (HB.out.trans (hb.mono HB.out.size))
  clear hb
  go_wp2
  go_ret
  exact ⟨rfl, HB.out⟩
end Go.Proofs.Yteplcpiamocclaa
