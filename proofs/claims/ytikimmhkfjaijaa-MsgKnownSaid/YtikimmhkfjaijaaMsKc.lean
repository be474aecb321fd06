/-
  MESSAGES: the closed law MsgKnown, walked (printed by wip/gen-mskc.py).
-/
import Derived.Test.YtikimmhkfjaijaaGK
import Derived.Deep.LoopGhost
import Derived.Deep.CutRange
import Derived.Deep.CutBlock
import Derived.Deep.MidRow
namespace Go.Proofs.Ytikimmhkfjaijaa
open Go.RowKit Reg Go.ChangeShapes

theorem special_eq {P : Program} {p : Value → Prop} {C : Value → World → Prop} {r r' : Result Next} (h : r = r') (hs : SpecialOK P p C r') : SpecialOK P p C r := by rw [h]; exact hs
theorem checkM_zero {m : Ms} : checkM m = 0 ↔ checkB m = true := by
  unfold checkM
  cases checkB m <;> simp
theorem arr_map_range {f : Nat → Value} {N : Nat} {l : List Value} (h : (List.range N).map f = l) : Array.map f (Array.range N) = l.toArray := by
  apply Array.toList_inj.1
  rw [Array.toList_map, Array.toList_range, h]
theorem InE_nil (w : World) : InE w (.slice none 0 0) [] := ⟨none, 0, rfl, .inl rfl, Nat.zero_le _, (fun e he => by cases he), fun j hj => by cases hj⟩
theorem wf_known : ∀ m ∈ goodMs ++ badMs, wfM m ∧ (∀ e ∈ m.es, wfE e) ∧ ∀ g ∈ m.l.l, wfG g := by
  intro m hm
  refine wfB_of ?_
  have h : ((goodMs ++ badMs).all wfB) = true := by decide +kernel
  exact List.all_eq_true.1 h m hm
theorem wf_gm (k : Nat) (m : Ms) (h : (goodMs ++ badMs)[k]? = some m) : wfM m := (wf_known m (List.mem_of_getElem? h)).1
/-- the literals of messages, laid: the good ones, the bad ones -/
theorem known_start (w : World) :
    ∀ w5, w5 = (((((w.alloc (Obj.cells #[.int .u64 1, .int .u64 1] 28)).alloc (Obj.cells #[.int .u64 1, .int .u64 1] 28)).alloc (Obj.cells #[.int .u64 1, .int .i64 1, .bool true, .slice (some ⟨w.heap.size + 1, 0, none⟩) 1 1] 26)).alloc (Obj.cells #[.int .u64 0, .int .u64 0, .int .u64 1, .int .u64 1, .int .i64 0, .int .i64 0, .slice none 0 0] 31)).alloc (Obj.cells #[.int .u64 2, .int .i64 1, .int .u64 0, .int .u64 0] 50)) → (Blk w5 w.heap.size 28 #[.int .u64 1, .int .u64 1] ∧ InG w5 (.slice (some ⟨w.heap.size + 1, 0, none⟩) 1 1) [(1, 1)] ∧ Blk w5 (w.heap.size + 2) 26 #[.int .u64 1, .int .i64 1, .bool true, .slice (some ⟨w.heap.size + 1, 0, none⟩) 1 1] ∧
      Blk w5 (w.heap.size + 3) 31 #[.int .u64 0, .int .u64 0, .int .u64 1, .int .u64 1, .int .i64 0, .int .i64 0, .slice none 0 0] ∧ Blk w5 (w.heap.size + 4) 50 #[.int .u64 2, .int .i64 1, .int .u64 0, .int .u64 0] ∧ Below w.heap.size w w5) := by
  rintro w5 rfl
  have h2 : InG ((w.alloc (Obj.cells #[.int .u64 1, .int .u64 1] 28)).alloc (Obj.cells #[.int .u64 1, .int .u64 1] 28)) (.slice (some ⟨w.heap.size + 1, 0, none⟩) 1 1) [(1, 1)] :=
    InG.litAt (w.alloc (Obj.cells #[.int .u64 1, .int .u64 1] 28)) [(1, 1)] _ (w.heap.size + 1) (by simp) rfl (by decide) (by intro z hz; rw [List.mem_singleton.1 hz]; exact ⟨rfl, rfl⟩)
  refine ⟨((((Blk.new w _ _).alloc _).alloc _).alloc _).alloc _, ?_, (((Blk.newAt _ _ (by simp)).alloc _).alloc _), ((Blk.newAt _ _ (by simp)).alloc _), Blk.newAt _ _ (by simp), ?_⟩
  · exact ((h2.keep ((Below.refl _ _).alloc (Nat.le_refl _) _)).keep ((Below.refl _ _).alloc (Nat.le_refl _) _)).keep ((Below.refl _ _).alloc (Nat.le_refl _) _)
  · exact (((((Below.refl w.heap.size w).alloc (Nat.le_refl _) _).alloc (by simp) _).alloc (by simp; omega) _).alloc (by simp; omega) _).alloc (by simp; omega) _
set_option maxRecDepth 100000 in
set_option maxHeartbeats 16000000 in
theorem law_MsgKnown (w : World) : Calls Try.prog 6 #[] w fun e w' => e = .returned (.bool true) ∧ Below w.heap.size w w' := by
  have HST := Lib.hid (known_start w)
  go_enter Try.func6, Try.ntmps6
  go_upto_region 5 with fail
  obtain ⟨h1, hg, h2, h3, h4, hb⟩ := HST.out _ rfl
  generalize (((((w.alloc (Obj.cells #[.int .u64 1, .int .u64 1] 28)).alloc (Obj.cells #[.int .u64 1, .int .u64 1] 28)).alloc (Obj.cells #[.int .u64 1, .int .i64 1, .bool true, .slice (some ⟨w.heap.size + 1, 0, none⟩) 1 1] 26)).alloc (Obj.cells #[.int .u64 0, .int .u64 0, .int .u64 1, .int .u64 1, .int .i64 0, .int .i64 0, .slice none 0 0] 31)).alloc (Obj.cells #[.int .u64 2, .int .i64 1, .int .u64 0, .int .u64 0] 50)) = w5 at *
  have H1 := Lib.hid h1
  have HG := Lib.hid hg
  have H2 := Lib.hid h2
  have H3 := Lib.hid h3
  have H4 := Lib.hid h4
  have HB := Lib.hid hb
  clear HST h1 hg h2 h3 h4 hb
  go_cut [5] from 28 to 50 (fun a wx => ∃ g5, a = .slice (some ⟨g5, 0, none⟩) 13 13 ∧ (∀ (k : Nat) (m : Ms), goodMs[k]? = some m → RowM wx g5 k m) ∧ Below w5.heap.size w5 wx)
  case first =>
    refine wp_region_spec (fun i => i == 2 || i == 5 || i == 22) (kv [(2, .is (.agg (msV voteM))), (5, .sl 1), (22, .sl 13)]) (CF w5 (FMof [(2, .none_), (5, .e [⟨2, 1, (0, 0)⟩]), (22, .r goodMs)])) (by kernel_rfl) (by kernel_rfl) (kv_inh _) CF.start ?_
    intro ν hν
    have n2 : ν 2 = (.agg (msV voteM)) := hν 2
    obtain ⟨g5, n5⟩ : ∃ g, ν 5 = .slice (some ⟨g, 0, none⟩) 1 1 := hν 5
    obtain ⟨g22, n22⟩ : ∃ g, ν 22 = .slice (some ⟨g, 0, none⟩) 13 13 := hν 22
    clear hν
    refine lex_plain (by rfl) rfl ⟨.agg (msV gm0), fun σ w2 hA hD hC => ?_, ?_⟩
    · clear hA hD hC
      go_simp
      exact And.intro rfl rfl
    simp only [Act.put, List.setIfInBounds_toArray, List.set_cons_succ, List.set_cons_zero, Nat.reduceAdd]
    refine lex_plain (by rfl) rfl ⟨.agg (msV gm1), fun σ w2 hA hD hC => ?_, ?_⟩
    · clear hA hD hC
      go_simp
      exact And.intro rfl rfl
    simp only [Act.put, List.setIfInBounds_toArray, List.set_cons_succ, List.set_cons_zero, Nat.reduceAdd]
    refine lex_special (by rfl) rfl (fun σ w2 hA hD hn hC => ?_) ?_
    · go_simp
      exact call_ok (FM.stable _) hC ((mvote_any w2).mono fun e w3 h => ⟨_, h.1, rfl, trivial, h.2⟩)
    rw [n2]
    simp only [Act.put, List.setIfInBounds_toArray, List.set_cons_succ, List.set_cons_zero, Nat.reduceAdd]
    refine lex_plain (by rfl) rfl ⟨.agg (msV gm3), fun σ w2 hA hD hC => ?_, ?_⟩
    · clear hA hD hC
      go_simp
      exact And.intro rfl rfl
    simp only [Act.put, List.setIfInBounds_toArray, List.set_cons_succ, List.set_cons_zero, Nat.reduceAdd]
    refine lex_plain (by rfl) rfl ⟨.agg #[.int .u64 2, .int .i64 1, .int .u64 0, .int .u64 0], fun σ w2 hA hD hC => ?_, ?_⟩
    · have hk := H4.out.keep hC.1
      have y0 := hk.cell 0
      have y1 := hk.cell 1
      have y2 := hk.cell 2
      have y3 := hk.cell 3
      simp at y0 y1 y2 y3
      clear hk
      clear hA hD hC
      go_simp
      exact And.intro rfl rfl
    simp only [Act.put, List.setIfInBounds_toArray, List.set_cons_succ, List.set_cons_zero, Nat.reduceAdd]
    refine lex_special (by rfl) rfl (fun σ w2 hA hD hn hC => ?_) ?_
    · go_simp
      exact value_ok (FM.stable _) hC ((Below.refl _ _).alloc (Nat.le_refl _) _) ⟨_, rfl⟩ (ine_lit w2 ⟨2, 1, (0, 0)⟩ _ rfl ⟨rfl, rfl, rfl, rfl⟩)
    simp only [Act.put, List.setIfInBounds_toArray, List.set_cons_succ, List.set_cons_zero, Nat.reduceAdd]
    refine lex_plain (by rfl) rfl ⟨.agg (msA gm4 (ν 5) (.slice none 0 0) (.slice none 0 0)), fun σ w2 hA hD hC => ?_, ?_⟩
    · clear hA hD hC
      go_simp
      exact And.intro rfl rfl
    simp only [Act.put, List.setIfInBounds_toArray, List.set_cons_succ, List.set_cons_zero, Nat.reduceAdd]
    refine lex_plain (by rfl) rfl ⟨.agg (msV gm5), fun σ w2 hA hD hC => ?_, ?_⟩
    · clear hA hD hC
      go_simp
      exact And.intro rfl rfl
    simp only [Act.put, List.setIfInBounds_toArray, List.set_cons_succ, List.set_cons_zero, Nat.reduceAdd]
    refine lex_plain (by rfl) rfl ⟨.agg (msV gm6), fun σ w2 hA hD hC => ?_, ?_⟩
    · clear hA hD hC
      go_simp
      exact And.intro rfl rfl
    simp only [Act.put, List.setIfInBounds_toArray, List.set_cons_succ, List.set_cons_zero, Nat.reduceAdd]
    refine lex_plain (by rfl) rfl ⟨.agg (msV gm7), fun σ w2 hA hD hC => ?_, ?_⟩
    · clear hA hD hC
      go_simp
      exact And.intro rfl rfl
    simp only [Act.put, List.setIfInBounds_toArray, List.set_cons_succ, List.set_cons_zero, Nat.reduceAdd]
    refine lex_plain (by rfl) rfl ⟨.agg #[.int .u64 1, .int .i64 1, .bool true, .slice (some ⟨w.heap.size + 1, 0, none⟩) 1 1], fun σ w2 hA hD hC => ?_, ?_⟩
    · have hk := H2.out.keep hC.1
      have y0 := hk.cell 0
      have y1 := hk.cell 1
      have y2 := hk.cell 2
      have y3 := hk.cell 3
      simp at y0 y1 y2 y3
      clear hk
      clear hA hD hC
      go_simp
      exact And.intro rfl rfl
    simp only [Act.put, List.setIfInBounds_toArray, List.set_cons_succ, List.set_cons_zero, Nat.reduceAdd]
    refine lex_plain (by rfl) rfl ⟨.agg #[.int .u64 1, .int .u64 1], fun σ w2 hA hD hC => ?_, ?_⟩
    · have hk := H1.out.keep hC.1
      have y0 := hk.cell 0
      have y1 := hk.cell 1
      simp at y0 y1
      clear hk
      clear hA hD hC
      go_simp
      exact And.intro rfl rfl
    simp only [Act.put, List.setIfInBounds_toArray, List.set_cons_succ, List.set_cons_zero, Nat.reduceAdd]
    refine lex_plain (by rfl) rfl ⟨.agg #[.int .u64 1, .int .u64 2], fun σ w2 hA hD hC => ?_, ?_⟩
    · clear hA hD hC
      go_simp
      exact And.intro rfl rfl
    simp only [Act.put, List.setIfInBounds_toArray, List.set_cons_succ, List.set_cons_zero, Nat.reduceAdd]
    refine lex_plain (by rfl) rfl ⟨.agg (msA gm8 (.slice none 0 0) (.slice (some ⟨w.heap.size + 1, 0, none⟩) 1 1) (.slice none 0 0)), fun σ w2 hA hD hC => ?_, ?_⟩
    · clear hA hD hC
      go_simp
      exact And.intro rfl rfl
    simp only [Act.put, List.setIfInBounds_toArray, List.set_cons_succ, List.set_cons_zero, Nat.reduceAdd]
    refine lex_plain (by rfl) rfl ⟨.agg #[.int .u64 1, .int .u64 1], fun σ w2 hA hD hC => ?_, ?_⟩
    · have hk := H1.out.keep hC.1
      have y0 := hk.cell 0
      have y1 := hk.cell 1
      simp at y0 y1
      clear hk
      clear hA hD hC
      go_simp
      exact And.intro rfl rfl
    simp only [Act.put, List.setIfInBounds_toArray, List.set_cons_succ, List.set_cons_zero, Nat.reduceAdd]
    refine lex_plain (by rfl) rfl ⟨.agg (msV gm9), fun σ w2 hA hD hC => ?_, ?_⟩
    · clear hA hD hC
      go_simp
      exact And.intro rfl rfl
    simp only [Act.put, List.setIfInBounds_toArray, List.set_cons_succ, List.set_cons_zero, Nat.reduceAdd]
    refine lex_plain (by rfl) rfl ⟨.agg #[.int .u64 1, .int .i64 1, .bool true, .slice (some ⟨w.heap.size + 1, 0, none⟩) 1 1], fun σ w2 hA hD hC => ?_, ?_⟩
    · have hk := H2.out.keep hC.1
      have y0 := hk.cell 0
      have y1 := hk.cell 1
      have y2 := hk.cell 2
      have y3 := hk.cell 3
      simp at y0 y1 y2 y3
      clear hk
      clear hA hD hC
      go_simp
      exact And.intro rfl rfl
    simp only [Act.put, List.setIfInBounds_toArray, List.set_cons_succ, List.set_cons_zero, Nat.reduceAdd]
    refine lex_plain (by rfl) rfl ⟨.agg #[.int .u64 0, .int .u64 0, .int .u64 1, .int .u64 1, .int .i64 0, .int .i64 0, .slice none 0 0], fun σ w2 hA hD hC => ?_, ?_⟩
    · have hk := H3.out.keep hC.1
      have y0 := hk.cell 0
      have y1 := hk.cell 1
      have y2 := hk.cell 2
      have y3 := hk.cell 3
      have y4 := hk.cell 4
      have y5 := hk.cell 5
      have y6 := hk.cell 6
      simp at y0 y1 y2 y3 y4 y5 y6
      clear hk
      clear hA hD hC
      go_simp
      exact And.intro rfl rfl
    simp only [Act.put, List.setIfInBounds_toArray, List.set_cons_succ, List.set_cons_zero, Nat.reduceAdd]
    refine lex_plain (by rfl) rfl ⟨.agg (msA gm10 (.slice none 0 0) (.slice (some ⟨w.heap.size + 1, 0, none⟩) 1 1) (.slice none 0 0)), fun σ w2 hA hD hC => ?_, ?_⟩
    · clear hA hD hC
      go_simp
      exact And.intro rfl rfl
    simp only [Act.put, List.setIfInBounds_toArray, List.set_cons_succ, List.set_cons_zero, Nat.reduceAdd]
    refine lex_plain (by rfl) rfl ⟨.agg #[.int .u64 1, .int .i64 1, .bool true, .slice (some ⟨w.heap.size + 1, 0, none⟩) 1 1], fun σ w2 hA hD hC => ?_, ?_⟩
    · have hk := H2.out.keep hC.1
      have y0 := hk.cell 0
      have y1 := hk.cell 1
      have y2 := hk.cell 2
      have y3 := hk.cell 3
      simp at y0 y1 y2 y3
      clear hk
      clear hA hD hC
      go_simp
      exact And.intro rfl rfl
    simp only [Act.put, List.setIfInBounds_toArray, List.set_cons_succ, List.set_cons_zero, Nat.reduceAdd]
    refine lex_plain (by rfl) rfl ⟨.agg (msA gm11 (.slice none 0 0) (.slice (some ⟨w.heap.size + 1, 0, none⟩) 1 1) (.slice none 0 0)), fun σ w2 hA hD hC => ?_, ?_⟩
    · clear hA hD hC
      go_simp
      exact And.intro rfl rfl
    simp only [Act.put, List.setIfInBounds_toArray, List.set_cons_succ, List.set_cons_zero, Nat.reduceAdd]
    refine lex_plain (by rfl) rfl ⟨.agg (msV gm12), fun σ w2 hA hD hC => ?_, ?_⟩
    · clear hA hD hC
      go_simp
      exact And.intro rfl rfl
    simp only [Act.put, List.setIfInBounds_toArray, List.set_cons_succ, List.set_cons_zero, Nat.reduceAdd]
    refine lex_special (by rfl) rfl (fun σ w2 hA hD hn hC => ?_) ?_
    · have e5 := gq2 hA hD 5 6 rfl (by kernel_rfl) (by kernel_rfl) (by decide)
      have f5 := hC.2 5 _ e5
      obtain ⟨cells, hr, hrow⟩ := rows_lit w2 [.agg (msV gm0), .agg (msV gm1), .agg (msV voteM), .agg (msV gm3), .agg (msA gm4 (ν 5) (.slice none 0 0) (.slice none 0 0)), .agg (msV gm5), .agg (msV gm6), .agg (msV gm7), .agg (msA gm8 (.slice none 0 0) (.slice (some ⟨w.heap.size + 1, 0, none⟩) 1 1) (.slice none 0 0)), .agg (msV gm9), .agg (msA gm10 (.slice none 0 0) (.slice (some ⟨w.heap.size + 1, 0, none⟩) 1 1) (.slice none 0 0)), .agg (msA gm11 (.slice none 0 0) (.slice (some ⟨w.heap.size + 1, 0, none⟩) 1 1) (.slice none 0 0)), .agg (msV gm12)] goodMs 13 rfl (by decide) (by decide) ⟨lit_in w2 rfl rfl rfl (wf_gm 0 _ rfl), lit_in w2 rfl rfl rfl (wf_gm 1 _ rfl), lit_in w2 rfl rfl rfl voteM_wf, lit_in w2 rfl rfl rfl (wf_gm 3 _ rfl), ⟨_, _, _, rfl, f5, InG.nil_ w2, InC.nil_ _ _ _, wf_gm 4 _ rfl⟩, lit_in w2 rfl rfl rfl (wf_gm 5 _ rfl), lit_in w2 rfl rfl rfl (wf_gm 6 _ rfl), lit_in w2 rfl rfl rfl (wf_gm 7 _ rfl), ⟨_, _, _, rfl, InE_nil w2, HG.out.keep hC.1, InC.nil_ _ _ _, wf_gm 8 _ rfl⟩, lit_in w2 rfl rfl rfl (wf_gm 9 _ rfl), ⟨_, _, _, rfl, InE_nil w2, HG.out.keep hC.1, InC.nil_ _ _ _, wf_gm 10 _ rfl⟩, ⟨_, _, _, rfl, InE_nil w2, HG.out.keep hC.1, InC.nil_ _ _ _, wf_gm 11 _ rfl⟩, lit_in w2 rfl rfl rfl (wf_gm 12 _ rfl), trivial⟩
      refine special_eq (exec_buildSlice 52 13 _ rfl _ ?_ _ hr) ?_
      · rfl
      exact value_ok (FM.stable _) hC ((Below.refl _ _).alloc (Nat.le_refl _) _) ⟨_, rfl⟩ ⟨_, _, rfl, hrow⟩
    simp only [Act.put, List.setIfInBounds_toArray, List.set_cons_succ, List.set_cons_zero, Nat.reduceAdd]
    refine lex_plain (by rfl) rfl ?_
    apply Exists.intro
    refine ⟨fun σ w2 hA hD hC => ?_, ?_⟩
    · clear hA hD hC
      go_simp
      exact And.intro rfl rfl
    simp only [Act.put, List.setIfInBounds_toArray, List.set_cons_succ, List.set_cons_zero, Nat.reduceAdd]
    refine lex_nil (fun σ w6 hA hall hC => ?_)
    have hfin := hC.2 22 _ (hall 22 rfl (by decide))
    obtain ⟨gg, nn, e1, hrow⟩ := hfin
    rw [n22] at e1
    simp only [Value.slice.injEq, Option.some.injEq, Addr.mk.injEq, and_true] at e1
    obtain ⟨rfl, rfl, -⟩ := e1
    rw [n22]
    go_wp2_with fail
    go_meet
    exact ⟨_, rfl, hrow, hC.1⟩
  case rest =>
  obtain ⟨g5, rfl, hgood, hbel⟩ := hcut
  have HGOOD := Lib.hid hgood
  replace H1 := Lib.hid (H1.out.keep hbel)
  replace HG := Lib.hid (HG.out.keep hbel)
  replace H2 := Lib.hid (H2.out.keep hbel)
  replace H3 := Lib.hid (H3.out.keep hbel)
  replace H4 := Lib.hid (H4.out.keep hbel)
  replace HB := Lib.hid (HB.out.trans (hbel.mono HB.out.size))
  clear hgood hbel
  obtain ⟨w6, hw6⟩ : ∃ w6 : World, w6 = wc := ⟨_, rfl⟩
  subst hw6
  go_upto_region 6 with fail
  go_cut [6] from 51 to 116 (fun a wx => ∃ g6, a = .slice (some ⟨g6, 0, none⟩) 39 39 ∧ (∀ (k : Nat) (m : Ms), badMs[k]? = some m → RowM wx g6 k m) ∧ Below w6.heap.size w6 wx)
  case first =>
    refine wp_region_spec (fun i => i == 14 || i == 17 || i == 20 || i == 22 || i == 25 || i == 61 || i == 65) (kv [(14, .sl 1), (17, .sl 1), (20, .sl 1), (22, .sl 9), (25, .sl 1), (61, .sl 1), (65, .sl 39)]) (CF w6 (FMof [(14, .e [⟨2, 1, (0, 0)⟩]), (17, .e [⟨2, 1, (0, 0)⟩]), (20, .e [⟨2, 1, (0, 0)⟩]), (22, .e (List.replicate 9 en0)), (25, .e [⟨2, 0, (0, 0)⟩]), (61, .g [(1, 1)]), (65, .r badMs)])) (by kernel_rfl) (by kernel_rfl) (kv_inh _) CF.start ?_
    intro ν hν
    obtain ⟨g14, n14⟩ : ∃ g, ν 14 = .slice (some ⟨g, 0, none⟩) 1 1 := hν 14
    obtain ⟨g17, n17⟩ : ∃ g, ν 17 = .slice (some ⟨g, 0, none⟩) 1 1 := hν 17
    obtain ⟨g20, n20⟩ : ∃ g, ν 20 = .slice (some ⟨g, 0, none⟩) 1 1 := hν 20
    obtain ⟨g22, n22⟩ : ∃ g, ν 22 = .slice (some ⟨g, 0, none⟩) 9 9 := hν 22
    obtain ⟨g25, n25⟩ : ∃ g, ν 25 = .slice (some ⟨g, 0, none⟩) 1 1 := hν 25
    obtain ⟨g61, n61⟩ : ∃ g, ν 61 = .slice (some ⟨g, 0, none⟩) 1 1 := hν 61
    obtain ⟨g65, n65⟩ : ∃ g, ν 65 = .slice (some ⟨g, 0, none⟩) 39 39 := hν 65
    clear hν
    refine lex_plain (by rfl) rfl ⟨.agg (msV bm0), fun σ w2 hA hD hC => ?_, ?_⟩
    · clear hA hD hC
      go_simp
      exact And.intro rfl rfl
    simp only [Act.put, List.setIfInBounds_toArray, List.set_cons_succ, List.set_cons_zero, Nat.reduceAdd]
    refine lex_plain (by rfl) rfl ⟨.agg (msV bm1), fun σ w2 hA hD hC => ?_, ?_⟩
    · clear hA hD hC
      go_simp
      exact And.intro rfl rfl
    simp only [Act.put, List.setIfInBounds_toArray, List.set_cons_succ, List.set_cons_zero, Nat.reduceAdd]
    refine lex_plain (by rfl) rfl ⟨.agg (msV bm2), fun σ w2 hA hD hC => ?_, ?_⟩
    · clear hA hD hC
      go_simp
      exact And.intro rfl rfl
    simp only [Act.put, List.setIfInBounds_toArray, List.set_cons_succ, List.set_cons_zero, Nat.reduceAdd]
    refine lex_plain (by rfl) rfl ⟨.agg (msV bm3), fun σ w2 hA hD hC => ?_, ?_⟩
    · clear hA hD hC
      go_simp
      exact And.intro rfl rfl
    simp only [Act.put, List.setIfInBounds_toArray, List.set_cons_succ, List.set_cons_zero, Nat.reduceAdd]
    refine lex_plain (by rfl) rfl ⟨.agg (msV bm4), fun σ w2 hA hD hC => ?_, ?_⟩
    · clear hA hD hC
      go_simp
      exact And.intro rfl rfl
    simp only [Act.put, List.setIfInBounds_toArray, List.set_cons_succ, List.set_cons_zero, Nat.reduceAdd]
    refine lex_plain (by rfl) rfl ⟨.agg (msV bm5), fun σ w2 hA hD hC => ?_, ?_⟩
    · clear hA hD hC
      go_simp
      exact And.intro rfl rfl
    simp only [Act.put, List.setIfInBounds_toArray, List.set_cons_succ, List.set_cons_zero, Nat.reduceAdd]
    refine lex_plain (by rfl) rfl ⟨.agg (msV bm6), fun σ w2 hA hD hC => ?_, ?_⟩
    · clear hA hD hC
      go_simp
      exact And.intro rfl rfl
    simp only [Act.put, List.setIfInBounds_toArray, List.set_cons_succ, List.set_cons_zero, Nat.reduceAdd]
    refine lex_plain (by rfl) rfl ⟨.agg (msV bm7), fun σ w2 hA hD hC => ?_, ?_⟩
    · clear hA hD hC
      go_simp
      exact And.intro rfl rfl
    simp only [Act.put, List.setIfInBounds_toArray, List.set_cons_succ, List.set_cons_zero, Nat.reduceAdd]
    refine lex_plain (by rfl) rfl ⟨.agg (msV bm8), fun σ w2 hA hD hC => ?_, ?_⟩
    · clear hA hD hC
      go_simp
      exact And.intro rfl rfl
    simp only [Act.put, List.setIfInBounds_toArray, List.set_cons_succ, List.set_cons_zero, Nat.reduceAdd]
    refine lex_plain (by rfl) rfl ⟨.agg (msV bm9), fun σ w2 hA hD hC => ?_, ?_⟩
    · clear hA hD hC
      go_simp
      exact And.intro rfl rfl
    simp only [Act.put, List.setIfInBounds_toArray, List.set_cons_succ, List.set_cons_zero, Nat.reduceAdd]
    refine lex_plain (by rfl) rfl ⟨.agg (msV bm10), fun σ w2 hA hD hC => ?_, ?_⟩
    · clear hA hD hC
      go_simp
      exact And.intro rfl rfl
    simp only [Act.put, List.setIfInBounds_toArray, List.set_cons_succ, List.set_cons_zero, Nat.reduceAdd]
    refine lex_plain (by rfl) rfl ⟨.agg #[.int .u64 1, .int .i64 1, .bool true, .slice (some ⟨w.heap.size + 1, 0, none⟩) 1 1], fun σ w2 hA hD hC => ?_, ?_⟩
    · have hk := H2.out.keep hC.1
      have y0 := hk.cell 0
      have y1 := hk.cell 1
      have y2 := hk.cell 2
      have y3 := hk.cell 3
      simp at y0 y1 y2 y3
      clear hk
      clear hA hD hC
      go_simp
      exact And.intro rfl rfl
    simp only [Act.put, List.setIfInBounds_toArray, List.set_cons_succ, List.set_cons_zero, Nat.reduceAdd]
    refine lex_plain (by rfl) rfl ⟨.agg (msA bm11 (.slice none 0 0) (.slice (some ⟨w.heap.size + 1, 0, none⟩) 1 1) (.slice none 0 0)), fun σ w2 hA hD hC => ?_, ?_⟩
    · clear hA hD hC
      go_simp
      exact And.intro rfl rfl
    simp only [Act.put, List.setIfInBounds_toArray, List.set_cons_succ, List.set_cons_zero, Nat.reduceAdd]
    refine lex_plain (by rfl) rfl ⟨.agg #[.int .u64 2, .int .i64 1, .int .u64 0, .int .u64 0], fun σ w2 hA hD hC => ?_, ?_⟩
    · have hk := H4.out.keep hC.1
      have y0 := hk.cell 0
      have y1 := hk.cell 1
      have y2 := hk.cell 2
      have y3 := hk.cell 3
      simp at y0 y1 y2 y3
      clear hk
      clear hA hD hC
      go_simp
      exact And.intro rfl rfl
    simp only [Act.put, List.setIfInBounds_toArray, List.set_cons_succ, List.set_cons_zero, Nat.reduceAdd]
    refine lex_special (by rfl) rfl (fun σ w2 hA hD hn hC => ?_) ?_
    · go_simp
      exact value_ok (FM.stable _) hC ((Below.refl _ _).alloc (Nat.le_refl _) _) ⟨_, rfl⟩ (ine_lit w2 ⟨2, 1, (0, 0)⟩ _ rfl ⟨rfl, rfl, rfl, rfl⟩)
    simp only [Act.put, List.setIfInBounds_toArray, List.set_cons_succ, List.set_cons_zero, Nat.reduceAdd]
    refine lex_plain (by rfl) rfl ⟨.agg (msA bm12 (ν 14) (.slice none 0 0) (.slice none 0 0)), fun σ w2 hA hD hC => ?_, ?_⟩
    · clear hA hD hC
      go_simp
      exact And.intro rfl rfl
    simp only [Act.put, List.setIfInBounds_toArray, List.set_cons_succ, List.set_cons_zero, Nat.reduceAdd]
    refine lex_plain (by rfl) rfl ⟨.agg #[.int .u64 2, .int .i64 1, .int .u64 0, .int .u64 0], fun σ w2 hA hD hC => ?_, ?_⟩
    · have hk := H4.out.keep hC.1
      have y0 := hk.cell 0
      have y1 := hk.cell 1
      have y2 := hk.cell 2
      have y3 := hk.cell 3
      simp at y0 y1 y2 y3
      clear hk
      clear hA hD hC
      go_simp
      exact And.intro rfl rfl
    simp only [Act.put, List.setIfInBounds_toArray, List.set_cons_succ, List.set_cons_zero, Nat.reduceAdd]
    refine lex_special (by rfl) rfl (fun σ w2 hA hD hn hC => ?_) ?_
    · go_simp
      exact value_ok (FM.stable _) hC ((Below.refl _ _).alloc (Nat.le_refl _) _) ⟨_, rfl⟩ (ine_lit w2 ⟨2, 1, (0, 0)⟩ _ rfl ⟨rfl, rfl, rfl, rfl⟩)
    simp only [Act.put, List.setIfInBounds_toArray, List.set_cons_succ, List.set_cons_zero, Nat.reduceAdd]
    refine lex_plain (by rfl) rfl ⟨.agg (msA bm13 (ν 17) (.slice none 0 0) (.slice none 0 0)), fun σ w2 hA hD hC => ?_, ?_⟩
    · clear hA hD hC
      go_simp
      exact And.intro rfl rfl
    simp only [Act.put, List.setIfInBounds_toArray, List.set_cons_succ, List.set_cons_zero, Nat.reduceAdd]
    refine lex_plain (by rfl) rfl ⟨.agg #[.int .u64 2, .int .i64 1, .int .u64 0, .int .u64 0], fun σ w2 hA hD hC => ?_, ?_⟩
    · have hk := H4.out.keep hC.1
      have y0 := hk.cell 0
      have y1 := hk.cell 1
      have y2 := hk.cell 2
      have y3 := hk.cell 3
      simp at y0 y1 y2 y3
      clear hk
      clear hA hD hC
      go_simp
      exact And.intro rfl rfl
    simp only [Act.put, List.setIfInBounds_toArray, List.set_cons_succ, List.set_cons_zero, Nat.reduceAdd]
    refine lex_special (by rfl) rfl (fun σ w2 hA hD hn hC => ?_) ?_
    · go_simp
      exact value_ok (FM.stable _) hC ((Below.refl _ _).alloc (Nat.le_refl _) _) ⟨_, rfl⟩ (ine_lit w2 ⟨2, 1, (0, 0)⟩ _ rfl ⟨rfl, rfl, rfl, rfl⟩)
    simp only [Act.put, List.setIfInBounds_toArray, List.set_cons_succ, List.set_cons_zero, Nat.reduceAdd]
    refine lex_plain (by rfl) rfl ⟨.agg (msA bm14 (ν 20) (.slice none 0 0) (.slice none 0 0)), fun σ w2 hA hD hC => ?_, ?_⟩
    · clear hA hD hC
      go_simp
      exact And.intro rfl rfl
    simp only [Act.put, List.setIfInBounds_toArray, List.set_cons_succ, List.set_cons_zero, Nat.reduceAdd]
    refine lex_special (by rfl) rfl (fun σ w2 hA hD hn hC => ?_) ?_
    · go_simp
      exact value_ok (FM.stable _) hC ((Below.refl _ _).alloc (Nat.le_refl _) _) ⟨_, rfl⟩ (ine_zero w2 9 _ (arr_map_range (by kernel_rfl)) (by decide))
    simp only [Act.put, List.setIfInBounds_toArray, List.set_cons_succ, List.set_cons_zero, Nat.reduceAdd]
    refine lex_plain (by rfl) rfl ⟨.agg (msA bm15 (ν 22) (.slice none 0 0) (.slice none 0 0)), fun σ w2 hA hD hC => ?_, ?_⟩
    · clear hA hD hC
      go_simp
      exact And.intro rfl rfl
    simp only [Act.put, List.setIfInBounds_toArray, List.set_cons_succ, List.set_cons_zero, Nat.reduceAdd]
    refine lex_plain (by rfl) rfl ⟨.agg #[.int .u64 2, .int .i64 0, .int .u64 0, .int .u64 0], fun σ w2 hA hD hC => ?_, ?_⟩
    · clear hA hD hC
      go_simp
      exact And.intro rfl rfl
    simp only [Act.put, List.setIfInBounds_toArray, List.set_cons_succ, List.set_cons_zero, Nat.reduceAdd]
    refine lex_special (by rfl) rfl (fun σ w2 hA hD hn hC => ?_) ?_
    · go_simp
      exact value_ok (FM.stable _) hC ((Below.refl _ _).alloc (Nat.le_refl _) _) ⟨_, rfl⟩ (ine_lit w2 ⟨2, 0, (0, 0)⟩ _ rfl ⟨rfl, rfl, rfl, rfl⟩)
    simp only [Act.put, List.setIfInBounds_toArray, List.set_cons_succ, List.set_cons_zero, Nat.reduceAdd]
    refine lex_plain (by rfl) rfl ⟨.agg (msA bm16 (ν 25) (.slice none 0 0) (.slice none 0 0)), fun σ w2 hA hD hC => ?_, ?_⟩
    · clear hA hD hC
      go_simp
      exact And.intro rfl rfl
    simp only [Act.put, List.setIfInBounds_toArray, List.set_cons_succ, List.set_cons_zero, Nat.reduceAdd]
    refine lex_plain (by rfl) rfl ⟨.agg (msV bm17), fun σ w2 hA hD hC => ?_, ?_⟩
    · clear hA hD hC
      go_simp
      exact And.intro rfl rfl
    simp only [Act.put, List.setIfInBounds_toArray, List.set_cons_succ, List.set_cons_zero, Nat.reduceAdd]
    refine lex_plain (by rfl) rfl ⟨.agg (msV bm18), fun σ w2 hA hD hC => ?_, ?_⟩
    · clear hA hD hC
      go_simp
      exact And.intro rfl rfl
    simp only [Act.put, List.setIfInBounds_toArray, List.set_cons_succ, List.set_cons_zero, Nat.reduceAdd]
    refine lex_plain (by rfl) rfl ⟨.agg (msV bm19), fun σ w2 hA hD hC => ?_, ?_⟩
    · clear hA hD hC
      go_simp
      exact And.intro rfl rfl
    simp only [Act.put, List.setIfInBounds_toArray, List.set_cons_succ, List.set_cons_zero, Nat.reduceAdd]
    refine lex_plain (by rfl) rfl ⟨.agg (msV bm20), fun σ w2 hA hD hC => ?_, ?_⟩
    · clear hA hD hC
      go_simp
      exact And.intro rfl rfl
    simp only [Act.put, List.setIfInBounds_toArray, List.set_cons_succ, List.set_cons_zero, Nat.reduceAdd]
    refine lex_plain (by rfl) rfl ⟨.agg (msV bm21), fun σ w2 hA hD hC => ?_, ?_⟩
    · clear hA hD hC
      go_simp
      exact And.intro rfl rfl
    simp only [Act.put, List.setIfInBounds_toArray, List.set_cons_succ, List.set_cons_zero, Nat.reduceAdd]
    refine lex_plain (by rfl) rfl ⟨.agg (msV bm22), fun σ w2 hA hD hC => ?_, ?_⟩
    · clear hA hD hC
      go_simp
      exact And.intro rfl rfl
    simp only [Act.put, List.setIfInBounds_toArray, List.set_cons_succ, List.set_cons_zero, Nat.reduceAdd]
    refine lex_plain (by rfl) rfl ⟨.agg (msV bm23), fun σ w2 hA hD hC => ?_, ?_⟩
    · clear hA hD hC
      go_simp
      exact And.intro rfl rfl
    simp only [Act.put, List.setIfInBounds_toArray, List.set_cons_succ, List.set_cons_zero, Nat.reduceAdd]
    refine lex_plain (by rfl) rfl ⟨.agg #[.int .u64 1, .int .u64 1], fun σ w2 hA hD hC => ?_, ?_⟩
    · have hk := H1.out.keep hC.1
      have y0 := hk.cell 0
      have y1 := hk.cell 1
      simp at y0 y1
      clear hk
      clear hA hD hC
      go_simp
      exact And.intro rfl rfl
    simp only [Act.put, List.setIfInBounds_toArray, List.set_cons_succ, List.set_cons_zero, Nat.reduceAdd]
    refine lex_plain (by rfl) rfl ⟨.agg (msV bm24), fun σ w2 hA hD hC => ?_, ?_⟩
    · clear hA hD hC
      go_simp
      exact And.intro rfl rfl
    simp only [Act.put, List.setIfInBounds_toArray, List.set_cons_succ, List.set_cons_zero, Nat.reduceAdd]
    refine lex_plain (by rfl) rfl ⟨.agg #[.int .u64 1, .int .u64 1], fun σ w2 hA hD hC => ?_, ?_⟩
    · have hk := H1.out.keep hC.1
      have y0 := hk.cell 0
      have y1 := hk.cell 1
      simp at y0 y1
      clear hk
      clear hA hD hC
      go_simp
      exact And.intro rfl rfl
    simp only [Act.put, List.setIfInBounds_toArray, List.set_cons_succ, List.set_cons_zero, Nat.reduceAdd]
    refine lex_plain (by rfl) rfl ⟨.agg (msV bm25), fun σ w2 hA hD hC => ?_, ?_⟩
    · clear hA hD hC
      go_simp
      exact And.intro rfl rfl
    simp only [Act.put, List.setIfInBounds_toArray, List.set_cons_succ, List.set_cons_zero, Nat.reduceAdd]
    refine lex_plain (by rfl) rfl ⟨.agg #[.int .u64 1, .int .u64 1], fun σ w2 hA hD hC => ?_, ?_⟩
    · have hk := H1.out.keep hC.1
      have y0 := hk.cell 0
      have y1 := hk.cell 1
      simp at y0 y1
      clear hk
      clear hA hD hC
      go_simp
      exact And.intro rfl rfl
    simp only [Act.put, List.setIfInBounds_toArray, List.set_cons_succ, List.set_cons_zero, Nat.reduceAdd]
    refine lex_plain (by rfl) rfl ⟨.agg (msV bm26), fun σ w2 hA hD hC => ?_, ?_⟩
    · clear hA hD hC
      go_simp
      exact And.intro rfl rfl
    simp only [Act.put, List.setIfInBounds_toArray, List.set_cons_succ, List.set_cons_zero, Nat.reduceAdd]
    refine lex_plain (by rfl) rfl ⟨.agg (msV bm27), fun σ w2 hA hD hC => ?_, ?_⟩
    · clear hA hD hC
      go_simp
      exact And.intro rfl rfl
    simp only [Act.put, List.setIfInBounds_toArray, List.set_cons_succ, List.set_cons_zero, Nat.reduceAdd]
    refine lex_plain (by rfl) rfl ⟨.agg #[.int .u64 1, .int .u64 1], fun σ w2 hA hD hC => ?_, ?_⟩
    · have hk := H1.out.keep hC.1
      have y0 := hk.cell 0
      have y1 := hk.cell 1
      simp at y0 y1
      clear hk
      clear hA hD hC
      go_simp
      exact And.intro rfl rfl
    simp only [Act.put, List.setIfInBounds_toArray, List.set_cons_succ, List.set_cons_zero, Nat.reduceAdd]
    refine lex_plain (by rfl) rfl ⟨.agg (msV bm28), fun σ w2 hA hD hC => ?_, ?_⟩
    · clear hA hD hC
      go_simp
      exact And.intro rfl rfl
    simp only [Act.put, List.setIfInBounds_toArray, List.set_cons_succ, List.set_cons_zero, Nat.reduceAdd]
    refine lex_plain (by rfl) rfl ⟨.agg #[.int .u64 1, .int .u64 1], fun σ w2 hA hD hC => ?_, ?_⟩
    · have hk := H1.out.keep hC.1
      have y0 := hk.cell 0
      have y1 := hk.cell 1
      simp at y0 y1
      clear hk
      clear hA hD hC
      go_simp
      exact And.intro rfl rfl
    simp only [Act.put, List.setIfInBounds_toArray, List.set_cons_succ, List.set_cons_zero, Nat.reduceAdd]
    refine lex_plain (by rfl) rfl ⟨.agg (msV bm29), fun σ w2 hA hD hC => ?_, ?_⟩
    · clear hA hD hC
      go_simp
      exact And.intro rfl rfl
    simp only [Act.put, List.setIfInBounds_toArray, List.set_cons_succ, List.set_cons_zero, Nat.reduceAdd]
    refine lex_plain (by rfl) rfl ⟨.agg #[.int .u64 1, .int .u64 1], fun σ w2 hA hD hC => ?_, ?_⟩
    · have hk := H1.out.keep hC.1
      have y0 := hk.cell 0
      have y1 := hk.cell 1
      simp at y0 y1
      clear hk
      clear hA hD hC
      go_simp
      exact And.intro rfl rfl
    simp only [Act.put, List.setIfInBounds_toArray, List.set_cons_succ, List.set_cons_zero, Nat.reduceAdd]
    refine lex_plain (by rfl) rfl ⟨.agg #[.int .u64 1, .int .u64 1], fun σ w2 hA hD hC => ?_, ?_⟩
    · have hk := H1.out.keep hC.1
      have y0 := hk.cell 0
      have y1 := hk.cell 1
      simp at y0 y1
      clear hk
      clear hA hD hC
      go_simp
      exact And.intro rfl rfl
    simp only [Act.put, List.setIfInBounds_toArray, List.set_cons_succ, List.set_cons_zero, Nat.reduceAdd]
    refine lex_plain (by rfl) rfl ⟨.agg (msV bm30), fun σ w2 hA hD hC => ?_, ?_⟩
    · clear hA hD hC
      go_simp
      exact And.intro rfl rfl
    simp only [Act.put, List.setIfInBounds_toArray, List.set_cons_succ, List.set_cons_zero, Nat.reduceAdd]
    refine lex_plain (by rfl) rfl ⟨.agg #[.int .u64 0, .int .i64 1, .bool false, .slice none 0 0], fun σ w2 hA hD hC => ?_, ?_⟩
    · clear hA hD hC
      go_simp
      exact And.intro rfl rfl
    simp only [Act.put, List.setIfInBounds_toArray, List.set_cons_succ, List.set_cons_zero, Nat.reduceAdd]
    refine lex_plain (by rfl) rfl ⟨.agg (msV bm31), fun σ w2 hA hD hC => ?_, ?_⟩
    · clear hA hD hC
      go_simp
      exact And.intro rfl rfl
    simp only [Act.put, List.setIfInBounds_toArray, List.set_cons_succ, List.set_cons_zero, Nat.reduceAdd]
    refine lex_plain (by rfl) rfl ⟨.agg (msV bm32), fun σ w2 hA hD hC => ?_, ?_⟩
    · clear hA hD hC
      go_simp
      exact And.intro rfl rfl
    simp only [Act.put, List.setIfInBounds_toArray, List.set_cons_succ, List.set_cons_zero, Nat.reduceAdd]
    refine lex_plain (by rfl) rfl ⟨.agg (msV bm33), fun σ w2 hA hD hC => ?_, ?_⟩
    · clear hA hD hC
      go_simp
      exact And.intro rfl rfl
    simp only [Act.put, List.setIfInBounds_toArray, List.set_cons_succ, List.set_cons_zero, Nat.reduceAdd]
    refine lex_plain (by rfl) rfl ⟨.agg #[.int .u64 1, .int .u64 1], fun σ w2 hA hD hC => ?_, ?_⟩
    · have hk := H1.out.keep hC.1
      have y0 := hk.cell 0
      have y1 := hk.cell 1
      simp at y0 y1
      clear hk
      clear hA hD hC
      go_simp
      exact And.intro rfl rfl
    simp only [Act.put, List.setIfInBounds_toArray, List.set_cons_succ, List.set_cons_zero, Nat.reduceAdd]
    refine lex_plain (by rfl) rfl ⟨.agg #[.int .u64 0, .int .u64 0, .int .u64 1, .int .u64 1, .int .i64 0, .int .i64 1, .slice none 0 0], fun σ w2 hA hD hC => ?_, ?_⟩
    · clear hA hD hC
      go_simp
      exact And.intro rfl rfl
    simp only [Act.put, List.setIfInBounds_toArray, List.set_cons_succ, List.set_cons_zero, Nat.reduceAdd]
    refine lex_plain (by rfl) rfl ⟨.agg (msV bm34), fun σ w2 hA hD hC => ?_, ?_⟩
    · clear hA hD hC
      go_simp
      exact And.intro rfl rfl
    simp only [Act.put, List.setIfInBounds_toArray, List.set_cons_succ, List.set_cons_zero, Nat.reduceAdd]
    refine lex_plain (by rfl) rfl ⟨.agg #[.int .u64 0, .int .u64 0, .int .u64 1, .int .u64 1, .int .i64 0, .int .i64 0, .slice none 0 0], fun σ w2 hA hD hC => ?_, ?_⟩
    · have hk := H3.out.keep hC.1
      have y0 := hk.cell 0
      have y1 := hk.cell 1
      have y2 := hk.cell 2
      have y3 := hk.cell 3
      have y4 := hk.cell 4
      have y5 := hk.cell 5
      have y6 := hk.cell 6
      simp at y0 y1 y2 y3 y4 y5 y6
      clear hk
      clear hA hD hC
      go_simp
      exact And.intro rfl rfl
    simp only [Act.put, List.setIfInBounds_toArray, List.set_cons_succ, List.set_cons_zero, Nat.reduceAdd]
    refine lex_plain (by rfl) rfl ⟨.agg #[.int .u64 1, .int .u64 1], fun σ w2 hA hD hC => ?_, ?_⟩
    · have hk := H1.out.keep hC.1
      have y0 := hk.cell 0
      have y1 := hk.cell 1
      simp at y0 y1
      clear hk
      clear hA hD hC
      go_simp
      exact And.intro rfl rfl
    simp only [Act.put, List.setIfInBounds_toArray, List.set_cons_succ, List.set_cons_zero, Nat.reduceAdd]
    refine lex_plain (by rfl) rfl ⟨.agg (msV bm35), fun σ w2 hA hD hC => ?_, ?_⟩
    · clear hA hD hC
      go_simp
      exact And.intro rfl rfl
    simp only [Act.put, List.setIfInBounds_toArray, List.set_cons_succ, List.set_cons_zero, Nat.reduceAdd]
    refine lex_plain (by rfl) rfl ⟨.agg #[.int .u64 0, .int .u64 0, .int .u64 1, .int .u64 1, .int .i64 0, .int .i64 0, .slice none 0 0], fun σ w2 hA hD hC => ?_, ?_⟩
    · have hk := H3.out.keep hC.1
      have y0 := hk.cell 0
      have y1 := hk.cell 1
      have y2 := hk.cell 2
      have y3 := hk.cell 3
      have y4 := hk.cell 4
      have y5 := hk.cell 5
      have y6 := hk.cell 6
      simp at y0 y1 y2 y3 y4 y5 y6
      clear hk
      clear hA hD hC
      go_simp
      exact And.intro rfl rfl
    simp only [Act.put, List.setIfInBounds_toArray, List.set_cons_succ, List.set_cons_zero, Nat.reduceAdd]
    refine lex_plain (by rfl) rfl ⟨.agg (msV bm36), fun σ w2 hA hD hC => ?_, ?_⟩
    · clear hA hD hC
      go_simp
      exact And.intro rfl rfl
    simp only [Act.put, List.setIfInBounds_toArray, List.set_cons_succ, List.set_cons_zero, Nat.reduceAdd]
    refine lex_plain (by rfl) rfl ⟨.agg #[.int .u64 1, .int .u64 1], fun σ w2 hA hD hC => ?_, ?_⟩
    · have hk := H1.out.keep hC.1
      have y0 := hk.cell 0
      have y1 := hk.cell 1
      simp at y0 y1
      clear hk
      clear hA hD hC
      go_simp
      exact And.intro rfl rfl
    simp only [Act.put, List.setIfInBounds_toArray, List.set_cons_succ, List.set_cons_zero, Nat.reduceAdd]
    refine lex_special (by rfl) rfl (fun σ w2 hA hD hn hC => ?_) ?_
    · go_simp
      exact value_ok (FM.stable _) hC ((Below.refl _ _).alloc (Nat.le_refl _) _) ⟨_, rfl⟩ (InG.litAt w2 [(1, 1)] _ w2.heap.size rfl rfl (by decide) (by intro z hz; rw [List.mem_singleton.1 hz]; exact ⟨rfl, rfl⟩))
    simp only [Act.put, List.setIfInBounds_toArray, List.set_cons_succ, List.set_cons_zero, Nat.reduceAdd]
    refine lex_plain (by rfl) rfl ⟨.agg #[.int .u64 0, .int .i64 0, .bool false, ν 61], fun σ w2 hA hD hC => ?_, ?_⟩
    · clear hA hD hC
      go_simp
      exact And.intro rfl rfl
    simp only [Act.put, List.setIfInBounds_toArray, List.set_cons_succ, List.set_cons_zero, Nat.reduceAdd]
    refine lex_plain (by rfl) rfl ⟨.agg (msA bm37 (.slice none 0 0) (ν 61) (.slice none 0 0)), fun σ w2 hA hD hC => ?_, ?_⟩
    · clear hA hD hC
      go_simp
      exact And.intro rfl rfl
    simp only [Act.put, List.setIfInBounds_toArray, List.set_cons_succ, List.set_cons_zero, Nat.reduceAdd]
    refine lex_plain (by rfl) rfl ⟨.agg (msV bm38), fun σ w2 hA hD hC => ?_, ?_⟩
    · clear hA hD hC
      go_simp
      exact And.intro rfl rfl
    simp only [Act.put, List.setIfInBounds_toArray, List.set_cons_succ, List.set_cons_zero, Nat.reduceAdd]
    refine lex_special (by rfl) rfl (fun σ w2 hA hD hn hC => ?_) ?_
    · have e14 := gq2 hA hD 14 15 rfl (by kernel_rfl) (by kernel_rfl) (by decide)
      have f14 := hC.2 14 _ e14
      have e17 := gq2 hA hD 17 18 rfl (by kernel_rfl) (by kernel_rfl) (by decide)
      have f17 := hC.2 17 _ e17
      have e20 := gq2 hA hD 20 21 rfl (by kernel_rfl) (by kernel_rfl) (by decide)
      have f20 := hC.2 20 _ e20
      have e22 := gq2 hA hD 22 23 rfl (by kernel_rfl) (by kernel_rfl) (by decide)
      have f22 := hC.2 22 _ e22
      have e25 := gq2 hA hD 25 26 rfl (by kernel_rfl) (by kernel_rfl) (by decide)
      have f25 := hC.2 25 _ e25
      have e61 := gq3 hA hD 61 63 62 rfl (by kernel_rfl) (by kernel_rfl) (by kernel_rfl) (by decide)
      have f61 := hC.2 61 _ e61
      obtain ⟨cells, hr, hrow⟩ := rows_lit w2 [.agg (msV bm0), .agg (msV bm1), .agg (msV bm2), .agg (msV bm3), .agg (msV bm4), .agg (msV bm5), .agg (msV bm6), .agg (msV bm7), .agg (msV bm8), .agg (msV bm9), .agg (msV bm10), .agg (msA bm11 (.slice none 0 0) (.slice (some ⟨w.heap.size + 1, 0, none⟩) 1 1) (.slice none 0 0)), .agg (msA bm12 (ν 14) (.slice none 0 0) (.slice none 0 0)), .agg (msA bm13 (ν 17) (.slice none 0 0) (.slice none 0 0)), .agg (msA bm14 (ν 20) (.slice none 0 0) (.slice none 0 0)), .agg (msA bm15 (ν 22) (.slice none 0 0) (.slice none 0 0)), .agg (msA bm16 (ν 25) (.slice none 0 0) (.slice none 0 0)), .agg (msV bm17), .agg (msV bm18), .agg (msV bm19), .agg (msV bm20), .agg (msV bm21), .agg (msV bm22), .agg (msV bm23), .agg (msV bm24), .agg (msV bm25), .agg (msV bm26), .agg (msV bm27), .agg (msV bm28), .agg (msV bm29), .agg (msV bm30), .agg (msV bm31), .agg (msV bm32), .agg (msV bm33), .agg (msV bm34), .agg (msV bm35), .agg (msV bm36), .agg (msA bm37 (.slice none 0 0) (ν 61) (.slice none 0 0)), .agg (msV bm38)] badMs 39 rfl (by decide) (by decide) ⟨lit_in w2 rfl rfl rfl (wf_gm 13 _ rfl), lit_in w2 rfl rfl rfl (wf_gm 14 _ rfl), lit_in w2 rfl rfl rfl (wf_gm 15 _ rfl), lit_in w2 rfl rfl rfl (wf_gm 16 _ rfl), lit_in w2 rfl rfl rfl (wf_gm 17 _ rfl), lit_in w2 rfl rfl rfl (wf_gm 18 _ rfl), lit_in w2 rfl rfl rfl (wf_gm 19 _ rfl), lit_in w2 rfl rfl rfl (wf_gm 20 _ rfl), lit_in w2 rfl rfl rfl (wf_gm 21 _ rfl), lit_in w2 rfl rfl rfl (wf_gm 22 _ rfl), lit_in w2 rfl rfl rfl (wf_gm 23 _ rfl), ⟨_, _, _, rfl, InE_nil w2, HG.out.keep hC.1, InC.nil_ _ _ _, wf_gm 24 _ rfl⟩, ⟨_, _, _, rfl, f14, InG.nil_ w2, InC.nil_ _ _ _, wf_gm 25 _ rfl⟩, ⟨_, _, _, rfl, f17, InG.nil_ w2, InC.nil_ _ _ _, wf_gm 26 _ rfl⟩, ⟨_, _, _, rfl, f20, InG.nil_ w2, InC.nil_ _ _ _, wf_gm 27 _ rfl⟩, ⟨_, _, _, rfl, f22, InG.nil_ w2, InC.nil_ _ _ _, wf_gm 28 _ rfl⟩, ⟨_, _, _, rfl, f25, InG.nil_ w2, InC.nil_ _ _ _, wf_gm 29 _ rfl⟩, lit_in w2 rfl rfl rfl (wf_gm 30 _ rfl), lit_in w2 rfl rfl rfl (wf_gm 31 _ rfl), lit_in w2 rfl rfl rfl (wf_gm 32 _ rfl), lit_in w2 rfl rfl rfl (wf_gm 33 _ rfl), lit_in w2 rfl rfl rfl (wf_gm 34 _ rfl), lit_in w2 rfl rfl rfl (wf_gm 35 _ rfl), lit_in w2 rfl rfl rfl (wf_gm 36 _ rfl), lit_in w2 rfl rfl rfl (wf_gm 37 _ rfl), lit_in w2 rfl rfl rfl (wf_gm 38 _ rfl), lit_in w2 rfl rfl rfl (wf_gm 39 _ rfl), lit_in w2 rfl rfl rfl (wf_gm 40 _ rfl), lit_in w2 rfl rfl rfl (wf_gm 41 _ rfl), lit_in w2 rfl rfl rfl (wf_gm 42 _ rfl), lit_in w2 rfl rfl rfl (wf_gm 43 _ rfl), lit_in w2 rfl rfl rfl (wf_gm 44 _ rfl), lit_in w2 rfl rfl rfl (wf_gm 45 _ rfl), lit_in w2 rfl rfl rfl (wf_gm 46 _ rfl), lit_in w2 rfl rfl rfl (wf_gm 47 _ rfl), lit_in w2 rfl rfl rfl (wf_gm 48 _ rfl), lit_in w2 rfl rfl rfl (wf_gm 49 _ rfl), ⟨_, _, _, rfl, InE_nil w2, f61, InC.nil_ _ _ _, wf_gm 50 _ rfl⟩, lit_in w2 rfl rfl rfl (wf_gm 51 _ rfl), trivial⟩
      refine special_eq (exec_buildSlice 52 39 _ rfl _ ?_ _ hr) ?_
      · rfl
      exact value_ok (FM.stable _) hC ((Below.refl _ _).alloc (Nat.le_refl _) _) ⟨_, rfl⟩ ⟨_, _, rfl, hrow⟩
    simp only [Act.put, List.setIfInBounds_toArray, List.set_cons_succ, List.set_cons_zero, Nat.reduceAdd]
    refine lex_plain (by rfl) rfl ?_
    apply Exists.intro
    refine ⟨fun σ w2 hA hD hC => ?_, ?_⟩
    · clear hA hD hC
      go_simp
      exact And.intro rfl rfl
    simp only [Act.put, List.setIfInBounds_toArray, List.set_cons_succ, List.set_cons_zero, Nat.reduceAdd]
    refine lex_nil (fun σ w7 hA hall hC => ?_)
    have hfin := hC.2 65 _ (hall 65 rfl (by decide))
    obtain ⟨gg, nn, e1, hrow⟩ := hfin
    rw [n65] at e1
    simp only [Value.slice.injEq, Option.some.injEq, Addr.mk.injEq, and_true] at e1
    obtain ⟨rfl, rfl, -⟩ := e1
    rw [n65]
    go_wp2_with fail
    go_meet
    exact ⟨_, rfl, hrow, hC.1⟩
  case rest =>
  obtain ⟨g6, rfl, hbad, hbel⟩ := hcut
  have HG0 := Lib.hid (fun (k : Nat) (m : Ms) hm => (HGOOD.out k m hm).keep hbel)
  have HBAD := Lib.hid hbad
  have HBW := Lib.hid (HB.out.trans (hbel.mono HB.out.size))
  clear hbad hbel H1 HG H2 H3 H4 HB HGOOD
  have HENC := Lib.hid (fun (w2 : World) (v : Value) (m : Ms) (h : InMs w2 v m) => mencode_any w2 v m h)
  have HEE : Hid (ByteArray.empty.size ≤ 1152921504606846976) := Lib.hid (by decide)
  go_wp2_with fail
  go_loopw [7] (fun i wr => ∃ k : Nat, k ≤ 52 ∧ i = .int .i64 k ∧ (∀ (k : Nat) (m : Ms), goodMs[k]? = some m → RowM wr g5 k m) ∧ (∀ (k : Nat) (m : Ms), badMs[k]? = some m → RowM wr g6 k m) ∧ Below w.heap.size w wr) (fun i _ => 52 - (intOf i).toNat)
  case atStart => exact ⟨0, Nat.zero_le _, rfl, HG0.out, HBAD.out, HBW.out⟩
  case round =>
    obtain ⟨k, hk, rfl, hgd, hbd, hb⟩ := hrel
    clear HG0 HBAD HBW
    have HGOOD := Lib.hid hgd
    have HBAD := Lib.hid hbd
    have HB := Lib.hid hb
    clear hgd hbd hb
    have hcase : k = 52 ∨ (k < 13 ∧ k < 52) ∨ (13 ≤ k ∧ k < 52) := by omega
    rcases hcase with rfl | ⟨h13, hlt⟩ | ⟨h13, hlt⟩
    rotate_left 1
    · as_aux_lemma =>
      obtain ⟨m, hm⟩ : ∃ m, goodMs[k]? = some m := ⟨_, List.getElem?_eq_getElem (show k < goodMs.length from h13)⟩
      obtain ⟨hmo, hc0, hd0, hz0⟩ := ok_facts (List.all_eq_true.1 good_all m (List.mem_of_getElem? hm))
      obtain ⟨ua, hsz, hrng, hin⟩ := HGOOD.out k m hm
      obtain ⟨cs, rfl⟩ : ∃ cs : List Value, ua = cs.toArray := ⟨ua.toList, by simp⟩
      obtain ⟨ma, b1, b2, b3, d1, d2, d3, hma, hone, hszz, -, -, -, -, -⟩ := ms_cells hin
      obtain rfl : cs.toArray = ma := by injection hma
      have hbyte : (encM m).size ≤ 1152921504606846976 := by
        rw [enc_size hmo ((checkM_zero).1 hc0)]
        have := bytes_le hmo
        omega
      have HDEC := Lib.hid (fun w2 => mdecode_any w2 (encM m) hbyte)
      rw [hd0, hz0] at HDEC
      unfold DecM at HDEC
      have HEN := Lib.hid (fun w2 h => mencode_any w2 (.agg cs.toArray) m h)
      rw [hc0] at HEN
      have HSM := Lib.hid (fun w2 (v : Value) h1 h2 => msame_any w2 (.agg cs.toArray) v m m h1 h2)
      rw [sameM_iff.2 (rfl : m = m)] at HSM
      have HRNG := Lib.hid (show wr.rangeAt g5 (k * 26) cs from by simpa using hrng)
      have HIN := Lib.hid hin
      have HON := Lib.hid hone
      have HSZA := Lib.hid hszz
      have HSZL : Hid ((Try.prog.info? 33).map (·.size) = some cs.length) := Lib.hid (by rw [hszz]; simp)
      have HUZ : Hid (zeroA.size = cs.toArray.size) := Lib.hid (by have h2 := zeroA_size; rw [h2] at hszz; exact Option.some.inj hszz)
      have i1 : (k : Int) < 52 := by omega
      have i2 : (k : Int) < 13 := by omega
      have i3 : decide ((13 : Int) ≤ (k : Int)) = false := decide_eq_false (by omega)
      have i4 : decide (13 ≤ k) = false := decide_eq_false (by omega)
      have i5 : k < 13 := h13
      have HKN := Lib.hid hlt
      clear hk hm hmo hc0 hd0 hz0 hsz hrng hin hma hone hszz hbyte hlt h13
      generalize encM m = E at *
      have HZ := Lib.hid (Blk.new wr 33 zeroA)
      have HRN2 := Lib.hid (show (wr.alloc (.cells zeroA 33)).rangeAt g5 (k * 26) cs from fun j u hj => cell_later ((Below.refl _ _).alloc (Nat.le_refl _) _) (HRNG.out j u hj))
      go_wp2_with (first | refine wpList_store_then rfl 33 _ _ rfl wr.heap.size zeroA rfl rfl 33 _ HZ.out zeroA_size rfl zeroA_one ?_)
      refine Later.mk fun w2 hw2 => ?_
      have hal : Below wr.heap.size wr w2 := by
        rw [hw2]
        exact Below.setRow ((Below.refl wr.heap.size wr).alloc (Nat.le_refl _) (Obj.cells zeroA 33)) (Nat.le_refl _) _
      have HZ2 : Hid (Blk w2 wr.heap.size 33 zeroA) := Lib.hid (by rw [hw2]; exact HZ.out.row _)
      have HR2 := Lib.hid (show w2.rangeAt g5 (k * 26) cs from fun j u hj => cell_later hal (HRNG.out j u hj))
      have HAL := Lib.hid hal
      clear hal hw2 HZ HRN2 HRNG
      go_wp2_with (first | refine wpList_load_mid rfl 33 _ rfl g5 (k * 26) rfl cs _ HR2.out Try.underlying33 rfl HSZL.out ?_ | refine wpList_store_then rfl 33 _ _ rfl wr.heap.size cs.toArray rfl rfl 33 _ HZ2.out HSZA.out HUZ.out HON.out ?_)
      refine Later.mk fun w3 hw3 => ?_
      have hal : Below wr.heap.size wr w3 := by
        rw [hw3]
        exact Below.setRow HAL.out (Nat.le_refl _) _
      have HM3 : Hid (Blk w3 wr.heap.size 33 cs.toArray) := Lib.hid (by rw [hw3]; exact HZ2.out.row _)
      have HI3 := Lib.hid (HIN.out.keep hal)
      have HA3 := Lib.hid hal
      clear hal hw3 HZ2 HR2 HAL HIN HSZL
      go_wp2_with (first | refine wpList_wanted_run (by rfl) (.agg cs.toArray) (exec_load_blk 33 _ rfl wr.heap.size rfl _ HM3.out Try.underlying33 rfl HSZA.out) ?_)
      refine (HEN.out _ HI3.out).mono ?_
      rintro e w4 ⟨rfl, hb⟩
      have HM4 := Lib.hid (HM3.out.keep hb)
      have HI4 := Lib.hid (HI3.out.keep hb)
      have HA4 := Lib.hid (HA3.out.trans (hb.mono HA3.out.size))
      clear hb HM3 HI3 HA3 HEN
      go_wp2_with fail
      refine (HDEC.out _).mono ?_
      rintro e w5 ⟨u, rfl, hu, hb⟩
      obtain ⟨va, b1, b2, b3, d1, d2, d3, rfl, uone, usz, uma, -, -, -, -⟩ := ms_cells hu
      have UONE := Lib.hid uone
      have USZ := Lib.hid usz
      have USZ2 : Hid (zeroA.size = va.size) := Lib.hid (by rw [uma]; rfl)
      have HM5 := Lib.hid (HM4.out.keep hb)
      have HI5 := Lib.hid (HI4.out.keep hb)
      have HA5 := Lib.hid (HA4.out.trans (hb.mono HA4.out.size))
      have HU5 := Lib.hid hu
      clear hb hu uone usz uma HM4 HI4 HA4 HDEC
      have HZ := Lib.hid (Blk.new w5 33 zeroA)
      go_wp2_with (first | refine wpList_store_then rfl 33 _ _ rfl w5.heap.size va rfl rfl 33 _ HZ.out USZ.out USZ2.out UONE.out ?_)
      refine Later.mk fun w6 hw6 => ?_
      have hal : Below w5.heap.size w5 w6 := by
        rw [hw6]
        exact Below.setRow ((Below.refl w5.heap.size w5).alloc (Nat.le_refl _) (Obj.cells zeroA 33)) (Nat.le_refl _) _
      have HV6 : Hid (Blk w6 w5.heap.size 33 va) := Lib.hid (by rw [hw6]; exact HZ.out.row _)
      have HM6 := Lib.hid (HM5.out.keep hal)
      have HI6 := Lib.hid (HI5.out.keep hal)
      have HU6 := Lib.hid (HU5.out.keep hal)
      have HA6 := Lib.hid (HA5.out.trans (hal.mono HA5.out.size))
      clear hal hw6 HZ HM5 HI5 HU5 HA5
      go_wp2_with (first | refine wpList_wanted_run (by rfl) (.agg cs.toArray) (exec_load_blk 33 _ rfl wr.heap.size rfl _ HM6.out Try.underlying33 rfl HSZA.out) ?_ | refine wpList_wanted_run (by rfl) (.agg va) (exec_load_blk 33 _ rfl w5.heap.size rfl _ HV6.out Try.underlying33 rfl USZ.out) ?_)
      refine (HSM.out _ _ HI6.out HU6.out).mono ?_
      rintro e w7 ⟨rfl, hb⟩
      have HA7 := Lib.hid (HA6.out.trans (hb.mono HA6.out.size))
      clear hb HM6 HI6 HU6 HA6 HV6 HSM
      go_wp2
      exact ⟨⟨k + 1, HKN.out, rfl, fun k m hm => (HGOOD.out k m hm).keep HA7.out, fun k m hm => (HBAD.out k m hm).keep HA7.out, HB.out.trans (HA7.out.mono HB.out.size)⟩, meas_succ HKN.out⟩
    · as_aux_lemma =>
      obtain ⟨j, hj⟩ : ∃ j, k = j + 13 := ⟨k - 13, by omega⟩
      obtain ⟨m, hm⟩ : ∃ m, badMs[j]? = some m := ⟨_, List.getElem?_eq_getElem (show j < badMs.length from by show j < 39; omega)⟩
      obtain ⟨hwf, hc0, hen⟩ := no_facts (List.all_eq_true.1 bad_all m (List.mem_of_getElem? hm))
      obtain ⟨ua, hsz, hrng, hin⟩ := HBAD.out j m hm
      obtain ⟨cs, rfl⟩ : ∃ cs : List Value, ua = cs.toArray := ⟨ua.toList, by simp⟩
      obtain ⟨ma, b1, b2, b3, d1, d2, d3, hma, hone, hszz, -, -, -, -, -⟩ := ms_cells hin
      obtain rfl : cs.toArray = ma := by injection hma
      have HDEC := Lib.hid (fun w2 => mdecode_any w2 ByteArray.empty HEE.out)
      rw [dec_none.1, dec_none.2] at HDEC
      unfold DecM at HDEC
      have HEN := Lib.hid (fun w2 h => mencode_any w2 (.agg cs.toArray) m h)
      rw [hc0, hen] at HEN
      have HRNG := Lib.hid (show wr.rangeAt g6 (j * 26) cs from by simpa using hrng)
      have HIN := Lib.hid hin
      have HON := Lib.hid hone
      have HSZA := Lib.hid hszz
      have HSZL : Hid ((Try.prog.info? 33).map (·.size) = some cs.length) := Lib.hid (by rw [hszz]; simp)
      have HUZ : Hid (zeroA.size = cs.toArray.size) := Lib.hid (by have h2 := zeroA_size; rw [h2] at hszz; exact Option.some.inj hszz)
      have i1 : (k : Int) < 52 := by omega
      have i2 : decide ((k : Int) < 13) = false := decide_eq_false (by omega)
      have i3 : (13 : Int) ≤ (k : Int) := by omega
      have i4 : 13 ≤ k := h13
      have i5 : ¬ k < 13 := by omega
      have i6 : ¬ (k : Int) < 13 := by omega
      have i7 : IntKind.i64.wrap ((k : Int) - 13) = (j : Int) := by rw [IntKind.wrap_i64]; omega
      have i8 : wrap64 ((k : Int) - 13) = (j : Int) := by rw [IntWalk.wrap64_in _ (by omega)]; omega
      have i10 : (j : Int) < 39 := by omega
      have i11 : j < 39 := by omega
      have HKN := Lib.hid hlt
      clear hk hm hwf hc0 hen hsz hrng hin hma hone hszz hlt h13 hj
      have HZ := Lib.hid (Blk.new wr 33 zeroA)
      go_wp2_with (first | refine wpList_store_then rfl 33 _ _ rfl wr.heap.size zeroA rfl rfl 33 _ HZ.out zeroA_size rfl zeroA_one ?_)
      refine Later.mk fun w2 hw2 => ?_
      have hal : Below wr.heap.size wr w2 := by
        rw [hw2]
        exact Below.setRow ((Below.refl wr.heap.size wr).alloc (Nat.le_refl _) (Obj.cells zeroA 33)) (Nat.le_refl _) _
      have HZ2 : Hid (Blk w2 wr.heap.size 33 zeroA) := Lib.hid (by rw [hw2]; exact HZ.out.row _)
      have HR2 := Lib.hid (show w2.rangeAt g6 (j * 26) cs from fun j u hj => cell_later hal (HRNG.out j u hj))
      have HAL := Lib.hid hal
      clear hal hw2 HZ HRNG
      go_wp2_with (first | refine wpList_load_mid rfl 33 _ rfl g6 (j * 26) rfl cs _ HR2.out Try.underlying33 rfl HSZL.out ?_ | refine wpList_store_then rfl 33 _ _ rfl wr.heap.size cs.toArray rfl rfl 33 _ HZ2.out HSZA.out HUZ.out HON.out ?_)
      refine Later.mk fun w3 hw3 => ?_
      have hal : Below wr.heap.size wr w3 := by
        rw [hw3]
        exact Below.setRow HAL.out (Nat.le_refl _) _
      have HM3 : Hid (Blk w3 wr.heap.size 33 cs.toArray) := Lib.hid (by rw [hw3]; exact HZ2.out.row _)
      have HI3 := Lib.hid (HIN.out.keep hal)
      have HA3 := Lib.hid hal
      clear hal hw3 HZ2 HR2 HAL HIN HSZL
      clear i7 i8 i10 i11
      go_wp2_with (first | refine wpList_wanted_run (by rfl) (.agg cs.toArray) (exec_load_blk 33 _ rfl wr.heap.size rfl _ HM3.out Try.underlying33 rfl HSZA.out) ?_)
      refine (HEN.out _ HI3.out).mono ?_
      rintro e w4 ⟨rfl, hb⟩
      have HA4 := Lib.hid (HA3.out.trans (hb.mono HA3.out.size))
      clear hb HM3 HI3 HA3 HEN
      go_wp2_with fail
      refine (HDEC.out _).mono ?_
      rintro e w5 ⟨u, rfl, hu, hb⟩
      obtain ⟨va, b1, b2, b3, d1, d2, d3, rfl, uone, usz, uma, -, -, -, -⟩ := ms_cells hu
      have UONE := Lib.hid uone
      have USZ := Lib.hid usz
      have USZ2 : Hid (zeroA.size = va.size) := Lib.hid (by rw [uma]; rfl)
      have HA5 := Lib.hid (HA4.out.trans (hb.mono HA4.out.size))
      clear hb hu uone usz uma HA4 HDEC
      have HZ := Lib.hid (Blk.new w5 33 zeroA)
      go_wp2_with (first | refine wpList_store_then rfl 33 _ _ rfl w5.heap.size va rfl rfl 33 _ HZ.out USZ.out USZ2.out UONE.out ?_)
      refine Later.mk fun w6 hw6 => ?_
      have hal : Below w5.heap.size w5 w6 := by
        rw [hw6]
        exact Below.setRow ((Below.refl w5.heap.size w5).alloc (Nat.le_refl _) (Obj.cells zeroA 33)) (Nat.le_refl _) _
      have HA7 := Lib.hid (HA5.out.trans (hal.mono HA5.out.size))
      clear hal hw6 HZ HA5
      go_wp2
      exact ⟨⟨k + 1, HKN.out, rfl, fun k m hm => (HGOOD.out k m hm).keep HA7.out, fun k m hm => (HBAD.out k m hm).keep HA7.out, HB.out.trans (HA7.out.mono HB.out.size)⟩, meas_succ HKN.out⟩
    · rw [show ((52 : Nat) : Int) = 52 from rfl]
      clear HENC HEE
      clear hk
      go_wp2_with fail
      have hb := (Below.refl wr.heap.size wr).alloc (Nat.le_refl _) (Obj.cells #[.string ⟨#[]⟩, .string ⟨#[0]⟩, .string ⟨#[1, 2, 1, 1, 1, 2]⟩, .string ⟨#[1, 2, 1, 1, 1, 1, 0]⟩, .string ⟨#[1, 7, 0, 0, 1, 2, 0]⟩, .string ⟨#[1, 7, 0, 0, 0]⟩, .string ⟨#[1, 6, 0, 0, 0, 0, 0]⟩, .string ⟨#[1, 3, 1, 1, 0, 0, 0, 0, 8, 255, 255, 255, 255, 255, 255, 255, 255]⟩, .string ⟨#[4, 1, 0, 0, 2, 1, 1, 1, 1]⟩] 9)
      have HRAW : Hid (∀ (j : Nat) (l : List UInt8), raws[j]? = some l → (wr.alloc (Obj.cells #[.string ⟨#[]⟩, .string ⟨#[0]⟩, .string ⟨#[1, 2, 1, 1, 1, 2]⟩, .string ⟨#[1, 2, 1, 1, 1, 1, 0]⟩, .string ⟨#[1, 7, 0, 0, 1, 2, 0]⟩, .string ⟨#[1, 7, 0, 0, 0]⟩, .string ⟨#[1, 6, 0, 0, 0, 0, 0]⟩, .string ⟨#[1, 3, 1, 1, 0, 0, 0, 0, 8, 255, 255, 255, 255, 255, 255, 255, 255]⟩, .string ⟨#[4, 1, 0, 0, 2, 1, 1, 1, 1]⟩] 9)).cell? ⟨wr.heap.size, j, none⟩ = some (.string (strOf l))) := Lib.hid (fun j l hj => by
        have hkt := Blk.new wr 9 #[.string ⟨#[]⟩, .string ⟨#[0]⟩, .string ⟨#[1, 2, 1, 1, 1, 2]⟩, .string ⟨#[1, 2, 1, 1, 1, 1, 0]⟩, .string ⟨#[1, 7, 0, 0, 1, 2, 0]⟩, .string ⟨#[1, 7, 0, 0, 0]⟩, .string ⟨#[1, 6, 0, 0, 0, 0, 0]⟩, .string ⟨#[1, 3, 1, 1, 0, 0, 0, 0, 8, 255, 255, 255, 255, 255, 255, 255, 255]⟩, .string ⟨#[4, 1, 0, 0, 2, 1, 1, 1, 1]⟩]
        rw [hkt.cell]
        show ((raws.map fun l => Value.string (strOf l)).toArray)[j]? = _
        rw [List.getElem?_toArray, List.getElem?_map, hj]
        rfl)
      replace HGOOD := Lib.hid (fun (k : Nat) (m : Ms) hm => (HGOOD.out k m hm).keep hb)
      replace HB := Lib.hid (HB.out.trans (hb.mono HB.out.size))
      clear hb HBAD
      generalize wr.alloc (Obj.cells #[.string ⟨#[]⟩, .string ⟨#[0]⟩, .string ⟨#[1, 2, 1, 1, 1, 2]⟩, .string ⟨#[1, 2, 1, 1, 1, 1, 0]⟩, .string ⟨#[1, 7, 0, 0, 1, 2, 0]⟩, .string ⟨#[1, 7, 0, 0, 0]⟩, .string ⟨#[1, 6, 0, 0, 0, 0, 0]⟩, .string ⟨#[1, 3, 1, 1, 0, 0, 0, 0, 8, 255, 255, 255, 255, 255, 255, 255, 255]⟩, .string ⟨#[4, 1, 0, 0, 2, 1, 1, 1, 1]⟩] 9) = w8 at *
      generalize wr.heap.size = gr at *
      go_loopw [14] (fun i wx => ∃ k : Nat, k ≤ 9 ∧ i = .int .i64 k ∧ Below w8.heap.size w8 wx) (fun i _ => 9 - (intOf i).toNat)
      case atStart => exact ⟨0, Nat.zero_le _, rfl, Below.refl _ _⟩
      case round =>
        obtain ⟨k, hk, rfl, hb⟩ := hrel
        have HX := Lib.hid hb
        clear hb
        have hcase : k = 9 ∨ k < 9 := by omega
        rcases hcase with rfl | hlt
        rotate_left 1
        · as_aux_lemma =>
          obtain ⟨l, hl⟩ : ∃ l, raws[k]? = some l := ⟨_, List.getElem?_eq_getElem (show k < raws.length from hlt)⟩
          obtain ⟨z1, z2⟩ := raw_facts (List.all_eq_true.1 raw_all l (List.mem_of_getElem? hl))
          have hlen : l.length ≤ 100 := by
            have h : (raws.all fun l => decide (l.length ≤ 100)) = true := by decide +kernel
            exact of_decide_eq_true (List.all_eq_true.1 h l (List.mem_of_getElem? hl))
          have c1 := cell_later HX.out (HRAW.out k l hl)
          have HSE := Lib.hid (fun w2 => seal_any (strOf l) w2 (by rw [size_strOf]; unfold maxLen; omega))
          rw [strOf_list] at HSE
          have HD1 := Lib.hid (fun w2 => mdecode_any w2 (strOf (Crc.sealed l)) (by rw [size_strOf, Crc.length_sealed]; omega))
          have HD2 := Lib.hid (fun w2 => mdecode_any w2 (strOf l) (by rw [size_strOf]; omega))
          rw [z1] at HD1
          rw [z2] at HD2
          unfold DecM at HD1 HD2
          generalize decM (strOf (Crc.sealed l)) = m1 at *
          generalize decM (strOf l) = m2 at *
          generalize strOf (Crc.sealed l) = t2 at *
          generalize strOf l = t1 at *
          have i1 : (k : Int) < 9 := by omega
          have HKN := Lib.hid hlt
          have HC1 := Lib.hid c1
          clear hk hl z1 z2 hlen hlt
          go_wp2_with fail
          clear c1
          refine (HSE.out _).mono ?_
          rintro e w10 ⟨rfl, hb⟩
          have HA := Lib.hid hb
          clear hb HSE
          go_wp2_with fail
          refine (HD1.out _).mono ?_
          rintro e w11 ⟨u, rfl, hu, hb⟩
          obtain ⟨va, b1, b2, b3, d1, d2, d3, rfl, uone, usz, uma, -, -, -, -⟩ := ms_cells hu
          have UONE := Lib.hid uone
          have USZ := Lib.hid usz
          have USZ2 : Hid (zeroA.size = va.size) := Lib.hid (by rw [uma]; rfl)
          replace HA := Lib.hid (HA.out.trans (hb.mono HA.out.size))
          clear hb hu uone usz uma HD1
          have HZ := Lib.hid (Blk.new w11 33 zeroA)
          go_wp2_with (first | refine wpList_store_then rfl 33 _ _ rfl w11.heap.size va rfl rfl 33 _ HZ.out USZ.out USZ2.out UONE.out ?_)
          refine Later.mk fun w12 hw12 => ?_
          have hal : Below w11.heap.size w11 w12 := by
            rw [hw12]
            exact Below.setRow ((Below.refl w11.heap.size w11).alloc (Nat.le_refl _) (Obj.cells zeroA 33)) (Nat.le_refl _) _
          replace HA := Lib.hid (HA.out.trans (hal.mono HA.out.size))
          clear hal hw12 HZ UONE USZ USZ2
          have c1 := cell_later HA.out HC1.out
          go_wp2_with fail
          clear c1
          refine (HD2.out _).mono ?_
          rintro e w13 ⟨u, rfl, hu, hb⟩
          obtain ⟨va, b1, b2, b3, d1, d2, d3, rfl, uone, usz, uma, -, -, -, -⟩ := ms_cells hu
          have UONE := Lib.hid uone
          have USZ := Lib.hid usz
          have USZ2 : Hid (zeroA.size = va.size) := Lib.hid (by rw [uma]; rfl)
          replace HA := Lib.hid (HA.out.trans (hb.mono HA.out.size))
          clear hb hu uone usz uma HD2
          have HZ := Lib.hid (Blk.new w13 33 zeroA)
          go_wp2_with (first | refine wpList_store_then rfl 33 _ _ rfl w13.heap.size va rfl rfl 33 _ HZ.out USZ.out USZ2.out UONE.out ?_)
          refine Later.mk fun w14 hw14 => ?_
          have hal : Below w13.heap.size w13 w14 := by
            rw [hw14]
            exact Below.setRow ((Below.refl w13.heap.size w13).alloc (Nat.le_refl _) (Obj.cells zeroA 33)) (Nat.le_refl _) _
          replace HA := Lib.hid (HA.out.trans (hal.mono HA.out.size))
          clear hal hw14 HZ UONE USZ USZ2
          go_wp2
          exact ⟨⟨k + 1, HKN.out, rfl, HX.out.trans (HA.out.mono HX.out.size)⟩, meas_succ HKN.out⟩
        · as_aux_lemma =>
          rw [show ((9 : Nat) : Int) = 9 from rfl]
          replace HGOOD := Lib.hid (fun (k : Nat) (m : Ms) hm => (HGOOD.out k m hm).keep HX.out)
          replace HB := Lib.hid (HB.out.trans (HX.out.mono HB.out.size))
          clear hk HX HRAW
          obtain ⟨ua, hsz, hrng, hin⟩ := HGOOD.out 8 gm8 rfl
          obtain ⟨ma, a1, a2, a3, c1, c2, c3, hma, hone, hszz, huma, hE, hL, hC, hwf⟩ := ms_cells hin
          obtain rfl : ua = ma := by injection hma
          obtain ⟨cs, rfl⟩ : ∃ cs : List Value, ua = cs.toArray := ⟨ua.toList, by simp⟩
          have hr8 : wr.rangeAt g5 208 cs := by simpa using hrng
          have HR := Lib.hid hr8
          have HON := Lib.hid hone
          have HSZA := Lib.hid hszz
          have HSZL : Hid ((Try.prog.info? 33).map (·.size) = some cs.length) := Lib.hid (by rw [hszz]; simp)
          have HUZ : Hid (zeroA.size = cs.toArray.size) := Lib.hid (by have h2 := zeroA_size; rw [h2] at hszz; exact Option.some.inj hszz)
          have HUMA := Lib.hid huma
          have HE := Lib.hid hE
          have HL := Lib.hid hL
          have HC := Lib.hid hC
          have HWF := Lib.hid hwf
          clear hsz hrng hin hma hone hszz huma hE hL hC hwf hr8
          have HZ := Lib.hid (Blk.new wr 33 zeroA)
          go_wp2_with (first | refine wpList_load_mid rfl 33 _ rfl g5 208 rfl cs _ HR.out Try.underlying33 rfl HSZL.out ?_ | refine wpList_store_then rfl 33 _ _ rfl wr.heap.size cs.toArray rfl rfl 33 _ HZ.out HSZA.out HUZ.out HON.out ?_)
          refine Later.mk fun w9 hw9 => ?_
          have hal : Below wr.heap.size wr w9 := by
            rw [hw9]
            exact Below.setRow ((Below.refl wr.heap.size wr).alloc (Nat.le_refl _) (Obj.cells zeroA 33)) (Nat.le_refl _) _
          have hbk : Blk w9 wr.heap.size 33 cs.toArray := by rw [hw9]; exact HZ.out.row _
          rw [HUMA.out] at hbk
          have c18 : w9.cell? ⟨wr.heap.size, 18, none⟩ = some (.int .i64 8) := by rw [hbk.cell]; rfl
          have f18 := hbk.frozen 18
          have H19 := Lib.hid (show Blk _ wr.heap.size 33 (msA (p_N gm8 7) (.slice a1 gm8.es.length c1) (.slice a2 gm8.l.l.length c2) (.slice a3 gm8.p.cs.length c3)) from hbk.set 18 (.int .i64 7))
          have HA := Lib.hid (show Below wr.heap.size wr (w9.setCell ⟨wr.heap.size, 18, none⟩ (.int .i64 7)) from hal.setCell (Nat.le_refl _) _)
          clear hal hbk hw9 HZ
          go_upto_region 28 with fail
          generalize w9.setCell ⟨wr.heap.size, 18, none⟩ (.int .i64 7) = w10 at *
          clear c18 f18
          have HR2 := Lib.hid (show w10.rangeAt g5 208 cs from fun j u hj => cell_later HA.out (HR.out j u hj))
          have HZ := Lib.hid (Blk.new w10 33 zeroA)
          go_wp2_with (first | refine wpList_load_mid rfl 33 _ rfl g5 208 rfl cs _ HR2.out Try.underlying33 rfl HSZL.out ?_ | refine wpList_store_then rfl 33 _ _ rfl w10.heap.size cs.toArray rfl rfl 33 _ HZ.out HSZA.out HUZ.out HON.out ?_)
          refine Later.mk fun w11 hw11 => ?_
          have hal : Below w10.heap.size w10 w11 := by
            rw [hw11]
            exact Below.setRow ((Below.refl w10.heap.size w10).alloc (Nat.le_refl _) (Obj.cells zeroA 33)) (Nat.le_refl _) _
          have hbk : Blk w11 w10.heap.size 33 cs.toArray := by rw [hw11]; exact HZ.out.row _
          rw [HUMA.out] at hbk
          have c15 : w11.cell? ⟨w10.heap.size, 15, none⟩ = some (.int .u64 1) := by rw [hbk.cell]; rfl
          have f15 := hbk.frozen 15
          have H20 := Lib.hid (show Blk _ w10.heap.size 33 (msA (p_la gm8 (1, 9)) (.slice a1 gm8.es.length c1) (.slice a2 gm8.l.l.length c2) (.slice a3 gm8.p.cs.length c3)) from hbk.set 15 (.int .u64 9))
          have HA2 := Lib.hid (show Below w10.heap.size w10 (w11.setCell ⟨w10.heap.size, 15, none⟩ (.int .u64 9)) from hal.setCell (Nat.le_refl _) _)
          clear hal hbk hw11 HZ HR2
          go_upto_region 30 with fail
          generalize w11.setCell ⟨w10.heap.size, 15, none⟩ (.int .u64 9) = w12 at *
          clear c15 f15
          replace H19 := Lib.hid (H19.out.keep HA2.out)
          replace HA := Lib.hid (HA.out.trans (HA2.out.mono HA.out.size))
          have HI8 := Lib.hid (show InMs w12 (.agg cs.toArray) gm8 from ⟨_, _, _, by rw [HUMA.out], HE.out.keep HA.out, HL.out.keep HA.out, HC.out.keep HA.out, HWF.out⟩)
          have HI19 := Lib.hid (show InMs w12 (.agg (msA (p_N gm8 7) (.slice a1 gm8.es.length c1) (.slice a2 gm8.l.l.length c2) (.slice a3 gm8.p.cs.length c3))) (p_N gm8 7) from ⟨_, _, _, rfl, HE.out.keep HA.out, HL.out.keep HA.out, HC.out.keep HA.out, HWF.out.N_ rfl⟩)
          have HI20 := Lib.hid (show InMs w12 (.agg (msA (p_la gm8 (1, 9)) (.slice a1 gm8.es.length c1) (.slice a2 gm8.l.l.length c2) (.slice a3 gm8.p.cs.length c3))) (p_la gm8 (1, 9)) from ⟨_, _, _, rfl, HE.out.keep HA.out, HL.out.keep HA.out, HC.out.keep HA.out, HWF.out.la_ ⟨rfl, rfl⟩⟩)
          have HS19 := Lib.hid (msg_size (p_N gm8 7) (.slice a1 gm8.es.length c1) (.slice a2 gm8.l.l.length c2) (.slice a3 gm8.p.cs.length c3))
          have HS20 := Lib.hid (msg_size (p_la gm8 (1, 9)) (.slice a1 gm8.es.length c1) (.slice a2 gm8.l.l.length c2) (.slice a3 gm8.p.cs.length c3))
          generalize msA (p_N gm8 7) (.slice a1 gm8.es.length c1) (.slice a2 gm8.l.l.length c2) (.slice a3 gm8.p.cs.length c3) = n19 at *
          generalize msA (p_la gm8 (1, 9)) (.slice a1 gm8.es.length c1) (.slice a2 gm8.l.l.length c2) (.slice a3 gm8.p.cs.length c3) = n20 at *
          have HR8 := Lib.hid (show w12.rangeAt g5 208 cs from fun j u hj => cell_later HA.out (HR.out j u hj))
          clear HUMA HE HL HC HWF HON HUZ HR
          obtain ⟨ua, hsz, hrng, hin⟩ := (HGOOD.out 4 gm4 rfl).keep HA.out
          obtain ⟨xs4, rfl⟩ : ∃ cs : List Value, ua = cs.toArray := ⟨ua.toList, by simp⟩
          have HR4 := Lib.hid (show w12.rangeAt g5 104 xs4 from by simpa using hrng)
          have HI4 := Lib.hid hin
          have HSL4 : Hid ((Try.prog.info? 33).map (·.size) = some xs4.length) := Lib.hid (by
            obtain ⟨ma, a1, a2, a3, c1, c2, c3, hma, hone, hszz, -, -, -, -, -⟩ := ms_cells hin
            obtain rfl : xs4.toArray = ma := by injection hma
            rw [hszz]; simp)
          clear hsz hrng hin
          obtain ⟨ua, hsz, hrng, hin⟩ := (HGOOD.out 5 gm5 rfl).keep HA.out
          obtain ⟨xs5, rfl⟩ : ∃ cs : List Value, ua = cs.toArray := ⟨ua.toList, by simp⟩
          have HR5 := Lib.hid (show w12.rangeAt g5 130 xs5 from by simpa using hrng)
          have HI5 := Lib.hid hin
          have HSL5 : Hid ((Try.prog.info? 33).map (·.size) = some xs5.length) := Lib.hid (by
            obtain ⟨ma, a1, a2, a3, c1, c2, c3, hma, hone, hszz, -, -, -, -, -⟩ := ms_cells hin
            obtain rfl : xs5.toArray = ma := by injection hma
            rw [hszz]; simp)
          clear hsz hrng hin
          obtain ⟨ua, hsz, hrng, hin⟩ := (HGOOD.out 10 gm10 rfl).keep HA.out
          obtain ⟨xs10, rfl⟩ : ∃ cs : List Value, ua = cs.toArray := ⟨ua.toList, by simp⟩
          have HR10 := Lib.hid (show w12.rangeAt g5 260 xs10 from by simpa using hrng)
          have HI10 := Lib.hid hin
          have HSL10 : Hid ((Try.prog.info? 33).map (·.size) = some xs10.length) := Lib.hid (by
            obtain ⟨ma, a1, a2, a3, c1, c2, c3, hma, hone, hszz, -, -, -, -, -⟩ := ms_cells hin
            obtain rfl : xs10.toArray = ma := by injection hma
            rw [hszz]; simp)
          clear hsz hrng hin
          obtain ⟨ua, hsz, hrng, hin⟩ := (HGOOD.out 11 gm11 rfl).keep HA.out
          obtain ⟨xs11, rfl⟩ : ∃ cs : List Value, ua = cs.toArray := ⟨ua.toList, by simp⟩
          have HR11 := Lib.hid (show w12.rangeAt g5 286 xs11 from by simpa using hrng)
          have HI11 := Lib.hid hin
          have HSL11 : Hid ((Try.prog.info? 33).map (·.size) = some xs11.length) := Lib.hid (by
            obtain ⟨ma, a1, a2, a3, c1, c2, c3, hma, hone, hszz, -, -, -, -, -⟩ := ms_cells hin
            obtain rfl : xs11.toArray = ma := by injection hma
            rw [hszz]; simp)
          clear hsz hrng hin
          replace HB := Lib.hid (HB.out.trans (HA.out.mono HB.out.size))
          obtain ⟨sf1, sf2, sf3, sf4, sf5⟩ := same_facts
          have HM1 := Lib.hid (fun w2 h => msame_any w2 (.agg cs.toArray) (.agg n19) gm8 (p_N gm8 7) (HI8.out.keep h) (HI19.out.keep h))
          have HM2 := Lib.hid (fun w2 h => msame_any w2 (.agg cs.toArray) (.agg n20) gm8 (p_la gm8 (1, 9)) (HI8.out.keep h) (HI20.out.keep h))
          have HM3 := Lib.hid (fun w2 h => msame_any w2 (.agg xs4.toArray) (.agg xs5.toArray) gm4 gm5 (HI4.out.keep h) (HI5.out.keep h))
          have HM4 := Lib.hid (fun w2 h => msame_any w2 (.agg xs10.toArray) (.agg xs11.toArray) gm10 gm11 (HI10.out.keep h) (HI11.out.keep h))
          have HM5 := Lib.hid (fun (w2 : World) (g : Nat) => msame_any w2 (.agg (msA zeroM (.slice (some ⟨g, 0, none⟩) 0 0) (.slice none 0 0) (.slice none 0 0))) (.agg (msV zeroM)) zeroM zeroM ⟨_, _, _, rfl, ⟨_, 0, rfl, .inl rfl, Nat.zero_le _, (fun e he => by cases he), fun j hj => by cases hj⟩, InG.nil_ _, InC.nil_ _ _ _, zeroM_wf⟩ (lit_in w2 rfl rfl rfl zeroM_wf))
          rw [sf1] at HM1
          rw [sf2] at HM2
          rw [sf3] at HM3
          rw [sf4] at HM4
          rw [sf5] at HM5
          clear sf1 sf2 sf3 sf4 sf5 HGOOD HA HA2 HI8 HI19 HI20 HI4 HI5 HI10 HI11
          refine wp_region_chain [1, 8, 16, 26, 30, 33, 42] (kv [(1, .is (.bool true)), (8, .is (.bool false)), (16, .is (.bool false)), (26, .is (.bool false)), (30, .sl 0), (33, .is (.bool true)), (42, .is (.bool false))]) (fun _ w => Below (w12).heap.size (w12) w) (by kernel_rfl) (by kernel_rfl) (by kernel_rfl) (kv_inh _) (Below.drew (Below.refl _ _)) ?_
          intro ν hν
          have n1 : ν 1 = .bool true := hν 1
          have n8 : ν 8 = .bool false := hν 8
          have n16 : ν 16 = .bool false := hν 16
          have n26 : ν 26 = .bool false := hν 26
          obtain ⟨gz, n30⟩ : ∃ g, ν 30 = .slice (some ⟨g, 0, none⟩) 0 0 := hν 30
          have n33 : ν 33 = .bool true := hν 33
          have n42 : ν 42 = .bool false := hν 42
          clear hν
          refine ch_plain 0 7 1 (by rfl) rfl (by kernel_rfl) (by kernel_rfl) ?_
          apply Exists.intro
          refine ⟨fun st w2 hlo hhi hJ => ?_, ?_⟩
          · clear hlo hhi hJ
            go_simp
            exact And.intro rfl rfl
          simp only [Act.put, List.setIfInBounds_toArray, List.set_cons_succ, List.set_cons_zero, Nat.reduceAdd]
          refine ch_special 0 8 (by rfl) rfl (by decide) (by kernel_rfl) (fun w2 hJ => ?_) ?_
          · replace hJ : Below (w12).heap.size (w12) w2 := hJ
            go_simp
            refine (works_any w2).mono ?_
            rintro e w3 ⟨rfl, hb⟩
            exact ⟨_, rfl, rfl, hJ.trans (hb.mono hJ.size)⟩
          rw [n1]
          simp only [Act.put, List.setIfInBounds_toArray, List.set_cons_succ, List.set_cons_zero, Nat.reduceAdd]
          refine ch_plain 0 7 1 (by rfl) rfl (by kernel_rfl) (by kernel_rfl) ?_
          apply Exists.intro
          refine ⟨fun st w2 hlo hhi hJ => ?_, ?_⟩
          · clear hlo hhi hJ
            go_simp
            exact And.intro rfl rfl
          simp only [Act.put, List.setIfInBounds_toArray, List.set_cons_succ, List.set_cons_zero, Nat.reduceAdd]
          refine ch_plain 0 7 1 (by rfl) rfl (by kernel_rfl) (by kernel_rfl) ?_
          apply Exists.intro
          refine ⟨fun st w2 hlo hhi hJ => ?_, ?_⟩
          · clear hlo hhi hJ
            go_simp
            exact And.intro rfl rfl
          simp only [Act.put, List.setIfInBounds_toArray, List.set_cons_succ, List.set_cons_zero, Nat.reduceAdd]
          refine ch_plain 0 7 1 (by rfl) rfl (by kernel_rfl) (by kernel_rfl) ?_
          apply Exists.intro
          refine ⟨fun st w2 hlo hhi hJ => ?_, ?_⟩
          · clear hlo hhi hJ
            go_simp
            exact And.intro rfl rfl
          simp only [Act.put, List.setIfInBounds_toArray, List.set_cons_succ, List.set_cons_zero, Nat.reduceAdd]
          refine ch_plain 0 7 1 (by rfl) rfl (by kernel_rfl) (by kernel_rfl) ?_
          apply Exists.intro
          refine ⟨fun st w2 hlo hhi hJ => ?_, ?_⟩
          · clear hlo hhi hJ
            go_simp
            exact And.intro rfl rfl
          simp only [Act.put, List.setIfInBounds_toArray, List.set_cons_succ, List.set_cons_zero, Nat.reduceAdd]
          refine ch_plain 0 7 1 (by rfl) rfl (by kernel_rfl) (by kernel_rfl) ?_
          apply Exists.intro
          refine ⟨fun st w2 hlo hhi hJ => ?_, ?_⟩
          · have hJ' : Below w12.heap.size w12 w2 := hJ
            have hy : w2.rangeAt g5 208 cs := fun j u hj => cell_later hJ' (HR8.out j u hj)
            clear hlo hhi hJ hJ'
            rw [exec_load_mid 33 _ rfl g5 208 rfl cs _ hy Try.underlying33 rfl HSZL.out]
            exact And.intro rfl rfl
          simp only [Act.put, List.setIfInBounds_toArray, List.set_cons_succ, List.set_cons_zero, Nat.reduceAdd]
          refine ch_plain 0 7 1 (by rfl) rfl (by kernel_rfl) (by kernel_rfl) ?_
          apply Exists.intro
          refine ⟨fun st w2 hlo hhi hJ => ?_, ?_⟩
          · have hJ' : Below w12.heap.size w12 w2 := hJ
            have hy := H19.out.keep hJ'
            clear hlo hhi hJ hJ'
            rw [exec_load_blk 33 _ rfl wr.heap.size rfl _ hy Try.underlying33 rfl HS19.out]
            exact And.intro rfl rfl
          simp only [Act.put, List.setIfInBounds_toArray, List.set_cons_succ, List.set_cons_zero, Nat.reduceAdd]
          refine ch_special 1 8 (by rfl) rfl (by decide) (by kernel_rfl) (fun w2 hJ => ?_) ?_
          · replace hJ : Below (w12).heap.size (w12) w2 := hJ
            go_simp
            refine (HM1.out w2 hJ).mono ?_
            rintro e w3 ⟨rfl, hb⟩
            exact ⟨_, rfl, rfl, hJ.trans (hb.mono hJ.size)⟩
          rw [n8]
          simp only [Act.put, List.setIfInBounds_toArray, List.set_cons_succ, List.set_cons_zero, Nat.reduceAdd]
          refine ch_plain 0 7 1 (by rfl) rfl (by kernel_rfl) (by kernel_rfl) ?_
          apply Exists.intro
          refine ⟨fun st w2 hlo hhi hJ => ?_, ?_⟩
          · clear hlo hhi hJ
            go_simp
            exact And.intro rfl rfl
          simp only [Act.put, List.setIfInBounds_toArray, List.set_cons_succ, List.set_cons_zero, Nat.reduceAdd]
          refine ch_plain 0 7 1 (by rfl) rfl (by kernel_rfl) (by kernel_rfl) ?_
          apply Exists.intro
          refine ⟨fun st w2 hlo hhi hJ => ?_, ?_⟩
          · clear hlo hhi hJ
            go_simp
            exact And.intro rfl rfl
          simp only [Act.put, List.setIfInBounds_toArray, List.set_cons_succ, List.set_cons_zero, Nat.reduceAdd]
          refine ch_plain 0 7 1 (by rfl) rfl (by kernel_rfl) (by kernel_rfl) ?_
          apply Exists.intro
          refine ⟨fun st w2 hlo hhi hJ => ?_, ?_⟩
          · clear hlo hhi hJ
            go_simp
            exact And.intro rfl rfl
          simp only [Act.put, List.setIfInBounds_toArray, List.set_cons_succ, List.set_cons_zero, Nat.reduceAdd]
          refine ch_plain 0 7 1 (by rfl) rfl (by kernel_rfl) (by kernel_rfl) ?_
          apply Exists.intro
          refine ⟨fun st w2 hlo hhi hJ => ?_, ?_⟩
          · clear hlo hhi hJ
            go_simp
            exact And.intro rfl rfl
          simp only [Act.put, List.setIfInBounds_toArray, List.set_cons_succ, List.set_cons_zero, Nat.reduceAdd]
          refine ch_plain 0 7 1 (by rfl) rfl (by kernel_rfl) (by kernel_rfl) ?_
          apply Exists.intro
          refine ⟨fun st w2 hlo hhi hJ => ?_, ?_⟩
          · clear hlo hhi hJ
            go_simp
            exact And.intro rfl rfl
          simp only [Act.put, List.setIfInBounds_toArray, List.set_cons_succ, List.set_cons_zero, Nat.reduceAdd]
          refine ch_plain 0 7 1 (by rfl) rfl (by kernel_rfl) (by kernel_rfl) ?_
          apply Exists.intro
          refine ⟨fun st w2 hlo hhi hJ => ?_, ?_⟩
          · have hJ' : Below w12.heap.size w12 w2 := hJ
            have hy : w2.rangeAt g5 208 cs := fun j u hj => cell_later hJ' (HR8.out j u hj)
            clear hlo hhi hJ hJ'
            rw [exec_load_mid 33 _ rfl g5 208 rfl cs _ hy Try.underlying33 rfl HSZL.out]
            exact And.intro rfl rfl
          simp only [Act.put, List.setIfInBounds_toArray, List.set_cons_succ, List.set_cons_zero, Nat.reduceAdd]
          refine ch_plain 0 7 1 (by rfl) rfl (by kernel_rfl) (by kernel_rfl) ?_
          apply Exists.intro
          refine ⟨fun st w2 hlo hhi hJ => ?_, ?_⟩
          · have hJ' : Below w12.heap.size w12 w2 := hJ
            have hy := H20.out.keep hJ'
            clear hlo hhi hJ hJ'
            rw [exec_load_blk 33 _ rfl w10.heap.size rfl _ hy Try.underlying33 rfl HS20.out]
            exact And.intro rfl rfl
          simp only [Act.put, List.setIfInBounds_toArray, List.set_cons_succ, List.set_cons_zero, Nat.reduceAdd]
          refine ch_special 2 8 (by rfl) rfl (by decide) (by kernel_rfl) (fun w2 hJ => ?_) ?_
          · replace hJ : Below (w12).heap.size (w12) w2 := hJ
            go_simp
            refine (HM2.out w2 hJ).mono ?_
            rintro e w3 ⟨rfl, hb⟩
            exact ⟨_, rfl, rfl, hJ.trans (hb.mono hJ.size)⟩
          rw [n16]
          simp only [Act.put, List.setIfInBounds_toArray, List.set_cons_succ, List.set_cons_zero, Nat.reduceAdd]
          refine ch_plain 0 7 1 (by rfl) rfl (by kernel_rfl) (by kernel_rfl) ?_
          apply Exists.intro
          refine ⟨fun st w2 hlo hhi hJ => ?_, ?_⟩
          · clear hlo hhi hJ
            go_simp
            exact And.intro rfl rfl
          simp only [Act.put, List.setIfInBounds_toArray, List.set_cons_succ, List.set_cons_zero, Nat.reduceAdd]
          refine ch_plain 0 7 1 (by rfl) rfl (by kernel_rfl) (by kernel_rfl) ?_
          apply Exists.intro
          refine ⟨fun st w2 hlo hhi hJ => ?_, ?_⟩
          · clear hlo hhi hJ
            go_simp
            exact And.intro rfl rfl
          simp only [Act.put, List.setIfInBounds_toArray, List.set_cons_succ, List.set_cons_zero, Nat.reduceAdd]
          refine ch_plain 0 7 1 (by rfl) rfl (by kernel_rfl) (by kernel_rfl) ?_
          apply Exists.intro
          refine ⟨fun st w2 hlo hhi hJ => ?_, ?_⟩
          · clear hlo hhi hJ
            go_simp
            exact And.intro rfl rfl
          simp only [Act.put, List.setIfInBounds_toArray, List.set_cons_succ, List.set_cons_zero, Nat.reduceAdd]
          refine ch_plain 0 7 1 (by rfl) rfl (by kernel_rfl) (by kernel_rfl) ?_
          apply Exists.intro
          refine ⟨fun st w2 hlo hhi hJ => ?_, ?_⟩
          · clear hlo hhi hJ
            go_simp
            exact And.intro rfl rfl
          simp only [Act.put, List.setIfInBounds_toArray, List.set_cons_succ, List.set_cons_zero, Nat.reduceAdd]
          refine ch_plain 0 7 1 (by rfl) rfl (by kernel_rfl) (by kernel_rfl) ?_
          apply Exists.intro
          refine ⟨fun st w2 hlo hhi hJ => ?_, ?_⟩
          · clear hlo hhi hJ
            go_simp
            exact And.intro rfl rfl
          simp only [Act.put, List.setIfInBounds_toArray, List.set_cons_succ, List.set_cons_zero, Nat.reduceAdd]
          refine ch_plain 0 7 1 (by rfl) rfl (by kernel_rfl) (by kernel_rfl) ?_
          apply Exists.intro
          refine ⟨fun st w2 hlo hhi hJ => ?_, ?_⟩
          · have hJ' : Below w12.heap.size w12 w2 := hJ
            have hy : w2.rangeAt g5 104 xs4 := fun j u hj => cell_later hJ' (HR4.out j u hj)
            clear hlo hhi hJ hJ'
            rw [exec_load_mid 33 _ rfl g5 104 rfl xs4 _ hy Try.underlying33 rfl HSL4.out]
            exact And.intro rfl rfl
          simp only [Act.put, List.setIfInBounds_toArray, List.set_cons_succ, List.set_cons_zero, Nat.reduceAdd]
          refine ch_plain 0 7 1 (by rfl) rfl (by kernel_rfl) (by kernel_rfl) ?_
          apply Exists.intro
          refine ⟨fun st w2 hlo hhi hJ => ?_, ?_⟩
          · clear hlo hhi hJ
            go_simp
            exact And.intro rfl rfl
          simp only [Act.put, List.setIfInBounds_toArray, List.set_cons_succ, List.set_cons_zero, Nat.reduceAdd]
          refine ch_plain 0 7 1 (by rfl) rfl (by kernel_rfl) (by kernel_rfl) ?_
          apply Exists.intro
          refine ⟨fun st w2 hlo hhi hJ => ?_, ?_⟩
          · clear hlo hhi hJ
            go_simp
            exact And.intro rfl rfl
          simp only [Act.put, List.setIfInBounds_toArray, List.set_cons_succ, List.set_cons_zero, Nat.reduceAdd]
          refine ch_plain 0 7 1 (by rfl) rfl (by kernel_rfl) (by kernel_rfl) ?_
          apply Exists.intro
          refine ⟨fun st w2 hlo hhi hJ => ?_, ?_⟩
          · have hJ' : Below w12.heap.size w12 w2 := hJ
            have hy : w2.rangeAt g5 130 xs5 := fun j u hj => cell_later hJ' (HR5.out j u hj)
            clear hlo hhi hJ hJ'
            rw [exec_load_mid 33 _ rfl g5 130 rfl xs5 _ hy Try.underlying33 rfl HSL5.out]
            exact And.intro rfl rfl
          simp only [Act.put, List.setIfInBounds_toArray, List.set_cons_succ, List.set_cons_zero, Nat.reduceAdd]
          refine ch_special 3 8 (by rfl) rfl (by decide) (by kernel_rfl) (fun w2 hJ => ?_) ?_
          · replace hJ : Below (w12).heap.size (w12) w2 := hJ
            go_simp
            refine (HM3.out w2 hJ).mono ?_
            rintro e w3 ⟨rfl, hb⟩
            exact ⟨_, rfl, rfl, hJ.trans (hb.mono hJ.size)⟩
          rw [n26]
          simp only [Act.put, List.setIfInBounds_toArray, List.set_cons_succ, List.set_cons_zero, Nat.reduceAdd]
          refine ch_plain 0 7 1 (by rfl) rfl (by kernel_rfl) (by kernel_rfl) ?_
          apply Exists.intro
          refine ⟨fun st w2 hlo hhi hJ => ?_, ?_⟩
          · clear hlo hhi hJ
            go_simp
            exact And.intro rfl rfl
          simp only [Act.put, List.setIfInBounds_toArray, List.set_cons_succ, List.set_cons_zero, Nat.reduceAdd]
          refine ch_plain 0 7 1 (by rfl) rfl (by kernel_rfl) (by kernel_rfl) ?_
          apply Exists.intro
          refine ⟨fun st w2 hlo hhi hJ => ?_, ?_⟩
          · clear hlo hhi hJ
            go_simp
            exact And.intro rfl rfl
          simp only [Act.put, List.setIfInBounds_toArray, List.set_cons_succ, List.set_cons_zero, Nat.reduceAdd]
          refine ch_plain 0 7 1 (by rfl) rfl (by kernel_rfl) (by kernel_rfl) ?_
          apply Exists.intro
          refine ⟨fun st w2 hlo hhi hJ => ?_, ?_⟩
          · clear hlo hhi hJ
            go_simp
            exact And.intro rfl rfl
          simp only [Act.put, List.setIfInBounds_toArray, List.set_cons_succ, List.set_cons_zero, Nat.reduceAdd]
          refine ch_special 4 8 (by rfl) rfl (by decide) (by kernel_rfl) (fun w2 hJ => ?_) ?_
          · replace hJ : Below (w12).heap.size (w12) w2 := hJ
            go_simp
            exact ⟨⟨_, rfl⟩, hJ.alloc hJ.size _⟩
          rw [n30]
          simp only [Act.put, List.setIfInBounds_toArray, List.set_cons_succ, List.set_cons_zero, Nat.reduceAdd]
          refine ch_plain 0 7 1 (by rfl) rfl (by kernel_rfl) (by kernel_rfl) ?_
          refine ⟨.agg (msA zeroM (ν 30) (.slice none 0 0) (.slice none 0 0)), fun st w2 hlo hhi hJ => ?_, ?_⟩
          · clear hlo hhi hJ
            go_simp
            exact And.intro rfl rfl
          simp only [Act.put, List.setIfInBounds_toArray, List.set_cons_succ, List.set_cons_zero, Nat.reduceAdd]
          refine ch_plain 0 7 1 (by rfl) rfl (by kernel_rfl) (by kernel_rfl) ?_
          refine ⟨.agg (msV zeroM), fun st w2 hlo hhi hJ => ?_, ?_⟩
          · clear hlo hhi hJ
            go_simp
            exact And.intro rfl rfl
          simp only [Act.put, List.setIfInBounds_toArray, List.set_cons_succ, List.set_cons_zero, Nat.reduceAdd]
          refine ch_special 5 8 (by rfl) rfl (by decide) (by kernel_rfl) (fun w2 hJ => ?_) ?_
          · replace hJ : Below (w12).heap.size (w12) w2 := hJ
            go_simp
            refine (HM5.out w2 gz).mono ?_
            rintro e w3 ⟨rfl, hb⟩
            exact ⟨_, rfl, rfl, hJ.trans (hb.mono hJ.size)⟩
          rw [n33]
          simp only [Act.put, List.setIfInBounds_toArray, List.set_cons_succ, List.set_cons_zero, Nat.reduceAdd]
          refine ch_plain 0 7 1 (by rfl) rfl (by kernel_rfl) (by kernel_rfl) ?_
          apply Exists.intro
          refine ⟨fun st w2 hlo hhi hJ => ?_, ?_⟩
          · clear hlo hhi hJ
            go_simp
            exact And.intro rfl rfl
          simp only [Act.put, List.setIfInBounds_toArray, List.set_cons_succ, List.set_cons_zero, Nat.reduceAdd]
          refine ch_plain 0 7 1 (by rfl) rfl (by kernel_rfl) (by kernel_rfl) ?_
          apply Exists.intro
          refine ⟨fun st w2 hlo hhi hJ => ?_, ?_⟩
          · clear hlo hhi hJ
            go_simp
            exact And.intro rfl rfl
          simp only [Act.put, List.setIfInBounds_toArray, List.set_cons_succ, List.set_cons_zero, Nat.reduceAdd]
          refine ch_plain 0 7 1 (by rfl) rfl (by kernel_rfl) (by kernel_rfl) ?_
          apply Exists.intro
          refine ⟨fun st w2 hlo hhi hJ => ?_, ?_⟩
          · clear hlo hhi hJ
            go_simp
            exact And.intro rfl rfl
          simp only [Act.put, List.setIfInBounds_toArray, List.set_cons_succ, List.set_cons_zero, Nat.reduceAdd]
          refine ch_plain 0 7 1 (by rfl) rfl (by kernel_rfl) (by kernel_rfl) ?_
          apply Exists.intro
          refine ⟨fun st w2 hlo hhi hJ => ?_, ?_⟩
          · clear hlo hhi hJ
            go_simp
            exact And.intro rfl rfl
          simp only [Act.put, List.setIfInBounds_toArray, List.set_cons_succ, List.set_cons_zero, Nat.reduceAdd]
          refine ch_plain 0 7 1 (by rfl) rfl (by kernel_rfl) (by kernel_rfl) ?_
          apply Exists.intro
          refine ⟨fun st w2 hlo hhi hJ => ?_, ?_⟩
          · have hJ' : Below w12.heap.size w12 w2 := hJ
            have hy : w2.rangeAt g5 260 xs10 := fun j u hj => cell_later hJ' (HR10.out j u hj)
            clear hlo hhi hJ hJ'
            rw [exec_load_mid 33 _ rfl g5 260 rfl xs10 _ hy Try.underlying33 rfl HSL10.out]
            exact And.intro rfl rfl
          simp only [Act.put, List.setIfInBounds_toArray, List.set_cons_succ, List.set_cons_zero, Nat.reduceAdd]
          refine ch_plain 0 7 1 (by rfl) rfl (by kernel_rfl) (by kernel_rfl) ?_
          apply Exists.intro
          refine ⟨fun st w2 hlo hhi hJ => ?_, ?_⟩
          · clear hlo hhi hJ
            go_simp
            exact And.intro rfl rfl
          simp only [Act.put, List.setIfInBounds_toArray, List.set_cons_succ, List.set_cons_zero, Nat.reduceAdd]
          refine ch_plain 0 7 1 (by rfl) rfl (by kernel_rfl) (by kernel_rfl) ?_
          apply Exists.intro
          refine ⟨fun st w2 hlo hhi hJ => ?_, ?_⟩
          · clear hlo hhi hJ
            go_simp
            exact And.intro rfl rfl
          simp only [Act.put, List.setIfInBounds_toArray, List.set_cons_succ, List.set_cons_zero, Nat.reduceAdd]
          refine ch_plain 0 7 1 (by rfl) rfl (by kernel_rfl) (by kernel_rfl) ?_
          apply Exists.intro
          refine ⟨fun st w2 hlo hhi hJ => ?_, ?_⟩
          · have hJ' : Below w12.heap.size w12 w2 := hJ
            have hy : w2.rangeAt g5 286 xs11 := fun j u hj => cell_later hJ' (HR11.out j u hj)
            clear hlo hhi hJ hJ'
            rw [exec_load_mid 33 _ rfl g5 286 rfl xs11 _ hy Try.underlying33 rfl HSL11.out]
            exact And.intro rfl rfl
          simp only [Act.put, List.setIfInBounds_toArray, List.set_cons_succ, List.set_cons_zero, Nat.reduceAdd]
          refine ch_special 6 8 (by rfl) rfl (by decide) (by kernel_rfl) (fun w2 hJ => ?_) ?_
          · replace hJ : Below (w12).heap.size (w12) w2 := hJ
            go_simp
            refine (HM4.out w2 hJ).mono ?_
            rintro e w3 ⟨rfl, hb⟩
            exact ⟨_, rfl, rfl, hJ.trans (hb.mono hJ.size)⟩
          rw [n42]
          simp only [Act.put, List.setIfInBounds_toArray, List.set_cons_succ, List.set_cons_zero, Nat.reduceAdd]
          refine ch_plain 0 7 1 (by rfl) rfl (by kernel_rfl) (by kernel_rfl) ?_
          apply Exists.intro
          refine ⟨fun st w2 hlo hhi hJ => ?_, ?_⟩
          · clear hlo hhi hJ
            go_simp
            exact And.intro rfl rfl
          simp only [Act.put, List.setIfInBounds_toArray, List.set_cons_succ, List.set_cons_zero, Nat.reduceAdd]
          refine ch_plain 0 7 1 (by rfl) rfl (by kernel_rfl) (by kernel_rfl) ?_
          apply Exists.intro
          refine ⟨fun st w2 hlo hhi hJ => ?_, ?_⟩
          · clear hlo hhi hJ
            go_simp
            exact And.intro rfl rfl
          simp only [Act.put, List.setIfInBounds_toArray, List.set_cons_succ, List.set_cons_zero, Nat.reduceAdd]
          refine ch_plain 0 7 1 (by rfl) rfl (by kernel_rfl) (by kernel_rfl) ?_
          apply Exists.intro
          refine ⟨fun st w2 hlo hhi hJ => ?_, ?_⟩
          · clear hlo hhi hJ
            go_simp
            exact And.intro rfl rfl
          simp only [Act.put, Nat.reduceAdd]
          refine ch_nil (fun w15 hJ => ?_)
          replace hJ : Below (w12).heap.size (w12) w15 := hJ
          clear n1 n8 n16 n26 n30 n33 n42
          have HB9 := Lib.hid (HB.out.trans (hJ.mono HB.out.size))
          clear hJ
          go_wp2
          go_ret
          exact ⟨rfl, HB9.out⟩
end Go.Proofs.Ytikimmhkfjaijaa
