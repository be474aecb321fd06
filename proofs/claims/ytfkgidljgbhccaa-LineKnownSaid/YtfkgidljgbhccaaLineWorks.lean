/-
  works OF THE LINES' STATEMENTS, WALKED (printed by wip/gen-lineworks.py).
-/
import Derived.Test.YtfkgidljgbhccaaLineSame
namespace Go.Proofs.Ytfkgidljgbhccaa
open Go.RowKit Reg

def zeroL : Array Value := #[.int .u64 0, .int .i64 0, .bool false, .slice none 0 0]
def wvs (al : Nat) : List Vr := [⟨al, al + 1, 25, zeroL, none, al - 1⟩]
theorem wfine_of (al : Nat) (h : 1 ≤ al) : Fine (wvs al) := by
  refine ⟨?_, ?_, ?_, ?_⟩
  all_goals
    intro v hv v' hv'
    simp only [wvs, List.mem_cons, List.not_mem_nil, or_false] at hv hv'
    subst hv
    subst hv'
    simp
  omega
set_option maxRecDepth 100000 in
set_option maxHeartbeats 8000000 in
theorem works_any (w : World) : Calls Try.prog 13 #[] w fun e w' => e = .returned (.bool true) ∧ Below w.heap.size w w' := by
  go_enter Try.func13, Try.ntmps13
  go_wp2_with fail
  refine (guid_any 1 1 _).mono ?_
  rintro e w1 ⟨rfl, hb⟩
  have HB := Lib.hid hb
  clear hb
  go_wp2_with fail
  refine (guid_any 1 2 _).mono ?_
  rintro e w2 ⟨rfl, hb⟩
  have HB := Lib.hid (HB.out.trans (hb.mono HB.out.size))
  clear hb
  go_wp2_with fail
  have hA := (Blk.new w2 32 #[.int .u64 1, .int .u64 1]).alloc (Obj.cells #[.int .u64 1, .int .u64 2] 32)
  have hBB := Blk.newAt (w := w2.alloc (Obj.cells #[.int .u64 1, .int .u64 1] 32)) 32 #[.int .u64 1, .int .u64 2] (g := w2.heap.size + 1) (by simp)
  have hb2 := ((Below.refl w2.heap.size w2).alloc (Nat.le_refl _) (Obj.cells #[.int .u64 1, .int .u64 1] 32)).alloc (by simp) (Obj.cells #[.int .u64 1, .int .u64 2] 32)
  generalize (w2.alloc (Obj.cells #[.int .u64 1, .int .u64 1] 32)).alloc (Obj.cells #[.int .u64 1, .int .u64 2] 32) = w3 at *
  have HB := Lib.hid (HB.out.trans (hb2.mono HB.out.size))
  generalize w2.heap.size + 1 = gb at *
  generalize w2.heap.size = ga at *
  have HA := Lib.hid hA
  have HBB := Lib.hid hBB
  clear hA hBB hb2
  refine wp_region_spec (fun i => i == 1 || i == 2 || i == 4 || i == 5 || i == 6 || i == 7 || i == 8) (kinds [(1, .sl 1), (2, .ln 2 0 false 1), (4, .sl 1), (5, .ln 3 0 false 1), (6, .ln 3 0 false 1), (7, .pt), (8, .is undef)]) (CG w3 (wvs 7) (Fof w3.heap.size [(1, .g [(1, 1)]), (2, .l ⟨2, 0, false, [(1, 1)]⟩), (4, .g [(1, 1)]), (5, .l ⟨3, 0, false, [(1, 1)]⟩), (6, .l ⟨3, 0, false, [(1, 1)]⟩)])) (by as_aux_lemma => kernel_rfl) (by as_aux_lemma => kernel_rfl) (kinds_inh _) CG.start ?_
  intro ν hν
  obtain ⟨g1, n1⟩ : ∃ g, ν 1 = .slice (some ⟨g, 0, none⟩) 1 1 := hν 1
  obtain ⟨a2, c2, n2⟩ : ∃ a c, ν 2 = .agg #[.int .u64 2, .int .i64 0, .bool false, .slice a 1 c] := hν 2
  obtain ⟨g4, n4⟩ : ∃ g, ν 4 = .slice (some ⟨g, 0, none⟩) 1 1 := hν 4
  obtain ⟨a5, c5, n5⟩ : ∃ a c, ν 5 = .agg #[.int .u64 3, .int .i64 0, .bool false, .slice a 1 c] := hν 5
  obtain ⟨a6, c6, n6⟩ : ∃ a c, ν 6 = .agg #[.int .u64 3, .int .i64 0, .bool false, .slice a 1 c] := hν 6
  obtain ⟨g7, n7⟩ : ∃ g, ν 7 = ptr g := hν 7
  have n8 : ν 8 = undef := hν 8
  clear hν
  refine lex_plain (by rfl) rfl ⟨.agg #[.int .u64 1, .int .u64 1], fun σ w1 hA hD hC => ?_, ?_⟩
  · rw [exec_load 32 (.tmp 1) rfl ga rfl 32 _ _ (HA.out.keep hC.below) Try.underlying32 rfl (by kernel_rfl)]
    exact ⟨rfl, rfl⟩
  simp only [Act.put, List.setIfInBounds_toArray, List.set_cons_succ, List.set_cons_zero, Nat.reduceAdd]
  refine lex_special (by rfl) rfl (fun σ w1 hA hD hn hC => ?_) ?_
  · go_simp
    exact lit_ok hC hn (by simp [wvs]) [(1, 1)] 1 _ rfl rfl (by decide) (by decide) (fun _ _ h => h) (fun g => ⟨g, rfl⟩)
  rw [n1]
  simp only [Act.put, List.setIfInBounds_toArray, List.set_cons_succ, List.set_cons_zero, Nat.reduceAdd]
  refine lex_special (by rfl) rfl (fun σ w1 hA hD hn hC => ?_) ?_
  · have e1 := got1 hA hD 1 rfl (by kernel_rfl)
    rw [n1] at e1
    go_simp
    exact of_ok hC hn (by simp [wvs]) 1 (by simp [wvs]) 2 false _ 1 _ e1 [(1, 1)] (by decide) (fun _ _ h => h) (fun _ _ h => h) ⟨_, _, rfl⟩
  rw [n2]
  simp only [Act.put, List.setIfInBounds_toArray, List.set_cons_succ, List.set_cons_zero, Nat.reduceAdd]
  refine lex_plain (by rfl) rfl ⟨.agg #[.int .u64 1, .int .u64 1], fun σ w1 hA hD hC => ?_, ?_⟩
  · rw [exec_load 32 (.tmp 1) rfl ga rfl 32 _ _ (HA.out.keep hC.below) Try.underlying32 rfl (by kernel_rfl)]
    exact ⟨rfl, rfl⟩
  simp only [Act.put, List.setIfInBounds_toArray, List.set_cons_succ, List.set_cons_zero, Nat.reduceAdd]
  refine lex_special (by rfl) rfl (fun σ w1 hA hD hn hC => ?_) ?_
  · go_simp
    exact lit_ok hC hn (by simp [wvs]) [(1, 1)] 1 _ rfl rfl (by decide) (by decide) (fun _ _ h => h) (fun g => ⟨g, rfl⟩)
  rw [n4]
  simp only [Act.put, List.setIfInBounds_toArray, List.set_cons_succ, List.set_cons_zero, Nat.reduceAdd]
  refine lex_special (by rfl) rfl (fun σ w1 hA hD hn hC => ?_) ?_
  · have e4 := got1 hA hD 4 rfl (by kernel_rfl)
    rw [n4] at e4
    go_simp
    exact of_ok hC hn (by simp [wvs]) 4 (by simp [wvs]) 3 false _ 1 _ e4 [(1, 1)] (by decide) (fun _ _ h => h) (fun _ _ h => h) ⟨_, _, rfl⟩
  rw [n5]
  simp only [Act.put, List.setIfInBounds_toArray, List.set_cons_succ, List.set_cons_zero, Nat.reduceAdd]
  refine lex_special (by rfl) rfl (fun σ w1 hA hD hn hC => ?_) ?_
  · have e2 := got1 hA hD 2 rfl (by kernel_rfl)
    rw [n2] at e2
    have e5 := got1 hA hD 5 rfl (by kernel_rfl)
    rw [n5] at e5
    go_simp
    exact merge_ok hC hn (by simp [wvs]) 2 5 (by simp [wvs]) (by simp [wvs]) _ _ e2 e5 ⟨2, 0, false, [(1, 1)]⟩ ⟨3, 0, false, [(1, 1)]⟩ ⟨3, 0, false, [(1, 1)]⟩ (fun _ _ h => h) (fun _ _ h => h) rfl (by decide) (by decide) (fun _ _ h => h) (fun a c => ⟨a, c, rfl⟩)
  rw [n6]
  simp only [Act.put, List.setIfInBounds_toArray, List.set_cons_succ, List.set_cons_zero, Nat.reduceAdd]
  refine lex_special (by rfl) rfl (fun σ w1 hA hD hn hC => ?_) ?_
  · go_simp
    exact hC.lay_ok (wfine_of 7 (by decide)) (v := ⟨7, 8, 25, zeroL, none, 6⟩) (by simp [wvs]) hn ⟨_, rfl⟩
  rw [n7]
  simp only [Act.put, List.setIfInBounds_toArray, List.set_cons_succ, List.set_cons_zero, Nat.reduceAdd]
  refine lex_special (by rfl) rfl (fun σ w1 hA hD hn hC => ?_) ?_
  · have e7 := got1 hA hD 7 rfl (by kernel_rfl)
    rw [n7] at e7
    have e6 := got1 hA hD 6 rfl (by kernel_rfl)
    rw [n6] at e6
    exact hC.store_ok (wfine_of 7 (by decide)) (v := ⟨7, 8, 25, zeroL, none, 6⟩) (by simp [wvs]) 25 (.tmp 3) (.tmp 16) rfl g7 #[.int .u64 3, .int .i64 0, .bool false, .slice a6 1 c6] rfl rfl e7 e6 hn (by kernel_rfl) rfl (lineC_one _ _ _ _ _ _) rfl
  rw [n8]
  simp only [Act.put, Nat.reduceAdd]
  refine lex_nil (fun σ w4 hA hall hC => ?_)
  obtain ⟨q, f, -, Bq⟩ := hC.end_ (v := ⟨7, 8, 25, zeroL, none, 6⟩) (by simp [wvs]) (hall 7 rfl (by decide)) (hall 8 rfl (by decide))
  have f := ptr_inj (n7.symm.trans f)
  rw [hall 6 rfl (by decide), n6] at Bq
  subst f
  have HX := Lib.hid (show Blk w4 g7 25 #[.int .u64 3, .int .i64 0, .bool false, .slice a6 1 c6] from Bq)
  have HA := Lib.hid (HA.out.keep hC.below)
  have HBB := Lib.hid (HBB.out.keep hC.below)
  have HB := Lib.hid (HB.out.trans (hC.below.mono HB.out.size))
  clear hA hall hC Bq n1 n2 n4 n5 n6 n7 n8
  unfold ptr
  obtain ⟨gx, hgX⟩ : ∃ x, x = g7 := ⟨_, rfl⟩
  subst hgX
  go_wp2_with fail
  refine wp_region_spec (fun i => i == 1 || i == 2 || i == 4 || i == 5 || i == 6 || i == 7 || i == 8 || i == 9) (kinds [(1, .sl 1), (2, .ln 2 0 false 1), (4, .is (.agg #[.int .u64 2, .int .u64 1])), (5, .sl 2), (6, .ln 2 0 false 2), (7, .ln 2 0 false 2), (8, .pt), (9, .is undef)]) (CG w4 (wvs 8) (Fof w4.heap.size [(1, .g [(1, 1)]), (2, .l ⟨2, 0, false, [(1, 1)]⟩), (5, .g [(1, 1), (2, 1)]), (6, .l ⟨2, 0, false, [(1, 1), (2, 1)]⟩), (7, .l ⟨2, 0, false, [(1, 1), (2, 1)]⟩)])) (by as_aux_lemma => kernel_rfl) (by as_aux_lemma => kernel_rfl) (kinds_inh _) CG.start ?_
  intro ν hν
  obtain ⟨g1, n1⟩ : ∃ g, ν 1 = .slice (some ⟨g, 0, none⟩) 1 1 := hν 1
  obtain ⟨a2, c2, n2⟩ : ∃ a c, ν 2 = .agg #[.int .u64 2, .int .i64 0, .bool false, .slice a 1 c] := hν 2
  have n4 : ν 4 = .agg #[.int .u64 2, .int .u64 1] := hν 4
  obtain ⟨g5, n5⟩ : ∃ g, ν 5 = .slice (some ⟨g, 0, none⟩) 2 2 := hν 5
  obtain ⟨a6, c6, n6⟩ : ∃ a c, ν 6 = .agg #[.int .u64 2, .int .i64 0, .bool false, .slice a 2 c] := hν 6
  obtain ⟨a7, c7, n7⟩ : ∃ a c, ν 7 = .agg #[.int .u64 2, .int .i64 0, .bool false, .slice a 2 c] := hν 7
  obtain ⟨g8, n8⟩ : ∃ g, ν 8 = ptr g := hν 8
  have n9 : ν 9 = undef := hν 9
  clear hν
  refine lex_plain (by rfl) rfl ⟨.agg #[.int .u64 1, .int .u64 1], fun σ w1 hA hD hC => ?_, ?_⟩
  · rw [exec_load 32 (.tmp 1) rfl ga rfl 32 _ _ (HA.out.keep hC.below) Try.underlying32 rfl (by kernel_rfl)]
    exact ⟨rfl, rfl⟩
  simp only [Act.put, List.setIfInBounds_toArray, List.set_cons_succ, List.set_cons_zero, Nat.reduceAdd]
  refine lex_special (by rfl) rfl (fun σ w1 hA hD hn hC => ?_) ?_
  · go_simp
    exact lit_ok hC hn (by simp [wvs]) [(1, 1)] 1 _ rfl rfl (by decide) (by decide) (fun _ _ h => h) (fun g => ⟨g, rfl⟩)
  rw [n1]
  simp only [Act.put, List.setIfInBounds_toArray, List.set_cons_succ, List.set_cons_zero, Nat.reduceAdd]
  refine lex_special (by rfl) rfl (fun σ w1 hA hD hn hC => ?_) ?_
  · have e1 := got1 hA hD 1 rfl (by kernel_rfl)
    rw [n1] at e1
    go_simp
    exact of_ok hC hn (by simp [wvs]) 1 (by simp [wvs]) 2 false _ 1 _ e1 [(1, 1)] (by decide) (fun _ _ h => h) (fun _ _ h => h) ⟨_, _, rfl⟩
  rw [n2]
  simp only [Act.put, List.setIfInBounds_toArray, List.set_cons_succ, List.set_cons_zero, Nat.reduceAdd]
  refine lex_plain (by rfl) rfl ⟨.agg #[.int .u64 1, .int .u64 1], fun σ w1 hA hD hC => ?_, ?_⟩
  · rw [exec_load 32 (.tmp 1) rfl ga rfl 32 _ _ (HA.out.keep hC.below) Try.underlying32 rfl (by kernel_rfl)]
    exact ⟨rfl, rfl⟩
  simp only [Act.put, List.setIfInBounds_toArray, List.set_cons_succ, List.set_cons_zero, Nat.reduceAdd]
  refine lex_special (by rfl) rfl (fun σ w1 hA hD hn hC => ?_) ?_
  · go_simp
    exact guid_ok hC hn (by simp [wvs]) 2 1 (fun _ _ => trivial) rfl
  rw [n4]
  simp only [Act.put, List.setIfInBounds_toArray, List.set_cons_succ, List.set_cons_zero, Nat.reduceAdd]
  refine lex_special (by rfl) rfl (fun σ w1 hA hD hn hC => ?_) ?_
  · go_simp
    exact lit_ok hC hn (by simp [wvs]) [(1, 1), (2, 1)] 2 _ rfl rfl (by decide) (by decide) (fun _ _ h => h) (fun g => ⟨g, rfl⟩)
  rw [n5]
  simp only [Act.put, List.setIfInBounds_toArray, List.set_cons_succ, List.set_cons_zero, Nat.reduceAdd]
  refine lex_special (by rfl) rfl (fun σ w1 hA hD hn hC => ?_) ?_
  · have e5 := got1 hA hD 5 rfl (by kernel_rfl)
    rw [n5] at e5
    go_simp
    exact of_ok hC hn (by simp [wvs]) 5 (by simp [wvs]) 2 false _ 2 _ e5 [(1, 1), (2, 1)] (by decide) (fun _ _ h => h) (fun _ _ h => h) ⟨_, _, rfl⟩
  rw [n6]
  simp only [Act.put, List.setIfInBounds_toArray, List.set_cons_succ, List.set_cons_zero, Nat.reduceAdd]
  refine lex_special (by rfl) rfl (fun σ w1 hA hD hn hC => ?_) ?_
  · have e2 := got1 hA hD 2 rfl (by kernel_rfl)
    rw [n2] at e2
    have e6 := got1 hA hD 6 rfl (by kernel_rfl)
    rw [n6] at e6
    go_simp
    exact merge_ok hC hn (by simp [wvs]) 2 6 (by simp [wvs]) (by simp [wvs]) _ _ e2 e6 ⟨2, 0, false, [(1, 1)]⟩ ⟨2, 0, false, [(1, 1), (2, 1)]⟩ ⟨2, 0, false, [(1, 1), (2, 1)]⟩ (fun _ _ h => h) (fun _ _ h => h) rfl (by decide) (by decide) (fun _ _ h => h) (fun a c => ⟨a, c, rfl⟩)
  rw [n7]
  simp only [Act.put, List.setIfInBounds_toArray, List.set_cons_succ, List.set_cons_zero, Nat.reduceAdd]
  refine lex_special (by rfl) rfl (fun σ w1 hA hD hn hC => ?_) ?_
  · go_simp
    exact hC.lay_ok (wfine_of 8 (by decide)) (v := ⟨8, 9, 25, zeroL, none, 7⟩) (by simp [wvs]) hn ⟨_, rfl⟩
  rw [n8]
  simp only [Act.put, List.setIfInBounds_toArray, List.set_cons_succ, List.set_cons_zero, Nat.reduceAdd]
  refine lex_special (by rfl) rfl (fun σ w1 hA hD hn hC => ?_) ?_
  · have e8 := got1 hA hD 8 rfl (by kernel_rfl)
    rw [n8] at e8
    have e7 := got1 hA hD 7 rfl (by kernel_rfl)
    rw [n7] at e7
    exact hC.store_ok (wfine_of 8 (by decide)) (v := ⟨8, 9, 25, zeroL, none, 7⟩) (by simp [wvs]) 25 (.tmp 4) (.tmp 24) rfl g8 #[.int .u64 2, .int .i64 0, .bool false, .slice a7 2 c7] rfl rfl e8 e7 hn (by kernel_rfl) rfl (lineC_one _ _ _ _ _ _) rfl
  rw [n9]
  simp only [Act.put, Nat.reduceAdd]
  refine lex_nil (fun σ w5 hA hall hC => ?_)
  obtain ⟨q, f, -, Bq⟩ := hC.end_ (v := ⟨8, 9, 25, zeroL, none, 7⟩) (by simp [wvs]) (hall 8 rfl (by decide)) (hall 9 rfl (by decide))
  have f := ptr_inj (n8.symm.trans f)
  rw [hall 7 rfl (by decide), n7] at Bq
  subst f
  have HY := Lib.hid (show Blk w5 g8 25 #[.int .u64 2, .int .i64 0, .bool false, .slice a7 2 c7] from Bq)
  have HA := Lib.hid (HA.out.keep hC.below)
  have HBB := Lib.hid (HBB.out.keep hC.below)
  have HX := Lib.hid (HX.out.keep hC.below)
  have HB := Lib.hid (HB.out.trans (hC.below.mono HB.out.size))
  clear hA hall hC Bq n1 n2 n4 n5 n6 n7 n8 n9
  unfold ptr
  obtain ⟨gy, hgX⟩ : ∃ x, x = g8 := ⟨_, rfl⟩
  subst hgX
  go_wp2_with fail
  refine wp_region_spec (fun i => i == 1 || i == 2 || i == 4 || i == 5 || i == 6 || i == 7 || i == 8) (kinds [(1, .sl 1), (2, .ln 2 0 false 1), (4, .sl 1), (5, .ln 2 0 true 1), (6, .ln 2 0 true 1), (7, .pt), (8, .is undef)]) (CG w5 (wvs 7) (Fof w5.heap.size [(1, .g [(1, 1)]), (2, .l ⟨2, 0, false, [(1, 1)]⟩), (4, .g [(1, 1)]), (5, .l ⟨2, 0, true, [(1, 1)]⟩), (6, .l ⟨2, 0, true, [(1, 1)]⟩)])) (by as_aux_lemma => kernel_rfl) (by as_aux_lemma => kernel_rfl) (kinds_inh _) CG.start ?_
  intro ν hν
  obtain ⟨g1, n1⟩ : ∃ g, ν 1 = .slice (some ⟨g, 0, none⟩) 1 1 := hν 1
  obtain ⟨a2, c2, n2⟩ : ∃ a c, ν 2 = .agg #[.int .u64 2, .int .i64 0, .bool false, .slice a 1 c] := hν 2
  obtain ⟨g4, n4⟩ : ∃ g, ν 4 = .slice (some ⟨g, 0, none⟩) 1 1 := hν 4
  obtain ⟨a5, c5, n5⟩ : ∃ a c, ν 5 = .agg #[.int .u64 2, .int .i64 0, .bool true, .slice a 1 c] := hν 5
  obtain ⟨a6, c6, n6⟩ : ∃ a c, ν 6 = .agg #[.int .u64 2, .int .i64 0, .bool true, .slice a 1 c] := hν 6
  obtain ⟨g7, n7⟩ : ∃ g, ν 7 = ptr g := hν 7
  have n8 : ν 8 = undef := hν 8
  clear hν
  refine lex_plain (by rfl) rfl ⟨.agg #[.int .u64 1, .int .u64 1], fun σ w1 hA hD hC => ?_, ?_⟩
  · rw [exec_load 32 (.tmp 1) rfl ga rfl 32 _ _ (HA.out.keep hC.below) Try.underlying32 rfl (by kernel_rfl)]
    exact ⟨rfl, rfl⟩
  simp only [Act.put, List.setIfInBounds_toArray, List.set_cons_succ, List.set_cons_zero, Nat.reduceAdd]
  refine lex_special (by rfl) rfl (fun σ w1 hA hD hn hC => ?_) ?_
  · go_simp
    exact lit_ok hC hn (by simp [wvs]) [(1, 1)] 1 _ rfl rfl (by decide) (by decide) (fun _ _ h => h) (fun g => ⟨g, rfl⟩)
  rw [n1]
  simp only [Act.put, List.setIfInBounds_toArray, List.set_cons_succ, List.set_cons_zero, Nat.reduceAdd]
  refine lex_special (by rfl) rfl (fun σ w1 hA hD hn hC => ?_) ?_
  · have e1 := got1 hA hD 1 rfl (by kernel_rfl)
    rw [n1] at e1
    go_simp
    exact of_ok hC hn (by simp [wvs]) 1 (by simp [wvs]) 2 false _ 1 _ e1 [(1, 1)] (by decide) (fun _ _ h => h) (fun _ _ h => h) ⟨_, _, rfl⟩
  rw [n2]
  simp only [Act.put, List.setIfInBounds_toArray, List.set_cons_succ, List.set_cons_zero, Nat.reduceAdd]
  refine lex_plain (by rfl) rfl ⟨.agg #[.int .u64 1, .int .u64 1], fun σ w1 hA hD hC => ?_, ?_⟩
  · rw [exec_load 32 (.tmp 1) rfl ga rfl 32 _ _ (HA.out.keep hC.below) Try.underlying32 rfl (by kernel_rfl)]
    exact ⟨rfl, rfl⟩
  simp only [Act.put, List.setIfInBounds_toArray, List.set_cons_succ, List.set_cons_zero, Nat.reduceAdd]
  refine lex_special (by rfl) rfl (fun σ w1 hA hD hn hC => ?_) ?_
  · go_simp
    exact lit_ok hC hn (by simp [wvs]) [(1, 1)] 1 _ rfl rfl (by decide) (by decide) (fun _ _ h => h) (fun g => ⟨g, rfl⟩)
  rw [n4]
  simp only [Act.put, List.setIfInBounds_toArray, List.set_cons_succ, List.set_cons_zero, Nat.reduceAdd]
  refine lex_special (by rfl) rfl (fun σ w1 hA hD hn hC => ?_) ?_
  · have e4 := got1 hA hD 4 rfl (by kernel_rfl)
    rw [n4] at e4
    go_simp
    exact of_ok hC hn (by simp [wvs]) 4 (by simp [wvs]) 2 true _ 1 _ e4 [(1, 1)] (by decide) (fun _ _ h => h) (fun _ _ h => h) ⟨_, _, rfl⟩
  rw [n5]
  simp only [Act.put, List.setIfInBounds_toArray, List.set_cons_succ, List.set_cons_zero, Nat.reduceAdd]
  refine lex_special (by rfl) rfl (fun σ w1 hA hD hn hC => ?_) ?_
  · have e2 := got1 hA hD 2 rfl (by kernel_rfl)
    rw [n2] at e2
    have e5 := got1 hA hD 5 rfl (by kernel_rfl)
    rw [n5] at e5
    go_simp
    exact merge_ok hC hn (by simp [wvs]) 2 5 (by simp [wvs]) (by simp [wvs]) _ _ e2 e5 ⟨2, 0, false, [(1, 1)]⟩ ⟨2, 0, true, [(1, 1)]⟩ ⟨2, 0, true, [(1, 1)]⟩ (fun _ _ h => h) (fun _ _ h => h) rfl (by decide) (by decide) (fun _ _ h => h) (fun a c => ⟨a, c, rfl⟩)
  rw [n6]
  simp only [Act.put, List.setIfInBounds_toArray, List.set_cons_succ, List.set_cons_zero, Nat.reduceAdd]
  refine lex_special (by rfl) rfl (fun σ w1 hA hD hn hC => ?_) ?_
  · go_simp
    exact hC.lay_ok (wfine_of 7 (by decide)) (v := ⟨7, 8, 25, zeroL, none, 6⟩) (by simp [wvs]) hn ⟨_, rfl⟩
  rw [n7]
  simp only [Act.put, List.setIfInBounds_toArray, List.set_cons_succ, List.set_cons_zero, Nat.reduceAdd]
  refine lex_special (by rfl) rfl (fun σ w1 hA hD hn hC => ?_) ?_
  · have e7 := got1 hA hD 7 rfl (by kernel_rfl)
    rw [n7] at e7
    have e6 := got1 hA hD 6 rfl (by kernel_rfl)
    rw [n6] at e6
    exact hC.store_ok (wfine_of 7 (by decide)) (v := ⟨7, 8, 25, zeroL, none, 6⟩) (by simp [wvs]) 25 (.tmp 5) (.tmp 31) rfl g7 #[.int .u64 2, .int .i64 0, .bool true, .slice a6 1 c6] rfl rfl e7 e6 hn (by kernel_rfl) rfl (lineC_one _ _ _ _ _ _) rfl
  rw [n8]
  simp only [Act.put, Nat.reduceAdd]
  refine lex_nil (fun σ w6 hA hall hC => ?_)
  obtain ⟨q, f, -, Bq⟩ := hC.end_ (v := ⟨7, 8, 25, zeroL, none, 6⟩) (by simp [wvs]) (hall 7 rfl (by decide)) (hall 8 rfl (by decide))
  have f := ptr_inj (n7.symm.trans f)
  rw [hall 6 rfl (by decide), n6] at Bq
  subst f
  have HZ := Lib.hid (show Blk w6 g7 25 #[.int .u64 2, .int .i64 0, .bool true, .slice a6 1 c6] from Bq)
  have HA := Lib.hid (HA.out.keep hC.below)
  have HBB := Lib.hid (HBB.out.keep hC.below)
  have HX := Lib.hid (HX.out.keep hC.below)
  have HY := Lib.hid (HY.out.keep hC.below)
  have HB := Lib.hid (HB.out.trans (hC.below.mono HB.out.size))
  clear hA hall hC Bq n1 n2 n4 n5 n6 n7 n8
  unfold ptr
  obtain ⟨gz, hgX⟩ : ∃ x, x = g7 := ⟨_, rfl⟩
  subst hgX
  go_wp2_with fail
  refine wp_region_spec (fun i => i == 1 || i == 2 || i == 4 || i == 5 || i == 6 || i == 7 || i == 8 || i == 9) (kinds [(1, .sl 1), (2, .ln 2 0 true 1), (4, .is (.agg #[.int .u64 2, .int .u64 1])), (5, .sl 2), (6, .ln 2 0 false 2), (7, .ln 2 0 false 2), (8, .pt), (9, .is undef)]) (CG w6 (wvs 8) (Fof w6.heap.size [(1, .g [(1, 1)]), (2, .l ⟨2, 0, true, [(1, 1)]⟩), (5, .g [(1, 1), (2, 1)]), (6, .l ⟨2, 0, false, [(1, 1), (2, 1)]⟩), (7, .l ⟨2, 0, false, [(1, 1), (2, 1)]⟩)])) (by as_aux_lemma => kernel_rfl) (by as_aux_lemma => kernel_rfl) (kinds_inh _) CG.start ?_
  intro ν hν
  obtain ⟨g1, n1⟩ : ∃ g, ν 1 = .slice (some ⟨g, 0, none⟩) 1 1 := hν 1
  obtain ⟨a2, c2, n2⟩ : ∃ a c, ν 2 = .agg #[.int .u64 2, .int .i64 0, .bool true, .slice a 1 c] := hν 2
  have n4 : ν 4 = .agg #[.int .u64 2, .int .u64 1] := hν 4
  obtain ⟨g5, n5⟩ : ∃ g, ν 5 = .slice (some ⟨g, 0, none⟩) 2 2 := hν 5
  obtain ⟨a6, c6, n6⟩ : ∃ a c, ν 6 = .agg #[.int .u64 2, .int .i64 0, .bool false, .slice a 2 c] := hν 6
  obtain ⟨a7, c7, n7⟩ : ∃ a c, ν 7 = .agg #[.int .u64 2, .int .i64 0, .bool false, .slice a 2 c] := hν 7
  obtain ⟨g8, n8⟩ : ∃ g, ν 8 = ptr g := hν 8
  have n9 : ν 9 = undef := hν 9
  clear hν
  refine lex_plain (by rfl) rfl ⟨.agg #[.int .u64 1, .int .u64 1], fun σ w1 hA hD hC => ?_, ?_⟩
  · rw [exec_load 32 (.tmp 1) rfl ga rfl 32 _ _ (HA.out.keep hC.below) Try.underlying32 rfl (by kernel_rfl)]
    exact ⟨rfl, rfl⟩
  simp only [Act.put, List.setIfInBounds_toArray, List.set_cons_succ, List.set_cons_zero, Nat.reduceAdd]
  refine lex_special (by rfl) rfl (fun σ w1 hA hD hn hC => ?_) ?_
  · go_simp
    exact lit_ok hC hn (by simp [wvs]) [(1, 1)] 1 _ rfl rfl (by decide) (by decide) (fun _ _ h => h) (fun g => ⟨g, rfl⟩)
  rw [n1]
  simp only [Act.put, List.setIfInBounds_toArray, List.set_cons_succ, List.set_cons_zero, Nat.reduceAdd]
  refine lex_special (by rfl) rfl (fun σ w1 hA hD hn hC => ?_) ?_
  · have e1 := got1 hA hD 1 rfl (by kernel_rfl)
    rw [n1] at e1
    go_simp
    exact of_ok hC hn (by simp [wvs]) 1 (by simp [wvs]) 2 true _ 1 _ e1 [(1, 1)] (by decide) (fun _ _ h => h) (fun _ _ h => h) ⟨_, _, rfl⟩
  rw [n2]
  simp only [Act.put, List.setIfInBounds_toArray, List.set_cons_succ, List.set_cons_zero, Nat.reduceAdd]
  refine lex_plain (by rfl) rfl ⟨.agg #[.int .u64 1, .int .u64 1], fun σ w1 hA hD hC => ?_, ?_⟩
  · rw [exec_load 32 (.tmp 1) rfl ga rfl 32 _ _ (HA.out.keep hC.below) Try.underlying32 rfl (by kernel_rfl)]
    exact ⟨rfl, rfl⟩
  simp only [Act.put, List.setIfInBounds_toArray, List.set_cons_succ, List.set_cons_zero, Nat.reduceAdd]
  refine lex_special (by rfl) rfl (fun σ w1 hA hD hn hC => ?_) ?_
  · go_simp
    exact guid_ok hC hn (by simp [wvs]) 2 1 (fun _ _ => trivial) rfl
  rw [n4]
  simp only [Act.put, List.setIfInBounds_toArray, List.set_cons_succ, List.set_cons_zero, Nat.reduceAdd]
  refine lex_special (by rfl) rfl (fun σ w1 hA hD hn hC => ?_) ?_
  · go_simp
    exact lit_ok hC hn (by simp [wvs]) [(1, 1), (2, 1)] 2 _ rfl rfl (by decide) (by decide) (fun _ _ h => h) (fun g => ⟨g, rfl⟩)
  rw [n5]
  simp only [Act.put, List.setIfInBounds_toArray, List.set_cons_succ, List.set_cons_zero, Nat.reduceAdd]
  refine lex_special (by rfl) rfl (fun σ w1 hA hD hn hC => ?_) ?_
  · have e5 := got1 hA hD 5 rfl (by kernel_rfl)
    rw [n5] at e5
    go_simp
    exact of_ok hC hn (by simp [wvs]) 5 (by simp [wvs]) 2 false _ 2 _ e5 [(1, 1), (2, 1)] (by decide) (fun _ _ h => h) (fun _ _ h => h) ⟨_, _, rfl⟩
  rw [n6]
  simp only [Act.put, List.setIfInBounds_toArray, List.set_cons_succ, List.set_cons_zero, Nat.reduceAdd]
  refine lex_special (by rfl) rfl (fun σ w1 hA hD hn hC => ?_) ?_
  · have e2 := got1 hA hD 2 rfl (by kernel_rfl)
    rw [n2] at e2
    have e6 := got1 hA hD 6 rfl (by kernel_rfl)
    rw [n6] at e6
    go_simp
    exact merge_ok hC hn (by simp [wvs]) 2 6 (by simp [wvs]) (by simp [wvs]) _ _ e2 e6 ⟨2, 0, true, [(1, 1)]⟩ ⟨2, 0, false, [(1, 1), (2, 1)]⟩ ⟨2, 0, false, [(1, 1), (2, 1)]⟩ (fun _ _ h => h) (fun _ _ h => h) rfl (by decide) (by decide) (fun _ _ h => h) (fun a c => ⟨a, c, rfl⟩)
  rw [n7]
  simp only [Act.put, List.setIfInBounds_toArray, List.set_cons_succ, List.set_cons_zero, Nat.reduceAdd]
  refine lex_special (by rfl) rfl (fun σ w1 hA hD hn hC => ?_) ?_
  · go_simp
    exact hC.lay_ok (wfine_of 8 (by decide)) (v := ⟨8, 9, 25, zeroL, none, 7⟩) (by simp [wvs]) hn ⟨_, rfl⟩
  rw [n8]
  simp only [Act.put, List.setIfInBounds_toArray, List.set_cons_succ, List.set_cons_zero, Nat.reduceAdd]
  refine lex_special (by rfl) rfl (fun σ w1 hA hD hn hC => ?_) ?_
  · have e8 := got1 hA hD 8 rfl (by kernel_rfl)
    rw [n8] at e8
    have e7 := got1 hA hD 7 rfl (by kernel_rfl)
    rw [n7] at e7
    exact hC.store_ok (wfine_of 8 (by decide)) (v := ⟨8, 9, 25, zeroL, none, 7⟩) (by simp [wvs]) 25 (.tmp 6) (.tmp 39) rfl g8 #[.int .u64 2, .int .i64 0, .bool false, .slice a7 2 c7] rfl rfl e8 e7 hn (by kernel_rfl) rfl (lineC_one _ _ _ _ _ _) rfl
  rw [n9]
  simp only [Act.put, Nat.reduceAdd]
  refine lex_nil (fun σ w7 hA hall hC => ?_)
  obtain ⟨q, f, -, Bq⟩ := hC.end_ (v := ⟨8, 9, 25, zeroL, none, 7⟩) (by simp [wvs]) (hall 8 rfl (by decide)) (hall 9 rfl (by decide))
  have f := ptr_inj (n8.symm.trans f)
  rw [hall 7 rfl (by decide), n7] at Bq
  subst f
  have HW := Lib.hid (show Blk w7 g8 25 #[.int .u64 2, .int .i64 0, .bool false, .slice a7 2 c7] from Bq)
  have HA := Lib.hid (HA.out.keep hC.below)
  have HBB := Lib.hid (HBB.out.keep hC.below)
  have HX := Lib.hid (HX.out.keep hC.below)
  have HY := Lib.hid (HY.out.keep hC.below)
  have HZ := Lib.hid (HZ.out.keep hC.below)
  have HB := Lib.hid (HB.out.trans (hC.below.mono HB.out.size))
  clear hA hall hC Bq n1 n2 n4 n5 n6 n7 n8 n9
  unfold ptr
  obtain ⟨gw, hgX⟩ : ∃ x, x = g8 := ⟨_, rfl⟩
  subst hgX
  go_wp2_with fail
  refine wp_region_spec (fun i => i == 2 || i == 3 || i == 4) (kinds [(2, .is (.agg #[.int .u64 2, .int .u64 1])), (3, .is (.agg #[.int .u64 1, .int .u64 9])), (4, .sl 4)]) (CG w7 [] (Fof w7.heap.size [(4, .g [(1, 1), (1, 2), (2, 1), (1, 9)])])) (by as_aux_lemma => kernel_rfl) (by as_aux_lemma => kernel_rfl) (kinds_inh _) CG.start ?_
  intro ν hν
  have n2 : ν 2 = .agg #[.int .u64 2, .int .u64 1] := hν 2
  have n3 : ν 3 = .agg #[.int .u64 1, .int .u64 9] := hν 3
  obtain ⟨g4, n4⟩ : ∃ g, ν 4 = .slice (some ⟨g, 0, none⟩) 4 4 := hν 4
  clear hν
  refine lex_plain (by rfl) rfl ⟨.agg #[.int .u64 1, .int .u64 1], fun σ w1 hA hD hC => ?_, ?_⟩
  · rw [exec_load 32 (.tmp 1) rfl ga rfl 32 _ _ (HA.out.keep hC.below) Try.underlying32 rfl (by kernel_rfl)]
    exact ⟨rfl, rfl⟩
  simp only [Act.put, List.setIfInBounds_toArray, List.set_cons_succ, List.set_cons_zero, Nat.reduceAdd]
  refine lex_plain (by rfl) rfl ⟨.agg #[.int .u64 1, .int .u64 2], fun σ w1 hA hD hC => ?_, ?_⟩
  · rw [exec_load 32 (.tmp 2) rfl gb rfl 32 _ _ (HBB.out.keep hC.below) Try.underlying32 rfl (by kernel_rfl)]
    exact ⟨rfl, rfl⟩
  simp only [Act.put, List.setIfInBounds_toArray, List.set_cons_succ, List.set_cons_zero, Nat.reduceAdd]
  refine lex_special (by rfl) rfl (fun σ w1 hA hD hn hC => ?_) ?_
  · go_simp
    exact guid_ok hC hn (by simp) 2 1 (fun _ _ => trivial) rfl
  rw [n2]
  simp only [Act.put, List.setIfInBounds_toArray, List.set_cons_succ, List.set_cons_zero, Nat.reduceAdd]
  refine lex_special (by rfl) rfl (fun σ w1 hA hD hn hC => ?_) ?_
  · go_simp
    exact guid_ok hC hn (by simp) 1 9 (fun _ _ => trivial) rfl
  rw [n3]
  simp only [Act.put, List.setIfInBounds_toArray, List.set_cons_succ, List.set_cons_zero, Nat.reduceAdd]
  refine lex_special (by rfl) rfl (fun σ w1 hA hD hn hC => ?_) ?_
  · go_simp
    exact lit_ok hC hn (by simp) [(1, 1), (1, 2), (2, 1), (1, 9)] 4 _ rfl rfl (by decide) (by decide) (fun _ _ h => h) (fun g => ⟨g, rfl⟩)
  rw [n4]
  simp only [Act.put, List.setIfInBounds_toArray, List.set_cons_succ, List.set_cons_zero, Nat.reduceAdd]
  refine lex_plain (by rfl) rfl ?_
  apply Exists.intro
  refine ⟨fun σ w1 hA hD hC => ?_, ?_⟩
  · clear hA hD hC
    go_simp
    exact And.intro rfl rfl
  simp only [Act.put, List.setIfInBounds_toArray, List.set_cons_succ, List.set_cons_zero, Nat.reduceAdd]
  refine lex_nil (fun σ w8 hA hall hC => ?_)
  have hl0 := hC.fact (hall 4 rfl (by decide)) (by simp)
  rw [n4] at hl0
  have hl1 : OwG w8 w7.heap.size (.slice (some ⟨g4, 0, none⟩) 4 4) [(1, 1), (1, 2), (2, 1), (1, 9)] := hl0
  have HL := Lib.hid hl1.rd
  clear hl0 hl1
  have HA := Lib.hid (HA.out.keep hC.below)
  have HBB := Lib.hid (HBB.out.keep hC.below)
  have HX := Lib.hid (HX.out.keep hC.below)
  have HY := Lib.hid (HY.out.keep hC.below)
  have HZ := Lib.hid (HZ.out.keep hC.below)
  have HW := Lib.hid (HW.out.keep hC.below)
  have HB := Lib.hid (HB.out.trans (hC.below.mono HB.out.size))
  clear hA hall hC n2 n3 n4
  obtain ⟨gl, hgX⟩ : ∃ x, x = g4 := ⟨_, rfl⟩
  subst hgX
  go_wp2_with fail
  refine wp_region_spec (fun i => i == 22 || i == 23 || i == 26 || i == 27 || i == 28 || i == 29 || i == 36 || i == 37 || i == 38 || i == 46 || i == 47 || i == 48 || i == 49 || i == 54 || i == 55 || i == 58 || i == 59 || i == 60 || i == 67 || i == 68 || i == 69) (kinds [(22, .is (.agg #[.int .u64 1, .int .u64 3])), (23, .sl 3), (26, .is (.agg #[.int .u64 2, .int .u64 1])), (27, .sl 3), (28, .ln 2 0 false 3), (29, .is (.int .i64 2)), (36, .sl 2), (37, .ln 2 0 false 2), (38, .is (.int .i64 3)), (46, .is (.agg #[.int .u64 2, .int .u64 1])), (47, .sl 3), (48, .ln 2 0 false 3), (49, .is (.int .i64 2)), (54, .is (.agg #[.int .u64 1, .int .u64 3])), (55, .sl 2), (58, .sl 2), (59, .ln 2 0 false 2), (60, .is (.int .i64 1)), (67, .sl 1), (68, .ln 2 0 false 1), (69, .is (.int .i64 1))]) (CG w8 [] (Fof w8.heap.size [(23, .g [(1, 1), (1, 2), (1, 3)]), (27, .g [(1, 1), (1, 2), (2, 1)]), (28, .l ⟨2, 0, false, [(1, 1), (1, 2), (2, 1)]⟩), (36, .g [(1, 1), (1, 2)]), (37, .l ⟨2, 0, false, [(1, 1), (1, 2)]⟩), (47, .g [(1, 1), (1, 2), (2, 1)]), (48, .l ⟨2, 0, false, [(1, 1), (1, 2), (2, 1)]⟩), (55, .g [(1, 1), (1, 3)]), (58, .g [(1, 1), (1, 2)]), (59, .l ⟨2, 0, false, [(1, 1), (1, 2)]⟩), (67, .g [(1, 1)]), (68, .l ⟨2, 0, false, [(1, 1)]⟩)])) (by as_aux_lemma => kernel_rfl) (by as_aux_lemma => kernel_rfl) (kinds_inh _) CG.start ?_
  intro ν hν
  have n22 : ν 22 = .agg #[.int .u64 1, .int .u64 3] := hν 22
  obtain ⟨g23, n23⟩ : ∃ g, ν 23 = .slice (some ⟨g, 0, none⟩) 3 3 := hν 23
  have n26 : ν 26 = .agg #[.int .u64 2, .int .u64 1] := hν 26
  obtain ⟨g27, n27⟩ : ∃ g, ν 27 = .slice (some ⟨g, 0, none⟩) 3 3 := hν 27
  obtain ⟨a28, c28, n28⟩ : ∃ a c, ν 28 = .agg #[.int .u64 2, .int .i64 0, .bool false, .slice a 3 c] := hν 28
  have n29 : ν 29 = .int .i64 2 := hν 29
  obtain ⟨g36, n36⟩ : ∃ g, ν 36 = .slice (some ⟨g, 0, none⟩) 2 2 := hν 36
  obtain ⟨a37, c37, n37⟩ : ∃ a c, ν 37 = .agg #[.int .u64 2, .int .i64 0, .bool false, .slice a 2 c] := hν 37
  have n38 : ν 38 = .int .i64 3 := hν 38
  have n46 : ν 46 = .agg #[.int .u64 2, .int .u64 1] := hν 46
  obtain ⟨g47, n47⟩ : ∃ g, ν 47 = .slice (some ⟨g, 0, none⟩) 3 3 := hν 47
  obtain ⟨a48, c48, n48⟩ : ∃ a c, ν 48 = .agg #[.int .u64 2, .int .i64 0, .bool false, .slice a 3 c] := hν 48
  have n49 : ν 49 = .int .i64 2 := hν 49
  have n54 : ν 54 = .agg #[.int .u64 1, .int .u64 3] := hν 54
  obtain ⟨g55, n55⟩ : ∃ g, ν 55 = .slice (some ⟨g, 0, none⟩) 2 2 := hν 55
  obtain ⟨g58, n58⟩ : ∃ g, ν 58 = .slice (some ⟨g, 0, none⟩) 2 2 := hν 58
  obtain ⟨a59, c59, n59⟩ : ∃ a c, ν 59 = .agg #[.int .u64 2, .int .i64 0, .bool false, .slice a 2 c] := hν 59
  have n60 : ν 60 = .int .i64 1 := hν 60
  obtain ⟨g67, n67⟩ : ∃ g, ν 67 = .slice (some ⟨g, 0, none⟩) 1 1 := hν 67
  obtain ⟨a68, c68, n68⟩ : ∃ a c, ν 68 = .agg #[.int .u64 2, .int .i64 0, .bool false, .slice a 1 c] := hν 68
  have n69 : ν 69 = .int .i64 1 := hν 69
  clear hν
  refine lex_plain (by rfl) rfl ?_
  apply Exists.intro
  refine ⟨fun σ w1 hA hD hC => ?_, ?_⟩
  · have hx := (HX.out.keep hC.below).cell 0
    simp at hx
    clear hA hD hC
    go_simp
    exact And.intro rfl rfl
  simp only [Act.put, List.setIfInBounds_toArray, List.set_cons_succ, List.set_cons_zero, Nat.reduceAdd]
  refine lex_plain (by rfl) rfl ?_
  apply Exists.intro
  refine ⟨fun σ w1 hA hD hC => ?_, ?_⟩
  · have hx := (HX.out.keep hC.below).cell 0
    simp at hx
    clear hA hD hC
    go_simp
    exact And.intro rfl rfl
  simp only [Act.put, List.setIfInBounds_toArray, List.set_cons_succ, List.set_cons_zero, Nat.reduceAdd]
  refine lex_plain (by rfl) rfl ?_
  apply Exists.intro
  refine ⟨fun σ w1 hA hD hC => ?_, ?_⟩
  · clear hA hD hC
    go_simp
    exact And.intro rfl rfl
  simp only [Act.put, List.setIfInBounds_toArray, List.set_cons_succ, List.set_cons_zero, Nat.reduceAdd]
  refine lex_plain (by rfl) rfl ?_
  apply Exists.intro
  refine ⟨fun σ w1 hA hD hC => ?_, ?_⟩
  · clear hA hD hC
    go_simp
    exact And.intro rfl rfl
  simp only [Act.put, List.setIfInBounds_toArray, List.set_cons_succ, List.set_cons_zero, Nat.reduceAdd]
  refine lex_plain (by rfl) rfl ?_
  apply Exists.intro
  refine ⟨fun σ w1 hA hD hC => ?_, ?_⟩
  · have hx := (HY.out.keep hC.below).cell 3
    simp at hx
    clear hA hD hC
    go_simp
    exact And.intro rfl rfl
  simp only [Act.put, List.setIfInBounds_toArray, List.set_cons_succ, List.set_cons_zero, Nat.reduceAdd]
  refine lex_plain (by rfl) rfl ?_
  apply Exists.intro
  refine ⟨fun σ w1 hA hD hC => ?_, ?_⟩
  · have hx := (HY.out.keep hC.below).cell 3
    simp at hx
    clear hA hD hC
    go_simp
    exact And.intro rfl rfl
  simp only [Act.put, List.setIfInBounds_toArray, List.set_cons_succ, List.set_cons_zero, Nat.reduceAdd]
  refine lex_plain (by rfl) rfl ?_
  apply Exists.intro
  refine ⟨fun σ w1 hA hD hC => ?_, ?_⟩
  · clear hA hD hC
    go_simp
    exact And.intro rfl rfl
  simp only [Act.put, List.setIfInBounds_toArray, List.set_cons_succ, List.set_cons_zero, Nat.reduceAdd]
  refine lex_plain (by rfl) rfl ?_
  apply Exists.intro
  refine ⟨fun σ w1 hA hD hC => ?_, ?_⟩
  · clear hA hD hC
    go_simp
    exact And.intro rfl rfl
  simp only [Act.put, List.setIfInBounds_toArray, List.set_cons_succ, List.set_cons_zero, Nat.reduceAdd]
  refine lex_plain (by rfl) rfl ?_
  apply Exists.intro
  refine ⟨fun σ w1 hA hD hC => ?_, ?_⟩
  · clear hA hD hC
    go_simp
    exact And.intro rfl rfl
  simp only [Act.put, List.setIfInBounds_toArray, List.set_cons_succ, List.set_cons_zero, Nat.reduceAdd]
  refine lex_plain (by rfl) rfl ?_
  apply Exists.intro
  refine ⟨fun σ w1 hA hD hC => ?_, ?_⟩
  · clear hA hD hC
    go_simp
    exact And.intro rfl rfl
  simp only [Act.put, List.setIfInBounds_toArray, List.set_cons_succ, List.set_cons_zero, Nat.reduceAdd]
  refine lex_plain (by rfl) rfl ?_
  apply Exists.intro
  refine ⟨fun σ w1 hA hD hC => ?_, ?_⟩
  · have hx := (HZ.out.keep hC.below).cell 2
    simp at hx
    clear hA hD hC
    go_simp
    exact And.intro rfl rfl
  simp only [Act.put, List.setIfInBounds_toArray, List.set_cons_succ, List.set_cons_zero, Nat.reduceAdd]
  refine lex_plain (by rfl) rfl ?_
  apply Exists.intro
  refine ⟨fun σ w1 hA hD hC => ?_, ?_⟩
  · have hx := (HZ.out.keep hC.below).cell 2
    simp at hx
    clear hA hD hC
    go_simp
    exact And.intro rfl rfl
  simp only [Act.put, List.setIfInBounds_toArray, List.set_cons_succ, List.set_cons_zero, Nat.reduceAdd]
  refine lex_plain (by rfl) rfl ?_
  apply Exists.intro
  refine ⟨fun σ w1 hA hD hC => ?_, ?_⟩
  · clear hA hD hC
    go_simp
    exact And.intro rfl rfl
  simp only [Act.put, List.setIfInBounds_toArray, List.set_cons_succ, List.set_cons_zero, Nat.reduceAdd]
  refine lex_plain (by rfl) rfl ?_
  apply Exists.intro
  refine ⟨fun σ w1 hA hD hC => ?_, ?_⟩
  · clear hA hD hC
    go_simp
    exact And.intro rfl rfl
  simp only [Act.put, List.setIfInBounds_toArray, List.set_cons_succ, List.set_cons_zero, Nat.reduceAdd]
  refine lex_plain (by rfl) rfl ?_
  apply Exists.intro
  refine ⟨fun σ w1 hA hD hC => ?_, ?_⟩
  · have hx := (HW.out.keep hC.below).cell 3
    simp at hx
    clear hA hD hC
    go_simp
    exact And.intro rfl rfl
  simp only [Act.put, List.setIfInBounds_toArray, List.set_cons_succ, List.set_cons_zero, Nat.reduceAdd]
  refine lex_plain (by rfl) rfl ?_
  apply Exists.intro
  refine ⟨fun σ w1 hA hD hC => ?_, ?_⟩
  · have hx := (HW.out.keep hC.below).cell 3
    simp at hx
    clear hA hD hC
    go_simp
    exact And.intro rfl rfl
  simp only [Act.put, List.setIfInBounds_toArray, List.set_cons_succ, List.set_cons_zero, Nat.reduceAdd]
  refine lex_plain (by rfl) rfl ?_
  apply Exists.intro
  refine ⟨fun σ w1 hA hD hC => ?_, ?_⟩
  · clear hA hD hC
    go_simp
    exact And.intro rfl rfl
  simp only [Act.put, List.setIfInBounds_toArray, List.set_cons_succ, List.set_cons_zero, Nat.reduceAdd]
  refine lex_plain (by rfl) rfl ?_
  apply Exists.intro
  refine ⟨fun σ w1 hA hD hC => ?_, ?_⟩
  · clear hA hD hC
    go_simp
    exact And.intro rfl rfl
  simp only [Act.put, List.setIfInBounds_toArray, List.set_cons_succ, List.set_cons_zero, Nat.reduceAdd]
  refine lex_plain (by rfl) rfl ?_
  apply Exists.intro
  refine ⟨fun σ w1 hA hD hC => ?_, ?_⟩
  · clear hA hD hC
    go_simp
    exact And.intro rfl rfl
  simp only [Act.put, List.setIfInBounds_toArray, List.set_cons_succ, List.set_cons_zero, Nat.reduceAdd]
  refine lex_plain (by rfl) rfl ?_
  apply Exists.intro
  refine ⟨fun σ w1 hA hD hC => ?_, ?_⟩
  · clear hA hD hC
    go_simp
    exact And.intro rfl rfl
  simp only [Act.put, List.setIfInBounds_toArray, List.set_cons_succ, List.set_cons_zero, Nat.reduceAdd]
  refine lex_plain (by rfl) rfl ⟨.agg #[.int .u64 1, .int .u64 1], fun σ w1 hA hD hC => ?_, ?_⟩
  · rw [exec_load 32 (.tmp 1) rfl ga rfl 32 _ _ (HA.out.keep hC.below) Try.underlying32 rfl (by kernel_rfl)]
    exact ⟨rfl, rfl⟩
  simp only [Act.put, List.setIfInBounds_toArray, List.set_cons_succ, List.set_cons_zero, Nat.reduceAdd]
  refine lex_plain (by rfl) rfl ⟨.agg #[.int .u64 1, .int .u64 2], fun σ w1 hA hD hC => ?_, ?_⟩
  · rw [exec_load 32 (.tmp 2) rfl gb rfl 32 _ _ (HBB.out.keep hC.below) Try.underlying32 rfl (by kernel_rfl)]
    exact ⟨rfl, rfl⟩
  simp only [Act.put, List.setIfInBounds_toArray, List.set_cons_succ, List.set_cons_zero, Nat.reduceAdd]
  refine lex_special (by rfl) rfl (fun σ w1 hA hD hn hC => ?_) ?_
  · go_simp
    exact guid_ok hC hn (by simp) 1 3 (fun _ _ => trivial) rfl
  rw [n22]
  simp only [Act.put, List.setIfInBounds_toArray, List.set_cons_succ, List.set_cons_zero, Nat.reduceAdd]
  refine lex_special (by rfl) rfl (fun σ w1 hA hD hn hC => ?_) ?_
  · go_simp
    exact lit_ok hC hn (by simp) [(1, 1), (1, 2), (1, 3)] 3 _ rfl rfl (by decide) (by decide) (fun _ _ h => h) (fun g => ⟨g, rfl⟩)
  rw [n23]
  simp only [Act.put, List.setIfInBounds_toArray, List.set_cons_succ, List.set_cons_zero, Nat.reduceAdd]
  refine lex_plain (by rfl) rfl ⟨.agg #[.int .u64 1, .int .u64 1], fun σ w1 hA hD hC => ?_, ?_⟩
  · rw [exec_load 32 (.tmp 1) rfl ga rfl 32 _ _ (HA.out.keep hC.below) Try.underlying32 rfl (by kernel_rfl)]
    exact ⟨rfl, rfl⟩
  simp only [Act.put, List.setIfInBounds_toArray, List.set_cons_succ, List.set_cons_zero, Nat.reduceAdd]
  refine lex_plain (by rfl) rfl ⟨.agg #[.int .u64 1, .int .u64 2], fun σ w1 hA hD hC => ?_, ?_⟩
  · rw [exec_load 32 (.tmp 2) rfl gb rfl 32 _ _ (HBB.out.keep hC.below) Try.underlying32 rfl (by kernel_rfl)]
    exact ⟨rfl, rfl⟩
  simp only [Act.put, List.setIfInBounds_toArray, List.set_cons_succ, List.set_cons_zero, Nat.reduceAdd]
  refine lex_special (by rfl) rfl (fun σ w1 hA hD hn hC => ?_) ?_
  · go_simp
    exact guid_ok hC hn (by simp) 2 1 (fun _ _ => trivial) rfl
  rw [n26]
  simp only [Act.put, List.setIfInBounds_toArray, List.set_cons_succ, List.set_cons_zero, Nat.reduceAdd]
  refine lex_special (by rfl) rfl (fun σ w1 hA hD hn hC => ?_) ?_
  · go_simp
    exact lit_ok hC hn (by simp) [(1, 1), (1, 2), (2, 1)] 3 _ rfl rfl (by decide) (by decide) (fun _ _ h => h) (fun g => ⟨g, rfl⟩)
  rw [n27]
  simp only [Act.put, List.setIfInBounds_toArray, List.set_cons_succ, List.set_cons_zero, Nat.reduceAdd]
  refine lex_special (by rfl) rfl (fun σ w1 hA hD hn hC => ?_) ?_
  · have e27 := got1 hA hD 27 rfl (by kernel_rfl)
    rw [n27] at e27
    go_simp
    exact of_ok hC hn (by simp) 27 (by simp) 2 false _ 3 _ e27 [(1, 1), (1, 2), (2, 1)] (by decide) (fun _ _ h => h) (fun _ _ h => h) ⟨_, _, rfl⟩
  rw [n28]
  simp only [Act.put, List.setIfInBounds_toArray, List.set_cons_succ, List.set_cons_zero, Nat.reduceAdd]
  refine lex_special (by rfl) rfl (fun σ w1 hA hD hn hC => ?_) ?_
  · have e23 := got1 hA hD 23 rfl (by kernel_rfl)
    rw [n23] at e23
    have e28 := got1 hA hD 28 rfl (by kernel_rfl)
    rw [n28] at e28
    go_simp
    exact common_ok hC hn (by simp) (show OwG w1 w8.heap.size _ [(1, 1), (1, 2), (1, 3)] from hC.fact e23 (by simp)).rd 28 (by simp) 2 0 false _ e28 [(1, 1), (1, 2), (2, 1)] (fun _ _ h => h) 2 (by decide) (fun _ _ => trivial) rfl
  rw [n29]
  simp only [Act.put, List.setIfInBounds_toArray, List.set_cons_succ, List.set_cons_zero, Nat.reduceAdd]
  refine lex_plain (by rfl) rfl ?_
  apply Exists.intro
  refine ⟨fun σ w1 hA hD hC => ?_, ?_⟩
  · clear hA hD hC
    go_simp
    exact And.intro rfl rfl
  simp only [Act.put, List.setIfInBounds_toArray, List.set_cons_succ, List.set_cons_zero, Nat.reduceAdd]
  refine lex_plain (by rfl) rfl ?_
  apply Exists.intro
  refine ⟨fun σ w1 hA hD hC => ?_, ?_⟩
  · clear hA hD hC
    go_simp
    exact And.intro rfl rfl
  simp only [Act.put, List.setIfInBounds_toArray, List.set_cons_succ, List.set_cons_zero, Nat.reduceAdd]
  refine lex_plain (by rfl) rfl ?_
  apply Exists.intro
  refine ⟨fun σ w1 hA hD hC => ?_, ?_⟩
  · clear hA hD hC
    go_simp
    exact And.intro rfl rfl
  simp only [Act.put, List.setIfInBounds_toArray, List.set_cons_succ, List.set_cons_zero, Nat.reduceAdd]
  refine lex_plain (by rfl) rfl ?_
  apply Exists.intro
  refine ⟨fun σ w1 hA hD hC => ?_, ?_⟩
  · clear hA hD hC
    go_simp
    exact And.intro rfl rfl
  simp only [Act.put, List.setIfInBounds_toArray, List.set_cons_succ, List.set_cons_zero, Nat.reduceAdd]
  refine lex_plain (by rfl) rfl ⟨.agg #[.int .u64 1, .int .u64 1], fun σ w1 hA hD hC => ?_, ?_⟩
  · rw [exec_load 32 (.tmp 1) rfl ga rfl 32 _ _ (HA.out.keep hC.below) Try.underlying32 rfl (by kernel_rfl)]
    exact ⟨rfl, rfl⟩
  simp only [Act.put, List.setIfInBounds_toArray, List.set_cons_succ, List.set_cons_zero, Nat.reduceAdd]
  refine lex_plain (by rfl) rfl ⟨.agg #[.int .u64 1, .int .u64 2], fun σ w1 hA hD hC => ?_, ?_⟩
  · rw [exec_load 32 (.tmp 2) rfl gb rfl 32 _ _ (HBB.out.keep hC.below) Try.underlying32 rfl (by kernel_rfl)]
    exact ⟨rfl, rfl⟩
  simp only [Act.put, List.setIfInBounds_toArray, List.set_cons_succ, List.set_cons_zero, Nat.reduceAdd]
  refine lex_special (by rfl) rfl (fun σ w1 hA hD hn hC => ?_) ?_
  · go_simp
    exact lit_ok hC hn (by simp) [(1, 1), (1, 2)] 2 _ rfl rfl (by decide) (by decide) (fun _ _ h => h) (fun g => ⟨g, rfl⟩)
  rw [n36]
  simp only [Act.put, List.setIfInBounds_toArray, List.set_cons_succ, List.set_cons_zero, Nat.reduceAdd]
  refine lex_special (by rfl) rfl (fun σ w1 hA hD hn hC => ?_) ?_
  · have e36 := got1 hA hD 36 rfl (by kernel_rfl)
    rw [n36] at e36
    go_simp
    exact of_ok hC hn (by simp) 36 (by simp) 2 false _ 2 _ e36 [(1, 1), (1, 2)] (by decide) (fun _ _ h => h) (fun _ _ h => h) ⟨_, _, rfl⟩
  rw [n37]
  simp only [Act.put, List.setIfInBounds_toArray, List.set_cons_succ, List.set_cons_zero, Nat.reduceAdd]
  refine lex_special (by rfl) rfl (fun σ w1 hA hD hn hC => ?_) ?_
  · have e37 := got1 hA hD 37 rfl (by kernel_rfl)
    rw [n37] at e37
    go_simp
    exact stays_ok hC hn (by simp) (HL.out.keep hC.below) 37 (by simp) 2 0 false _ e37 [(1, 1), (1, 2)] (fun _ _ h => h) 3 (by decide) (fun _ _ => trivial) rfl
  rw [n38]
  simp only [Act.put, List.setIfInBounds_toArray, List.set_cons_succ, List.set_cons_zero, Nat.reduceAdd]
  refine lex_plain (by rfl) rfl ?_
  apply Exists.intro
  refine ⟨fun σ w1 hA hD hC => ?_, ?_⟩
  · clear hA hD hC
    go_simp
    exact And.intro rfl rfl
  simp only [Act.put, List.setIfInBounds_toArray, List.set_cons_succ, List.set_cons_zero, Nat.reduceAdd]
  refine lex_plain (by rfl) rfl ?_
  apply Exists.intro
  refine ⟨fun σ w1 hA hD hC => ?_, ?_⟩
  · clear hA hD hC
    go_simp
    exact And.intro rfl rfl
  simp only [Act.put, List.setIfInBounds_toArray, List.set_cons_succ, List.set_cons_zero, Nat.reduceAdd]
  refine lex_plain (by rfl) rfl ?_
  apply Exists.intro
  refine ⟨fun σ w1 hA hD hC => ?_, ?_⟩
  · clear hA hD hC
    go_simp
    exact And.intro rfl rfl
  simp only [Act.put, List.setIfInBounds_toArray, List.set_cons_succ, List.set_cons_zero, Nat.reduceAdd]
  refine lex_plain (by rfl) rfl ?_
  apply Exists.intro
  refine ⟨fun σ w1 hA hD hC => ?_, ?_⟩
  · clear hA hD hC
    go_simp
    exact And.intro rfl rfl
  simp only [Act.put, List.setIfInBounds_toArray, List.set_cons_succ, List.set_cons_zero, Nat.reduceAdd]
  refine lex_plain (by rfl) rfl ?_
  apply Exists.intro
  refine ⟨fun σ w1 hA hD hC => ?_, ?_⟩
  · clear hA hD hC
    go_simp
    exact And.intro rfl rfl
  simp only [Act.put, List.setIfInBounds_toArray, List.set_cons_succ, List.set_cons_zero, Nat.reduceAdd]
  refine lex_plain (by rfl) rfl ⟨.agg #[.int .u64 1, .int .u64 1], fun σ w1 hA hD hC => ?_, ?_⟩
  · rw [exec_load 32 (.tmp 1) rfl ga rfl 32 _ _ (HA.out.keep hC.below) Try.underlying32 rfl (by kernel_rfl)]
    exact ⟨rfl, rfl⟩
  simp only [Act.put, List.setIfInBounds_toArray, List.set_cons_succ, List.set_cons_zero, Nat.reduceAdd]
  refine lex_plain (by rfl) rfl ⟨.agg #[.int .u64 1, .int .u64 2], fun σ w1 hA hD hC => ?_, ?_⟩
  · rw [exec_load 32 (.tmp 2) rfl gb rfl 32 _ _ (HBB.out.keep hC.below) Try.underlying32 rfl (by kernel_rfl)]
    exact ⟨rfl, rfl⟩
  simp only [Act.put, List.setIfInBounds_toArray, List.set_cons_succ, List.set_cons_zero, Nat.reduceAdd]
  refine lex_special (by rfl) rfl (fun σ w1 hA hD hn hC => ?_) ?_
  · go_simp
    exact guid_ok hC hn (by simp) 2 1 (fun _ _ => trivial) rfl
  rw [n46]
  simp only [Act.put, List.setIfInBounds_toArray, List.set_cons_succ, List.set_cons_zero, Nat.reduceAdd]
  refine lex_special (by rfl) rfl (fun σ w1 hA hD hn hC => ?_) ?_
  · go_simp
    exact lit_ok hC hn (by simp) [(1, 1), (1, 2), (2, 1)] 3 _ rfl rfl (by decide) (by decide) (fun _ _ h => h) (fun g => ⟨g, rfl⟩)
  rw [n47]
  simp only [Act.put, List.setIfInBounds_toArray, List.set_cons_succ, List.set_cons_zero, Nat.reduceAdd]
  refine lex_special (by rfl) rfl (fun σ w1 hA hD hn hC => ?_) ?_
  · have e47 := got1 hA hD 47 rfl (by kernel_rfl)
    rw [n47] at e47
    go_simp
    exact of_ok hC hn (by simp) 47 (by simp) 2 false _ 3 _ e47 [(1, 1), (1, 2), (2, 1)] (by decide) (fun _ _ h => h) (fun _ _ h => h) ⟨_, _, rfl⟩
  rw [n48]
  simp only [Act.put, List.setIfInBounds_toArray, List.set_cons_succ, List.set_cons_zero, Nat.reduceAdd]
  refine lex_special (by rfl) rfl (fun σ w1 hA hD hn hC => ?_) ?_
  · have e48 := got1 hA hD 48 rfl (by kernel_rfl)
    rw [n48] at e48
    go_simp
    exact stays_ok hC hn (by simp) (InG.take (m := 2) (HL.out.keep hC.below) (by decide)) 48 (by simp) 2 0 false _ e48 [(1, 1), (1, 2), (2, 1)] (fun _ _ h => h) 2 (by decide) (fun _ _ => trivial) rfl
  rw [n49]
  simp only [Act.put, List.setIfInBounds_toArray, List.set_cons_succ, List.set_cons_zero, Nat.reduceAdd]
  refine lex_plain (by rfl) rfl ?_
  apply Exists.intro
  refine ⟨fun σ w1 hA hD hC => ?_, ?_⟩
  · clear hA hD hC
    go_simp
    exact And.intro rfl rfl
  simp only [Act.put, List.setIfInBounds_toArray, List.set_cons_succ, List.set_cons_zero, Nat.reduceAdd]
  refine lex_plain (by rfl) rfl ?_
  apply Exists.intro
  refine ⟨fun σ w1 hA hD hC => ?_, ?_⟩
  · clear hA hD hC
    go_simp
    exact And.intro rfl rfl
  simp only [Act.put, List.setIfInBounds_toArray, List.set_cons_succ, List.set_cons_zero, Nat.reduceAdd]
  refine lex_plain (by rfl) rfl ?_
  apply Exists.intro
  refine ⟨fun σ w1 hA hD hC => ?_, ?_⟩
  · clear hA hD hC
    go_simp
    exact And.intro rfl rfl
  simp only [Act.put, List.setIfInBounds_toArray, List.set_cons_succ, List.set_cons_zero, Nat.reduceAdd]
  refine lex_plain (by rfl) rfl ⟨.agg #[.int .u64 1, .int .u64 1], fun σ w1 hA hD hC => ?_, ?_⟩
  · rw [exec_load 32 (.tmp 1) rfl ga rfl 32 _ _ (HA.out.keep hC.below) Try.underlying32 rfl (by kernel_rfl)]
    exact ⟨rfl, rfl⟩
  simp only [Act.put, List.setIfInBounds_toArray, List.set_cons_succ, List.set_cons_zero, Nat.reduceAdd]
  refine lex_special (by rfl) rfl (fun σ w1 hA hD hn hC => ?_) ?_
  · go_simp
    exact guid_ok hC hn (by simp) 1 3 (fun _ _ => trivial) rfl
  rw [n54]
  simp only [Act.put, List.setIfInBounds_toArray, List.set_cons_succ, List.set_cons_zero, Nat.reduceAdd]
  refine lex_special (by rfl) rfl (fun σ w1 hA hD hn hC => ?_) ?_
  · go_simp
    exact lit_ok hC hn (by simp) [(1, 1), (1, 3)] 2 _ rfl rfl (by decide) (by decide) (fun _ _ h => h) (fun g => ⟨g, rfl⟩)
  rw [n55]
  simp only [Act.put, List.setIfInBounds_toArray, List.set_cons_succ, List.set_cons_zero, Nat.reduceAdd]
  refine lex_plain (by rfl) rfl ⟨.agg #[.int .u64 1, .int .u64 1], fun σ w1 hA hD hC => ?_, ?_⟩
  · rw [exec_load 32 (.tmp 1) rfl ga rfl 32 _ _ (HA.out.keep hC.below) Try.underlying32 rfl (by kernel_rfl)]
    exact ⟨rfl, rfl⟩
  simp only [Act.put, List.setIfInBounds_toArray, List.set_cons_succ, List.set_cons_zero, Nat.reduceAdd]
  refine lex_plain (by rfl) rfl ⟨.agg #[.int .u64 1, .int .u64 2], fun σ w1 hA hD hC => ?_, ?_⟩
  · rw [exec_load 32 (.tmp 2) rfl gb rfl 32 _ _ (HBB.out.keep hC.below) Try.underlying32 rfl (by kernel_rfl)]
    exact ⟨rfl, rfl⟩
  simp only [Act.put, List.setIfInBounds_toArray, List.set_cons_succ, List.set_cons_zero, Nat.reduceAdd]
  refine lex_special (by rfl) rfl (fun σ w1 hA hD hn hC => ?_) ?_
  · go_simp
    exact lit_ok hC hn (by simp) [(1, 1), (1, 2)] 2 _ rfl rfl (by decide) (by decide) (fun _ _ h => h) (fun g => ⟨g, rfl⟩)
  rw [n58]
  simp only [Act.put, List.setIfInBounds_toArray, List.set_cons_succ, List.set_cons_zero, Nat.reduceAdd]
  refine lex_special (by rfl) rfl (fun σ w1 hA hD hn hC => ?_) ?_
  · have e58 := got1 hA hD 58 rfl (by kernel_rfl)
    rw [n58] at e58
    go_simp
    exact of_ok hC hn (by simp) 58 (by simp) 2 false _ 2 _ e58 [(1, 1), (1, 2)] (by decide) (fun _ _ h => h) (fun _ _ h => h) ⟨_, _, rfl⟩
  rw [n59]
  simp only [Act.put, List.setIfInBounds_toArray, List.set_cons_succ, List.set_cons_zero, Nat.reduceAdd]
  refine lex_special (by rfl) rfl (fun σ w1 hA hD hn hC => ?_) ?_
  · have e55 := got1 hA hD 55 rfl (by kernel_rfl)
    rw [n55] at e55
    have e59 := got1 hA hD 59 rfl (by kernel_rfl)
    rw [n59] at e59
    go_simp
    exact stays_ok hC hn (by simp) (show OwG w1 w8.heap.size _ [(1, 1), (1, 3)] from hC.fact e55 (by simp)).rd 59 (by simp) 2 0 false _ e59 [(1, 1), (1, 2)] (fun _ _ h => h) 1 (by decide) (fun _ _ => trivial) rfl
  rw [n60]
  simp only [Act.put, List.setIfInBounds_toArray, List.set_cons_succ, List.set_cons_zero, Nat.reduceAdd]
  refine lex_plain (by rfl) rfl ?_
  apply Exists.intro
  refine ⟨fun σ w1 hA hD hC => ?_, ?_⟩
  · clear hA hD hC
    go_simp
    exact And.intro rfl rfl
  simp only [Act.put, List.setIfInBounds_toArray, List.set_cons_succ, List.set_cons_zero, Nat.reduceAdd]
  refine lex_plain (by rfl) rfl ?_
  apply Exists.intro
  refine ⟨fun σ w1 hA hD hC => ?_, ?_⟩
  · clear hA hD hC
    go_simp
    exact And.intro rfl rfl
  simp only [Act.put, List.setIfInBounds_toArray, List.set_cons_succ, List.set_cons_zero, Nat.reduceAdd]
  refine lex_plain (by rfl) rfl ?_
  apply Exists.intro
  refine ⟨fun σ w1 hA hD hC => ?_, ?_⟩
  · clear hA hD hC
    go_simp
    exact And.intro rfl rfl
  simp only [Act.put, List.setIfInBounds_toArray, List.set_cons_succ, List.set_cons_zero, Nat.reduceAdd]
  refine lex_plain (by rfl) rfl ?_
  apply Exists.intro
  refine ⟨fun σ w1 hA hD hC => ?_, ?_⟩
  · clear hA hD hC
    go_simp
    exact And.intro rfl rfl
  simp only [Act.put, List.setIfInBounds_toArray, List.set_cons_succ, List.set_cons_zero, Nat.reduceAdd]
  refine lex_plain (by rfl) rfl ?_
  apply Exists.intro
  refine ⟨fun σ w1 hA hD hC => ?_, ?_⟩
  · clear hA hD hC
    go_simp
    exact And.intro rfl rfl
  simp only [Act.put, List.setIfInBounds_toArray, List.set_cons_succ, List.set_cons_zero, Nat.reduceAdd]
  refine lex_plain (by rfl) rfl ⟨.agg #[.int .u64 1, .int .u64 1], fun σ w1 hA hD hC => ?_, ?_⟩
  · rw [exec_load 32 (.tmp 1) rfl ga rfl 32 _ _ (HA.out.keep hC.below) Try.underlying32 rfl (by kernel_rfl)]
    exact ⟨rfl, rfl⟩
  simp only [Act.put, List.setIfInBounds_toArray, List.set_cons_succ, List.set_cons_zero, Nat.reduceAdd]
  refine lex_special (by rfl) rfl (fun σ w1 hA hD hn hC => ?_) ?_
  · go_simp
    exact lit_ok hC hn (by simp) [(1, 1)] 1 _ rfl rfl (by decide) (by decide) (fun _ _ h => h) (fun g => ⟨g, rfl⟩)
  rw [n67]
  simp only [Act.put, List.setIfInBounds_toArray, List.set_cons_succ, List.set_cons_zero, Nat.reduceAdd]
  refine lex_special (by rfl) rfl (fun σ w1 hA hD hn hC => ?_) ?_
  · have e67 := got1 hA hD 67 rfl (by kernel_rfl)
    rw [n67] at e67
    go_simp
    exact of_ok hC hn (by simp) 67 (by simp) 2 false _ 1 _ e67 [(1, 1)] (by decide) (fun _ _ h => h) (fun _ _ h => h) ⟨_, _, rfl⟩
  rw [n68]
  simp only [Act.put, List.setIfInBounds_toArray, List.set_cons_succ, List.set_cons_zero, Nat.reduceAdd]
  refine lex_special (by rfl) rfl (fun σ w1 hA hD hn hC => ?_) ?_
  · have e68 := got1 hA hD 68 rfl (by kernel_rfl)
    rw [n68] at e68
    go_simp
    exact stays_ok hC hn (by simp) (InG.take (m := 2) (HL.out.keep hC.below) (by decide)) 68 (by simp) 2 0 false _ e68 [(1, 1)] (fun _ _ h => h) 1 (by decide) (fun _ _ => trivial) rfl
  rw [n69]
  simp only [Act.put, List.setIfInBounds_toArray, List.set_cons_succ, List.set_cons_zero, Nat.reduceAdd]
  refine lex_plain (by rfl) rfl ?_
  apply Exists.intro
  refine ⟨fun σ w1 hA hD hC => ?_, ?_⟩
  · clear hA hD hC
    go_simp
    exact And.intro rfl rfl
  simp only [Act.put, List.setIfInBounds_toArray, List.set_cons_succ, List.set_cons_zero, Nat.reduceAdd]
  refine lex_plain (by rfl) rfl ?_
  apply Exists.intro
  refine ⟨fun σ w1 hA hD hC => ?_, ?_⟩
  · clear hA hD hC
    go_simp
    exact And.intro rfl rfl
  simp only [Act.put, List.setIfInBounds_toArray, List.set_cons_succ, List.set_cons_zero, Nat.reduceAdd]
  refine lex_plain (by rfl) rfl ?_
  apply Exists.intro
  refine ⟨fun σ w1 hA hD hC => ?_, ?_⟩
  · clear hA hD hC
    go_simp
    exact And.intro rfl rfl
  simp only [Act.put, List.setIfInBounds_toArray, List.set_cons_zero, Nat.reduceAdd]
  refine lex_nil (fun σ w9 hA hall hC => ?_)
  have HB := Lib.hid (HB.out.trans (hC.below.mono HB.out.size))
  clear hA hall hC
  go_wp2
  go_ret
  exact ⟨rfl, HB.out⟩
end Go.Proofs.Ytfkgidljgbhccaa
