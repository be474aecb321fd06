/-
  LineChecks, WALKED (its region printed by wip/gen-linechecks.py).
-/
import Derived.Test.YtfkgidljgbhccaaLineCheckR
namespace Go.Proofs.Ytfkgidljgbhccaa
open Go.RowKit Reg

set_option maxRecDepth 100000 in
set_option maxHeartbeats 4000000 in
theorem law_LineChecks (v : Value) (a : Ln) (v' : Value) (b : Ln) (w : World) (hv : InL w v a) (_ : a.l.length ≤ 2 ^ 43) (hv' : InL w v' b) (_ : b.l.length ≤ 2 ^ 43) :
    Calls Try.prog 8 #[v, v'] w fun e w' => e = .returned (.bool true) ∧ Below w.heap.size w w' := by
  have ha := hv
  have hb := hv'
  obtain ⟨sl, rfl, hs, -, -⟩ := hv
  obtain ⟨sl', rfl, hs', -, -⟩ := hv'
  obtain ⟨p1, q1, rfl, -, -⟩ := hs.open_
  obtain ⟨p2, q2, rfl, -, -⟩ := hs'.open_
  have hb0 := ((Below.refl w.heap.size w).alloc (Nat.le_refl _) (Obj.cells #[.int .u64 a.E, .int .i64 a.B, .bool a.L, .slice p1 a.l.length q1] 25)).alloc (by simp) (Obj.cells #[.int .u64 b.E, .int .i64 b.B, .bool b.L, .slice p2 b.l.length q2] 25)
  have b1 := (Blk.new w 25 #[.int .u64 a.E, .int .i64 a.B, .bool a.L, .slice p1 a.l.length q1]).alloc (Obj.cells #[.int .u64 b.E, .int .i64 b.B, .bool b.L, .slice p2 b.l.length q2] 25)
  have b2 := Blk.newAt (w := w.alloc (Obj.cells #[.int .u64 a.E, .int .i64 a.B, .bool a.L, .slice p1 a.l.length q1] 25)) 25 #[.int .u64 b.E, .int .i64 b.B, .bool b.L, .slice p2 b.l.length q2] (g := w.heap.size + 1) (by simp)
  have HA := Lib.hid b1
  have HBB := Lib.hid b2
  have HB0 := Lib.hid hb0
  have IA := Lib.hid (ha.keep hb0)
  have IB := Lib.hid (hb.keep hb0)
  clear b1 b2 hb0 ha hb hs hs'
  go_enter Try.func8, Try.ntmps8
  go_wp2_with fail
  generalize (w.alloc (Obj.cells #[.int .u64 a.E, .int .i64 a.B, .bool a.L, .slice p1 a.l.length q1] 25)).alloc (Obj.cells #[.int .u64 b.E, .int .i64 b.B, .bool b.L, .slice p2 b.l.length q2] 25) = w1 at *
  have c1 : ∀ w3, Below w1.heap.size w1 w3 → Calls Try.prog 19 #[.agg #[.int .u64 a.E, .int .i64 a.B, .bool a.L, .slice p1 a.l.length q1]] w3 fun e w' => e = .returned (.int .i64 (checkL a)) ∧ Below w3.heap.size w3 w' := fun w3 hb => check_any _ a w3 (IA.out.keep hb)
  have c2 : ∀ w3, Below w1.heap.size w1 w3 → Calls Try.prog 20 #[.agg #[.int .u64 a.E, .int .i64 a.B, .bool a.L, .slice p1 a.l.length q1]] w3 fun e w' => e = .returned (.int .i64 (checkL a)) ∧ Below w3.heap.size w3 w' := fun w3 hb => checkR_any _ a w3 (IA.out.keep hb)
  have c3 : ∀ w3, Below w1.heap.size w1 w3 → Calls Try.prog 19 #[.agg #[.int .u64 b.E, .int .i64 b.B, .bool b.L, .slice p2 b.l.length q2]] w3 fun e w' => e = .returned (.int .i64 (checkL b)) ∧ Below w3.heap.size w3 w' := fun w3 hb => check_any _ b w3 (IB.out.keep hb)
  have c4 : ∀ w3, Below w1.heap.size w1 w3 → Calls Try.prog 20 #[.agg #[.int .u64 b.E, .int .i64 b.B, .bool b.L, .slice p2 b.l.length q2]] w3 fun e w' => e = .returned (.int .i64 (checkL b)) ∧ Below w3.heap.size w3 w' := fun w3 hb => checkR_any _ b w3 (IB.out.keep hb)
  have c5 : ∀ w3, Below w1.heap.size w1 w3 → Calls Try.prog 18 #[.agg #[.int .u64 a.E, .int .i64 a.B, .bool a.L, .slice p1 a.l.length q1], .agg #[.int .u64 b.E, .int .i64 b.B, .bool b.L, .slice p2 b.l.length q2]] w3 fun e w' => e = .returned (.bool (sameL a b)) ∧ Below w3.heap.size w3 w' := fun w3 hb => same_any _ _ a b w3 (IA.out.keep hb) (IB.out.keep hb)
  have c6 : ∀ w3, Below w1.heap.size w1 w3 → Calls Try.prog 10 #[.agg #[.int .u64 a.E, .int .i64 a.B, .bool a.L, .slice p1 a.l.length q1], .agg #[.int .u64 b.E, .int .i64 b.B, .bool b.L, .slice p2 b.l.length q2]] w3 fun e w' => e = .returned (.bool (sameL a b)) ∧ Below w3.heap.size w3 w' := fun w3 hb => sameS_any _ _ a b w3 (IA.out.keep hb) (IB.out.keep hb)
  have h7 : sameL a a = true := sameL_iff.2 rfl
  have c7 : ∀ w3, Below w1.heap.size w1 w3 → Calls Try.prog 18 #[.agg #[.int .u64 a.E, .int .i64 a.B, .bool a.L, .slice p1 a.l.length q1], .agg #[.int .u64 a.E, .int .i64 a.B, .bool a.L, .slice p1 a.l.length q1]] w3 fun e w' => e = .returned (.bool true) ∧ Below w3.heap.size w3 w' := fun w3 hb => h7 ▸ same_any _ _ a a w3 (IA.out.keep hb) (IA.out.keep hb)
  generalize checkL a = ra at *
  generalize checkL b = rb at *
  generalize sameL a b = rs at *
  have C1 := Lib.hid c1
  have C2 := Lib.hid c2
  have C3 := Lib.hid c3
  have C4 := Lib.hid c4
  have C5 := Lib.hid c5
  have C6 := Lib.hid c6
  have C7 := Lib.hid c7
  clear c1 c2 c3 c4 c5 c6 c7 h7 IA IB
  refine wp_region_spec (fun i => i == 1 || i == 3 || i == 7 || i == 9 || i == 15 || i == 18 || i == 24 || i == 27) (kinds [(1, .is (.int .i64 ra)), (3, .is (.int .i64 ra)), (7, .is (.int .i64 rb)), (9, .is (.int .i64 rb)), (15, .is (.bool rs)), (18, .is (.bool rs)), (24, .is (.bool true)), (27, .is (.bool true))]) (CG w1 [] (Fof w1.heap.size [])) (by kernel_rfl) (by kernel_rfl) (kinds_inh _) CG.start ?_
  intro ν hν
  have n1 : ν 1 = (.int .i64 ra) := hν 1
  have n3 : ν 3 = (.int .i64 ra) := hν 3
  have n7 : ν 7 = (.int .i64 rb) := hν 7
  have n9 : ν 9 = (.int .i64 rb) := hν 9
  have n15 : ν 15 = (.bool rs) := hν 15
  have n18 : ν 18 = (.bool rs) := hν 18
  have n24 : ν 24 = (.bool true) := hν 24
  have n27 : ν 27 = (.bool true) := hν 27
  clear hν
  refine lex_plain (by rfl) rfl ⟨.agg #[.int .u64 a.E, .int .i64 a.B, .bool a.L, .slice p1 a.l.length q1], fun σ w2 hA hD hC => ?_, ?_⟩
  · rw [exec_load 25 (.tmp 2) rfl w.heap.size rfl 25 _ _ (HA.out.keep hC.below) Try.underlying25 rfl (by kernel_rfl)]
    exact ⟨rfl, rfl⟩
  simp only [Act.put, List.setIfInBounds_toArray, List.set_cons_succ, List.set_cons_zero, Nat.reduceAdd]
  refine lex_special (by rfl) rfl (fun σ w2 hA hD hn hC => ?_) ?_
  · go_simp
    exact num_ok hC hn (by simp) _ (C1.out _ hC.below) (fun _ _ => trivial) rfl
  rw [n1]
  simp only [Act.put, List.setIfInBounds_toArray, List.set_cons_succ, List.set_cons_zero, Nat.reduceAdd]
  refine lex_plain (by rfl) rfl ⟨.agg #[.int .u64 a.E, .int .i64 a.B, .bool a.L, .slice p1 a.l.length q1], fun σ w2 hA hD hC => ?_, ?_⟩
  · rw [exec_load 25 (.tmp 2) rfl w.heap.size rfl 25 _ _ (HA.out.keep hC.below) Try.underlying25 rfl (by kernel_rfl)]
    exact ⟨rfl, rfl⟩
  simp only [Act.put, List.setIfInBounds_toArray, List.set_cons_succ, List.set_cons_zero, Nat.reduceAdd]
  refine lex_special (by rfl) rfl (fun σ w2 hA hD hn hC => ?_) ?_
  · go_simp
    exact num_ok hC hn (by simp) _ (C2.out _ hC.below) (fun _ _ => trivial) rfl
  rw [n3]
  simp only [Act.put, List.setIfInBounds_toArray, List.set_cons_succ, List.set_cons_zero, Nat.reduceAdd]
  refine lex_plain (by rfl) rfl ?_
  apply Exists.intro
  refine ⟨fun σ w2 hA hD hC => ?_, ?_⟩
  · clear hA hD hC
    go_simp
    exact And.intro rfl rfl
  simp only [Act.put, List.setIfInBounds_toArray, List.set_cons_succ, List.set_cons_zero, Nat.reduceAdd]
  refine lex_plain (by rfl) rfl ?_
  apply Exists.intro
  refine ⟨fun σ w2 hA hD hC => ?_, ?_⟩
  · clear hA hD hC
    go_simp
    exact And.intro rfl rfl
  simp only [Act.put, List.setIfInBounds_toArray, List.set_cons_succ, List.set_cons_zero, Nat.reduceAdd]
  refine lex_plain (by rfl) rfl ⟨.agg #[.int .u64 b.E, .int .i64 b.B, .bool b.L, .slice p2 b.l.length q2], fun σ w2 hA hD hC => ?_, ?_⟩
  · rw [exec_load 25 (.tmp 3) rfl (w.heap.size + 1) rfl 25 _ _ (HBB.out.keep hC.below) Try.underlying25 rfl (by kernel_rfl)]
    exact ⟨rfl, rfl⟩
  simp only [Act.put, List.setIfInBounds_toArray, List.set_cons_succ, List.set_cons_zero, Nat.reduceAdd]
  refine lex_special (by rfl) rfl (fun σ w2 hA hD hn hC => ?_) ?_
  · go_simp
    exact num_ok hC hn (by simp) _ (C3.out _ hC.below) (fun _ _ => trivial) rfl
  rw [n7]
  simp only [Act.put, List.setIfInBounds_toArray, List.set_cons_succ, List.set_cons_zero, Nat.reduceAdd]
  refine lex_plain (by rfl) rfl ⟨.agg #[.int .u64 b.E, .int .i64 b.B, .bool b.L, .slice p2 b.l.length q2], fun σ w2 hA hD hC => ?_, ?_⟩
  · rw [exec_load 25 (.tmp 3) rfl (w.heap.size + 1) rfl 25 _ _ (HBB.out.keep hC.below) Try.underlying25 rfl (by kernel_rfl)]
    exact ⟨rfl, rfl⟩
  simp only [Act.put, List.setIfInBounds_toArray, List.set_cons_succ, List.set_cons_zero, Nat.reduceAdd]
  refine lex_special (by rfl) rfl (fun σ w2 hA hD hn hC => ?_) ?_
  · go_simp
    exact num_ok hC hn (by simp) _ (C4.out _ hC.below) (fun _ _ => trivial) rfl
  rw [n9]
  simp only [Act.put, List.setIfInBounds_toArray, List.set_cons_succ, List.set_cons_zero, Nat.reduceAdd]
  refine lex_plain (by rfl) rfl ?_
  apply Exists.intro
  refine ⟨fun σ w2 hA hD hC => ?_, ?_⟩
  · clear hA hD hC
    go_simp
    exact And.intro rfl rfl
  simp only [Act.put, List.setIfInBounds_toArray, List.set_cons_succ, List.set_cons_zero, Nat.reduceAdd]
  refine lex_plain (by rfl) rfl ?_
  apply Exists.intro
  refine ⟨fun σ w2 hA hD hC => ?_, ?_⟩
  · clear hA hD hC
    go_simp
    exact And.intro rfl rfl
  simp only [Act.put, List.setIfInBounds_toArray, List.set_cons_succ, List.set_cons_zero, Nat.reduceAdd]
  refine lex_plain (by rfl) rfl ?_
  apply Exists.intro
  refine ⟨fun σ w2 hA hD hC => ?_, ?_⟩
  · clear hA hD hC
    go_simp
    exact And.intro rfl rfl
  simp only [Act.put, List.setIfInBounds_toArray, List.set_cons_succ, List.set_cons_zero, Nat.reduceAdd]
  refine lex_plain (by rfl) rfl ⟨.agg #[.int .u64 a.E, .int .i64 a.B, .bool a.L, .slice p1 a.l.length q1], fun σ w2 hA hD hC => ?_, ?_⟩
  · rw [exec_load 25 (.tmp 2) rfl w.heap.size rfl 25 _ _ (HA.out.keep hC.below) Try.underlying25 rfl (by kernel_rfl)]
    exact ⟨rfl, rfl⟩
  simp only [Act.put, List.setIfInBounds_toArray, List.set_cons_succ, List.set_cons_zero, Nat.reduceAdd]
  refine lex_plain (by rfl) rfl ⟨.agg #[.int .u64 b.E, .int .i64 b.B, .bool b.L, .slice p2 b.l.length q2], fun σ w2 hA hD hC => ?_, ?_⟩
  · rw [exec_load 25 (.tmp 3) rfl (w.heap.size + 1) rfl 25 _ _ (HBB.out.keep hC.below) Try.underlying25 rfl (by kernel_rfl)]
    exact ⟨rfl, rfl⟩
  simp only [Act.put, List.setIfInBounds_toArray, List.set_cons_succ, List.set_cons_zero, Nat.reduceAdd]
  refine lex_special (by rfl) rfl (fun σ w2 hA hD hn hC => ?_) ?_
  · go_simp
    exact num_ok hC hn (by simp) _ (C5.out _ hC.below) (fun _ _ => trivial) rfl
  rw [n15]
  simp only [Act.put, List.setIfInBounds_toArray, List.set_cons_succ, List.set_cons_zero, Nat.reduceAdd]
  refine lex_plain (by rfl) rfl ⟨.agg #[.int .u64 a.E, .int .i64 a.B, .bool a.L, .slice p1 a.l.length q1], fun σ w2 hA hD hC => ?_, ?_⟩
  · rw [exec_load 25 (.tmp 2) rfl w.heap.size rfl 25 _ _ (HA.out.keep hC.below) Try.underlying25 rfl (by kernel_rfl)]
    exact ⟨rfl, rfl⟩
  simp only [Act.put, List.setIfInBounds_toArray, List.set_cons_succ, List.set_cons_zero, Nat.reduceAdd]
  refine lex_plain (by rfl) rfl ⟨.agg #[.int .u64 b.E, .int .i64 b.B, .bool b.L, .slice p2 b.l.length q2], fun σ w2 hA hD hC => ?_, ?_⟩
  · rw [exec_load 25 (.tmp 3) rfl (w.heap.size + 1) rfl 25 _ _ (HBB.out.keep hC.below) Try.underlying25 rfl (by kernel_rfl)]
    exact ⟨rfl, rfl⟩
  simp only [Act.put, List.setIfInBounds_toArray, List.set_cons_succ, List.set_cons_zero, Nat.reduceAdd]
  refine lex_special (by rfl) rfl (fun σ w2 hA hD hn hC => ?_) ?_
  · go_simp
    exact num_ok hC hn (by simp) _ (C6.out _ hC.below) (fun _ _ => trivial) rfl
  rw [n18]
  simp only [Act.put, List.setIfInBounds_toArray, List.set_cons_succ, List.set_cons_zero, Nat.reduceAdd]
  refine lex_plain (by rfl) rfl ?_
  apply Exists.intro
  refine ⟨fun σ w2 hA hD hC => ?_, ?_⟩
  · clear hA hD hC
    go_simp
    exact And.intro rfl rfl
  simp only [Act.put, List.setIfInBounds_toArray, List.set_cons_succ, List.set_cons_zero, Nat.reduceAdd]
  refine lex_plain (by rfl) rfl ?_
  apply Exists.intro
  refine ⟨fun σ w2 hA hD hC => ?_, ?_⟩
  · clear hA hD hC
    go_simp
    exact And.intro rfl rfl
  simp only [Act.put, List.setIfInBounds_toArray, List.set_cons_succ, List.set_cons_zero, Nat.reduceAdd]
  refine lex_plain (by rfl) rfl ?_
  apply Exists.intro
  refine ⟨fun σ w2 hA hD hC => ?_, ?_⟩
  · clear hA hD hC
    go_simp
    exact And.intro rfl rfl
  simp only [Act.put, List.setIfInBounds_toArray, List.set_cons_succ, List.set_cons_zero, Nat.reduceAdd]
  refine lex_plain (by rfl) rfl ⟨.agg #[.int .u64 a.E, .int .i64 a.B, .bool a.L, .slice p1 a.l.length q1], fun σ w2 hA hD hC => ?_, ?_⟩
  · rw [exec_load 25 (.tmp 2) rfl w.heap.size rfl 25 _ _ (HA.out.keep hC.below) Try.underlying25 rfl (by kernel_rfl)]
    exact ⟨rfl, rfl⟩
  simp only [Act.put, List.setIfInBounds_toArray, List.set_cons_succ, List.set_cons_zero, Nat.reduceAdd]
  refine lex_plain (by rfl) rfl ⟨.agg #[.int .u64 a.E, .int .i64 a.B, .bool a.L, .slice p1 a.l.length q1], fun σ w2 hA hD hC => ?_, ?_⟩
  · rw [exec_load 25 (.tmp 2) rfl w.heap.size rfl 25 _ _ (HA.out.keep hC.below) Try.underlying25 rfl (by kernel_rfl)]
    exact ⟨rfl, rfl⟩
  simp only [Act.put, List.setIfInBounds_toArray, List.set_cons_succ, List.set_cons_zero, Nat.reduceAdd]
  refine lex_special (by rfl) rfl (fun σ w2 hA hD hn hC => ?_) ?_
  · go_simp
    exact num_ok hC hn (by simp) _ (C7.out _ hC.below) (fun _ _ => trivial) rfl
  rw [n24]
  simp only [Act.put, List.setIfInBounds_toArray, List.set_cons_succ, List.set_cons_zero, Nat.reduceAdd]
  refine lex_plain (by rfl) rfl ?_
  apply Exists.intro
  refine ⟨fun σ w2 hA hD hC => ?_, ?_⟩
  · clear hA hD hC
    go_simp
    exact And.intro rfl rfl
  simp only [Act.put, List.setIfInBounds_toArray, List.set_cons_succ, List.set_cons_zero, Nat.reduceAdd]
  refine lex_plain (by rfl) rfl ?_
  apply Exists.intro
  refine ⟨fun σ w2 hA hD hC => ?_, ?_⟩
  · clear hA hD hC
    go_simp
    exact And.intro rfl rfl
  simp only [Act.put, List.setIfInBounds_toArray, List.set_cons_succ, List.set_cons_zero, Nat.reduceAdd]
  refine lex_special (by rfl) rfl (fun σ w2 hA hD hn hC => ?_) ?_
  · go_simp
    exact num_ok hC hn (by simp) _ (works_any _) (fun _ _ => trivial) rfl
  rw [n27]
  simp only [Act.put, List.setIfInBounds_toArray, List.set_cons_succ, List.set_cons_zero, Nat.reduceAdd]
  refine lex_plain (by rfl) rfl ?_
  apply Exists.intro
  refine ⟨fun σ w2 hA hD hC => ?_, ?_⟩
  · clear hA hD hC
    go_simp
    exact And.intro rfl rfl
  simp only [Act.put, List.setIfInBounds_toArray, List.set_cons_succ, List.set_cons_zero, Nat.reduceAdd]
  refine lex_plain (by rfl) rfl ?_
  apply Exists.intro
  refine ⟨fun σ w2 hA hD hC => ?_, ?_⟩
  · clear hA hD hC
    go_simp
    exact And.intro rfl rfl
  simp only [Act.put, List.setIfInBounds_toArray, List.set_cons_succ, List.set_cons_zero, Nat.reduceAdd]
  refine lex_nil (fun σ w9 hA hall hC => ?_)
  have HB := Lib.hid (HB0.out.trans (hC.below.mono HB0.out.size))
  clear hA hall hC
  go_wp2
  go_ret
  exact ⟨rfl, HB.out⟩
end Go.Proofs.Ytfkgidljgbhccaa
