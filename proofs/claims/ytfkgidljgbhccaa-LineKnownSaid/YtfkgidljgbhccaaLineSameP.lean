/-
  TWO LINES COMPARED, the program's way (its regions printed by wip/gen-linesame.py).
-/
import Derived.Test.YtfkgidljgbhccaaLineLaw1
namespace Go.Proofs.Ytfkgidljgbhccaa
open Go.RowKit Reg

def sameL (x y : Ln) : Bool := sameR x y && (x.B == y.B && decide (x.l = y.l))
theorem bit_inj {a b : Bool} (h : bit a = bit b) : a = b := by cases a <;> cases b <;> first | rfl | (simp [bit] at h)
theorem sameL_iff {x y : Ln} : sameL x y = true ↔ x = y := by
  obtain ⟨E, B, L, l⟩ := x
  obtain ⟨E', B', L', l'⟩ := y
  unfold sameL sameR
  simp only [Bool.and_eq_true, beq_iff_eq, decide_eq_true_eq, Ln.mk.injEq]
  constructor
  · rintro ⟨⟨h1, h2, h3⟩, h4, h5⟩
    exact ⟨h1, h4, bit_inj h3, h5⟩
  · rintro ⟨h1, h2, h3, h4⟩
    subst h1 h2 h3 h4
    exact ⟨⟨rfl, rfl, rfl⟩, rfl, rfl⟩
set_option maxRecDepth 100000 in
set_option maxHeartbeats 2000000 in
theorem same_any (v v' : Value) (x y : Ln) (w : World) (hv : InL w v x) (hv' : InL w v' y) :
    Calls Try.prog 18 #[v, v'] w fun e w' => e = .returned (.bool (sameL x y)) ∧ Below w.heap.size w w' := by
  have hr1 := fun w1 hb => rank_any v x w1 (hv.keep (w' := w1) hb)
  have hr2 := fun w1 hb => rank_any v' y w1 (hv'.keep (w' := w1) hb)
  obtain ⟨sl, rfl, hs, -, -⟩ := hv
  obtain ⟨sl', rfl, hs', -, -⟩ := hv'
  have heq := fun w1 hb => equal_any sl sl' x.l y.l w1 (hs.keep (w' := w1) hb) (hs'.keep hb)
  obtain ⟨a, c, rfl, -, -⟩ := hs.open_
  obtain ⟨a', c', rfl, -, -⟩ := hs'.open_
  have hb0 := ((Below.refl w.heap.size w).alloc (Nat.le_refl _) (Obj.cells #[.int .u64 x.E, .int .i64 x.B, .bool x.L, .slice a x.l.length c] 25)).alloc (by simp) (Obj.cells #[.int .u64 y.E, .int .i64 y.B, .bool y.L, .slice a' y.l.length c'] 25)
  have hb1 := (Blk.new w 25 #[.int .u64 x.E, .int .i64 x.B, .bool x.L, .slice a x.l.length c]).alloc (Obj.cells #[.int .u64 y.E, .int .i64 y.B, .bool y.L, .slice a' y.l.length c'] 25)
  have hb2 := Blk.newAt (w := w.alloc (Obj.cells #[.int .u64 x.E, .int .i64 x.B, .bool x.L, .slice a x.l.length c] 25)) 25 #[.int .u64 y.E, .int .i64 y.B, .bool y.L, .slice a' y.l.length c'] (g := w.heap.size + 1) (by simp)
  have HB0 := Lib.hid hb0
  have HBX := Lib.hid hb1
  have HBY := Lib.hid hb2
  have R1 := Lib.hid hr1
  have R2 := Lib.hid hr2
  have EQ := Lib.hid heq
  obtain ⟨res, hres⟩ : ∃ r, r = sameL x y := ⟨_, rfl⟩
  rw [← hres]
  have HRES := Lib.hid hres
  unfold sameL at hres
  clear hb0 hb1 hb2 hr1 hr2 heq hs hs'
  have heqr := run_eq_rank x y
  cases hsr : sameR x y with
  | false =>
    rw [hsr, Bool.false_and] at hres
    subst hres
    simp only [hsr] at heqr
    clear hsr HRES
    go_enter Try.func18, Try.ntmps18
    go_wp2_with fail
    generalize (w.alloc (Obj.cells #[.int .u64 x.E, .int .i64 x.B, .bool x.L, .slice a x.l.length c] 25)).alloc (Obj.cells #[.int .u64 y.E, .int .i64 y.B, .bool y.L, .slice a' y.l.length c'] 25) = w1 at *
    refine wp_region_spec (fun i => i == 1 || i == 3) (kinds [(1, .is (.agg (rankV x))), (3, .is (.agg (rankV y)))]) (CG w1 [] (Fof w1.heap.size [])) (by kernel_rfl) (by kernel_rfl) (kinds_inh _) CG.start ?_
    intro ν hν
    have n1 : ν 1 = (.agg (rankV x)) := hν 1
    have n3 : ν 3 = (.agg (rankV y)) := hν 3
    clear hν
    refine lex_plain (by rfl) rfl ⟨.agg #[.int .u64 x.E, .int .i64 x.B, .bool x.L, .slice a x.l.length c], fun σ w2 hA hD hC => ?_, ?_⟩
    · rw [exec_load 25 (.tmp 2) rfl w.heap.size rfl 25 _ _ (HBX.out.keep hC.below) Try.underlying25 rfl (by kernel_rfl)]
      exact ⟨rfl, rfl⟩
    simp only [Act.put, List.setIfInBounds_toArray, List.set_cons_succ, List.set_cons_zero, Nat.reduceAdd]
    refine lex_special (by rfl) rfl (fun σ w2 hA hD hn hC => ?_) ?_
    · go_simp
      exact num_ok hC hn (by simp) _ (R1.out _ (HB0.out.trans (hC.below.mono HB0.out.size))) (fun _ _ => trivial) rfl
    rw [n1]
    simp only [Act.put, List.setIfInBounds_toArray, List.set_cons_succ, List.set_cons_zero, Nat.reduceAdd]
    refine lex_plain (by rfl) rfl ⟨.agg #[.int .u64 y.E, .int .i64 y.B, .bool y.L, .slice a' y.l.length c'], fun σ w2 hA hD hC => ?_, ?_⟩
    · rw [exec_load 25 (.tmp 3) rfl (w.heap.size + 1) rfl 25 _ _ (HBY.out.keep hC.below) Try.underlying25 rfl (by kernel_rfl)]
      exact ⟨rfl, rfl⟩
    simp only [Act.put, List.setIfInBounds_toArray, List.set_cons_succ, List.set_cons_zero, Nat.reduceAdd]
    refine lex_special (by rfl) rfl (fun σ w2 hA hD hn hC => ?_) ?_
    · go_simp
      exact num_ok hC hn (by simp) _ (R2.out _ (HB0.out.trans (hC.below.mono HB0.out.size))) (fun _ _ => trivial) rfl
    rw [n3]
    simp only [Act.put, List.setIfInBounds_toArray, List.set_cons_succ, List.set_cons_zero, Nat.reduceAdd]
    refine lex_plain (by rfl) rfl ?_
    apply Exists.intro
    refine ⟨fun σ w2 hA hD hC => ?_, ?_⟩
    · clear hA hD hC
      go_simp
      exact And.intro rfl rfl
    simp only [Act.put, List.setIfInBounds_toArray, List.set_cons_succ, List.set_cons_zero, Nat.reduceAdd]
    refine lex_plain (by rfl) rfl ?_
    apply Exists.intro
    refine ⟨fun σ w2 hA hD hC => ?_, ?_⟩
    · clear hA hD hC
      go_simp
      exact And.intro rfl rfl
    simp only [Act.put, List.setIfInBounds_toArray, List.set_cons_succ, List.set_cons_zero, Nat.reduceAdd]
    refine lex_skip (by rfl) rfl ?_
    simp only [Act.put, List.setIfInBounds_toArray, List.set_cons_succ, List.set_cons_zero, Nat.reduceAdd]
    refine lex_skip (by rfl) rfl ?_
    simp only [Act.put, List.setIfInBounds_toArray, List.set_cons_succ, List.set_cons_zero, Nat.reduceAdd]
    refine lex_skip (by rfl) rfl ?_
    simp only [Act.put, List.setIfInBounds_toArray, List.set_cons_succ, List.set_cons_zero, Nat.reduceAdd]
    refine lex_skip (by rfl) rfl ?_
    simp only [Act.put, List.setIfInBounds_toArray, List.set_cons_succ, List.set_cons_zero, Nat.reduceAdd]
    refine lex_skip (by rfl) rfl ?_
    simp only [Act.put, List.setIfInBounds_toArray, List.set_cons_succ, List.set_cons_zero, Nat.reduceAdd]
    refine lex_plain (by rfl) rfl ?_
    apply Exists.intro
    refine ⟨fun σ w2 hA hD hC => ?_, ?_⟩
    · clear hA hD hC
      go_simp
      exact And.intro rfl rfl
    simp only [Act.put, List.setIfInBounds_toArray, List.set_cons_succ, List.set_cons_zero, Nat.reduceAdd]
    refine lex_plain (by rfl) rfl ?_
    apply Exists.intro
    refine ⟨fun σ w2 hA hD hC => ?_, ?_⟩
    · clear hA hD hC
      go_simp
      exact And.intro rfl rfl
    simp only [Act.put, List.setIfInBounds_toArray, List.set_cons_succ, List.set_cons_zero, Nat.reduceAdd]
    refine lex_skip (by rfl) rfl ?_
    simp only [Act.put, List.setIfInBounds_toArray, List.set_cons_succ, List.set_cons_zero, Nat.reduceAdd]
    refine lex_skip (by rfl) rfl ?_
    simp only [Act.put, List.setIfInBounds_toArray, List.set_cons_succ, List.set_cons_zero, Nat.reduceAdd]
    refine lex_skip (by rfl) rfl ?_
    simp only [Act.put, List.setIfInBounds_toArray, List.set_cons_succ, List.set_cons_zero, Nat.reduceAdd]
    refine lex_skip (by rfl) rfl ?_
    simp only [Act.put, List.setIfInBounds_toArray, List.set_cons_succ, List.set_cons_zero, Nat.reduceAdd]
    refine lex_skip (by rfl) rfl ?_
    simp only [Act.put, List.setIfInBounds_toArray, List.set_cons_succ, List.set_cons_zero, Nat.reduceAdd]
    refine lex_plain (by rfl) rfl ?_
    apply Exists.intro
    refine ⟨fun σ w2 hA hD hC => ?_, ?_⟩
    · clear hA hD hC
      go_simp
      exact And.intro rfl rfl
    simp only [Act.put, List.setIfInBounds_toArray, List.set_cons_succ, List.set_cons_zero, Nat.reduceAdd]
    refine lex_plain (by rfl) rfl ?_
    apply Exists.intro
    refine ⟨fun σ w2 hA hD hC => ?_, ?_⟩
    · clear hA hD hC
      go_simp
      exact And.intro rfl rfl
    simp only [Act.put, List.setIfInBounds_toArray, List.set_cons_succ, List.set_cons_zero, Nat.reduceAdd]
    refine lex_nil (fun σ w9 hA hall hC => ?_)
    have HB := Lib.hid (HB0.out.trans (hC.below.mono HB0.out.size))
    clear hA hall hC
    go_wp2
    go_ret
    exact ⟨rfl, HB.out⟩
  | true =>
    rw [hsr, Bool.true_and] at hres
    simp only [hsr] at heqr
    clear hsr HRES
    cases hbb : (x.B == y.B) with
    | false =>
      rw [hbb, Bool.false_and] at hres
      subst hres
      go_enter Try.func18, Try.ntmps18
      go_wp2_with fail
      generalize (w.alloc (Obj.cells #[.int .u64 x.E, .int .i64 x.B, .bool x.L, .slice a x.l.length c] 25)).alloc (Obj.cells #[.int .u64 y.E, .int .i64 y.B, .bool y.L, .slice a' y.l.length c'] 25) = w1 at *
      refine wp_region_spec (fun i => i == 1 || i == 3) (kinds [(1, .is (.agg (rankV x))), (3, .is (.agg (rankV y)))]) (CG w1 [] (Fof w1.heap.size [])) (by kernel_rfl) (by kernel_rfl) (kinds_inh _) CG.start ?_
      intro ν hν
      have n1 : ν 1 = (.agg (rankV x)) := hν 1
      have n3 : ν 3 = (.agg (rankV y)) := hν 3
      clear hν
      refine lex_plain (by rfl) rfl ⟨.agg #[.int .u64 x.E, .int .i64 x.B, .bool x.L, .slice a x.l.length c], fun σ w2 hA hD hC => ?_, ?_⟩
      · rw [exec_load 25 (.tmp 2) rfl w.heap.size rfl 25 _ _ (HBX.out.keep hC.below) Try.underlying25 rfl (by kernel_rfl)]
        exact ⟨rfl, rfl⟩
      simp only [Act.put, List.setIfInBounds_toArray, List.set_cons_succ, List.set_cons_zero, Nat.reduceAdd]
      refine lex_special (by rfl) rfl (fun σ w2 hA hD hn hC => ?_) ?_
      · go_simp
        exact num_ok hC hn (by simp) _ (R1.out _ (HB0.out.trans (hC.below.mono HB0.out.size))) (fun _ _ => trivial) rfl
      rw [n1]
      simp only [Act.put, List.setIfInBounds_toArray, List.set_cons_succ, List.set_cons_zero, Nat.reduceAdd]
      refine lex_plain (by rfl) rfl ⟨.agg #[.int .u64 y.E, .int .i64 y.B, .bool y.L, .slice a' y.l.length c'], fun σ w2 hA hD hC => ?_, ?_⟩
      · rw [exec_load 25 (.tmp 3) rfl (w.heap.size + 1) rfl 25 _ _ (HBY.out.keep hC.below) Try.underlying25 rfl (by kernel_rfl)]
        exact ⟨rfl, rfl⟩
      simp only [Act.put, List.setIfInBounds_toArray, List.set_cons_succ, List.set_cons_zero, Nat.reduceAdd]
      refine lex_special (by rfl) rfl (fun σ w2 hA hD hn hC => ?_) ?_
      · go_simp
        exact num_ok hC hn (by simp) _ (R2.out _ (HB0.out.trans (hC.below.mono HB0.out.size))) (fun _ _ => trivial) rfl
      rw [n3]
      simp only [Act.put, List.setIfInBounds_toArray, List.set_cons_succ, List.set_cons_zero, Nat.reduceAdd]
      refine lex_plain (by rfl) rfl ?_
      apply Exists.intro
      refine ⟨fun σ w2 hA hD hC => ?_, ?_⟩
      · clear hA hD hC
        go_simp
        exact And.intro rfl rfl
      simp only [Act.put, List.setIfInBounds_toArray, List.set_cons_succ, List.set_cons_zero, Nat.reduceAdd]
      refine lex_plain (by rfl) rfl ?_
      apply Exists.intro
      refine ⟨fun σ w2 hA hD hC => ?_, ?_⟩
      · clear hA hD hC
        go_simp
        exact And.intro rfl rfl
      simp only [Act.put, List.setIfInBounds_toArray, List.set_cons_succ, List.set_cons_zero, Nat.reduceAdd]
      refine lex_plain (by rfl) rfl ?_
      apply Exists.intro
      refine ⟨fun σ w2 hA hD hC => ?_, ?_⟩
      · have hx := (HBX.out.keep hC.below).cell 1
        simp at hx
        clear hA hD hC
        go_simp
        exact And.intro rfl rfl
      simp only [Act.put, List.setIfInBounds_toArray, List.set_cons_succ, List.set_cons_zero, Nat.reduceAdd]
      refine lex_plain (by rfl) rfl ?_
      apply Exists.intro
      refine ⟨fun σ w2 hA hD hC => ?_, ?_⟩
      · have hx := (HBX.out.keep hC.below).cell 1
        simp at hx
        clear hA hD hC
        go_simp
        exact And.intro rfl rfl
      simp only [Act.put, List.setIfInBounds_toArray, List.set_cons_succ, List.set_cons_zero, Nat.reduceAdd]
      refine lex_plain (by rfl) rfl ?_
      apply Exists.intro
      refine ⟨fun σ w2 hA hD hC => ?_, ?_⟩
      · have hx := (HBY.out.keep hC.below).cell 1
        simp at hx
        clear hA hD hC
        go_simp
        exact And.intro rfl rfl
      simp only [Act.put, List.setIfInBounds_toArray, List.set_cons_succ, List.set_cons_zero, Nat.reduceAdd]
      refine lex_plain (by rfl) rfl ?_
      apply Exists.intro
      refine ⟨fun σ w2 hA hD hC => ?_, ?_⟩
      · have hx := (HBY.out.keep hC.below).cell 1
        simp at hx
        clear hA hD hC
        go_simp
        exact And.intro rfl rfl
      simp only [Act.put, List.setIfInBounds_toArray, List.set_cons_succ, List.set_cons_zero, Nat.reduceAdd]
      refine lex_plain (by rfl) rfl ?_
      apply Exists.intro
      refine ⟨fun σ w2 hA hD hC => ?_, ?_⟩
      · clear hA hD hC
        go_simp
        exact And.intro rfl rfl
      simp only [Act.put, List.setIfInBounds_toArray, List.set_cons_succ, List.set_cons_zero, Nat.reduceAdd]
      refine lex_plain (by rfl) rfl ?_
      apply Exists.intro
      refine ⟨fun σ w2 hA hD hC => ?_, ?_⟩
      · clear hA hD hC
        go_simp
        exact And.intro rfl rfl
      simp only [Act.put, List.setIfInBounds_toArray, List.set_cons_succ, List.set_cons_zero, Nat.reduceAdd]
      refine lex_plain (by rfl) rfl ?_
      apply Exists.intro
      refine ⟨fun σ w2 hA hD hC => ?_, ?_⟩
      · clear hA hD hC
        go_simp
        exact And.intro rfl rfl
      simp only [Act.put, List.setIfInBounds_toArray, List.set_cons_succ, List.set_cons_zero, Nat.reduceAdd]
      refine lex_skip (by rfl) rfl ?_
      simp only [Act.put, List.setIfInBounds_toArray, List.set_cons_succ, List.set_cons_zero, Nat.reduceAdd]
      refine lex_skip (by rfl) rfl ?_
      simp only [Act.put, List.setIfInBounds_toArray, List.set_cons_succ, List.set_cons_zero, Nat.reduceAdd]
      refine lex_skip (by rfl) rfl ?_
      simp only [Act.put, List.setIfInBounds_toArray, List.set_cons_succ, List.set_cons_zero, Nat.reduceAdd]
      refine lex_skip (by rfl) rfl ?_
      simp only [Act.put, List.setIfInBounds_toArray, List.set_cons_succ, List.set_cons_zero, Nat.reduceAdd]
      refine lex_skip (by rfl) rfl ?_
      simp only [Act.put, List.setIfInBounds_toArray, List.set_cons_succ, List.set_cons_zero, Nat.reduceAdd]
      refine lex_plain (by rfl) rfl ?_
      apply Exists.intro
      refine ⟨fun σ w2 hA hD hC => ?_, ?_⟩
      · clear hA hD hC
        go_simp
        exact And.intro rfl rfl
      simp only [Act.put, List.setIfInBounds_toArray, List.set_cons_succ, List.set_cons_zero, Nat.reduceAdd]
      refine lex_plain (by rfl) rfl ?_
      apply Exists.intro
      refine ⟨fun σ w2 hA hD hC => ?_, ?_⟩
      · clear hA hD hC
        go_simp
        exact And.intro rfl rfl
      simp only [Act.put, List.setIfInBounds_toArray, List.set_cons_succ, List.set_cons_zero, Nat.reduceAdd]
      refine lex_nil (fun σ w9 hA hall hC => ?_)
      have HB := Lib.hid (HB0.out.trans (hC.below.mono HB0.out.size))
      clear hA hall hC
      go_wp2
      go_ret
      exact ⟨rfl, HB.out⟩
    | true =>
      rw [hbb, Bool.true_and] at hres
      subst hres
      go_enter Try.func18, Try.ntmps18
      go_wp2_with fail
      generalize (w.alloc (Obj.cells #[.int .u64 x.E, .int .i64 x.B, .bool x.L, .slice a x.l.length c] 25)).alloc (Obj.cells #[.int .u64 y.E, .int .i64 y.B, .bool y.L, .slice a' y.l.length c'] 25) = w1 at *
      refine wp_region_spec (fun i => i == 1 || i == 3 || i == 17) (kinds [(1, .is (.agg (rankV x))), (3, .is (.agg (rankV y))), (17, .is (.bool (decide (x.l = y.l))))]) (CG w1 [] (Fof w1.heap.size [])) (by kernel_rfl) (by kernel_rfl) (kinds_inh _) CG.start ?_
      intro ν hν
      have n1 : ν 1 = (.agg (rankV x)) := hν 1
      have n3 : ν 3 = (.agg (rankV y)) := hν 3
      have n17 : ν 17 = (.bool (decide (x.l = y.l))) := hν 17
      clear hν
      refine lex_plain (by rfl) rfl ⟨.agg #[.int .u64 x.E, .int .i64 x.B, .bool x.L, .slice a x.l.length c], fun σ w2 hA hD hC => ?_, ?_⟩
      · rw [exec_load 25 (.tmp 2) rfl w.heap.size rfl 25 _ _ (HBX.out.keep hC.below) Try.underlying25 rfl (by kernel_rfl)]
        exact ⟨rfl, rfl⟩
      simp only [Act.put, List.setIfInBounds_toArray, List.set_cons_succ, List.set_cons_zero, Nat.reduceAdd]
      refine lex_special (by rfl) rfl (fun σ w2 hA hD hn hC => ?_) ?_
      · go_simp
        exact num_ok hC hn (by simp) _ (R1.out _ (HB0.out.trans (hC.below.mono HB0.out.size))) (fun _ _ => trivial) rfl
      rw [n1]
      simp only [Act.put, List.setIfInBounds_toArray, List.set_cons_succ, List.set_cons_zero, Nat.reduceAdd]
      refine lex_plain (by rfl) rfl ⟨.agg #[.int .u64 y.E, .int .i64 y.B, .bool y.L, .slice a' y.l.length c'], fun σ w2 hA hD hC => ?_, ?_⟩
      · rw [exec_load 25 (.tmp 3) rfl (w.heap.size + 1) rfl 25 _ _ (HBY.out.keep hC.below) Try.underlying25 rfl (by kernel_rfl)]
        exact ⟨rfl, rfl⟩
      simp only [Act.put, List.setIfInBounds_toArray, List.set_cons_succ, List.set_cons_zero, Nat.reduceAdd]
      refine lex_special (by rfl) rfl (fun σ w2 hA hD hn hC => ?_) ?_
      · go_simp
        exact num_ok hC hn (by simp) _ (R2.out _ (HB0.out.trans (hC.below.mono HB0.out.size))) (fun _ _ => trivial) rfl
      rw [n3]
      simp only [Act.put, List.setIfInBounds_toArray, List.set_cons_succ, List.set_cons_zero, Nat.reduceAdd]
      refine lex_plain (by rfl) rfl ?_
      apply Exists.intro
      refine ⟨fun σ w2 hA hD hC => ?_, ?_⟩
      · clear hA hD hC
        go_simp
        exact And.intro rfl rfl
      simp only [Act.put, List.setIfInBounds_toArray, List.set_cons_succ, List.set_cons_zero, Nat.reduceAdd]
      refine lex_plain (by rfl) rfl ?_
      apply Exists.intro
      refine ⟨fun σ w2 hA hD hC => ?_, ?_⟩
      · clear hA hD hC
        go_simp
        exact And.intro rfl rfl
      simp only [Act.put, List.setIfInBounds_toArray, List.set_cons_succ, List.set_cons_zero, Nat.reduceAdd]
      refine lex_plain (by rfl) rfl ?_
      apply Exists.intro
      refine ⟨fun σ w2 hA hD hC => ?_, ?_⟩
      · have hx := (HBX.out.keep hC.below).cell 1
        simp at hx
        clear hA hD hC
        go_simp
        exact And.intro rfl rfl
      simp only [Act.put, List.setIfInBounds_toArray, List.set_cons_succ, List.set_cons_zero, Nat.reduceAdd]
      refine lex_plain (by rfl) rfl ?_
      apply Exists.intro
      refine ⟨fun σ w2 hA hD hC => ?_, ?_⟩
      · have hx := (HBX.out.keep hC.below).cell 1
        simp at hx
        clear hA hD hC
        go_simp
        exact And.intro rfl rfl
      simp only [Act.put, List.setIfInBounds_toArray, List.set_cons_succ, List.set_cons_zero, Nat.reduceAdd]
      refine lex_plain (by rfl) rfl ?_
      apply Exists.intro
      refine ⟨fun σ w2 hA hD hC => ?_, ?_⟩
      · have hx := (HBY.out.keep hC.below).cell 1
        simp at hx
        clear hA hD hC
        go_simp
        exact And.intro rfl rfl
      simp only [Act.put, List.setIfInBounds_toArray, List.set_cons_succ, List.set_cons_zero, Nat.reduceAdd]
      refine lex_plain (by rfl) rfl ?_
      apply Exists.intro
      refine ⟨fun σ w2 hA hD hC => ?_, ?_⟩
      · have hx := (HBY.out.keep hC.below).cell 1
        simp at hx
        clear hA hD hC
        go_simp
        exact And.intro rfl rfl
      simp only [Act.put, List.setIfInBounds_toArray, List.set_cons_succ, List.set_cons_zero, Nat.reduceAdd]
      refine lex_plain (by rfl) rfl ?_
      apply Exists.intro
      refine ⟨fun σ w2 hA hD hC => ?_, ?_⟩
      · clear hA hD hC
        go_simp
        exact And.intro rfl rfl
      simp only [Act.put, List.setIfInBounds_toArray, List.set_cons_succ, List.set_cons_zero, Nat.reduceAdd]
      refine lex_plain (by rfl) rfl ?_
      apply Exists.intro
      refine ⟨fun σ w2 hA hD hC => ?_, ?_⟩
      · clear hA hD hC
        go_simp
        exact And.intro rfl rfl
      simp only [Act.put, List.setIfInBounds_toArray, List.set_cons_succ, List.set_cons_zero, Nat.reduceAdd]
      refine lex_plain (by rfl) rfl ?_
      apply Exists.intro
      refine ⟨fun σ w2 hA hD hC => ?_, ?_⟩
      · clear hA hD hC
        go_simp
        exact And.intro rfl rfl
      simp only [Act.put, List.setIfInBounds_toArray, List.set_cons_succ, List.set_cons_zero, Nat.reduceAdd]
      refine lex_plain (by rfl) rfl ?_
      apply Exists.intro
      refine ⟨fun σ w2 hA hD hC => ?_, ?_⟩
      · have hx := (HBX.out.keep hC.below).cell 3
        simp at hx
        clear hA hD hC
        go_simp
        exact And.intro rfl rfl
      simp only [Act.put, List.setIfInBounds_toArray, List.set_cons_succ, List.set_cons_zero, Nat.reduceAdd]
      refine lex_plain (by rfl) rfl ?_
      apply Exists.intro
      refine ⟨fun σ w2 hA hD hC => ?_, ?_⟩
      · have hx := (HBX.out.keep hC.below).cell 3
        simp at hx
        clear hA hD hC
        go_simp
        exact And.intro rfl rfl
      simp only [Act.put, List.setIfInBounds_toArray, List.set_cons_succ, List.set_cons_zero, Nat.reduceAdd]
      refine lex_plain (by rfl) rfl ?_
      apply Exists.intro
      refine ⟨fun σ w2 hA hD hC => ?_, ?_⟩
      · have hx := (HBY.out.keep hC.below).cell 3
        simp at hx
        clear hA hD hC
        go_simp
        exact And.intro rfl rfl
      simp only [Act.put, List.setIfInBounds_toArray, List.set_cons_succ, List.set_cons_zero, Nat.reduceAdd]
      refine lex_plain (by rfl) rfl ?_
      apply Exists.intro
      refine ⟨fun σ w2 hA hD hC => ?_, ?_⟩
      · have hx := (HBY.out.keep hC.below).cell 3
        simp at hx
        clear hA hD hC
        go_simp
        exact And.intro rfl rfl
      simp only [Act.put, List.setIfInBounds_toArray, List.set_cons_succ, List.set_cons_zero, Nat.reduceAdd]
      refine lex_special (by rfl) rfl (fun σ w2 hA hD hn hC => ?_) ?_
      · go_simp
        exact num_ok hC hn (by simp) _ (EQ.out _ (HB0.out.trans (hC.below.mono HB0.out.size))) (fun _ _ => trivial) rfl
      rw [n17]
      simp only [Act.put, List.setIfInBounds_toArray, List.set_cons_succ, List.set_cons_zero, Nat.reduceAdd]
      refine lex_plain (by rfl) rfl ?_
      apply Exists.intro
      refine ⟨fun σ w2 hA hD hC => ?_, ?_⟩
      · clear hA hD hC
        go_simp
        exact And.intro rfl rfl
      simp only [Act.put, List.setIfInBounds_toArray, List.set_cons_succ, List.set_cons_zero, Nat.reduceAdd]
      refine lex_plain (by rfl) rfl ?_
      apply Exists.intro
      refine ⟨fun σ w2 hA hD hC => ?_, ?_⟩
      · clear hA hD hC
        go_simp
        exact And.intro rfl rfl
      simp only [Act.put, List.setIfInBounds_toArray, List.set_cons_succ, List.set_cons_zero, Nat.reduceAdd]
      refine lex_nil (fun σ w9 hA hall hC => ?_)
      have HB := Lib.hid (HB0.out.trans (hC.below.mono HB0.out.size))
      clear hA hall hC
      go_wp2
      go_ret
      exact ⟨rfl, HB.out⟩
end Go.Proofs.Ytfkgidljgbhccaa
