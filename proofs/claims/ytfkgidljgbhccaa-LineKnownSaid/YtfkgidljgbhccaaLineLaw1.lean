/-
  LineMerges, LineStays, WALKED.
-/
import Derived.Test.YtfkgidljgbhccaaLineWorks
namespace Go.Proofs.Ytfkgidljgbhccaa
open Go.RowKit Reg

theorem line_ok {w0 w : World} {vs : List Vr} {L : List (Nat × Fk)} {σ : Nat → Option Value} {k : Nat} {p : Value → Prop} {f : FuncId} {args : Array Value} (h : CG w0 vs (Fof w0.heap.size L) σ w) (h0 : σ k = none) (hn : ∀ v ∈ vs, k ≠ v.al ∧ k ≠ v.st) (z : Ln)
    (hc : Calls Try.prog f args w fun e w' => ∃ u, e = .returned u ∧ OwL w' w.heap.size u z ∧ Below w.heap.size w w')
    (hF : ∀ w u, OwL w w0.heap.size u z → Fof w0.heap.size L k w u) (hp : ∀ a c, p (.agg #[.int .u64 z.E, .int .i64 z.B, .bool z.L, .slice a z.l.length c])) :
    SpecialOK Try.prog p (fun u => CG w0 vs (Fof w0.heap.size L) (upd σ k u)) (.ok (.enter f args) w) := by
  refine h.call_ok h0 hn (hc.mono ?_)
  rintro e w' ⟨u, rfl, hu, hb⟩
  have hu2 := hu
  obtain ⟨sl, rfl, h1, -, -⟩ := hu2
  obtain ⟨a, c, rfl, -, -⟩ := h1.rd.open_
  exact ⟨_, rfl, hp a c, hb, fun w'' ho => hF _ _ ((hu.out fun b hbb hl => ho b hl fun hA => by have := (h.laid_lt hA).2; omega).mono h.below.size)⟩
set_option maxRecDepth 100000 in
set_option maxHeartbeats 1000000 in
theorem law_LineStays (v : Value) (gs : List Gd) (v' : Value) (x : Ln) (w : World) (hv : InG w v gs) (_ : gs.length ≤ 2 ^ 43) (hv' : InL w v' x) (_ : x.l.length ≤ 2 ^ 43) :
    Calls Try.prog 4 #[v, v'] w fun e w' => e = .returned (.bool true) ∧ Below w.heap.size w w' := by
  obtain ⟨sl, rfl, hs, -, -⟩ := hv'
  obtain ⟨E, B, L, hl⟩ := x
  simp only at hs ⊢
  obtain ⟨a, c, rfl, -, -⟩ := hs.open_
  obtain ⟨p, q, rfl, -, -⟩ := hv.open_
  have hb0 := (Below.refl w.heap.size w).alloc (Nat.le_refl _) (Obj.cells #[.int .u64 E, .int .i64 B, .bool L, .slice a hl.length c] 25)
  have hb1 := Blk.new w 25 #[.int .u64 E, .int .i64 B, .bool L, .slice a hl.length c]
  have hg := hv.keep hb0
  have hh := hs.keep hb0
  have HB0 := Lib.hid hb0
  have HBL := Lib.hid hb1
  have HG := Lib.hid hg
  have HH := Lib.hid hh
  clear hb0 hb1 hg hh hv hs
  go_enter Try.func4, Try.ntmps4
  go_wp2_with fail
  generalize w.alloc (Obj.cells #[.int .u64 E, .int .i64 B, .bool L, .slice a hl.length c] 25) = w1 at *
  obtain ⟨M, hM⟩ : ∃ M : Int, M = (comm gs hl : Int) := ⟨_, rfl⟩
  obtain ⟨S, hS⟩ : ∃ S : Int, S = (stays gs E hl : Int) := ⟨_, rfl⟩
  have c1 : ∀ w2, Below w1.heap.size w1 w2 → Calls Try.prog 14 #[.slice p gs.length q, .agg #[.int .u64 E, .int .i64 B, .bool L, .slice a hl.length c]] w2 fun e w' => e = .returned (.int .i64 M) ∧ Below w2.heap.size w2 w' := fun w2 hb => hM ▸ common_any _ gs E B L _ hl w2 (HG.out.keep hb) (HH.out.keep hb)
  have c2 : ∀ w2, Below w1.heap.size w1 w2 → Calls Try.prog 15 #[.slice p gs.length q, .agg #[.int .u64 E, .int .i64 B, .bool L, .slice a hl.length c]] w2 fun e w' => e = .returned (.int .i64 M) ∧ Below w2.heap.size w2 w' := fun w2 hb => hM ▸ commonR_any _ gs E B L _ hl w2 (HG.out.keep hb) (HH.out.keep hb)
  have c3 : ∀ w2, Below w1.heap.size w1 w2 → Calls Try.prog 16 #[.slice p gs.length q, .agg #[.int .u64 E, .int .i64 B, .bool L, .slice a hl.length c]] w2 fun e w' => e = .returned (.int .i64 S) ∧ Below w2.heap.size w2 w' := fun w2 hb => hS ▸ stays_any _ gs E B L _ hl w2 (HG.out.keep hb) (HH.out.keep hb)
  have c4 : ∀ w2, Below w1.heap.size w1 w2 → Calls Try.prog 17 #[.slice p gs.length q, .agg #[.int .u64 E, .int .i64 B, .bool L, .slice a hl.length c]] w2 fun e w' => e = .returned (.int .i64 S) ∧ Below w2.heap.size w2 w' := fun w2 hb => hS ▸ staysR_any _ gs E B L _ hl w2 (HG.out.keep hb) (HH.out.keep hb)
  have C1 := Lib.hid c1
  have C2 := Lib.hid c2
  have C3 := Lib.hid c3
  have C4 := Lib.hid c4
  clear c1 c2 c3 c4 hM hS HG HH
  generalize gs.length = n at *
  generalize hl.length = m at *
  refine wp_region_spec (fun i => i == 2 || i == 5 || i == 10 || i == 13 || i == 17) (kinds [(2, .is (.int .i64 M)), (5, .is (.int .i64 M)), (10, .is (.int .i64 S)), (13, .is (.int .i64 S)), (17, .is (.bool true))]) (CG w1 [] (Fof w1.heap.size [])) (by kernel_rfl) (by kernel_rfl) (kinds_inh _) CG.start ?_
  intro ν hν
  have n2 : ν 2 = (.int .i64 M) := hν 2
  have n5 : ν 5 = (.int .i64 M) := hν 5
  have n10 : ν 10 = (.int .i64 S) := hν 10
  have n13 : ν 13 = (.int .i64 S) := hν 13
  have n17 : ν 17 = (.bool true) := hν 17
  clear hν
  refine lex_plain (by rfl) rfl ?_
  apply Exists.intro
  refine ⟨fun σ w2 hA hD hC => ?_, ?_⟩
  · clear hA hD hC
    go_simp
    exact And.intro rfl rfl
  simp only [Act.put, List.setIfInBounds_toArray, List.set_cons_succ, List.set_cons_zero, Nat.reduceAdd]
  refine lex_plain (by rfl) rfl ⟨.agg #[.int .u64 E, .int .i64 B, .bool L, .slice a m c], fun σ w2 hA hD hC => ?_, ?_⟩
  · rw [exec_load 25 (.tmp 3) rfl w.heap.size rfl 25 _ _ (HBL.out.keep hC.below) Try.underlying25 rfl (by kernel_rfl)]
    exact ⟨rfl, rfl⟩
  simp only [Act.put, List.setIfInBounds_toArray, List.set_cons_succ, List.set_cons_zero, Nat.reduceAdd]
  refine lex_special (by rfl) rfl (fun σ w2 hA hD hn hC => ?_) ?_
  · go_simp
    exact num_ok hC hn (by simp) _ (C1.out _ hC.below) (fun _ _ => trivial) rfl
  rw [n2]
  simp only [Act.put, List.setIfInBounds_toArray, List.set_cons_succ, List.set_cons_zero, Nat.reduceAdd]
  refine lex_plain (by rfl) rfl ?_
  apply Exists.intro
  refine ⟨fun σ w2 hA hD hC => ?_, ?_⟩
  · clear hA hD hC
    go_simp
    exact And.intro rfl rfl
  simp only [Act.put, List.setIfInBounds_toArray, List.set_cons_succ, List.set_cons_zero, Nat.reduceAdd]
  refine lex_plain (by rfl) rfl ⟨.agg #[.int .u64 E, .int .i64 B, .bool L, .slice a m c], fun σ w2 hA hD hC => ?_, ?_⟩
  · rw [exec_load 25 (.tmp 3) rfl w.heap.size rfl 25 _ _ (HBL.out.keep hC.below) Try.underlying25 rfl (by kernel_rfl)]
    exact ⟨rfl, rfl⟩
  simp only [Act.put, List.setIfInBounds_toArray, List.set_cons_succ, List.set_cons_zero, Nat.reduceAdd]
  refine lex_special (by rfl) rfl (fun σ w2 hA hD hn hC => ?_) ?_
  · go_simp
    exact num_ok hC hn (by simp) _ (C2.out _ hC.below) (fun _ _ => trivial) rfl
  rw [n5]
  simp only [Act.put, List.setIfInBounds_toArray, List.set_cons_succ, List.set_cons_zero, Nat.reduceAdd]
  refine lex_plain (by rfl) rfl ?_
  apply Exists.intro
  refine ⟨fun σ w2 hA hD hC => ?_, ?_⟩
  · clear hA hD hC
    go_simp
    exact And.intro rfl rfl
  simp only [Act.put, List.setIfInBounds_toArray, List.set_cons_succ, List.set_cons_zero, Nat.reduceAdd]
  refine lex_plain (by rfl) rfl ?_
  apply Exists.intro
  refine ⟨fun σ w2 hA hD hC => ?_, ?_⟩
  · clear hA hD hC
    go_simp
    exact And.intro rfl rfl
  simp only [Act.put, List.setIfInBounds_toArray, List.set_cons_succ, List.set_cons_zero, Nat.reduceAdd]
  refine lex_plain (by rfl) rfl ?_
  apply Exists.intro
  refine ⟨fun σ w2 hA hD hC => ?_, ?_⟩
  · clear hA hD hC
    go_simp
    exact And.intro rfl rfl
  simp only [Act.put, List.setIfInBounds_toArray, List.set_cons_succ, List.set_cons_zero, Nat.reduceAdd]
  refine lex_plain (by rfl) rfl ⟨.agg #[.int .u64 E, .int .i64 B, .bool L, .slice a m c], fun σ w2 hA hD hC => ?_, ?_⟩
  · rw [exec_load 25 (.tmp 3) rfl w.heap.size rfl 25 _ _ (HBL.out.keep hC.below) Try.underlying25 rfl (by kernel_rfl)]
    exact ⟨rfl, rfl⟩
  simp only [Act.put, List.setIfInBounds_toArray, List.set_cons_succ, List.set_cons_zero, Nat.reduceAdd]
  refine lex_special (by rfl) rfl (fun σ w2 hA hD hn hC => ?_) ?_
  · go_simp
    exact num_ok hC hn (by simp) _ (C3.out _ hC.below) (fun _ _ => trivial) rfl
  rw [n10]
  simp only [Act.put, List.setIfInBounds_toArray, List.set_cons_succ, List.set_cons_zero, Nat.reduceAdd]
  refine lex_plain (by rfl) rfl ?_
  apply Exists.intro
  refine ⟨fun σ w2 hA hD hC => ?_, ?_⟩
  · clear hA hD hC
    go_simp
    exact And.intro rfl rfl
  simp only [Act.put, List.setIfInBounds_toArray, List.set_cons_succ, List.set_cons_zero, Nat.reduceAdd]
  refine lex_plain (by rfl) rfl ⟨.agg #[.int .u64 E, .int .i64 B, .bool L, .slice a m c], fun σ w2 hA hD hC => ?_, ?_⟩
  · rw [exec_load 25 (.tmp 3) rfl w.heap.size rfl 25 _ _ (HBL.out.keep hC.below) Try.underlying25 rfl (by kernel_rfl)]
    exact ⟨rfl, rfl⟩
  simp only [Act.put, List.setIfInBounds_toArray, List.set_cons_succ, List.set_cons_zero, Nat.reduceAdd]
  refine lex_special (by rfl) rfl (fun σ w2 hA hD hn hC => ?_) ?_
  · go_simp
    exact num_ok hC hn (by simp) _ (C4.out _ hC.below) (fun _ _ => trivial) rfl
  rw [n13]
  simp only [Act.put, List.setIfInBounds_toArray, List.set_cons_succ, List.set_cons_zero, Nat.reduceAdd]
  refine lex_plain (by rfl) rfl ?_
  apply Exists.intro
  refine ⟨fun σ w2 hA hD hC => ?_, ?_⟩
  · clear hA hD hC
    go_simp
    exact And.intro rfl rfl
  simp only [Act.put, List.setIfInBounds_toArray, List.set_cons_succ, List.set_cons_zero, Nat.reduceAdd]
  refine lex_plain (by rfl) rfl ?_
  apply Exists.intro
  refine ⟨fun σ w2 hA hD hC => ?_, ?_⟩
  · clear hA hD hC
    go_simp
    exact And.intro rfl rfl
  simp only [Act.put, List.setIfInBounds_toArray, List.set_cons_succ, List.set_cons_zero, Nat.reduceAdd]
  refine lex_plain (by rfl) rfl ?_
  apply Exists.intro
  refine ⟨fun σ w2 hA hD hC => ?_, ?_⟩
  · clear hA hD hC
    go_simp
    exact And.intro rfl rfl
  simp only [Act.put, List.setIfInBounds_toArray, List.set_cons_succ, List.set_cons_zero, Nat.reduceAdd]
  refine lex_special (by rfl) rfl (fun σ w2 hA hD hn hC => ?_) ?_
  · go_simp
    exact num_ok hC hn (by simp) _ (works_any _) (fun _ _ => trivial) rfl
  rw [n17]
  simp only [Act.put, List.setIfInBounds_toArray, List.set_cons_succ, List.set_cons_zero, Nat.reduceAdd]
  refine lex_plain (by rfl) rfl ?_
  apply Exists.intro
  refine ⟨fun σ w2 hA hD hC => ?_, ?_⟩
  · clear hA hD hC
    go_simp
    exact And.intro rfl rfl
  simp only [Act.put, List.setIfInBounds_toArray, List.set_cons_succ, List.set_cons_zero, Nat.reduceAdd]
  refine lex_plain (by rfl) rfl ?_
  apply Exists.intro
  refine ⟨fun σ w2 hA hD hC => ?_, ?_⟩
  · clear hA hD hC
    go_simp
    exact And.intro rfl rfl
  simp only [Act.put, List.setIfInBounds_toArray, List.set_cons_succ, List.set_cons_zero, Nat.reduceAdd]
  refine lex_nil (fun σ w9 hA hall hC => ?_)
  have HB := Lib.hid (HB0.out.trans (hC.below.mono HB0.out.size))
  clear hA hall hC
  go_wp2
  go_ret
  exact ⟨rfl, HB.out⟩
set_option maxRecDepth 100000 in
set_option maxHeartbeats 1000000 in
theorem law_LineMerges (v : Value) (x : Ln) (v' : Value) (y : Ln) (w : World) (hv : InL w v x) (l1 : x.l.length ≤ 2 ^ 43) (hv' : InL w v' y) (l2 : y.l.length ≤ 2 ^ 43) :
    Calls Try.prog 3 #[v, v'] w fun e w' => e = .returned (.bool true) ∧ Below w.heap.size w w' := by
  have hva := hv
  have hva' := hv'
  obtain ⟨sl, rfl, hs, -, -⟩ := hv
  obtain ⟨sl', rfl, hs', -, -⟩ := hv'
  obtain ⟨a, c, rfl, -, -⟩ := hs.open_
  obtain ⟨a', c', rfl, -, -⟩ := hs'.open_
  have hb0 := ((Below.refl w.heap.size w).alloc (Nat.le_refl _) (Obj.cells #[.int .u64 x.E, .int .i64 x.B, .bool x.L, .slice a x.l.length c] 25)).alloc (by simp) (Obj.cells #[.int .u64 y.E, .int .i64 y.B, .bool y.L, .slice a' y.l.length c'] 25)
  have hb1 := (Blk.new w 25 #[.int .u64 x.E, .int .i64 x.B, .bool x.L, .slice a x.l.length c]).alloc (Obj.cells #[.int .u64 y.E, .int .i64 y.B, .bool y.L, .slice a' y.l.length c'] 25)
  have hb2 := Blk.newAt (w := w.alloc (Obj.cells #[.int .u64 x.E, .int .i64 x.B, .bool x.L, .slice a x.l.length c] 25)) 25 #[.int .u64 y.E, .int .i64 y.B, .bool y.L, .slice a' y.l.length c'] (g := w.heap.size + 1) (by simp)
  have hx := hva.keep hb0
  have hy := hva'.keep hb0
  obtain ⟨z, hz⟩ : ∃ z, z = (if further y x = true then y else x) := ⟨_, rfl⟩
  have hm1 := fun w2 hb => merge_any _ _ x y w2 (hx.keep (w' := w2) hb) (hy.keep hb) l1 l2
  have hm2 := fun w2 hb => mergeR_any _ _ x y w2 (hx.keep (w' := w2) hb) (hy.keep hb) l1 l2
  rw [← hz] at hm1 hm2
  have HB0 := Lib.hid hb0
  have HBX := Lib.hid hb1
  have HBY := Lib.hid hb2
  have M1 := Lib.hid hm1
  have M2 := Lib.hid hm2
  clear hb0 hb1 hb2 hx hy hm1 hm2 hz hva hva' hs hs'
  go_enter Try.func3, Try.ntmps3
  go_wp2_with fail
  generalize (w.alloc (Obj.cells #[.int .u64 x.E, .int .i64 x.B, .bool x.L, .slice a x.l.length c] 25)).alloc (Obj.cells #[.int .u64 y.E, .int .i64 y.B, .bool y.L, .slice a' y.l.length c'] 25) = w1 at *
  refine wp_region_spec (fun i => i == 2 || i == 5 || i == 6 || i == 8) (kinds [(2, .ln z.E z.B z.L z.l.length), (5, .ln z.E z.B z.L z.l.length), (6, .is (.bool true)), (8, .is (.bool true))]) (CG w1 [] (Fof w1.heap.size [(2, .l z), (5, .l z)])) (by kernel_rfl) (by kernel_rfl) (kinds_inh _) CG.start ?_
  intro ν hν
  obtain ⟨a2, c2, n2⟩ : ∃ a c, ν 2 = .agg #[.int .u64 z.E, .int .i64 z.B, .bool z.L, .slice a z.l.length c] := hν 2
  obtain ⟨a5, c5, n5⟩ : ∃ a c, ν 5 = .agg #[.int .u64 z.E, .int .i64 z.B, .bool z.L, .slice a z.l.length c] := hν 5
  have n6 : ν 6 = (.bool true) := hν 6
  have n8 : ν 8 = (.bool true) := hν 8
  clear hν
  refine lex_plain (by rfl) rfl ⟨.agg #[.int .u64 x.E, .int .i64 x.B, .bool x.L, .slice a x.l.length c], fun σ w2 hA hD hC => ?_, ?_⟩
  · rw [exec_load 25 (.tmp 2) rfl w.heap.size rfl 25 _ _ (HBX.out.keep hC.below) Try.underlying25 rfl (by kernel_rfl)]
    exact ⟨rfl, rfl⟩
  simp only [Act.put, List.setIfInBounds_toArray, List.set_cons_succ, List.set_cons_zero, Nat.reduceAdd]
  refine lex_plain (by rfl) rfl ⟨.agg #[.int .u64 y.E, .int .i64 y.B, .bool y.L, .slice a' y.l.length c'], fun σ w2 hA hD hC => ?_, ?_⟩
  · rw [exec_load 25 (.tmp 3) rfl (w.heap.size + 1) rfl 25 _ _ (HBY.out.keep hC.below) Try.underlying25 rfl (by kernel_rfl)]
    exact ⟨rfl, rfl⟩
  simp only [Act.put, List.setIfInBounds_toArray, List.set_cons_succ, List.set_cons_zero, Nat.reduceAdd]
  refine lex_special (by rfl) rfl (fun σ w2 hA hD hn hC => ?_) ?_
  · go_simp
    exact line_ok hC hn (by simp) z (M1.out _ hC.below) (fun _ _ h => h) (fun a c => ⟨a, c, rfl⟩)
  rw [n2]
  simp only [Act.put, List.setIfInBounds_toArray, List.set_cons_succ, List.set_cons_zero, Nat.reduceAdd]
  refine lex_plain (by rfl) rfl ⟨.agg #[.int .u64 x.E, .int .i64 x.B, .bool x.L, .slice a x.l.length c], fun σ w2 hA hD hC => ?_, ?_⟩
  · rw [exec_load 25 (.tmp 2) rfl w.heap.size rfl 25 _ _ (HBX.out.keep hC.below) Try.underlying25 rfl (by kernel_rfl)]
    exact ⟨rfl, rfl⟩
  simp only [Act.put, List.setIfInBounds_toArray, List.set_cons_succ, List.set_cons_zero, Nat.reduceAdd]
  refine lex_plain (by rfl) rfl ⟨.agg #[.int .u64 y.E, .int .i64 y.B, .bool y.L, .slice a' y.l.length c'], fun σ w2 hA hD hC => ?_, ?_⟩
  · rw [exec_load 25 (.tmp 3) rfl (w.heap.size + 1) rfl 25 _ _ (HBY.out.keep hC.below) Try.underlying25 rfl (by kernel_rfl)]
    exact ⟨rfl, rfl⟩
  simp only [Act.put, List.setIfInBounds_toArray, List.set_cons_succ, List.set_cons_zero, Nat.reduceAdd]
  refine lex_special (by rfl) rfl (fun σ w2 hA hD hn hC => ?_) ?_
  · go_simp
    exact line_ok hC hn (by simp) z (M2.out _ hC.below) (fun _ _ h => h) (fun a c => ⟨a, c, rfl⟩)
  rw [n5]
  simp only [Act.put, List.setIfInBounds_toArray, List.set_cons_succ, List.set_cons_zero, Nat.reduceAdd]
  refine lex_special (by rfl) rfl (fun σ w2 hA hD hn hC => ?_) ?_
  · have e2 := got1 hA hD 2 rfl (by kernel_rfl)
    have e5 := got1 hA hD 5 rfl (by kernel_rfl)
    rw [n2] at e2
    rw [n5] at e5
    have f2 : OwL w2 w1.heap.size _ z := hC.fact e2 (by simp)
    have f5 : OwL w2 w1.heap.size _ z := hC.fact e5 (by simp)
    go_simp
    exact num_ok hC hn (by simp) _ (sameR_true _ _ z _ f2.rd f5.rd) (fun _ _ => trivial) rfl
  rw [n6]
  simp only [Act.put, List.setIfInBounds_toArray, List.set_cons_succ, List.set_cons_zero, Nat.reduceAdd]
  refine lex_plain (by rfl) rfl ?_
  apply Exists.intro
  refine ⟨fun σ w2 hA hD hC => ?_, ?_⟩
  · clear hA hD hC
    go_simp
    exact And.intro rfl rfl
  simp only [Act.put, List.setIfInBounds_toArray, List.set_cons_succ, List.set_cons_zero, Nat.reduceAdd]
  refine lex_special (by rfl) rfl (fun σ w2 hA hD hn hC => ?_) ?_
  · go_simp
    exact num_ok hC hn (by simp) _ (works_any _) (fun _ _ => trivial) rfl
  rw [n8]
  simp only [Act.put, List.setIfInBounds_toArray, List.set_cons_succ, List.set_cons_zero, Nat.reduceAdd]
  refine lex_plain (by rfl) rfl ?_
  apply Exists.intro
  refine ⟨fun σ w2 hA hD hC => ?_, ?_⟩
  · clear hA hD hC
    go_simp
    exact And.intro rfl rfl
  simp only [Act.put, List.setIfInBounds_toArray, List.set_cons_succ, List.set_cons_zero, Nat.reduceAdd]
  refine lex_plain (by rfl) rfl ?_
  apply Exists.intro
  refine ⟨fun σ w2 hA hD hC => ?_, ?_⟩
  · clear hA hD hC
    go_simp
    exact And.intro rfl rfl
  simp only [Act.put, List.setIfInBounds_toArray, List.set_cons_succ, List.set_cons_zero, Nat.reduceAdd]
  refine lex_nil (fun σ w9 hA hall hC => ?_)
  have HB := Lib.hid (HB0.out.trans (hC.below.mono HB0.out.size))
  clear hA hall hC
  go_wp2
  go_ret
  exact ⟨rfl, HB.out⟩
end Go.Proofs.Ytfkgidljgbhccaa
