/-
  THE FURTHER ONE OF TWO LINES, walked.
-/
import Derived.Test.YtfkgidljgbhccaaLineRank
import Derived.Test.YtfkgidljgbhccaaGrow
namespace Go.Proofs.Ytfkgidljgbhccaa
open Go.RowKit Reg

theorem lineC_one (E B : Int) (L : Bool) (a : Option Addr) (n c : Nat) : (#[Value.int .u64 E, .int .i64 B, .bool L, .slice a n c] : Array Value).all (fun x => x.oneCell') = true := by
  simp
  exact ⟨rfl, rfl, rfl, rfl⟩
theorem OwG.above {w w' : World} {base : Nat} {v : Value} {gs : List Gd} (h : OwG w base v gs) (hh : ∀ b, base ≤ b → w'.heap[b]? = w.heap[b]?) : OwG w' base v gs := by
  refine ⟨⟨h.1.1, ?_⟩, h.2⟩
  rcases h.1.2 with hn | ⟨g, cap, cur, rfl, hg, hh2, rest⟩
  · exact .inl hn
  · exact .inr ⟨g, cap, cur, rfl, hg, (hh g hg).trans hh2, rest⟩
theorem OwG.mono {w : World} {base base' : Nat} {v : Value} {gs : List Gd} (h : OwG w base v gs) (hb : base' ≤ base) : OwG w base' v gs := by
  refine ⟨⟨h.1.1, ?_⟩, h.2⟩
  rcases h.1.2 with hn | ⟨g, cap, cur, rfl, hg, rest⟩
  · exact .inl hn
  · exact .inr ⟨g, cap, cur, rfl, Nat.le_trans hb hg, rest⟩
/-- a line whose list lies in memory from block 'base' on -/
def OwL (w : World) (base : Nat) (v : Value) (x : Ln) : Prop := ∃ sl, v = .agg #[.int .u64 x.E, .int .i64 x.B, .bool x.L, sl] ∧ OwG w base sl x.l ∧ (Lit.int .u64 x.E).wf = true ∧ (Lit.int .i64 x.B).wf = true
theorem OwL.rd {w : World} {base : Nat} {v : Value} {x : Ln} (h : OwL w base v x) : InL w v x := by
  obtain ⟨sl, h1, h2, h3⟩ := h
  exact ⟨sl, h1, h2.rd, h3⟩
theorem OwL.above {w w' : World} {base : Nat} {v : Value} {x : Ln} (h : OwL w base v x) (hh : ∀ b, base ≤ b → w'.heap[b]? = w.heap[b]?) : OwL w' base v x := by
  obtain ⟨sl, h1, h2, h3⟩ := h
  exact ⟨sl, h1, h2.above hh, h3⟩
theorem OwL.keep {w w' : World} {base : Nat} {v : Value} {x : Ln} (h : OwL w base v x) (hb : Below w.heap.size w w') : OwL w' base v x := by
  obtain ⟨sl, h1, h2, h3⟩ := h
  exact ⟨sl, h1, h2.keep hb, h3⟩
def zero3 : Array Value := #[.int .u64 0, .int .u64 0, .int .u64 0]
def mvs : List Vr := [⟨4, 6, 41, zero3, none, 1⟩, ⟨5, 7, 41, zero3, none, 3⟩]
theorem mfine : Fine mvs := by
  refine ⟨by decide, ?_, ?_, by decide⟩
  all_goals
    intro v hv v' hv' e
    simp only [mvs, List.mem_cons, List.not_mem_nil, or_false] at hv hv'
    rcases hv with rfl | rfl <;> rcases hv' with rfl | rfl <;> first | rfl | (simp at e)
def mkd (x y : Ln) : List (Nat × Kd) := [(1, .is (.agg (rankV x))), (3, .is (.agg (rankV y))), (4, .pt), (5, .pt), (6, .is undef), (7, .is undef)]
set_option maxRecDepth 100000 in
set_option maxHeartbeats 2000000 in
theorem merge_any (v v' : Value) (x y : Ln) (w : World) (hv : InL w v x) (hv' : InL w v' y) (l1 : x.l.length ≤ 2 ^ 43) (l2 : y.l.length ≤ 2 ^ 43) :
    Calls Try.prog 11 #[v, v'] w fun e w' => ∃ u, e = .returned u ∧ OwL w' w.heap.size u (if further y x = true then y else x) ∧ Below w.heap.size w w' := by
  have hr1 := fun w1 hb => rank_any v x w1 (hv.keep (w' := w1) hb)
  have hr2 := fun w1 hb => rank_any v' y w1 (hv'.keep (w' := w1) hb)
  obtain ⟨sl, rfl, hs, hE, hB⟩ := hv
  obtain ⟨sl', rfl, hs', hE', hB'⟩ := hv'
  obtain ⟨z, hz⟩ : ∃ z, z = (if further y x = true then y else x) := ⟨_, rfl⟩
  rw [← hz]
  have HZ := Lib.hid hz
  clear hz
  have HR1 := Lib.hid hr1
  have HR2 := Lib.hid hr2
  have HS := Lib.hid hs
  have HS' := Lib.hid hs'
  clear hr1 hr2 hs hs'
  go_enter Try.func11, Try.ntmps11
  go_wp2_with fail
  have hb1 := (((Below.refl w.heap.size w).alloc (Nat.le_refl _) (Obj.cells #[.int .u64 x.E, .int .i64 x.B, .bool x.L, sl] 25)).alloc (by simp) (Obj.cells #[.int .u64 y.E, .int .i64 y.B, .bool y.L, sl'] 25)).alloc (by simp; omega) (Obj.cells #[.int .u64 0, .int .i64 0, .bool false, .slice none 0 0] 25)
  have b1 := ((Blk.new w 25 #[.int .u64 x.E, .int .i64 x.B, .bool x.L, sl]).alloc (Obj.cells #[.int .u64 y.E, .int .i64 y.B, .bool y.L, sl'] 25)).alloc (Obj.cells #[.int .u64 0, .int .i64 0, .bool false, .slice none 0 0] 25)
  have b2 := (Blk.newAt (w := w.alloc (Obj.cells #[.int .u64 x.E, .int .i64 x.B, .bool x.L, sl] 25)) 25 #[.int .u64 y.E, .int .i64 y.B, .bool y.L, sl'] (g := w.heap.size + 1) (by simp)).alloc (Obj.cells #[.int .u64 0, .int .i64 0, .bool false, .slice none 0 0] 25)
  have b3 := Blk.newAt (w := (w.alloc (Obj.cells #[.int .u64 x.E, .int .i64 x.B, .bool x.L, sl] 25)).alloc (Obj.cells #[.int .u64 y.E, .int .i64 y.B, .bool y.L, sl'] 25)) 25 #[.int .u64 0, .int .i64 0, .bool false, .slice none 0 0] (g := w.heap.size + 1 + 1) (by simp)
  generalize ((w.alloc (Obj.cells #[.int .u64 x.E, .int .i64 x.B, .bool x.L, sl] 25)).alloc (Obj.cells #[.int .u64 y.E, .int .i64 y.B, .bool y.L, sl'] 25)).alloc (Obj.cells #[.int .u64 0, .int .i64 0, .bool false, .slice none 0 0] 25) = w2 at *
  have H1 := Lib.hid b1
  have H2 := Lib.hid b2
  have H3 := Lib.hid b3
  have HB := Lib.hid hb1
  clear b1 b2 b3 hb1
  obtain ⟨q1, hq1⟩ : ∃ q, q = w.heap.size + 1 := ⟨_, rfl⟩
  obtain ⟨q2, hq2⟩ : ∃ q, q = w.heap.size + 1 + 1 := ⟨_, rfl⟩
  rw [← hq2] at H3
  rw [← hq1] at H2
  rw [← hq2, ← hq1]
  have HQ := Lib.hid (And.intro hq1 hq2)
  clear hq1 hq2
  refine wp_region_spec (fun i => i == 1 || i == 3 || decide (4 ≤ i)) (kinds (mkd x y)) (CG w2 mvs (fun _ _ _ => True)) (by kernel_rfl) (by kernel_rfl) (kinds_inh _) CG.start ?_
  intro ν hν
  have n1 : ν 1 = .agg (rankV x) := hν 1
  have n3 : ν 3 = .agg (rankV y) := hν 3
  obtain ⟨g4, n4⟩ : ∃ g, ν 4 = ptr g := hν 4
  obtain ⟨g5, n5⟩ : ∃ g, ν 5 = ptr g := hν 5
  have n6 : ν 6 = undef := hν 6
  have n7 : ν 7 = undef := hν 7
  refine lex_plain (by rfl) rfl ⟨.agg #[.int .u64 x.E, .int .i64 x.B, .bool x.L, sl], fun σ w1 hA hD hC => ?_, ?_⟩
  · rw [exec_load 25 (.tmp 2) rfl w.heap.size rfl 25 _ _ (H1.out.keep hC.below) Try.underlying25 rfl (by kernel_rfl)]
    exact ⟨rfl, rfl⟩
  simp only [Act.put, List.setIfInBounds_toArray, List.set_cons_succ, List.set_cons_zero, Nat.reduceAdd]
  refine lex_special (by rfl) rfl (fun σ w1 hA hD hn hC => ?_) ?_
  · go_simp
    refine hC.call_ok hn (by simp [mvs]) ((HR1.out w1 (HB.out.trans (hC.below.mono HB.out.size))).mono ?_)
    rintro e w3 ⟨rfl, hb⟩
    exact ⟨_, rfl, rfl, hb, fun _ _ => trivial⟩
  rw [n1]
  simp only [Act.put, List.setIfInBounds_toArray, List.set_cons_succ, List.set_cons_zero, Nat.reduceAdd]
  refine lex_plain (by rfl) rfl ⟨.agg #[.int .u64 y.E, .int .i64 y.B, .bool y.L, sl'], fun σ w1 hA hD hC => ?_, ?_⟩
  · rw [exec_load 25 (.tmp 3) rfl q1 rfl 25 _ _ (H2.out.keep hC.below) Try.underlying25 rfl (by kernel_rfl)]
    exact ⟨rfl, rfl⟩
  simp only [Act.put, List.setIfInBounds_toArray, List.set_cons_succ, List.set_cons_zero, Nat.reduceAdd]
  refine lex_special (by rfl) rfl (fun σ w1 hA hD hn hC => ?_) ?_
  · go_simp
    refine hC.call_ok hn (by simp [mvs]) ((HR2.out w1 (HB.out.trans (hC.below.mono HB.out.size))).mono ?_)
    rintro e w3 ⟨rfl, hb⟩
    exact ⟨_, rfl, rfl, hb, fun _ _ => trivial⟩
  rw [n3]
  simp only [Act.put, List.setIfInBounds_toArray, List.set_cons_succ, List.set_cons_zero, Nat.reduceAdd]
  refine lex_special (by rfl) rfl (fun σ w1 hA hD hn hC => ?_) ?_
  · go_simp
    exact hC.lay_ok mfine (v := ⟨4, 6, 41, zero3, none, 1⟩) (by simp [mvs]) hn ⟨_, rfl⟩
  rw [n4]
  simp only [Act.put, List.setIfInBounds_toArray, List.set_cons_succ, List.set_cons_zero, Nat.reduceAdd]
  refine lex_special (by rfl) rfl (fun σ w1 hA hD hn hC => ?_) ?_
  · go_simp
    exact hC.lay_ok mfine (v := ⟨5, 7, 41, zero3, none, 3⟩) (by simp [mvs]) hn ⟨_, rfl⟩
  rw [n5]
  simp only [Act.put, List.setIfInBounds_toArray, List.set_cons_succ, List.set_cons_zero, Nat.reduceAdd]
  refine lex_special (by rfl) rfl (fun σ w1 hA hD hn hC => ?_) ?_
  · have e4 := got hA hD 4 rfl (by kernel_rfl)
    have e1 := got hA hD 1 rfl (by kernel_rfl)
    rw [n4] at e4
    rw [n1] at e1
    exact hC.store_ok mfine (v := ⟨4, 6, 41, zero3, none, 1⟩) (by simp [mvs]) 41 (.tmp 5) (.tmp 8) rfl g4 (rankV x) rfl rfl e4 e1 hn (by kernel_rfl) rfl (rankV_one x) rfl
  rw [n6]
  simp only [Act.put, Nat.reduceAdd]
  refine lex_special (by rfl) rfl (fun σ w1 hA hD hn hC => ?_) ?_
  · have e4 := got hA hD 5 rfl (by kernel_rfl)
    have e1 := got hA hD 3 rfl (by kernel_rfl)
    rw [n5] at e4
    rw [n3] at e1
    exact hC.store_ok mfine (v := ⟨5, 7, 41, zero3, none, 3⟩) (by simp [mvs]) 41 (.tmp 6) (.tmp 10) rfl g5 (rankV y) rfl rfl e4 e1 hn (by kernel_rfl) rfl (rankV_one y) rfl
  rw [n7]
  simp only [Act.put, Nat.reduceAdd]
  refine lex_nil (fun σ w3 hA hall hC => ?_)
  obtain ⟨k4, f4, -, B4⟩ := hC.end_ (v := ⟨4, 6, 41, zero3, none, 1⟩) (by simp [mvs]) (hall 4 rfl (by decide)) (hall 6 rfl (by decide))
  obtain ⟨k5, f5, -, B5⟩ := hC.end_ (v := ⟨5, 7, 41, zero3, none, 3⟩) (by simp [mvs]) (hall 5 rfl (by decide)) (hall 7 rfl (by decide))
  have f4 := ptr_inj (n4.symm.trans f4)
  have f5 := ptr_inj (n5.symm.trans f5)
  rw [hall 1 rfl (by decide), n1] at B4
  rw [hall 3 rfl (by decide), n3] at B5
  subst f4
  subst f5
  have HX := Lib.hid (show Blk w3 g4 41 (rankV x) from B4)
  have HY := Lib.hid (show Blk w3 g5 41 (rankV y) from B5)
  have H1 := Lib.hid (H1.out.keep hC.below)
  have H2 := Lib.hid (H2.out.keep hC.below)
  have H3 := Lib.hid (H3.out.keep hC.below)
  have HB := Lib.hid (HB.out.trans (hC.below.mono HB.out.size))
  clear hA hall hC hν n1 n3 n4 n5 n6 n7 B4 B5 HR1 HR2
  have HNEQ := Lib.hid (run_neq_rank x y)
  have hcmp := further_cmp x y
  have hx0 := HX.out.cell 0
  have hx1 := HX.out.cell 1
  have hx2 := HX.out.cell 2
  have hy0 := HY.out.cell 0
  have hy1 := HY.out.cell 1
  have hy2 := HY.out.cell 2
  simp [rankV] at hx0 hx1 hx2 hy0 hy1 hy2
  unfold ptr
  go_wp2_with fail
  by_cases hsame : sameR x y = true
  · have hf := sameR_further hsame
    have hneq := HNEQ.out
    simp only [hsame, rankV, Bool.not_true] at hneq
    have hzx : x = z := by rw [HZ.out, if_neg (by rw [hf]; exact Bool.false_ne_true)]
    subst hzx
    clear hcmp hf hsame HNEQ HX HY
    go_quiet (fail)
    have H1 := Lib.hid (H1.out.drewN nq)
    have H2 := Lib.hid (H2.out.drewN nq)
    have H3 := Lib.hid (H3.out.drewN nq)
    have HB := Lib.hid (below_drewN HB.out nq)
    clear hx0 hx1 hx2 hy0 hy1 hy2 hneq
    generalize w3.drewN nq = w4 at *
    have hf1 := H1.out.frozen 3
    have hc3 := H1.out.cell 3
    simp at hc3
    go_wp2_with fail
    refine (clone_any _ x.l _ (HS.out.keep HB.out) l1).mono ?_
    rintro e w5 ⟨u, rfl, ho, hb⟩
    obtain ⟨ua, uc, rfl, -, -⟩ := ho.rd.open_
    have hlt1 := H1.out.lt
    have hlt3 := H3.out.lt
    have hO6 : ∀ w6, w6 = (w5.setCell ⟨w.heap.size, 3, none⟩ (.slice ua x.l.length uc)).setRow q2 #[.int .u64 x.E, .int .i64 x.B, .bool x.L, .slice ua x.l.length uc] → OwG w6 w.heap.size (.slice ua x.l.length uc) x.l := by
      rintro w6 rfl
      refine (ho.above fun b hbb => ?_).mono (by omega)
      simp only [World.setRow, World.setCell, Array.getElem?_modify]
      rw [if_neg (by omega), if_neg (by omega)]
    have HO := Lib.hid hO6
    have H1 := Lib.hid (H1.out.keep hb)
    have H3 := Lib.hid (H3.out.keep hb)
    have HB := Lib.hid (HB.out.trans (hb.mono HB.out.size))
    clear ho hb hf1 hc3 hlt1 hlt3 hO6
    have hf1 := H1.out.frozen 3
    have hold := H1.out.cell 3
    simp at hold
    have H1n := Lib.hid (H1.out.set 3 (.slice ua x.l.length uc))
    have H3n := Lib.hid (H3.out.far (p := ⟨w.heap.size, 3, none⟩) (by have := HQ.out; simp; omega) (.slice ua x.l.length uc))
    have HBn := Lib.hid (HB.out.setCell (p := ⟨w.heap.size, 3, none⟩) (Nat.le_refl _) (.slice ua x.l.length uc))
    go_wp2_with (first | refine wpList_load_row rfl 25 _ rfl w.heap.size rfl 25 #[.int .u64 x.E, .int .i64 x.B, .bool x.L, .slice ua x.l.length uc] (0, 0) _ H1n.out Try.underlying25 rfl (by kernel_rfl) ?_ | refine wpList_store_then rfl 25 _ _ rfl q2 #[.int .u64 x.E, .int .i64 x.B, .bool x.L, .slice ua x.l.length uc] rfl rfl 25 _ H3n.out (by kernel_rfl) rfl (lineC_one _ _ _ _ _ _) ?_)
    refine Later.mk fun w6 hw6 => ?_
    have b6 : Blk w6 q2 25 #[.int .u64 x.E, .int .i64 x.B, .bool x.L, .slice ua x.l.length uc] := by rw [hw6]; exact H3n.out.row _
    have hb6 : Below w.heap.size w w6 := by rw [hw6]; exact Below.setRow HBn.out (by have := HQ.out; omega) _
    have B6 := Lib.hid b6
    have HB6 := Lib.hid hb6
    have HO6 := Lib.hid (HO.out w6 hw6)
    clear hw6 b6 hb6 hf1 hold HO H1n H3n HBn H1 H3 HB
    go_wp2
    refine bodyPost_ret (results_cell_row Try.results11 _ _ q2 25 _ (0, 0) _ rfl B6.out Try.underlying25 rfl (by kernel_rfl)) rfl ⟨_, rfl, ⟨_, rfl, HO6.out, hE, hB⟩, HB6.out⟩
  · have hs2 : sameR x y = false := by simpa using hsame
    have hneq := HNEQ.out
    simp only [hs2, rankV, Bool.not_false] at hneq
    clear hsame hs2 HNEQ
    cases hf : further y x with
    | false =>
      have hzx : x = z := by rw [HZ.out, if_neg (by rw [hf]; exact Bool.false_ne_true)]
      subst hzx
      rw [hf] at hcmp
      have hcx := HX.out
      have hcy := HY.out
      refine wp_region_below (by kernel_rfl) (by kernel_rfl) ?_
      have e0 : ∀ q : Bw w3, q.w.cell? ⟨g4, 0, none⟩ = some (.int .u64 x.E) := fun q => q.cell hx0
      have e1 : ∀ q : Bw w3, q.w.cell? ⟨g4, 1, none⟩ = some (.int .u64 (x.l.length : Int)) := fun q => q.cell hx1
      have e2 : ∀ q : Bw w3, q.w.cell? ⟨g4, 2, none⟩ = some (.int .u64 (bit x.L)) := fun q => q.cell hx2
      have e3 : ∀ q : Bw w3, q.w.cell? ⟨g5, 0, none⟩ = some (.int .u64 y.E) := fun q => q.cell hy0
      have e4 : ∀ q : Bw w3, q.w.cell? ⟨g5, 1, none⟩ = some (.int .u64 (y.l.length : Int)) := fun q => q.cell hy1
      have e5 : ∀ q : Bw w3, q.w.cell? ⟨g5, 2, none⟩ = some (.int .u64 (bit y.L)) := fun q => q.cell hy2
      have hcc : ∀ q : Bw w3, Calls Try.prog 25 #[.slice (some ⟨g4, 0, none⟩) 3 3, .slice (some ⟨g5, 0, none⟩) 3 3] q.w fun e w' => e = .returned (.int .i64 (cmpL x.E x.l.length (bit x.L) y.E y.l.length (bit y.L))) ∧ q.w = w' :=
        fun q => compare_any _ _ _ _ _ _ g4 g5 3 3 q.w (e0 q) (e1 q) (e2 q) (e3 q) (e4 q) (e5 q)
      generalize cmpL x.E x.l.length (bit x.L) y.E y.l.length (bit y.L) = r at *
      have HCC := Lib.hid hcc
      clear hx0 hx1 hx2 hy0 hy1 hy2 hcc hcx hcy
      repeat (go_big_quiet_step (first | (go_at_call 25; exact below_same (HCC.out _))))
      refine wpQuiet_nil ?_
      intro w4 hb4
      have H1 := Lib.hid (H1.out.keep hb4)
      have H2 := Lib.hid (H2.out.keep hb4)
      have H3 := Lib.hid (H3.out.keep hb4)
      have HB := Lib.hid (HB.out.trans (hb4.mono HB.out.size))
      clear e0 e1 e2 e3 e4 e5 HCC hb4 hneq HX HY
      have hf1 := H1.out.frozen 3
      have hc3 := H1.out.cell 3
      simp at hc3
      go_wp2_with fail
      refine (clone_any _ x.l _ (HS.out.keep HB.out) l1).mono ?_
      rintro e w5 ⟨u, rfl, ho, hb⟩
      obtain ⟨ua, uc, rfl, -, -⟩ := ho.rd.open_
      have hlt1 := H1.out.lt
      have hlt3 := H3.out.lt
      have hO6 : ∀ w6, w6 = (w5.setCell ⟨w.heap.size, 3, none⟩ (.slice ua x.l.length uc)).setRow q2 #[.int .u64 x.E, .int .i64 x.B, .bool x.L, .slice ua x.l.length uc] → OwG w6 w.heap.size (.slice ua x.l.length uc) x.l := by
        rintro w6 rfl
        refine (ho.above fun b hbb => ?_).mono (by omega)
        simp only [World.setRow, World.setCell, Array.getElem?_modify]
        rw [if_neg (by omega), if_neg (by omega)]
      have HO := Lib.hid hO6
      have H1 := Lib.hid (H1.out.keep hb)
      have H3 := Lib.hid (H3.out.keep hb)
      have HB := Lib.hid (HB.out.trans (hb.mono HB.out.size))
      clear ho hb hf1 hc3 hlt1 hlt3 hO6
      have hf1 := H1.out.frozen 3
      have hold := H1.out.cell 3
      simp at hold
      have H1n := Lib.hid (H1.out.set 3 (.slice ua x.l.length uc))
      have H3n := Lib.hid (H3.out.far (p := ⟨w.heap.size, 3, none⟩) (by have := HQ.out; simp; omega) (.slice ua x.l.length uc))
      have HBn := Lib.hid (HB.out.setCell (p := ⟨w.heap.size, 3, none⟩) (Nat.le_refl _) (.slice ua x.l.length uc))
      go_wp2_with (first | refine wpList_load_row rfl 25 _ rfl w.heap.size rfl 25 #[.int .u64 x.E, .int .i64 x.B, .bool x.L, .slice ua x.l.length uc] (0, 0) _ H1n.out Try.underlying25 rfl (by kernel_rfl) ?_ | refine wpList_store_then rfl 25 _ _ rfl q2 #[.int .u64 x.E, .int .i64 x.B, .bool x.L, .slice ua x.l.length uc] rfl rfl 25 _ H3n.out (by kernel_rfl) rfl (lineC_one _ _ _ _ _ _) ?_)
      refine Later.mk fun w6 hw6 => ?_
      have b6 : Blk w6 q2 25 #[.int .u64 x.E, .int .i64 x.B, .bool x.L, .slice ua x.l.length uc] := by rw [hw6]; exact H3n.out.row _
      have hb6 : Below w.heap.size w w6 := by rw [hw6]; exact Below.setRow HBn.out (by have := HQ.out; omega) _
      have B6 := Lib.hid b6
      have HB6 := Lib.hid hb6
      have HO6 := Lib.hid (HO.out w6 hw6)
      clear hw6 b6 hb6 hf1 hold HO H1n H3n HBn H1 H3 HB
      go_wp2
      refine bodyPost_ret (results_cell_row Try.results11 _ _ q2 25 _ (0, 0) _ rfl B6.out Try.underlying25 rfl (by kernel_rfl)) rfl ⟨_, rfl, ⟨_, rfl, HO6.out, hE, hB⟩, HB6.out⟩
    | true =>
      have hzx : y = z := by rw [HZ.out, if_pos hf]
      subst hzx
      rw [hf] at hcmp
      have hcx := HX.out
      have hcy := HY.out
      refine wp_region_below (by kernel_rfl) (by kernel_rfl) ?_
      have e0 : ∀ q : Bw w3, q.w.cell? ⟨g4, 0, none⟩ = some (.int .u64 x.E) := fun q => q.cell hx0
      have e1 : ∀ q : Bw w3, q.w.cell? ⟨g4, 1, none⟩ = some (.int .u64 (x.l.length : Int)) := fun q => q.cell hx1
      have e2 : ∀ q : Bw w3, q.w.cell? ⟨g4, 2, none⟩ = some (.int .u64 (bit x.L)) := fun q => q.cell hx2
      have e3 : ∀ q : Bw w3, q.w.cell? ⟨g5, 0, none⟩ = some (.int .u64 y.E) := fun q => q.cell hy0
      have e4 : ∀ q : Bw w3, q.w.cell? ⟨g5, 1, none⟩ = some (.int .u64 (y.l.length : Int)) := fun q => q.cell hy1
      have e5 : ∀ q : Bw w3, q.w.cell? ⟨g5, 2, none⟩ = some (.int .u64 (bit y.L)) := fun q => q.cell hy2
      have hcc : ∀ q : Bw w3, Calls Try.prog 25 #[.slice (some ⟨g4, 0, none⟩) 3 3, .slice (some ⟨g5, 0, none⟩) 3 3] q.w fun e w' => e = .returned (.int .i64 (cmpL x.E x.l.length (bit x.L) y.E y.l.length (bit y.L))) ∧ q.w = w' :=
        fun q => compare_any _ _ _ _ _ _ g4 g5 3 3 q.w (e0 q) (e1 q) (e2 q) (e3 q) (e4 q) (e5 q)
      generalize cmpL x.E x.l.length (bit x.L) y.E y.l.length (bit y.L) = r at *
      have HCC := Lib.hid hcc
      clear hx0 hx1 hx2 hy0 hy1 hy2 hcc hcx hcy
      repeat (go_big_quiet_step (first | (go_at_call 25; exact below_same (HCC.out _))))
      refine wpQuiet_nil ?_
      intro w4 hb4
      have H1 := Lib.hid (H1.out.keep hb4)
      have H2 := Lib.hid (H2.out.keep hb4)
      have H3 := Lib.hid (H3.out.keep hb4)
      have HB := Lib.hid (HB.out.trans (hb4.mono HB.out.size))
      clear e0 e1 e2 e3 e4 e5 HCC hb4 hneq HX HY
      have hl2 := H2.out
      have hq12 : q1 ≠ w.heap.size := by have := HQ.out; omega
      have hq22 : q2 ≠ w.heap.size := by have := HQ.out; omega
      have HL2 := Lib.hid hl2
      have HN2 := Lib.hid hq22
      clear hl2 hq12 hq22
      obtain ⟨sa, sc, hsl, -, -⟩ := HS'.out.open_
      subst hsl
      go_wp2_with (first | refine wpList_load_row rfl 25 _ rfl q1 rfl 25 #[.int .u64 y.E, .int .i64 y.B, .bool y.L, .slice sa y.l.length sc] (0, 0) _ HL2.out Try.underlying25 rfl (by kernel_rfl) ?_ | refine wpList_store_then rfl 25 _ _ rfl w.heap.size #[.int .u64 y.E, .int .i64 y.B, .bool y.L, .slice sa y.l.length sc] rfl rfl 25 _ H1.out (by kernel_rfl) rfl (lineC_one _ _ _ _ _ _) ?_)
      refine Later.mk fun w4b hw4 => ?_
      have h1b : Blk w4b w.heap.size 25 #[.int .u64 y.E, .int .i64 y.B, .bool y.L, .slice sa y.l.length sc] := by rw [hw4]; exact H1.out.row _
      have h3b : Blk w4b q2 25 #[.int .u64 0, .int .i64 0, .bool false, .slice none 0 0] := by rw [hw4]; exact H3.out.farRow HN2.out _
      have hbb : Below w.heap.size w w4b := by rw [hw4]; exact Below.setRow HB.out (Nat.le_refl _) _
      have H1 := Lib.hid h1b
      have H3 := Lib.hid h3b
      have HB := Lib.hid hbb
      clear hw4 h1b h3b hbb HL2 HN2 H2
      have hf1 := H1.out.frozen 3
      have hc3 := H1.out.cell 3
      simp at hc3
      go_wp2_with fail
      refine (clone_any _ y.l _ (HS'.out.keep HB.out) l2).mono ?_
      rintro e w5 ⟨u, rfl, ho, hb⟩
      obtain ⟨ua, uc, rfl, -, -⟩ := ho.rd.open_
      have hlt1 := H1.out.lt
      have hlt3 := H3.out.lt
      have hO6 : ∀ w6, w6 = (w5.setCell ⟨w.heap.size, 3, none⟩ (.slice ua y.l.length uc)).setRow q2 #[.int .u64 y.E, .int .i64 y.B, .bool y.L, .slice ua y.l.length uc] → OwG w6 w.heap.size (.slice ua y.l.length uc) y.l := by
        rintro w6 rfl
        refine (ho.above fun b hbb => ?_).mono (by omega)
        simp only [World.setRow, World.setCell, Array.getElem?_modify]
        rw [if_neg (by omega), if_neg (by omega)]
      have HO := Lib.hid hO6
      have H1 := Lib.hid (H1.out.keep hb)
      have H3 := Lib.hid (H3.out.keep hb)
      have HB := Lib.hid (HB.out.trans (hb.mono HB.out.size))
      clear ho hb hf1 hc3 hlt1 hlt3 hO6
      have hf1 := H1.out.frozen 3
      have hold := H1.out.cell 3
      simp at hold
      have H1n := Lib.hid (H1.out.set 3 (.slice ua y.l.length uc))
      have H3n := Lib.hid (H3.out.far (p := ⟨w.heap.size, 3, none⟩) (by have := HQ.out; simp; omega) (.slice ua y.l.length uc))
      have HBn := Lib.hid (HB.out.setCell (p := ⟨w.heap.size, 3, none⟩) (Nat.le_refl _) (.slice ua y.l.length uc))
      go_wp2_with (first | refine wpList_load_row rfl 25 _ rfl w.heap.size rfl 25 #[.int .u64 y.E, .int .i64 y.B, .bool y.L, .slice ua y.l.length uc] (0, 0) _ H1n.out Try.underlying25 rfl (by kernel_rfl) ?_ | refine wpList_store_then rfl 25 _ _ rfl q2 #[.int .u64 y.E, .int .i64 y.B, .bool y.L, .slice ua y.l.length uc] rfl rfl 25 _ H3n.out (by kernel_rfl) rfl (lineC_one _ _ _ _ _ _) ?_)
      refine Later.mk fun w6 hw6 => ?_
      have b6 : Blk w6 q2 25 #[.int .u64 y.E, .int .i64 y.B, .bool y.L, .slice ua y.l.length uc] := by rw [hw6]; exact H3n.out.row _
      have hb6 : Below w.heap.size w w6 := by rw [hw6]; exact Below.setRow HBn.out (by have := HQ.out; omega) _
      have B6 := Lib.hid b6
      have HB6 := Lib.hid hb6
      have HO6 := Lib.hid (HO.out w6 hw6)
      clear hw6 b6 hb6 hf1 hold HO H1n H3n HBn H1 H3 HB
      go_wp2
      refine bodyPost_ret (results_cell_row Try.results11 _ _ q2 25 _ (0, 0) _ rfl B6.out Try.underlying25 rfl (by kernel_rfl)) rfl ⟨_, rfl, ⟨_, rfl, HO6.out, hE', hB'⟩, HB6.out⟩
end Go.Proofs.Ytfkgidljgbhccaa
