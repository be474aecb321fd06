/-
  LineOrder, WALKED (its regions printed by wip/gen-lineorder.py).
-/
import Derived.Test.YtfkgidljgbhccaaLineSameP
namespace Go.Proofs.Ytfkgidljgbhccaa
open Go.RowKit Reg

def mg (x y : Ln) : Ln := if further y x = true then y else x
theorem further_iff {b a : Ln} : further b a = true ↔ a.E < b.E ∨ (a.E = b.E ∧ (a.l.length < b.l.length ∨ (a.l.length = b.l.length ∧ bit a.L < bit b.L))) := by
  have hb : ∀ q : Bool, bit q = 0 ∨ bit q = 1 := fun q => by cases q <;> simp [bit]
  unfold further
  by_cases h1 : b.E = a.E
  · rw [if_neg (by simpa using h1)]
    by_cases h2 : b.l.length = a.l.length
    · rw [if_neg (by simpa using h2)]
      have : (b.L && !a.L) = true ↔ bit a.L < bit b.L := by cases a.L <;> cases b.L <;> simp [bit]
      rw [this]
      omega
    · rw [if_pos h2, decide_eq_true_iff]
      omega
  · rw [if_pos h1, decide_eq_true_iff]
    omega
theorem mg_len (x y : Ln) (n : Nat) (h1 : x.l.length ≤ n) (h2 : y.l.length ≤ n) : (mg x y).l.length ≤ n := by
  unfold mg
  split
  · exact h2
  · exact h1
theorem mg_comm (a b : Ln) : (mg b a).E = (mg a b).E ∧ (mg b a).l.length = (mg a b).l.length ∧ (mg b a).L = (mg a b).L := by
  unfold mg
  by_cases h1 : further b a = true
  · have h2 : ¬ further a b = true := by rw [further_iff] at h1 ⊢; omega
    rw [if_pos h1, if_neg h2]
    exact ⟨rfl, rfl, rfl⟩
  · by_cases h2 : further a b = true
    · rw [if_neg h1, if_pos h2]
      exact ⟨rfl, rfl, rfl⟩
    · rw [if_neg h1, if_neg h2]
      rw [further_iff] at h1 h2
      refine ⟨by omega, by omega, bit_inj (by omega)⟩
theorem mg_ge (a b : Ln) : a.E ≤ (mg a b).E ∧ b.E ≤ (mg a b).E := by
  unfold mg
  split
  · rename_i h
    rw [further_iff] at h
    omega
  · rename_i h
    rw [further_iff] at h
    omega
theorem mg_again (a b : Ln) : mg (mg a b) a = mg a b := by
  have h : ¬ further a (mg a b) = true := by
    unfold mg
    split
    · rename_i h
      rw [further_iff] at h ⊢
      omega
    · rw [further_iff]
      omega
  rw [mg, if_neg h]
theorem mg_assoc (a b c : Ln) : mg (mg a b) c = mg a (mg b c) := by
  by_cases h1 : further b a = true
  · have e1 : mg a b = b := if_pos h1
    by_cases h2 : further c b = true
    · have e2 : mg b c = c := if_pos h2
      have h3 : further c a = true := by rw [further_iff] at h1 h2 ⊢; omega
      rw [e1, e2]
      exact (if_pos h3).symm
    · have e2 : mg b c = b := if_neg h2
      rw [e1, e2, e1]
  · have e1 : mg a b = a := if_neg h1
    by_cases h2 : further c b = true
    · have e2 : mg b c = c := if_pos h2
      rw [e1, e2]
    · have e2 : mg b c = b := if_neg h2
      have h3 : ¬ further c a = true := by rw [further_iff] at h1 h2 ⊢; omega
      rw [e1, e2, e1]
      exact if_neg h3
def ovs : List Vr := [⟨6, 8, 25, zeroL, none, 2⟩, ⟨7, 9, 25, zeroL, none, 5⟩]
def ovt : List Vr := [⟨10, 12, 25, zeroL, none, 4⟩, ⟨11, 13, 25, zeroL, none, 9⟩]
theorem ofine : Fine ovs := by
  refine ⟨by decide, ?_, ?_, by decide⟩
  all_goals
    intro v hv v' hv' e
    simp only [ovs, List.mem_cons, List.not_mem_nil, or_false] at hv hv'
    rcases hv with rfl | rfl <;> rcases hv' with rfl | rfl <;> first | rfl | (simp at e)
theorem ofinet : Fine ovt := by
  refine ⟨by decide, ?_, ?_, by decide⟩
  all_goals
    intro v hv v' hv' e
    simp only [ovt, List.mem_cons, List.not_mem_nil, or_false] at hv hv'
    rcases hv with rfl | rfl <;> rcases hv' with rfl | rfl <;> first | rfl | (simp at e)
theorem merge_mg (v v' : Value) (x y : Ln) (w : World) (hv : InL w v x) (hv' : InL w v' y) (l1 : x.l.length ≤ 2 ^ 43) (l2 : y.l.length ≤ 2 ^ 43) :
    Calls Try.prog 11 #[v, v'] w fun e w' => ∃ u, e = .returned u ∧ OwL w' w.heap.size u (mg x y) ∧ Below w.heap.size w w' := merge_any v v' x y w hv hv' l1 l2
theorem same_lit (v v' : Value) (x y : Ln) (r : Bool) (w : World) (hv : InL w v x) (hv' : InL w v' y) (h : sameL x y = r) :
    Calls Try.prog 18 #[v, v'] w fun e w' => e = .returned (.bool r) ∧ Below w.heap.size w w' := h ▸ same_any v v' x y w hv hv'
set_option maxRecDepth 100000 in
set_option maxHeartbeats 4000000 in
theorem law_LineOrder (v : Value) (a : Ln) (v' : Value) (b : Ln) (v'' : Value) (c : Ln) (w : World) (hv : InL w v a) (l1 : a.l.length ≤ 2 ^ 43) (hv' : InL w v' b) (l2 : b.l.length ≤ 2 ^ 43) (hv'' : InL w v'' c) (l3 : c.l.length ≤ 2 ^ 43) :
    Calls Try.prog 7 #[v, v', v''] w fun e w' => e = .returned (.bool true) ∧ Below w.heap.size w w' := by
  have ha := hv
  have hb := hv'
  have hc := hv''
  obtain ⟨sl, rfl, hs, -, -⟩ := hv
  obtain ⟨sl', rfl, hs', -, -⟩ := hv'
  obtain ⟨sl'', rfl, hs'', -, -⟩ := hv''
  obtain ⟨p1, q1, rfl, -, -⟩ := hs.open_
  obtain ⟨p2, q2, rfl, -, -⟩ := hs'.open_
  obtain ⟨p3, q3, rfl, -, -⟩ := hs''.open_
  have hb0 := (((Below.refl w.heap.size w).alloc (Nat.le_refl _) (Obj.cells #[.int .u64 a.E, .int .i64 a.B, .bool a.L, .slice p1 a.l.length q1] 25)).alloc (by simp) (Obj.cells #[.int .u64 b.E, .int .i64 b.B, .bool b.L, .slice p2 b.l.length q2] 25)).alloc (by simp; omega) (Obj.cells #[.int .u64 c.E, .int .i64 c.B, .bool c.L, .slice p3 c.l.length q3] 25)
  have b1 := ((Blk.new w 25 #[.int .u64 a.E, .int .i64 a.B, .bool a.L, .slice p1 a.l.length q1]).alloc (Obj.cells #[.int .u64 b.E, .int .i64 b.B, .bool b.L, .slice p2 b.l.length q2] 25)).alloc (Obj.cells #[.int .u64 c.E, .int .i64 c.B, .bool c.L, .slice p3 c.l.length q3] 25)
  have b2 := (Blk.newAt (w := w.alloc (Obj.cells #[.int .u64 a.E, .int .i64 a.B, .bool a.L, .slice p1 a.l.length q1] 25)) 25 #[.int .u64 b.E, .int .i64 b.B, .bool b.L, .slice p2 b.l.length q2] (g := w.heap.size + 1) (by simp)).alloc (Obj.cells #[.int .u64 c.E, .int .i64 c.B, .bool c.L, .slice p3 c.l.length q3] 25)
  have b3 := Blk.newAt (w := (w.alloc (Obj.cells #[.int .u64 a.E, .int .i64 a.B, .bool a.L, .slice p1 a.l.length q1] 25)).alloc (Obj.cells #[.int .u64 b.E, .int .i64 b.B, .bool b.L, .slice p2 b.l.length q2] 25)) 25 #[.int .u64 c.E, .int .i64 c.B, .bool c.L, .slice p3 c.l.length q3] (g := w.heap.size + 1 + 1) (by simp)
  have HA := Lib.hid b1
  have HBB := Lib.hid b2
  have HCC := Lib.hid b3
  have HB0 := Lib.hid hb0
  have IA := Lib.hid (ha.keep hb0)
  have IB := Lib.hid (hb.keep hb0)
  have IC := Lib.hid (hc.keep hb0)
  clear b1 b2 b3 hb0 ha hb hc hs hs' hs''
  go_enter Try.func7, Try.ntmps7
  go_wp2_with fail
  generalize ((w.alloc (Obj.cells #[.int .u64 a.E, .int .i64 a.B, .bool a.L, .slice p1 a.l.length q1] 25)).alloc (Obj.cells #[.int .u64 b.E, .int .i64 b.B, .bool b.L, .slice p2 b.l.length q2] 25)).alloc (Obj.cells #[.int .u64 c.E, .int .i64 c.B, .bool c.L, .slice p3 c.l.length q3] 25) = w0 at *
  refine (works_any _).mono ?_
  rintro e w1 ⟨rfl, hb⟩
  have HB := Lib.hid (HB0.out.trans (hb.mono HB0.out.size))
  have HA := Lib.hid (HA.out.keep hb)
  have HBB := Lib.hid (HBB.out.keep hb)
  have HCC := Lib.hid (HCC.out.keep hb)
  have IA := Lib.hid (IA.out.keep hb)
  have IB := Lib.hid (IB.out.keep hb)
  have IC := Lib.hid (IC.out.keep hb)
  clear hb HB0
  go_wp2_with fail
  obtain ⟨X, hX⟩ : ∃ X, X = mg a b := ⟨_, rfl⟩
  obtain ⟨Y, hY⟩ : ∃ Y, Y = mg b a := ⟨_, rfl⟩
  have m1 : ∀ w2, Below w1.heap.size w1 w2 → Calls Try.prog 11 #[.agg #[.int .u64 a.E, .int .i64 a.B, .bool a.L, .slice p1 a.l.length q1], .agg #[.int .u64 b.E, .int .i64 b.B, .bool b.L, .slice p2 b.l.length q2]] w2 fun e w' => ∃ u, e = .returned u ∧ OwL w' w2.heap.size u X ∧ Below w2.heap.size w2 w' := fun w2 hb => hX ▸ merge_mg _ _ a b w2 (IA.out.keep hb) (IB.out.keep hb) l1 l2
  have m2 : ∀ w2, Below w1.heap.size w1 w2 → Calls Try.prog 11 #[.agg #[.int .u64 b.E, .int .i64 b.B, .bool b.L, .slice p2 b.l.length q2], .agg #[.int .u64 a.E, .int .i64 a.B, .bool a.L, .slice p1 a.l.length q1]] w2 fun e w' => ∃ u, e = .returned u ∧ OwL w' w2.heap.size u Y ∧ Below w2.heap.size w2 w' := fun w2 hb => hY ▸ merge_mg _ _ b a w2 (IB.out.keep hb) (IA.out.keep hb) l2 l1
  have M1 := Lib.hid m1
  have M2 := Lib.hid m2
  have hcm := mg_comm a b
  have hge := mg_ge a b
  have hag := mg_again a b
  have hXl : X.l.length ≤ 2 ^ 43 := hX ▸ mg_len a b _ l1 l2
  have hor : sameL X a = true ∨ (sameL X a = false ∧ sameL X b = true) := by
    cases hq : sameL X a with
    | true => exact .inl rfl
    | false =>
      refine .inr ⟨rfl, sameL_iff.2 ?_⟩
      rw [hX] at hq ⊢
      unfold mg at hq ⊢
      split
      · rfl
      · rename_i hf
        rw [if_neg hf, sameL_iff.2 rfl] at hq
        cases hq
  rw [← hX, ← hY] at hcm
  rw [← hX] at hge hag
  have HX := Lib.hid hX
  have HCM := Lib.hid hcm
  have HGE := Lib.hid hge
  have HAG := Lib.hid hag
  have HXL := Lib.hid hXl
  have HOR := Lib.hid hor
  clear m1 m2 hX hY hcm hge hag hXl hor
  refine wp_region_spec (fun i => i == 2 || i == 5 || i == 6 || i == 7 || i == 8 || i == 9) (kinds [(2, .ln X.E X.B X.L X.l.length), (5, .ln Y.E Y.B Y.L Y.l.length), (6, .pt), (7, .pt), (8, .is undef), (9, .is undef)]) (CG w1 ovs (Fof w1.heap.size [(2, .l X), (5, .l Y)])) (by kernel_rfl) (by kernel_rfl) (kinds_inh _) CG.start ?_
  intro ν hν
  obtain ⟨a2, c2, n2⟩ : ∃ a c, ν 2 = .agg #[.int .u64 X.E, .int .i64 X.B, .bool X.L, .slice a X.l.length c] := hν 2
  obtain ⟨a5, c5, n5⟩ : ∃ a c, ν 5 = .agg #[.int .u64 Y.E, .int .i64 Y.B, .bool Y.L, .slice a Y.l.length c] := hν 5
  obtain ⟨g6, n6⟩ : ∃ g, ν 6 = ptr g := hν 6
  obtain ⟨g7, n7⟩ : ∃ g, ν 7 = ptr g := hν 7
  have n8 : ν 8 = undef := hν 8
  have n9 : ν 9 = undef := hν 9
  clear hν
  refine lex_plain (by rfl) rfl ⟨.agg #[.int .u64 a.E, .int .i64 a.B, .bool a.L, .slice p1 a.l.length q1], fun σ w2 hA hD hC => ?_, ?_⟩
  · rw [exec_load 25 (.tmp 3) rfl w.heap.size rfl 25 _ _ (HA.out.keep hC.below) Try.underlying25 rfl (by kernel_rfl)]
    exact ⟨rfl, rfl⟩
  simp only [Act.put, List.setIfInBounds_toArray, List.set_cons_succ, List.set_cons_zero, Nat.reduceAdd]
  refine lex_plain (by rfl) rfl ⟨.agg #[.int .u64 b.E, .int .i64 b.B, .bool b.L, .slice p2 b.l.length q2], fun σ w2 hA hD hC => ?_, ?_⟩
  · rw [exec_load 25 (.tmp 4) rfl (w.heap.size + 1) rfl 25 _ _ (HBB.out.keep hC.below) Try.underlying25 rfl (by kernel_rfl)]
    exact ⟨rfl, rfl⟩
  simp only [Act.put, List.setIfInBounds_toArray, List.set_cons_succ, List.set_cons_zero, Nat.reduceAdd]
  refine lex_special (by rfl) rfl (fun σ w2 hA hD hn hC => ?_) ?_
  · go_simp
    exact line_ok hC hn (by simp [ovs]) X (M1.out _ hC.below) (fun _ _ h => h) (fun a c => ⟨a, c, rfl⟩)
  rw [n2]
  simp only [Act.put, List.setIfInBounds_toArray, List.set_cons_succ, List.set_cons_zero, Nat.reduceAdd]
  refine lex_plain (by rfl) rfl ⟨.agg #[.int .u64 b.E, .int .i64 b.B, .bool b.L, .slice p2 b.l.length q2], fun σ w2 hA hD hC => ?_, ?_⟩
  · rw [exec_load 25 (.tmp 4) rfl (w.heap.size + 1) rfl 25 _ _ (HBB.out.keep hC.below) Try.underlying25 rfl (by kernel_rfl)]
    exact ⟨rfl, rfl⟩
  simp only [Act.put, List.setIfInBounds_toArray, List.set_cons_succ, List.set_cons_zero, Nat.reduceAdd]
  refine lex_plain (by rfl) rfl ⟨.agg #[.int .u64 a.E, .int .i64 a.B, .bool a.L, .slice p1 a.l.length q1], fun σ w2 hA hD hC => ?_, ?_⟩
  · rw [exec_load 25 (.tmp 3) rfl w.heap.size rfl 25 _ _ (HA.out.keep hC.below) Try.underlying25 rfl (by kernel_rfl)]
    exact ⟨rfl, rfl⟩
  simp only [Act.put, List.setIfInBounds_toArray, List.set_cons_succ, List.set_cons_zero, Nat.reduceAdd]
  refine lex_special (by rfl) rfl (fun σ w2 hA hD hn hC => ?_) ?_
  · go_simp
    exact line_ok hC hn (by simp [ovs]) Y (M2.out _ hC.below) (fun _ _ h => h) (fun a c => ⟨a, c, rfl⟩)
  rw [n5]
  simp only [Act.put, List.setIfInBounds_toArray, List.set_cons_succ, List.set_cons_zero, Nat.reduceAdd]
  refine lex_special (by rfl) rfl (fun σ w2 hA hD hn hC => ?_) ?_
  · go_simp
    exact hC.lay_ok ofine (v := ⟨6, 8, 25, zeroL, none, 2⟩) (by simp [ovs]) hn ⟨_, rfl⟩
  rw [n6]
  simp only [Act.put, List.setIfInBounds_toArray, List.set_cons_succ, List.set_cons_zero, Nat.reduceAdd]
  refine lex_special (by rfl) rfl (fun σ w2 hA hD hn hC => ?_) ?_
  · go_simp
    exact hC.lay_ok ofine (v := ⟨7, 9, 25, zeroL, none, 5⟩) (by simp [ovs]) hn ⟨_, rfl⟩
  rw [n7]
  simp only [Act.put, List.setIfInBounds_toArray, List.set_cons_succ, List.set_cons_zero, Nat.reduceAdd]
  refine lex_special (by rfl) rfl (fun σ w2 hA hD hn hC => ?_) ?_
  · have ea := got1 hA hD 6 rfl (by kernel_rfl)
    have es := got1 hA hD 2 rfl (by kernel_rfl)
    rw [n6] at ea
    rw [n2] at es
    exact hC.store_ok ofine (v := ⟨6, 8, 25, zeroL, none, 2⟩) (by simp [ovs]) 25 (.tmp 7) (.tmp 15) rfl g6 #[.int .u64 X.E, .int .i64 X.B, .bool X.L, .slice a2 X.l.length c2] rfl rfl ea es hn (by kernel_rfl) rfl (lineC_one _ _ _ _ _ _) rfl
  rw [n8]
  simp only [Act.put, Nat.reduceAdd]
  refine lex_special (by rfl) rfl (fun σ w2 hA hD hn hC => ?_) ?_
  · have ea := got1 hA hD 7 rfl (by kernel_rfl)
    have es := got1 hA hD 5 rfl (by kernel_rfl)
    rw [n7] at ea
    rw [n5] at es
    exact hC.store_ok ofine (v := ⟨7, 9, 25, zeroL, none, 5⟩) (by simp [ovs]) 25 (.tmp 8) (.tmp 18) rfl g7 #[.int .u64 Y.E, .int .i64 Y.B, .bool Y.L, .slice a5 Y.l.length c5] rfl rfl ea es hn (by kernel_rfl) rfl (lineC_one _ _ _ _ _ _) rfl
  rw [n9]
  simp only [Act.put, Nat.reduceAdd]
  refine lex_nil (fun σ w2a hA hall hC => ?_)
  have HB := Lib.hid (HB.out.trans (hC.below.mono HB.out.size))
  have HA := Lib.hid (HA.out.keep hC.below)
  have HBB := Lib.hid (HBB.out.keep hC.below)
  have HCC := Lib.hid (HCC.out.keep hC.below)
  have IA := Lib.hid (IA.out.keep hC.below)
  have IB := Lib.hid (IB.out.keep hC.below)
  have IC := Lib.hid (IC.out.keep hC.below)
  obtain ⟨k6, f6, -, B6⟩ := hC.end_ (v := ⟨6, 8, 25, zeroL, none, 2⟩) (by simp [ovs]) (hall 6 rfl (by decide)) (hall 8 rfl (by decide))
  obtain ⟨k7, f7, -, B7⟩ := hC.end_ (v := ⟨7, 9, 25, zeroL, none, 5⟩) (by simp [ovs]) (hall 7 rfl (by decide)) (hall 9 rfl (by decide))
  have f6 := ptr_inj (n6.symm.trans f6)
  have f7 := ptr_inj (n7.symm.trans f7)
  rw [hall 2 rfl (by decide), n2] at B6
  rw [hall 5 rfl (by decide), n5] at B7
  subst f6
  subst f7
  have ix := hC.fact (hall 2 rfl (by decide)) (by simp [ovs])
  rw [n2] at ix
  have ix2 : OwL w2a w1.heap.size (.agg #[.int .u64 X.E, .int .i64 X.B, .bool X.L, .slice a2 X.l.length c2]) X := ix
  have IX := Lib.hid ix2.rd
  have bx : Blk w2a g6 25 #[.int .u64 X.E, .int .i64 X.B, .bool X.L, .slice a2 X.l.length c2] := B6
  have by_ : Blk w2a g7 25 #[.int .u64 Y.E, .int .i64 Y.B, .bool Y.L, .slice a5 Y.l.length c5] := B7
  rw [HCM.out.1, HCM.out.2.1, HCM.out.2.2] at by_
  have HXB := Lib.hid bx
  have cx0 := bx.cell 0
  have cx2 := bx.cell 2
  have cx3 := bx.cell 3
  have cy0 := by_.cell 0
  have cy2 := by_.cell 2
  have cy3 := by_.cell 3
  have ca0 := HA.out.cell 0
  have cb0 := HBB.out.cell 0
  simp at cx0 cx2 cx3 cy0 cy2 cy3 ca0 cb0
  have j1 : a.E ≤ X.E := HGE.out.1
  have j2 : b.E ≤ X.E := HGE.out.2
  clear hA hall hC n2 n5 n6 n7 n8 n9 B6 B7 ix ix2 bx by_ M1 M2
  unfold ptr
  go_wp2_with fail
  clear cx0 cx2 cx3 cy0 cy2 cy3 ca0 cb0 j1 j2
  obtain ⟨gx, hgx⟩ : ∃ q, q = g6 := ⟨_, rfl⟩
  obtain ⟨ax, hax⟩ : ∃ q, q = a2 := ⟨_, rfl⟩
  obtain ⟨cx, hcx⟩ : ∃ q, q = c2 := ⟨_, rfl⟩
  subst hgx
  subst hax
  subst hcx
  have hs3 : sameL X X = true := sameL_iff.2 rfl
  have m3 : ∀ w3, Below w2a.heap.size w2a w3 → Calls Try.prog 11 #[.agg #[.int .u64 X.E, .int .i64 X.B, .bool X.L, .slice ax X.l.length cx], .agg #[.int .u64 a.E, .int .i64 a.B, .bool a.L, .slice p1 a.l.length q1]] w3 fun e w' => ∃ u, e = .returned u ∧ OwL w' w3.heap.size u X ∧ Below w3.heap.size w3 w' := fun w3 hb => by have h := merge_mg _ _ X a w3 (IX.out.keep hb) (IA.out.keep hb) HXL.out l1; rw [HAG.out] at h; exact h
  have M3 := Lib.hid m3
  clear m3
  rcases HOR.out with hq | ⟨hq, hq2⟩
  focus
    refine wp_region_spec (fun i => i == 2 || i == 13 || i == 15) (kinds [(2, .is (.bool true)), (13, .ln X.E X.B X.L X.l.length), (15, .is (.bool true))]) (CG w2a [] (Fof w2a.heap.size [(13, .l X)])) (by kernel_rfl) (by kernel_rfl) (kinds_inh _) CG.start ?_
    intro ν hν
    have n2 : ν 2 = (.bool true) := hν 2
    obtain ⟨a13, c13, n13⟩ : ∃ a c, ν 13 = .agg #[.int .u64 X.E, .int .i64 X.B, .bool X.L, .slice a X.l.length c] := hν 13
    have n15 : ν 15 = (.bool true) := hν 15
    clear hν
    refine lex_plain (by rfl) rfl ⟨.agg #[.int .u64 X.E, .int .i64 X.B, .bool X.L, .slice ax X.l.length cx], fun σ w2 hA hD hC => ?_, ?_⟩
    · rw [exec_load 25 (.tmp 7) rfl gx rfl 25 _ _ (HXB.out.keep hC.below) Try.underlying25 rfl (by kernel_rfl)]
      exact ⟨rfl, rfl⟩
    simp only [Act.put, List.setIfInBounds_toArray, List.set_cons_succ, List.set_cons_zero, Nat.reduceAdd]
    refine lex_plain (by rfl) rfl ⟨.agg #[.int .u64 a.E, .int .i64 a.B, .bool a.L, .slice p1 a.l.length q1], fun σ w2 hA hD hC => ?_, ?_⟩
    · rw [exec_load 25 (.tmp 3) rfl w.heap.size rfl 25 _ _ (HA.out.keep hC.below) Try.underlying25 rfl (by kernel_rfl)]
      exact ⟨rfl, rfl⟩
    simp only [Act.put, List.setIfInBounds_toArray, List.set_cons_succ, List.set_cons_zero, Nat.reduceAdd]
    refine lex_special (by rfl) rfl (fun σ w2 hA hD hn hC => ?_) ?_
    · go_simp
      exact num_ok hC hn (by simp) _ (same_lit _ _ X a true _ (IX.out.keep hC.below) (IA.out.keep hC.below) hq) (fun _ _ => trivial) rfl
    rw [n2]
    simp only [Act.put, List.setIfInBounds_toArray, List.set_cons_succ, List.set_cons_zero, Nat.reduceAdd]
    refine lex_plain (by rfl) rfl ?_
    apply Exists.intro
    refine ⟨fun σ w2 hA hD hC => ?_, ?_⟩
    · clear hA hD hC
      go_simp
      exact And.intro rfl rfl
    simp only [Act.put, List.setIfInBounds_toArray, List.set_cons_succ, List.set_cons_zero, Nat.reduceAdd]
    refine lex_plain (by rfl) rfl ?_
    apply Exists.intro
    refine ⟨fun σ w2 hA hD hC => ?_, ?_⟩
    · clear hA hD hC
      go_simp
      exact And.intro rfl rfl
    simp only [Act.put, List.setIfInBounds_toArray, List.set_cons_succ, List.set_cons_zero, Nat.reduceAdd]
    refine lex_skip (by rfl) rfl ?_
    simp only [Act.put, List.setIfInBounds_toArray, List.set_cons_succ, List.set_cons_zero, Nat.reduceAdd]
    refine lex_skip (by rfl) rfl ?_
    simp only [Act.put, List.setIfInBounds_toArray, List.set_cons_succ, List.set_cons_zero, Nat.reduceAdd]
    refine lex_skip (by rfl) rfl ?_
    simp only [Act.put, List.setIfInBounds_toArray, List.set_cons_succ, List.set_cons_zero, Nat.reduceAdd]
    refine lex_skip (by rfl) rfl ?_
    simp only [Act.put, List.setIfInBounds_toArray, List.set_cons_succ, List.set_cons_zero, Nat.reduceAdd]
    refine lex_plain (by rfl) rfl ?_
    apply Exists.intro
    refine ⟨fun σ w2 hA hD hC => ?_, ?_⟩
    · clear hA hD hC
      go_simp
      exact And.intro rfl rfl
    simp only [Act.put, List.setIfInBounds_toArray, List.set_cons_succ, List.set_cons_zero, Nat.reduceAdd]
    refine lex_plain (by rfl) rfl ?_
    apply Exists.intro
    refine ⟨fun σ w2 hA hD hC => ?_, ?_⟩
    · clear hA hD hC
      go_simp
      exact And.intro rfl rfl
    simp only [Act.put, List.setIfInBounds_toArray, List.set_cons_succ, List.set_cons_zero, Nat.reduceAdd]
    refine lex_plain (by rfl) rfl ⟨.agg #[.int .u64 X.E, .int .i64 X.B, .bool X.L, .slice ax X.l.length cx], fun σ w2 hA hD hC => ?_, ?_⟩
    · rw [exec_load 25 (.tmp 7) rfl gx rfl 25 _ _ (HXB.out.keep hC.below) Try.underlying25 rfl (by kernel_rfl)]
      exact ⟨rfl, rfl⟩
    simp only [Act.put, List.setIfInBounds_toArray, List.set_cons_succ, List.set_cons_zero, Nat.reduceAdd]
    refine lex_plain (by rfl) rfl ⟨.agg #[.int .u64 a.E, .int .i64 a.B, .bool a.L, .slice p1 a.l.length q1], fun σ w2 hA hD hC => ?_, ?_⟩
    · rw [exec_load 25 (.tmp 3) rfl w.heap.size rfl 25 _ _ (HA.out.keep hC.below) Try.underlying25 rfl (by kernel_rfl)]
      exact ⟨rfl, rfl⟩
    simp only [Act.put, List.setIfInBounds_toArray, List.set_cons_succ, List.set_cons_zero, Nat.reduceAdd]
    refine lex_special (by rfl) rfl (fun σ w2 hA hD hn hC => ?_) ?_
    · go_simp
      exact line_ok hC hn (by simp) X (M3.out _ hC.below) (fun _ _ h => h) (fun a c => ⟨a, c, rfl⟩)
    rw [n13]
    simp only [Act.put, List.setIfInBounds_toArray, List.set_cons_succ, List.set_cons_zero, Nat.reduceAdd]
    refine lex_plain (by rfl) rfl ⟨.agg #[.int .u64 X.E, .int .i64 X.B, .bool X.L, .slice ax X.l.length cx], fun σ w2 hA hD hC => ?_, ?_⟩
    · rw [exec_load 25 (.tmp 7) rfl gx rfl 25 _ _ (HXB.out.keep hC.below) Try.underlying25 rfl (by kernel_rfl)]
      exact ⟨rfl, rfl⟩
    simp only [Act.put, List.setIfInBounds_toArray, List.set_cons_succ, List.set_cons_zero, Nat.reduceAdd]
    refine lex_special (by rfl) rfl (fun σ w2 hA hD hn hC => ?_) ?_
    · have e13 := got1 hA hD 13 rfl (by kernel_rfl)
      rw [n13] at e13
      have f13 : OwL w2 w2a.heap.size _ X := hC.fact e13 (by simp)
      go_simp
      exact num_ok hC hn (by simp) _ (same_lit _ _ X X true _ f13.rd (IX.out.keep hC.below) hs3) (fun _ _ => trivial) rfl
    rw [n15]
    simp only [Act.put, List.setIfInBounds_toArray, List.set_cons_succ, List.set_cons_zero, Nat.reduceAdd]
    refine lex_plain (by rfl) rfl ?_
    apply Exists.intro
    refine ⟨fun σ w2 hA hD hC => ?_, ?_⟩
    · clear hA hD hC
      go_simp
      exact And.intro rfl rfl
    simp only [Act.put, List.setIfInBounds_toArray, List.set_cons_succ, List.set_cons_zero, Nat.reduceAdd]
    refine lex_plain (by rfl) rfl ?_
    apply Exists.intro
    refine ⟨fun σ w2 hA hD hC => ?_, ?_⟩
    · clear hA hD hC
      go_simp
      exact And.intro rfl rfl
    simp only [Act.put, List.setIfInBounds_toArray, List.set_cons_succ, List.set_cons_zero, Nat.reduceAdd]
    refine lex_nil (fun σ w3a hA hall hC => ?_)
  rotate_left
  focus
    refine wp_region_spec (fun i => i == 2 || i == 7 || i == 13 || i == 15) (kinds [(2, .is (.bool false)), (7, .is (.bool true)), (13, .ln X.E X.B X.L X.l.length), (15, .is (.bool true))]) (CG w2a [] (Fof w2a.heap.size [(13, .l X)])) (by kernel_rfl) (by kernel_rfl) (kinds_inh _) CG.start ?_
    intro ν hν
    have n2 : ν 2 = (.bool false) := hν 2
    have n7 : ν 7 = (.bool true) := hν 7
    obtain ⟨a13, c13, n13⟩ : ∃ a c, ν 13 = .agg #[.int .u64 X.E, .int .i64 X.B, .bool X.L, .slice a X.l.length c] := hν 13
    have n15 : ν 15 = (.bool true) := hν 15
    clear hν
    refine lex_plain (by rfl) rfl ⟨.agg #[.int .u64 X.E, .int .i64 X.B, .bool X.L, .slice ax X.l.length cx], fun σ w2 hA hD hC => ?_, ?_⟩
    · rw [exec_load 25 (.tmp 7) rfl gx rfl 25 _ _ (HXB.out.keep hC.below) Try.underlying25 rfl (by kernel_rfl)]
      exact ⟨rfl, rfl⟩
    simp only [Act.put, List.setIfInBounds_toArray, List.set_cons_succ, List.set_cons_zero, Nat.reduceAdd]
    refine lex_plain (by rfl) rfl ⟨.agg #[.int .u64 a.E, .int .i64 a.B, .bool a.L, .slice p1 a.l.length q1], fun σ w2 hA hD hC => ?_, ?_⟩
    · rw [exec_load 25 (.tmp 3) rfl w.heap.size rfl 25 _ _ (HA.out.keep hC.below) Try.underlying25 rfl (by kernel_rfl)]
      exact ⟨rfl, rfl⟩
    simp only [Act.put, List.setIfInBounds_toArray, List.set_cons_succ, List.set_cons_zero, Nat.reduceAdd]
    refine lex_special (by rfl) rfl (fun σ w2 hA hD hn hC => ?_) ?_
    · go_simp
      exact num_ok hC hn (by simp) _ (same_lit _ _ X a false _ (IX.out.keep hC.below) (IA.out.keep hC.below) hq) (fun _ _ => trivial) rfl
    rw [n2]
    simp only [Act.put, List.setIfInBounds_toArray, List.set_cons_succ, List.set_cons_zero, Nat.reduceAdd]
    refine lex_plain (by rfl) rfl ?_
    apply Exists.intro
    refine ⟨fun σ w2 hA hD hC => ?_, ?_⟩
    · clear hA hD hC
      go_simp
      exact And.intro rfl rfl
    simp only [Act.put, List.setIfInBounds_toArray, List.set_cons_succ, List.set_cons_zero, Nat.reduceAdd]
    refine lex_plain (by rfl) rfl ?_
    apply Exists.intro
    refine ⟨fun σ w2 hA hD hC => ?_, ?_⟩
    · clear hA hD hC
      go_simp
      exact And.intro rfl rfl
    simp only [Act.put, List.setIfInBounds_toArray, List.set_cons_succ, List.set_cons_zero, Nat.reduceAdd]
    refine lex_plain (by rfl) rfl ⟨.agg #[.int .u64 X.E, .int .i64 X.B, .bool X.L, .slice ax X.l.length cx], fun σ w2 hA hD hC => ?_, ?_⟩
    · rw [exec_load 25 (.tmp 7) rfl gx rfl 25 _ _ (HXB.out.keep hC.below) Try.underlying25 rfl (by kernel_rfl)]
      exact ⟨rfl, rfl⟩
    simp only [Act.put, List.setIfInBounds_toArray, List.set_cons_succ, List.set_cons_zero, Nat.reduceAdd]
    refine lex_plain (by rfl) rfl ⟨.agg #[.int .u64 b.E, .int .i64 b.B, .bool b.L, .slice p2 b.l.length q2], fun σ w2 hA hD hC => ?_, ?_⟩
    · rw [exec_load 25 (.tmp 4) rfl (w.heap.size + 1) rfl 25 _ _ (HBB.out.keep hC.below) Try.underlying25 rfl (by kernel_rfl)]
      exact ⟨rfl, rfl⟩
    simp only [Act.put, List.setIfInBounds_toArray, List.set_cons_succ, List.set_cons_zero, Nat.reduceAdd]
    refine lex_special (by rfl) rfl (fun σ w2 hA hD hn hC => ?_) ?_
    · go_simp
      exact num_ok hC hn (by simp) _ (same_lit _ _ X b true _ (IX.out.keep hC.below) (IB.out.keep hC.below) hq2) (fun _ _ => trivial) rfl
    rw [n7]
    simp only [Act.put, List.setIfInBounds_toArray, List.set_cons_succ, List.set_cons_zero, Nat.reduceAdd]
    refine lex_plain (by rfl) rfl ?_
    apply Exists.intro
    refine ⟨fun σ w2 hA hD hC => ?_, ?_⟩
    · clear hA hD hC
      go_simp
      exact And.intro rfl rfl
    simp only [Act.put, List.setIfInBounds_toArray, List.set_cons_succ, List.set_cons_zero, Nat.reduceAdd]
    refine lex_plain (by rfl) rfl ?_
    apply Exists.intro
    refine ⟨fun σ w2 hA hD hC => ?_, ?_⟩
    · clear hA hD hC
      go_simp
      exact And.intro rfl rfl
    simp only [Act.put, List.setIfInBounds_toArray, List.set_cons_succ, List.set_cons_zero, Nat.reduceAdd]
    refine lex_plain (by rfl) rfl ?_
    apply Exists.intro
    refine ⟨fun σ w2 hA hD hC => ?_, ?_⟩
    · clear hA hD hC
      go_simp
      exact And.intro rfl rfl
    simp only [Act.put, List.setIfInBounds_toArray, List.set_cons_succ, List.set_cons_zero, Nat.reduceAdd]
    refine lex_plain (by rfl) rfl ⟨.agg #[.int .u64 X.E, .int .i64 X.B, .bool X.L, .slice ax X.l.length cx], fun σ w2 hA hD hC => ?_, ?_⟩
    · rw [exec_load 25 (.tmp 7) rfl gx rfl 25 _ _ (HXB.out.keep hC.below) Try.underlying25 rfl (by kernel_rfl)]
      exact ⟨rfl, rfl⟩
    simp only [Act.put, List.setIfInBounds_toArray, List.set_cons_succ, List.set_cons_zero, Nat.reduceAdd]
    refine lex_plain (by rfl) rfl ⟨.agg #[.int .u64 a.E, .int .i64 a.B, .bool a.L, .slice p1 a.l.length q1], fun σ w2 hA hD hC => ?_, ?_⟩
    · rw [exec_load 25 (.tmp 3) rfl w.heap.size rfl 25 _ _ (HA.out.keep hC.below) Try.underlying25 rfl (by kernel_rfl)]
      exact ⟨rfl, rfl⟩
    simp only [Act.put, List.setIfInBounds_toArray, List.set_cons_succ, List.set_cons_zero, Nat.reduceAdd]
    refine lex_special (by rfl) rfl (fun σ w2 hA hD hn hC => ?_) ?_
    · go_simp
      exact line_ok hC hn (by simp) X (M3.out _ hC.below) (fun _ _ h => h) (fun a c => ⟨a, c, rfl⟩)
    rw [n13]
    simp only [Act.put, List.setIfInBounds_toArray, List.set_cons_succ, List.set_cons_zero, Nat.reduceAdd]
    refine lex_plain (by rfl) rfl ⟨.agg #[.int .u64 X.E, .int .i64 X.B, .bool X.L, .slice ax X.l.length cx], fun σ w2 hA hD hC => ?_, ?_⟩
    · rw [exec_load 25 (.tmp 7) rfl gx rfl 25 _ _ (HXB.out.keep hC.below) Try.underlying25 rfl (by kernel_rfl)]
      exact ⟨rfl, rfl⟩
    simp only [Act.put, List.setIfInBounds_toArray, List.set_cons_succ, List.set_cons_zero, Nat.reduceAdd]
    refine lex_special (by rfl) rfl (fun σ w2 hA hD hn hC => ?_) ?_
    · have e13 := got1 hA hD 13 rfl (by kernel_rfl)
      rw [n13] at e13
      have f13 : OwL w2 w2a.heap.size _ X := hC.fact e13 (by simp)
      go_simp
      exact num_ok hC hn (by simp) _ (same_lit _ _ X X true _ f13.rd (IX.out.keep hC.below) hs3) (fun _ _ => trivial) rfl
    rw [n15]
    simp only [Act.put, List.setIfInBounds_toArray, List.set_cons_succ, List.set_cons_zero, Nat.reduceAdd]
    refine lex_plain (by rfl) rfl ?_
    apply Exists.intro
    refine ⟨fun σ w2 hA hD hC => ?_, ?_⟩
    · clear hA hD hC
      go_simp
      exact And.intro rfl rfl
    simp only [Act.put, List.setIfInBounds_toArray, List.set_cons_succ, List.set_cons_zero, Nat.reduceAdd]
    refine lex_plain (by rfl) rfl ?_
    apply Exists.intro
    refine ⟨fun σ w2 hA hD hC => ?_, ?_⟩
    · clear hA hD hC
      go_simp
      exact And.intro rfl rfl
    simp only [Act.put, List.setIfInBounds_toArray, List.set_cons_succ, List.set_cons_zero, Nat.reduceAdd]
    refine lex_nil (fun σ w3a hA hall hC => ?_)
  rotate_left
  all_goals
    have HB := Lib.hid (HB.out.trans (hC.below.mono HB.out.size))
    have HA := Lib.hid (HA.out.keep hC.below)
    have HBB := Lib.hid (HBB.out.keep hC.below)
    have HCC := Lib.hid (HCC.out.keep hC.below)
    have IA := Lib.hid (IA.out.keep hC.below)
    have IB := Lib.hid (IB.out.keep hC.below)
    have IC := Lib.hid (IC.out.keep hC.below)
    clear hA hall hC hs3 M3 IX HXB
    go_wp2_with fail
    obtain ⟨Z, hZ⟩ : ∃ Z, Z = mg b c := ⟨_, rfl⟩
    obtain ⟨V, hV⟩ : ∃ V, V = mg X c := ⟨_, rfl⟩
    have hVV : mg a Z = V := by rw [hZ, hV, HX.out, mg_assoc]
    have hZl : Z.l.length ≤ 2 ^ 43 := hZ ▸ mg_len b c _ l2 l3
    have m1 : ∀ w4, Below w3a.heap.size w3a w4 → Calls Try.prog 11 #[.agg #[.int .u64 a.E, .int .i64 a.B, .bool a.L, .slice p1 a.l.length q1], .agg #[.int .u64 b.E, .int .i64 b.B, .bool b.L, .slice p2 b.l.length q2]] w4 fun e w' => ∃ u, e = .returned u ∧ OwL w' w4.heap.size u X ∧ Below w4.heap.size w4 w' := fun w4 hb => HX.out ▸ merge_mg _ _ a b w4 (IA.out.keep hb) (IB.out.keep hb) l1 l2
    have m2 : ∀ w4, Below w3a.heap.size w3a w4 → Calls Try.prog 11 #[.agg #[.int .u64 b.E, .int .i64 b.B, .bool b.L, .slice p2 b.l.length q2], .agg #[.int .u64 c.E, .int .i64 c.B, .bool c.L, .slice p3 c.l.length q3]] w4 fun e w' => ∃ u, e = .returned u ∧ OwL w' w4.heap.size u Z ∧ Below w4.heap.size w4 w' := fun w4 hb => hZ ▸ merge_mg _ _ b c w4 (IB.out.keep hb) (IC.out.keep hb) l2 l3
    have m3 : ∀ w4 u, Below w3a.heap.size w3a w4 → InL w4 u X → Calls Try.prog 11 #[u, .agg #[.int .u64 c.E, .int .i64 c.B, .bool c.L, .slice p3 c.l.length q3]] w4 fun e w' => ∃ u, e = .returned u ∧ OwL w' w4.heap.size u V ∧ Below w4.heap.size w4 w' := fun w4 u hb hu => hV ▸ merge_mg _ _ X c w4 hu (IC.out.keep hb) HXL.out l3
    have m4 : ∀ w4 u, Below w3a.heap.size w3a w4 → InL w4 u Z → Calls Try.prog 11 #[.agg #[.int .u64 a.E, .int .i64 a.B, .bool a.L, .slice p1 a.l.length q1], u] w4 fun e w' => ∃ u, e = .returned u ∧ OwL w' w4.heap.size u V ∧ Below w4.heap.size w4 w' := fun w4 u hb hu => hVV ▸ merge_mg _ _ a Z w4 (IA.out.keep hb) hu l1 hZl
    have M1 := Lib.hid m1
    have M2 := Lib.hid m2
    have M3 := Lib.hid m3
    have M4 := Lib.hid m4
    clear m1 m2 m3 m4 hZ hV hVV hZl
    refine wp_region_spec (fun i => i == 2 || i == 4 || i == 8 || i == 9 || i == 10 || i == 11 || i == 12 || i == 13) (kinds [(2, .ln X.E X.B X.L X.l.length), (4, .ln V.E V.B V.L V.l.length), (8, .ln Z.E Z.B Z.L Z.l.length), (9, .ln V.E V.B V.L V.l.length), (10, .pt), (11, .pt), (12, .is undef), (13, .is undef)]) (CG w3a ovt (Fof w3a.heap.size [(2, .l X), (4, .l V), (8, .l Z), (9, .l V)])) (by kernel_rfl) (by kernel_rfl) (kinds_inh _) CG.start ?_
    intro ν hν
    obtain ⟨a2, c2, n2⟩ : ∃ a c, ν 2 = .agg #[.int .u64 X.E, .int .i64 X.B, .bool X.L, .slice a X.l.length c] := hν 2
    obtain ⟨a4, c4, n4⟩ : ∃ a c, ν 4 = .agg #[.int .u64 V.E, .int .i64 V.B, .bool V.L, .slice a V.l.length c] := hν 4
    obtain ⟨a8, c8, n8⟩ : ∃ a c, ν 8 = .agg #[.int .u64 Z.E, .int .i64 Z.B, .bool Z.L, .slice a Z.l.length c] := hν 8
    obtain ⟨a9, c9, n9⟩ : ∃ a c, ν 9 = .agg #[.int .u64 V.E, .int .i64 V.B, .bool V.L, .slice a V.l.length c] := hν 9
    obtain ⟨g10, n10⟩ : ∃ g, ν 10 = ptr g := hν 10
    obtain ⟨g11, n11⟩ : ∃ g, ν 11 = ptr g := hν 11
    have n12 : ν 12 = undef := hν 12
    have n13 : ν 13 = undef := hν 13
    clear hν
    refine lex_plain (by rfl) rfl ⟨.agg #[.int .u64 a.E, .int .i64 a.B, .bool a.L, .slice p1 a.l.length q1], fun σ w2 hA hD hC => ?_, ?_⟩
    · rw [exec_load 25 (.tmp 3) rfl w.heap.size rfl 25 _ _ (HA.out.keep hC.below) Try.underlying25 rfl (by kernel_rfl)]
      exact ⟨rfl, rfl⟩
    simp only [Act.put, List.setIfInBounds_toArray, List.set_cons_succ, List.set_cons_zero, Nat.reduceAdd]
    refine lex_plain (by rfl) rfl ⟨.agg #[.int .u64 b.E, .int .i64 b.B, .bool b.L, .slice p2 b.l.length q2], fun σ w2 hA hD hC => ?_, ?_⟩
    · rw [exec_load 25 (.tmp 4) rfl (w.heap.size + 1) rfl 25 _ _ (HBB.out.keep hC.below) Try.underlying25 rfl (by kernel_rfl)]
      exact ⟨rfl, rfl⟩
    simp only [Act.put, List.setIfInBounds_toArray, List.set_cons_succ, List.set_cons_zero, Nat.reduceAdd]
    refine lex_special (by rfl) rfl (fun σ w2 hA hD hn hC => ?_) ?_
    · go_simp
      exact line_ok hC hn (by simp [ovt]) X (M1.out _ hC.below) (fun _ _ h => h) (fun a c => ⟨a, c, rfl⟩)
    rw [n2]
    simp only [Act.put, List.setIfInBounds_toArray, List.set_cons_succ, List.set_cons_zero, Nat.reduceAdd]
    refine lex_plain (by rfl) rfl ⟨.agg #[.int .u64 c.E, .int .i64 c.B, .bool c.L, .slice p3 c.l.length q3], fun σ w2 hA hD hC => ?_, ?_⟩
    · rw [exec_load 25 (.tmp 5) rfl (w.heap.size + 1 + 1) rfl 25 _ _ (HCC.out.keep hC.below) Try.underlying25 rfl (by kernel_rfl)]
      exact ⟨rfl, rfl⟩
    simp only [Act.put, List.setIfInBounds_toArray, List.set_cons_succ, List.set_cons_zero, Nat.reduceAdd]
    refine lex_special (by rfl) rfl (fun σ w2 hA hD hn hC => ?_) ?_
    · have e2 := got1 hA hD 2 rfl (by kernel_rfl)
      rw [n2] at e2
      have f2 : OwL w2 w3a.heap.size _ X := hC.fact e2 (by simp [ovt])
      go_simp
      exact line_ok hC hn (by simp [ovt]) V (M3.out _ _ hC.below f2.rd) (fun _ _ h => h) (fun a c => ⟨a, c, rfl⟩)
    rw [n4]
    simp only [Act.put, List.setIfInBounds_toArray, List.set_cons_succ, List.set_cons_zero, Nat.reduceAdd]
    refine lex_plain (by rfl) rfl ⟨.agg #[.int .u64 a.E, .int .i64 a.B, .bool a.L, .slice p1 a.l.length q1], fun σ w2 hA hD hC => ?_, ?_⟩
    · rw [exec_load 25 (.tmp 3) rfl w.heap.size rfl 25 _ _ (HA.out.keep hC.below) Try.underlying25 rfl (by kernel_rfl)]
      exact ⟨rfl, rfl⟩
    simp only [Act.put, List.setIfInBounds_toArray, List.set_cons_succ, List.set_cons_zero, Nat.reduceAdd]
    refine lex_plain (by rfl) rfl ⟨.agg #[.int .u64 b.E, .int .i64 b.B, .bool b.L, .slice p2 b.l.length q2], fun σ w2 hA hD hC => ?_, ?_⟩
    · rw [exec_load 25 (.tmp 4) rfl (w.heap.size + 1) rfl 25 _ _ (HBB.out.keep hC.below) Try.underlying25 rfl (by kernel_rfl)]
      exact ⟨rfl, rfl⟩
    simp only [Act.put, List.setIfInBounds_toArray, List.set_cons_succ, List.set_cons_zero, Nat.reduceAdd]
    refine lex_plain (by rfl) rfl ⟨.agg #[.int .u64 c.E, .int .i64 c.B, .bool c.L, .slice p3 c.l.length q3], fun σ w2 hA hD hC => ?_, ?_⟩
    · rw [exec_load 25 (.tmp 5) rfl (w.heap.size + 1 + 1) rfl 25 _ _ (HCC.out.keep hC.below) Try.underlying25 rfl (by kernel_rfl)]
      exact ⟨rfl, rfl⟩
    simp only [Act.put, List.setIfInBounds_toArray, List.set_cons_succ, List.set_cons_zero, Nat.reduceAdd]
    refine lex_special (by rfl) rfl (fun σ w2 hA hD hn hC => ?_) ?_
    · go_simp
      exact line_ok hC hn (by simp [ovt]) Z (M2.out _ hC.below) (fun _ _ h => h) (fun a c => ⟨a, c, rfl⟩)
    rw [n8]
    simp only [Act.put, List.setIfInBounds_toArray, List.set_cons_succ, List.set_cons_zero, Nat.reduceAdd]
    refine lex_special (by rfl) rfl (fun σ w2 hA hD hn hC => ?_) ?_
    · have e8 := got1 hA hD 8 rfl (by kernel_rfl)
      rw [n8] at e8
      have f8 : OwL w2 w3a.heap.size _ Z := hC.fact e8 (by simp [ovt])
      go_simp
      exact line_ok hC hn (by simp [ovt]) V (M4.out _ _ hC.below f8.rd) (fun _ _ h => h) (fun a c => ⟨a, c, rfl⟩)
    rw [n9]
    simp only [Act.put, List.setIfInBounds_toArray, List.set_cons_succ, List.set_cons_zero, Nat.reduceAdd]
    refine lex_special (by rfl) rfl (fun σ w2 hA hD hn hC => ?_) ?_
    · go_simp
      exact hC.lay_ok ofinet (v := ⟨10, 12, 25, zeroL, none, 4⟩) (by simp [ovt]) hn ⟨_, rfl⟩
    rw [n10]
    simp only [Act.put, List.setIfInBounds_toArray, List.set_cons_succ, List.set_cons_zero, Nat.reduceAdd]
    refine lex_special (by rfl) rfl (fun σ w2 hA hD hn hC => ?_) ?_
    · go_simp
      exact hC.lay_ok ofinet (v := ⟨11, 13, 25, zeroL, none, 9⟩) (by simp [ovt]) hn ⟨_, rfl⟩
    rw [n11]
    simp only [Act.put, List.setIfInBounds_toArray, List.set_cons_succ, List.set_cons_zero, Nat.reduceAdd]
    refine lex_special (by rfl) rfl (fun σ w2 hA hD hn hC => ?_) ?_
    · have ea := got1 hA hD 10 rfl (by kernel_rfl)
      have es := got1 hA hD 4 rfl (by kernel_rfl)
      rw [n10] at ea
      rw [n4] at es
      exact hC.store_ok ofinet (v := ⟨10, 12, 25, zeroL, none, 4⟩) (by simp [ovt]) 25 (.tmp 9) (.tmp 76) rfl g10 #[.int .u64 V.E, .int .i64 V.B, .bool V.L, .slice a4 V.l.length c4] rfl rfl ea es hn (by kernel_rfl) rfl (lineC_one _ _ _ _ _ _) rfl
    rw [n12]
    simp only [Act.put, Nat.reduceAdd]
    refine lex_special (by rfl) rfl (fun σ w2 hA hD hn hC => ?_) ?_
    · have ea := got1 hA hD 11 rfl (by kernel_rfl)
      have es := got1 hA hD 9 rfl (by kernel_rfl)
      rw [n11] at ea
      rw [n9] at es
      exact hC.store_ok ofinet (v := ⟨11, 13, 25, zeroL, none, 9⟩) (by simp [ovt]) 25 (.tmp 10) (.tmp 81) rfl g11 #[.int .u64 V.E, .int .i64 V.B, .bool V.L, .slice a9 V.l.length c9] rfl rfl ea es hn (by kernel_rfl) rfl (lineC_one _ _ _ _ _ _) rfl
    rw [n13]
    simp only [Act.put, Nat.reduceAdd]
    refine lex_nil (fun σ w4a hA hall hC => ?_)
    have HB := Lib.hid (HB.out.trans (hC.below.mono HB.out.size))
    obtain ⟨k6, f6, -, B6⟩ := hC.end_ (v := ⟨10, 12, 25, zeroL, none, 4⟩) (by simp [ovt]) (hall 10 rfl (by decide)) (hall 12 rfl (by decide))
    obtain ⟨k7, f7, -, B7⟩ := hC.end_ (v := ⟨11, 13, 25, zeroL, none, 9⟩) (by simp [ovt]) (hall 11 rfl (by decide)) (hall 13 rfl (by decide))
    have f6 := ptr_inj (n10.symm.trans f6)
    have f7 := ptr_inj (n11.symm.trans f7)
    rw [hall 4 rfl (by decide), n4] at B6
    rw [hall 9 rfl (by decide), n9] at B7
    subst f6
    subst f7
    have i4 := hC.fact (hall 4 rfl (by decide)) (by simp [ovt])
    have i9 := hC.fact (hall 9 rfl (by decide)) (by simp [ovt])
    rw [n4] at i4
    rw [n9] at i9
    have i4b : OwL w4a w3a.heap.size (.agg #[.int .u64 V.E, .int .i64 V.B, .bool V.L, .slice a4 V.l.length c4]) V := i4
    have i9b : OwL w4a w3a.heap.size (.agg #[.int .u64 V.E, .int .i64 V.B, .bool V.L, .slice a9 V.l.length c9]) V := i9
    have I4 := Lib.hid i4b.rd
    have I9 := Lib.hid i9b.rd
    have H4 := Lib.hid (show w4a.heap[g10]? = some (.cells #[.int .u64 V.E, .int .i64 V.B, .bool V.L, .slice a4 V.l.length c4] 25 (0, 0)) from B6)
    have H9 := Lib.hid (show w4a.heap[g11]? = some (.cells #[.int .u64 V.E, .int .i64 V.B, .bool V.L, .slice a9 V.l.length c9] 25 (0, 0)) from B7)
    clear hA hall hC n2 n4 n8 n9 n10 n11 n12 n13 B6 B7 i4 i9 i4b i9b M1 M2 M3 M4
    unfold ptr
    go_wp2_with (first | refine wpList_load_row (o := ⟨some 82, _, _, _, _, _⟩) rfl 25 _ rfl g10 rfl 25 _ (0, 0) _ H4.out Try.underlying25 rfl (by kernel_rfl) ?_ | refine wpList_load_row (o := ⟨some 83, _, _, _, _, _⟩) rfl 25 _ rfl g11 rfl 25 _ (0, 0) _ H9.out Try.underlying25 rfl (by kernel_rfl) ?_)
    refine (same_lit _ _ V V true _ I4.out I9.out (sameL_iff.2 rfl)).mono ?_
    rintro e w9 ⟨rfl, hb⟩
    have HB9 := Lib.hid (HB.out.trans (hb.mono HB.out.size))
    clear hb
    go_wp2
    go_ret
    exact ⟨rfl, HB9.out⟩
end Go.Proofs.Ytfkgidljgbhccaa
