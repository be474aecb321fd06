/-
  HOW FAR A LINE IS, walked.
-/
import Derived.Test.YtfkgidljgbhccaaLineRef
namespace Go.Proofs.Ytfkgidljgbhccaa
open Go.RowKit Reg

def cmp3 (a b : Int) : Int := if a < b then -1 else if b < a then 1 else 0
theorem nan_any (a : Int) (w : World) : Calls Try.prog 36 #[.int .u64 a] w fun e w' => e = .returned (.bool false) ∧ w = w' := by
  go_enter Try.func36, Try.ntmps36
  go_wp2
  go_ret
  exact ⟨by simp, rfl⟩
theorem cmp_any (a b : Int) (w : World) : Calls Try.prog 34 #[.int .u64 a, .int .u64 b] w fun e w' => e = .returned (.int .i64 (cmp3 a b)) ∧ w = w' := by
  have hs : (a < b ∧ cmp3 a b = -1) ∨ (b ≤ a ∧ b < a ∧ cmp3 a b = 1) ∨ (b ≤ a ∧ a ≤ b ∧ cmp3 a b = 0) := by
    unfold cmp3
    by_cases h1 : a < b
    · exact .inl ⟨h1, if_pos h1⟩
    · by_cases h2 : b < a
      · exact .inr (.inl ⟨by omega, h2, by rw [if_neg h1, if_pos h2]⟩)
      · exact .inr (.inr ⟨by omega, by omega, by rw [if_neg h1, if_neg h2]⟩)
  generalize cmp3 a b = r at *
  rcases hs with ⟨h1, rfl⟩ | ⟨h0, h1, rfl⟩ | ⟨h0, h1, rfl⟩
  all_goals
    go_enter Try.func34, Try.ntmps34
    go_wp2_with fail
    refine (nan_any _ _).mono ?_
    rintro e w1 ⟨rfl, rfl⟩
    go_wp2_with fail
    refine (nan_any _ _).mono ?_
    rintro e w1 ⟨rfl, rfl⟩
    go_wp2
    go_ret
    exact ⟨rfl, rfl⟩
def cmpL (x0 x1 x2 y0 y1 y2 : Int) : Int := if cmp3 x0 y0 ≠ 0 then cmp3 x0 y0 else if cmp3 x1 y1 ≠ 0 then cmp3 x1 y1 else cmp3 x2 y2
set_option maxRecDepth 100000 in
set_option maxHeartbeats 1000000 in
theorem compare_any (x0 x1 x2 y0 y1 y2 : Int) (g h : Nat) (c c' : Nat) (w : World)
    (hx0 : w.cell? ⟨g, 0, none⟩ = some (.int .u64 x0)) (hx1 : w.cell? ⟨g, 1, none⟩ = some (.int .u64 x1)) (hx2 : w.cell? ⟨g, 2, none⟩ = some (.int .u64 x2))
    (hy0 : w.cell? ⟨h, 0, none⟩ = some (.int .u64 y0)) (hy1 : w.cell? ⟨h, 1, none⟩ = some (.int .u64 y1)) (hy2 : w.cell? ⟨h, 2, none⟩ = some (.int .u64 y2)) :
    Calls Try.prog 25 #[.slice (some ⟨g, 0, none⟩) 3 c, .slice (some ⟨h, 0, none⟩) 3 c'] w fun e w' => e = .returned (.int .i64 (cmpL x0 x1 x2 y0 y1 y2)) ∧ w = w' := by
  have c0 := cmp_any x0 y0
  have c1 := cmp_any x1 y1
  have c2 := cmp_any x2 y2
  have hr : ∀ r, r = (if cmp3 x0 y0 ≠ 0 then cmp3 x0 y0 else if cmp3 x1 y1 ≠ 0 then cmp3 x1 y1 else cmp3 x2 y2) → cmpL x0 x1 x2 y0 y1 y2 = r := fun r h => h ▸ rfl
  generalize cmpL x0 x1 x2 y0 y1 y2 = r at *
  generalize cmp3 x0 y0 = r0 at *
  generalize cmp3 x1 y1 = r1 at *
  generalize cmp3 x2 y2 = r2 at *
  have C0 := Lib.hid c0
  have C1 := Lib.hid c1
  have C2 := Lib.hid c2
  have HR := Lib.hid hr
  clear c0 c1 c2 hr
  go_enter Try.func25, Try.ntmps25
  go_wp2_with fail
  refine wp_loop_rounds 4 ?_
  rw [rounds_succ]
  go_wp2_with fail
  refine (C0.out _).mono ?_
  rintro e w1 ⟨rfl, rfl⟩
  by_cases h0 : r0 = 0
  · subst h0
    have HR1 := HR.out
    simp only [ne_eq, not_true_eq_false, if_false] at HR1
    have HR1 := Lib.hid HR1
    go_wp2_with fail
    rw [rounds_succ]
    go_wp2_with fail
    refine (C1.out _).mono ?_
    rintro e w1 ⟨rfl, rfl⟩
    by_cases h1 : r1 = 0
    · subst h1
      have HR2 := HR1.out
      simp only [not_true_eq_false, if_false] at HR2
      have HR2 := Lib.hid HR2
      go_wp2_with fail
      rw [rounds_succ]
      go_wp2_with fail
      refine (C2.out _).mono ?_
      rintro e w1 ⟨rfl, rfl⟩
      by_cases h2 : r2 = 0
      · subst h2
        go_wp2_with fail
        rw [rounds_succ]
        go_wp2
        go_ret
        exact ⟨by rw [HR2.out _ rfl]; rfl, rfl⟩
      · go_wp2
        go_ret
        exact ⟨by rw [HR2.out _ rfl]; rfl, rfl⟩
    · have e1 := HR1.out r1 (by rw [if_pos h1])
      have E1 := Lib.hid e1
      clear e1
      go_wp2
      go_ret
      exact ⟨by rw [E1.out]; rfl, rfl⟩
  · have e1 := HR.out r0 (by rw [if_pos h0])
    have E1 := Lib.hid e1
    clear e1
    go_wp2
    go_ret
    exact ⟨by rw [E1.out]; rfl, rfl⟩

/-- a line: its epoch, what is before it, whether it is leased, its list -/
structure Ln where
  E : Int
  B : Int
  L : Bool
  l : List Gd
def valL (x : Ln) (sl : Value) : Value := .agg #[.int .u64 x.E, .int .i64 x.B, .bool x.L, sl]
def InL (w : World) (v : Value) (x : Ln) : Prop := ∃ sl, v = .agg #[.int .u64 x.E, .int .i64 x.B, .bool x.L, sl] ∧ InG w sl x.l ∧ (Lit.int .u64 x.E).wf = true ∧ (Lit.int .i64 x.B).wf = true
theorem InL.keep {w w' : World} {v : Value} {x : Ln} (h : InL w v x) (hb : Below w.heap.size w w') : InL w' v x := by
  obtain ⟨sl, rfl, h1, h2⟩ := h
  exact ⟨sl, rfl, h1.keep hb, h2⟩
def bit (L : Bool) : Int := if L = true then 1 else 0
def rankV (x : Ln) : Array Value := #[.int .u64 x.E, .int .u64 (x.l.length : Int), .int .u64 (bit x.L)]
set_option maxRecDepth 100000 in
theorem rank_any (v : Value) (x : Ln) (w : World) (hv : InL w v x) :
    Calls Try.prog 24 #[v] w fun e w' => e = .returned (.agg (rankV x)) ∧ Below w.heap.size w w' := by
  obtain ⟨sl, rfl, hs, -, -⟩ := hv
  obtain ⟨a, c, rfl, -, -⟩ := hs.open_
  have hn := hs.2.1
  unfold maxLen at hn
  unfold rankV
  obtain ⟨E, B, L, l⟩ := x
  have n9 : (l.length : Int) ≤ 9223372036854775807 := by simp only at hn; omega
  have n0 : (0 : Int) ≤ (l.length : Int) := by omega
  clear hs hn
  simp only
  generalize l.length = n at *
  cases L with
  | true =>
    go_enter Try.func24, Try.ntmps24
    go_wp2
    refine bodyPost_ret (results_cell_row Try.results24 _ _ (w.heap.size + 1) 41 _ (0, 0) _ rfl (Blk.alloc (Blk.newAt _ _ (by simp)) _) Try.underlying41 rfl (by kernel_rfl)) rfl ⟨rfl, ?_⟩
    exact (((Below.refl _ _).alloc (Nat.le_refl _) _).alloc (by simp) _).alloc (by simp; omega) _
  | false =>
    go_enter Try.func24, Try.ntmps24
    go_wp2
    refine bodyPost_ret (results_cell_row Try.results24 _ _ (w.heap.size + 1) 41 _ (0, 0) _ rfl (Blk.alloc (Blk.newAt _ _ (by simp)) _) Try.underlying41 rfl (by kernel_rfl)) rfl ⟨rfl, ?_⟩
    exact (((Below.refl _ _).alloc (Nat.le_refl _) _).alloc (by simp) _).alloc (by simp; omega) _

theorem rankV_one (x : Ln) : (rankV x).all (·.oneCell') = true := by simp [rankV]; exact ⟨rfl, rfl, rfl⟩
/-- is b further than a? -/
def further (b a : Ln) : Bool := if b.E ≠ a.E then decide (a.E < b.E) else if b.l.length ≠ a.l.length then decide (a.l.length < b.l.length) else b.L && !a.L
theorem further_cmp (x y : Ln) : decide (cmpL x.E x.l.length (bit x.L) y.E y.l.length (bit y.L) < 0) = further y x := by
  unfold cmpL further
  by_cases h1 : y.E = x.E
  · rw [h1]
    have e0 : cmp3 x.E x.E = 0 := by simp [cmp3]
    rw [e0]
    simp only [ne_eq, not_true_eq_false, if_false]
    by_cases h2 : y.l.length = x.l.length
    · rw [h2]
      have e1 : cmp3 (x.l.length : Int) (x.l.length : Int) = 0 := by simp [cmp3]
      rw [e1]
      simp only [not_true_eq_false, if_false]
      cases x.L <;> cases y.L <;> decide
    · rw [if_pos h2]
      have h3 : cmp3 (x.l.length : Int) (y.l.length : Int) ≠ 0 := by unfold cmp3; split <;> (try split) <;> omega
      rw [if_pos h3]
      unfold cmp3
      by_cases h4 : (x.l.length : Int) < (y.l.length : Int)
      · rw [if_pos h4]; have : x.l.length < y.l.length := by omega
        simp [this]
      · rw [if_neg h4]; have : ¬ x.l.length < y.l.length := by omega
        rw [if_pos (by omega)]; simp [this]
  · rw [if_pos h1]
    have h3 : cmp3 x.E y.E ≠ 0 := by unfold cmp3; split <;> (try split) <;> omega
    rw [if_pos h3]
    unfold cmp3
    by_cases h4 : x.E < y.E
    · rw [if_pos h4]; simp [h4]
    · rw [if_neg h4, if_pos (by omega)]; simp [h4]
def sameR (x y : Ln) : Bool := x.E == y.E && ((x.l.length : Int) == (y.l.length : Int) && bit x.L == bit y.L)
theorem sameR_further {x y : Ln} (h : sameR x y = true) : further y x = false := by
  unfold sameR at h
  simp only [Bool.and_eq_true, beq_iff_eq] at h
  rw [← further_cmp, h.1, h.2.1, h.2.2]
  simp [cmpL, cmp3]
theorem u64_info : (Try.prog.info? 22).map (fun i => (i.zero, i.size, i.bytes)) = some (some (.int .u64 0), 1, 8) := by kernel_rfl
theorem eqR_items (X Y : List Int) (d : Nat) (w : World) (hX : X.length = 3) (hY : Y.length = 3) : ∀ is : List Nat, (∀ i ∈ is, i < 3) →
    (Op.eqItems (d + 1) 22 1 (X.map (Value.int .u64)).toArray (Y.map (Value.int .u64)).toArray is).run Try.prog w = .ok (is.all fun i => X.getD i 0 == Y.getD i 0) w := by
  intro is
  induction is with
  | nil => intro _; rfl
  | cons i is ih =>
    intro h
    have hi := h i (by simp)
    have hx : ∀ l : List Int, l.length = 3 → (l.map (Value.int .u64)).toArray[i * 1]? = some (.int .u64 (l.getD i 0)) := fun l hl => by simp [show i < l.length by omega]
    have e := run_equalIn_int w (P := Try.prog) d 22 .u64 .u64 (X.getD i 0) (Y.getD i 0) Try.underlying22
    rw [Op.eqItems]
    simp only [Sem.run_bind, run_part_plain w (P := Try.prog) (e := 22) (by kernel_rfl) (hx X hX), run_part_plain w (P := Try.prog) (e := 22) (by kernel_rfl) (hx Y hY), Result.andThen_ok, e, List.all_cons]
    cases hz : X.getD i 0 == Y.getD i 0 with
    | false => rfl
    | true => exact ih (fun j hj => h j (by simp [hj]))
theorem run_equalIn_rank (x y : Ln) (w : World) : (Op.equalIn 10000 41 (.agg (rankV x)) (.agg (rankV y))).run Try.prog w = .ok (sameR x y) w := by
  obtain ⟨i, hi, _, _, _⟩ := info_parts u64_info
  have h := eqR_items [x.E, x.l.length, bit x.L] [y.E, y.l.length, bit y.L] 9998 w rfl rfl (List.range 3) (fun i hi => by simpa using hi)
  have e1 : ∀ z : Ln, rankV z = ([z.E, (z.l.length : Int), bit z.L].map (Value.int .u64)).toArray := fun _ => rfl
  rw [run_equalIn_array w (P := Try.prog) 9999 _ _ Try.underlying41 hi, show Try.prog.cellsOf 22 = 1 from by kernel_rfl, e1 x, e1 y, h]
  simp [sameR, List.range_succ]
theorem run_neq_rank (x y : Ln) (w : World) : (binOp .neq 41 (.agg (rankV x)) (.agg (rankV y))).run Try.prog w = .ok (.bool (!sameR x y)) w := by
  simp only [binOp]
  simp [Op.equal, Op.maxDepth, run_equalIn_rank x y w]
theorem run_eq_rank (x y : Ln) (w : World) : (binOp .eql 41 (.agg (rankV x)) (.agg (rankV y))).run Try.prog w = .ok (.bool (sameR x y)) w := by
  simp only [binOp]
  simp [Op.equal, Op.maxDepth, run_equalIn_rank x y w]
/-- a copy of a list -/
theorem clone_any (v : Value) (gs : List Gd) (w : World) (hv : InG w v gs) (h1 : gs.length ≤ 2 ^ 43) :
    Calls Try.prog 26 #[v] w fun e w' => ∃ u, e = .returned u ∧ OwG w' w.heap.size u gs ∧ Below w.heap.size w w' := by
  obtain ⟨a, c, rfl, -, hx⟩ := hv.open_
  cases a with
  | none =>
    have h0 : gs = [] := by
      rcases Nat.eq_zero_or_pos gs.length with q | q
      · exact List.length_eq_zero_iff.1 q
      · obtain ⟨g, off, e, _⟩ := hx 0 q
        cases e
    subst h0
    clear hx hv h1
    have heq : ∀ w : World, (binOp BinOp.eql 23 (.slice none 0 c) (.slice none 0 0)).run Try.prog w = .ok (.bool true) w := fun w => Lib.run_eql_slice_nil w 23 32 _ _ _ _ _ Try.underlying23
    rw [List.length_nil]
    go_enter Try.func26, Try.ntmps26
    go_wp2
    go_ret
    exact ⟨_, rfl, OwG.nil_ _ _, Below.refl _ _⟩
  | some ad =>
    have h0 : OwG (w.alloc (.cells #[] 32)) w.heap.size (.slice (some ⟨w.heap.size, 0, none⟩) 0 0) [] := ⟨own_new w w.heap.size 32 #[] 2 0 rfl (Nat.le_refl _) (by decide), by simp, by simp⟩
    have hA := app_guids 23 h0 (hv.keep ((Below.refl _ _).alloc (Nat.le_refl _) _)) (by simp; omega) (by simp)
    have HA := Lib.hid hA
    have H0 := Lib.hid h0
    have heq : ∀ w : World, (binOp BinOp.eql 23 (.slice (some ad) gs.length c) (.slice none 0 0)).run Try.prog w = .ok (.bool false) w := fun w => Lib.run_eql_slice_nil w 23 32 _ _ _ _ _ Try.underlying23
    clear hA h0 hx hv h1
    go_enter Try.func26, Try.ntmps26
    go_wp2_with (at_builtin; refine wpList_append_run rfl _ _ 23 rfl _ _ rfl rfl _ HA.out ?_)
    refine Later.mk fun _ _ v' w' hp => ?_
    have HO := Lib.hid hp.1
    have HB := Lib.hid (((Below.refl w.heap.size w).alloc (Nat.le_refl _) _).trans (hp.below H0.out (by simp)))
    clear hp HA H0
    go_wp2
    go_ret
    exact ⟨_, rfl, HO.out, HB.out⟩
end Go.Proofs.Ytfkgidljgbhccaa
