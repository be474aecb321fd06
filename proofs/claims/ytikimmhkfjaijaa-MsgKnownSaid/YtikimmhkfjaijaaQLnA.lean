/-
  LINES: Same (printed by wip/gen-msgbase.py).
-/
import Derived.Test.YtikimmhkfjaijaaGuidEq
import Derived.Test.YtikimmhkfjaijaaGrow
import Derived.Test.YtikimmhkfjaijaaRegion
namespace Go.Proofs.Ytikimmhkfjaijaa
open Go.RowKit Reg

theorem equal_any (v v' : Value) (gs hs : List Gd) (w : World) (hv : InG w v gs) (hv' : InG w v' hs) :
    Calls Try.prog 28 #[v, v'] w fun e w' => e = .returned (.bool (decide (gs = hs))) ∧ Below w.heap.size w w' := by
  obtain ⟨a, c, rfl, -, hx⟩ := hv.open_
  obtain ⟨a', c', rfl, -, hx'⟩ := hv'.open_
  have hneq := run_neq_guid
  by_cases hl : gs.length = hs.length
  · rw [← hl] at hx' ⊢
    have hres : ∀ b, (b = true ↔ ∀ j, j < gs.length → gs.getD j (0, 0) = hs.getD j (0, 0)) → decide (gs = hs) = b := by
      intro b hb
      rw [Bool.eq_iff_iff, hb, decide_eq_true_iff]
      exact ⟨fun h => h ▸ fun _ _ => rfl, eqG_of_getD hl⟩
    generalize decide (gs = hs) = b at *
    generalize hZ : (fun j => gs.getD j (0, 0)) = Z at *
    generalize hZ' : (fun j => hs.getD j (0, 0)) = Z' at *
    have g1 : ∀ j, gs.getD j (0, 0) = Z j := fun j => by subst hZ; rfl
    have g2 : ∀ j, hs.getD j (0, 0) = Z' j := fun j => by subst hZ'; rfl
    simp only [g1] at hx hres
    simp only [g2] at hx' hres
    have hn := hv.2.1
    clear hZ hZ' hv hv' hl g1 g2
    generalize gs.length = n at *
    have HX := Lib.hid hx
    have HX' := Lib.hid hx'
    have HR := Lib.hid hres
    have HN := Lib.hid hn
    clear hx hx' hres hn
    go_enter Try.func28, Try.ntmps28
    go_wp2_with fail
    go_loopw [13] (fun i wr => ∃ k : Nat, k ≤ n ∧ (∀ j, j < k → Z j = Z' j) ∧ i = .int .i64 k ∧ Below w.heap.size w wr) (fun i _ => n - (intOf i).toNat)
    case atStart => exact ⟨0, Nat.zero_le _, fun j hj => by omega, rfl, Below.refl _ _⟩
    case round =>
      obtain ⟨k, hk, hq, rfl, hb⟩ := hrel
      have HB := Lib.hid hb
      have HQ := Lib.hid hq
      clear hb hq
      by_cases hkn : k < n
      · obtain ⟨g, off, rfl, hc, hd⟩ := HX.out k hkn
        obtain ⟨g', off', rfl, hc', hd'⟩ := HX'.out k hkn
        have hc1 := cell_later HB.out hc
        have hc2 := cell_later HB.out hd
        have hc3 := cell_later HB.out hc'
        have hc4 := cell_later HB.out hd'
        have i1 : (k : Int) < (n : Int) := by omega
        have hn := HN.out
        unfold maxLen at hn
        have k9 : (k : Int) < 9223372036854775807 := by omega
        have HKN := Lib.hid hkn
        clear hc hd hc' hd' hkn hn
        by_cases hz : sameG (Z k) (Z' k) = true
        · have hzz := sameG_iff.1 hz
          unfold sameG at hz
          have HZ := Lib.hid hzz
          clear hzz
          go_wp2_with fail
          go_quiet (fail)
          have HB1 := Lib.hid (below_drewN HB.out nq)
          clear HB
          have hkn := HKN.out
          go_wp2
          refine ⟨⟨k + 1, by omega, ?_, by go_num, HB1.out⟩, by simp [intOf]; omega⟩
          intro j hj
          rcases Nat.lt_succ_iff_lt_or_eq.1 hj with h | rfl
          · exact HQ.out j h
          · exact HZ.out
        · have hb : b = false := HR.out false ⟨(fun h => by cases h), fun h => absurd (sameG_iff.2 (h k HKN.out)) hz⟩
          have hz2 : sameG (Z k) (Z' k) = false := by simpa using hz
          unfold sameG at hz2
          have HBB := Lib.hid hb
          clear hb hz
          go_wp2_with fail
          go_quiet (fail)
          have HB1 := Lib.hid (below_drewN HB.out nq)
          clear HB
          go_wp2
          go_ret
          exact ⟨by rw [HBB.out]; rfl, HB1.out⟩
      · obtain rfl : k = n := by omega
        have hb : b = true := HR.out true ⟨fun _ => HQ.out, fun _ => rfl⟩
        have HBB := Lib.hid hb
        clear hb
        go_wp2
        go_ret
        exact ⟨by rw [HBB.out]; rfl, HB.out⟩
  · have hd : decide (gs = hs) = false := by
      rw [decide_eq_false_iff_not]
      rintro rfl
      exact hl rfl
    have i1 : ((gs.length : Int) == (hs.length : Int)) = false := by simp; omega
    have i2 : ¬ (gs.length : Int) = (hs.length : Int) := by omega
    rw [hd]
    clear hx hx' hv hv' hd hneq
    generalize gs.length = n at *
    generalize hs.length = n' at *
    go_enter Try.func28, Try.ntmps28
    go_wp2
    go_ret
    exact ⟨rfl, Below.refl _ _⟩
/-- a line: its epoch, what is before it, whether it is leased, its list -/
structure Ln where
  E : Int
  B : Int
  L : Bool
  l : List Gd
def valL (x : Ln) (sl : Value) : Value := .agg #[.int .u64 x.E, .int .i64 x.B, .bool x.L, sl]
def InL (w : World) (v : Value) (x : Ln) : Prop := ∃ sl, v = .agg #[.int .u64 x.E, .int .i64 x.B, .bool x.L, sl] ∧ InG w sl x.l ∧ (Lit.int .u64 x.E).wf = true ∧ (Lit.int .i64 x.B).wf = true
theorem InL.keep {w w' : World} {v : Value} {x : Ln} (h : InL w v x) (hb : Below w.heap.size w w') : InL w' v x := by
  obtain ⟨sl, rfl, h1, h2⟩ := h
  exact ⟨sl, rfl, h1.keep hb, h2⟩
def bit (L : Bool) : Int := if L = true then 1 else 0
def rankV (x : Ln) : Array Value := #[.int .u64 x.E, .int .u64 (x.l.length : Int), .int .u64 (bit x.L)]
set_option maxRecDepth 100000 in
theorem rank_any (v : Value) (x : Ln) (w : World) (hv : InL w v x) :
    Calls Try.prog 27 #[v] w fun e w' => e = .returned (.agg (rankV x)) ∧ Below w.heap.size w w' := by
  obtain ⟨sl, rfl, hs, -, -⟩ := hv
  obtain ⟨a, c, rfl, -, -⟩ := hs.open_
  have hn := hs.2.1
  unfold maxLen at hn
  unfold rankV
  obtain ⟨E, B, L, l⟩ := x
  have n9 : (l.length : Int) ≤ 9223372036854775807 := by simp only at hn; omega
  have n0 : (0 : Int) ≤ (l.length : Int) := by omega
  clear hs hn
  simp only
  generalize l.length = n at *
  cases L with
  | true =>
    go_enter Try.func27, Try.ntmps27
    go_wp2
    refine bodyPost_ret (results_cell_row Try.results27 _ _ (w.heap.size + 1) 72 _ (0, 0) _ rfl (Blk.alloc (Blk.newAt _ _ (by simp)) _) Try.underlying72 rfl (by kernel_rfl)) rfl ⟨rfl, ?_⟩
    exact (((Below.refl _ _).alloc (Nat.le_refl _) _).alloc (by simp) _).alloc (by simp; omega) _
  | false =>
    go_enter Try.func27, Try.ntmps27
    go_wp2
    refine bodyPost_ret (results_cell_row Try.results27 _ _ (w.heap.size + 1) 72 _ (0, 0) _ rfl (Blk.alloc (Blk.newAt _ _ (by simp)) _) Try.underlying72 rfl (by kernel_rfl)) rfl ⟨rfl, ?_⟩
    exact (((Below.refl _ _).alloc (Nat.le_refl _) _).alloc (by simp) _).alloc (by simp; omega) _

theorem rankV_one (x : Ln) : (rankV x).all (·.oneCell') = true := by simp [rankV]; exact ⟨rfl, rfl, rfl⟩
def sameR (x y : Ln) : Bool := x.E == y.E && ((x.l.length : Int) == (y.l.length : Int) && bit x.L == bit y.L)
theorem u64_info : (Try.prog.info? 22).map (fun i => (i.zero, i.size, i.bytes)) = some (some (.int .u64 0), 1, 8) := by kernel_rfl
theorem eqR_items (X Y : List Int) (d : Nat) (w : World) (hX : X.length = 3) (hY : Y.length = 3) : ∀ is : List Nat, (∀ i ∈ is, i < 3) →
    (Op.eqItems (d + 1) 22 1 (X.map (Value.int .u64)).toArray (Y.map (Value.int .u64)).toArray is).run Try.prog w = .ok (is.all fun i => X.getD i 0 == Y.getD i 0) w := by
  intro is
  induction is with
  | nil => intro _; rfl
  | cons i is ih =>
    intro h
    have hi := h i (by simp)
    have hx : ∀ l : List Int, l.length = 3 → (l.map (Value.int .u64)).toArray[i * 1]? = some (.int .u64 (l.getD i 0)) := fun l hl => by simp [show i < l.length by omega]
    have e := run_equalIn_int w (P := Try.prog) d 22 .u64 .u64 (X.getD i 0) (Y.getD i 0) Try.underlying22
    rw [Op.eqItems]
    simp only [Sem.run_bind, run_part_plain w (P := Try.prog) (e := 22) (by kernel_rfl) (hx X hX), run_part_plain w (P := Try.prog) (e := 22) (by kernel_rfl) (hx Y hY), Result.andThen_ok, e, List.all_cons]
    cases hz : X.getD i 0 == Y.getD i 0 with
    | false => rfl
    | true => exact ih (fun j hj => h j (by simp [hj]))
theorem run_equalIn_rank (x y : Ln) (w : World) : (Op.equalIn 10000 72 (.agg (rankV x)) (.agg (rankV y))).run Try.prog w = .ok (sameR x y) w := by
  obtain ⟨i, hi, _, _, _⟩ := info_parts u64_info
  have h := eqR_items [x.E, x.l.length, bit x.L] [y.E, y.l.length, bit y.L] 9998 w rfl rfl (List.range 3) (fun i hi => by simpa using hi)
  have e1 : ∀ z : Ln, rankV z = ([z.E, (z.l.length : Int), bit z.L].map (Value.int .u64)).toArray := fun _ => rfl
  rw [run_equalIn_array w (P := Try.prog) 9999 _ _ Try.underlying72 hi, show Try.prog.cellsOf 22 = 1 from by kernel_rfl, e1 x, e1 y, h]
  simp [sameR, List.range_succ]
theorem run_neq_rank (x y : Ln) (w : World) : (binOp .neq 72 (.agg (rankV x)) (.agg (rankV y))).run Try.prog w = .ok (.bool (!sameR x y)) w := by
  simp only [binOp]
  simp [Op.equal, Op.maxDepth, run_equalIn_rank x y w]
theorem run_eq_rank (x y : Ln) (w : World) : (binOp .eql 72 (.agg (rankV x)) (.agg (rankV y))).run Try.prog w = .ok (.bool (sameR x y)) w := by
  simp only [binOp]
  simp [Op.equal, Op.maxDepth, run_equalIn_rank x y w]
/-- a line whose list lies in memory from block 'base' on -/
def OwL (w : World) (base : Nat) (v : Value) (x : Ln) : Prop := ∃ sl, v = .agg #[.int .u64 x.E, .int .i64 x.B, .bool x.L, sl] ∧ OwG w base sl x.l ∧ (Lit.int .u64 x.E).wf = true ∧ (Lit.int .i64 x.B).wf = true
inductive Fk where
  | no
  | g (gs : List Gd)
  | l (x : Ln)
def Fk.ok (base : Nat) : Fk → World → Value → Prop
  | .no, _, _ => True
  | .g gs, w, u => OwG w base u gs
  | .l x, w, u => OwL w base u x
def Fof (base : Nat) (L : List (Nat × Fk)) (s : Nat) (w : World) (u : Value) : Prop := ((L.lookup s).getD .no).ok base w u
section
variable {w0 w : World} {vs : List Vr} {L : List (Nat × Fk)} {σ : Nat → Option Value} {k : Nat} {p : Value → Prop}
/-- a call that gives back a number, and only reads -/
theorem num_ok {f : FuncId} {args : Array Value} (h : CG w0 vs (Fof w0.heap.size L) σ w) (h0 : σ k = none) (hn : ∀ v ∈ vs, k ≠ v.al ∧ k ≠ v.st) (r : Value) (hc : Calls Try.prog f args w fun e w' => e = .returned r ∧ Below w.heap.size w w') (hF : ∀ w u, Fof w0.heap.size L k w u) (hp : p r) :
    SpecialOK Try.prog p (fun u => CG w0 vs (Fof w0.heap.size L) (upd σ k u)) (.ok (.enter f args) w) := by
  refine h.call_ok h0 hn (hc.mono ?_)
  rintro e w' ⟨rfl, hb⟩
  exact ⟨_, rfl, hp, hb, fun w'' _ => hF _ _⟩
end
def sameL (x y : Ln) : Bool := sameR x y && (x.B == y.B && decide (x.l = y.l))
theorem bit_inj {a b : Bool} (h : bit a = bit b) : a = b := by cases a <;> cases b <;> first | rfl | (simp [bit] at h)
theorem sameL_iff {x y : Ln} : sameL x y = true ↔ x = y := by
  obtain ⟨E, B, L, l⟩ := x
  obtain ⟨E', B', L', l'⟩ := y
  unfold sameL sameR
  simp only [Bool.and_eq_true, beq_iff_eq, decide_eq_true_eq, Ln.mk.injEq]
  constructor
  · rintro ⟨⟨h1, h2, h3⟩, h4, h5⟩
    exact ⟨h1, h4, bit_inj h3, h5⟩
  · rintro ⟨h1, h2, h3, h4⟩
    subst h1 h2 h3 h4
    exact ⟨⟨rfl, rfl, rfl⟩, rfl, rfl⟩
set_option maxRecDepth 100000 in
set_option maxHeartbeats 2000000 in
theorem lsame_any (v v' : Value) (x y : Ln) (w : World) (hv : InL w v x) (hv' : InL w v' y) :
    Calls Try.prog 18 #[v, v'] w fun e w' => e = .returned (.bool (sameL x y)) ∧ Below w.heap.size w w' := by
  have hr1 := fun w1 hb => rank_any v x w1 (hv.keep (w' := w1) hb)
  have hr2 := fun w1 hb => rank_any v' y w1 (hv'.keep (w' := w1) hb)
  obtain ⟨sl, rfl, hs, -, -⟩ := hv
  obtain ⟨sl', rfl, hs', -, -⟩ := hv'
  have heq := fun w1 hb => equal_any sl sl' x.l y.l w1 (hs.keep (w' := w1) hb) (hs'.keep hb)
  obtain ⟨a, c, rfl, -, -⟩ := hs.open_
  obtain ⟨a', c', rfl, -, -⟩ := hs'.open_
  have hb0 := ((Below.refl w.heap.size w).alloc (Nat.le_refl _) (Obj.cells #[.int .u64 x.E, .int .i64 x.B, .bool x.L, .slice a x.l.length c] 26)).alloc (by simp) (Obj.cells #[.int .u64 y.E, .int .i64 y.B, .bool y.L, .slice a' y.l.length c'] 26)
  have hb1 := (Blk.new w 26 #[.int .u64 x.E, .int .i64 x.B, .bool x.L, .slice a x.l.length c]).alloc (Obj.cells #[.int .u64 y.E, .int .i64 y.B, .bool y.L, .slice a' y.l.length c'] 26)
  have hb2 := Blk.newAt (w := w.alloc (Obj.cells #[.int .u64 x.E, .int .i64 x.B, .bool x.L, .slice a x.l.length c] 26)) 26 #[.int .u64 y.E, .int .i64 y.B, .bool y.L, .slice a' y.l.length c'] (g := w.heap.size + 1) (by simp)
  have HB0 := Lib.hid hb0
  have HBX := Lib.hid hb1
  have HBY := Lib.hid hb2
  have R1 := Lib.hid hr1
  have R2 := Lib.hid hr2
  have EQ := Lib.hid heq
  obtain ⟨res, hres⟩ : ∃ r, r = sameL x y := ⟨_, rfl⟩
  rw [← hres]
  have HRES := Lib.hid hres
  unfold sameL at hres
  clear hb0 hb1 hb2 hr1 hr2 heq hs hs'
  have heqr := run_eq_rank x y
  cases hsr : sameR x y with
  | false =>
    rw [hsr, Bool.false_and] at hres
    subst hres
    simp only [hsr] at heqr
    clear hsr HRES
    go_enter Try.func18, Try.ntmps18
    go_wp2_with fail
    generalize (w.alloc (Obj.cells #[.int .u64 x.E, .int .i64 x.B, .bool x.L, .slice a x.l.length c] 26)).alloc (Obj.cells #[.int .u64 y.E, .int .i64 y.B, .bool y.L, .slice a' y.l.length c'] 26) = w1 at *
    refine wp_region_spec (fun i => i == 1 || i == 3) (kinds [(1, .is (.agg (rankV x))), (3, .is (.agg (rankV y)))]) (CG w1 [] (Fof w1.heap.size [])) (by kernel_rfl) (by kernel_rfl) (kinds_inh _) CG.start ?_
    intro ν hν
    have n1 : ν 1 = (.agg (rankV x)) := hν 1
    have n3 : ν 3 = (.agg (rankV y)) := hν 3
    clear hν
    refine lex_plain (by rfl) rfl ⟨.agg #[.int .u64 x.E, .int .i64 x.B, .bool x.L, .slice a x.l.length c], fun σ w2 hA hD hC => ?_, ?_⟩
    · rw [exec_load 26 (.tmp 2) rfl w.heap.size rfl 26 _ _ (HBX.out.keep hC.below) Try.underlying26 rfl (by kernel_rfl)]
      exact ⟨rfl, rfl⟩
    simp only [Act.put, List.setIfInBounds_toArray, List.set_cons_succ, List.set_cons_zero, Nat.reduceAdd]
    refine lex_special (by rfl) rfl (fun σ w2 hA hD hn hC => ?_) ?_
    · go_simp
      exact num_ok hC hn (by simp) _ (R1.out _ (HB0.out.trans (hC.below.mono HB0.out.size))) (fun _ _ => trivial) rfl
    rw [n1]
    simp only [Act.put, List.setIfInBounds_toArray, List.set_cons_succ, List.set_cons_zero, Nat.reduceAdd]
    refine lex_plain (by rfl) rfl ⟨.agg #[.int .u64 y.E, .int .i64 y.B, .bool y.L, .slice a' y.l.length c'], fun σ w2 hA hD hC => ?_, ?_⟩
    · rw [exec_load 26 (.tmp 3) rfl (w.heap.size + 1) rfl 26 _ _ (HBY.out.keep hC.below) Try.underlying26 rfl (by kernel_rfl)]
      exact ⟨rfl, rfl⟩
    simp only [Act.put, List.setIfInBounds_toArray, List.set_cons_succ, List.set_cons_zero, Nat.reduceAdd]
    refine lex_special (by rfl) rfl (fun σ w2 hA hD hn hC => ?_) ?_
    · go_simp
      exact num_ok hC hn (by simp) _ (R2.out _ (HB0.out.trans (hC.below.mono HB0.out.size))) (fun _ _ => trivial) rfl
    rw [n3]
    simp only [Act.put, List.setIfInBounds_toArray, List.set_cons_succ, List.set_cons_zero, Nat.reduceAdd]
    refine lex_plain (by rfl) rfl ?_
    apply Exists.intro
    refine ⟨fun σ w2 hA hD hC => ?_, ?_⟩
    · clear hA hD hC
      go_simp
      exact And.intro rfl rfl
    simp only [Act.put, List.setIfInBounds_toArray, List.set_cons_succ, List.set_cons_zero, Nat.reduceAdd]
    refine lex_plain (by rfl) rfl ?_
    apply Exists.intro
    refine ⟨fun σ w2 hA hD hC => ?_, ?_⟩
    · clear hA hD hC
      go_simp
      exact And.intro rfl rfl
    simp only [Act.put, List.setIfInBounds_toArray, List.set_cons_succ, List.set_cons_zero, Nat.reduceAdd]
    refine lex_skip (by rfl) rfl ?_
    simp only [Act.put, List.setIfInBounds_toArray, List.set_cons_succ, List.set_cons_zero, Nat.reduceAdd]
    refine lex_skip (by rfl) rfl ?_
    simp only [Act.put, List.setIfInBounds_toArray, List.set_cons_succ, List.set_cons_zero, Nat.reduceAdd]
    refine lex_skip (by rfl) rfl ?_
    simp only [Act.put, List.setIfInBounds_toArray, List.set_cons_succ, List.set_cons_zero, Nat.reduceAdd]
    refine lex_skip (by rfl) rfl ?_
    simp only [Act.put, List.setIfInBounds_toArray, List.set_cons_succ, List.set_cons_zero, Nat.reduceAdd]
    refine lex_skip (by rfl) rfl ?_
    simp only [Act.put, List.setIfInBounds_toArray, List.set_cons_succ, List.set_cons_zero, Nat.reduceAdd]
    refine lex_plain (by rfl) rfl ?_
    apply Exists.intro
    refine ⟨fun σ w2 hA hD hC => ?_, ?_⟩
    · clear hA hD hC
      go_simp
      exact And.intro rfl rfl
    simp only [Act.put, List.setIfInBounds_toArray, List.set_cons_succ, List.set_cons_zero, Nat.reduceAdd]
    refine lex_plain (by rfl) rfl ?_
    apply Exists.intro
    refine ⟨fun σ w2 hA hD hC => ?_, ?_⟩
    · clear hA hD hC
      go_simp
      exact And.intro rfl rfl
    simp only [Act.put, List.setIfInBounds_toArray, List.set_cons_succ, List.set_cons_zero, Nat.reduceAdd]
    refine lex_skip (by rfl) rfl ?_
    simp only [Act.put, List.setIfInBounds_toArray, List.set_cons_succ, List.set_cons_zero, Nat.reduceAdd]
    refine lex_skip (by rfl) rfl ?_
    simp only [Act.put, List.setIfInBounds_toArray, List.set_cons_succ, List.set_cons_zero, Nat.reduceAdd]
    refine lex_skip (by rfl) rfl ?_
    simp only [Act.put, List.setIfInBounds_toArray, List.set_cons_succ, List.set_cons_zero, Nat.reduceAdd]
    refine lex_skip (by rfl) rfl ?_
    simp only [Act.put, List.setIfInBounds_toArray, List.set_cons_succ, List.set_cons_zero, Nat.reduceAdd]
    refine lex_skip (by rfl) rfl ?_
    simp only [Act.put, List.setIfInBounds_toArray, List.set_cons_succ, List.set_cons_zero, Nat.reduceAdd]
    refine lex_plain (by rfl) rfl ?_
    apply Exists.intro
    refine ⟨fun σ w2 hA hD hC => ?_, ?_⟩
    · clear hA hD hC
      go_simp
      exact And.intro rfl rfl
    simp only [Act.put, List.setIfInBounds_toArray, List.set_cons_succ, List.set_cons_zero, Nat.reduceAdd]
    refine lex_plain (by rfl) rfl ?_
    apply Exists.intro
    refine ⟨fun σ w2 hA hD hC => ?_, ?_⟩
    · clear hA hD hC
      go_simp
      exact And.intro rfl rfl
    simp only [Act.put, List.setIfInBounds_toArray, List.set_cons_succ, List.set_cons_zero, Nat.reduceAdd]
    refine lex_nil (fun σ w9 hA hall hC => ?_)
    have HB := Lib.hid (HB0.out.trans (hC.below.mono HB0.out.size))
    clear hA hall hC
    go_wp2
    go_ret
    exact ⟨rfl, HB.out⟩
  | true =>
    rw [hsr, Bool.true_and] at hres
    simp only [hsr] at heqr
    clear hsr HRES
    cases hbb : (x.B == y.B) with
    | false =>
      rw [hbb, Bool.false_and] at hres
      subst hres
      go_enter Try.func18, Try.ntmps18
      go_wp2_with fail
      generalize (w.alloc (Obj.cells #[.int .u64 x.E, .int .i64 x.B, .bool x.L, .slice a x.l.length c] 26)).alloc (Obj.cells #[.int .u64 y.E, .int .i64 y.B, .bool y.L, .slice a' y.l.length c'] 26) = w1 at *
      refine wp_region_spec (fun i => i == 1 || i == 3) (kinds [(1, .is (.agg (rankV x))), (3, .is (.agg (rankV y)))]) (CG w1 [] (Fof w1.heap.size [])) (by kernel_rfl) (by kernel_rfl) (kinds_inh _) CG.start ?_
      intro ν hν
      have n1 : ν 1 = (.agg (rankV x)) := hν 1
      have n3 : ν 3 = (.agg (rankV y)) := hν 3
      clear hν
      refine lex_plain (by rfl) rfl ⟨.agg #[.int .u64 x.E, .int .i64 x.B, .bool x.L, .slice a x.l.length c], fun σ w2 hA hD hC => ?_, ?_⟩
      · rw [exec_load 26 (.tmp 2) rfl w.heap.size rfl 26 _ _ (HBX.out.keep hC.below) Try.underlying26 rfl (by kernel_rfl)]
        exact ⟨rfl, rfl⟩
      simp only [Act.put, List.setIfInBounds_toArray, List.set_cons_succ, List.set_cons_zero, Nat.reduceAdd]
      refine lex_special (by rfl) rfl (fun σ w2 hA hD hn hC => ?_) ?_
      · go_simp
        exact num_ok hC hn (by simp) _ (R1.out _ (HB0.out.trans (hC.below.mono HB0.out.size))) (fun _ _ => trivial) rfl
      rw [n1]
      simp only [Act.put, List.setIfInBounds_toArray, List.set_cons_succ, List.set_cons_zero, Nat.reduceAdd]
      refine lex_plain (by rfl) rfl ⟨.agg #[.int .u64 y.E, .int .i64 y.B, .bool y.L, .slice a' y.l.length c'], fun σ w2 hA hD hC => ?_, ?_⟩
      · rw [exec_load 26 (.tmp 3) rfl (w.heap.size + 1) rfl 26 _ _ (HBY.out.keep hC.below) Try.underlying26 rfl (by kernel_rfl)]
        exact ⟨rfl, rfl⟩
      simp only [Act.put, List.setIfInBounds_toArray, List.set_cons_succ, List.set_cons_zero, Nat.reduceAdd]
      refine lex_special (by rfl) rfl (fun σ w2 hA hD hn hC => ?_) ?_
      · go_simp
        exact num_ok hC hn (by simp) _ (R2.out _ (HB0.out.trans (hC.below.mono HB0.out.size))) (fun _ _ => trivial) rfl
      rw [n3]
      simp only [Act.put, List.setIfInBounds_toArray, List.set_cons_succ, List.set_cons_zero, Nat.reduceAdd]
      refine lex_plain (by rfl) rfl ?_
      apply Exists.intro
      refine ⟨fun σ w2 hA hD hC => ?_, ?_⟩
      · clear hA hD hC
        go_simp
        exact And.intro rfl rfl
      simp only [Act.put, List.setIfInBounds_toArray, List.set_cons_succ, List.set_cons_zero, Nat.reduceAdd]
      refine lex_plain (by rfl) rfl ?_
      apply Exists.intro
      refine ⟨fun σ w2 hA hD hC => ?_, ?_⟩
      · clear hA hD hC
        go_simp
        exact And.intro rfl rfl
      simp only [Act.put, List.setIfInBounds_toArray, List.set_cons_succ, List.set_cons_zero, Nat.reduceAdd]
      refine lex_plain (by rfl) rfl ?_
      apply Exists.intro
      refine ⟨fun σ w2 hA hD hC => ?_, ?_⟩
      · have hx := (HBX.out.keep hC.below).cell 1
        simp at hx
        clear hA hD hC
        go_simp
        exact And.intro rfl rfl
      simp only [Act.put, List.setIfInBounds_toArray, List.set_cons_succ, List.set_cons_zero, Nat.reduceAdd]
      refine lex_plain (by rfl) rfl ?_
      apply Exists.intro
      refine ⟨fun σ w2 hA hD hC => ?_, ?_⟩
      · have hx := (HBX.out.keep hC.below).cell 1
        simp at hx
        clear hA hD hC
        go_simp
        exact And.intro rfl rfl
      simp only [Act.put, List.setIfInBounds_toArray, List.set_cons_succ, List.set_cons_zero, Nat.reduceAdd]
      refine lex_plain (by rfl) rfl ?_
      apply Exists.intro
      refine ⟨fun σ w2 hA hD hC => ?_, ?_⟩
      · have hx := (HBY.out.keep hC.below).cell 1
        simp at hx
        clear hA hD hC
        go_simp
        exact And.intro rfl rfl
      simp only [Act.put, List.setIfInBounds_toArray, List.set_cons_succ, List.set_cons_zero, Nat.reduceAdd]
      refine lex_plain (by rfl) rfl ?_
      apply Exists.intro
      refine ⟨fun σ w2 hA hD hC => ?_, ?_⟩
      · have hx := (HBY.out.keep hC.below).cell 1
        simp at hx
        clear hA hD hC
        go_simp
        exact And.intro rfl rfl
      simp only [Act.put, List.setIfInBounds_toArray, List.set_cons_succ, List.set_cons_zero, Nat.reduceAdd]
      refine lex_plain (by rfl) rfl ?_
      apply Exists.intro
      refine ⟨fun σ w2 hA hD hC => ?_, ?_⟩
      · clear hA hD hC
        go_simp
        exact And.intro rfl rfl
      simp only [Act.put, List.setIfInBounds_toArray, List.set_cons_succ, List.set_cons_zero, Nat.reduceAdd]
      refine lex_plain (by rfl) rfl ?_
      apply Exists.intro
      refine ⟨fun σ w2 hA hD hC => ?_, ?_⟩
      · clear hA hD hC
        go_simp
        exact And.intro rfl rfl
      simp only [Act.put, List.setIfInBounds_toArray, List.set_cons_succ, List.set_cons_zero, Nat.reduceAdd]
      refine lex_plain (by rfl) rfl ?_
      apply Exists.intro
      refine ⟨fun σ w2 hA hD hC => ?_, ?_⟩
      · clear hA hD hC
        go_simp
        exact And.intro rfl rfl
      simp only [Act.put, List.setIfInBounds_toArray, List.set_cons_succ, List.set_cons_zero, Nat.reduceAdd]
      refine lex_skip (by rfl) rfl ?_
      simp only [Act.put, List.setIfInBounds_toArray, List.set_cons_succ, List.set_cons_zero, Nat.reduceAdd]
      refine lex_skip (by rfl) rfl ?_
      simp only [Act.put, List.setIfInBounds_toArray, List.set_cons_succ, List.set_cons_zero, Nat.reduceAdd]
      refine lex_skip (by rfl) rfl ?_
      simp only [Act.put, List.setIfInBounds_toArray, List.set_cons_succ, List.set_cons_zero, Nat.reduceAdd]
      refine lex_skip (by rfl) rfl ?_
      simp only [Act.put, List.setIfInBounds_toArray, List.set_cons_succ, List.set_cons_zero, Nat.reduceAdd]
      refine lex_skip (by rfl) rfl ?_
      simp only [Act.put, List.setIfInBounds_toArray, List.set_cons_succ, List.set_cons_zero, Nat.reduceAdd]
      refine lex_plain (by rfl) rfl ?_
      apply Exists.intro
      refine ⟨fun σ w2 hA hD hC => ?_, ?_⟩
      · clear hA hD hC
        go_simp
        exact And.intro rfl rfl
      simp only [Act.put, List.setIfInBounds_toArray, List.set_cons_succ, List.set_cons_zero, Nat.reduceAdd]
      refine lex_plain (by rfl) rfl ?_
      apply Exists.intro
      refine ⟨fun σ w2 hA hD hC => ?_, ?_⟩
      · clear hA hD hC
        go_simp
        exact And.intro rfl rfl
      simp only [Act.put, List.setIfInBounds_toArray, List.set_cons_succ, List.set_cons_zero, Nat.reduceAdd]
      refine lex_nil (fun σ w9 hA hall hC => ?_)
      have HB := Lib.hid (HB0.out.trans (hC.below.mono HB0.out.size))
      clear hA hall hC
      go_wp2
      go_ret
      exact ⟨rfl, HB.out⟩
    | true =>
      rw [hbb, Bool.true_and] at hres
      subst hres
      go_enter Try.func18, Try.ntmps18
      go_wp2_with fail
      generalize (w.alloc (Obj.cells #[.int .u64 x.E, .int .i64 x.B, .bool x.L, .slice a x.l.length c] 26)).alloc (Obj.cells #[.int .u64 y.E, .int .i64 y.B, .bool y.L, .slice a' y.l.length c'] 26) = w1 at *
      refine wp_region_spec (fun i => i == 1 || i == 3 || i == 17) (kinds [(1, .is (.agg (rankV x))), (3, .is (.agg (rankV y))), (17, .is (.bool (decide (x.l = y.l))))]) (CG w1 [] (Fof w1.heap.size [])) (by kernel_rfl) (by kernel_rfl) (kinds_inh _) CG.start ?_
      intro ν hν
      have n1 : ν 1 = (.agg (rankV x)) := hν 1
      have n3 : ν 3 = (.agg (rankV y)) := hν 3
      have n17 : ν 17 = (.bool (decide (x.l = y.l))) := hν 17
      clear hν
      refine lex_plain (by rfl) rfl ⟨.agg #[.int .u64 x.E, .int .i64 x.B, .bool x.L, .slice a x.l.length c], fun σ w2 hA hD hC => ?_, ?_⟩
      · rw [exec_load 26 (.tmp 2) rfl w.heap.size rfl 26 _ _ (HBX.out.keep hC.below) Try.underlying26 rfl (by kernel_rfl)]
        exact ⟨rfl, rfl⟩
      simp only [Act.put, List.setIfInBounds_toArray, List.set_cons_succ, List.set_cons_zero, Nat.reduceAdd]
      refine lex_special (by rfl) rfl (fun σ w2 hA hD hn hC => ?_) ?_
      · go_simp
        exact num_ok hC hn (by simp) _ (R1.out _ (HB0.out.trans (hC.below.mono HB0.out.size))) (fun _ _ => trivial) rfl
      rw [n1]
      simp only [Act.put, List.setIfInBounds_toArray, List.set_cons_succ, List.set_cons_zero, Nat.reduceAdd]
      refine lex_plain (by rfl) rfl ⟨.agg #[.int .u64 y.E, .int .i64 y.B, .bool y.L, .slice a' y.l.length c'], fun σ w2 hA hD hC => ?_, ?_⟩
      · rw [exec_load 26 (.tmp 3) rfl (w.heap.size + 1) rfl 26 _ _ (HBY.out.keep hC.below) Try.underlying26 rfl (by kernel_rfl)]
        exact ⟨rfl, rfl⟩
      simp only [Act.put, List.setIfInBounds_toArray, List.set_cons_succ, List.set_cons_zero, Nat.reduceAdd]
      refine lex_special (by rfl) rfl (fun σ w2 hA hD hn hC => ?_) ?_
      · go_simp
        exact num_ok hC hn (by simp) _ (R2.out _ (HB0.out.trans (hC.below.mono HB0.out.size))) (fun _ _ => trivial) rfl
      rw [n3]
      simp only [Act.put, List.setIfInBounds_toArray, List.set_cons_succ, List.set_cons_zero, Nat.reduceAdd]
      refine lex_plain (by rfl) rfl ?_
      apply Exists.intro
      refine ⟨fun σ w2 hA hD hC => ?_, ?_⟩
      · clear hA hD hC
        go_simp
        exact And.intro rfl rfl
      simp only [Act.put, List.setIfInBounds_toArray, List.set_cons_succ, List.set_cons_zero, Nat.reduceAdd]
      refine lex_plain (by rfl) rfl ?_
      apply Exists.intro
      refine ⟨fun σ w2 hA hD hC => ?_, ?_⟩
      · clear hA hD hC
        go_simp
        exact And.intro rfl rfl
      simp only [Act.put, List.setIfInBounds_toArray, List.set_cons_succ, List.set_cons_zero, Nat.reduceAdd]
      refine lex_plain (by rfl) rfl ?_
      apply Exists.intro
      refine ⟨fun σ w2 hA hD hC => ?_, ?_⟩
      · have hx := (HBX.out.keep hC.below).cell 1
        simp at hx
        clear hA hD hC
        go_simp
        exact And.intro rfl rfl
      simp only [Act.put, List.setIfInBounds_toArray, List.set_cons_succ, List.set_cons_zero, Nat.reduceAdd]
      refine lex_plain (by rfl) rfl ?_
      apply Exists.intro
      refine ⟨fun σ w2 hA hD hC => ?_, ?_⟩
      · have hx := (HBX.out.keep hC.below).cell 1
        simp at hx
        clear hA hD hC
        go_simp
        exact And.intro rfl rfl
      simp only [Act.put, List.setIfInBounds_toArray, List.set_cons_succ, List.set_cons_zero, Nat.reduceAdd]
      refine lex_plain (by rfl) rfl ?_
      apply Exists.intro
      refine ⟨fun σ w2 hA hD hC => ?_, ?_⟩
      · have hx := (HBY.out.keep hC.below).cell 1
        simp at hx
        clear hA hD hC
        go_simp
        exact And.intro rfl rfl
      simp only [Act.put, List.setIfInBounds_toArray, List.set_cons_succ, List.set_cons_zero, Nat.reduceAdd]
      refine lex_plain (by rfl) rfl ?_
      apply Exists.intro
      refine ⟨fun σ w2 hA hD hC => ?_, ?_⟩
      · have hx := (HBY.out.keep hC.below).cell 1
        simp at hx
        clear hA hD hC
        go_simp
        exact And.intro rfl rfl
      simp only [Act.put, List.setIfInBounds_toArray, List.set_cons_succ, List.set_cons_zero, Nat.reduceAdd]
      refine lex_plain (by rfl) rfl ?_
      apply Exists.intro
      refine ⟨fun σ w2 hA hD hC => ?_, ?_⟩
      · clear hA hD hC
        go_simp
        exact And.intro rfl rfl
      simp only [Act.put, List.setIfInBounds_toArray, List.set_cons_succ, List.set_cons_zero, Nat.reduceAdd]
      refine lex_plain (by rfl) rfl ?_
      apply Exists.intro
      refine ⟨fun σ w2 hA hD hC => ?_, ?_⟩
      · clear hA hD hC
        go_simp
        exact And.intro rfl rfl
      simp only [Act.put, List.setIfInBounds_toArray, List.set_cons_succ, List.set_cons_zero, Nat.reduceAdd]
      refine lex_plain (by rfl) rfl ?_
      apply Exists.intro
      refine ⟨fun σ w2 hA hD hC => ?_, ?_⟩
      · clear hA hD hC
        go_simp
        exact And.intro rfl rfl
      simp only [Act.put, List.setIfInBounds_toArray, List.set_cons_succ, List.set_cons_zero, Nat.reduceAdd]
      refine lex_plain (by rfl) rfl ?_
      apply Exists.intro
      refine ⟨fun σ w2 hA hD hC => ?_, ?_⟩
      · have hx := (HBX.out.keep hC.below).cell 3
        simp at hx
        clear hA hD hC
        go_simp
        exact And.intro rfl rfl
      simp only [Act.put, List.setIfInBounds_toArray, List.set_cons_succ, List.set_cons_zero, Nat.reduceAdd]
      refine lex_plain (by rfl) rfl ?_
      apply Exists.intro
      refine ⟨fun σ w2 hA hD hC => ?_, ?_⟩
      · have hx := (HBX.out.keep hC.below).cell 3
        simp at hx
        clear hA hD hC
        go_simp
        exact And.intro rfl rfl
      simp only [Act.put, List.setIfInBounds_toArray, List.set_cons_succ, List.set_cons_zero, Nat.reduceAdd]
      refine lex_plain (by rfl) rfl ?_
      apply Exists.intro
      refine ⟨fun σ w2 hA hD hC => ?_, ?_⟩
      · have hx := (HBY.out.keep hC.below).cell 3
        simp at hx
        clear hA hD hC
        go_simp
        exact And.intro rfl rfl
      simp only [Act.put, List.setIfInBounds_toArray, List.set_cons_succ, List.set_cons_zero, Nat.reduceAdd]
      refine lex_plain (by rfl) rfl ?_
      apply Exists.intro
      refine ⟨fun σ w2 hA hD hC => ?_, ?_⟩
      · have hx := (HBY.out.keep hC.below).cell 3
        simp at hx
        clear hA hD hC
        go_simp
        exact And.intro rfl rfl
      simp only [Act.put, List.setIfInBounds_toArray, List.set_cons_succ, List.set_cons_zero, Nat.reduceAdd]
      refine lex_special (by rfl) rfl (fun σ w2 hA hD hn hC => ?_) ?_
      · go_simp
        exact num_ok hC hn (by simp) _ (EQ.out _ (HB0.out.trans (hC.below.mono HB0.out.size))) (fun _ _ => trivial) rfl
      rw [n17]
      simp only [Act.put, List.setIfInBounds_toArray, List.set_cons_succ, List.set_cons_zero, Nat.reduceAdd]
      refine lex_plain (by rfl) rfl ?_
      apply Exists.intro
      refine ⟨fun σ w2 hA hD hC => ?_, ?_⟩
      · clear hA hD hC
        go_simp
        exact And.intro rfl rfl
      simp only [Act.put, List.setIfInBounds_toArray, List.set_cons_succ, List.set_cons_zero, Nat.reduceAdd]
      refine lex_plain (by rfl) rfl ?_
      apply Exists.intro
      refine ⟨fun σ w2 hA hD hC => ?_, ?_⟩
      · clear hA hD hC
        go_simp
        exact And.intro rfl rfl
      simp only [Act.put, List.setIfInBounds_toArray, List.set_cons_succ, List.set_cons_zero, Nat.reduceAdd]
      refine lex_nil (fun σ w9 hA hall hC => ?_)
      have HB := Lib.hid (HB0.out.trans (hC.below.mono HB0.out.size))
      clear hA hall hC
      go_wp2
      go_ret
      exact ⟨rfl, HB.out⟩
end Go.Proofs.Ytikimmhkfjaijaa
