/-
  MESSAGES: MsP, MsQ, MsR, MsS, in one text (merged by wip/merge.py).
-/
import Derived.Test.YtikimmhkfjaijaaGC
import Derived.Deep.LoopGhost
import Derived.Deep.CutRange
import Derived.Deep.CutBlock
import Derived.Deep.MidRow
namespace Go.Proofs.Ytikimmhkfjaijaa
open Go.RowKit Reg Go.ChangeShapes

/-- an entry that may not be -/
def wrongE (e : En) : Bool := if e.K = 1 ∨ e.K = 2 then !(e.g.1 == 0 && e.g.2 == 0) || decide (e.T < 1) else if e.K = 3 then decide (e.T < 1) || !(decide (0 < e.g.1) && decide (0 < e.g.2)) else true
def aggE (e : En) : Value := .agg (enL e).toArray
set_option maxRecDepth 100000 in
set_option maxHeartbeats 1000000 in
theorem wrong_any (e : En) (w : World) : Calls Try.prog 66 #[aggE e] w fun x w' => x = .returned (.bool (wrongE e)) ∧ Below w.heap.size w w' := by
  obtain ⟨T, K, g1, g2⟩ := e
  obtain ⟨r, hr⟩ : ∃ r, r = wrongE ⟨T, K, (g1, g2)⟩ := ⟨_, rfl⟩
  rw [← hr]
  unfold wrongE at hr
  dsimp only at hr
  show Calls Try.prog 66 #[.agg #[.int .u64 T, .int .i64 K, .int .u64 g1, .int .u64 g2]] w _
  have hb0 := (Below.refl w.heap.size w).alloc (Nat.le_refl _) (Obj.cells #[.int .u64 T, .int .i64 K, .int .u64 g1, .int .u64 g2] 50)
  have hrng : (w.alloc (Obj.cells #[.int .u64 T, .int .i64 K, .int .u64 g1, .int .u64 g2] 50)).rangeAt w.heap.size 2 [.int .u64 g1, .int .u64 g2] := fun j v hj => by
    rw [(Blk.new w 50 #[.int .u64 T, .int .i64 K, .int .u64 g1, .int .u64 g2]).cell]
    match j, hj with
    | 0, hj => exact hj
    | 1, hj => exact hj
  have hneq := fun w => run_neq_guid g1 g2 0 0 w
  have HSZ : Hid ((Try.prog.info? 28).map (·.size) = some 2) := Lib.hid (by kernel_rfl)
  have HB := Lib.hid hb0
  have HRNG := Lib.hid hrng
  clear hb0 hrng
  generalize hgb : (g1 == 0 && g2 == 0) = gb at *
  have HGB := Lib.hid hgb
  clear hgb
  have hc : (K = 1 ∧ ((gb = false ∧ r = true) ∨ (gb = true ∧ T < 1 ∧ r = true) ∨ (gb = true ∧ ¬ T < 1 ∧ r = false))) ∨ (K = 2 ∧ ((gb = false ∧ r = true) ∨ (gb = true ∧ T < 1 ∧ r = true) ∨ (gb = true ∧ ¬ T < 1 ∧ r = false))) ∨
      (K = 3 ∧ ((T < 1 ∧ (0 < g1 ∨ ¬ 0 < g1) ∧ (0 < g2 ∨ ¬ 0 < g2) ∧ r = true) ∨ (¬ T < 1 ∧ ¬ 0 < g1 ∧ r = true) ∨ (¬ T < 1 ∧ 0 < g1 ∧ ¬ 0 < g2 ∧ r = true) ∨ (¬ T < 1 ∧ 0 < g1 ∧ 0 < g2 ∧ r = false))) ∨ (K ≠ 1 ∧ K ≠ 2 ∧ K ≠ 3 ∧ r = true) := by
    by_cases k1 : K = 1
    · left; refine ⟨k1, ?_⟩
      rw [if_pos (.inl k1)] at hr
      cases gb <;> by_cases ht : T < 1 <;> simp_all
    · by_cases k2 : K = 2
      · right; left; refine ⟨k2, ?_⟩
        rw [if_pos (.inr k2)] at hr
        cases gb <;> by_cases ht : T < 1 <;> simp_all
      · rw [if_neg (by omega)] at hr
        by_cases k3 : K = 3
        · right; right; left; refine ⟨k3, ?_⟩
          rw [if_pos k3] at hr
          by_cases ht : T < 1 <;> by_cases h1 : 0 < g1 <;> by_cases h2 : 0 < g2 <;> simp_all
        · rw [if_neg k3] at hr
          exact .inr (.inr (.inr ⟨k1, k2, k3, hr⟩))
  clear hr
  rcases hc with ⟨rfl, h | h | h⟩ | ⟨rfl, h | h | h⟩ | ⟨rfl, h | h | h | h⟩ | ⟨k1, k2, k3, rfl⟩
  iterate 2
    · obtain ⟨rfl, rfl⟩ := h
      go_enter Try.func66, Try.ntmps66
      go_wp2_with (first | refine wpList_load_mid rfl 28 _ rfl w.heap.size 2 rfl [.int .u64 g1, .int .u64 g2] _ HRNG.out Try.underlying28 rfl HSZ.out ?_)
      go_ret
      exact ⟨rfl, HB.out⟩
    iterate 2
      · obtain ⟨rfl, h1, rfl⟩ := h
        have hz := HGB.out
        rw [Bool.and_eq_true, beq_iff_eq, beq_iff_eq] at hz
        obtain ⟨rfl, rfl⟩ := hz
        go_enter Try.func66, Try.ntmps66
        go_wp2
        go_ret
        exact ⟨rfl, HB.out⟩
  · obtain ⟨h1, h2, h3, rfl⟩ := h
    rcases h2 with h2 | h2 <;> rcases h3 with h3 | h3
    all_goals
      go_enter Try.func66, Try.ntmps66
      go_wp2
      go_ret
      exact ⟨rfl, HB.out⟩
  · obtain ⟨h1, h2, rfl⟩ := h
    go_enter Try.func66, Try.ntmps66
    go_wp2
    go_ret
    exact ⟨rfl, HB.out⟩
  · obtain ⟨h1, h2, h3, rfl⟩ := h
    go_enter Try.func66, Try.ntmps66
    go_wp2
    go_ret
    exact ⟨rfl, HB.out⟩
  · obtain ⟨h1, h2, h3, rfl⟩ := h
    go_enter Try.func66, Try.ntmps66
    go_wp2
    go_ret
    exact ⟨rfl, HB.out⟩
  · have e1 : (K == 1) = false := beq_eq_false_iff_ne.2 k1
    have e2 : (K == 2) = false := beq_eq_false_iff_ne.2 k2
    have e3 : (K == 3) = false := beq_eq_false_iff_ne.2 k3
    clear k1 k2 k3
    go_enter Try.func66, Try.ntmps66
    go_wp2
    go_ret
    exact ⟨rfl, HB.out⟩
theorem InE.open_ {w : World} {v : Value} {es : List En} (h : InE w v es) : ∃ a c, v = .slice a es.length c ∧ (es.length = 0 ∨ es.length ≤ c) ∧ es.length ≤ maxLen ∧ ∀ j, j < es.length → ∃ g off, a = some ⟨g, off, none⟩ ∧ w.cell? ⟨g, off + j * 4, none⟩ = some (.int .u64 (es.getD j en0).T) ∧ w.cell? ⟨g, off + j * 4 + 1, none⟩ = some (.int .i64 (es.getD j en0).K) ∧ w.cell? ⟨g, off + j * 4 + 2, none⟩ = some (.int .u64 (es.getD j en0).g.1) ∧ w.cell? ⟨g, off + j * 4 + 3, none⟩ = some (.int .u64 (es.getD j en0).g.2) := by
  obtain ⟨a, c, h1, h2, h3, h4, h5⟩ := h
  refine ⟨a, c, h1, h2, h3, fun j hj => ?_⟩
  obtain ⟨g, off, k1, k2, -⟩ := h5 j hj
  exact ⟨g, off, k1, k2 0 (by decide), k2 1 (by decide), k2 2 (by decide), k2 3 (by decide)⟩
set_option maxRecDepth 100000 in
theorem eindex_any (v : Value) (es : List En) (w : World) (hv : InE w v es) :
    Calls Try.prog 75 #[v, .func (.func 66) #[] #[]] w fun e w' => (∃ r : Int, e = .returned (.int .i64 r) ∧ decide (0 ≤ r) = es.any wrongE) ∧ Below w.heap.size w w' := by
  obtain ⟨a, c, rfl, -, hn, hxx⟩ := hv.open_
  obtain ⟨RL, hR⟩ : ∃ RL : Nat → Bool, RL = fun k => (es.drop k).any wrongE := ⟨_, rfl⟩
  have hR0 : es.any wrongE = RL 0 := by rw [hR]; simp
  have hR1 : ∀ k, k < es.length → RL k = (wrongE (es.getD k en0) || RL (k + 1)) := fun k hk => by
    rw [hR]
    simp only
    rw [List.drop_eq_getElem_cons hk, List.any_cons, List.getD_eq_getElem?_getD, List.getElem?_eq_getElem hk]
    rfl
  have hR2 : RL es.length = false := by rw [hR]; simp
  rw [hR0]
  have hwr := fun k w1 => wrong_any (es.getD k en0) w1
  clear hR hR0
  unfold maxLen at hn
  generalize hZ : (fun j => (es.getD j en0)) = Z at *
  have g1 : ∀ j, es.getD j en0 = Z j := fun j => by subst hZ; rfl
  simp only [g1] at hxx hR1 hwr
  clear hZ g1 hv
  generalize es.length = n at *
  have HX := Lib.hid hxx
  have HR1 := Lib.hid hR1
  have HR2 := Lib.hid hR2
  have HWR := Lib.hid hwr
  have HN := Lib.hid hn
  clear hxx hR1 hR2 hwr hn
  go_enter Try.func75, Try.ntmps75
  go_wp2_with fail
  go_loopw [8] (fun i wr => ∃ (k : Nat), k ≤ n ∧ i = .int .i64 k ∧ RL k = RL 0 ∧ Below w.heap.size w wr) (fun i _ => n - (intOf i).toNat)
  case atStart => exact ⟨0, Nat.zero_le _, rfl, rfl, Below.refl _ _⟩
  case round =>
    obtain ⟨k, hk, rfl, hq, hb⟩ := hrel
    have HQ := Lib.hid hq
    have HB := Lib.hid hb
    clear hq hb
    by_cases hkn : k < n
    · obtain ⟨g, off, rfl, hc, hd, he, hf⟩ := HX.out k hkn
      have hc1 := cell_later HB.out hc
      have hc2 := cell_later HB.out hd
      have hc3 := cell_later HB.out he
      have hc4 := cell_later HB.out hf
      have i1 : (k : Int) < (n : Int) := by omega
      have hn := HN.out
      have i9 : wrap64 ((k : Int) + 1) = (k : Int) + 1 := IntWalk.wrap64_in _ (by omega)
      have I9 := Lib.hid i9
      have hw1 := HWR.out k wr
      have hr1 := HR1.out k hkn
      rw [HQ.out] at hr1
      have HW := Lib.hid hw1
      have HR := Lib.hid hr1
      have HKN := Lib.hid hkn
      clear hc hd he hf hn hw1 hr1 hkn hk i9
      generalize Z k = z at *
      obtain ⟨z1, z2, z3, z4⟩ := z
      go_wp2_with fail
      refine HW.out.mono ?_
      rintro e w2 ⟨rfl, hb2⟩
      have HB2 := Lib.hid (HB.out.trans (hb2.mono HB.out.size))
      clear hb2 hc1 hc2 hc3 hc4
      generalize wrongE ⟨z1, z2, (z3, z4)⟩ = wg at *
      cases wg with
      | true =>
        have hr := HR.out
        rw [Bool.true_or] at hr
        have HRR := Lib.hid hr
        clear hr
        go_wp2
        go_ret
        exact ⟨⟨_, rfl, by rw [HRR.out]; simp⟩, HB2.out⟩
      | false =>
        have hr := HR.out
        rw [Bool.false_or] at hr
        have HRR := Lib.hid hr
        clear hr
        go_wp2
        rw [I9.out]
        exact ⟨⟨k + 1, HKN.out, rfl, HRR.out.symm, HB2.out⟩, meas_succ HKN.out⟩
    · obtain rfl : k = n := by omega
      have hr := HR2.out
      rw [HQ.out] at hr
      have HRR := Lib.hid hr
      clear hr hkn hk
      go_wp2
      go_ret
      exact ⟨⟨_, rfl, by rw [HRR.out]; rfl⟩, HB.out⟩
theorem econtains_any (v : Value) (es : List En) (w : World) (hv : InE w v es) :
    Calls Try.prog 65 #[v, .func (.func 66) #[] #[]] w fun e w' => e = .returned (.bool (es.any wrongE)) ∧ Below w.heap.size w w' := by
  have hi := eindex_any v es w hv
  obtain ⟨a, c, rfl, -, -⟩ := hv.open_
  generalize es.any wrongE = r at *
  have HI := Lib.hid hi
  clear hi hv
  go_enter Try.func65, Try.ntmps65
  go_wp2_with fail
  refine HI.out.mono ?_
  rintro e w2 ⟨⟨q, rfl, hq⟩, hb⟩
  have HB := Lib.hid hb
  have HQ := Lib.hid hq
  clear hb hq
  go_wp2
  go_ret
  exact ⟨by rw [← HQ.out]; rfl, HB.out⟩
/-- less: -1, 0, 1 -/
def cmpT (x y : En) : Int := if x.T < y.T then -1 else if y.T < x.T then 1 else 0
theorem ecmp_any (x y : En) (w : World) : Calls Try.prog 64 #[aggE x, aggE y] w fun e w' => e = .returned (.int .i64 (cmpT x y)) ∧ Below w.heap.size w w' := by
  obtain ⟨T, K, g1, g2⟩ := x
  obtain ⟨T', K', g1', g2'⟩ := y
  obtain ⟨r, hr⟩ : ∃ r, r = cmpT ⟨T, K, (g1, g2)⟩ ⟨T', K', (g1', g2')⟩ := ⟨_, rfl⟩
  rw [← hr]
  unfold cmpT at hr
  dsimp only at hr
  show Calls Try.prog 64 #[.agg #[.int .u64 T, .int .i64 K, .int .u64 g1, .int .u64 g2], .agg #[.int .u64 T', .int .i64 K', .int .u64 g1', .int .u64 g2']] w _
  have hb0 := ((Below.refl w.heap.size w).alloc (Nat.le_refl _) (Obj.cells #[.int .u64 T, .int .i64 K, .int .u64 g1, .int .u64 g2] 50)).alloc (by simp) (Obj.cells #[.int .u64 T', .int .i64 K', .int .u64 g1', .int .u64 g2'] 50)
  have HB := Lib.hid hb0
  clear hb0
  have hc : (T < T' ∧ r = -1) ∨ (¬ T < T' ∧ T' < T ∧ r = 1) ∨ (¬ T < T' ∧ ¬ T' < T ∧ r = 0) := by
    by_cases h1 : T < T'
    · exact .inl ⟨h1, by rw [hr, if_pos h1]⟩
    · by_cases h2 : T' < T
      · exact .inr (.inl ⟨h1, h2, by rw [hr, if_neg h1, if_pos h2]⟩)
      · exact .inr (.inr ⟨h1, h2, by rw [hr, if_neg h1, if_neg h2]⟩)
  clear hr
  rcases hc with ⟨h1, rfl⟩ | ⟨h1, h2, rfl⟩ | ⟨h1, h2, rfl⟩
  all_goals
    go_enter Try.func64, Try.ntmps64
    go_wp2
    go_ret
    exact ⟨rfl, HB.out⟩
/-- terms do not fall -/
def sortedE (es : List En) : Bool := (List.range es.length).all fun k => k == 0 || !decide ((es.getD k en0).T < (es.getD (k - 1) en0).T)
theorem sortedE_iff (es : List En) : sortedE es = true ↔ ∀ k, 0 < k → k < es.length → (es.getD (k - 1) en0).T ≤ (es.getD k en0).T := by
  unfold sortedE
  rw [List.all_eq_true]
  constructor
  · intro h k h0 hk
    have := h k (List.mem_range.2 hk)
    simp only [Bool.or_eq_true, beq_iff_eq, Bool.not_eq_true', decide_eq_false_iff_not] at this
    exact Int.not_lt.1 (this.resolve_left (by omega))
  · intro h k hk
    rcases Nat.eq_zero_or_pos k with rfl | hp
    · rfl
    · rw [decide_eq_false (Int.not_lt.2 (h k hp (List.mem_range.1 hk))), Bool.not_false, Bool.or_true]
set_option maxRecDepth 100000 in
set_option maxHeartbeats 1000000 in
theorem sorted_any (v : Value) (es : List En) (w : World) (hv : InE w v es) :
    Calls Try.prog 63 #[v, .func (.func 64) #[] #[]] w fun e w' => e = .returned (.bool (sortedE es)) ∧ Below w.heap.size w w' := by
  obtain ⟨a, c, rfl, -, hn, hxx⟩ := hv.open_
  obtain ⟨r, hr⟩ : ∃ r, r = sortedE es := ⟨_, rfl⟩
  have hrt := sortedE_iff es
  rw [← hr] at hrt ⊢
  have hwr := fun j k w1 => ecmp_any (es.getD j en0) (es.getD k en0) w1
  clear hr
  unfold maxLen at hn
  generalize hZ : (fun j => (es.getD j en0)) = Z at *
  have g1 : ∀ j, es.getD j en0 = Z j := fun j => by subst hZ; rfl
  simp only [g1] at hxx hrt hwr
  clear hZ g1 hv
  generalize es.length = n at *
  have HX := Lib.hid hxx
  have HRT := Lib.hid hrt
  have HWR := Lib.hid hwr
  have HN := Lib.hid hn
  have hw0 : wrap64 ((n : Int) - 1) = (n : Int) - 1 := IntWalk.wrap64_in _ (by omega)
  clear hxx hrt hwr hn
  go_enter Try.func63, Try.ntmps63
  have HW0 := Lib.hid hw0
  clear hw0
  go_wp2_with fail
  go_loopw [5] (fun i wr => ∃ z : Int, -1 ≤ z ∧ z < (n : Int) ∧ i = .int .i64 z ∧ (∀ j : Nat, z < (j : Int) → 0 < j → j < n → (Z (j - 1)).T ≤ (Z j).T) ∧ Below w.heap.size w wr) (fun i _ => (intOf i).toNat)
  case atStart => exact ⟨(n : Int) - 1, by omega, by omega, by rw [HW0.out], (fun j h1 h2 h3 => by omega), Below.refl _ _⟩
  case round =>
    obtain ⟨z, hz1, hz2, rfl, hq, hb⟩ := hrel
    have HQ := Lib.hid hq
    have HB := Lib.hid hb
    clear hq hb
    by_cases hz : 0 < z
    · obtain ⟨m, rfl⟩ : ∃ m : Nat, z = (m : Int) := ⟨z.toNat, by omega⟩
      obtain ⟨k, hk⟩ : ∃ k, m = k + 1 := ⟨m - 1, by omega⟩
      obtain ⟨g, off, rfl, hc, hd, he, hf⟩ := HX.out m (by omega)
      obtain ⟨g', off', hgg, hc', hd', he', hf'⟩ := HX.out k (by omega)
      simp only [Option.some.injEq, Addr.mk.injEq, and_true] at hgg
      obtain ⟨rfl, rfl⟩ := hgg
      have y1 := cell_later HB.out hc
      have y2 := cell_later HB.out hd
      have y3 := cell_later HB.out he
      have y4 := cell_later HB.out hf
      have x1 := cell_later HB.out hc'
      have x2 := cell_later HB.out hd'
      have x3 := cell_later HB.out he'
      have x4 := cell_later HB.out hf'
      have HW := Lib.hid (fun w2 => HWR.out m k w2)
      have hcmp : cmpT (Z m) (Z k) < 0 ↔ (Z m).T < (Z k).T := by
        unfold cmpT
        split
        · simp_all
        · split <;> simp_all
      have HCMP := Lib.hid hcmp
      have HQ2 := Lib.hid (fun (hn : (Z k).T ≤ (Z m).T) (j : Nat) (h1 : (k : Int) < (j : Int)) (h2 : 0 < j) (h3 : j < n) => show (Z (j - 1)).T ≤ (Z j).T from by
        by_cases e : j = m
        · subst e
          rw [show j - 1 = k by omega]
          exact hn
        · exact HQ.out j (by omega) h2 h3)
      have HRF : Hid ((Z m).T < (Z k).T → r = false) := Lib.hid fun h => by
        cases r with
        | false => rfl
        | true =>
          have h9 := HRT.out.1 rfl m (by omega) (by omega)
          have e : m - 1 = k := by omega
          rw [e] at h9
          exact absurd h (Int.not_lt.2 h9)
      have i1 : (0 : Int) < (m : Int) := hz
      have i2 : (m : Int) < (n : Int) := hz2
      have i3 : (k : Int) < (n : Int) := by omega
      have w1 : wrap64 ((m : Int) - 1) = (k : Int) := by rw [hk]; unfold wrap64; have := HN.out; omega
      have w2 : IntKind.i64.wrap ((m : Int) - 1) = (k : Int) := by rw [hk, IntKind.wrap_i64]; have := HN.out; omega
      have HKM := Lib.hid hk
      clear hcmp hc hd he hf hc' hd' he' hf' hk hz hz1 hz2
      generalize hzm : Z m = zm at *
      generalize hzk : Z k = zk at *
      obtain ⟨m1, m2, m3, m4⟩ := zm
      obtain ⟨k1, k2, k3, k4⟩ := zk
      dsimp only at *
      go_wp2_with fail
      refine wp_region_chain [10] (kv [(10, .is (.int .i64 (cmpT ⟨m1, m2, (m3, m4)⟩ ⟨k1, k2, (k3, k4)⟩)))]) (fun _ w => Below (wr).heap.size (wr) w) (by kernel_rfl) (by kernel_rfl) (by kernel_rfl) (kv_inh _) (Below.drew (Below.refl _ _)) ?_
      intro ν hν
      have n10 : ν 10 = .int .i64 (cmpT ⟨m1, m2, (m3, m4)⟩ ⟨k1, k2, (k3, k4)⟩) := hν 10
      clear hν
      refine ch_plain 0 1 1 (by rfl) rfl (by kernel_rfl) (by kernel_rfl) ?_
      apply Exists.intro
      refine ⟨fun st w2 hlo hhi hJ => ?_, ?_⟩
      · clear hlo hhi hJ
        go_simp
        exact And.intro rfl rfl
      simp only [Act.put, List.setIfInBounds_toArray, List.set_cons_succ, List.set_cons_zero, Nat.reduceAdd]
      refine ch_plain 0 1 1 (by rfl) rfl (by kernel_rfl) (by kernel_rfl) ?_
      apply Exists.intro
      refine ⟨fun st w2 hlo hhi hJ => ?_, ?_⟩
      · clear hlo hhi hJ
        go_simp
        exact And.intro rfl rfl
      simp only [Act.put, List.setIfInBounds_toArray, List.set_cons_succ, List.set_cons_zero, Nat.reduceAdd]
      refine ch_plain 0 1 1 (by rfl) rfl (by kernel_rfl) (by kernel_rfl) ?_
      apply Exists.intro
      refine ⟨fun st w2 hlo hhi hJ => ?_, ?_⟩
      · clear hlo hhi hJ
        go_simp
        exact And.intro rfl rfl
      simp only [Act.put, List.setIfInBounds_toArray, List.set_cons_succ, List.set_cons_zero, Nat.reduceAdd]
      refine ch_plain 0 1 1 (by rfl) rfl (by kernel_rfl) (by kernel_rfl) ?_
      apply Exists.intro
      refine ⟨fun st w2 hlo hhi hJ => ?_, ?_⟩
      · clear hlo hhi hJ
        go_simp
        exact And.intro rfl rfl
      simp only [Act.put, List.setIfInBounds_toArray, List.set_cons_succ, List.set_cons_zero, Nat.reduceAdd]
      refine ch_plain 0 1 1 (by rfl) rfl (by kernel_rfl) (by kernel_rfl) ?_
      apply Exists.intro
      refine ⟨fun st w2 hlo hhi hJ => ?_, ?_⟩
      · replace hJ : Below (wr).heap.size (wr) w2 := hJ
        have q1 := cell_later hJ y1
        have q2 := cell_later hJ y2
        have q3 := cell_later hJ y3
        have q4 := cell_later hJ y4
        clear hlo hhi hJ
        go_simp
        exact And.intro rfl rfl
      simp only [Act.put, List.setIfInBounds_toArray, List.set_cons_succ, List.set_cons_zero, Nat.reduceAdd]
      refine ch_plain 0 1 1 (by rfl) rfl (by kernel_rfl) (by kernel_rfl) ?_
      apply Exists.intro
      refine ⟨fun st w2 hlo hhi hJ => ?_, ?_⟩
      · clear hlo hhi hJ
        go_simp
        exact And.intro rfl rfl
      simp only [Act.put, List.setIfInBounds_toArray, List.set_cons_succ, List.set_cons_zero, Nat.reduceAdd]
      refine ch_plain 0 1 1 (by rfl) rfl (by kernel_rfl) (by kernel_rfl) ?_
      apply Exists.intro
      refine ⟨fun st w2 hlo hhi hJ => ?_, ?_⟩
      · clear hlo hhi hJ
        go_simp
        exact And.intro rfl rfl
      simp only [Act.put, List.setIfInBounds_toArray, List.set_cons_succ, List.set_cons_zero, Nat.reduceAdd]
      refine ch_plain 0 1 1 (by rfl) rfl (by kernel_rfl) (by kernel_rfl) ?_
      apply Exists.intro
      refine ⟨fun st w2 hlo hhi hJ => ?_, ?_⟩
      · clear hlo hhi hJ
        go_simp
        exact And.intro rfl rfl
      simp only [Act.put, List.setIfInBounds_toArray, List.set_cons_succ, List.set_cons_zero, Nat.reduceAdd]
      refine ch_plain 0 1 1 (by rfl) rfl (by kernel_rfl) (by kernel_rfl) ?_
      apply Exists.intro
      refine ⟨fun st w2 hlo hhi hJ => ?_, ?_⟩
      · clear hlo hhi hJ
        go_simp
        exact And.intro rfl rfl
      simp only [Act.put, List.setIfInBounds_toArray, List.set_cons_succ, List.set_cons_zero, Nat.reduceAdd]
      refine ch_plain 0 1 1 (by rfl) rfl (by kernel_rfl) (by kernel_rfl) ?_
      apply Exists.intro
      refine ⟨fun st w2 hlo hhi hJ => ?_, ?_⟩
      · replace hJ : Below (wr).heap.size (wr) w2 := hJ
        have q1 := cell_later hJ x1
        have q2 := cell_later hJ x2
        have q3 := cell_later hJ x3
        have q4 := cell_later hJ x4
        clear hlo hhi hJ
        go_simp
        exact And.intro rfl rfl
      simp only [Act.put, List.setIfInBounds_toArray, List.set_cons_succ, List.set_cons_zero, Nat.reduceAdd]
      refine ch_special 0 6 (by rfl) rfl (by decide) (by kernel_rfl) (fun w2 hJ => ?_) ?_
      · replace hJ : Below (wr).heap.size (wr) w2 := hJ
        go_simp
        refine (HW.out w2).mono ?_
        rintro e w3 ⟨rfl, hb⟩
        exact ⟨_, rfl, rfl, hJ.trans (hb.mono hJ.size)⟩
      rw [n10]
      simp only [Act.put, List.setIfInBounds_toArray, List.set_cons_succ, List.set_cons_zero, Nat.reduceAdd]
      refine ch_plain 0 1 1 (by rfl) rfl (by kernel_rfl) (by kernel_rfl) ?_
      apply Exists.intro
      refine ⟨fun st w2 hlo hhi hJ => ?_, ?_⟩
      · clear hlo hhi hJ
        go_simp
        exact And.intro rfl rfl
      simp only [Act.put, Nat.reduceAdd]
      refine ch_nil (fun w5 hJ => ?_)
      replace hJ : Below (wr).heap.size (wr) w5 := hJ
      clear n10
      have HJ5 := Lib.hid hJ
      clear hJ x1 x2 x3 x4 y1 y2 y3 y4
      by_cases hl : cmpT ⟨m1, m2, (m3, m4)⟩ ⟨k1, k2, (k3, k4)⟩ < 0
      · have HF := Lib.hid (HRF.out (HCMP.out.1 hl))
        generalize cmpT ⟨m1, m2, (m3, m4)⟩ ⟨k1, k2, (k3, k4)⟩ = cv at *
        go_wp2
        go_ret
        exact ⟨by rw [HF.out]; rfl, HB.out.trans (HJ5.out.mono HB.out.size)⟩
      · have HF := Lib.hid (HQ2.out (Int.not_lt.1 fun h => hl (HCMP.out.2 h)))
        generalize cmpT ⟨m1, m2, (m3, m4)⟩ ⟨k1, k2, (k3, k4)⟩ = cv at *
        go_wp2
        refine ⟨⟨(k : Int), by omega, i3, rfl, HF.out, HB.out.trans (HJ5.out.mono HB.out.size)⟩, ?_⟩
        have := HKM.out
        simp only [intOf, Int.toNat_natCast]
        omega
    · have hall : r = true := HRT.out.2 fun j h1 h2 => HQ.out j (by omega) h1 h2
      have HALL := Lib.hid hall
      clear hall
      go_wp2
      go_ret
      exact ⟨by rw [HALL.out]; rfl, HB.out⟩
/-- log.Check's answer -/
def logC (es : List En) : Int := if 300 < es.length then 3 else if sortedE es = true ∧ es.any wrongE = false then 0 else 2
theorem logcheck_any (v : Value) (es : List En) (w : World) (hv : InE w v es) :
    Calls Try.prog 51 #[v] w fun e w' => e = .returned (.int .i64 (logC es)) ∧ Below w.heap.size w w' := by
  have h1 := sorted_any v es w hv
  have h2 := fun w1 h => econtains_any v es w1 (hv.keep (w' := w1) h)
  obtain ⟨a, c, rfl, -, -⟩ := hv.open_
  obtain ⟨r, hr⟩ : ∃ r, r = logC es := ⟨_, rfl⟩
  rw [← hr]
  unfold logC at hr
  generalize sortedE es = so at *
  generalize es.any wrongE = an at *
  generalize es.length = n at *
  have hc : (300 < n ∧ r = 3) ∨ (n ≤ 300 ∧ so = false ∧ r = 2) ∨ (n ≤ 300 ∧ so = true ∧ an = true ∧ r = 2) ∨ (n ≤ 300 ∧ so = true ∧ an = false ∧ r = 0) := by
    by_cases q : 300 < n
    · exact .inl ⟨q, by rw [hr, if_pos q]⟩
    · rw [if_neg q] at hr
      cases so <;> cases an <;> simp_all
  have H1 := Lib.hid h1
  have H2 := Lib.hid h2
  clear h1 h2 hr hv
  rcases hc with ⟨q, rfl⟩ | ⟨q, rfl, rfl⟩ | ⟨q, rfl, rfl, rfl⟩ | ⟨q, rfl, rfl, rfl⟩
  · have i1 : (300 : Int) < (n : Int) := by omega
    clear q
    go_enter Try.func51, Try.ntmps51
    go_wp2
    go_ret
    exact ⟨rfl, Below.refl _ _⟩
  · have i1 : ¬ (300 : Int) < (n : Int) := by omega
    clear q
    go_enter Try.func51, Try.ntmps51
    go_wp2_with fail
    refine H1.out.mono ?_
    rintro e w1 ⟨rfl, hb⟩
    have HB := Lib.hid hb
    clear hb
    go_wp2
    go_ret
    exact ⟨rfl, HB.out⟩
  all_goals
    have i1 : ¬ (300 : Int) < (n : Int) := by omega
    clear q
    go_enter Try.func51, Try.ntmps51
    go_wp2_with fail
    refine H1.out.mono ?_
    rintro e w1 ⟨rfl, hb⟩
    have HB := Lib.hid hb
    clear hb
    go_wp2_with fail
    refine (H2.out w1 HB.out).mono ?_
    rintro e w2 ⟨rfl, hb⟩
    have HB2 := Lib.hid (HB.out.trans (hb.mono HB.out.size))
    clear hb
    go_wp2
    go_ret
    exact ⟨rfl, HB2.out⟩
def placeB (x : Int) : Bool := decide (0 ≤ x) && decide (x ≤ 300)
theorem place_any (x : Int) (w : World) : Calls Try.prog 32 #[.int .i64 x] w fun e w' => e = .returned (.bool (placeB x)) ∧ w = w' := by
  obtain ⟨r, hr⟩ : ∃ r, r = placeB x := ⟨_, rfl⟩
  rw [← hr]
  unfold placeB at hr
  have hc : (x < 0 ∧ r = false) ∨ (0 ≤ x ∧ decide (x ≤ 300) = false ∧ r = false) ∨ (0 ≤ x ∧ x ≤ 300 ∧ r = true) := by
    by_cases h1 : 0 ≤ x
    · by_cases h2 : x ≤ 300
      · exact .inr (.inr ⟨h1, h2, by rw [hr, decide_eq_true h1, decide_eq_true h2]; rfl⟩)
      · exact .inr (.inl ⟨h1, decide_eq_false h2, by rw [hr, decide_eq_true h1, decide_eq_false h2]; rfl⟩)
    · exact .inl ⟨by omega, by rw [hr, decide_eq_false h1]; rfl⟩
  clear hr
  rcases hc with ⟨h1, rfl⟩ | ⟨h1, h2, rfl⟩ | ⟨h1, h2, rfl⟩
  all_goals
    go_enter Try.func32, Try.ntmps32
    go_wp2
    go_ret
    exact ⟨rfl, rfl⟩
end Go.Proofs.Ytikimmhkfjaijaa
namespace Go.Proofs.Ytikimmhkfjaijaa
open Go.RowKit Reg Go.ChangeShapes

theorem ent_fields : (Try.prog.fieldsOf 50).toList.map (fun f => (decide (f.name = "_"), f.type, f.offset)) = [(false, 22, 0), (false, 3, 1), (false, 28, 2)] := by kernel_rfl
def eqE (x y : En) : Bool := x.T == y.T && (x.K == y.K && (x.g.1 == y.g.1 && x.g.2 == y.g.2))
theorem eqE_iff {x y : En} : eqE x y = true ↔ x = y := by
  obtain ⟨T, K, g1, g2⟩ := x
  obtain ⟨T', K', g1', g2'⟩ := y
  simp [eqE]
theorem three_fields {fs : List Field} {a b c : Bool × TypeId × Nat} (h : fs.map (fun f => (decide (f.name = "_"), f.type, f.offset)) = [a, b, c]) : ∃ f0 f1 f2, fs = [f0, f1, f2] := by
  have hl := congrArg List.length h
  rw [List.length_map] at hl
  match fs, hl with
  | [f0, f1, f2], _ => exact ⟨f0, f1, f2, rfl⟩
theorem part_guid (a b c d : Int) (w : World) : (part 28 #[Value.int .u64 a, .int .i64 b, .int .u64 c, .int .u64 d] 2).run Try.prog w = .ok (.agg #[.int .u64 c, .int .u64 d]) w := by
  obtain ⟨i, hi, _, hz, _⟩ := info_parts guid_info
  have hu := Try.underlying28
  simp [part, isAgg, sizeOf, typeInfo, hi, hz, run_underlying hu]
theorem run_neq_ent (x y : En) (w : World) : (binOp .neq 50 (aggE x) (aggE y)).run Try.prog w = .ok (.bool (!eqE x y)) w := by
  obtain ⟨T, K, g1, g2⟩ := x
  obtain ⟨T', K', g1', g2'⟩ := y
  have key : ∀ d, (Op.equalIn (d + 3) 50 (.agg #[.int .u64 T, .int .i64 K, .int .u64 g1, .int .u64 g2]) (.agg #[.int .u64 T', .int .i64 K', .int .u64 g1', .int .u64 g2'])).run Try.prog w = .ok (T == T' && (K == K' && (g1 == g1' && g2 == g2'))) w := by
    intro d
    rw [run_equalIn_struct (P := Try.prog) w (d + 2) 50 #[.int .u64 T, .int .i64 K, .int .u64 g1, .int .u64 g2] #[.int .u64 T', .int .i64 K', .int .u64 g1', .int .u64 g2'] (by kernel_rfl) (by kernel_rfl)]
    have hf := ent_fields
    generalize (Try.prog.fieldsOf 50).toList = fs at hf
    obtain ⟨f0, f1, f2, rfl⟩ := three_fields hf
    simp only [List.map_cons, List.map_nil, List.cons.injEq, Prod.mk.injEq, decide_eq_false_iff_not, and_true] at hf
    obtain ⟨⟨n0, t0, o0⟩, ⟨n1, t1, o1⟩, n2, t2, o2⟩ := hf
    have hk0 : Try.prog.plainKey 22 = true := by kernel_rfl
    have hk1 : Try.prog.plainKey 3 = true := by kernel_rfl
    have p0 : ∀ (a b c d : Int), (part 22 #[Value.int .u64 a, .int .i64 b, .int .u64 c, .int .u64 d] 0).run Try.prog w = .ok (.int .u64 a) w := fun a b c d => run_part_plain w hk0 rfl
    have p1 : ∀ (a b c d : Int), (part 3 #[Value.int .u64 a, .int .i64 b, .int .u64 c, .int .u64 d] 1).run Try.prog w = .ok (.int .i64 b) w := fun a b c d => run_part_plain w hk1 rfl
    have p2 := fun a b c d => part_guid a b c d w
    have e0 := run_equalIn_int (P := Try.prog) w (d + 1) 22 .u64 .u64 T T' Try.underlying22
    have e1 := run_equalIn_int (P := Try.prog) w (d + 1) 3 .i64 .i64 K K' Try.underlying3
    have e2 := run_equalIn_guid d g1 g2 g1' g2' w
    unfold Op.eqFields
    rw [if_pos n0]
    simp only [Sem.run_bind, t0, o0, p0, Result.andThen_ok, e0]
    cases h0 : T == T' with
    | false => rfl
    | true =>
      simp only [Bool.not_true, Bool.false_eq_true, if_false, Bool.true_and]
      unfold Op.eqFields
      rw [if_pos n1]
      simp only [Sem.run_bind, t1, o1, p1, Result.andThen_ok, e1]
      cases h1 : K == K' with
      | false => rfl
      | true =>
        simp only [Bool.not_true, Bool.false_eq_true, if_false, Bool.true_and]
        unfold Op.eqFields
        rw [if_pos n2]
        simp only [Sem.run_bind, t2, o2, p2, Result.andThen_ok, e2]
        cases h2 : (g1 == g1' && g2 == g2') with
        | false => rfl
        | true => rfl
  show (binOp .neq 50 (.agg #[.int .u64 T, .int .i64 K, .int .u64 g1, .int .u64 g2]) (.agg #[.int .u64 T', .int .i64 K', .int .u64 g1', .int .u64 g2'])).run Try.prog w = _
  simp only [binOp]
  simp [Op.equal, Op.maxDepth, key 9997, eqE]
theorem eqEs_iff {xs ys : List En} (hl : xs.length = ys.length) : (∀ j, j < xs.length → xs.getD j en0 = ys.getD j en0) ↔ xs = ys := by
  constructor
  · intro h
    refine List.ext_getElem hl fun j h1 h2 => ?_
    have := h j h1
    rwa [List.getD_eq_getElem?_getD, List.getD_eq_getElem?_getD, List.getElem?_eq_getElem h1, List.getElem?_eq_getElem h2] at this
  · rintro rfl j _
    rfl
set_option maxRecDepth 100000 in
set_option maxHeartbeats 1000000 in
theorem eequal_any (v v' : Value) (es fs : List En) (w : World) (hv : InE w v es) (hv' : InE w v' fs) :
    Calls Try.prog 26 #[v, v'] w fun e w' => e = .returned (.bool (decide (es = fs))) ∧ Below w.heap.size w w' := by
  obtain ⟨a, c, rfl, -, hn, hxx⟩ := hv.open_
  obtain ⟨a', c', rfl, -, -, hxx'⟩ := hv'.open_
  obtain ⟨r, hr⟩ : ∃ r, r = decide (es = fs) := ⟨_, rfl⟩
  have hrl : es.length ≠ fs.length → r = false := fun h => by rw [hr]; exact decide_eq_false fun e => h (by rw [e])
  have hrt : es.length = fs.length → (r = true ↔ ∀ j, j < es.length → es.getD j en0 = fs.getD j en0) := fun h => by rw [hr, decide_eq_true_iff]; exact (eqEs_iff h).symm
  rw [← hr]
  clear hr
  unfold maxLen at hn
  generalize hZ : (fun j => (es.getD j en0)) = Z at *
  have g1 : ∀ j, es.getD j en0 = Z j := fun j => by subst hZ; rfl
  generalize hZ' : (fun j => (fs.getD j en0)) = Z' at *
  have g2 : ∀ j, fs.getD j en0 = Z' j := fun j => by subst hZ'; rfl
  simp only [g1, g2] at hxx hxx' hrt
  clear hZ g1 hv hZ' g2 hv'
  generalize es.length = n at *
  generalize fs.length = n' at *
  by_cases hne : n = n'
  · subst hne
    have HRT := Lib.hid (hrt rfl)
    have HX := Lib.hid hxx
    have HX' := Lib.hid hxx'
    have HN := Lib.hid hn
    clear hrl hrt hxx hxx' hn
    go_enter Try.func26, Try.ntmps26
    go_wp2_with fail
    go_loopw [13] (fun i wr => ∃ (k : Nat), k ≤ n ∧ i = .int .i64 k ∧ (∀ j : Nat, j < k → Z j = Z' j) ∧ Below w.heap.size w wr) (fun i _ => n - (intOf i).toNat)
    case atStart => exact ⟨0, Nat.zero_le _, rfl, (fun j hj => by omega), Below.refl _ _⟩
    case round =>
      obtain ⟨k, hk, rfl, hq, hb⟩ := hrel
      have HQ := Lib.hid hq
      have HB := Lib.hid hb
      clear hq hb
      by_cases hkn : k < n
      · obtain ⟨g, off, rfl, hc, hd, he, hf⟩ := HX.out k hkn
        obtain ⟨g', off', rfl, hc', hd', he', hf'⟩ := HX'.out k hkn
        have y1 := cell_later HB.out hc
        have y2 := cell_later HB.out hd
        have y3 := cell_later HB.out he
        have y4 := cell_later HB.out hf
        have x1 := cell_later HB.out hc'
        have x2 := cell_later HB.out hd'
        have x3 := cell_later HB.out he'
        have x4 := cell_later HB.out hf'
        have i1 : (k : Int) < (n : Int) := by omega
        have i9 : wrap64 ((k : Int) + 1) = (k : Int) + 1 := IntWalk.wrap64_in _ (by have := HN.out; omega)
        have I9 := Lib.hid i9
        have HKN := Lib.hid hkn
        have hneq := fun w => run_neq_ent (Z k) (Z' k) w
        have HSTEP := Lib.hid (fun (h : eqE (Z k) (Z' k) = true) (j : Nat) (hj : j < k + 1) => show Z j = Z' j from by
          by_cases e : j = k
          · subst e; exact eqE_iff.1 h
          · exact HQ.out j (by omega))
        have HNO : Hid (eqE (Z k) (Z' k) = false → r = false) := Lib.hid fun h => by
          cases r with
          | false => rfl
          | true =>
            have h9 := HRT.out.1 rfl k hkn
            rw [eqE_iff.2 h9] at h
            cases h
        clear hc hd he hf hc' hd' he' hf' hk hkn i9
        generalize eqE (Z k) (Z' k) = eb at *
        generalize hzm : Z k = zm at *
        generalize hzk : Z' k = zk at *
        obtain ⟨m1, m2, m3, m4⟩ := zm
        obtain ⟨k1, k2, k3, k4⟩ := zk
        replace hneq : ∀ w, (binOp .neq 50 (.agg #[.int .u64 m1, .int .i64 m2, .int .u64 m3, .int .u64 m4]) (.agg #[.int .u64 k1, .int .i64 k2, .int .u64 k3, .int .u64 k4])).run Try.prog w = .ok (.bool (!eb)) w := hneq
        dsimp only at *
        clear hzm hzk
        go_wp2_with fail
        cases eb with
        | false =>
          have HR := Lib.hid (HNO.out rfl)
          go_quiet (fail)
          go_wp2
          go_ret
          exact ⟨by rw [HR.out]; rfl, below_drewN HB.out _⟩
        | true =>
          have HR := Lib.hid (HSTEP.out rfl)
          go_quiet (fail)
          go_wp2
          rw [I9.out]
          exact ⟨⟨k + 1, HKN.out, rfl, HR.out, below_drewN HB.out _⟩, meas_succ HKN.out⟩
      · obtain rfl : k = n := by omega
        have HR := Lib.hid (HRT.out.2 fun j hj => HQ.out j hj)
        clear hkn hk
        go_wp2
        go_ret
        exact ⟨by rw [HR.out]; rfl, HB.out⟩
  · have hr := hrl hne
    subst hr
    have i1 : ((n : Int) != (n' : Int)) = true := by simp; omega
    clear hrl hrt hxx hxx' hn
    go_enter Try.func26, Try.ntmps26
    go_wp2
    go_ret
    exact ⟨rfl, Below.refl _ _⟩
theorem alike_any (v v' : Value) (es fs : List En) (w : World) (hv : InE w v es) (hv' : InE w v' fs) :
    Calls Try.prog 17 #[v, v'] w fun e w' => e = .returned (.bool (decide (es = fs))) ∧ Below w.heap.size w w' := by
  have hi := eequal_any v v' es fs w hv hv'
  obtain ⟨a, c, rfl, -, -⟩ := hv.open_
  obtain ⟨a', c', rfl, -, -⟩ := hv'.open_
  generalize decide (es = fs) = r at *
  have HI := Lib.hid hi
  clear hi hv hv'
  go_enter Try.func17, Try.ntmps17
  go_wp2_with fail
  refine HI.out.mono ?_
  rintro e w2 ⟨rfl, hb⟩
  have HB := Lib.hid hb
  clear hb
  go_wp2
  go_ret
  exact ⟨rfl, HB.out⟩
theorem sameP_iff {p q : Prt} : sameP p q = true ↔ p = q := by
  unfold sameP
  rw [decide_eq_true_iff]
  constructor
  · rintro ⟨h1, h2, h3, h4, h5, h6⟩
    obtain ⟨⟨b1, b2⟩, ⟨t1, t2⟩, f, a, cs⟩ := p
    obtain ⟨⟨b1', b2'⟩, ⟨t1', t2'⟩, f', a', cs'⟩ := q
    simp only [Bool.and_eq_true, beq_iff_eq] at h3 h4
    dsimp only at h1 h2 h5 h6
    obtain ⟨rfl, rfl⟩ := h3
    obtain ⟨rfl, rfl⟩ := h4
    subst h5; subst h6
    have e : cs = cs' := by
      refine List.ext_getElem h1 fun j k1 k2 => ?_
      have h := h2 j k1
      rw [List.getD_eq_getElem?_getD, List.getD_eq_getElem?_getD, List.getElem?_eq_getElem k1, List.getElem?_eq_getElem k2] at h
      simp only [Option.getD_some, eqC, Bool.and_eq_true, beq_iff_eq] at h
      exact Prod.ext h.1 ((str_iff _ _).1 (by simpa using h.2))
    rw [e]
  · rintro rfl
    exact ⟨rfl, (fun j hj => by simp [eqC]), by simp, by simp, rfl, rfl⟩
def sm1 (x y : Ms) : Bool := x.K == y.K && (x.T == y.T && (x.P == y.P && (x.PT == y.PT && (x.C == y.C && (x.Y == y.Y && (x.M == y.M && x.S == y.S))))))
def sm2 (x y : Ms) : Bool := x.n == y.n && ((x.la.1 == y.la.1 && x.la.2 == y.la.2) && ((x.ta.1 == y.ta.1 && x.ta.2 == y.ta.2) && x.N == y.N))
def sameM (x y : Ms) : Bool := sm1 x y && (sm2 x y && (decide (x.es = y.es) && (sameL x.l y.l && sameP x.p y.p)))
theorem sameM_iff {x y : Ms} : sameM x y = true ↔ x = y := by
  unfold sameM sm1 sm2
  constructor
  · intro h
    simp only [Bool.and_eq_true, beq_iff_eq, decide_eq_true_iff] at h
    obtain ⟨⟨a1, a2, a3, a4, a5, a6, a7, a8⟩, ⟨b1, b2, b3, b4⟩, c1, c2, c3⟩ := h
    have c2 := sameL_iff.1 c2
    have c3 := sameP_iff.1 c3
    have b2 := Prod.ext b2.1 b2.2
    have b3 := Prod.ext b3.1 b3.2
    cases x; cases y
    simp_all
  · rintro rfl
    have h1 := sameL_iff.2 (rfl : x.l = x.l)
    have h2 := sameP_iff.2 (rfl : x.p = x.p)
    simp [h1, h2]
set_option maxRecDepth 100000 in
set_option maxHeartbeats 4000000 in
theorem msame_any (w : World) (u v : Value) (x y : Ms) (hu : InMs w u x) (hv : InMs w v y) : Calls Try.prog 10 #[u, v] w fun e w' => e = .returned (.bool (sameM x y)) ∧ Below w.heap.size w w' := by
  obtain ⟨se, sl, sc, rfl, hx1, hx2, hx3, hx4⟩ := hu
  obtain ⟨se', sl', sc', rfl, hy1, hy2, hy3, hy4⟩ := hv
  obtain ⟨a1, c1, e1⟩ := hx1.slice_
  obtain ⟨a2, c2, e2⟩ := hx2.slice_
  obtain ⟨a3, c3, e3⟩ := hx3.slice_
  obtain ⟨a4, c4, e4⟩ := hy1.slice_
  obtain ⟨a5, c5, e5⟩ := hy2.slice_
  obtain ⟨a6, c6, e6⟩ := hy3.slice_
  have hmx : ((msA x se sl sc).all fun x => x.oneCell') = true := by rw [e1, e2, e3]; exact msA_one _ _ _ _ _ _ _ _ _ _
  have hmy : ((msA y se' sl' sc').all fun x => x.oneCell') = true := by rw [e4, e5, e6]; exact msA_one _ _ _ _ _ _ _ _ _ _
  obtain ⟨ma, hma⟩ : ∃ ma, msA x se sl sc = ma := ⟨_, rfl⟩
  obtain ⟨mb, hmb⟩ : ∃ mb, msA y se' sl' sc' = mb := ⟨_, rfl⟩
  have hsx := msg_size x se sl sc
  have hsy := msg_size y se' sl' sc'
  rw [hma] at hmx hsx ⊢
  rw [hmb] at hmy hsy ⊢
  have HE := Lib.hid (fun w2 (h : Below w.heap.size w w2) => alike_any se se' x.es y.es w2 (hx1.keep h) (hy1.keep h))
  have HL := Lib.hid (fun w2 (h : Below w.heap.size w w2) => lsame_any (.agg #[.int .u64 x.l.E, .int .i64 x.l.B, .bool x.l.L, sl]) (.agg #[.int .u64 y.l.E, .int .i64 y.l.B, .bool y.l.L, sl']) x.l y.l w2 ⟨sl, rfl, hx2.keep h, hx4.E, hx4.B⟩ ⟨sl', rfl, hy2.keep h, hy4.E, hy4.B⟩)
  have HP := Lib.hid (fun w2 (h : Below w.heap.size w w2) => same_any w2 (prV x.p sc) (prV y.p sc') x.p y.p ⟨sc, rfl, hx3.keep h, hx4.p⟩ ⟨sc', rfl, hy3.keep h, hy4.p⟩)
  unfold prV at HP
  obtain ⟨res, hres⟩ : ∃ r, r = sameM x y := ⟨_, rfl⟩
  rw [← hres]
  unfold sameM at hres
  obtain ⟨X1, hX1⟩ : ∃ r, r = sm1 x y := ⟨_, rfl⟩
  obtain ⟨X2, hX2⟩ : ∃ r, r = sm2 x y := ⟨_, rfl⟩
  rw [← hX1, ← hX2] at hres
  generalize decide (x.es = y.es) = X3 at *
  generalize sameL x.l y.l = X4 at *
  generalize sameP x.p y.p = X5 at *
  unfold sm1 at hX1
  unfold sm2 at hX2
  have HX1 := Lib.hid hX1
  have HX2 := Lib.hid hX2
  have HRES := Lib.hid hres
  have hbb : Below w.heap.size w ((w.alloc (.cells ma 33)).alloc (.cells mb 33)) := ((Below.refl w.heap.size w).alloc (Nat.le_refl _) _).alloc (by simp) _
  have hbx : Blk ((w.alloc (.cells ma 33)).alloc (.cells mb 33)) w.heap.size 33 (msA x se sl sc) := by rw [hma]; exact (Blk.new w _ _).alloc _
  have hby : Blk ((w.alloc (.cells ma 33)).alloc (.cells mb 33)) (w.heap.size + 1) 33 (msA y se' sl' sc') := by rw [hmb]; exact Blk.newAt (w := w.alloc (.cells ma 33)) _ _ (by simp)
  have HSX := Lib.hid hsx
  have HSY := Lib.hid hsy
  have HMX := Lib.hid hmx
  have HMY := Lib.hid hmy
  have HBx := Lib.hid hbx
  have HBy := Lib.hid hby
  have HB := Lib.hid hbb
  rw [e1, e2, e3] at HBx
  rw [e4, e5, e6] at HBy
  rw [e1, e4] at HE
  rw [e2, e5] at HL
  rw [e3, e6] at HP
  clear hx1 hx2 hx3 hx4 hy1 hy2 hy3 hy4 hma hmb hsx hsy hmx hmy hX1 hX2 hres hbb hbx hby e1 e2 e3 e4 e5 e6
  go_enter Try.func10, Try.ntmps10
  go_upto_region 1 with fail
  generalize (w.alloc (Obj.cells ma 33)).alloc (Obj.cells mb 33) = w2 at *
  have p0 : w2.cell? ⟨w.heap.size, 0, none⟩ = some (.int .i64 x.K) := by rw [HBx.out.cell]; rfl
  have p1 : w2.cell? ⟨w.heap.size, 1, none⟩ = some (.int .u64 x.T) := by rw [HBx.out.cell]; rfl
  have p2 : w2.cell? ⟨w.heap.size, 2, none⟩ = some (.int .i64 x.P) := by rw [HBx.out.cell]; rfl
  have p3 : w2.cell? ⟨w.heap.size, 3, none⟩ = some (.int .u64 x.PT) := by rw [HBx.out.cell]; rfl
  have p4 : w2.cell? ⟨w.heap.size, 4, none⟩ = some (.slice a1 x.es.length c1) := by rw [HBx.out.cell]; rfl
  have p5 : w2.cell? ⟨w.heap.size, 5, none⟩ = some (.int .i64 x.C) := by rw [HBx.out.cell]; rfl
  have p6 : w2.cell? ⟨w.heap.size, 6, none⟩ = some (.bool x.Y) := by rw [HBx.out.cell]; rfl
  have p7 : w2.cell? ⟨w.heap.size, 7, none⟩ = some (.int .i64 x.M) := by rw [HBx.out.cell]; rfl
  have p8 : w2.cell? ⟨w.heap.size, 8, none⟩ = some (.int .i64 x.S) := by rw [HBx.out.cell]; rfl
  have p9 : w2.cell? ⟨w.heap.size, 9, none⟩ = some (.int .u64 x.l.E) := by rw [HBx.out.cell]; rfl
  have p10 : w2.cell? ⟨w.heap.size, 10, none⟩ = some (.int .i64 x.l.B) := by rw [HBx.out.cell]; rfl
  have p11 : w2.cell? ⟨w.heap.size, 11, none⟩ = some (.bool x.l.L) := by rw [HBx.out.cell]; rfl
  have p12 : w2.cell? ⟨w.heap.size, 12, none⟩ = some (.slice a2 x.l.l.length c2) := by rw [HBx.out.cell]; rfl
  have p13 : w2.cell? ⟨w.heap.size, 13, none⟩ = some (.int .i64 x.n) := by rw [HBx.out.cell]; rfl
  have p14 : w2.cell? ⟨w.heap.size, 14, none⟩ = some (.int .u64 x.la.1) := by rw [HBx.out.cell]; rfl
  have p15 : w2.cell? ⟨w.heap.size, 15, none⟩ = some (.int .u64 x.la.2) := by rw [HBx.out.cell]; rfl
  have p16 : w2.cell? ⟨w.heap.size, 16, none⟩ = some (.int .u64 x.ta.1) := by rw [HBx.out.cell]; rfl
  have p17 : w2.cell? ⟨w.heap.size, 17, none⟩ = some (.int .u64 x.ta.2) := by rw [HBx.out.cell]; rfl
  have p18 : w2.cell? ⟨w.heap.size, 18, none⟩ = some (.int .i64 x.N) := by rw [HBx.out.cell]; rfl
  have p19 : w2.cell? ⟨w.heap.size, 19, none⟩ = some (.int .u64 x.p.b.1) := by rw [HBx.out.cell]; rfl
  have p20 : w2.cell? ⟨w.heap.size, 20, none⟩ = some (.int .u64 x.p.b.2) := by rw [HBx.out.cell]; rfl
  have p21 : w2.cell? ⟨w.heap.size, 21, none⟩ = some (.int .u64 x.p.t.1) := by rw [HBx.out.cell]; rfl
  have p22 : w2.cell? ⟨w.heap.size, 22, none⟩ = some (.int .u64 x.p.t.2) := by rw [HBx.out.cell]; rfl
  have p23 : w2.cell? ⟨w.heap.size, 23, none⟩ = some (.int .i64 x.p.f) := by rw [HBx.out.cell]; rfl
  have p24 : w2.cell? ⟨w.heap.size, 24, none⟩ = some (.int .i64 x.p.a) := by rw [HBx.out.cell]; rfl
  have p25 : w2.cell? ⟨w.heap.size, 25, none⟩ = some (.slice a3 x.p.cs.length c3) := by rw [HBx.out.cell]; rfl
  have q0 : w2.cell? ⟨w.heap.size + 1, 0, none⟩ = some (.int .i64 y.K) := by rw [HBy.out.cell]; rfl
  have q1 : w2.cell? ⟨w.heap.size + 1, 1, none⟩ = some (.int .u64 y.T) := by rw [HBy.out.cell]; rfl
  have q2 : w2.cell? ⟨w.heap.size + 1, 2, none⟩ = some (.int .i64 y.P) := by rw [HBy.out.cell]; rfl
  have q3 : w2.cell? ⟨w.heap.size + 1, 3, none⟩ = some (.int .u64 y.PT) := by rw [HBy.out.cell]; rfl
  have q4 : w2.cell? ⟨w.heap.size + 1, 4, none⟩ = some (.slice a4 y.es.length c4) := by rw [HBy.out.cell]; rfl
  have q5 : w2.cell? ⟨w.heap.size + 1, 5, none⟩ = some (.int .i64 y.C) := by rw [HBy.out.cell]; rfl
  have q6 : w2.cell? ⟨w.heap.size + 1, 6, none⟩ = some (.bool y.Y) := by rw [HBy.out.cell]; rfl
  have q7 : w2.cell? ⟨w.heap.size + 1, 7, none⟩ = some (.int .i64 y.M) := by rw [HBy.out.cell]; rfl
  have q8 : w2.cell? ⟨w.heap.size + 1, 8, none⟩ = some (.int .i64 y.S) := by rw [HBy.out.cell]; rfl
  have q9 : w2.cell? ⟨w.heap.size + 1, 9, none⟩ = some (.int .u64 y.l.E) := by rw [HBy.out.cell]; rfl
  have q10 : w2.cell? ⟨w.heap.size + 1, 10, none⟩ = some (.int .i64 y.l.B) := by rw [HBy.out.cell]; rfl
  have q11 : w2.cell? ⟨w.heap.size + 1, 11, none⟩ = some (.bool y.l.L) := by rw [HBy.out.cell]; rfl
  have q12 : w2.cell? ⟨w.heap.size + 1, 12, none⟩ = some (.slice a5 y.l.l.length c5) := by rw [HBy.out.cell]; rfl
  have q13 : w2.cell? ⟨w.heap.size + 1, 13, none⟩ = some (.int .i64 y.n) := by rw [HBy.out.cell]; rfl
  have q14 : w2.cell? ⟨w.heap.size + 1, 14, none⟩ = some (.int .u64 y.la.1) := by rw [HBy.out.cell]; rfl
  have q15 : w2.cell? ⟨w.heap.size + 1, 15, none⟩ = some (.int .u64 y.la.2) := by rw [HBy.out.cell]; rfl
  have q16 : w2.cell? ⟨w.heap.size + 1, 16, none⟩ = some (.int .u64 y.ta.1) := by rw [HBy.out.cell]; rfl
  have q17 : w2.cell? ⟨w.heap.size + 1, 17, none⟩ = some (.int .u64 y.ta.2) := by rw [HBy.out.cell]; rfl
  have q18 : w2.cell? ⟨w.heap.size + 1, 18, none⟩ = some (.int .i64 y.N) := by rw [HBy.out.cell]; rfl
  have q19 : w2.cell? ⟨w.heap.size + 1, 19, none⟩ = some (.int .u64 y.p.b.1) := by rw [HBy.out.cell]; rfl
  have q20 : w2.cell? ⟨w.heap.size + 1, 20, none⟩ = some (.int .u64 y.p.b.2) := by rw [HBy.out.cell]; rfl
  have q21 : w2.cell? ⟨w.heap.size + 1, 21, none⟩ = some (.int .u64 y.p.t.1) := by rw [HBy.out.cell]; rfl
  have q22 : w2.cell? ⟨w.heap.size + 1, 22, none⟩ = some (.int .u64 y.p.t.2) := by rw [HBy.out.cell]; rfl
  have q23 : w2.cell? ⟨w.heap.size + 1, 23, none⟩ = some (.int .i64 y.p.f) := by rw [HBy.out.cell]; rfl
  have q24 : w2.cell? ⟨w.heap.size + 1, 24, none⟩ = some (.int .i64 y.p.a) := by rw [HBy.out.cell]; rfl
  have q25 : w2.cell? ⟨w.heap.size + 1, 25, none⟩ = some (.slice a6 y.p.cs.length c6) := by rw [HBy.out.cell]; rfl
  have PP := Lib.hid (And.intro p4 (And.intro p9 (And.intro p10 (And.intro p11 (And.intro p12 (And.intro p19 (And.intro p20 (And.intro p21 (And.intro p22 (And.intro p23 (And.intro p24 p25)))))))))))
  have QQ := Lib.hid (And.intro q4 (And.intro q9 (And.intro q10 (And.intro q11 (And.intro q12 (And.intro q19 (And.intro q20 (And.intro q21 (And.intro q22 (And.intro q23 (And.intro q24 q25)))))))))))
  have P2 := Lib.hid (And.intro p13 (And.intro p14 (And.intro p15 (And.intro p16 (And.intro p17 p18)))))
  have Q2 := Lib.hid (And.intro q13 (And.intro q14 (And.intro q15 (And.intro q16 (And.intro q17 q18)))))
  clear p4 p9 p10 p11 p12 p19 p20 p21 p22 p23 p24 p25 q4 q9 q10 q11 q12 q19 q20 q21 q22 q23 q24 q25 p13 p14 p15 p16 p17 p18 q13 q14 q15 q16 q17 q18
  go_cut [5] from 7 to 60 (fun c wx => c = .bool X1 ∧ wx = w2)
  case first =>
    obtain ⟨e0, f0⟩ : ∃ e, (x.K == y.K) = e := ⟨_, rfl⟩
    obtain ⟨e1, f1⟩ : ∃ e, (x.T == y.T) = e := ⟨_, rfl⟩
    obtain ⟨e2, f2⟩ : ∃ e, (x.P == y.P) = e := ⟨_, rfl⟩
    obtain ⟨e3, f3⟩ : ∃ e, (x.PT == y.PT) = e := ⟨_, rfl⟩
    obtain ⟨e4, f4⟩ : ∃ e, (x.C == y.C) = e := ⟨_, rfl⟩
    obtain ⟨e5, f5⟩ : ∃ e, (x.Y == y.Y) = e := ⟨_, rfl⟩
    obtain ⟨e6, f6⟩ : ∃ e, (x.M == y.M) = e := ⟨_, rfl⟩
    obtain ⟨e7, f7⟩ : ∃ e, (x.S == y.S) = e := ⟨_, rfl⟩
    have hx := HX1.out
    rw [f0, f1, f2, f3, f4, f5, f6, f7] at hx
    cases e0 with
    | false =>
      have HXX := Lib.hid hx
      clear hx
      go_wp2_with fail
      go_meet
      exact ⟨by rw [HXX.out]; rfl, rfl⟩
    | true =>
      cases e1 with
      | false =>
        have HXX := Lib.hid hx
        clear hx
        go_wp2_with fail
        go_meet
        exact ⟨by rw [HXX.out]; rfl, rfl⟩
      | true =>
        cases e2 with
        | false =>
          have HXX := Lib.hid hx
          clear hx
          go_wp2_with fail
          go_meet
          exact ⟨by rw [HXX.out]; rfl, rfl⟩
        | true =>
          cases e3 with
          | false =>
            have HXX := Lib.hid hx
            clear hx
            go_wp2_with fail
            go_meet
            exact ⟨by rw [HXX.out]; rfl, rfl⟩
          | true =>
            cases e4 with
            | false =>
              have HXX := Lib.hid hx
              clear hx
              go_wp2_with fail
              go_meet
              exact ⟨by rw [HXX.out]; rfl, rfl⟩
            | true =>
              cases e5 with
              | false =>
                have HXX := Lib.hid hx
                clear hx
                go_wp2_with fail
                go_meet
                exact ⟨by rw [HXX.out]; rfl, rfl⟩
              | true =>
                cases e6 with
                | false =>
                  have HXX := Lib.hid hx
                  clear hx
                  go_wp2_with fail
                  go_meet
                  exact ⟨by rw [HXX.out]; rfl, rfl⟩
                | true =>
                  cases e7 with
                  | false =>
                    have HXX := Lib.hid hx
                    clear hx
                    go_wp2_with fail
                    go_meet
                    exact ⟨by rw [HXX.out]; rfl, rfl⟩
                  | true =>
                    have HXX := Lib.hid hx
                    clear hx
                    go_wp2_with fail
                    go_meet
                    exact ⟨by rw [HXX.out]; rfl, rfl⟩
  case rest =>
  obtain ⟨rfl, hwc⟩ := hcut
  subst hwc
  clear p0 p1 p2 p3 p5 p6 p7 p8 q0 q1 q2 q3 q5 q6 q7 q8
  go_upto_region 2 with fail
  obtain ⟨p13, p14, p15, p16, p17, p18⟩ := P2.out
  obtain ⟨q13, q14, q15, q16, q17, q18⟩ := Q2.out
  go_cut [6] from 61 to 86 (fun c wx => c = .bool X2 ∧ wx = wc)
  case first =>
    have hg1 := fun w => run_eq_guid x.la.1 x.la.2 y.la.1 y.la.2 w
    have hg2 := fun w => run_eq_guid x.ta.1 x.ta.2 y.ta.1 y.ta.2 w
    obtain ⟨e0, f0⟩ : ∃ e, (x.n == y.n) = e := ⟨_, rfl⟩
    obtain ⟨e1, f1⟩ : ∃ e, (x.la.1 == y.la.1 && x.la.2 == y.la.2) = e := ⟨_, rfl⟩
    obtain ⟨e2, f2⟩ : ∃ e, (x.ta.1 == y.ta.1 && x.ta.2 == y.ta.2) = e := ⟨_, rfl⟩
    obtain ⟨e3, f3⟩ : ∃ e, (x.N == y.N) = e := ⟨_, rfl⟩
    have hx := HX2.out
    rw [f0, f1, f2, f3] at hx
    simp only [f1] at hg1
    simp only [f2] at hg2
    clear f1 f2
    cases e0 with
    | false =>
      have HXX := Lib.hid hx
      clear hx
      go_wp2_with fail
      go_meet
      exact ⟨by rw [HXX.out]; rfl, rfl⟩
    | true =>
      cases e1 with
      | false =>
        have HXX := Lib.hid hx
        clear hx
        go_wp2_with fail
        go_meet
        exact ⟨by rw [HXX.out]; rfl, rfl⟩
      | true =>
        cases e2 with
        | false =>
          have HXX := Lib.hid hx
          clear hx
          go_wp2_with fail
          go_meet
          exact ⟨by rw [HXX.out]; rfl, rfl⟩
        | true =>
          cases e3 with
          | false =>
            have HXX := Lib.hid hx
            clear hx
            go_wp2_with fail
            go_meet
            exact ⟨by rw [HXX.out]; rfl, rfl⟩
          | true =>
            have HXX := Lib.hid hx
            clear hx
            go_wp2_with fail
            go_meet
            exact ⟨by rw [HXX.out]; rfl, rfl⟩
  case rest =>
  obtain ⟨rfl, hwc⟩ := hcut
  subst hwc
  clear p13 p14 p15 p16 p17 p18 q13 q14 q15 q16 q17 q18 HX1 HX2 P2 Q2
  cases X1 with
  | false =>
    clear PP QQ HE HL HP HBx HBy
    go_wp2
    go_ret
    exact ⟨by rw [HRES.out]; rfl, HB.out⟩
  | true =>
    cases X2 with
    | false =>
      clear PP QQ HE HL HP HBx HBy
      go_wp2
      go_ret
      exact ⟨by rw [HRES.out]; rfl, HB.out⟩
    | true =>
      obtain ⟨p4, p9, p10, p11, p12, p19, p20, p21, p22, p23, p24, p25⟩ := PP.out
      obtain ⟨q4, q9, q10, q11, q12, q19, q20, q21, q22, q23, q24, q25⟩ := QQ.out
      go_wp2_with fail
      refine (HE.out _ HB.out).mono ?_
      rintro e w3 ⟨rfl, hb⟩
      have hB3 := HB.out.trans (hb.mono HB.out.size)
      have HB3 := Lib.hid hB3
      have HBx3 := Lib.hid (HBx.out.keep hb)
      have HBy3 := Lib.hid (HBy.out.keep hb)
      clear hB3 hb p4 p9 p10 p11 p12 p19 p20 p21 p22 p23 p24 p25 q4 q9 q10 q11 q12 q19 q20 q21 q22 q23 q24 q25 PP QQ HE HBx HBy HB
      cases X3 with
      | false =>
        go_wp2
        go_ret
        exact ⟨by rw [HRES.out]; rfl, HB3.out⟩
      | true =>
        have p9 : w3.cell? ⟨w.heap.size, 9, none⟩ = some (.int .u64 x.l.E) := by rw [HBx3.out.cell]; rfl
        have p10 : w3.cell? ⟨w.heap.size, 10, none⟩ = some (.int .i64 x.l.B) := by rw [HBx3.out.cell]; rfl
        have p11 : w3.cell? ⟨w.heap.size, 11, none⟩ = some (.bool x.l.L) := by rw [HBx3.out.cell]; rfl
        have p12 : w3.cell? ⟨w.heap.size, 12, none⟩ = some (.slice a2 x.l.l.length c2) := by rw [HBx3.out.cell]; rfl
        have q9 : w3.cell? ⟨w.heap.size + 1, 9, none⟩ = some (.int .u64 y.l.E) := by rw [HBy3.out.cell]; rfl
        have q10 : w3.cell? ⟨w.heap.size + 1, 10, none⟩ = some (.int .i64 y.l.B) := by rw [HBy3.out.cell]; rfl
        have q11 : w3.cell? ⟨w.heap.size + 1, 11, none⟩ = some (.bool y.l.L) := by rw [HBy3.out.cell]; rfl
        have q12 : w3.cell? ⟨w.heap.size + 1, 12, none⟩ = some (.slice a5 y.l.l.length c5) := by rw [HBy3.out.cell]; rfl
        go_wp2_with fail
        refine (HL.out _ HB3.out).mono ?_
        rintro e w4 ⟨rfl, hb⟩
        have hB4 := HB3.out.trans (hb.mono HB3.out.size)
        have HB4 := Lib.hid hB4
        have HBx4 := Lib.hid (HBx3.out.keep hb)
        have HBy4 := Lib.hid (HBy3.out.keep hb)
        clear hB4 hb HL HBx3 HBy3 HB3 p9 p10 p11 p12 q9 q10 q11 q12
        cases X4 with
        | false =>
          go_wp2
          go_ret
          exact ⟨by rw [HRES.out]; rfl, HB4.out⟩
        | true =>
          have p19 : w4.cell? ⟨w.heap.size, 19, none⟩ = some (.int .u64 x.p.b.1) := by rw [HBx4.out.cell]; rfl
          have p20 : w4.cell? ⟨w.heap.size, 20, none⟩ = some (.int .u64 x.p.b.2) := by rw [HBx4.out.cell]; rfl
          have p21 : w4.cell? ⟨w.heap.size, 21, none⟩ = some (.int .u64 x.p.t.1) := by rw [HBx4.out.cell]; rfl
          have p22 : w4.cell? ⟨w.heap.size, 22, none⟩ = some (.int .u64 x.p.t.2) := by rw [HBx4.out.cell]; rfl
          have p23 : w4.cell? ⟨w.heap.size, 23, none⟩ = some (.int .i64 x.p.f) := by rw [HBx4.out.cell]; rfl
          have p24 : w4.cell? ⟨w.heap.size, 24, none⟩ = some (.int .i64 x.p.a) := by rw [HBx4.out.cell]; rfl
          have p25 : w4.cell? ⟨w.heap.size, 25, none⟩ = some (.slice a3 x.p.cs.length c3) := by rw [HBx4.out.cell]; rfl
          have q19 : w4.cell? ⟨w.heap.size + 1, 19, none⟩ = some (.int .u64 y.p.b.1) := by rw [HBy4.out.cell]; rfl
          have q20 : w4.cell? ⟨w.heap.size + 1, 20, none⟩ = some (.int .u64 y.p.b.2) := by rw [HBy4.out.cell]; rfl
          have q21 : w4.cell? ⟨w.heap.size + 1, 21, none⟩ = some (.int .u64 y.p.t.1) := by rw [HBy4.out.cell]; rfl
          have q22 : w4.cell? ⟨w.heap.size + 1, 22, none⟩ = some (.int .u64 y.p.t.2) := by rw [HBy4.out.cell]; rfl
          have q23 : w4.cell? ⟨w.heap.size + 1, 23, none⟩ = some (.int .i64 y.p.f) := by rw [HBy4.out.cell]; rfl
          have q24 : w4.cell? ⟨w.heap.size + 1, 24, none⟩ = some (.int .i64 y.p.a) := by rw [HBy4.out.cell]; rfl
          have q25 : w4.cell? ⟨w.heap.size + 1, 25, none⟩ = some (.slice a6 y.p.cs.length c6) := by rw [HBy4.out.cell]; rfl
          go_wp2_with fail
          refine (HP.out _ HB4.out).mono ?_
          rintro e w5 ⟨rfl, hb⟩
          have HB5 := Lib.hid (HB4.out.trans (hb.mono HB4.out.size))
          clear hb p19 p20 p21 p22 p23 p24 p25 q19 q20 q21 q22 q23 q24 q25 HP HBx4 HBy4 HB4
          go_wp2
          go_ret
          exact ⟨by rw [HRES.out]; rfl, HB5.out⟩
end Go.Proofs.Ytikimmhkfjaijaa
namespace Go.Proofs.Ytikimmhkfjaijaa
open Go.RowKit Reg Go.ChangeShapes

/-- an operation that is wanted, guarded or not -/
theorem wpList_wanted_run {P : Program} {w w' : World} {ops : Array Oper} {rest : List Oper} {o : Oper} {a : Act} {Q : Exit → Act → World → Prop} (hw : Region.wanted o (yielded ops a.tmps) = true) (v : Value) (hrun : (execOp a.eval o).run P w = .ok (.value v) w')
    (h : wpList P ops Q rest (a.put o.dst v) w') : wpList P ops Q (o :: rest) a w := by
  unfold wpList
  rw [if_pos hw]
  left
  unfold Oper.wp
  rw [hrun]
  exact h
theorem exec_load_blk {P : Program} {w : World} {o : Oper} {a : Act} (ty : TypeId) (x : Operand) (ho : o.op = .load ty x) (b : Nat) (hx : a.eval x = .pointer (some ⟨b, 0, none⟩)) {t : TypeId} {cs : Array Value} (d : TypeDesc) (hb : Blk w b t cs)
    (hu : P.underlying ty = some d) (hd : d.isRow = true) (hi : (P.info? ty).map (·.size) = some cs.size) : (execOp a.eval o).run P w = .ok (.value (.agg cs)) w := by
  have h := exec_load_mid ty x ho b 0 hx cs.toList d hb.rng hu hd (by simpa using hi)
  rw [Array.toArray_toList] at h
  exact h
/-- may a message's entries be? -/
def entB (m : Ms) : Bool := decide (m.es.length ≤ 8) && (decide (m.P + m.es.length ≤ 300) && (decide (logC m.es = 0) && (decide (m.es.length = 0) || (decide (m.PT ≤ (m.es.getD 0 en0).T) && decide ((m.es.getD (m.es.length - 1) en0).T ≤ m.T)))))
/-- a message's block, and its cells -/
theorem ms_cells {w : World} {v : Value} {m : Ms} (h : InMs w v m) : ∃ (ma : Array Value) (a1 a2 a3 : Option Addr) (c1 c2 c3 : Nat), v = .agg ma ∧ (ma.all fun x => x.oneCell') = true ∧ (Try.prog.info? 33).map (·.size) = some ma.size ∧ ma = msA m (.slice a1 m.es.length c1) (.slice a2 m.l.l.length c2) (.slice a3 m.p.cs.length c3) ∧
    InE w (.slice a1 m.es.length c1) m.es ∧ InG w (.slice a2 m.l.l.length c2) m.l.l ∧ InC w (.slice a3 m.p.cs.length c3) m.p.cs ∧ wfM m := by
  obtain ⟨se, sl, sc, rfl, hx1, hx2, hx3, hx4⟩ := h
  obtain ⟨a1, c1, e1⟩ := hx1.slice_
  obtain ⟨a2, c2, e2⟩ := hx2.slice_
  obtain ⟨a3, c3, e3⟩ := hx3.slice_
  subst e1; subst e2; subst e3
  exact ⟨_, _, _, _, _, _, _, rfl, msA_one _ _ _ _ _ _ _ _ _ _, msg_size _ _ _ _, rfl, hx1, hx2, hx3, hx4⟩
set_option maxRecDepth 100000 in
set_option maxHeartbeats 4000000 in
theorem entries_any (w : World) (v : Value) (m : Ms) (hv : InMs w v m) (hP : 0 ≤ m.P ∧ m.P ≤ 300) : Calls Try.prog 33 #[v] w fun e w' => e = .returned (.bool (entB m)) ∧ Below w.heap.size w w' := by
  obtain ⟨ma, a1, a2, a3, c1, c2, c3, rfl, hone, hsz, hma, hE, -, -, -⟩ := ms_cells hv
  have hlc := fun w2 (h : Below w.heap.size w w2) => logcheck_any (.slice a1 m.es.length c1) m.es w2 (hE.keep h)
  obtain ⟨a, c, hac, -, hlen, hxx⟩ := hE.open_
  simp only [Value.slice.injEq, true_and] at hac
  obtain ⟨rfl, rfl⟩ := hac
  have hb := (Below.refl w.heap.size w).alloc (Nat.le_refl _) (Obj.cells ma 33)
  have hbk : Blk (w.alloc (.cells ma 33)) w.heap.size 33 (msA m (.slice a1 m.es.length c1) (.slice a2 m.l.l.length c2) (.slice a3 m.p.cs.length c3)) := by rw [hma]; exact Blk.new w _ _
  obtain ⟨res, hres⟩ : ∃ r, r = entB m := ⟨_, rfl⟩
  rw [← hres]
  unfold entB at hres
  have HB := Lib.hid hb
  have HBK := Lib.hid hbk
  have HLC := Lib.hid hlc
  have HX := Lib.hid hxx
  have HONE := Lib.hid hone
  have HSZ := Lib.hid hsz
  clear hma hv hone hsz hb hbk hlc hxx hE
  generalize hz : logC m.es = z at *
  clear hz
  generalize hZ : (fun j => (m.es.getD j en0)) = Z at *
  have g1 : ∀ j, m.es.getD j en0 = Z j := fun j => by subst hZ; rfl
  simp only [g1] at HX hres
  clear hZ g1
  obtain ⟨T, hT⟩ : ∃ T, T = m.T := ⟨_, rfl⟩
  obtain ⟨P, hPp⟩ : ∃ T, T = m.P := ⟨_, rfl⟩
  obtain ⟨PT, hPT⟩ : ∃ T, T = m.PT := ⟨_, rfl⟩
  obtain ⟨n, hn⟩ : ∃ n, n = m.es.length := ⟨_, rfl⟩
  rw [← hn] at HLC HX hlen HBK
  rw [← hT, ← hPp, ← hPT, ← hn] at hres
  rw [← hPp] at hP
  have p1 : (w.alloc (.cells ma 33)).cell? ⟨w.heap.size, 1, none⟩ = some (.int .u64 T) := by rw [HBK.out.cell, hT]; rfl
  have p2 : (w.alloc (.cells ma 33)).cell? ⟨w.heap.size, 2, none⟩ = some (.int .i64 P) := by rw [HBK.out.cell, hPp]; rfl
  have p3 : (w.alloc (.cells ma 33)).cell? ⟨w.heap.size, 3, none⟩ = some (.int .u64 PT) := by rw [HBK.out.cell, hPT]; rfl
  have p4 : (w.alloc (.cells ma 33)).cell? ⟨w.heap.size, 4, none⟩ = some (.slice a1 n c1) := by rw [HBK.out.cell]; rfl
  unfold maxLen at hlen
  have HTT := Lib.hid (And.intro hT (And.intro hPT hn))
  clear hT hPp hPT hn
  by_cases hn8 : n ≤ 8
  · rw [decide_eq_true hn8, Bool.true_and] at hres
    have w1 : wrap64 (P + (n : Int)) = P + (n : Int) := IntWalk.wrap64_in _ (by omega)
    have w2 : IntKind.i64.wrap (P + (n : Int)) = P + (n : Int) := by rw [IntKind.wrap_i64]; omega
    have i8 : ¬ (8 : Int) < (n : Int) := by omega
    by_cases h3 : P + (n : Int) ≤ 300
    · rw [decide_eq_true h3, Bool.true_and] at hres
      have i3 : ¬ (300 : Int) < P + (n : Int) := by omega
      by_cases hz : z = 0
      · subst hz
        rw [show decide ((0 : Int) = 0) = true from rfl, Bool.true_and] at hres
        have HRES := Lib.hid hres
        have HN8 := Lib.hid hn8
        clear hres hP h3 hlen hn8
        go_enter Try.func33, Try.ntmps33
        go_wp2_with fail
        refine (HLC.out _ HB.out).mono ?_
        rintro e w3 ⟨rfl, hb3⟩
        have y1 := cell_later hb3 p1
        have y3 := cell_later hb3 p3
        have y4 := cell_later hb3 p4
        have HB3 := Lib.hid (HB.out.trans (hb3.mono HB.out.size))
        clear hb3 p1 p2 p3 p4 i8 i3 w1 w2
        rcases Nat.eq_zero_or_pos n with hn0 | hp
        · subst hn0
          have hr := HRES.out
          rw [show decide ((0 : Nat) = 0) = true from rfl, Bool.true_or] at hr
          have HR := Lib.hid hr
          clear hr HRES
          go_wp2_with fail
          go_quiet (fail)
          go_wp2
          go_ret
          exact ⟨by rw [HR.out]; rfl, below_drewN HB3.out _⟩
        · obtain ⟨g, off, rfl, hc0, -, -, -⟩ := HX.out 0 hp
          obtain ⟨g', off', hgg, hc1, -, -, -⟩ := HX.out (n - 1) (by omega)
          simp only [Option.some.injEq, Addr.mk.injEq, and_true] at hgg
          obtain ⟨rfl, rfl⟩ := hgg
          have x0 := cell_later HB3.out hc0
          have x1 := cell_later HB3.out hc1
          have hr := HRES.out
          rw [decide_eq_false (Nat.ne_of_gt hp), Bool.false_or] at hr
          have i0 : ((n : Int) == 0) = false := by simp; omega
          have i1 : (0 : Int) < (n : Int) := by omega
          have i2 : 0 < n := hp
          obtain ⟨k, hk⟩ : ∃ k, k = n - 1 := ⟨_, rfl⟩
          rw [← hk] at x1 hr
          have hkn : n = k + 1 := by omega
          have i4 : IntKind.i64.wrap ((n : Int) - 1) = (k : Int) := by rw [hkn, IntKind.wrap_i64]; have := HN8.out; omega
          have i5 : (k : Int) < (n : Int) := by omega
          have HKN := Lib.hid hkn
          clear hc0 hc1 hk hkn hp HRES
          rw [Nat.zero_mul, Nat.add_zero] at x0
          generalize (Z 0).T = t0 at *
          generalize (Z k).T = t1 at *
          by_cases hA : PT ≤ t0
          · have d1 : decide (PT ≤ t0) = true := decide_eq_true hA
            rw [d1, Bool.true_and] at hr
            have HR := Lib.hid hr
            clear hr
            go_wp2_with fail
            go_quiet (fail)
            go_wp2
            go_ret
            exact ⟨by rw [HR.out]; rfl, below_drewN HB3.out _⟩
          · have d1 : decide (PT ≤ t0) = false := decide_eq_false hA
            rw [d1, Bool.false_and] at hr
            have HR := Lib.hid hr
            clear hr hA
            go_wp2_with fail
            go_quiet (fail)
            go_wp2
            go_ret
            exact ⟨by rw [HR.out]; rfl, below_drewN HB3.out _⟩
      · rw [decide_eq_false hz, Bool.false_and] at hres
        have iz : (z != 0) = true := by simpa using hz
        have HRES := Lib.hid hres
        clear hres hP h3 hlen hn8 hz
        go_enter Try.func33, Try.ntmps33
        go_wp2_with fail
        refine (HLC.out _ HB.out).mono ?_
        rintro e w3 ⟨rfl, hb3⟩
        have HB3 := Lib.hid (HB.out.trans (hb3.mono HB.out.size))
        clear hb3
        go_wp2
        go_ret
        exact ⟨by rw [HRES.out]; rfl, HB3.out⟩
    · rw [decide_eq_false h3, Bool.false_and] at hres
      have i3 : (300 : Int) < P + (n : Int) := by omega
      have HRES := Lib.hid hres
      clear hres hP h3 hlen hn8
      go_enter Try.func33, Try.ntmps33
      go_wp2
      go_ret
      exact ⟨by rw [HRES.out]; rfl, HB.out⟩
  · rw [decide_eq_false hn8, Bool.false_and] at hres
    have i8 : (8 : Int) < (n : Int) := by omega
    have HRES := Lib.hid hres
    clear hres hP hlen hn8
    go_enter Try.func33, Try.ntmps33
    go_wp2
    go_ret
    exact ⟨by rw [HRES.out]; rfl, HB.out⟩
/-- may a pull's fields be? -/
def pullB (m : Ms) : Bool := decide (0 ≤ m.n) && (decide (m.n ≤ 20) && (((m.la.1 == 0 && m.la.2 == 0) == (m.n == 0)) && (if (m.ta.1 == 0 && m.ta.2 == 0) = true then m.N == 0 else upG m.la m.ta && (decide (1 ≤ m.N) && decide (m.N ≤ 8)))))
set_option maxRecDepth 100000 in
set_option maxHeartbeats 4000000 in
theorem pull2_any (w : World) (v : Value) (m : Ms) (hv : InMs w v m) : Calls Try.prog 30 #[v] w fun e w' => e = .returned (.bool (pullB m)) ∧ Below w.heap.size w w' := by
  obtain ⟨ma, a1, a2, a3, c1, c2, c3, rfl, hone, hsz, hma, -, -, -, -⟩ := ms_cells hv
  have hb := ((Below.refl w.heap.size w).alloc (Nat.le_refl _) (Obj.cells ma 33)).alloc (by simp) (Obj.cells #[.int .u64 0, .int .u64 0] 28)
  have hbk : Blk ((w.alloc (.cells ma 33)).alloc (Obj.cells #[.int .u64 0, .int .u64 0] 28)) w.heap.size 33 (msA m (.slice a1 m.es.length c1) (.slice a2 m.l.l.length c2) (.slice a3 m.p.cs.length c3)) := by rw [hma]; exact (Blk.new w _ _).alloc _
  have hbg : Blk ((w.alloc (.cells ma 33)).alloc (Obj.cells #[.int .u64 0, .int .u64 0] 28)) (w.heap.size + 1) 28 #[.int .u64 0, .int .u64 0] := Blk.newAt (w := w.alloc (.cells ma 33)) _ _ (by simp)
  obtain ⟨res, hres⟩ : ∃ r, r = pullB m := ⟨_, rfl⟩
  rw [← hres]
  unfold pullB at hres
  have HB := Lib.hid hb
  have HBK := Lib.hid hbk
  have HBG := Lib.hid hbg
  have HONE := Lib.hid hone
  have HSZ := Lib.hid hsz
  clear hma hv hone hsz hb hbk hbg
  obtain ⟨⟨l1, l2⟩, hla⟩ : ∃ T, T = m.la := ⟨_, rfl⟩
  obtain ⟨⟨t1, t2⟩, hta⟩ : ∃ T, T = m.ta := ⟨_, rfl⟩
  obtain ⟨n, hn⟩ : ∃ n, n = m.n := ⟨_, rfl⟩
  obtain ⟨N, hN⟩ : ∃ n, n = m.N := ⟨_, rfl⟩
  rw [← hla, ← hta, ← hn, ← hN] at hres
  dsimp only at hres
  have hg1 := fun w => run_eq_guid l1 l2 0 0 w
  have hg2 := fun w => run_eq_guid t1 t2 0 0 w
  obtain ⟨ab, hab⟩ : ∃ b, (l1 == 0 && l2 == 0) = b := ⟨_, rfl⟩
  obtain ⟨tb, htb⟩ : ∃ b, (t1 == 0 && t2 == 0) = b := ⟨_, rfl⟩
  rw [hab, htb] at hres
  simp only [hab] at hg1
  simp only [htb] at hg2
  clear hab htb
  go_enter Try.func30, Try.ntmps30
  go_upto_region 2 with fail
  have p13 : ((w.alloc (.cells ma 33)).alloc (Obj.cells #[.int .u64 0, .int .u64 0] 28)).cell? ⟨w.heap.size, 13, none⟩ = some (.int .i64 n) := by rw [HBK.out.cell, hn]; rfl
  have p14 : ((w.alloc (.cells ma 33)).alloc (Obj.cells #[.int .u64 0, .int .u64 0] 28)).cell? ⟨w.heap.size, 14, none⟩ = some (.int .u64 l1) := by rw [HBK.out.cell, show l1 = m.la.1 by rw [← hla]]; rfl
  have p15 : ((w.alloc (.cells ma 33)).alloc (Obj.cells #[.int .u64 0, .int .u64 0] 28)).cell? ⟨w.heap.size, 15, none⟩ = some (.int .u64 l2) := by rw [HBK.out.cell, show l2 = m.la.2 by rw [← hla]]; rfl
  have p16 : ((w.alloc (.cells ma 33)).alloc (Obj.cells #[.int .u64 0, .int .u64 0] 28)).cell? ⟨w.heap.size, 16, none⟩ = some (.int .u64 t1) := by rw [HBK.out.cell, show t1 = m.ta.1 by rw [← hta]]; rfl
  have p17 : ((w.alloc (.cells ma 33)).alloc (Obj.cells #[.int .u64 0, .int .u64 0] 28)).cell? ⟨w.heap.size, 17, none⟩ = some (.int .u64 t2) := by rw [HBK.out.cell, show t2 = m.ta.2 by rw [← hta]]; rfl
  have p18 : ((w.alloc (.cells ma 33)).alloc (Obj.cells #[.int .u64 0, .int .u64 0] 28)).cell? ⟨w.heap.size, 18, none⟩ = some (.int .i64 N) := by rw [HBK.out.cell, hN]; rfl
  have z0 := HBG.out.cell 0
  have z1 := HBG.out.cell 1
  replace z0 : ((w.alloc (.cells ma 33)).alloc (Obj.cells #[.int .u64 0, .int .u64 0] 28)).cell? ⟨w.heap.size + 1, 0, none⟩ = some (.int .u64 0) := z0
  replace z1 : ((w.alloc (.cells ma 33)).alloc (Obj.cells #[.int .u64 0, .int .u64 0] 28)).cell? ⟨w.heap.size + 1, 1, none⟩ = some (.int .u64 0) := z1
  clear hla hta hn hN HBK HBG
  generalize (w.alloc (.cells ma 33)).alloc (Obj.cells #[.int .u64 0, .int .u64 0] 28) = w2 at *
  have hup : upG (l1, l2) (t1, t2) = (decide (l1 < t1) || (decide (t1 = l1) && decide (l2 < t2))) := by
    unfold upG
    rw [show (decide (t1 = l1)) = decide (l1 = t1) from by simp only [eq_comm], ← Bool.decide_and, ← Bool.decide_or]
  by_cases h1 : 0 ≤ n
  · rw [decide_eq_true h1, Bool.true_and] at hres
    have i1 : ¬ n < 0 := by omega
    by_cases h2 : n ≤ 20
    · rw [decide_eq_true h2, Bool.true_and] at hres
      have i2 : ¬ 20 < n := by omega
      obtain ⟨nb, hnb⟩ : ∃ b, (n == 0) = b := ⟨_, rfl⟩
      rw [hnb] at hres
      clear h1 h2
      by_cases h3 : ab = nb
      · subst h3
        have hbt : (ab == ab) = true := by simp
        rw [hbt, Bool.true_and] at hres
        cases tb with
        | true =>
          rw [if_pos rfl] at hres
          have HRES := Lib.hid hres
          clear hres hup
          have hb3 : (ab != ab) = false := by simp
          go_quiet (fail)
          go_wp2
          go_ret
          exact ⟨by rw [HRES.out]; rfl, below_drewN HB.out _⟩
        | false =>
          rw [if_neg (by decide), hup] at hres
          have hb3 : (ab != ab) = false := by simp
          have hc : (l1 < t1 ∧ ∃ z, z = (decide (l1 < t1) || (decide (t1 = l1) && decide (l2 < t2))) ∧ z = true) ∨ (¬ l1 < t1 ∧ ¬ t1 = l1 ∧ ∃ z, z = (decide (l1 < t1) || (decide (t1 = l1) && decide (l2 < t2))) ∧ z = false) ∨ (t1 = l1 ∧ l2 < t2 ∧ ∃ z, z = (decide (l1 < t1) || (decide (t1 = l1) && decide (l2 < t2))) ∧ z = true) ∨ (t1 = l1 ∧ ¬ l2 < t2 ∧ ∃ z, z = (decide (l1 < t1) || (decide (t1 = l1) && decide (l2 < t2))) ∧ z = false) := by
            by_cases q1 : l1 < t1
            · exact .inl ⟨q1, _, rfl, by simp [q1]⟩
            · by_cases q2 : t1 = l1
              · by_cases q3 : l2 < t2
                · exact .inr (.inr (.inl ⟨q2, q3, _, rfl, by simp [q2, q3]⟩))
                · exact .inr (.inr (.inr ⟨q2, q3, _, rfl, by simp [q2, q3]⟩))
              · exact .inr (.inl ⟨q1, q2, _, rfl, by simp [q1, q2]⟩)
          rcases hc with ⟨q1, z, hz, rfl⟩ | ⟨q1, q2, z, hz, rfl⟩ | ⟨rfl, q2, z, hz, rfl⟩ | ⟨rfl, q2, z, hz, rfl⟩
          · rw [← hz] at hres
            clear hz hup
            rw [Bool.true_and] at hres
            by_cases k1 : 1 ≤ N
            · rw [decide_eq_true k1, Bool.true_and] at hres
              have HRES := Lib.hid hres
              clear hres
              go_quiet (fail)
              go_wp2
              go_ret
              exact ⟨by rw [HRES.out]; rfl, below_drewN HB.out _⟩
            · rw [decide_eq_false k1, Bool.false_and] at hres
              have k2 : decide (1 ≤ N) = false := decide_eq_false k1
              have HRES := Lib.hid hres
              clear hres k1
              go_quiet (fail)
              go_wp2
              go_ret
              exact ⟨by rw [HRES.out]; rfl, below_drewN HB.out _⟩
          · rw [← hz] at hres
            clear hz hup
            rw [Bool.false_and] at hres
            have HRES := Lib.hid hres
            clear hres
            go_quiet (fail)
            go_wp2
            go_ret
            exact ⟨by rw [HRES.out]; rfl, below_drewN HB.out _⟩
          · rw [← hz] at hres
            clear hz hup
            rw [Bool.true_and] at hres
            by_cases k1 : 1 ≤ N
            · rw [decide_eq_true k1, Bool.true_and] at hres
              have HRES := Lib.hid hres
              clear hres
              go_quiet (fail)
              go_wp2
              go_ret
              exact ⟨by rw [HRES.out]; rfl, below_drewN HB.out _⟩
            · rw [decide_eq_false k1, Bool.false_and] at hres
              have k2 : decide (1 ≤ N) = false := decide_eq_false k1
              have HRES := Lib.hid hres
              clear hres k1
              go_quiet (fail)
              go_wp2
              go_ret
              exact ⟨by rw [HRES.out]; rfl, below_drewN HB.out _⟩
          · rw [← hz] at hres
            clear hz hup
            rw [Bool.false_and] at hres
            have HRES := Lib.hid hres
            clear hres
            go_quiet (fail)
            go_wp2
            go_ret
            exact ⟨by rw [HRES.out]; rfl, below_drewN HB.out _⟩
      · have hbt : (ab == nb) = false := by simpa using h3
        have hb3 : (ab != nb) = true := by simpa using h3
        rw [hbt, Bool.false_and] at hres
        have HRES := Lib.hid hres
        clear hres hup h3
        go_quiet (fail)
        go_wp2
        go_ret
        exact ⟨by rw [HRES.out]; rfl, below_drewN HB.out _⟩
    · rw [decide_eq_false h2, Bool.false_and] at hres
      have i2 : 20 < n := by omega
      have HRES := Lib.hid hres
      clear hres hup h1 h2
      go_quiet (fail)
      go_wp2
      go_ret
      exact ⟨by rw [HRES.out]; rfl, below_drewN HB.out _⟩
  · rw [decide_eq_false h1, Bool.false_and] at hres
    have i1 : n < 0 := by omega
    have HRES := Lib.hid hres
    clear hres hup h1
    go_quiet (fail)
    go_wp2
    go_ret
    exact ⟨by rw [HRES.out]; rfl, below_drewN HB.out _⟩
/-- may a message be, by its fields alone? -/
def mayM (m : Ms) : Bool := decide (1 ≤ m.K) && (decide (m.K ≤ 7) && (if 4 < m.K then decide (checkL m.l = 0) && ((decide (m.K ≠ 5) || pullB m) && (decide (m.K ≠ 6) || decide (checkP m.p = 0)))
  else decide (1 ≤ m.T) && (placeB m.P && (placeB m.M && (placeB m.C && ((decide (m.PT = 0) == decide (m.P = 0)) && (decide (0 ≤ m.S) && entB m)))))))
theorem placeB_iff {x : Int} : placeB x = true ↔ 0 ≤ x ∧ x ≤ 300 := by
  unfold placeB
  rw [Bool.and_eq_true, decide_eq_true_iff, decide_eq_true_iff]
set_option maxRecDepth 100000 in
set_option maxHeartbeats 4000000 in
theorem may2_any (w : World) (v : Value) (m : Ms) (hv : InMs w v m) : Calls Try.prog 20 #[v] w fun e w' => e = .returned (.bool (mayM m)) ∧ Below w.heap.size w w' := by
  have hpull := fun w2 (h : Below w.heap.size w w2) => pull2_any w2 v m (hv.keep h)
  have hent := fun w2 (h : Below w.heap.size w w2) (hP : 0 ≤ m.P ∧ m.P ≤ 300) => entries_any w2 v m (hv.keep h) hP
  obtain ⟨ma, a1, a2, a3, c1, c2, c3, rfl, hone, hsz, hma, hE, hL, hC, hwf⟩ := ms_cells hv
  have HLC := Lib.hid (fun w2 (h : Below w.heap.size w w2) => lcheck_any (.agg #[.int .u64 m.l.E, .int .i64 m.l.B, .bool m.l.L, .slice a2 m.l.l.length c2]) m.l w2 ⟨_, rfl, hL.keep h, hwf.E, hwf.B⟩)
  have HPC := Lib.hid (fun w2 (h : Below w.heap.size w w2) => check_any w2 (prV m.p (.slice a3 m.p.cs.length c3)) m.p ⟨_, rfl, hC.keep h, hwf.p⟩)
  unfold prV at HPC
  have HPULL := Lib.hid hpull
  have HENT := Lib.hid hent
  have hb := (Below.refl w.heap.size w).alloc (Nat.le_refl _) (Obj.cells ma 33)
  have hbk : Blk (w.alloc (.cells ma 33)) w.heap.size 33 (msA m (.slice a1 m.es.length c1) (.slice a2 m.l.l.length c2) (.slice a3 m.p.cs.length c3)) := by rw [hma]; exact Blk.new w _ _
  have HMA := Lib.hid (Blk.new w 33 ma)
  obtain ⟨res, hres⟩ : ∃ r, r = mayM m := ⟨_, rfl⟩
  rw [← hres]
  unfold mayM at hres
  have HB := Lib.hid hb
  have HBK := Lib.hid hbk
  have HONE := Lib.hid hone
  have HSZ := Lib.hid hsz
  clear hma hv hone hsz hb hbk hE hL hC hwf hpull hent
  generalize hcl : checkL m.l = cl at *
  generalize hcp : checkP m.p = cp at *
  generalize hpb : pullB m = pb at *
  generalize heb : entB m = eb at *
  clear hcl hcp hpb heb
  have hc : m.K < 1 ∨ 7 < m.K ∨ m.K = 5 ∨ m.K = 6 ∨ m.K = 7 ∨ (1 ≤ m.K ∧ m.K ≤ 4) := by omega
  rcases hc with hk | hk | hk | hk | hk | hk
  · rw [decide_eq_false (by omega), Bool.false_and] at hres
    have HRES := Lib.hid hres
    clear hres
    have p0 : (w.alloc (.cells ma 33)).cell? ⟨w.heap.size, 0, none⟩ = some (.int .i64 m.K) := by rw [HBK.out.cell]; rfl
    go_enter Try.func20, Try.ntmps20
    go_wp2
    go_ret
    exact ⟨by rw [HRES.out]; rfl, HB.out⟩
  · rw [decide_eq_true (show 1 ≤ m.K by omega), decide_eq_false (show ¬ m.K ≤ 7 by omega), Bool.false_and, Bool.and_false] at hres
    have HRES := Lib.hid hres
    have i1 : ¬ m.K < 1 := by omega
    clear hres
    have p0 : (w.alloc (.cells ma 33)).cell? ⟨w.heap.size, 0, none⟩ = some (.int .i64 m.K) := by rw [HBK.out.cell]; rfl
    go_enter Try.func20, Try.ntmps20
    go_wp2
    go_ret
    exact ⟨by rw [HRES.out]; rfl, HB.out⟩
  · rw [hk, show decide ((1 : Int) ≤ 5) = true from rfl, show decide ((5 : Int) ≤ 7) = true from rfl, if_pos (by decide), Bool.true_and, Bool.true_and] at hres
    have p0 : (w.alloc (.cells ma 33)).cell? ⟨w.heap.size, 0, none⟩ = some (.int .i64 m.K) := by rw [HBK.out.cell]; rfl
    have p9 : (w.alloc (.cells ma 33)).cell? ⟨w.heap.size, 9, none⟩ = some (.int .u64 m.l.E) := by rw [HBK.out.cell]; rfl
    have p10 : (w.alloc (.cells ma 33)).cell? ⟨w.heap.size, 10, none⟩ = some (.int .i64 m.l.B) := by rw [HBK.out.cell]; rfl
    have p11 : (w.alloc (.cells ma 33)).cell? ⟨w.heap.size, 11, none⟩ = some (.bool m.l.L) := by rw [HBK.out.cell]; rfl
    have p12 : (w.alloc (.cells ma 33)).cell? ⟨w.heap.size, 12, none⟩ = some (.slice a2 m.l.l.length c2) := by rw [HBK.out.cell]; rfl
    rw [hk] at p0
    go_enter Try.func20, Try.ntmps20
    go_wp2_with fail
    refine (HLC.out _ HB.out).mono ?_
    rintro e w3 ⟨rfl, hb⟩
    replace HB := Lib.hid (HB.out.trans (hb.mono HB.out.size))
    replace HBK := Lib.hid (HBK.out.keep hb)
    replace HMA := Lib.hid (HMA.out.keep hb)
    clear hb
    clear p0 p9 p10 p11 p12
    by_cases hz : cl = 0
    · rw [decide_eq_true hz, Bool.true_and] at hres
      subst hz
      have p0 : (w3).cell? ⟨w.heap.size, 0, none⟩ = some (.int .i64 m.K) := by rw [HBK.out.cell]; rfl
      rw [hk] at p0
      go_wp2_with (first | refine wpList_wanted_run (by rfl) (.agg ma) (exec_load_blk 33 _ rfl w.heap.size rfl _ HMA.out Try.underlying33 rfl HSZ.out) ?_)
      refine (HPULL.out _ HB.out).mono ?_
      rintro e w4 ⟨rfl, hb⟩
      replace HB := Lib.hid (HB.out.trans (hb.mono HB.out.size))
      replace HBK := Lib.hid (HBK.out.keep hb)
      replace HMA := Lib.hid (HMA.out.keep hb)
      clear hb
      clear p0
      have p0 : (w4).cell? ⟨w.heap.size, 0, none⟩ = some (.int .i64 m.K) := by rw [HBK.out.cell]; rfl
      rw [hk] at p0
      cases pb with
      | true =>
        have HRES := Lib.hid hres
        clear hres
        go_wp2
        go_ret
        exact ⟨by rw [HRES.out]; rfl, HB.out⟩
      | false =>
        have HRES := Lib.hid hres
        clear hres
        go_wp2
        go_ret
        exact ⟨by rw [HRES.out]; rfl, HB.out⟩
    · rw [decide_eq_false hz, Bool.false_and] at hres
      have hz2 : (cl == 0) = false := beq_eq_false_iff_ne.2 hz
      have HRES := Lib.hid hres
      clear hres hz
      go_wp2
      go_ret
      exact ⟨by rw [HRES.out]; rfl, HB.out⟩
  · rw [hk, show decide ((1 : Int) ≤ 6) = true from rfl, show decide ((6 : Int) ≤ 7) = true from rfl, if_pos (by decide), Bool.true_and, Bool.true_and] at hres
    have p0 : (w.alloc (.cells ma 33)).cell? ⟨w.heap.size, 0, none⟩ = some (.int .i64 m.K) := by rw [HBK.out.cell]; rfl
    have p9 : (w.alloc (.cells ma 33)).cell? ⟨w.heap.size, 9, none⟩ = some (.int .u64 m.l.E) := by rw [HBK.out.cell]; rfl
    have p10 : (w.alloc (.cells ma 33)).cell? ⟨w.heap.size, 10, none⟩ = some (.int .i64 m.l.B) := by rw [HBK.out.cell]; rfl
    have p11 : (w.alloc (.cells ma 33)).cell? ⟨w.heap.size, 11, none⟩ = some (.bool m.l.L) := by rw [HBK.out.cell]; rfl
    have p12 : (w.alloc (.cells ma 33)).cell? ⟨w.heap.size, 12, none⟩ = some (.slice a2 m.l.l.length c2) := by rw [HBK.out.cell]; rfl
    rw [hk] at p0
    go_enter Try.func20, Try.ntmps20
    go_wp2_with fail
    refine (HLC.out _ HB.out).mono ?_
    rintro e w3 ⟨rfl, hb⟩
    replace HB := Lib.hid (HB.out.trans (hb.mono HB.out.size))
    replace HBK := Lib.hid (HBK.out.keep hb)
    replace HMA := Lib.hid (HMA.out.keep hb)
    clear hb
    clear p0 p9 p10 p11 p12
    by_cases hz : cl = 0
    · rw [decide_eq_true hz, Bool.true_and] at hres
      subst hz
      have p0 : (w3).cell? ⟨w.heap.size, 0, none⟩ = some (.int .i64 m.K) := by rw [HBK.out.cell]; rfl
      rw [hk] at p0
      have p19 : (w3).cell? ⟨w.heap.size, 19, none⟩ = some (.int .u64 m.p.b.1) := by rw [HBK.out.cell]; rfl
      have p20 : (w3).cell? ⟨w.heap.size, 20, none⟩ = some (.int .u64 m.p.b.2) := by rw [HBK.out.cell]; rfl
      have p21 : (w3).cell? ⟨w.heap.size, 21, none⟩ = some (.int .u64 m.p.t.1) := by rw [HBK.out.cell]; rfl
      have p22 : (w3).cell? ⟨w.heap.size, 22, none⟩ = some (.int .u64 m.p.t.2) := by rw [HBK.out.cell]; rfl
      have p23 : (w3).cell? ⟨w.heap.size, 23, none⟩ = some (.int .i64 m.p.f) := by rw [HBK.out.cell]; rfl
      have p24 : (w3).cell? ⟨w.heap.size, 24, none⟩ = some (.int .i64 m.p.a) := by rw [HBK.out.cell]; rfl
      have p25 : (w3).cell? ⟨w.heap.size, 25, none⟩ = some (.slice a3 m.p.cs.length c3) := by rw [HBK.out.cell]; rfl
      go_wp2_with fail
      refine (HPC.out _ HB.out).mono ?_
      rintro e w4 ⟨rfl, hb⟩
      replace HB := Lib.hid (HB.out.trans (hb.mono HB.out.size))
      replace HBK := Lib.hid (HBK.out.keep hb)
      replace HMA := Lib.hid (HMA.out.keep hb)
      clear hb
      clear p0 p19 p20 p21 p22 p23 p24 p25
      by_cases hy : cp = 0
      · subst hy
        have HRES := Lib.hid hres
        clear hres
        go_wp2
        go_ret
        exact ⟨by rw [HRES.out]; rfl, HB.out⟩
      · rw [decide_eq_false hy] at hres
        have hy2 : (cp == 0) = false := beq_eq_false_iff_ne.2 hy
        have HRES := Lib.hid hres
        clear hres hy
        go_wp2
        go_ret
        exact ⟨by rw [HRES.out]; rfl, HB.out⟩
    · rw [decide_eq_false hz, Bool.false_and] at hres
      have hz2 : (cl == 0) = false := beq_eq_false_iff_ne.2 hz
      have HRES := Lib.hid hres
      clear hres hz
      go_wp2
      go_ret
      exact ⟨by rw [HRES.out]; rfl, HB.out⟩
  · rw [hk, show decide ((1 : Int) ≤ 7) = true from rfl, show decide ((7 : Int) ≤ 7) = true from rfl, if_pos (by decide), Bool.true_and, Bool.true_and] at hres
    have p0 : (w.alloc (.cells ma 33)).cell? ⟨w.heap.size, 0, none⟩ = some (.int .i64 m.K) := by rw [HBK.out.cell]; rfl
    have p9 : (w.alloc (.cells ma 33)).cell? ⟨w.heap.size, 9, none⟩ = some (.int .u64 m.l.E) := by rw [HBK.out.cell]; rfl
    have p10 : (w.alloc (.cells ma 33)).cell? ⟨w.heap.size, 10, none⟩ = some (.int .i64 m.l.B) := by rw [HBK.out.cell]; rfl
    have p11 : (w.alloc (.cells ma 33)).cell? ⟨w.heap.size, 11, none⟩ = some (.bool m.l.L) := by rw [HBK.out.cell]; rfl
    have p12 : (w.alloc (.cells ma 33)).cell? ⟨w.heap.size, 12, none⟩ = some (.slice a2 m.l.l.length c2) := by rw [HBK.out.cell]; rfl
    rw [hk] at p0
    go_enter Try.func20, Try.ntmps20
    go_wp2_with fail
    refine (HLC.out _ HB.out).mono ?_
    rintro e w3 ⟨rfl, hb⟩
    replace HB := Lib.hid (HB.out.trans (hb.mono HB.out.size))
    replace HBK := Lib.hid (HBK.out.keep hb)
    replace HMA := Lib.hid (HMA.out.keep hb)
    clear hb
    clear p0 p9 p10 p11 p12
    by_cases hz : cl = 0
    · rw [decide_eq_true hz, Bool.true_and] at hres
      subst hz
      have p0 : (w3).cell? ⟨w.heap.size, 0, none⟩ = some (.int .i64 m.K) := by rw [HBK.out.cell]; rfl
      rw [hk] at p0
      have HRES := Lib.hid hres
      clear hres
      go_wp2
      go_ret
      exact ⟨by rw [HRES.out]; rfl, HB.out⟩
    · rw [decide_eq_false hz, Bool.false_and] at hres
      have hz2 : (cl == 0) = false := beq_eq_false_iff_ne.2 hz
      have HRES := Lib.hid hres
      clear hres hz
      go_wp2
      go_ret
      exact ⟨by rw [HRES.out]; rfl, HB.out⟩
  · rw [decide_eq_true hk.1, decide_eq_true (show m.K ≤ 7 by omega), if_neg (by omega), Bool.true_and, Bool.true_and] at hres
    have i1 : ¬ m.K < 1 := by omega
    have i2 : ¬ 7 < m.K := by omega
    have i3 : ¬ 4 < m.K := by omega
    clear hk
    have p0 : (w.alloc (.cells ma 33)).cell? ⟨w.heap.size, 0, none⟩ = some (.int .i64 m.K) := by rw [HBK.out.cell]; rfl
    have p1 : (w.alloc (.cells ma 33)).cell? ⟨w.heap.size, 1, none⟩ = some (.int .u64 m.T) := by rw [HBK.out.cell]; rfl
    have p2 : (w.alloc (.cells ma 33)).cell? ⟨w.heap.size, 2, none⟩ = some (.int .i64 m.P) := by rw [HBK.out.cell]; rfl
    go_enter Try.func20, Try.ntmps20
    by_cases h1 : 1 ≤ m.T
    · rw [decide_eq_true h1, Bool.true_and] at hres
      go_wp2_with fail
      refine (place_any _ _).mono ?_
      rintro e w3 ⟨rfl, rfl⟩
      by_cases h2 : placeB m.P = true
      · have hPP := placeB_iff.1 h2
        rw [h2] at hres ⊢
        rw [Bool.true_and] at hres
        have p7 : (w.alloc (.cells ma 33)).cell? ⟨w.heap.size, 7, none⟩ = some (.int .i64 m.M) := by rw [HBK.out.cell]; rfl
        have HPP := Lib.hid hPP
        clear hPP h2
        go_wp2_with fail
        refine (place_any _ _).mono ?_
        rintro e w4 ⟨rfl, rfl⟩
        by_cases h3 : placeB m.M = true
        · rw [h3] at hres ⊢
          rw [Bool.true_and] at hres
          clear h3
          have p5 : (w.alloc (.cells ma 33)).cell? ⟨w.heap.size, 5, none⟩ = some (.int .i64 m.C) := by rw [HBK.out.cell]; rfl
          go_wp2_with fail
          refine (place_any _ _).mono ?_
          rintro e w5 ⟨rfl, rfl⟩
          by_cases h4 : placeB m.C = true
          · rw [h4] at hres ⊢
            rw [Bool.true_and] at hres
            clear h4
            have p3 : (w.alloc (.cells ma 33)).cell? ⟨w.heap.size, 3, none⟩ = some (.int .u64 m.PT) := by rw [HBK.out.cell]; rfl
            have p8 : (w.alloc (.cells ma 33)).cell? ⟨w.heap.size, 8, none⟩ = some (.int .i64 m.S) := by rw [HBK.out.cell]; rfl
            obtain ⟨x1, hx1⟩ : ∃ b, (m.PT == 0) = b := ⟨_, rfl⟩
            obtain ⟨x2, hx2⟩ : ∃ b, (m.P == 0) = b := ⟨_, rfl⟩
            have e1 : decide (m.PT = 0) = x1 := by rw [← hx1]; rfl
            have e2 : decide (m.P = 0) = x2 := by rw [← hx2]; rfl
            rw [e1, e2] at hres
            clear e1 e2
            by_cases h5 : x1 = x2
            · have e3 : (x1 == x2) = true := by simpa using h5
              rw [e3, Bool.true_and] at hres
              clear h5
              by_cases h6 : 0 ≤ m.S
              · rw [decide_eq_true h6, Bool.true_and] at hres
                go_wp2_with (first | refine wpList_wanted_run (by rfl) (.agg ma) (exec_load_blk 33 _ rfl w.heap.size rfl _ HMA.out Try.underlying33 rfl HSZ.out) ?_)
                refine (HENT.out _ HB.out HPP.out).mono ?_
                rintro e w6 ⟨rfl, hb⟩
                replace HB := Lib.hid (HB.out.trans (hb.mono HB.out.size))
                have HRES := Lib.hid hres
                clear hres hb p0 p1 p2 p3 p5 p7 p8 HBK HMA
                go_wp2
                go_ret
                exact ⟨by rw [HRES.out]; rfl, HB.out⟩
              · rw [decide_eq_false h6, Bool.false_and] at hres
                have k6 : decide (0 ≤ m.S) = false := decide_eq_false h6
                clear h6
                have HRES := Lib.hid hres
                clear hres
                go_wp2
                go_ret
                exact ⟨by rw [HRES.out]; rfl, HB.out⟩
            · have e3 : (x1 == x2) = false := by simpa using h5
              rw [e3, Bool.false_and] at hres
              clear h5
              have HRES := Lib.hid hres
              clear hres
              go_wp2
              go_ret
              exact ⟨by rw [HRES.out]; rfl, HB.out⟩
          · have k4 : placeB m.C = false := by simpa using h4
            rw [k4] at hres ⊢
            rw [Bool.false_and] at hres
            clear h4 k4
            have HRES := Lib.hid hres
            clear hres
            go_wp2
            go_ret
            exact ⟨by rw [HRES.out]; rfl, HB.out⟩
        · have k3 : placeB m.M = false := by simpa using h3
          rw [k3] at hres ⊢
          rw [Bool.false_and] at hres
          clear h3 k3
          have HRES := Lib.hid hres
          clear hres
          go_wp2
          go_ret
          exact ⟨by rw [HRES.out]; rfl, HB.out⟩
      · have k2 : placeB m.P = false := by simpa using h2
        rw [k2] at hres ⊢
        rw [Bool.false_and] at hres
        clear h2 k2
        have HRES := Lib.hid hres
        clear hres
        go_wp2
        go_ret
        exact ⟨by rw [HRES.out]; rfl, HB.out⟩
    · rw [decide_eq_false h1, Bool.false_and] at hres
      have k1 : decide (1 ≤ m.T) = false := decide_eq_false h1
      clear h1
      have HRES := Lib.hid hres
      clear hres
      go_wp2
      go_ret
      exact ⟨by rw [HRES.out]; rfl, HB.out⟩
end Go.Proofs.Ytikimmhkfjaijaa
namespace Go.Proofs.Ytikimmhkfjaijaa
open Go.RowKit Reg Go.ChangeShapes

/-! ### what may be is laid -/
theorem upto_i64 {x : Int} (h : i64 x) : x ≤ 9223372036854775807 := by
  have h2 : (decide ((-9223372036854775808 : Int) ≤ x) && decide (x ≤ 9223372036854775807)) = true := h
  simp only [Bool.and_eq_true, decide_eq_true_eq] at h2
  exact h2.2
theorem wrongE_kind {e : En} (h : wrongE e = false) : 1 ≤ e.K ∧ e.K ≤ 3 := by
  unfold wrongE at h
  by_cases h1 : e.K = 1 ∨ e.K = 2
  · omega
  · rw [if_neg h1] at h
    by_cases h3 : e.K = 3
    · omega
    · rw [if_neg h3] at h; cases h
theorem logC_kinds {es : List En} (h : logC es = 0) : ∀ e ∈ es, 1 ≤ e.K ∧ e.K ≤ 3 := by
  unfold logC at h
  split at h
  · cases h
  · split at h
    · rename_i h2
      intro e he
      have := List.any_eq_false.1 h2.2 e he
      exact wrongE_kind (by simpa using this)
    · cases h
theorem checkL_ok {x : Ln} (h : checkL x = 0) : x.l.length ≤ 20 ∧ 0 ≤ x.B ∧ x.B ≤ x.l.length := by
  unfold checkL at h
  split at h
  · cases h
  · rename_i h1
    split at h
    · rename_i h2
      exact ⟨by omega, h2.2⟩
    · cases h
structure MayA (m : Ms) : Prop where
  T : 1 ≤ m.T
  P : 0 ≤ m.P ∧ m.P ≤ 300
  M : 0 ≤ m.M ∧ m.M ≤ 300
  C : 0 ≤ m.C ∧ m.C ≤ 300
  S : 0 ≤ m.S
  len : m.es.length ≤ 8
  log : logC m.es = 0
theorem mayM_K {m : Ms} (h : mayM m = true) : 1 ≤ m.K ∧ m.K ≤ 7 := by
  unfold mayM at h
  simp only [Bool.and_eq_true, decide_eq_true_eq] at h
  exact ⟨h.1, h.2.1⟩
theorem mayM_a {m : Ms} (h : mayM m = true) (hk : m.K ≤ 4) : MayA m := by
  unfold mayM at h
  rw [if_neg (by omega)] at h
  simp only [Bool.and_eq_true, decide_eq_true_eq, placeB_iff] at h
  obtain ⟨-, -, h1, h2, h3, h4, -, h6, h7⟩ := h
  unfold entB at h7
  simp only [Bool.and_eq_true, decide_eq_true_eq] at h7
  exact ⟨h1, h2, h3, h4, h6, h7.1, h7.2.2.1⟩
theorem mayM_l {m : Ms} (h : mayM m = true) (hk : 4 < m.K) : checkL m.l = 0 := by
  unfold mayM at h
  rw [if_pos hk] at h
  simp only [Bool.and_eq_true, decide_eq_true_eq] at h
  exact h.2.2.1
theorem mayM_pull {m : Ms} (h : mayM m = true) (hk : m.K = 5) : pullB m = true := by
  unfold mayM at h
  rw [if_pos (by omega)] at h
  simp only [Bool.and_eq_true, decide_eq_true_eq, Bool.or_eq_true] at h
  exact h.2.2.2.1.resolve_left (fun q => q hk)
theorem mayM_part {m : Ms} (h : mayM m = true) (hk : m.K = 6) : checkP m.p = 0 := by
  unfold mayM at h
  rw [if_pos (by omega)] at h
  simp only [Bool.and_eq_true, decide_eq_true_eq, Bool.or_eq_true] at h
  exact h.2.2.2.2.resolve_left (fun q => q hk)
theorem pullB_ok {m : Ms} (h : pullB m = true) : (0 ≤ m.n ∧ m.n ≤ 20) ∧ (0 ≤ m.N ∧ m.N ≤ 8) := by
  unfold pullB at h
  simp only [Bool.and_eq_true, decide_eq_true_eq] at h
  obtain ⟨h1, h2, -, h4⟩ := h
  refine ⟨⟨h1, h2⟩, ?_⟩
  split at h4
  · have : m.N = 0 := by simpa using h4
    omega
  · simp only [Bool.and_eq_true, decide_eq_true_eq] at h4
    omega
theorem okIn_lay {m : Ms} (hm : mayM m = true) (hw : wfM m) : OkIn false m := by
  have hK := mayM_K hm
  refine ⟨fun _ => hw.T, fun hk => ?_, fun hk => ?_, fun hk => ?_, fun hk => ?_, fun hk => ?_, fun hk => ?_, fun h => by cases h⟩
  · have := mayM_a hm (by omega)
    exact ⟨⟨this.P.1, by have := this.P.2; omega⟩, hw.PT⟩
  · have := mayM_a hm (by omega)
    exact ⟨fun e he => by have := logC_kinds this.log e he; exact ⟨by omega, by omega⟩, by have := this.len; omega, this.C.1, by have := this.C.2; omega⟩
  · have := mayM_a hm (by omega)
    exact ⟨this.M.1, by have := this.M.2; omega⟩
  · have := mayM_a hm (by omega)
    exact ⟨this.S, upto_i64 hw.S⟩
  · have := checkL_ok (mayM_l hm (by omega))
    exact ⟨hw.E, ⟨this.2.1, by omega⟩, by omega⟩
  · have := pullB_ok (mayM_pull hm hk)
    exact ⟨⟨this.1.1, by omega⟩, hw.la, hw.ta, this.2.1, by omega⟩
theorem in8_K {m : Ms} (hm : mayM m = true) : in8 m.K := by
  have := mayM_K hm
  exact ⟨by omega, by omega⟩
theorem p_K_self (m : Ms) : p_K m m.K = m := rfl
theorem iK_lay {m : Ms} {b : Bool} (h : in8 m.K) : (iK (⟨.lay [], b⟩, m)).2 = m := by
  have h1 : (intF ⟨.lay [], b⟩ m.K).2 = m.K := lay_int rfl h
  have h2 : (iK (⟨.lay [], b⟩, m)).2 = p_K m (intF ⟨.lay [], b⟩ m.K).2 := rfl
  rw [h2, h1, p_K_self]
/-- a message's bytes, without their sum; and whether they are -/
def outQ (q : Sf × Ms) : ByteArray := q.1.m.out
def badQ (q : Sf × Ms) : Bool := q.1.bad
def layS (m : Ms) : ByteArray := outQ (layF m)
def layBad (m : Ms) : Bool := badQ (layF m)
theorem layS_of {m : Ms} {X : Sf × Ms} (h : layF m = X) : layS m = X.1.m.out := by
  rw [← show outQ X = X.1.m.out from rfl, ← h]
  rfl
theorem layBad_of {m : Ms} {X : Sf × Ms} (h : layF m = X) : layBad m = X.1.bad := by
  rw [← show badQ X = X.1.bad from rfl, ← h]
  rfl
theorem laid2_any (w : World) (v : Value) (m : Ms) (hv : InMs w v m) (hm : mayM m = true) :
    Calls Try.prog 15 #[v] w fun e w' => e = .returned (.tuple #[.string (layS m), .bool (!layBad m)]) ∧ Below w.heap.size w w' ∧ (layS m).size ≤ 1000000 := by
  have hw : wfM m := by obtain ⟨_, _, _, _, _, _, _, h⟩ := hv; exact h
  have h := laid_any w v m hv (in8_K hm) (by rw [iK_lay (in8_K hm)]; exact okIn_lay hm hw)
  obtain ⟨X, hX⟩ : ∃ X, layF m = X := ⟨_, rfl⟩
  rw [layS_of hX, layBad_of hX]
  rw [hX] at h
  exact h
/-- Check's answer -/
def checkB (m : Ms) : Bool := mayM m && (!layBad m && (readOk (layS m).data.toList && sameM (readM (layS m).data.toList) m))
def checkM (m : Ms) : Int := if checkB m = true then 0 else 2
set_option maxRecDepth 100000 in
set_option maxHeartbeats 4000000 in
theorem mcheck_any (w : World) (v : Value) (m : Ms) (hv : InMs w v m) : Calls Try.prog 11 #[v] w fun e w' => e = .returned (.int .i64 (checkM m)) ∧ Below w.heap.size w w' := by
  have hmay := fun w2 (h : Below w.heap.size w w2) => may2_any w2 v m (hv.keep h)
  have hlaid := fun (hm : mayM m = true) w2 (h : Below w.heap.size w w2) => laid2_any w2 v m (hv.keep h) hm
  have hsame := fun w2 (h : Below w.heap.size w w2) (u : Value) (x : Ms) (hu : InMs w2 u x) => msame_any w2 u v x m hu (hv.keep h)
  obtain ⟨ma, a1, a2, a3, c1, c2, c3, rfl, hone, hsz, hma, -, -, -, -⟩ := ms_cells hv
  have hb := (Below.refl w.heap.size w).alloc (Nat.le_refl _) (Obj.cells ma 33)
  have HMA := Lib.hid (Blk.new w 33 ma)
  obtain ⟨res, hres⟩ : ∃ r, r = checkM m := ⟨_, rfl⟩
  rw [← hres]
  unfold checkM checkB at hres
  have HB := Lib.hid hb
  have HMAY := Lib.hid hmay
  have HLAID := Lib.hid hlaid
  have HSAME := Lib.hid hsame
  have HONE := Lib.hid hone
  have HSZ := Lib.hid hsz
  clear hma hv hone hsz hb hmay hlaid hsame
  go_enter Try.func11, Try.ntmps11
  go_wp2_with (first | refine wpList_wanted_run (by rfl) (.agg ma) (exec_load_blk 33 _ rfl w.heap.size rfl _ HMA.out Try.underlying33 rfl HSZ.out) ?_)
  refine (HMAY.out _ HB.out).mono ?_
  rintro e w1 ⟨rfl, hb⟩
  replace HB := Lib.hid (HB.out.trans (hb.mono HB.out.size))
  replace HMA := Lib.hid (HMA.out.keep hb)
  clear hb
  by_cases hm : mayM m = true
  · rw [hm] at hres ⊢
    rw [Bool.true_and] at hres
    replace HLAID := Lib.hid (HLAID.out hm)
    clear hm
    generalize layS m = sm at *
    generalize layBad m = lb at *
    obtain ⟨X, hX⟩ : ∃ X, readM sm.data.toList = X := ⟨_, rfl⟩
    obtain ⟨ok, hok⟩ : ∃ X, readOk sm.data.toList = X := ⟨_, rfl⟩
    rw [hX, hok] at hres
    have HRD := Lib.hid (fun w2 (h : sm.size ≤ 1000000) => read_any w2 sm (by omega))
    unfold ReadT at HRD
    rw [hX, hok] at HRD
    clear hX hok
    go_wp2_with (first | refine wpList_wanted_run (by rfl) (.agg ma) (exec_load_blk 33 _ rfl w.heap.size rfl _ HMA.out Try.underlying33 rfl HSZ.out) ?_)
    refine (HLAID.out _ HB.out).mono ?_
    rintro e w2 ⟨rfl, hb, hz⟩
    replace HB := Lib.hid (HB.out.trans (hb.mono HB.out.size))
    replace HMA := Lib.hid (HMA.out.keep hb)
    replace HRD := Lib.hid (fun w2 => HRD.out w2 hz)
    clear hb hz HLAID HMAY
    go_wp2_with fail
    refine (HRD.out _).mono ?_
    rintro e w3 ⟨u, rfl, hu, hb, -⟩
    obtain ⟨ua, b1, b2, b3, d1, d2, d3, rfl, uone, usz, uma, -, -, -, -⟩ := ms_cells hu
    replace HB := Lib.hid (HB.out.trans (hb.mono HB.out.size))
    replace HMA := Lib.hid (HMA.out.keep hb)
    have HU := Lib.hid hu
    have UONE := Lib.hid uone
    have USZ := Lib.hid usz
    have USZ2 : Hid (zeroA.size = ua.size) := Lib.hid (by rw [uma]; rfl)
    clear hb hu uone usz uma HRD
    have HZ := Lib.hid (Blk.new w3 33 zeroA)
    go_wp2_with (first | refine wpList_store_then rfl 33 _ _ rfl w3.heap.size ua rfl rfl 33 _ HZ.out USZ.out USZ2.out UONE.out ?_)
    refine Later.mk fun w4 hw4 => ?_
    have hal : Below w3.heap.size w3 w4 := by
      rw [hw4]
      exact Below.setRow ((Below.refl w3.heap.size w3).alloc (Nat.le_refl _) (Obj.cells zeroA 33)) (Nat.le_refl _) _
    have HUA : Hid (Blk w4 w3.heap.size 33 ua) := Lib.hid (by rw [hw4]; exact HZ.out.row _)
    have HU2 := Lib.hid (HU.out.keep hal)
    have HB2 := Lib.hid (HB.out.trans (hal.mono HB.out.size))
    have HMA2 := Lib.hid (HMA.out.keep hal)
    clear hal hw4
    cases lb with
    | true =>
      rw [Bool.not_true, Bool.false_and, if_neg (by decide)] at hres
      have HRES := Lib.hid hres
      clear hres
      go_wp2_with (first | refine wpList_wanted_run (by rfl) (.agg ua) (exec_load_blk 33 _ rfl w3.heap.size rfl _ HUA.out Try.underlying33 rfl USZ.out) ?_ | refine wpList_wanted_run (by rfl) (.agg ma) (exec_load_blk 33 _ rfl w.heap.size rfl _ HMA2.out Try.underlying33 rfl HSZ.out) ?_)
      go_ret
      exact ⟨by rw [HRES.out]; rfl, HB2.out⟩
    | false =>
      cases ok with
      | false =>
        rw [Bool.not_false, Bool.true_and, Bool.false_and, if_neg (by decide)] at hres
        have HRES := Lib.hid hres
        clear hres
        go_wp2_with (first | refine wpList_wanted_run (by rfl) (.agg ua) (exec_load_blk 33 _ rfl w3.heap.size rfl _ HUA.out Try.underlying33 rfl USZ.out) ?_ | refine wpList_wanted_run (by rfl) (.agg ma) (exec_load_blk 33 _ rfl w.heap.size rfl _ HMA2.out Try.underlying33 rfl HSZ.out) ?_)
        go_ret
        exact ⟨by rw [HRES.out]; rfl, HB2.out⟩
      | true =>
        rw [Bool.not_false, Bool.true_and, Bool.true_and] at hres
        go_wp2_with (first | refine wpList_wanted_run (by rfl) (.agg ua) (exec_load_blk 33 _ rfl w3.heap.size rfl _ HUA.out Try.underlying33 rfl USZ.out) ?_ | refine wpList_wanted_run (by rfl) (.agg ma) (exec_load_blk 33 _ rfl w.heap.size rfl _ HMA2.out Try.underlying33 rfl HSZ.out) ?_)
        refine (HSAME.out _ HB2.out _ _ HU2.out).mono ?_
        rintro e w5 ⟨rfl, hb⟩
        have HB5 := Lib.hid (HB2.out.trans (hb.mono HB2.out.size))
        clear hb HB HB2
        generalize sameM X m = sb at *
        cases sb with
        | true =>
          rw [if_pos rfl] at hres
          have HRES := Lib.hid hres
          clear hres
          go_wp2
          go_ret
          exact ⟨by rw [HRES.out]; rfl, HB5.out⟩
        | false =>
          rw [if_neg (by decide)] at hres
          have HRES := Lib.hid hres
          clear hres
          go_wp2
          go_ret
          exact ⟨by rw [HRES.out]; rfl, HB5.out⟩
  · have k : mayM m = false := by simpa using hm
    rw [k] at hres ⊢
    rw [Bool.false_and, if_neg (by decide)] at hres
    have HRES := Lib.hid hres
    clear hres hm k
    go_wp2
    go_ret
    exact ⟨by rw [HRES.out]; rfl, HB.out⟩
/-- Encode's bytes -/
def encM (m : Ms) : ByteArray := if checkB m = true then strOf (Crc.sealed (layS m).data.toList) else ByteArray.empty
theorem checkB_may {m : Ms} (h : checkB m = true) : mayM m = true := by
  unfold checkB at h
  rw [Bool.and_eq_true] at h
  exact h.1
set_option maxRecDepth 100000 in
set_option maxHeartbeats 4000000 in
theorem mencode_any (w : World) (v : Value) (m : Ms) (hv : InMs w v m) : Calls Try.prog 8 #[v] w fun e w' => e = .returned (.tuple #[.string (encM m), .int .i64 (checkM m)]) ∧ Below w.heap.size w w' := by
  have hchk := fun w2 (h : Below w.heap.size w w2) => mcheck_any w2 v m (hv.keep h)
  have hlaid := fun (hm : mayM m = true) w2 (h : Below w.heap.size w w2) => laid2_any w2 v m (hv.keep h) hm
  obtain ⟨ma, a1, a2, a3, c1, c2, c3, rfl, hone, hsz, hma, -, -, -, -⟩ := ms_cells hv
  have hb := (Below.refl w.heap.size w).alloc (Nat.le_refl _) (Obj.cells ma 33)
  have HMA := Lib.hid (Blk.new w 33 ma)
  have HB := Lib.hid hb
  have HCHK := Lib.hid hchk
  have HLAID := Lib.hid hlaid
  have HONE := Lib.hid hone
  have HSZ := Lib.hid hsz
  obtain ⟨ee, hee⟩ : ∃ e, e = encM m := ⟨_, rfl⟩
  obtain ⟨z, hz⟩ : ∃ z, z = checkM m := ⟨_, rfl⟩
  rw [← hz] at HCHK
  rw [← hee, ← hz]
  unfold encM at hee
  unfold checkM at hz
  clear hma hv hone hsz hb hchk hlaid
  by_cases hm : checkB m = true
  · rw [if_pos hm] at hee hz
    replace HLAID := Lib.hid (HLAID.out (checkB_may hm))
    generalize layS m = sm at *
    generalize layBad m = lb at *
    subst hz
    have HEE := Lib.hid hee
    clear hm hee
    go_enter Try.func8, Try.ntmps8
    go_wp2_with (first | refine wpList_wanted_run (by rfl) (.agg ma) (exec_load_blk 33 _ rfl w.heap.size rfl _ HMA.out Try.underlying33 rfl HSZ.out) ?_)
    refine (HCHK.out _ HB.out).mono ?_
    rintro e w1 ⟨rfl, hb⟩
    replace HB := Lib.hid (HB.out.trans (hb.mono HB.out.size))
    replace HMA := Lib.hid (HMA.out.keep hb)
    clear hb HCHK
    go_wp2_with (first | refine wpList_wanted_run (by rfl) (.agg ma) (exec_load_blk 33 _ rfl w.heap.size rfl _ HMA.out Try.underlying33 rfl HSZ.out) ?_)
    refine (HLAID.out _ HB.out).mono ?_
    rintro e w2 ⟨rfl, hb, hz⟩
    replace HB := Lib.hid (HB.out.trans (hb.mono HB.out.size))
    have HSEAL := Lib.hid (fun w2 => seal_any sm w2 (by unfold maxLen; omega))
    clear hb hz HLAID
    go_wp2_with fail
    refine (HSEAL.out _).mono ?_
    rintro e w3 ⟨rfl, hb⟩
    replace HB := Lib.hid (HB.out.trans (hb.mono HB.out.size))
    clear hb
    go_wp2
    go_ret2
    exact ⟨by rw [HEE.out]; rfl, HB.out⟩
  · rw [if_neg hm] at hee hz
    subst hz
    have HEE := Lib.hid hee
    clear hm hee HLAID
    go_enter Try.func8, Try.ntmps8
    go_wp2_with (first | refine wpList_wanted_run (by rfl) (.agg ma) (exec_load_blk 33 _ rfl w.heap.size rfl _ HMA.out Try.underlying33 rfl HSZ.out) ?_)
    refine (HCHK.out _ HB.out).mono ?_
    rintro e w1 ⟨rfl, hb⟩
    replace HB := Lib.hid (HB.out.trans (hb.mono HB.out.size))
    clear hb HCHK
    go_wp2
    go_ret2
    exact ⟨by rw [HEE.out]; rfl, HB.out⟩
/-- the bytes ahead of the sum -/
def textL (s : ByteArray) : List UInt8 := s.data.toList.take (s.size - 4)
def decOkM (s : ByteArray) : Bool := Crc.opens s.data.toList && (readOk (textL s) && checkB (readM (textL s)))
def decM (s : ByteArray) : Ms := if decOkM s = true then readM (textL s) else zeroM
def decZ (s : ByteArray) : Int := if decOkM s = true then 0 else 4
/-- what Decode answers -/
def DecM (w : World) (m : Ms) (z : Int) (e : Ending) (w' : World) : Prop := ∃ v, e = .returned (.tuple #[v, .int .i64 z]) ∧ InMs w' v m ∧ Below w.heap.size w w'
theorem zero_in (w : World) : InMs w (.agg zeroA) zeroM :=
  ⟨.slice none 0 0, .slice none 0 0, .slice none 0 0, rfl, ⟨none, 0, rfl, .inl rfl, Nat.zero_le _, (fun e he => by cases he), fun j hj => by cases hj⟩, InG.nil_ _, InC.nil_ _ _ _, zeroM_wf⟩
theorem zeroA_one : (zeroA.all fun x => x.oneCell') = true := msA_one _ _ _ _ _ _ _ _ _ _
theorem zeroA_size : (Try.prog.info? 33).map (·.size) = some zeroA.size := msg_size zeroM (.slice none 0 0) (.slice none 0 0) (.slice none 0 0)
theorem kp_row (w : World) (q : Nat) (ds : Array Value) : Kp (· = q) w (w.setRow q ds) :=
  ⟨Below.setRow (Below.refl 0 w) (Nat.zero_le _) ds, fun b _ hn => by
    simp only [World.setRow, Array.getElem?_modify]
    rw [if_neg (fun e => hn e.symm)]⟩
set_option maxRecDepth 100000 in
set_option maxHeartbeats 4000000 in
theorem mdecode_any (w : World) (s : ByteArray) (hs : s.size ≤ 1152921504606846976) : Calls Try.prog 9 #[.string s] w (DecM w (decM s) (decZ s)) := by
  unfold DecM
  obtain ⟨M, hM⟩ : ∃ M, M = decM s := ⟨_, rfl⟩
  obtain ⟨z, hz⟩ : ∃ z, z = decZ s := ⟨_, rfl⟩
  rw [← hM, ← hz]
  unfold decM decOkM at hM
  unfold decZ decOkM at hz
  have HOP := Lib.hid (fun w2 => open_any s w2 (Nat.le_trans hs (by decide)))
  unfold openV at HOP
  have HQ := Lib.hid (Blk.new w 33 zeroA)
  have HB0 := Lib.hid ((Below.refl w.heap.size w).alloc (Nat.le_refl _) (Obj.cells zeroA 33))
  have HFZ : Hid (∀ w1, Blk w1 w.heap.size 33 zeroA → Below w.heap.size w w1 → ∀ w2, w2 = w1.setRow w.heap.size zeroA → Blk w2 w.heap.size 33 zeroA ∧ Below w.heap.size w w2) := Lib.hid fun w1 h1 h2 w2 hw => by
    rw [hw]
    exact ⟨h1.row _, Below.setRow h2 (Nat.le_refl _) _⟩
  cases hop : Crc.opens s.data.toList with
  | false =>
    rw [hop, Bool.false_and, if_neg (by decide)] at hM hz
    rw [if_neg (by rw [hop]; decide)] at HOP
    subst hM
    subst hz
    clear hop hs
    go_enter Try.func9, Try.ntmps9
    go_wp2_with fail
    refine (HOP.out _).mono ?_
    rintro e w1 ⟨rfl, hb⟩
    have HQ1 := Lib.hid (HQ.out.keep hb)
    have HB1 := Lib.hid (HB0.out.trans (hb.mono HB0.out.size))
    clear hb HQ HB0 HOP
    go_wp2_with (first | refine wpList_store_then rfl 33 _ _ rfl w.heap.size zeroA rfl rfl 33 _ HQ1.out zeroA_size rfl zeroA_one ?_)
    refine Later.mk fun w4 hw4 => ?_
    have H9 := Lib.hid (HFZ.out _ HQ1.out HB1.out _ hw4)
    clear hw4
    go_wp2
    refine bodyPost_ret (results_cell2 (ty := 33) (g := w.heap.size) (k := 2) (m := 3) rfl rfl rfl H9.out.1 Try.underlying33 rfl zeroA_size) rfl ⟨_, rfl, zero_in _, H9.out.2⟩
  | true =>
    rw [hop, Bool.true_and] at hM hz
    rw [if_pos hop] at HOP
    obtain ⟨T, hT⟩ : ∃ T, T = strOf (s.data.toList.take (s.size - 4)) := ⟨_, rfl⟩
    rw [← hT] at HOP
    have hTd : T.data.toList = textL s := by rw [hT]; exact strOf_list _
    have hTz : T.size ≤ 1152921504606846976 := by
      rw [hT, size_strOf, List.length_take]
      have : s.data.toList.length = s.size := Array.length_toList
      omega
    rw [← hTd] at hM hz
    have HRD := Lib.hid (fun w2 => read_any w2 T hTz)
    unfold ReadT at HRD
    obtain ⟨X, hX⟩ : ∃ X, readM T.data.toList = X := ⟨_, rfl⟩
    obtain ⟨ok, hok⟩ : ∃ X, readOk T.data.toList = X := ⟨_, rfl⟩
    rw [hX, hok] at HRD hM
    rw [hX, hok] at hz
    have HCHK := Lib.hid (fun w2 (u : Value) (h : InMs w2 u X) => mcheck_any w2 u X h)
    unfold checkM at HCHK
    generalize checkB X = cb at *
    clear hop hs hT hTd hTz hX hok
    go_enter Try.func9, Try.ntmps9
    go_wp2_with fail
    refine (HOP.out _).mono ?_
    rintro e w1 ⟨rfl, hb⟩
    have HQ1 := Lib.hid (HQ.out.keep hb)
    have HB1 := Lib.hid (HB0.out.trans (hb.mono HB0.out.size))
    clear hb HQ HB0 HOP
    go_wp2_with fail
    refine (HRD.out _).mono ?_
    rintro e w2 ⟨u, rfl, hu, hb, haft⟩
    obtain ⟨ua, b1, b2, b3, d1, d2, d3, rfl, uone, usz, uma, -, -, -, -⟩ := ms_cells hu
    have HQ2 := Lib.hid (HQ1.out.keep hb)
    have HB2 := Lib.hid (HB1.out.trans (hb.mono HB1.out.size))
    have HAFT := Lib.hid (haft _ _ _ HQ1.out zeroA_noStr)
    have UONE := Lib.hid uone
    have USZ := Lib.hid usz
    have USZ2 : Hid (zeroA.size = ua.size) := Lib.hid (by rw [uma]; rfl)
    clear hb hu haft uone usz uma HRD
    have HZ := Lib.hid (Blk.new w2 33 zeroA)
    go_wp2_with (first | refine wpList_store_then rfl 33 _ _ rfl w2.heap.size ua rfl rfl 33 _ HZ.out USZ.out USZ2.out UONE.out ?_)
    refine Later.mk fun w4 hw4 => ?_
    have hal : Below w2.heap.size w2 w4 := by
      rw [hw4]
      exact Below.setRow ((Below.refl w2.heap.size w2).alloc (Nat.le_refl _) (Obj.cells zeroA 33)) (Nat.le_refl _) _
    have HU4 : Hid (Blk w4 w2.heap.size 33 ua) := Lib.hid (by rw [hw4]; exact HZ.out.row _)
    have HI4 : Hid (InMs w4 (.agg ua) X) := Lib.hid (HAFT.out w4 (Kp.of_below hal))
    have HK4 : Hid (Kp (· = w.heap.size) w2 w4) := Lib.hid (Kp.of_below hal)
    have HQ4 := Lib.hid (HQ2.out.keep hal)
    have HB4 := Lib.hid (HB2.out.trans (hal.mono HB2.out.size))
    clear hal hw4 HQ1 HQ2 HB1 HZ
    cases ok with
    | false =>
      rw [Bool.false_and, if_neg (by decide)] at hM hz
      subst hM
      subst hz
      go_wp2_with (first | refine wpList_store_then rfl 33 _ _ rfl w.heap.size zeroA rfl rfl 33 _ HQ4.out zeroA_size rfl zeroA_one ?_)
      refine Later.mk fun w5 hw5 => ?_
      have H9 := Lib.hid (HFZ.out _ HQ4.out HB4.out _ hw5)
      clear hw5
      go_wp2
      refine bodyPost_ret (results_cell2 (ty := 33) (g := w.heap.size) (k := 2) (m := 3) rfl rfl rfl H9.out.1 Try.underlying33 rfl zeroA_size) rfl ⟨_, rfl, zero_in _, H9.out.2⟩
    | true =>
      rw [Bool.true_and] at hM hz
      go_wp2_with (first | refine wpList_wanted_run (by rfl) (.agg ua) (exec_load_blk 33 _ rfl w2.heap.size rfl _ HU4.out Try.underlying33 rfl USZ.out) ?_)
      refine (HCHK.out _ _ HI4.out).mono ?_
      rintro e w5 ⟨rfl, hb⟩
      have HU5 := Lib.hid (HU4.out.keep hb)
      have HQ5 := Lib.hid (HQ4.out.keep hb)
      have HB5 := Lib.hid (HB4.out.trans (hb.mono HB4.out.size))
      have HK5 : Hid (Kp (· = w.heap.size) w2 w5) := Lib.hid (HK4.out.trans (Kp.of_below hb))
      clear hb HU4 HQ4 HB4 HK4 HI4
      cases cb with
      | false =>
        rw [if_neg (by decide)] at hM hz ⊢
        subst hM
        subst hz
        go_wp2_with (first | refine wpList_store_then rfl 33 _ _ rfl w.heap.size zeroA rfl rfl 33 _ HQ5.out zeroA_size rfl zeroA_one ?_)
        refine Later.mk fun w6 hw6 => ?_
        have H9 := Lib.hid (HFZ.out _ HQ5.out HB5.out _ hw6)
        clear hw6
        go_wp2
        refine bodyPost_ret (results_cell2 (ty := 33) (g := w.heap.size) (k := 2) (m := 3) rfl rfl rfl H9.out.1 Try.underlying33 rfl zeroA_size) rfl ⟨_, rfl, zero_in _, H9.out.2⟩
      | true =>
        rw [if_pos rfl] at hM hz ⊢
        subst hM
        subst hz
        go_wp2_with (first | refine wpList_wanted_run (by rfl) (.agg ua) (exec_load_blk 33 _ rfl w2.heap.size rfl _ HU5.out Try.underlying33 rfl USZ.out) ?_ | refine wpList_store_then rfl 33 _ _ rfl w.heap.size ua rfl rfl 33 _ HQ5.out USZ.out USZ2.out UONE.out ?_)
        refine Later.mk fun w6 hw6 => ?_
        have H9 : Hid (Blk w6 w.heap.size 33 ua ∧ Below w.heap.size w w6 ∧ InMs w6 (.agg ua) M) := Lib.hid (by
          rw [hw6]
          exact ⟨HQ5.out.row _, Below.setRow HB5.out (Nat.le_refl _) _, HAFT.out _ (HK5.out.trans (kp_row _ _ ua))⟩)
        clear hw6
        go_wp2
        refine bodyPost_ret (results_cell2 (ty := 33) (g := w.heap.size) (k := 2) (m := 3) rfl rfl rfl H9.out.1 Try.underlying33 rfl USZ.out) rfl ⟨_, rfl, H9.out.2.2, H9.out.2.1⟩
end Go.Proofs.Ytikimmhkfjaijaa
