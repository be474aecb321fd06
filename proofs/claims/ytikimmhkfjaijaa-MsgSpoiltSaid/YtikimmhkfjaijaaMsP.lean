/-
  MESSAGES: entries of a log, checked (printed by wip/gen-msgp.py).
-/
import Derived.Test.YtikimmhkfjaijaaMsO
namespace Go.Proofs.Ytikimmhkfjaijaa
open Go.RowKit Reg Go.ChangeShapes

/-- an entry that may not be -/
def wrongE (e : En) : Bool := if e.K = 1 ∨ e.K = 2 then !(e.g.1 == 0 && e.g.2 == 0) || decide (e.T < 1) else if e.K = 3 then decide (e.T < 1) || !(decide (0 < e.g.1) && decide (0 < e.g.2)) else true
def aggE (e : En) : Value := .agg (enL e).toArray
set_option maxRecDepth 100000 in
set_option maxHeartbeats 1000000 in
theorem wrong_any (e : En) (w : World) : Calls Try.prog 66 #[aggE e] w fun x w' => x = .returned (.bool (wrongE e)) ∧ Below w.heap.size w w' := by
  obtain ⟨T, K, g1, g2⟩ := e
  obtain ⟨r, hr⟩ : ∃ r, r = wrongE ⟨T, K, (g1, g2)⟩ := ⟨_, rfl⟩
  rw [← hr]
  unfold wrongE at hr
  dsimp only at hr
  show Calls Try.prog 66 #[.agg #[.int .u64 T, .int .i64 K, .int .u64 g1, .int .u64 g2]] w _
  have hb0 := (Below.refl w.heap.size w).alloc (Nat.le_refl _) (Obj.cells #[.int .u64 T, .int .i64 K, .int .u64 g1, .int .u64 g2] 50)
  have hrng : (w.alloc (Obj.cells #[.int .u64 T, .int .i64 K, .int .u64 g1, .int .u64 g2] 50)).rangeAt w.heap.size 2 [.int .u64 g1, .int .u64 g2] := fun j v hj => by
    rw [(Blk.new w 50 #[.int .u64 T, .int .i64 K, .int .u64 g1, .int .u64 g2]).cell]
    match j, hj with
    | 0, hj => exact hj
    | 1, hj => exact hj
  have hneq := fun w => run_neq_guid g1 g2 0 0 w
  have HSZ : Hid ((Try.prog.info? 28).map (·.size) = some 2) := Lib.hid (by kernel_rfl)
  have HB := Lib.hid hb0
  have HRNG := Lib.hid hrng
  clear hb0 hrng
  generalize hgb : (g1 == 0 && g2 == 0) = gb at *
  have HGB := Lib.hid hgb
  clear hgb
  have hc : (K = 1 ∧ ((gb = false ∧ r = true) ∨ (gb = true ∧ T < 1 ∧ r = true) ∨ (gb = true ∧ ¬ T < 1 ∧ r = false))) ∨ (K = 2 ∧ ((gb = false ∧ r = true) ∨ (gb = true ∧ T < 1 ∧ r = true) ∨ (gb = true ∧ ¬ T < 1 ∧ r = false))) ∨
      (K = 3 ∧ ((T < 1 ∧ (0 < g1 ∨ ¬ 0 < g1) ∧ (0 < g2 ∨ ¬ 0 < g2) ∧ r = true) ∨ (¬ T < 1 ∧ ¬ 0 < g1 ∧ r = true) ∨ (¬ T < 1 ∧ 0 < g1 ∧ ¬ 0 < g2 ∧ r = true) ∨ (¬ T < 1 ∧ 0 < g1 ∧ 0 < g2 ∧ r = false))) ∨ (K ≠ 1 ∧ K ≠ 2 ∧ K ≠ 3 ∧ r = true) := by
    by_cases k1 : K = 1
    · left; refine ⟨k1, ?_⟩
      rw [if_pos (.inl k1)] at hr
      cases gb <;> by_cases ht : T < 1 <;> simp_all
    · by_cases k2 : K = 2
      · right; left; refine ⟨k2, ?_⟩
        rw [if_pos (.inr k2)] at hr
        cases gb <;> by_cases ht : T < 1 <;> simp_all
      · rw [if_neg (by omega)] at hr
        by_cases k3 : K = 3
        · right; right; left; refine ⟨k3, ?_⟩
          rw [if_pos k3] at hr
          by_cases ht : T < 1 <;> by_cases h1 : 0 < g1 <;> by_cases h2 : 0 < g2 <;> simp_all
        · rw [if_neg k3] at hr
          exact .inr (.inr (.inr ⟨k1, k2, k3, hr⟩))
  clear hr
  rcases hc with ⟨rfl, h | h | h⟩ | ⟨rfl, h | h | h⟩ | ⟨rfl, h | h | h | h⟩ | ⟨k1, k2, k3, rfl⟩
  iterate 2
    · obtain ⟨rfl, rfl⟩ := h
      go_enter Try.func66, Try.ntmps66
      go_wp2_with (first | refine wpList_load_mid rfl 28 _ rfl w.heap.size 2 rfl [.int .u64 g1, .int .u64 g2] _ HRNG.out Try.underlying28 rfl HSZ.out ?_)
      go_ret
      exact ⟨rfl, HB.out⟩
    iterate 2
      · obtain ⟨rfl, h1, rfl⟩ := h
        have hz := HGB.out
        rw [Bool.and_eq_true, beq_iff_eq, beq_iff_eq] at hz
        obtain ⟨rfl, rfl⟩ := hz
        go_enter Try.func66, Try.ntmps66
        go_wp2
        go_ret
        exact ⟨rfl, HB.out⟩
  · obtain ⟨h1, h2, h3, rfl⟩ := h
    rcases h2 with h2 | h2 <;> rcases h3 with h3 | h3
    all_goals
      go_enter Try.func66, Try.ntmps66
      go_wp2
      go_ret
      exact ⟨rfl, HB.out⟩
  · obtain ⟨h1, h2, rfl⟩ := h
    go_enter Try.func66, Try.ntmps66
    go_wp2
    go_ret
    exact ⟨rfl, HB.out⟩
  · obtain ⟨h1, h2, h3, rfl⟩ := h
    go_enter Try.func66, Try.ntmps66
    go_wp2
    go_ret
    exact ⟨rfl, HB.out⟩
  · obtain ⟨h1, h2, h3, rfl⟩ := h
    go_enter Try.func66, Try.ntmps66
    go_wp2
    go_ret
    exact ⟨rfl, HB.out⟩
  · have e1 : (K == 1) = false := beq_eq_false_iff_ne.2 k1
    have e2 : (K == 2) = false := beq_eq_false_iff_ne.2 k2
    have e3 : (K == 3) = false := beq_eq_false_iff_ne.2 k3
    clear k1 k2 k3
    go_enter Try.func66, Try.ntmps66
    go_wp2
    go_ret
    exact ⟨rfl, HB.out⟩
theorem InE.open_ {w : World} {v : Value} {es : List En} (h : InE w v es) : ∃ a c, v = .slice a es.length c ∧ (es.length = 0 ∨ es.length ≤ c) ∧ es.length ≤ maxLen ∧ ∀ j, j < es.length → ∃ g off, a = some ⟨g, off, none⟩ ∧ w.cell? ⟨g, off + j * 4, none⟩ = some (.int .u64 (es.getD j en0).T) ∧ w.cell? ⟨g, off + j * 4 + 1, none⟩ = some (.int .i64 (es.getD j en0).K) ∧ w.cell? ⟨g, off + j * 4 + 2, none⟩ = some (.int .u64 (es.getD j en0).g.1) ∧ w.cell? ⟨g, off + j * 4 + 3, none⟩ = some (.int .u64 (es.getD j en0).g.2) := by
  obtain ⟨a, c, h1, h2, h3, h4, h5⟩ := h
  refine ⟨a, c, h1, h2, h3, fun j hj => ?_⟩
  obtain ⟨g, off, k1, k2, -⟩ := h5 j hj
  exact ⟨g, off, k1, k2 0 (by decide), k2 1 (by decide), k2 2 (by decide), k2 3 (by decide)⟩
set_option maxRecDepth 100000 in
theorem eindex_any (v : Value) (es : List En) (w : World) (hv : InE w v es) :
    Calls Try.prog 75 #[v, .func (.func 66) #[] #[]] w fun e w' => (∃ r : Int, e = .returned (.int .i64 r) ∧ decide (0 ≤ r) = es.any wrongE) ∧ Below w.heap.size w w' := by
  obtain ⟨a, c, rfl, -, hn, hxx⟩ := hv.open_
  obtain ⟨RL, hR⟩ : ∃ RL : Nat → Bool, RL = fun k => (es.drop k).any wrongE := ⟨_, rfl⟩
  have hR0 : es.any wrongE = RL 0 := by rw [hR]; simp
  have hR1 : ∀ k, k < es.length → RL k = (wrongE (es.getD k en0) || RL (k + 1)) := fun k hk => by
    rw [hR]
    simp only
    rw [List.drop_eq_getElem_cons hk, List.any_cons, List.getD_eq_getElem?_getD, List.getElem?_eq_getElem hk]
    rfl
  have hR2 : RL es.length = false := by rw [hR]; simp
  rw [hR0]
  have hwr := fun k w1 => wrong_any (es.getD k en0) w1
  clear hR hR0
  unfold maxLen at hn
  generalize hZ : (fun j => (es.getD j en0)) = Z at *
  have g1 : ∀ j, es.getD j en0 = Z j := fun j => by subst hZ; rfl
  simp only [g1] at hxx hR1 hwr
  clear hZ g1 hv
  generalize es.length = n at *
  have HX := Lib.hid hxx
  have HR1 := Lib.hid hR1
  have HR2 := Lib.hid hR2
  have HWR := Lib.hid hwr
  have HN := Lib.hid hn
  clear hxx hR1 hR2 hwr hn
  go_enter Try.func75, Try.ntmps75
  go_wp2_with fail
  go_loopw [8] (fun i wr => ∃ (k : Nat), k ≤ n ∧ i = .int .i64 k ∧ RL k = RL 0 ∧ Below w.heap.size w wr) (fun i _ => n - (intOf i).toNat)
  case atStart => exact ⟨0, Nat.zero_le _, rfl, rfl, Below.refl _ _⟩
  case round =>
    obtain ⟨k, hk, rfl, hq, hb⟩ := hrel
    have HQ := Lib.hid hq
    have HB := Lib.hid hb
    clear hq hb
    by_cases hkn : k < n
    · obtain ⟨g, off, rfl, hc, hd, he, hf⟩ := HX.out k hkn
      have hc1 := cell_later HB.out hc
      have hc2 := cell_later HB.out hd
      have hc3 := cell_later HB.out he
      have hc4 := cell_later HB.out hf
      have i1 : (k : Int) < (n : Int) := by omega
      have hn := HN.out
      have i9 : wrap64 ((k : Int) + 1) = (k : Int) + 1 := IntWalk.wrap64_in _ (by omega)
      have I9 := Lib.hid i9
      have hw1 := HWR.out k wr
      have hr1 := HR1.out k hkn
      rw [HQ.out] at hr1
      have HW := Lib.hid hw1
      have HR := Lib.hid hr1
      have HKN := Lib.hid hkn
      clear hc hd he hf hn hw1 hr1 hkn hk i9
      generalize Z k = z at *
      obtain ⟨z1, z2, z3, z4⟩ := z
      go_wp2_with fail
      refine HW.out.mono ?_
      rintro e w2 ⟨rfl, hb2⟩
      have HB2 := Lib.hid (HB.out.trans (hb2.mono HB.out.size))
      clear hb2 hc1 hc2 hc3 hc4
      generalize wrongE ⟨z1, z2, (z3, z4)⟩ = wg at *
      cases wg with
      | true =>
        have hr := HR.out
        rw [Bool.true_or] at hr
        have HRR := Lib.hid hr
        clear hr
        go_wp2
        go_ret
        exact ⟨⟨_, rfl, by rw [HRR.out]; simp⟩, HB2.out⟩
      | false =>
        have hr := HR.out
        rw [Bool.false_or] at hr
        have HRR := Lib.hid hr
        clear hr
        go_wp2
        rw [I9.out]
        exact ⟨⟨k + 1, HKN.out, rfl, HRR.out.symm, HB2.out⟩, meas_succ HKN.out⟩
    · obtain rfl : k = n := by omega
      have hr := HR2.out
      rw [HQ.out] at hr
      have HRR := Lib.hid hr
      clear hr hkn hk
      go_wp2
      go_ret
      exact ⟨⟨_, rfl, by rw [HRR.out]; rfl⟩, HB.out⟩
theorem econtains_any (v : Value) (es : List En) (w : World) (hv : InE w v es) :
    Calls Try.prog 65 #[v, .func (.func 66) #[] #[]] w fun e w' => e = .returned (.bool (es.any wrongE)) ∧ Below w.heap.size w w' := by
  have hi := eindex_any v es w hv
  obtain ⟨a, c, rfl, -, -⟩ := hv.open_
  generalize es.any wrongE = r at *
  have HI := Lib.hid hi
  clear hi hv
  go_enter Try.func65, Try.ntmps65
  go_wp2_with fail
  refine HI.out.mono ?_
  rintro e w2 ⟨⟨q, rfl, hq⟩, hb⟩
  have HB := Lib.hid hb
  have HQ := Lib.hid hq
  clear hb hq
  go_wp2
  go_ret
  exact ⟨by rw [← HQ.out]; rfl, HB.out⟩
/-- less: -1, 0, 1 -/
def cmpT (x y : En) : Int := if x.T < y.T then -1 else if y.T < x.T then 1 else 0
theorem ecmp_any (x y : En) (w : World) : Calls Try.prog 64 #[aggE x, aggE y] w fun e w' => e = .returned (.int .i64 (cmpT x y)) ∧ Below w.heap.size w w' := by
  obtain ⟨T, K, g1, g2⟩ := x
  obtain ⟨T', K', g1', g2'⟩ := y
  obtain ⟨r, hr⟩ : ∃ r, r = cmpT ⟨T, K, (g1, g2)⟩ ⟨T', K', (g1', g2')⟩ := ⟨_, rfl⟩
  rw [← hr]
  unfold cmpT at hr
  dsimp only at hr
  show Calls Try.prog 64 #[.agg #[.int .u64 T, .int .i64 K, .int .u64 g1, .int .u64 g2], .agg #[.int .u64 T', .int .i64 K', .int .u64 g1', .int .u64 g2']] w _
  have hb0 := ((Below.refl w.heap.size w).alloc (Nat.le_refl _) (Obj.cells #[.int .u64 T, .int .i64 K, .int .u64 g1, .int .u64 g2] 50)).alloc (by simp) (Obj.cells #[.int .u64 T', .int .i64 K', .int .u64 g1', .int .u64 g2'] 50)
  have HB := Lib.hid hb0
  clear hb0
  have hc : (T < T' ∧ r = -1) ∨ (¬ T < T' ∧ T' < T ∧ r = 1) ∨ (¬ T < T' ∧ ¬ T' < T ∧ r = 0) := by
    by_cases h1 : T < T'
    · exact .inl ⟨h1, by rw [hr, if_pos h1]⟩
    · by_cases h2 : T' < T
      · exact .inr (.inl ⟨h1, h2, by rw [hr, if_neg h1, if_pos h2]⟩)
      · exact .inr (.inr ⟨h1, h2, by rw [hr, if_neg h1, if_neg h2]⟩)
  clear hr
  rcases hc with ⟨h1, rfl⟩ | ⟨h1, h2, rfl⟩ | ⟨h1, h2, rfl⟩
  all_goals
    go_enter Try.func64, Try.ntmps64
    go_wp2
    go_ret
    exact ⟨rfl, HB.out⟩
/-- terms do not fall -/
def sortedE (es : List En) : Bool := (List.range es.length).all fun k => k == 0 || !decide ((es.getD k en0).T < (es.getD (k - 1) en0).T)
theorem sortedE_iff (es : List En) : sortedE es = true ↔ ∀ k, 0 < k → k < es.length → (es.getD (k - 1) en0).T ≤ (es.getD k en0).T := by
  unfold sortedE
  rw [List.all_eq_true]
  constructor
  · intro h k h0 hk
    have := h k (List.mem_range.2 hk)
    simp only [Bool.or_eq_true, beq_iff_eq, Bool.not_eq_true', decide_eq_false_iff_not] at this
    exact Int.not_lt.1 (this.resolve_left (by omega))
  · intro h k hk
    rcases Nat.eq_zero_or_pos k with rfl | hp
    · rfl
    · rw [decide_eq_false (Int.not_lt.2 (h k hp (List.mem_range.1 hk))), Bool.not_false, Bool.or_true]
set_option maxRecDepth 100000 in
set_option maxHeartbeats 1000000 in
theorem sorted_any (v : Value) (es : List En) (w : World) (hv : InE w v es) :
    Calls Try.prog 63 #[v, .func (.func 64) #[] #[]] w fun e w' => e = .returned (.bool (sortedE es)) ∧ Below w.heap.size w w' := by
  obtain ⟨a, c, rfl, -, hn, hxx⟩ := hv.open_
  obtain ⟨r, hr⟩ : ∃ r, r = sortedE es := ⟨_, rfl⟩
  have hrt := sortedE_iff es
  rw [← hr] at hrt ⊢
  have hwr := fun j k w1 => ecmp_any (es.getD j en0) (es.getD k en0) w1
  clear hr
  unfold maxLen at hn
  generalize hZ : (fun j => (es.getD j en0)) = Z at *
  have g1 : ∀ j, es.getD j en0 = Z j := fun j => by subst hZ; rfl
  simp only [g1] at hxx hrt hwr
  clear hZ g1 hv
  generalize es.length = n at *
  have HX := Lib.hid hxx
  have HRT := Lib.hid hrt
  have HWR := Lib.hid hwr
  have HN := Lib.hid hn
  have hw0 : wrap64 ((n : Int) - 1) = (n : Int) - 1 := IntWalk.wrap64_in _ (by omega)
  clear hxx hrt hwr hn
  go_enter Try.func63, Try.ntmps63
  have HW0 := Lib.hid hw0
  clear hw0
  go_wp2_with fail
  go_loopw [5] (fun i wr => ∃ z : Int, -1 ≤ z ∧ z < (n : Int) ∧ i = .int .i64 z ∧ (∀ j : Nat, z < (j : Int) → 0 < j → j < n → (Z (j - 1)).T ≤ (Z j).T) ∧ Below w.heap.size w wr) (fun i _ => (intOf i).toNat)
  case atStart => exact ⟨(n : Int) - 1, by omega, by omega, by rw [HW0.out], (fun j h1 h2 h3 => by omega), Below.refl _ _⟩
  case round =>
    obtain ⟨z, hz1, hz2, rfl, hq, hb⟩ := hrel
    have HQ := Lib.hid hq
    have HB := Lib.hid hb
    clear hq hb
    by_cases hz : 0 < z
    · obtain ⟨m, rfl⟩ : ∃ m : Nat, z = (m : Int) := ⟨z.toNat, by omega⟩
      obtain ⟨k, hk⟩ : ∃ k, m = k + 1 := ⟨m - 1, by omega⟩
      obtain ⟨g, off, rfl, hc, hd, he, hf⟩ := HX.out m (by omega)
      obtain ⟨g', off', hgg, hc', hd', he', hf'⟩ := HX.out k (by omega)
      simp only [Option.some.injEq, Addr.mk.injEq, and_true] at hgg
      obtain ⟨rfl, rfl⟩ := hgg
      have y1 := cell_later HB.out hc
      have y2 := cell_later HB.out hd
      have y3 := cell_later HB.out he
      have y4 := cell_later HB.out hf
      have x1 := cell_later HB.out hc'
      have x2 := cell_later HB.out hd'
      have x3 := cell_later HB.out he'
      have x4 := cell_later HB.out hf'
      have HW := Lib.hid (fun w2 => HWR.out m k w2)
      have hcmp : cmpT (Z m) (Z k) < 0 ↔ (Z m).T < (Z k).T := by
        unfold cmpT
        split
        · simp_all
        · split <;> simp_all
      have HCMP := Lib.hid hcmp
      have HQ2 := Lib.hid (fun (hn : (Z k).T ≤ (Z m).T) (j : Nat) (h1 : (k : Int) < (j : Int)) (h2 : 0 < j) (h3 : j < n) => show (Z (j - 1)).T ≤ (Z j).T from by
        by_cases e : j = m
        · subst e
          rw [show j - 1 = k by omega]
          exact hn
        · exact HQ.out j (by omega) h2 h3)
      have HRF : Hid ((Z m).T < (Z k).T → r = false) := Lib.hid fun h => by
        cases r with
        | false => rfl
        | true =>
          have h9 := HRT.out.1 rfl m (by omega) (by omega)
          have e : m - 1 = k := by omega
          rw [e] at h9
          exact absurd h (Int.not_lt.2 h9)
      have i1 : (0 : Int) < (m : Int) := hz
      have i2 : (m : Int) < (n : Int) := hz2
      have i3 : (k : Int) < (n : Int) := by omega
      have w1 : wrap64 ((m : Int) - 1) = (k : Int) := by rw [hk]; unfold wrap64; have := HN.out; omega
      have w2 : IntKind.i64.wrap ((m : Int) - 1) = (k : Int) := by rw [hk, IntKind.wrap_i64]; have := HN.out; omega
      have HKM := Lib.hid hk
      clear hcmp hc hd he hf hc' hd' he' hf' hk hz hz1 hz2
      generalize hzm : Z m = zm at *
      generalize hzk : Z k = zk at *
      obtain ⟨m1, m2, m3, m4⟩ := zm
      obtain ⟨k1, k2, k3, k4⟩ := zk
      dsimp only at *
      go_wp2_with fail
      refine wp_region_chain [10] (kv [(10, .is (.int .i64 (cmpT ⟨m1, m2, (m3, m4)⟩ ⟨k1, k2, (k3, k4)⟩)))]) (fun _ w => Below (wr).heap.size (wr) w) (by kernel_rfl) (by kernel_rfl) (by kernel_rfl) (kv_inh _) (Below.drew (Below.refl _ _)) ?_
      intro ν hν
      have n10 : ν 10 = .int .i64 (cmpT ⟨m1, m2, (m3, m4)⟩ ⟨k1, k2, (k3, k4)⟩) := hν 10
      clear hν
      refine ch_plain 0 1 1 (by rfl) rfl (by kernel_rfl) (by kernel_rfl) ?_
      apply Exists.intro
      refine ⟨fun st w2 hlo hhi hJ => ?_, ?_⟩
      · clear hlo hhi hJ
        go_simp
        exact And.intro rfl rfl
      simp only [Act.put, List.setIfInBounds_toArray, List.set_cons_succ, List.set_cons_zero, Nat.reduceAdd]
      refine ch_plain 0 1 1 (by rfl) rfl (by kernel_rfl) (by kernel_rfl) ?_
      apply Exists.intro
      refine ⟨fun st w2 hlo hhi hJ => ?_, ?_⟩
      · clear hlo hhi hJ
        go_simp
        exact And.intro rfl rfl
      simp only [Act.put, List.setIfInBounds_toArray, List.set_cons_succ, List.set_cons_zero, Nat.reduceAdd]
      refine ch_plain 0 1 1 (by rfl) rfl (by kernel_rfl) (by kernel_rfl) ?_
      apply Exists.intro
      refine ⟨fun st w2 hlo hhi hJ => ?_, ?_⟩
      · clear hlo hhi hJ
        go_simp
        exact And.intro rfl rfl
      simp only [Act.put, List.setIfInBounds_toArray, List.set_cons_succ, List.set_cons_zero, Nat.reduceAdd]
      refine ch_plain 0 1 1 (by rfl) rfl (by kernel_rfl) (by kernel_rfl) ?_
      apply Exists.intro
      refine ⟨fun st w2 hlo hhi hJ => ?_, ?_⟩
      · clear hlo hhi hJ
        go_simp
        exact And.intro rfl rfl
      simp only [Act.put, List.setIfInBounds_toArray, List.set_cons_succ, List.set_cons_zero, Nat.reduceAdd]
      refine ch_plain 0 1 1 (by rfl) rfl (by kernel_rfl) (by kernel_rfl) ?_
      apply Exists.intro
      refine ⟨fun st w2 hlo hhi hJ => ?_, ?_⟩
      · replace hJ : Below (wr).heap.size (wr) w2 := hJ
        have q1 := cell_later hJ y1
        have q2 := cell_later hJ y2
        have q3 := cell_later hJ y3
        have q4 := cell_later hJ y4
        clear hlo hhi hJ
        go_simp
        exact And.intro rfl rfl
      simp only [Act.put, List.setIfInBounds_toArray, List.set_cons_succ, List.set_cons_zero, Nat.reduceAdd]
      refine ch_plain 0 1 1 (by rfl) rfl (by kernel_rfl) (by kernel_rfl) ?_
      apply Exists.intro
      refine ⟨fun st w2 hlo hhi hJ => ?_, ?_⟩
      · clear hlo hhi hJ
        go_simp
        exact And.intro rfl rfl
      simp only [Act.put, List.setIfInBounds_toArray, List.set_cons_succ, List.set_cons_zero, Nat.reduceAdd]
      refine ch_plain 0 1 1 (by rfl) rfl (by kernel_rfl) (by kernel_rfl) ?_
      apply Exists.intro
      refine ⟨fun st w2 hlo hhi hJ => ?_, ?_⟩
      · clear hlo hhi hJ
        go_simp
        exact And.intro rfl rfl
      simp only [Act.put, List.setIfInBounds_toArray, List.set_cons_succ, List.set_cons_zero, Nat.reduceAdd]
      refine ch_plain 0 1 1 (by rfl) rfl (by kernel_rfl) (by kernel_rfl) ?_
      apply Exists.intro
      refine ⟨fun st w2 hlo hhi hJ => ?_, ?_⟩
      · clear hlo hhi hJ
        go_simp
        exact And.intro rfl rfl
      simp only [Act.put, List.setIfInBounds_toArray, List.set_cons_succ, List.set_cons_zero, Nat.reduceAdd]
      refine ch_plain 0 1 1 (by rfl) rfl (by kernel_rfl) (by kernel_rfl) ?_
      apply Exists.intro
      refine ⟨fun st w2 hlo hhi hJ => ?_, ?_⟩
      · clear hlo hhi hJ
        go_simp
        exact And.intro rfl rfl
      simp only [Act.put, List.setIfInBounds_toArray, List.set_cons_succ, List.set_cons_zero, Nat.reduceAdd]
      refine ch_plain 0 1 1 (by rfl) rfl (by kernel_rfl) (by kernel_rfl) ?_
      apply Exists.intro
      refine ⟨fun st w2 hlo hhi hJ => ?_, ?_⟩
      · replace hJ : Below (wr).heap.size (wr) w2 := hJ
        have q1 := cell_later hJ x1
        have q2 := cell_later hJ x2
        have q3 := cell_later hJ x3
        have q4 := cell_later hJ x4
        clear hlo hhi hJ
        go_simp
        exact And.intro rfl rfl
      simp only [Act.put, List.setIfInBounds_toArray, List.set_cons_succ, List.set_cons_zero, Nat.reduceAdd]
      refine ch_special 0 6 (by rfl) rfl (by decide) (by kernel_rfl) (fun w2 hJ => ?_) ?_
      · replace hJ : Below (wr).heap.size (wr) w2 := hJ
        go_simp
        refine (HW.out w2).mono ?_
        rintro e w3 ⟨rfl, hb⟩
        exact ⟨_, rfl, rfl, hJ.trans (hb.mono hJ.size)⟩
      rw [n10]
      simp only [Act.put, List.setIfInBounds_toArray, List.set_cons_succ, List.set_cons_zero, Nat.reduceAdd]
      refine ch_plain 0 1 1 (by rfl) rfl (by kernel_rfl) (by kernel_rfl) ?_
      apply Exists.intro
      refine ⟨fun st w2 hlo hhi hJ => ?_, ?_⟩
      · clear hlo hhi hJ
        go_simp
        exact And.intro rfl rfl
      simp only [Act.put, Nat.reduceAdd]
      refine ch_nil (fun w5 hJ => ?_)
      replace hJ : Below (wr).heap.size (wr) w5 := hJ
      clear n10
      have HJ5 := Lib.hid hJ
      clear hJ x1 x2 x3 x4 y1 y2 y3 y4
      by_cases hl : cmpT ⟨m1, m2, (m3, m4)⟩ ⟨k1, k2, (k3, k4)⟩ < 0
      · have HF := Lib.hid (HRF.out (HCMP.out.1 hl))
        generalize cmpT ⟨m1, m2, (m3, m4)⟩ ⟨k1, k2, (k3, k4)⟩ = cv at *
        go_wp2
        go_ret
        exact ⟨by rw [HF.out]; rfl, HB.out.trans (HJ5.out.mono HB.out.size)⟩
      · have HF := Lib.hid (HQ2.out (Int.not_lt.1 fun h => hl (HCMP.out.2 h)))
        generalize cmpT ⟨m1, m2, (m3, m4)⟩ ⟨k1, k2, (k3, k4)⟩ = cv at *
        go_wp2
        refine ⟨⟨(k : Int), by omega, i3, rfl, HF.out, HB.out.trans (HJ5.out.mono HB.out.size)⟩, ?_⟩
        have := HKM.out
        simp only [intOf, Int.toNat_natCast]
        omega
    · have hall : r = true := HRT.out.2 fun j h1 h2 => HQ.out j (by omega) h1 h2
      have HALL := Lib.hid hall
      clear hall
      go_wp2
      go_ret
      exact ⟨by rw [HALL.out]; rfl, HB.out⟩
/-- log.Check's answer -/
def logC (es : List En) : Int := if 300 < es.length then 3 else if sortedE es = true ∧ es.any wrongE = false then 0 else 2
theorem logcheck_any (v : Value) (es : List En) (w : World) (hv : InE w v es) :
    Calls Try.prog 51 #[v] w fun e w' => e = .returned (.int .i64 (logC es)) ∧ Below w.heap.size w w' := by
  have h1 := sorted_any v es w hv
  have h2 := fun w1 h => econtains_any v es w1 (hv.keep (w' := w1) h)
  obtain ⟨a, c, rfl, -, -⟩ := hv.open_
  obtain ⟨r, hr⟩ : ∃ r, r = logC es := ⟨_, rfl⟩
  rw [← hr]
  unfold logC at hr
  generalize sortedE es = so at *
  generalize es.any wrongE = an at *
  generalize es.length = n at *
  have hc : (300 < n ∧ r = 3) ∨ (n ≤ 300 ∧ so = false ∧ r = 2) ∨ (n ≤ 300 ∧ so = true ∧ an = true ∧ r = 2) ∨ (n ≤ 300 ∧ so = true ∧ an = false ∧ r = 0) := by
    by_cases q : 300 < n
    · exact .inl ⟨q, by rw [hr, if_pos q]⟩
    · rw [if_neg q] at hr
      cases so <;> cases an <;> simp_all
  have H1 := Lib.hid h1
  have H2 := Lib.hid h2
  clear h1 h2 hr hv
  rcases hc with ⟨q, rfl⟩ | ⟨q, rfl, rfl⟩ | ⟨q, rfl, rfl, rfl⟩ | ⟨q, rfl, rfl, rfl⟩
  · have i1 : (300 : Int) < (n : Int) := by omega
    clear q
    go_enter Try.func51, Try.ntmps51
    go_wp2
    go_ret
    exact ⟨rfl, Below.refl _ _⟩
  · have i1 : ¬ (300 : Int) < (n : Int) := by omega
    clear q
    go_enter Try.func51, Try.ntmps51
    go_wp2_with fail
    refine H1.out.mono ?_
    rintro e w1 ⟨rfl, hb⟩
    have HB := Lib.hid hb
    clear hb
    go_wp2
    go_ret
    exact ⟨rfl, HB.out⟩
  all_goals
    have i1 : ¬ (300 : Int) < (n : Int) := by omega
    clear q
    go_enter Try.func51, Try.ntmps51
    go_wp2_with fail
    refine H1.out.mono ?_
    rintro e w1 ⟨rfl, hb⟩
    have HB := Lib.hid hb
    clear hb
    go_wp2_with fail
    refine (H2.out w1 HB.out).mono ?_
    rintro e w2 ⟨rfl, hb⟩
    have HB2 := Lib.hid (HB.out.trans (hb.mono HB.out.size))
    clear hb
    go_wp2
    go_ret
    exact ⟨rfl, HB2.out⟩
def placeB (x : Int) : Bool := decide (0 ≤ x) && decide (x ≤ 300)
theorem place_any (x : Int) (w : World) : Calls Try.prog 32 #[.int .i64 x] w fun e w' => e = .returned (.bool (placeB x)) ∧ w = w' := by
  obtain ⟨r, hr⟩ : ∃ r, r = placeB x := ⟨_, rfl⟩
  rw [← hr]
  unfold placeB at hr
  have hc : (x < 0 ∧ r = false) ∨ (0 ≤ x ∧ decide (x ≤ 300) = false ∧ r = false) ∨ (0 ≤ x ∧ x ≤ 300 ∧ r = true) := by
    by_cases h1 : 0 ≤ x
    · by_cases h2 : x ≤ 300
      · exact .inr (.inr ⟨h1, h2, by rw [hr, decide_eq_true h1, decide_eq_true h2]; rfl⟩)
      · exact .inr (.inl ⟨h1, decide_eq_false h2, by rw [hr, decide_eq_true h1, decide_eq_false h2]; rfl⟩)
    · exact .inl ⟨by omega, by rw [hr, decide_eq_false h1]; rfl⟩
  clear hr
  rcases hc with ⟨h1, rfl⟩ | ⟨h1, h2, rfl⟩ | ⟨h1, h2, rfl⟩
  all_goals
    go_enter Try.func32, Try.ntmps32
    go_wp2
    go_ret
    exact ⟨rfl, rfl⟩
end Go.Proofs.Ytikimmhkfjaijaa
