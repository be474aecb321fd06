/-
  MESSAGES: MsRA, MsRB, MsRC, in one text (merged by wip/merge.py).
-/
import Derived.Test.YtikimmhkfjaijaaGreatGE
import Derived.Test.YtikimmhkfjaijaaGreatQRfC
import Derived.Test.YtikimmhkfjaijaaGreatQRfD
import Derived.Deep.LoopGhost
import Derived.Deep.CutRange
import Derived.Deep.CutBlock
import Derived.Deep.MidRow
namespace Go.Proofs.YtikimmhkfjaijaaGreat
open Go.RowKit Reg Go.ChangeShapes

theorem rentry_any (e : En) (w : World) : Calls Tryz.prog 87 #[aggE e] w fun x w' => x = .returned (.bool (!wrongE e)) ∧ Below w.heap.size w w' := by
  obtain ⟨T, K, g1, g2⟩ := e
  obtain ⟨r, hr⟩ : ∃ r, r = !wrongE ⟨T, K, (g1, g2)⟩ := ⟨_, rfl⟩
  rw [← hr]
  unfold wrongE at hr
  dsimp only at hr
  show Calls Tryz.prog 87 #[.agg #[.int .u64 T, .int .i64 K, .int .u64 g1, .int .u64 g2]] w _
  have hb0 := (Below.refl w.heap.size w).alloc (Nat.le_refl _) (Obj.cells #[.int .u64 T, .int .i64 K, .int .u64 g1, .int .u64 g2] 53)
  have heq := fun w => run_eq_guid g1 g2 0 0 w
  have HB := Lib.hid hb0
  clear hb0
  generalize hgb : (g1 == 0 && g2 == 0) = gb at *
  clear hgb
  have hc : (T < 1 ∧ r = false) ∨ (¬ T < 1 ∧ K < 1 ∧ r = false) ∨ (¬ T < 1 ∧ ¬ K < 1 ∧ 3 < K ∧ r = false) ∨ (¬ T < 1 ∧ (K = 1 ∨ K = 2) ∧ r = gb) ∨ (¬ T < 1 ∧ K = 3 ∧ ¬ 1 ≤ g1 ∧ r = false) ∨ (¬ T < 1 ∧ K = 3 ∧ 1 ≤ g1 ∧ ¬ 1 ≤ g2 ∧ r = false) ∨ (¬ T < 1 ∧ K = 3 ∧ 1 ≤ g1 ∧ 1 ≤ g2 ∧ r = true) := by
    by_cases ht : T < 1
    · left
      refine ⟨ht, ?_⟩
      rw [hr, decide_eq_true ht]
      by_cases k1 : K = 1 ∨ K = 2
      · rw [if_pos k1, Bool.or_true]; rfl
      · rw [if_neg k1]
        by_cases k3 : K = 3
        · rw [if_pos k3, Bool.true_or]; rfl
        · rw [if_neg k3]; rfl
    · rw [decide_eq_false ht] at hr
      by_cases k1 : K = 1 ∨ K = 2
      · rw [if_pos k1, Bool.or_false, Bool.not_not] at hr
        exact .inr (.inr (.inr (.inl ⟨ht, k1, hr⟩)))
      · rw [if_neg k1] at hr
        by_cases k3 : K = 3
        · rw [if_pos k3, Bool.false_or, Bool.not_not] at hr
          by_cases q1 : 0 < g1
          · by_cases q2 : 0 < g2
            · exact .inr (.inr (.inr (.inr (.inr (.inr ⟨ht, k3, by omega, by omega, by rw [hr, decide_eq_true q1, decide_eq_true q2]; rfl⟩)))))
            · exact .inr (.inr (.inr (.inr (.inr (.inl ⟨ht, k3, by omega, by omega, by rw [hr, decide_eq_false q2, Bool.and_false]⟩)))))
          · exact .inr (.inr (.inr (.inr (.inl ⟨ht, k3, by omega, by rw [hr, decide_eq_false q1]; rfl⟩))))
        · rw [if_neg k3] at hr
          by_cases q1 : K < 1
          · exact .inr (.inl ⟨ht, q1, hr⟩)
          · exact .inr (.inr (.inl ⟨ht, q1, by omega, hr⟩))
  clear hr
  rcases hc with ⟨h1, rfl⟩ | ⟨h1, h2, rfl⟩ | ⟨h1, h2, h3, rfl⟩ | ⟨h1, h2, rfl⟩ | ⟨h1, rfl, h3, rfl⟩ | ⟨h1, rfl, h3, h4, rfl⟩ | ⟨h1, rfl, h3, h4, rfl⟩
  iterate 3
    · go_enter Tryz.func87, Tryz.ntmps87
      go_wp2
      go_ret
      exact ⟨rfl, HB.out⟩
  · rcases h2 with rfl | rfl
    all_goals
      go_enter Tryz.func87, Tryz.ntmps87
      go_wp2
      go_ret
      exact ⟨rfl, HB.out⟩
  · have k3 : decide (1 ≤ g1) = false := decide_eq_false h3
    clear h3
    go_enter Tryz.func87, Tryz.ntmps87
    go_wp2
    go_ret
    exact ⟨rfl, HB.out⟩
  · have k4 : decide (1 ≤ g2) = false := decide_eq_false h4
    clear h4
    go_enter Tryz.func87, Tryz.ntmps87
    go_wp2
    go_ret
    exact ⟨rfl, HB.out⟩
  · go_enter Tryz.func87, Tryz.ntmps87
    go_wp2
    go_ret
    exact ⟨rfl, HB.out⟩
theorem logC_parts (es : List En) (r : Int) (hr : r = logC es) : (300 < es.length → r = 3) ∧ (¬ 300 < es.length → (∀ k, k < es.length → wrongE (es.getD k en0) = true → r = 2) ∧
    (∀ k, 0 < k → k < es.length → (es.getD k en0).T < (es.getD (k - 1) en0).T → r = 2) ∧
    ((∀ k, k < es.length → wrongE (es.getD k en0) = false) → (∀ k, 0 < k → k < es.length → (es.getD (k - 1) en0).T ≤ (es.getD k en0).T) → r = 0)) := by
  unfold logC at hr
  refine ⟨fun h => by rw [hr, if_pos h], fun h => ?_⟩
  rw [if_neg h] at hr
  have hat : ∀ k (hk : k < es.length), es.getD k en0 = es[k] := fun k hk => by rw [List.getD_eq_getElem?_getD, List.getElem?_eq_getElem hk]; rfl
  refine ⟨fun k hk hw => ?_, fun k h0 hk hw => ?_, fun hw hs => ?_⟩
  · rw [hr, if_neg]
    rintro ⟨-, q⟩
    rw [List.any_eq_false] at q
    have := q es[k] (List.getElem_mem hk)
    rw [← hat k hk] at this
    exact this hw
  · rw [hr, if_neg]
    rintro ⟨q, -⟩
    have := (sortedE_iff es).1 q k h0 hk
    omega
  · rw [hr, if_pos]
    refine ⟨(sortedE_iff es).2 hs, ?_⟩
    rw [List.any_eq_false]
    intro e he
    obtain ⟨k, hk, rfl⟩ := List.getElem_of_mem he
    rw [← hat k hk, hw k hk]
    decide
set_option maxRecDepth 100000 in
set_option maxHeartbeats 1000000 in
theorem rlcheck_any (v : Value) (es : List En) (w : World) (hv : InE w v es) :
    Calls Tryz.prog 54 #[v] w fun e w' => e = .returned (.int .i64 (logC es)) ∧ Below w.heap.size w w' := by
  obtain ⟨a, c, rfl, -, hn, hxx⟩ := hv.open_
  obtain ⟨r, hr⟩ : ∃ r, r = logC es := ⟨_, rfl⟩
  obtain ⟨h3, h2⟩ := logC_parts es r hr
  rw [← hr]
  clear hr
  generalize hZ : (fun j => (es.getD j en0)) = Z at *
  have g1 : ∀ j, es.getD j en0 = Z j := fun j => by subst hZ; rfl
  simp only [g1] at hxx h2
  clear hZ g1 hv
  have hwr := fun k w1 => rentry_any (Z k) w1
  generalize es.length = n at *
  by_cases hn3 : 300 < n
  · obtain rfl := h3 hn3
    have i1 : (300 : Int) < (n : Int) := by omega
    clear h2 h3 hxx hn hwr hn3
    go_enter Tryz.func54, Tryz.ntmps54
    go_wp2
    go_ret
    exact ⟨rfl, Below.refl _ _⟩
  · have i1 : ¬ (300 : Int) < (n : Int) := by omega
    have H2 := Lib.hid (h2 hn3)
    have HX := Lib.hid hxx
    have HWR := Lib.hid hwr
    have HN := Lib.hid hn3
    clear h2 h3 hxx hn hwr hn3
    go_enter Tryz.func54, Tryz.ntmps54
    go_wp2_with fail
    clear i1
    go_loopw [3] (fun i wr => ∃ (k : Nat), k ≤ n ∧ i = .int .i64 k ∧ (∀ j, j < k → wrongE (Z j) = false) ∧ (∀ j, 0 < j → j < k → (Z (j - 1)).T ≤ (Z j).T) ∧ Below w.heap.size w wr) (fun i _ => n - (intOf i).toNat)
    case atStart => exact ⟨0, Nat.zero_le _, rfl, (fun j hj => by omega), (fun j hj => by omega), Below.refl _ _⟩
    case round =>
      obtain ⟨k, hk, rfl, hq1, hq2, hb⟩ := hrel
      have HQ1 := Lib.hid hq1
      have HQ2 := Lib.hid hq2
      have HB := Lib.hid hb
      clear hq1 hq2 hb
      by_cases hkn : k < n
      · obtain ⟨g, off, rfl, hc, hd, he, hf⟩ := HX.out k hkn
        have c1 := cell_later HB.out hc
        have c2 := cell_later HB.out hd
        have c3 := cell_later HB.out he
        have c4 := cell_later HB.out hf
        have i1 : (k : Int) < (n : Int) := by omega
        have HW := Lib.hid (HWR.out k)
        have HKN := Lib.hid hkn
        have I9 := Lib.hid (show wrap64 ((k : Int) + 1) = (k : Int) + 1 from IntWalk.wrap64_in _ (by have := HN.out; omega))
        have hdec : (wrongE (Z k) = true ∧ r = 2) ∨ (wrongE (Z k) = false ∧ k = 0) ∨ (wrongE (Z k) = false ∧ 0 < k ∧ (Z k).T < (Z (k - 1)).T ∧ r = 2) ∨ (wrongE (Z k) = false ∧ 0 < k ∧ ¬ (Z k).T < (Z (k - 1)).T) := by
          cases hw : wrongE (Z k) with
          | true => exact .inl ⟨rfl, H2.out.1 k hkn hw⟩
          | false =>
            by_cases h0 : 0 < k
            · by_cases h1 : (Z k).T < (Z (k - 1)).T
              · exact .inr (.inr (.inl ⟨rfl, h0, h1, H2.out.2.1 k h0 hkn h1⟩))
              · exact .inr (.inr (.inr ⟨rfl, h0, h1⟩))
            · exact .inr (.inl ⟨rfl, by omega⟩)
        have hprev : 0 < k → ∃ j : Nat, k = j + 1 ∧ (j : Int) < (n : Int) ∧ IntKind.i64.wrap ((k : Int) - 1) = (j : Int) ∧ wr.cell? ⟨g, off + j * 4, none⟩ = some (.int .u64 (Z (k - 1)).T) := fun h0 => by
          obtain ⟨g', off', hgg, hc', -, -, -⟩ := HX.out (k - 1) (by omega)
          simp only [Option.some.injEq, Addr.mk.injEq, and_true] at hgg
          obtain ⟨rfl, rfl⟩ := hgg
          exact ⟨k - 1, by omega, by omega, by rw [IntKind.wrap_i64]; have := HN.out; omega, cell_later HB.out hc'⟩
        have HST := Lib.hid (fun (h1 : wrongE (Z k) = false) (h2 : 0 < k → ¬ (Z k).T < (Z (k - 1)).T) => show (∀ j, j < k + 1 → wrongE (Z j) = false) ∧ (∀ j, 0 < j → j < k + 1 → (Z (j - 1)).T ≤ (Z j).T) from by
          refine ⟨fun j hj => ?_, fun j h0 hj => ?_⟩
          · by_cases e : j = k
            · rw [e]; exact h1
            · exact HQ1.out j (by omega)
          · by_cases e : j = k
            · subst e; have := h2 h0; omega
            · exact HQ2.out j h0 (by omega))
        clear hkn hk hc hd he hf
        generalize (Z (k - 1)).T = zt at *
        generalize hz : Z k = z at *
        generalize wrongE z = wg at *
        clear hz
        obtain ⟨z1, z2, z3, z4⟩ := z
        replace HW : Hid (∀ w1, Calls Tryz.prog 87 #[.agg #[.int .u64 z1, .int .i64 z2, .int .u64 z3, .int .u64 z4]] w1 fun x w' => x = .returned (.bool (!wg)) ∧ Below w1.heap.size w1 w') := HW
        dsimp only at c1 c2 c3 c4 hdec HST
        have e1 : ∀ q : Bw wr, q.w.cell? ⟨g, off + k * 4, none⟩ = some (.int .u64 z1) := fun q => q.cell c1
        have e2 : ∀ q : Bw wr, q.w.cell? ⟨g, off + k * 4 + 1, none⟩ = some (.int .i64 z2) := fun q => q.cell c2
        have e3 : ∀ q : Bw wr, q.w.cell? ⟨g, off + k * 4 + 2, none⟩ = some (.int .u64 z3) := fun q => q.cell c3
        have e4 : ∀ q : Bw wr, q.w.cell? ⟨g, off + k * 4 + 3, none⟩ = some (.int .u64 z4) := fun q => q.cell c4
        rcases hdec with ⟨rfl, rfl⟩ | ⟨rfl, h0⟩ | ⟨rfl, h0, h1, rfl⟩ | ⟨rfl, h0, h1⟩
        · clear hprev HST
          go_wp2_with fail
          clear c1 c2 c3 c4
          refine wp_region_below (by kernel_rfl) (by kernel_rfl) ?_
          repeat (go_big_quiet_step (first | (go_at_call 87; exact below_call (HW.out _))))
          refine wpQuiet_nil ?_
          intro w7 hb7
          have HB7 := Lib.hid (HB.out.trans (hb7.mono HB.out.size))
          clear hb7 e1 e2 e3 e4 HW
          go_wp2
          go_ret
          exact ⟨rfl, HB7.out⟩
        · have HST2 := Lib.hid (HST.out rfl (fun q => absurd q (by omega)))
          have d0 : decide (0 < k) = false := decide_eq_false (by omega)
          clear hprev HST h0
          go_wp2_with fail
          clear c1 c2 c3 c4
          refine wp_region_below (by kernel_rfl) (by kernel_rfl) ?_
          repeat (go_big_quiet_step (first | (go_at_call 87; exact below_call (HW.out _))))
          refine wpQuiet_nil ?_
          intro w7 hb7
          have HB7 := Lib.hid (HB.out.trans (hb7.mono HB.out.size))
          clear hb7 e1 e2 e3 e4 HW d0
          go_wp2
          rw [I9.out]
          exact ⟨⟨k + 1, HKN.out, rfl, HST2.out.1, HST2.out.2, HB7.out⟩, meas_succ HKN.out⟩
        · obtain ⟨j, hkj, i2, i3, y1⟩ := hprev h0
          have d0 : 0 < k := h0
          have e5 : ∀ q : Bw wr, q.w.cell? ⟨g, off + j * 4, none⟩ = some (.int .u64 zt) := fun q => q.cell y1
          clear hprev HST h0 hkj
          go_wp2_with fail
          clear c1 c2 c3 c4 y1
          refine wp_region_below (by kernel_rfl) (by kernel_rfl) ?_
          repeat (go_big_quiet_step (first | (go_at_call 87; exact below_call (HW.out _))))
          refine wpQuiet_nil ?_
          intro w7 hb7
          have HB7 := Lib.hid (HB.out.trans (hb7.mono HB.out.size))
          clear hb7 e1 e2 e3 e4 e5 HW d0 i2 i3
          go_wp2
          go_ret
          exact ⟨rfl, HB7.out⟩
        · obtain ⟨j, hkj, i2, i3, y1⟩ := hprev h0
          have d0 : 0 < k := h0
          have e5 : ∀ q : Bw wr, q.w.cell? ⟨g, off + j * 4, none⟩ = some (.int .u64 zt) := fun q => q.cell y1
          have HST2 := Lib.hid (HST.out rfl (fun _ => h1))
          have d1 : decide (z1 < zt) = false := decide_eq_false h1
          clear hprev HST h0 hkj h1
          go_wp2_with fail
          clear c1 c2 c3 c4 y1
          refine wp_region_below (by kernel_rfl) (by kernel_rfl) ?_
          repeat (go_big_quiet_step (first | (go_at_call 87; exact below_call (HW.out _))))
          refine wpQuiet_nil ?_
          intro w7 hb7
          have HB7 := Lib.hid (HB.out.trans (hb7.mono HB.out.size))
          clear hb7 e1 e2 e3 e4 e5 HW d0 i2 i3 d1
          go_wp2
          rw [I9.out]
          exact ⟨⟨k + 1, HKN.out, rfl, HST2.out.1, HST2.out.2, HB7.out⟩, meas_succ HKN.out⟩
      · obtain rfl : k = n := by omega
        have HR := Lib.hid (H2.out.2.2 HQ1.out HQ2.out)
        clear hkn hk
        go_wp2
        go_ret
        exact ⟨by rw [HR.out]; rfl, HB.out⟩
set_option maxRecDepth 100000 in
set_option maxHeartbeats 1000000 in
theorem rsameE_any (v v' : Value) (es fs : List En) (w : World) (hv : InE w v es) (hv' : InE w v' fs) :
    Calls Tryz.prog 34 #[v, v'] w fun e w' => e = .returned (.bool (decide (es = fs))) ∧ Below w.heap.size w w' := by
  obtain ⟨a, c, rfl, -, hn, hxx⟩ := hv.open_
  obtain ⟨a', c', rfl, -, -, hxx'⟩ := hv'.open_
  obtain ⟨r, hr⟩ : ∃ r, r = decide (es = fs) := ⟨_, rfl⟩
  have hrl : es.length ≠ fs.length → r = false := fun h => by rw [hr]; exact decide_eq_false fun e => h (by rw [e])
  have hrt : es.length = fs.length → (r = true ↔ ∀ j, j < es.length → es.getD j en0 = fs.getD j en0) := fun h => by rw [hr, decide_eq_true_iff]; exact (eqEs_iff h).symm
  rw [← hr]
  clear hr
  unfold maxLen at hn
  generalize hZ : (fun j => (es.getD j en0)) = Z at *
  have g1 : ∀ j, es.getD j en0 = Z j := fun j => by subst hZ; rfl
  generalize hZ' : (fun j => (fs.getD j en0)) = Z' at *
  have g2 : ∀ j, fs.getD j en0 = Z' j := fun j => by subst hZ'; rfl
  simp only [g1, g2] at hxx hxx' hrt
  clear hZ g1 hv hZ' g2 hv'
  generalize es.length = n at *
  generalize fs.length = n' at *
  by_cases hne : n = n'
  · subst hne
    have HRT := Lib.hid (hrt rfl)
    have HX := Lib.hid hxx
    have HX' := Lib.hid hxx'
    have HN := Lib.hid hn
    clear hrl hrt hxx hxx' hn
    go_enter Tryz.func34, Tryz.ntmps34
    go_wp2_with fail
    go_loopw [5] (fun i wr => ∃ (k : Nat), k ≤ n ∧ i = .int .i64 k ∧ (∀ j : Nat, j < k → Z j = Z' j) ∧ Below w.heap.size w wr) (fun i _ => n - (intOf i).toNat)
    case atStart => exact ⟨0, Nat.zero_le _, rfl, (fun j hj => by omega), Below.refl _ _⟩
    case round =>
      obtain ⟨k, hk, rfl, hq, hb⟩ := hrel
      have HQ := Lib.hid hq
      have HB := Lib.hid hb
      clear hq hb
      by_cases hkn : k < n
      · obtain ⟨g, off, rfl, hc, hd, he, hf⟩ := HX.out k hkn
        obtain ⟨g', off', rfl, hc', hd', he', hf'⟩ := HX'.out k hkn
        have y1 := cell_later HB.out hc
        have y2 := cell_later HB.out hd
        have y3 := cell_later HB.out he
        have y4 := cell_later HB.out hf
        have x1 := cell_later HB.out hc'
        have x2 := cell_later HB.out hd'
        have x3 := cell_later HB.out he'
        have x4 := cell_later HB.out hf'
        have i1 : (k : Int) < (n : Int) := by omega
        have i9 : wrap64 ((k : Int) + 1) = (k : Int) + 1 := IntWalk.wrap64_in _ (by have := HN.out; omega)
        have I9 := Lib.hid i9
        have HKN := Lib.hid hkn
        have hneq := fun w => run_neq_ent (Z k) (Z' k) w
        have HSTEP := Lib.hid (fun (h : eqE (Z k) (Z' k) = true) (j : Nat) (hj : j < k + 1) => show Z j = Z' j from by
          by_cases e : j = k
          · subst e; exact eqE_iff.1 h
          · exact HQ.out j (by omega))
        have HNO : Hid (eqE (Z k) (Z' k) = false → r = false) := Lib.hid fun h => by
          cases r with
          | false => rfl
          | true =>
            have h9 := HRT.out.1 rfl k hkn
            rw [eqE_iff.2 h9] at h
            cases h
        clear hc hd he hf hc' hd' he' hf' hk hkn i9
        generalize eqE (Z k) (Z' k) = eb at *
        generalize hzm : Z k = zm at *
        generalize hzk : Z' k = zk at *
        obtain ⟨m1, m2, m3, m4⟩ := zm
        obtain ⟨k1, k2, k3, k4⟩ := zk
        replace hneq : ∀ w, (binOp .neq 53 (.agg #[.int .u64 m1, .int .i64 m2, .int .u64 m3, .int .u64 m4]) (.agg #[.int .u64 k1, .int .i64 k2, .int .u64 k3, .int .u64 k4])).run Tryz.prog w = .ok (.bool (!eb)) w := hneq
        dsimp only at *
        clear hzm hzk
        go_wp2_with fail
        cases eb with
        | false =>
          have HR := Lib.hid (HNO.out rfl)
          go_quiet (fail)
          go_wp2
          go_ret
          exact ⟨by rw [HR.out]; rfl, below_drewN HB.out _⟩
        | true =>
          have HR := Lib.hid (HSTEP.out rfl)
          go_quiet (fail)
          go_wp2
          rw [I9.out]
          exact ⟨⟨k + 1, HKN.out, rfl, HR.out, below_drewN HB.out _⟩, meas_succ HKN.out⟩
      · obtain rfl : k = n := by omega
        have HR := Lib.hid (HRT.out.2 fun j hj => HQ.out j hj)
        clear hkn hk
        go_wp2
        go_ret
        exact ⟨by rw [HR.out]; rfl, HB.out⟩
  · have hr := hrl hne
    subst hr
    have i1 : ((n : Int) != (n' : Int)) = true := by simp; omega
    clear hrl hrt hxx hxx' hn
    go_enter Tryz.func34, Tryz.ntmps34
    go_wp2
    go_ret
    exact ⟨rfl, Below.refl _ _⟩
set_option maxRecDepth 100000 in
set_option maxHeartbeats 4000000 in
theorem rentries_any (w : World) (v : Value) (m : Ms) (hv : InMs w v m) (hP : 0 ≤ m.P ∧ m.P ≤ 300) : Calls Tryz.prog 27 #[v] w fun e w' => e = .returned (.bool (entB m)) ∧ Below w.heap.size w w' := by
  obtain ⟨ma, a1, a2, a3, c1, c2, c3, rfl, hone, hsz, hma, hE, -, -, -⟩ := ms_cells hv
  have hlc := fun w2 (h : Below w.heap.size w w2) => rlcheck_any (.slice a1 m.es.length c1) m.es w2 (hE.keep h)
  obtain ⟨a, c, hac, -, hlen, hxx⟩ := hE.open_
  simp only [Value.slice.injEq, true_and] at hac
  obtain ⟨rfl, rfl⟩ := hac
  have hb := (Below.refl w.heap.size w).alloc (Nat.le_refl _) (Obj.cells ma 33)
  have hbk : Blk (w.alloc (.cells ma 33)) w.heap.size 33 (msA m (.slice a1 m.es.length c1) (.slice a2 m.l.l.length c2) (.slice a3 m.p.cs.length c3)) := by rw [hma]; exact Blk.new w _ _
  obtain ⟨res, hres⟩ : ∃ r, r = entB m := ⟨_, rfl⟩
  rw [← hres]
  unfold entB at hres
  have HB := Lib.hid hb
  have HBK := Lib.hid hbk
  have HLC := Lib.hid hlc
  have HX := Lib.hid hxx
  have HONE := Lib.hid hone
  have HSZ := Lib.hid hsz
  clear hma hv hone hsz hb hbk hlc hxx hE
  generalize hz : logC m.es = z at *
  clear hz
  generalize hZ : (fun j => (m.es.getD j en0)) = Z at *
  have g1 : ∀ j, m.es.getD j en0 = Z j := fun j => by subst hZ; rfl
  simp only [g1] at HX hres
  clear hZ g1
  obtain ⟨T, hT⟩ : ∃ T, T = m.T := ⟨_, rfl⟩
  obtain ⟨P, hPp⟩ : ∃ T, T = m.P := ⟨_, rfl⟩
  obtain ⟨PT, hPT⟩ : ∃ T, T = m.PT := ⟨_, rfl⟩
  obtain ⟨n, hn⟩ : ∃ n, n = m.es.length := ⟨_, rfl⟩
  rw [← hn] at HLC HX hlen HBK
  rw [← hT, ← hPp, ← hPT, ← hn] at hres
  rw [← hPp] at hP
  have p1 : (w.alloc (.cells ma 33)).cell? ⟨w.heap.size, 1, none⟩ = some (.int .u64 T) := by rw [HBK.out.cell, hT]; rfl
  have p2 : (w.alloc (.cells ma 33)).cell? ⟨w.heap.size, 2, none⟩ = some (.int .i64 P) := by rw [HBK.out.cell, hPp]; rfl
  have p3 : (w.alloc (.cells ma 33)).cell? ⟨w.heap.size, 3, none⟩ = some (.int .u64 PT) := by rw [HBK.out.cell, hPT]; rfl
  have p4 : (w.alloc (.cells ma 33)).cell? ⟨w.heap.size, 4, none⟩ = some (.slice a1 n c1) := by rw [HBK.out.cell]; rfl
  unfold maxLen at hlen
  have HTT := Lib.hid (And.intro hT (And.intro hPT hn))
  clear hT hPp hPT hn
  by_cases hn8 : n ≤ 8
  · rw [decide_eq_true hn8, Bool.true_and] at hres
    have w1 : wrap64 (P + (n : Int)) = P + (n : Int) := IntWalk.wrap64_in _ (by omega)
    have w2 : IntKind.i64.wrap (P + (n : Int)) = P + (n : Int) := by rw [IntKind.wrap_i64]; omega
    have i8 : ¬ (8 : Int) < (n : Int) := by omega
    by_cases h3 : P + (n : Int) ≤ 300
    · rw [decide_eq_true h3, Bool.true_and] at hres
      have i3 : ¬ (300 : Int) < P + (n : Int) := by omega
      by_cases hz : z = 0
      · subst hz
        rw [show decide ((0 : Int) = 0) = true from rfl, Bool.true_and] at hres
        have HRES := Lib.hid hres
        have HN8 := Lib.hid hn8
        clear hres hP h3 hlen hn8
        go_enter Tryz.func27, Tryz.ntmps27
        go_wp2_with fail
        refine (HLC.out _ HB.out).mono ?_
        rintro e w3 ⟨rfl, hb3⟩
        have y1 := cell_later hb3 p1
        have y3 := cell_later hb3 p3
        have y4 := cell_later hb3 p4
        have HB3 := Lib.hid (HB.out.trans (hb3.mono HB.out.size))
        clear hb3 p1 p2 p3 p4 i8 i3 w1 w2
        rcases Nat.eq_zero_or_pos n with hn0 | hp
        · subst hn0
          have hr := HRES.out
          rw [show decide ((0 : Nat) = 0) = true from rfl, Bool.true_or] at hr
          have HR := Lib.hid hr
          clear hr HRES
          go_wp2_with fail
          go_quiet (fail)
          go_wp2
          go_ret
          exact ⟨by rw [HR.out]; rfl, below_drewN HB3.out _⟩
        · obtain ⟨g, off, rfl, hc0, -, -, -⟩ := HX.out 0 hp
          obtain ⟨g', off', hgg, hc1, -, -, -⟩ := HX.out (n - 1) (by omega)
          simp only [Option.some.injEq, Addr.mk.injEq, and_true] at hgg
          obtain ⟨rfl, rfl⟩ := hgg
          have x0 := cell_later HB3.out hc0
          have x1 := cell_later HB3.out hc1
          have hr := HRES.out
          rw [decide_eq_false (Nat.ne_of_gt hp), Bool.false_or] at hr
          have i0 : ((n : Int) == 0) = false := by simp; omega
          have i1 : (0 : Int) < (n : Int) := by omega
          have i2 : 0 < n := hp
          obtain ⟨k, hk⟩ : ∃ k, k = n - 1 := ⟨_, rfl⟩
          rw [← hk] at x1 hr
          have hkn : n = k + 1 := by omega
          have i4 : IntKind.i64.wrap ((n : Int) - 1) = (k : Int) := by rw [hkn, IntKind.wrap_i64]; have := HN8.out; omega
          have i5 : (k : Int) < (n : Int) := by omega
          have HKN := Lib.hid hkn
          clear hc0 hc1 hk hkn hp HRES
          rw [Nat.zero_mul, Nat.add_zero] at x0
          generalize (Z 0).T = t0 at *
          generalize (Z k).T = t1 at *
          by_cases hA : PT ≤ t0
          · have d1 : decide (PT ≤ t0) = true := decide_eq_true hA
            rw [d1, Bool.true_and] at hr
            have HR := Lib.hid hr
            clear hr
            go_wp2_with fail
            go_quiet (fail)
            go_wp2
            go_ret
            exact ⟨by rw [HR.out]; rfl, below_drewN HB3.out _⟩
          · have d1 : decide (PT ≤ t0) = false := decide_eq_false hA
            rw [d1, Bool.false_and] at hr
            have HR := Lib.hid hr
            clear hr hA
            go_wp2_with fail
            go_quiet (fail)
            go_wp2
            go_ret
            exact ⟨by rw [HR.out]; rfl, below_drewN HB3.out _⟩
      · rw [decide_eq_false hz, Bool.false_and] at hres
        have iz : (z != 0) = true := by simpa using hz
        have HRES := Lib.hid hres
        clear hres hP h3 hlen hn8 hz
        go_enter Tryz.func27, Tryz.ntmps27
        go_wp2_with fail
        refine (HLC.out _ HB.out).mono ?_
        rintro e w3 ⟨rfl, hb3⟩
        have HB3 := Lib.hid (HB.out.trans (hb3.mono HB.out.size))
        clear hb3
        go_wp2
        go_ret
        exact ⟨by rw [HRES.out]; rfl, HB3.out⟩
    · rw [decide_eq_false h3, Bool.false_and] at hres
      have i3 : (300 : Int) < P + (n : Int) := by omega
      have HRES := Lib.hid hres
      clear hres hP h3 hlen hn8
      go_enter Tryz.func27, Tryz.ntmps27
      go_wp2
      go_ret
      exact ⟨by rw [HRES.out]; rfl, HB.out⟩
  · rw [decide_eq_false hn8, Bool.false_and] at hres
    have i8 : (8 : Int) < (n : Int) := by omega
    have HRES := Lib.hid hres
    clear hres hP hlen hn8
    go_enter Tryz.func27, Tryz.ntmps27
    go_wp2
    go_ret
    exact ⟨by rw [HRES.out]; rfl, HB.out⟩
theorem rplace_any (x : Int) (w : World) : Calls Tryz.prog 26 #[.int .i64 x] w fun e w' => e = .returned (.bool (placeB x)) ∧ w = w' := by
  obtain ⟨r, hr⟩ : ∃ r, r = placeB x := ⟨_, rfl⟩
  rw [← hr]
  unfold placeB at hr
  have hc : (x < 0 ∧ r = false) ∨ (0 ≤ x ∧ decide (x ≤ 300) = false ∧ r = false) ∨ (0 ≤ x ∧ x ≤ 300 ∧ r = true) := by
    by_cases h1 : 0 ≤ x
    · by_cases h2 : x ≤ 300
      · exact .inr (.inr ⟨h1, h2, by rw [hr, decide_eq_true h1, decide_eq_true h2]; rfl⟩)
      · exact .inr (.inl ⟨h1, decide_eq_false h2, by rw [hr, decide_eq_true h1, decide_eq_false h2]; rfl⟩)
    · exact .inl ⟨by omega, by rw [hr, decide_eq_false h1]; rfl⟩
  clear hr
  rcases hc with ⟨h1, rfl⟩ | ⟨h1, h2, rfl⟩ | ⟨h1, h2, rfl⟩
  all_goals
    go_enter Tryz.func26, Tryz.ntmps26
    go_wp2
    go_ret
    exact ⟨rfl, rfl⟩
theorem above_up (t l : Gd) : aboveG t l = upG l t := by
  unfold aboveG upG
  rw [Bool.eq_iff_iff]
  simp only [Bool.or_eq_true, Bool.and_eq_true, decide_eq_true_eq]
  constructor
  · rintro (h | h)
    · exact .inl (by omega)
    · exact .inr ⟨by omega, by omega⟩
  · rintro (h | h)
    · exact .inl (by omega)
    · exact .inr ⟨by omega, by omega⟩
set_option maxRecDepth 100000 in
set_option maxHeartbeats 4000000 in
theorem rpull_any (w : World) (v : Value) (m : Ms) (hv : InMs w v m) : Calls Tryz.prog 29 #[v] w fun e w' => e = .returned (.bool (pullB m)) ∧ Below w.heap.size w w' := by
  obtain ⟨ma, a1, a2, a3, c1, c2, c3, rfl, hone, hsz, hma, -, -, -, -⟩ := ms_cells hv
  have hb := ((Below.refl w.heap.size w).alloc (Nat.le_refl _) (Obj.cells ma 33)).alloc (by simp) (Obj.cells #[.int .u64 0, .int .u64 0] 28)
  have hbk : Blk ((w.alloc (.cells ma 33)).alloc (Obj.cells #[.int .u64 0, .int .u64 0] 28)) w.heap.size 33 (msA m (.slice a1 m.es.length c1) (.slice a2 m.l.l.length c2) (.slice a3 m.p.cs.length c3)) := by rw [hma]; exact (Blk.new w _ _).alloc _
  have hbg : Blk ((w.alloc (.cells ma 33)).alloc (Obj.cells #[.int .u64 0, .int .u64 0] 28)) (w.heap.size + 1) 28 #[.int .u64 0, .int .u64 0] := Blk.newAt (w := w.alloc (.cells ma 33)) _ _ (by simp)
  obtain ⟨res, hres⟩ : ∃ r, r = pullB m := ⟨_, rfl⟩
  rw [← hres]
  unfold pullB at hres
  have HB := Lib.hid hb
  have HBK := Lib.hid hbk
  have HBG := Lib.hid hbg
  have HONE := Lib.hid hone
  have HSZ := Lib.hid hsz
  clear hma hv hone hsz hb hbk hbg
  obtain ⟨⟨l1, l2⟩, hla⟩ : ∃ T, T = m.la := ⟨_, rfl⟩
  obtain ⟨⟨t1, t2⟩, hta⟩ : ∃ T, T = m.ta := ⟨_, rfl⟩
  obtain ⟨n, hn⟩ : ∃ n, n = m.n := ⟨_, rfl⟩
  obtain ⟨N, hN⟩ : ∃ n, n = m.N := ⟨_, rfl⟩
  rw [← hla, ← hta, ← hn, ← hN] at hres
  dsimp only at hres
  have hg1 := fun w => run_eq_guid l1 l2 0 0 w
  have hg2 := fun w => run_eq_guid t1 t2 0 0 w
  obtain ⟨ab, hab⟩ : ∃ b, (l1 == 0 && l2 == 0) = b := ⟨_, rfl⟩
  obtain ⟨tb, htb⟩ : ∃ b, (t1 == 0 && t2 == 0) = b := ⟨_, rfl⟩
  rw [hab, htb] at hres
  simp only [hab] at hg1
  simp only [htb] at hg2
  clear hab htb
  go_enter Tryz.func29, Tryz.ntmps29
  go_upto_region 2 with fail
  have p13 : ((w.alloc (.cells ma 33)).alloc (Obj.cells #[.int .u64 0, .int .u64 0] 28)).cell? ⟨w.heap.size, 13, none⟩ = some (.int .i64 n) := by rw [HBK.out.cell, hn]; rfl
  have p14 : ((w.alloc (.cells ma 33)).alloc (Obj.cells #[.int .u64 0, .int .u64 0] 28)).cell? ⟨w.heap.size, 14, none⟩ = some (.int .u64 l1) := by rw [HBK.out.cell, show l1 = m.la.1 by rw [← hla]]; rfl
  have p15 : ((w.alloc (.cells ma 33)).alloc (Obj.cells #[.int .u64 0, .int .u64 0] 28)).cell? ⟨w.heap.size, 15, none⟩ = some (.int .u64 l2) := by rw [HBK.out.cell, show l2 = m.la.2 by rw [← hla]]; rfl
  have p16 : ((w.alloc (.cells ma 33)).alloc (Obj.cells #[.int .u64 0, .int .u64 0] 28)).cell? ⟨w.heap.size, 16, none⟩ = some (.int .u64 t1) := by rw [HBK.out.cell, show t1 = m.ta.1 by rw [← hta]]; rfl
  have p17 : ((w.alloc (.cells ma 33)).alloc (Obj.cells #[.int .u64 0, .int .u64 0] 28)).cell? ⟨w.heap.size, 17, none⟩ = some (.int .u64 t2) := by rw [HBK.out.cell, show t2 = m.ta.2 by rw [← hta]]; rfl
  have p18 : ((w.alloc (.cells ma 33)).alloc (Obj.cells #[.int .u64 0, .int .u64 0] 28)).cell? ⟨w.heap.size, 18, none⟩ = some (.int .i64 N) := by rw [HBK.out.cell, hN]; rfl
  have z0 := HBG.out.cell 0
  have z1 := HBG.out.cell 1
  replace z0 : ((w.alloc (.cells ma 33)).alloc (Obj.cells #[.int .u64 0, .int .u64 0] 28)).cell? ⟨w.heap.size + 1, 0, none⟩ = some (.int .u64 0) := z0
  replace z1 : ((w.alloc (.cells ma 33)).alloc (Obj.cells #[.int .u64 0, .int .u64 0] 28)).cell? ⟨w.heap.size + 1, 1, none⟩ = some (.int .u64 0) := z1
  clear hla hta hn hN HBK HBG
  generalize (w.alloc (.cells ma 33)).alloc (Obj.cells #[.int .u64 0, .int .u64 0] 28) = w2 at *
  have hup : upG (l1, l2) (t1, t2) = (decide (l1 < t1) || (decide (t1 = l1) && decide (l2 < t2))) := by
    unfold upG
    rw [show (decide (t1 = l1)) = decide (l1 = t1) from by simp only [eq_comm], ← Bool.decide_and, ← Bool.decide_or]
  by_cases h1 : 0 ≤ n
  · rw [decide_eq_true h1, Bool.true_and] at hres
    have i1 : ¬ n < 0 := by omega
    by_cases h2 : n ≤ 20
    · rw [decide_eq_true h2, Bool.true_and] at hres
      have i2 : ¬ 20 < n := by omega
      obtain ⟨nb, hnb⟩ : ∃ b, (n == 0) = b := ⟨_, rfl⟩
      rw [hnb] at hres
      clear h1 h2
      by_cases h3 : ab = nb
      · subst h3
        have hbt : (ab == ab) = true := by simp
        rw [hbt, Bool.true_and] at hres
        cases tb with
        | true =>
          rw [if_pos rfl] at hres
          have HRES := Lib.hid hres
          clear hres hup
          have hb3 : (ab != ab) = false := by simp
          go_quiet (fail)
          go_wp2
          go_ret
          exact ⟨by rw [HRES.out]; rfl, below_drewN HB.out _⟩
        | false =>
          rw [if_neg (by decide), hup] at hres
          have hb3 : (ab != ab) = false := by simp
          have HAB := Lib.hid (fun w3 => laboveR_any (t1, t2) (l1, l2) w3)
          rw [← hup, ← above_up] at hres
          generalize aboveG (t1, t2) (l1, l2) = ub at *
          clear hup
          go_quiet (fail)
          go_wp2_with fail
          refine (HAB.out _).mono ?_
          rintro e w3 ⟨rfl, hb⟩
          have y18 := cell_later hb p18
          have HB3 := Lib.hid (HB.out.trans ((below_drewN (Below.refl _ w2) nq).mono HB.out.size |>.trans (hb.mono (by have := HB.out.size; exact this))))
          clear hb p13 p14 p15 p16 p17 p18 z0 z1
          cases ub with
          | false =>
            rw [Bool.false_and] at hres
            have HRES := Lib.hid hres
            clear hres
            go_wp2
            go_ret
            exact ⟨by rw [HRES.out]; rfl, HB3.out⟩
          | true =>
            rw [Bool.true_and] at hres
            by_cases k1 : 1 ≤ N
            · rw [decide_eq_true k1, Bool.true_and] at hres
              have HRES := Lib.hid hres
              clear hres
              go_wp2
              go_ret
              exact ⟨by rw [HRES.out]; rfl, HB3.out⟩
            · rw [decide_eq_false k1, Bool.false_and] at hres
              have k2 : decide (1 ≤ N) = false := decide_eq_false k1
              have HRES := Lib.hid hres
              clear hres k1
              go_wp2
              go_ret
              exact ⟨by rw [HRES.out]; rfl, HB3.out⟩
      · have hbt : (ab == nb) = false := by simpa using h3
        have hb3 : (ab != nb) = true := by simpa using h3
        rw [hbt, Bool.false_and] at hres
        have HRES := Lib.hid hres
        clear hres hup h3
        go_quiet (fail)
        go_wp2
        go_ret
        exact ⟨by rw [HRES.out]; rfl, below_drewN HB.out _⟩
    · rw [decide_eq_false h2, Bool.false_and] at hres
      have i2 : 20 < n := by omega
      have HRES := Lib.hid hres
      clear hres hup h1 h2
      go_quiet (fail)
      go_wp2
      go_ret
      exact ⟨by rw [HRES.out]; rfl, below_drewN HB.out _⟩
  · rw [decide_eq_false h1, Bool.false_and] at hres
    have i1 : n < 0 := by omega
    have HRES := Lib.hid hres
    clear hres hup h1
    go_quiet (fail)
    go_wp2
    go_ret
    exact ⟨by rw [HRES.out]; rfl, below_drewN HB.out _⟩
end Go.Proofs.YtikimmhkfjaijaaGreat
namespace Go.Proofs.YtikimmhkfjaijaaGreat
open Go.RowKit Reg Go.ChangeShapes

def litA (K : Int) : Array Value := #[.int .i64 K, .int .u64 0, .int .i64 0, .int .u64 0, .slice none 0 0, .int .i64 0, .bool false, .int .i64 0, .int .i64 0, .int .u64 0, .int .i64 0, .bool false, .slice none 0 0, .int .i64 0, .int .u64 0, .int .u64 0, .int .u64 0, .int .u64 0, .int .i64 0, .int .u64 0, .int .u64 0, .int .u64 0, .int .u64 0, .int .i64 0, .int .i64 0, .slice none 0 0]
theorem litA_eq (K : Int) : litA K = msA (p_K zeroM K) (.slice none 0 0) (.slice none 0 0) (.slice none 0 0) := rfl
theorem litA_size (K : Int) : (Tryz.prog.info? 33).map (·.size) = some (litA K).size := by rw [litA_eq]; exact msV_size (p_K zeroM K)
theorem litA_one (K : Int) : ((litA K).all fun x => x.oneCell') = true := by rw [litA_eq]; exact msV_one (p_K zeroM K)
theorem below_cell' {B : Nat} {a w : World} (h : Below B a w) (i : Nat) (u : Value) : Below B a (w.setCell ⟨B, i, none⟩ u) := h.setCell (Nat.le_refl _) u
theorem own_wf {m : Ms} (h : wfM m) : wfM (ownM m) := by
  have h0 : wfM (p_K zeroM m.K) := zeroM_wf.K_ h.K
  unfold ownM setOwn
  split; · exact ((h0.T_ h.T).P_ h.P).PT_ h.PT
  split; · exact (h0.T_ h.T).Y_ _
  split; · exact (((((h0.T_ h.T).P_ h.P).PT_ h.PT).es_ _).C_ h.C).S_ h.S
  split; · exact (((h0.T_ h.T).Y_ _).M_ h.M).S_ h.S
  split; · exact ((((h0.l_ ⟨h.E, h.B⟩).n_ h.n).la_ h.la).ta_ h.ta).N_ h.N
  split; · exact (h0.l_ ⟨h.E, h.B⟩).p_ h.p
  exact h0.l_ ⟨h.E, h.B⟩
/-- the cells of what own answers -/
def ownA (m : Ms) (a1 a2 a3 : Option Addr) (c1 c2 c3 : Nat) : Array Value := msA (ownM m) (if m.K = 3 then .slice a1 m.es.length c1 else .slice none 0 0) (if 4 < m.K then .slice a2 m.l.l.length c2 else .slice none 0 0) (if m.K = 6 then .slice a3 m.p.cs.length c3 else .slice none 0 0)
theorem InE.nil0 (w : World) : InE w (.slice none 0 0) [] := ⟨none, 0, rfl, .inl rfl, Nat.zero_le _, (fun e he => by cases he), fun j hj => by cases hj⟩
theorem own_in {w : World} {m : Ms} {a1 a2 a3 : Option Addr} {c1 c2 c3 : Nat} (h1 : InE w (.slice a1 m.es.length c1) m.es) (h2 : InG w (.slice a2 m.l.l.length c2) m.l.l) (h3 : InC w (.slice a3 m.p.cs.length c3) m.p.cs) (h4 : wfM m) (hk : 1 ≤ m.K ∧ m.K ≤ 7) : InMs w (.agg (ownA m a1 a2 a3 c1 c2 c3)) (ownM m) := by
  refine ⟨_, _, _, rfl, ?_, ?_, ?_, own_wf h4⟩
  · by_cases q : m.K = 3
    · rw [if_pos q]
      have e : (ownM m).es = m.es := by
        unfold ownM setOwn
        rw [if_neg (by omega), if_neg (by omega), if_pos q]
        rfl
      rw [e]
      exact h1
    · rw [if_neg q]
      have e : (ownM m).es = [] := by
        unfold ownM setOwn
        split; · rfl
        split; · rfl
        split; · rfl
        split; · rfl
        split; · rfl
        rfl
      rw [e]
      exact InE.nil0 _
  · by_cases q : 4 < m.K
    · rw [if_pos q]
      have e : (ownM m).l.l = m.l.l := by
        unfold ownM setOwn
        rw [if_neg (by omega), if_neg (by omega), if_neg (by omega), if_neg (by omega)]
        split; · rfl
        split; · rfl
        rfl
      rw [e]
      exact h2
    · rw [if_neg q]
      have e : (ownM m).l.l = [] := by
        unfold ownM setOwn
        split; · rfl
        split; · rfl
        split; · rfl
        split; · rfl
        exfalso; omega
      rw [e]
      exact InG.nil_ _
  · by_cases q : m.K = 6
    · rw [if_pos q]
      have e : (ownM m).p.cs = m.p.cs := by
        unfold ownM setOwn
        rw [if_neg (by omega), if_neg (by omega), if_neg (by omega), if_neg (by omega), if_neg (by omega), if_pos q]
        rfl
      rw [e]
      exact h3
    · rw [if_neg q]
      have e : (ownM m).p.cs = [] := by
        unfold ownM setOwn
        split; · rfl
        split; · rfl
        split; · rfl
        split; · rfl
        split; · rfl
        rfl
      rw [e]
      exact InC.nil_ _ _ _
theorem st_es (m : Ms) (v : List En) (se se' sl sc : Value) : (msA m se sl sc).setIfInBounds 4 se' = msA (p_es m v) se' sl sc := rfl
theorem st_lE (m : Ms) (v : Int) (se sl sc : Value) : (msA m se sl sc).setIfInBounds 9 (.int .u64 v) = msA (p_l m ⟨v, m.l.B, m.l.L, m.l.l⟩) se sl sc := rfl
theorem st_lB (m : Ms) (v : Int) (se sl sc : Value) : (msA m se sl sc).setIfInBounds 10 (.int .i64 v) = msA (p_l m ⟨m.l.E, v, m.l.L, m.l.l⟩) se sl sc := rfl
theorem st_lL (m : Ms) (v : Bool) (se sl sc : Value) : (msA m se sl sc).setIfInBounds 11 (.bool v) = msA (p_l m ⟨m.l.E, m.l.B, v, m.l.l⟩) se sl sc := rfl
theorem st_ll (m : Ms) (v : List Gd) (se sl sl' sc : Value) : (msA m se sl sc).setIfInBounds 12 sl' = msA (p_l m ⟨m.l.E, m.l.B, m.l.L, v⟩) se sl' sc := rfl
theorem st_line (m : Ms) (l : Ln) (se sl sl' sc : Value) : ((((msA m se sl sc).setIfInBounds 9 (.int .u64 l.E)).setIfInBounds 10 (.int .i64 l.B)).setIfInBounds 11 (.bool l.L)).setIfInBounds 12 sl' = msA (p_l m l) se sl' sc := by
  rw [st_lE, st_lB, st_lL, st_ll _ l.l]
  rfl
theorem st_b1 (m : Ms) (v : Int) (se sl sc : Value) : (msA m se sl sc).setIfInBounds 19 (.int .u64 v) = msA (p_p m ⟨(v, m.p.b.2), m.p.t, m.p.f, m.p.a, m.p.cs⟩) se sl sc := rfl
theorem st_b2 (m : Ms) (v : Int) (se sl sc : Value) : (msA m se sl sc).setIfInBounds 20 (.int .u64 v) = msA (p_p m ⟨(m.p.b.1, v), m.p.t, m.p.f, m.p.a, m.p.cs⟩) se sl sc := rfl
theorem st_t1 (m : Ms) (v : Int) (se sl sc : Value) : (msA m se sl sc).setIfInBounds 21 (.int .u64 v) = msA (p_p m ⟨m.p.b, (v, m.p.t.2), m.p.f, m.p.a, m.p.cs⟩) se sl sc := rfl
theorem st_t2 (m : Ms) (v : Int) (se sl sc : Value) : (msA m se sl sc).setIfInBounds 22 (.int .u64 v) = msA (p_p m ⟨m.p.b, (m.p.t.1, v), m.p.f, m.p.a, m.p.cs⟩) se sl sc := rfl
theorem st_f (m : Ms) (v : Int) (se sl sc : Value) : (msA m se sl sc).setIfInBounds 23 (.int .i64 v) = msA (p_p m ⟨m.p.b, m.p.t, v, m.p.a, m.p.cs⟩) se sl sc := rfl
theorem st_a (m : Ms) (v : Int) (se sl sc : Value) : (msA m se sl sc).setIfInBounds 24 (.int .i64 v) = msA (p_p m ⟨m.p.b, m.p.t, m.p.f, v, m.p.cs⟩) se sl sc := rfl
theorem st_cs (m : Ms) (v : List Cg) (se sl sc sc' : Value) : (msA m se sl sc).setIfInBounds 25 sc' = msA (p_p m ⟨m.p.b, m.p.t, m.p.f, m.p.a, v⟩) se sl sc' := rfl
theorem pp2 (m : Ms) (x y : Prt) : p_p (p_p m x) y = p_p m y := rfl
theorem st_part (m : Ms) (p : Prt) (se sl sc sc' : Value) : (((((((msA m se sl sc).setIfInBounds 19 (.int .u64 p.b.1)).setIfInBounds 20 (.int .u64 p.b.2)).setIfInBounds 21 (.int .u64 p.t.1)).setIfInBounds 22 (.int .u64 p.t.2)).setIfInBounds 23 (.int .i64 p.f)).setIfInBounds 24 (.int .i64 p.a)).setIfInBounds 25 sc' = msA (p_p m p) se sl sc' := by
  obtain ⟨⟨b1, b2⟩, ⟨t1, t2⟩, f, a, cs⟩ := p
  rw [st_b1, st_b2, st_t1, st_t2, st_f, st_a, st_cs _ cs]
  simp only [pp2, p_p_p]
theorem st8_la (m : Ms) (g : Gd) (se sl sc : Value) : ((msA m se sl sc).setIfInBounds 14 (.int .u64 g.1)).setIfInBounds 15 (.int .u64 g.2) = msA (p_la m g) se sl sc := rfl
theorem st8_ta (m : Ms) (g : Gd) (se sl sc : Value) : ((msA m se sl sc).setIfInBounds 16 (.int .u64 g.1)).setIfInBounds 17 (.int .u64 g.2) = msA (p_ta m g) se sl sc := rfl
theorem st9_T (m : Ms) (v : Int) (se sl sc : Value) : (msA m se sl sc).setIfInBounds 1 (.int .u64 v) = msA (p_T m v) se sl sc := rfl
theorem st9_P (m : Ms) (v : Int) (se sl sc : Value) : (msA m se sl sc).setIfInBounds 2 (.int .i64 v) = msA (p_P m v) se sl sc := rfl
theorem st9_PT (m : Ms) (v : Int) (se sl sc : Value) : (msA m se sl sc).setIfInBounds 3 (.int .u64 v) = msA (p_PT m v) se sl sc := rfl
theorem st9_C (m : Ms) (v : Int) (se sl sc : Value) : (msA m se sl sc).setIfInBounds 5 (.int .i64 v) = msA (p_C m v) se sl sc := rfl
theorem st9_Y (m : Ms) (v : Bool) (se sl sc : Value) : (msA m se sl sc).setIfInBounds 6 (.bool v) = msA (p_Y m v) se sl sc := rfl
theorem st9_M (m : Ms) (v : Int) (se sl sc : Value) : (msA m se sl sc).setIfInBounds 7 (.int .i64 v) = msA (p_M m v) se sl sc := rfl
theorem st9_S (m : Ms) (v : Int) (se sl sc : Value) : (msA m se sl sc).setIfInBounds 8 (.int .i64 v) = msA (p_S m v) se sl sc := rfl
theorem st9_n (m : Ms) (v : Int) (se sl sc : Value) : (msA m se sl sc).setIfInBounds 13 (.int .i64 v) = msA (p_n m v) se sl sc := rfl
theorem st9_N (m : Ms) (v : Int) (se sl sc : Value) : (msA m se sl sc).setIfInBounds 18 (.int .i64 v) = msA (p_N m v) se sl sc := rfl
set_option linter.unusedVariables false
theorem own_1 {m : Ms} (hk : m.K = 1) (a1 a2 a3 : Option Addr) (c1 c2 c3 : Nat) {w4 : World} {B : Nat} (h : Blk w4 B 33 (litA m.K)) : Blk ((((w4).setCell ⟨B, 1, none⟩ (.int .u64 m.T)).setCell ⟨B, 2, none⟩ (.int .i64 m.P)).setCell ⟨B, 3, none⟩ (.int .u64 m.PT)) B 33 (msA (ownM m) (.slice none 0 0) (.slice none 0 0) (.slice none 0 0)) := by
  have e : ownM m = p_PT (p_P (p_T (p_K zeroM m.K) m.T) m.P) m.PT := by
    unfold ownM setOwn
    rw [if_pos hk]
  rw [e]
  rw [litA_eq] at h
  have hh := (((h.set 1 (.int .u64 m.T)).set 2 (.int .i64 m.P)).set 3 (.int .u64 m.PT))
  rw [st9_T, st9_P, st9_PT] at hh
  exact hh
theorem own_2 {m : Ms} (hk : m.K = 2) (a1 a2 a3 : Option Addr) (c1 c2 c3 : Nat) {w4 : World} {B : Nat} (h : Blk w4 B 33 (litA m.K)) : Blk (((w4).setCell ⟨B, 1, none⟩ (.int .u64 m.T)).setCell ⟨B, 6, none⟩ (.bool m.Y)) B 33 (msA (ownM m) (.slice none 0 0) (.slice none 0 0) (.slice none 0 0)) := by
  have e : ownM m = p_Y (p_T (p_K zeroM m.K) m.T) m.Y := by
    unfold ownM setOwn
    rw [if_neg (by omega), if_pos hk]
  rw [e]
  rw [litA_eq] at h
  have hh := ((h.set 1 (.int .u64 m.T)).set 6 (.bool m.Y))
  rw [st9_T, st9_Y] at hh
  exact hh
theorem own_3 {m : Ms} (hk : m.K = 3) (a1 a2 a3 : Option Addr) (c1 c2 c3 : Nat) {w4 : World} {B : Nat} (h : Blk w4 B 33 (litA m.K)) : Blk (((((((w4).setCell ⟨B, 1, none⟩ (.int .u64 m.T)).setCell ⟨B, 2, none⟩ (.int .i64 m.P)).setCell ⟨B, 3, none⟩ (.int .u64 m.PT)).setCell ⟨B, 4, none⟩ (.slice a1 m.es.length c1)).setCell ⟨B, 5, none⟩ (.int .i64 m.C)).setCell ⟨B, 8, none⟩ (.int .i64 m.S)) B 33 (msA (ownM m) (.slice a1 m.es.length c1) (.slice none 0 0) (.slice none 0 0)) := by
  have e : ownM m = p_S (p_C (p_es (p_PT (p_P (p_T (p_K zeroM m.K) m.T) m.P) m.PT) m.es) m.C) m.S := by
    unfold ownM setOwn
    rw [if_neg (by omega), if_neg (by omega), if_pos hk]
  rw [e]
  rw [litA_eq] at h
  have hh := ((((((h.set 1 (.int .u64 m.T)).set 2 (.int .i64 m.P)).set 3 (.int .u64 m.PT)).set 4 (.slice a1 m.es.length c1)).set 5 (.int .i64 m.C)).set 8 (.int .i64 m.S))
  rw [st9_T, st9_P, st9_PT, st_es _ m.es, st9_C, st9_S] at hh
  exact hh
theorem own_4 {m : Ms} (hk : m.K = 4) (a1 a2 a3 : Option Addr) (c1 c2 c3 : Nat) {w4 : World} {B : Nat} (h : Blk w4 B 33 (litA m.K)) : Blk (((((w4).setCell ⟨B, 1, none⟩ (.int .u64 m.T)).setCell ⟨B, 6, none⟩ (.bool m.Y)).setCell ⟨B, 7, none⟩ (.int .i64 m.M)).setCell ⟨B, 8, none⟩ (.int .i64 m.S)) B 33 (msA (ownM m) (.slice none 0 0) (.slice none 0 0) (.slice none 0 0)) := by
  have e : ownM m = p_S (p_M (p_Y (p_T (p_K zeroM m.K) m.T) m.Y) m.M) m.S := by
    unfold ownM setOwn
    rw [if_neg (by omega), if_neg (by omega), if_neg (by omega), if_pos hk]
  rw [e]
  rw [litA_eq] at h
  have hh := ((((h.set 1 (.int .u64 m.T)).set 6 (.bool m.Y)).set 7 (.int .i64 m.M)).set 8 (.int .i64 m.S))
  rw [st9_T, st9_Y, st9_M, st9_S] at hh
  exact hh
theorem own_5 {m : Ms} (hk : m.K = 5) (a1 a2 a3 : Option Addr) (c1 c2 c3 : Nat) {w4 : World} {B : Nat} (h : Blk w4 B 33 (litA m.K)) : Blk (((((((((((w4).setCell ⟨B, 9, none⟩ (.int .u64 m.l.E)).setCell ⟨B, 10, none⟩ (.int .i64 m.l.B)).setCell ⟨B, 11, none⟩ (.bool m.l.L)).setCell ⟨B, 12, none⟩ (.slice a2 m.l.l.length c2)).setCell ⟨B, 13, none⟩ (.int .i64 m.n)).setCell ⟨B, 14, none⟩ (.int .u64 m.la.1)).setCell ⟨B, 15, none⟩ (.int .u64 m.la.2)).setCell ⟨B, 16, none⟩ (.int .u64 m.ta.1)).setCell ⟨B, 17, none⟩ (.int .u64 m.ta.2)).setCell ⟨B, 18, none⟩ (.int .i64 m.N)) B 33 (msA (ownM m) (.slice none 0 0) (.slice a2 m.l.l.length c2) (.slice none 0 0)) := by
  have e : ownM m = p_N (p_ta (p_la (p_n (p_l (p_K zeroM m.K) m.l) m.n) m.la) m.ta) m.N := by
    unfold ownM setOwn
    rw [if_neg (by omega), if_neg (by omega), if_neg (by omega), if_neg (by omega), if_pos hk]
  rw [e]
  rw [litA_eq] at h
  have hh := ((((((((((h.set 9 (.int .u64 m.l.E)).set 10 (.int .i64 m.l.B)).set 11 (.bool m.l.L)).set 12 (.slice a2 m.l.l.length c2)).set 13 (.int .i64 m.n)).set 14 (.int .u64 m.la.1)).set 15 (.int .u64 m.la.2)).set 16 (.int .u64 m.ta.1)).set 17 (.int .u64 m.ta.2)).set 18 (.int .i64 m.N))
  rw [st_line, st9_n, st8_la, st8_ta, st9_N] at hh
  exact hh
theorem own_6 {m : Ms} (hk : m.K = 6) (a1 a2 a3 : Option Addr) (c1 c2 c3 : Nat) {w4 : World} {B : Nat} (h : Blk w4 B 33 (litA m.K)) : Blk ((((((((((((w4).setCell ⟨B, 9, none⟩ (.int .u64 m.l.E)).setCell ⟨B, 10, none⟩ (.int .i64 m.l.B)).setCell ⟨B, 11, none⟩ (.bool m.l.L)).setCell ⟨B, 12, none⟩ (.slice a2 m.l.l.length c2)).setCell ⟨B, 19, none⟩ (.int .u64 m.p.b.1)).setCell ⟨B, 20, none⟩ (.int .u64 m.p.b.2)).setCell ⟨B, 21, none⟩ (.int .u64 m.p.t.1)).setCell ⟨B, 22, none⟩ (.int .u64 m.p.t.2)).setCell ⟨B, 23, none⟩ (.int .i64 m.p.f)).setCell ⟨B, 24, none⟩ (.int .i64 m.p.a)).setCell ⟨B, 25, none⟩ (.slice a3 m.p.cs.length c3)) B 33 (msA (ownM m) (.slice none 0 0) (.slice a2 m.l.l.length c2) (.slice a3 m.p.cs.length c3)) := by
  have e : ownM m = p_p (p_l (p_K zeroM m.K) m.l) m.p := by
    unfold ownM setOwn
    rw [if_neg (by omega), if_neg (by omega), if_neg (by omega), if_neg (by omega), if_neg (by omega), if_pos hk]
  rw [e]
  rw [litA_eq] at h
  have hh := (((((((((((h.set 9 (.int .u64 m.l.E)).set 10 (.int .i64 m.l.B)).set 11 (.bool m.l.L)).set 12 (.slice a2 m.l.l.length c2)).set 19 (.int .u64 m.p.b.1)).set 20 (.int .u64 m.p.b.2)).set 21 (.int .u64 m.p.t.1)).set 22 (.int .u64 m.p.t.2)).set 23 (.int .i64 m.p.f)).set 24 (.int .i64 m.p.a)).set 25 (.slice a3 m.p.cs.length c3))
  rw [st_line, st_part] at hh
  exact hh
theorem own_7 {m : Ms} (hk : m.K = 7) (a1 a2 a3 : Option Addr) (c1 c2 c3 : Nat) {w4 : World} {B : Nat} (h : Blk w4 B 33 (litA m.K)) : Blk (((((w4).setCell ⟨B, 9, none⟩ (.int .u64 m.l.E)).setCell ⟨B, 10, none⟩ (.int .i64 m.l.B)).setCell ⟨B, 11, none⟩ (.bool m.l.L)).setCell ⟨B, 12, none⟩ (.slice a2 m.l.l.length c2)) B 33 (msA (ownM m) (.slice none 0 0) (.slice a2 m.l.l.length c2) (.slice none 0 0)) := by
  have e : ownM m = p_l (p_K zeroM m.K) m.l := by
    unfold ownM setOwn
    rw [if_neg (by omega), if_neg (by omega), if_neg (by omega), if_neg (by omega), if_neg (by omega), if_neg (by omega)]
  rw [e]
  rw [litA_eq] at h
  have hh := ((((h.set 9 (.int .u64 m.l.E)).set 10 (.int .i64 m.l.B)).set 11 (.bool m.l.L)).set 12 (.slice a2 m.l.l.length c2))
  rw [st_line] at hh
  exact hh
set_option maxRecDepth 100000 in
set_option maxHeartbeats 8000000 in
theorem rown_any (w : World) (m : Ms) (ma : Array Value) (a1 a2 a3 : Option Addr) (c1 c2 c3 : Nat) (hma : ma = msA m (.slice a1 m.es.length c1) (.slice a2 m.l.l.length c2) (.slice a3 m.p.cs.length c3)) (hk : 1 ≤ m.K ∧ m.K ≤ 7) : Calls Tryz.prog 25 #[.agg ma] w fun e w' => e = .returned (.agg (ownA m a1 a2 a3 c1 c2 c3)) ∧ Below w.heap.size w w' := by
  have hw1 : Below w.heap.size w ((w.alloc (.cells ma 33)).alloc (Obj.cells #[.int .i64 0, .int .u64 0, .int .i64 0, .int .u64 0, .slice none 0 0, .int .i64 0, .bool false, .int .i64 0, .int .i64 0, .int .u64 0, .int .i64 0, .bool false, .slice none 0 0, .int .i64 0, .int .u64 0, .int .u64 0, .int .u64 0, .int .u64 0, .int .i64 0, .int .u64 0, .int .u64 0, .int .u64 0, .int .u64 0, .int .i64 0, .int .i64 0, .slice none 0 0] 33)) := ((Below.refl w.heap.size w).alloc (Nat.le_refl _) _).alloc (by simp) _
  have hbk : Blk ((w.alloc (.cells ma 33)).alloc (Obj.cells #[.int .i64 0, .int .u64 0, .int .i64 0, .int .u64 0, .slice none 0 0, .int .i64 0, .bool false, .int .i64 0, .int .i64 0, .int .u64 0, .int .i64 0, .bool false, .slice none 0 0, .int .i64 0, .int .u64 0, .int .u64 0, .int .u64 0, .int .u64 0, .int .i64 0, .int .u64 0, .int .u64 0, .int .u64 0, .int .u64 0, .int .i64 0, .int .i64 0, .slice none 0 0] 33)) w.heap.size 33 (msA m (.slice a1 m.es.length c1) (.slice a2 m.l.l.length c2) (.slice a3 m.p.cs.length c3)) := by rw [hma]; exact (Blk.new w _ _).alloc _
  have hz1 : Blk ((w.alloc (.cells ma 33)).alloc (Obj.cells #[.int .i64 0, .int .u64 0, .int .i64 0, .int .u64 0, .slice none 0 0, .int .i64 0, .bool false, .int .i64 0, .int .i64 0, .int .u64 0, .int .i64 0, .bool false, .slice none 0 0, .int .i64 0, .int .u64 0, .int .u64 0, .int .u64 0, .int .u64 0, .int .i64 0, .int .u64 0, .int .u64 0, .int .u64 0, .int .u64 0, .int .i64 0, .int .i64 0, .slice none 0 0] 33)) (w.heap.size + 1) 33 zeroA := Blk.newAt (w := w.alloc (.cells ma 33)) _ _ (by simp)
  have HONE : Hid ((ma.all fun x => x.oneCell') = true) := Lib.hid (by rw [hma]; exact msA_one _ _ _ _ _ _ _ _ _ _)
  have HSZ0 : Hid ((Tryz.prog.info? 33).map (·.size) = some ma.size) := Lib.hid (by rw [hma]; exact msg_size _ _ _ _)
  have HLS := Lib.hid (litA_size m.K)
  have HLO := Lib.hid (litA_one m.K)
  have HK := Lib.hid hk
  have HBK := Lib.hid hbk
  have HZ1 := Lib.hid hz1
  have HW1 := Lib.hid hw1
  clear hbk hz1 hk hma hw1
  go_enter Tryz.func25, Tryz.ntmps25
  go_upto_region 1 with fail
  generalize (w.alloc (Obj.cells ma 33)).alloc (Obj.cells #[.int .i64 0, .int .u64 0, .int .i64 0, .int .u64 0, .slice none 0 0, .int .i64 0, .bool false, .int .i64 0, .int .i64 0, .int .u64 0, .int .i64 0, .bool false, .slice none 0 0, .int .i64 0, .int .u64 0, .int .u64 0, .int .u64 0, .int .u64 0, .int .i64 0, .int .u64 0, .int .u64 0, .int .u64 0, .int .u64 0, .int .i64 0, .int .i64 0, .slice none 0 0] 33) = w1 at *
  have p0 : w1.cell? ⟨w.heap.size, 0, none⟩ = some (.int .i64 m.K) := by rw [HBK.out.cell]; rfl
  have HZ2 := Lib.hid (Blk.new w1 33 #[.int .i64 0, .int .u64 0, .int .i64 0, .int .u64 0, .slice none 0 0, .int .i64 0, .bool false, .int .i64 0, .int .i64 0, .int .u64 0, .int .i64 0, .bool false, .slice none 0 0, .int .i64 0, .int .u64 0, .int .u64 0, .int .u64 0, .int .u64 0, .int .i64 0, .int .u64 0, .int .u64 0, .int .u64 0, .int .u64 0, .int .i64 0, .int .i64 0, .slice none 0 0])
  have HLT := Lib.hid (show w.heap.size + 1 < w1.heap.size from HZ1.out.lt)
  have HFIN : Hid (∀ w4, w4 = (w1.alloc (Obj.cells #[.int .i64 0, .int .u64 0, .int .i64 0, .int .u64 0, .slice none 0 0, .int .i64 0, .bool false, .int .i64 0, .int .i64 0, .int .u64 0, .int .i64 0, .bool false, .slice none 0 0, .int .i64 0, .int .u64 0, .int .u64 0, .int .u64 0, .int .u64 0, .int .i64 0, .int .u64 0, .int .u64 0, .int .u64 0, .int .u64 0, .int .i64 0, .int .i64 0, .slice none 0 0] 33)).setRow w1.heap.size (litA m.K) → Blk w4 w1.heap.size 33 (litA m.K) ∧ Blk w4 (w.heap.size + 1) 33 zeroA ∧
      Blk w4 w.heap.size 33 (msA m (.slice a1 m.es.length c1) (.slice a2 m.l.l.length c2) (.slice a3 m.p.cs.length c3)) ∧ Below w.heap.size w w4) := Lib.hid fun w4 h => by
    have := HLT.out
    rw [h]
    exact ⟨HZ2.out.row _, (HZ1.out.alloc _).farRow (by omega) _, (HBK.out.alloc _).farRow (by omega) _, Below.setRow (HW1.out.alloc (by omega) _) (by omega) _⟩
  go_wp2_with (first | refine wpList_store_then rfl 33 _ _ rfl w1.heap.size (litA m.K) rfl rfl 33 _ HZ2.out HLS.out rfl HLO.out ?_)
  refine Later.mk fun w4 hw4 => ?_
  obtain ⟨hb1, hb2, hb3, hb4⟩ := HFIN.out w4 hw4
  have H1 := Lib.hid hb1
  have H2 := Lib.hid hb2
  have H3 := Lib.hid hb3
  have H4 := Lib.hid hb4
  clear hw4 hb1 hb2 hb3 hb4 p0 HFIN HZ2 HBK HZ1 HW1
  generalize w1.heap.size = B at *
  have p0 : w4.cell? ⟨w.heap.size, 0, none⟩ = some (.int .i64 m.K) := by rw [H3.out.cell]; rfl
  have p1 : w4.cell? ⟨w.heap.size, 1, none⟩ = some (.int .u64 m.T) := by rw [H3.out.cell]; rfl
  have p2 : w4.cell? ⟨w.heap.size, 2, none⟩ = some (.int .i64 m.P) := by rw [H3.out.cell]; rfl
  have p3 : w4.cell? ⟨w.heap.size, 3, none⟩ = some (.int .u64 m.PT) := by rw [H3.out.cell]; rfl
  have p4 : w4.cell? ⟨w.heap.size, 4, none⟩ = some (.slice a1 m.es.length c1) := by rw [H3.out.cell]; rfl
  have p5 : w4.cell? ⟨w.heap.size, 5, none⟩ = some (.int .i64 m.C) := by rw [H3.out.cell]; rfl
  have p6 : w4.cell? ⟨w.heap.size, 6, none⟩ = some (.bool m.Y) := by rw [H3.out.cell]; rfl
  have p7 : w4.cell? ⟨w.heap.size, 7, none⟩ = some (.int .i64 m.M) := by rw [H3.out.cell]; rfl
  have p8 : w4.cell? ⟨w.heap.size, 8, none⟩ = some (.int .i64 m.S) := by rw [H3.out.cell]; rfl
  have p9 : w4.cell? ⟨w.heap.size, 9, none⟩ = some (.int .u64 m.l.E) := by rw [H3.out.cell]; rfl
  have p10 : w4.cell? ⟨w.heap.size, 10, none⟩ = some (.int .i64 m.l.B) := by rw [H3.out.cell]; rfl
  have p11 : w4.cell? ⟨w.heap.size, 11, none⟩ = some (.bool m.l.L) := by rw [H3.out.cell]; rfl
  have p12 : w4.cell? ⟨w.heap.size, 12, none⟩ = some (.slice a2 m.l.l.length c2) := by rw [H3.out.cell]; rfl
  have p13 : w4.cell? ⟨w.heap.size, 13, none⟩ = some (.int .i64 m.n) := by rw [H3.out.cell]; rfl
  have p14 : w4.cell? ⟨w.heap.size, 14, none⟩ = some (.int .u64 m.la.1) := by rw [H3.out.cell]; rfl
  have p15 : w4.cell? ⟨w.heap.size, 15, none⟩ = some (.int .u64 m.la.2) := by rw [H3.out.cell]; rfl
  have p16 : w4.cell? ⟨w.heap.size, 16, none⟩ = some (.int .u64 m.ta.1) := by rw [H3.out.cell]; rfl
  have p17 : w4.cell? ⟨w.heap.size, 17, none⟩ = some (.int .u64 m.ta.2) := by rw [H3.out.cell]; rfl
  have p18 : w4.cell? ⟨w.heap.size, 18, none⟩ = some (.int .i64 m.N) := by rw [H3.out.cell]; rfl
  have p19 : w4.cell? ⟨w.heap.size, 19, none⟩ = some (.int .u64 m.p.b.1) := by rw [H3.out.cell]; rfl
  have p20 : w4.cell? ⟨w.heap.size, 20, none⟩ = some (.int .u64 m.p.b.2) := by rw [H3.out.cell]; rfl
  have p21 : w4.cell? ⟨w.heap.size, 21, none⟩ = some (.int .u64 m.p.t.1) := by rw [H3.out.cell]; rfl
  have p22 : w4.cell? ⟨w.heap.size, 22, none⟩ = some (.int .u64 m.p.t.2) := by rw [H3.out.cell]; rfl
  have p23 : w4.cell? ⟨w.heap.size, 23, none⟩ = some (.int .i64 m.p.f) := by rw [H3.out.cell]; rfl
  have p24 : w4.cell? ⟨w.heap.size, 24, none⟩ = some (.int .i64 m.p.a) := by rw [H3.out.cell]; rfl
  have p25 : w4.cell? ⟨w.heap.size, 25, none⟩ = some (.slice a3 m.p.cs.length c3) := by rw [H3.out.cell]; rfl
  have f1 : w4.frozen? ⟨B, 1, none⟩ = false := H1.out.frozen 1
  have f2 : w4.frozen? ⟨B, 2, none⟩ = false := H1.out.frozen 2
  have f3 : w4.frozen? ⟨B, 3, none⟩ = false := H1.out.frozen 3
  have f4 : w4.frozen? ⟨B, 4, none⟩ = false := H1.out.frozen 4
  have f5 : w4.frozen? ⟨B, 5, none⟩ = false := H1.out.frozen 5
  have f6 : w4.frozen? ⟨B, 6, none⟩ = false := H1.out.frozen 6
  have f7 : w4.frozen? ⟨B, 7, none⟩ = false := H1.out.frozen 7
  have f8 : w4.frozen? ⟨B, 8, none⟩ = false := H1.out.frozen 8
  have f9 : w4.frozen? ⟨B, 9, none⟩ = false := H1.out.frozen 9
  have f10 : w4.frozen? ⟨B, 10, none⟩ = false := H1.out.frozen 10
  have f11 : w4.frozen? ⟨B, 11, none⟩ = false := H1.out.frozen 11
  have f12 : w4.frozen? ⟨B, 12, none⟩ = false := H1.out.frozen 12
  have f13 : w4.frozen? ⟨B, 13, none⟩ = false := H1.out.frozen 13
  have f14 : w4.frozen? ⟨B, 14, none⟩ = false := H1.out.frozen 14
  have f15 : w4.frozen? ⟨B, 15, none⟩ = false := H1.out.frozen 15
  have f16 : w4.frozen? ⟨B, 16, none⟩ = false := H1.out.frozen 16
  have f17 : w4.frozen? ⟨B, 17, none⟩ = false := H1.out.frozen 17
  have f18 : w4.frozen? ⟨B, 18, none⟩ = false := H1.out.frozen 18
  have f19 : w4.frozen? ⟨B, 19, none⟩ = false := H1.out.frozen 19
  have f20 : w4.frozen? ⟨B, 20, none⟩ = false := H1.out.frozen 20
  have f21 : w4.frozen? ⟨B, 21, none⟩ = false := H1.out.frozen 21
  have f22 : w4.frozen? ⟨B, 22, none⟩ = false := H1.out.frozen 22
  have f23 : w4.frozen? ⟨B, 23, none⟩ = false := H1.out.frozen 23
  have f24 : w4.frozen? ⟨B, 24, none⟩ = false := H1.out.frozen 24
  have f25 : w4.frozen? ⟨B, 25, none⟩ = false := H1.out.frozen 25
  have z1 : w4.cell? ⟨B, 1, none⟩ = some (.int .u64 0) := by rw [H1.out.cell]; rfl
  have z2 : w4.cell? ⟨B, 2, none⟩ = some (.int .i64 0) := by rw [H1.out.cell]; rfl
  have z3 : w4.cell? ⟨B, 3, none⟩ = some (.int .u64 0) := by rw [H1.out.cell]; rfl
  have z4 : w4.cell? ⟨B, 4, none⟩ = some (.slice none 0 0) := by rw [H1.out.cell]; rfl
  have z5 : w4.cell? ⟨B, 5, none⟩ = some (.int .i64 0) := by rw [H1.out.cell]; rfl
  have z6 : w4.cell? ⟨B, 6, none⟩ = some (.bool false) := by rw [H1.out.cell]; rfl
  have z7 : w4.cell? ⟨B, 7, none⟩ = some (.int .i64 0) := by rw [H1.out.cell]; rfl
  have z8 : w4.cell? ⟨B, 8, none⟩ = some (.int .i64 0) := by rw [H1.out.cell]; rfl
  have z9 : w4.cell? ⟨B, 9, none⟩ = some (.int .u64 0) := by rw [H1.out.cell]; rfl
  have z10 : w4.cell? ⟨B, 10, none⟩ = some (.int .i64 0) := by rw [H1.out.cell]; rfl
  have z11 : w4.cell? ⟨B, 11, none⟩ = some (.bool false) := by rw [H1.out.cell]; rfl
  have z12 : w4.cell? ⟨B, 12, none⟩ = some (.slice none 0 0) := by rw [H1.out.cell]; rfl
  have z13 : w4.cell? ⟨B, 13, none⟩ = some (.int .i64 0) := by rw [H1.out.cell]; rfl
  have z14 : w4.cell? ⟨B, 14, none⟩ = some (.int .u64 0) := by rw [H1.out.cell]; rfl
  have z15 : w4.cell? ⟨B, 15, none⟩ = some (.int .u64 0) := by rw [H1.out.cell]; rfl
  have z16 : w4.cell? ⟨B, 16, none⟩ = some (.int .u64 0) := by rw [H1.out.cell]; rfl
  have z17 : w4.cell? ⟨B, 17, none⟩ = some (.int .u64 0) := by rw [H1.out.cell]; rfl
  have z18 : w4.cell? ⟨B, 18, none⟩ = some (.int .i64 0) := by rw [H1.out.cell]; rfl
  have z19 : w4.cell? ⟨B, 19, none⟩ = some (.int .u64 0) := by rw [H1.out.cell]; rfl
  have z20 : w4.cell? ⟨B, 20, none⟩ = some (.int .u64 0) := by rw [H1.out.cell]; rfl
  have z21 : w4.cell? ⟨B, 21, none⟩ = some (.int .u64 0) := by rw [H1.out.cell]; rfl
  have z22 : w4.cell? ⟨B, 22, none⟩ = some (.int .u64 0) := by rw [H1.out.cell]; rfl
  have z23 : w4.cell? ⟨B, 23, none⟩ = some (.int .i64 0) := by rw [H1.out.cell]; rfl
  have z24 : w4.cell? ⟨B, 24, none⟩ = some (.int .i64 0) := by rw [H1.out.cell]; rfl
  have z25 : w4.cell? ⟨B, 25, none⟩ = some (.slice none 0 0) := by rw [H1.out.cell]; rfl
  have hkk := HK.out
  rcases (show m.K = 1 ∨ m.K = 2 ∨ m.K = 3 ∨ m.K = 4 ∨ m.K = 5 ∨ m.K = 6 ∨ m.K = 7 by omega) with k | k | k | k | k | k | k
  · have HO := Lib.hid (own_1 k a1 a2 a3 c1 c2 c3 H1.out)
    have HKK := Lib.hid k
    rw [k] at p0
    clear hkk k p4 p5 p6 p7 p8 p9 p10 p11 p12 p13 p14 p15 p16 p17 p18 p19 p20 p21 p22 p23 p24 p25 f4 z4 f5 z5 f6 z6 f7 z7 f8 z8 f9 z9 f10 z10 f11 z11 f12 z12 f13 z13 f14 z14 f15 z15 f16 z16 f17 z17 f18 z18 f19 z19 f20 z20 f21 z21 f22 z22 f23 z23 f24 z24 f25 z25
    go_upto_region 32 with fail
    have hbl : Below (B) w4 ((((w4).setCell ⟨B, 1, none⟩ (.int .u64 m.T)).setCell ⟨B, 2, none⟩ (.int .i64 m.P)).setCell ⟨B, 3, none⟩ (.int .u64 m.PT)) := below_cell' (below_cell' (below_cell' (Below.refl _ _) _ _) _ _) _ _
    have hbo := HO.out
    generalize (((w4).setCell ⟨B, 1, none⟩ (.int .u64 m.T)).setCell ⟨B, 2, none⟩ (.int .i64 m.P)).setCell ⟨B, 3, none⟩ (.int .u64 m.PT) = w5 at *
    have HBO := Lib.hid hbo
    have HZZ := Lib.hid (H2.out.below hbl HLT.out)
    have HB5 := Lib.hid (H4.out.trans (hbl.mono (by have := HLT.out; omega)))
    clear hbl hbo HO p0 p1 p2 p3 f1 z1 f2 z2 f3 z3
    have HUA : Hid (msA (ownM m) (.slice none 0 0) (.slice none 0 0) (.slice none 0 0) = ownA m a1 a2 a3 c1 c2 c3) := Lib.hid (by
      have hk := HKK.out
      unfold ownA
      rw [if_neg (by omega), if_neg (by omega), if_neg (by omega)])
    have HSZ := Lib.hid (msg_size (ownM m) (.slice none 0 0) (.slice none 0 0) (.slice none 0 0))
    have HON := Lib.hid (msA_one (ownM m) none none none 0 0 0 0 0 0)
    generalize msA (ownM m) (.slice none 0 0) (.slice none 0 0) (.slice none 0 0) = ua at *
    have HUZ : Hid (zeroA.size = ua.size) := Lib.hid (by have h1 := HSZ.out; have h2 := zeroA_size; rw [h2] at h1; exact Option.some.inj h1)
    go_wp2_with (first | refine wpList_wanted_run (by rfl) (.agg ua) (exec_load_blk 33 _ rfl (B) rfl _ HBO.out Tryz.underlying33 rfl HSZ.out) ?_ | refine wpList_store_then rfl 33 _ _ rfl (w.heap.size + 1) ua rfl rfl 33 _ HZZ.out HSZ.out HUZ.out HON.out ?_)
    refine Later.mk fun w6 hw6 => ?_
    have hbr : Blk w6 (w.heap.size + 1) 33 ua := by rw [hw6]; exact HZZ.out.row _
    have hal : Below w.heap.size w5 w6 := by rw [hw6]; exact Below.setRow (Below.refl _ _) (by omega) _
    have HBR := Lib.hid hbr
    have HB6 := Lib.hid (HB5.out.trans hal)
    clear hbr hal hw6
    go_wp2
    refine bodyPost_ret (results_cell1 (ty := 33) (g := w.heap.size + 1) (k := 2) rfl rfl HBR.out Tryz.underlying33 rfl HSZ.out) rfl ?_
    exact ⟨by rw [← HUA.out], HB6.out⟩
  · have HO := Lib.hid (own_2 k a1 a2 a3 c1 c2 c3 H1.out)
    have HKK := Lib.hid k
    rw [k] at p0
    clear hkk k p2 p3 p4 p5 p7 p8 p9 p10 p11 p12 p13 p14 p15 p16 p17 p18 p19 p20 p21 p22 p23 p24 p25 f2 z2 f3 z3 f4 z4 f5 z5 f7 z7 f8 z8 f9 z9 f10 z10 f11 z11 f12 z12 f13 z13 f14 z14 f15 z15 f16 z16 f17 z17 f18 z18 f19 z19 f20 z20 f21 z21 f22 z22 f23 z23 f24 z24 f25 z25
    go_upto_region 32 with fail
    have hbl : Below (B) w4 (((w4).setCell ⟨B, 1, none⟩ (.int .u64 m.T)).setCell ⟨B, 6, none⟩ (.bool m.Y)) := below_cell' (below_cell' (Below.refl _ _) _ _) _ _
    have hbo := HO.out
    generalize ((w4).setCell ⟨B, 1, none⟩ (.int .u64 m.T)).setCell ⟨B, 6, none⟩ (.bool m.Y) = w5 at *
    have HBO := Lib.hid hbo
    have HZZ := Lib.hid (H2.out.below hbl HLT.out)
    have HB5 := Lib.hid (H4.out.trans (hbl.mono (by have := HLT.out; omega)))
    clear hbl hbo HO p0 p1 p6 f1 z1 f6 z6
    have HUA : Hid (msA (ownM m) (.slice none 0 0) (.slice none 0 0) (.slice none 0 0) = ownA m a1 a2 a3 c1 c2 c3) := Lib.hid (by
      have hk := HKK.out
      unfold ownA
      rw [if_neg (by omega), if_neg (by omega), if_neg (by omega)])
    have HSZ := Lib.hid (msg_size (ownM m) (.slice none 0 0) (.slice none 0 0) (.slice none 0 0))
    have HON := Lib.hid (msA_one (ownM m) none none none 0 0 0 0 0 0)
    generalize msA (ownM m) (.slice none 0 0) (.slice none 0 0) (.slice none 0 0) = ua at *
    have HUZ : Hid (zeroA.size = ua.size) := Lib.hid (by have h1 := HSZ.out; have h2 := zeroA_size; rw [h2] at h1; exact Option.some.inj h1)
    go_wp2_with (first | refine wpList_wanted_run (by rfl) (.agg ua) (exec_load_blk 33 _ rfl (B) rfl _ HBO.out Tryz.underlying33 rfl HSZ.out) ?_ | refine wpList_store_then rfl 33 _ _ rfl (w.heap.size + 1) ua rfl rfl 33 _ HZZ.out HSZ.out HUZ.out HON.out ?_)
    refine Later.mk fun w6 hw6 => ?_
    have hbr : Blk w6 (w.heap.size + 1) 33 ua := by rw [hw6]; exact HZZ.out.row _
    have hal : Below w.heap.size w5 w6 := by rw [hw6]; exact Below.setRow (Below.refl _ _) (by omega) _
    have HBR := Lib.hid hbr
    have HB6 := Lib.hid (HB5.out.trans hal)
    clear hbr hal hw6
    go_wp2
    refine bodyPost_ret (results_cell1 (ty := 33) (g := w.heap.size + 1) (k := 2) rfl rfl HBR.out Tryz.underlying33 rfl HSZ.out) rfl ?_
    exact ⟨by rw [← HUA.out], HB6.out⟩
  · have HO := Lib.hid (own_3 k a1 a2 a3 c1 c2 c3 H1.out)
    have HKK := Lib.hid k
    rw [k] at p0
    clear hkk k p6 p7 p9 p10 p11 p12 p13 p14 p15 p16 p17 p18 p19 p20 p21 p22 p23 p24 p25 f6 z6 f7 z7 f9 z9 f10 z10 f11 z11 f12 z12 f13 z13 f14 z14 f15 z15 f16 z16 f17 z17 f18 z18 f19 z19 f20 z20 f21 z21 f22 z22 f23 z23 f24 z24 f25 z25
    go_upto_region 32 with fail
    have hbl : Below (B) w4 (((((((w4).setCell ⟨B, 1, none⟩ (.int .u64 m.T)).setCell ⟨B, 2, none⟩ (.int .i64 m.P)).setCell ⟨B, 3, none⟩ (.int .u64 m.PT)).setCell ⟨B, 4, none⟩ (.slice a1 m.es.length c1)).setCell ⟨B, 5, none⟩ (.int .i64 m.C)).setCell ⟨B, 8, none⟩ (.int .i64 m.S)) := below_cell' (below_cell' (below_cell' (below_cell' (below_cell' (below_cell' (Below.refl _ _) _ _) _ _) _ _) _ _) _ _) _ _
    have hbo := HO.out
    generalize ((((((w4).setCell ⟨B, 1, none⟩ (.int .u64 m.T)).setCell ⟨B, 2, none⟩ (.int .i64 m.P)).setCell ⟨B, 3, none⟩ (.int .u64 m.PT)).setCell ⟨B, 4, none⟩ (.slice a1 m.es.length c1)).setCell ⟨B, 5, none⟩ (.int .i64 m.C)).setCell ⟨B, 8, none⟩ (.int .i64 m.S) = w5 at *
    have HBO := Lib.hid hbo
    have HZZ := Lib.hid (H2.out.below hbl HLT.out)
    have HB5 := Lib.hid (H4.out.trans (hbl.mono (by have := HLT.out; omega)))
    clear hbl hbo HO p0 p1 p2 p3 p4 p5 p8 f1 z1 f2 z2 f3 z3 f4 z4 f5 z5 f8 z8
    have HUA : Hid (msA (ownM m) (.slice a1 m.es.length c1) (.slice none 0 0) (.slice none 0 0) = ownA m a1 a2 a3 c1 c2 c3) := Lib.hid (by
      have hk := HKK.out
      unfold ownA
      rw [if_pos (by omega), if_neg (by omega), if_neg (by omega)])
    have HSZ := Lib.hid (msg_size (ownM m) (.slice a1 m.es.length c1) (.slice none 0 0) (.slice none 0 0))
    have HON := Lib.hid (msA_one (ownM m) a1 none none m.es.length 0 0 c1 0 0)
    generalize msA (ownM m) (.slice a1 m.es.length c1) (.slice none 0 0) (.slice none 0 0) = ua at *
    have HUZ : Hid (zeroA.size = ua.size) := Lib.hid (by have h1 := HSZ.out; have h2 := zeroA_size; rw [h2] at h1; exact Option.some.inj h1)
    go_wp2_with (first | refine wpList_wanted_run (by rfl) (.agg ua) (exec_load_blk 33 _ rfl (B) rfl _ HBO.out Tryz.underlying33 rfl HSZ.out) ?_ | refine wpList_store_then rfl 33 _ _ rfl (w.heap.size + 1) ua rfl rfl 33 _ HZZ.out HSZ.out HUZ.out HON.out ?_)
    refine Later.mk fun w6 hw6 => ?_
    have hbr : Blk w6 (w.heap.size + 1) 33 ua := by rw [hw6]; exact HZZ.out.row _
    have hal : Below w.heap.size w5 w6 := by rw [hw6]; exact Below.setRow (Below.refl _ _) (by omega) _
    have HBR := Lib.hid hbr
    have HB6 := Lib.hid (HB5.out.trans hal)
    clear hbr hal hw6
    go_wp2
    refine bodyPost_ret (results_cell1 (ty := 33) (g := w.heap.size + 1) (k := 2) rfl rfl HBR.out Tryz.underlying33 rfl HSZ.out) rfl ?_
    exact ⟨by rw [← HUA.out], HB6.out⟩
  · have HO := Lib.hid (own_4 k a1 a2 a3 c1 c2 c3 H1.out)
    have HKK := Lib.hid k
    rw [k] at p0
    clear hkk k p2 p3 p4 p5 p9 p10 p11 p12 p13 p14 p15 p16 p17 p18 p19 p20 p21 p22 p23 p24 p25 f2 z2 f3 z3 f4 z4 f5 z5 f9 z9 f10 z10 f11 z11 f12 z12 f13 z13 f14 z14 f15 z15 f16 z16 f17 z17 f18 z18 f19 z19 f20 z20 f21 z21 f22 z22 f23 z23 f24 z24 f25 z25
    go_upto_region 32 with fail
    have hbl : Below (B) w4 (((((w4).setCell ⟨B, 1, none⟩ (.int .u64 m.T)).setCell ⟨B, 6, none⟩ (.bool m.Y)).setCell ⟨B, 7, none⟩ (.int .i64 m.M)).setCell ⟨B, 8, none⟩ (.int .i64 m.S)) := below_cell' (below_cell' (below_cell' (below_cell' (Below.refl _ _) _ _) _ _) _ _) _ _
    have hbo := HO.out
    generalize ((((w4).setCell ⟨B, 1, none⟩ (.int .u64 m.T)).setCell ⟨B, 6, none⟩ (.bool m.Y)).setCell ⟨B, 7, none⟩ (.int .i64 m.M)).setCell ⟨B, 8, none⟩ (.int .i64 m.S) = w5 at *
    have HBO := Lib.hid hbo
    have HZZ := Lib.hid (H2.out.below hbl HLT.out)
    have HB5 := Lib.hid (H4.out.trans (hbl.mono (by have := HLT.out; omega)))
    clear hbl hbo HO p0 p1 p6 p7 p8 f1 z1 f6 z6 f7 z7 f8 z8
    have HUA : Hid (msA (ownM m) (.slice none 0 0) (.slice none 0 0) (.slice none 0 0) = ownA m a1 a2 a3 c1 c2 c3) := Lib.hid (by
      have hk := HKK.out
      unfold ownA
      rw [if_neg (by omega), if_neg (by omega), if_neg (by omega)])
    have HSZ := Lib.hid (msg_size (ownM m) (.slice none 0 0) (.slice none 0 0) (.slice none 0 0))
    have HON := Lib.hid (msA_one (ownM m) none none none 0 0 0 0 0 0)
    generalize msA (ownM m) (.slice none 0 0) (.slice none 0 0) (.slice none 0 0) = ua at *
    have HUZ : Hid (zeroA.size = ua.size) := Lib.hid (by have h1 := HSZ.out; have h2 := zeroA_size; rw [h2] at h1; exact Option.some.inj h1)
    go_wp2_with (first | refine wpList_wanted_run (by rfl) (.agg ua) (exec_load_blk 33 _ rfl (B) rfl _ HBO.out Tryz.underlying33 rfl HSZ.out) ?_ | refine wpList_store_then rfl 33 _ _ rfl (w.heap.size + 1) ua rfl rfl 33 _ HZZ.out HSZ.out HUZ.out HON.out ?_)
    refine Later.mk fun w6 hw6 => ?_
    have hbr : Blk w6 (w.heap.size + 1) 33 ua := by rw [hw6]; exact HZZ.out.row _
    have hal : Below w.heap.size w5 w6 := by rw [hw6]; exact Below.setRow (Below.refl _ _) (by omega) _
    have HBR := Lib.hid hbr
    have HB6 := Lib.hid (HB5.out.trans hal)
    clear hbr hal hw6
    go_wp2
    refine bodyPost_ret (results_cell1 (ty := 33) (g := w.heap.size + 1) (k := 2) rfl rfl HBR.out Tryz.underlying33 rfl HSZ.out) rfl ?_
    exact ⟨by rw [← HUA.out], HB6.out⟩
  · have HO := Lib.hid (own_5 k a1 a2 a3 c1 c2 c3 H1.out)
    have HKK := Lib.hid k
    rw [k] at p0
    clear hkk k p1 p2 p3 p4 p5 p6 p7 p8 p19 p20 p21 p22 p23 p24 p25 f1 z1 f2 z2 f3 z3 f4 z4 f5 z5 f6 z6 f7 z7 f8 z8 f19 z19 f20 z20 f21 z21 f22 z22 f23 z23 f24 z24 f25 z25
    go_upto_region 32 with fail
    have hbl : Below (B) w4 (((((((((((w4).setCell ⟨B, 9, none⟩ (.int .u64 m.l.E)).setCell ⟨B, 10, none⟩ (.int .i64 m.l.B)).setCell ⟨B, 11, none⟩ (.bool m.l.L)).setCell ⟨B, 12, none⟩ (.slice a2 m.l.l.length c2)).setCell ⟨B, 13, none⟩ (.int .i64 m.n)).setCell ⟨B, 14, none⟩ (.int .u64 m.la.1)).setCell ⟨B, 15, none⟩ (.int .u64 m.la.2)).setCell ⟨B, 16, none⟩ (.int .u64 m.ta.1)).setCell ⟨B, 17, none⟩ (.int .u64 m.ta.2)).setCell ⟨B, 18, none⟩ (.int .i64 m.N)) := below_cell' (below_cell' (below_cell' (below_cell' (below_cell' (below_cell' (below_cell' (below_cell' (below_cell' (below_cell' (Below.refl _ _) _ _) _ _) _ _) _ _) _ _) _ _) _ _) _ _) _ _) _ _
    have hbo := HO.out
    generalize ((((((((((w4).setCell ⟨B, 9, none⟩ (.int .u64 m.l.E)).setCell ⟨B, 10, none⟩ (.int .i64 m.l.B)).setCell ⟨B, 11, none⟩ (.bool m.l.L)).setCell ⟨B, 12, none⟩ (.slice a2 m.l.l.length c2)).setCell ⟨B, 13, none⟩ (.int .i64 m.n)).setCell ⟨B, 14, none⟩ (.int .u64 m.la.1)).setCell ⟨B, 15, none⟩ (.int .u64 m.la.2)).setCell ⟨B, 16, none⟩ (.int .u64 m.ta.1)).setCell ⟨B, 17, none⟩ (.int .u64 m.ta.2)).setCell ⟨B, 18, none⟩ (.int .i64 m.N) = w5 at *
    have HBO := Lib.hid hbo
    have HZZ := Lib.hid (H2.out.below hbl HLT.out)
    have HB5 := Lib.hid (H4.out.trans (hbl.mono (by have := HLT.out; omega)))
    clear hbl hbo HO p0 p9 p10 p11 p12 p13 p14 p15 p16 p17 p18 f9 z9 f10 z10 f11 z11 f12 z12 f13 z13 f14 z14 f15 z15 f16 z16 f17 z17 f18 z18
    have HUA : Hid (msA (ownM m) (.slice none 0 0) (.slice a2 m.l.l.length c2) (.slice none 0 0) = ownA m a1 a2 a3 c1 c2 c3) := Lib.hid (by
      have hk := HKK.out
      unfold ownA
      rw [if_neg (by omega), if_pos (by omega), if_neg (by omega)])
    have HSZ := Lib.hid (msg_size (ownM m) (.slice none 0 0) (.slice a2 m.l.l.length c2) (.slice none 0 0))
    have HON := Lib.hid (msA_one (ownM m) none a2 none 0 m.l.l.length 0 0 c2 0)
    generalize msA (ownM m) (.slice none 0 0) (.slice a2 m.l.l.length c2) (.slice none 0 0) = ua at *
    have HUZ : Hid (zeroA.size = ua.size) := Lib.hid (by have h1 := HSZ.out; have h2 := zeroA_size; rw [h2] at h1; exact Option.some.inj h1)
    go_wp2_with (first | refine wpList_wanted_run (by rfl) (.agg ua) (exec_load_blk 33 _ rfl (B) rfl _ HBO.out Tryz.underlying33 rfl HSZ.out) ?_ | refine wpList_store_then rfl 33 _ _ rfl (w.heap.size + 1) ua rfl rfl 33 _ HZZ.out HSZ.out HUZ.out HON.out ?_)
    refine Later.mk fun w6 hw6 => ?_
    have hbr : Blk w6 (w.heap.size + 1) 33 ua := by rw [hw6]; exact HZZ.out.row _
    have hal : Below w.heap.size w5 w6 := by rw [hw6]; exact Below.setRow (Below.refl _ _) (by omega) _
    have HBR := Lib.hid hbr
    have HB6 := Lib.hid (HB5.out.trans hal)
    clear hbr hal hw6
    go_wp2
    refine bodyPost_ret (results_cell1 (ty := 33) (g := w.heap.size + 1) (k := 2) rfl rfl HBR.out Tryz.underlying33 rfl HSZ.out) rfl ?_
    exact ⟨by rw [← HUA.out], HB6.out⟩
  · have HO := Lib.hid (own_6 k a1 a2 a3 c1 c2 c3 H1.out)
    have HKK := Lib.hid k
    rw [k] at p0
    clear hkk k p1 p2 p3 p4 p5 p6 p7 p8 p13 p14 p15 p16 p17 p18 f1 z1 f2 z2 f3 z3 f4 z4 f5 z5 f6 z6 f7 z7 f8 z8 f13 z13 f14 z14 f15 z15 f16 z16 f17 z17 f18 z18
    go_upto_region 32 with fail
    have hbl : Below (B) w4 ((((((((((((w4).setCell ⟨B, 9, none⟩ (.int .u64 m.l.E)).setCell ⟨B, 10, none⟩ (.int .i64 m.l.B)).setCell ⟨B, 11, none⟩ (.bool m.l.L)).setCell ⟨B, 12, none⟩ (.slice a2 m.l.l.length c2)).setCell ⟨B, 19, none⟩ (.int .u64 m.p.b.1)).setCell ⟨B, 20, none⟩ (.int .u64 m.p.b.2)).setCell ⟨B, 21, none⟩ (.int .u64 m.p.t.1)).setCell ⟨B, 22, none⟩ (.int .u64 m.p.t.2)).setCell ⟨B, 23, none⟩ (.int .i64 m.p.f)).setCell ⟨B, 24, none⟩ (.int .i64 m.p.a)).setCell ⟨B, 25, none⟩ (.slice a3 m.p.cs.length c3)) := below_cell' (below_cell' (below_cell' (below_cell' (below_cell' (below_cell' (below_cell' (below_cell' (below_cell' (below_cell' (below_cell' (Below.refl _ _) _ _) _ _) _ _) _ _) _ _) _ _) _ _) _ _) _ _) _ _) _ _
    have hbo := HO.out
    generalize (((((((((((w4).setCell ⟨B, 9, none⟩ (.int .u64 m.l.E)).setCell ⟨B, 10, none⟩ (.int .i64 m.l.B)).setCell ⟨B, 11, none⟩ (.bool m.l.L)).setCell ⟨B, 12, none⟩ (.slice a2 m.l.l.length c2)).setCell ⟨B, 19, none⟩ (.int .u64 m.p.b.1)).setCell ⟨B, 20, none⟩ (.int .u64 m.p.b.2)).setCell ⟨B, 21, none⟩ (.int .u64 m.p.t.1)).setCell ⟨B, 22, none⟩ (.int .u64 m.p.t.2)).setCell ⟨B, 23, none⟩ (.int .i64 m.p.f)).setCell ⟨B, 24, none⟩ (.int .i64 m.p.a)).setCell ⟨B, 25, none⟩ (.slice a3 m.p.cs.length c3) = w5 at *
    have HBO := Lib.hid hbo
    have HZZ := Lib.hid (H2.out.below hbl HLT.out)
    have HB5 := Lib.hid (H4.out.trans (hbl.mono (by have := HLT.out; omega)))
    clear hbl hbo HO p0 p9 p10 p11 p12 p19 p20 p21 p22 p23 p24 p25 f9 z9 f10 z10 f11 z11 f12 z12 f19 z19 f20 z20 f21 z21 f22 z22 f23 z23 f24 z24 f25 z25
    have HUA : Hid (msA (ownM m) (.slice none 0 0) (.slice a2 m.l.l.length c2) (.slice a3 m.p.cs.length c3) = ownA m a1 a2 a3 c1 c2 c3) := Lib.hid (by
      have hk := HKK.out
      unfold ownA
      rw [if_neg (by omega), if_pos (by omega), if_pos (by omega)])
    have HSZ := Lib.hid (msg_size (ownM m) (.slice none 0 0) (.slice a2 m.l.l.length c2) (.slice a3 m.p.cs.length c3))
    have HON := Lib.hid (msA_one (ownM m) none a2 a3 0 m.l.l.length m.p.cs.length 0 c2 c3)
    generalize msA (ownM m) (.slice none 0 0) (.slice a2 m.l.l.length c2) (.slice a3 m.p.cs.length c3) = ua at *
    have HUZ : Hid (zeroA.size = ua.size) := Lib.hid (by have h1 := HSZ.out; have h2 := zeroA_size; rw [h2] at h1; exact Option.some.inj h1)
    go_wp2_with (first | refine wpList_wanted_run (by rfl) (.agg ua) (exec_load_blk 33 _ rfl (B) rfl _ HBO.out Tryz.underlying33 rfl HSZ.out) ?_ | refine wpList_store_then rfl 33 _ _ rfl (w.heap.size + 1) ua rfl rfl 33 _ HZZ.out HSZ.out HUZ.out HON.out ?_)
    refine Later.mk fun w6 hw6 => ?_
    have hbr : Blk w6 (w.heap.size + 1) 33 ua := by rw [hw6]; exact HZZ.out.row _
    have hal : Below w.heap.size w5 w6 := by rw [hw6]; exact Below.setRow (Below.refl _ _) (by omega) _
    have HBR := Lib.hid hbr
    have HB6 := Lib.hid (HB5.out.trans hal)
    clear hbr hal hw6
    go_wp2
    refine bodyPost_ret (results_cell1 (ty := 33) (g := w.heap.size + 1) (k := 2) rfl rfl HBR.out Tryz.underlying33 rfl HSZ.out) rfl ?_
    exact ⟨by rw [← HUA.out], HB6.out⟩
  · have HO := Lib.hid (own_7 k a1 a2 a3 c1 c2 c3 H1.out)
    have HKK := Lib.hid k
    rw [k] at p0
    clear hkk k p1 p2 p3 p4 p5 p6 p7 p8 p13 p14 p15 p16 p17 p18 p19 p20 p21 p22 p23 p24 p25 f1 z1 f2 z2 f3 z3 f4 z4 f5 z5 f6 z6 f7 z7 f8 z8 f13 z13 f14 z14 f15 z15 f16 z16 f17 z17 f18 z18 f19 z19 f20 z20 f21 z21 f22 z22 f23 z23 f24 z24 f25 z25
    go_upto_region 32 with fail
    have hbl : Below (B) w4 (((((w4).setCell ⟨B, 9, none⟩ (.int .u64 m.l.E)).setCell ⟨B, 10, none⟩ (.int .i64 m.l.B)).setCell ⟨B, 11, none⟩ (.bool m.l.L)).setCell ⟨B, 12, none⟩ (.slice a2 m.l.l.length c2)) := below_cell' (below_cell' (below_cell' (below_cell' (Below.refl _ _) _ _) _ _) _ _) _ _
    have hbo := HO.out
    generalize ((((w4).setCell ⟨B, 9, none⟩ (.int .u64 m.l.E)).setCell ⟨B, 10, none⟩ (.int .i64 m.l.B)).setCell ⟨B, 11, none⟩ (.bool m.l.L)).setCell ⟨B, 12, none⟩ (.slice a2 m.l.l.length c2) = w5 at *
    have HBO := Lib.hid hbo
    have HZZ := Lib.hid (H2.out.below hbl HLT.out)
    have HB5 := Lib.hid (H4.out.trans (hbl.mono (by have := HLT.out; omega)))
    clear hbl hbo HO p0 p9 p10 p11 p12 f9 z9 f10 z10 f11 z11 f12 z12
    have HUA : Hid (msA (ownM m) (.slice none 0 0) (.slice a2 m.l.l.length c2) (.slice none 0 0) = ownA m a1 a2 a3 c1 c2 c3) := Lib.hid (by
      have hk := HKK.out
      unfold ownA
      rw [if_neg (by omega), if_pos (by omega), if_neg (by omega)])
    have HSZ := Lib.hid (msg_size (ownM m) (.slice none 0 0) (.slice a2 m.l.l.length c2) (.slice none 0 0))
    have HON := Lib.hid (msA_one (ownM m) none a2 none 0 m.l.l.length 0 0 c2 0)
    generalize msA (ownM m) (.slice none 0 0) (.slice a2 m.l.l.length c2) (.slice none 0 0) = ua at *
    have HUZ : Hid (zeroA.size = ua.size) := Lib.hid (by have h1 := HSZ.out; have h2 := zeroA_size; rw [h2] at h1; exact Option.some.inj h1)
    go_wp2_with (first | refine wpList_wanted_run (by rfl) (.agg ua) (exec_load_blk 33 _ rfl (B) rfl _ HBO.out Tryz.underlying33 rfl HSZ.out) ?_ | refine wpList_store_then rfl 33 _ _ rfl (w.heap.size + 1) ua rfl rfl 33 _ HZZ.out HSZ.out HUZ.out HON.out ?_)
    refine Later.mk fun w6 hw6 => ?_
    have hbr : Blk w6 (w.heap.size + 1) 33 ua := by rw [hw6]; exact HZZ.out.row _
    have hal : Below w.heap.size w5 w6 := by rw [hw6]; exact Below.setRow (Below.refl _ _) (by omega) _
    have HBR := Lib.hid hbr
    have HB6 := Lib.hid (HB5.out.trans hal)
    clear hbr hal hw6
    go_wp2
    refine bodyPost_ret (results_cell1 (ty := 33) (g := w.heap.size + 1) (k := 2) rfl rfl HBR.out Tryz.underlying33 rfl HSZ.out) rfl ?_
    exact ⟨by rw [← HUA.out], HB6.out⟩
set_option maxRecDepth 100000 in
set_option maxHeartbeats 8000000 in
theorem rsame_any (w : World) (u v : Value) (x y : Ms) (hu : InMs w u x) (hv : InMs w v y) : Calls Tryz.prog 10 #[u, v] w fun e w' => e = .returned (.bool (sameM x y)) ∧ Below w.heap.size w w' := by
  obtain ⟨se, sl, sc, rfl, hx1, hx2, hx3, hx4⟩ := hu
  obtain ⟨se', sl', sc', rfl, hy1, hy2, hy3, hy4⟩ := hv
  obtain ⟨a1, c1, e1⟩ := hx1.slice_
  obtain ⟨a2, c2, e2⟩ := hx2.slice_
  obtain ⟨a3, c3, e3⟩ := hx3.slice_
  obtain ⟨a4, c4, e4⟩ := hy1.slice_
  obtain ⟨a5, c5, e5⟩ := hy2.slice_
  obtain ⟨a6, c6, e6⟩ := hy3.slice_
  have hmx : ((msA x se sl sc).all fun x => x.oneCell') = true := by rw [e1, e2, e3]; exact msA_one _ _ _ _ _ _ _ _ _ _
  have hmy : ((msA y se' sl' sc').all fun x => x.oneCell') = true := by rw [e4, e5, e6]; exact msA_one _ _ _ _ _ _ _ _ _ _
  obtain ⟨ma, hma⟩ : ∃ ma, msA x se sl sc = ma := ⟨_, rfl⟩
  obtain ⟨mb, hmb⟩ : ∃ mb, msA y se' sl' sc' = mb := ⟨_, rfl⟩
  have hsx := msg_size x se sl sc
  have hsy := msg_size y se' sl' sc'
  rw [hma] at hmx hsx ⊢
  rw [hmb] at hmy hsy ⊢
  have HE := Lib.hid (fun w2 (h : Below w.heap.size w w2) => rsameE_any se se' x.es y.es w2 (hx1.keep h) (hy1.keep h))
  have HL := Lib.hid (fun w2 (h : Below w.heap.size w w2) => sameS_any (.agg #[.int .u64 x.l.E, .int .i64 x.l.B, .bool x.l.L, sl]) (.agg #[.int .u64 y.l.E, .int .i64 y.l.B, .bool y.l.L, sl']) x.l y.l w2 ⟨sl, rfl, hx2.keep h, hx4.E, hx4.B⟩ ⟨sl', rfl, hy2.keep h, hy4.E, hy4.B⟩)
  have HP := Lib.hid (fun w2 (h : Below w.heap.size w w2) => sameR_any w2 (prV x.p sc) (prV y.p sc') x.p y.p ⟨sc, rfl, hx3.keep h, hx4.p⟩ ⟨sc', rfl, hy3.keep h, hy4.p⟩)
  unfold prV at HP
  obtain ⟨res, hres⟩ : ∃ r, r = sameM x y := ⟨_, rfl⟩
  rw [← hres]
  unfold sameM at hres
  obtain ⟨X1, hX1⟩ : ∃ r, r = sm1 x y := ⟨_, rfl⟩
  obtain ⟨X2, hX2⟩ : ∃ r, r = sm2 x y := ⟨_, rfl⟩
  rw [← hX1, ← hX2] at hres
  generalize decide (x.es = y.es) = X3 at *
  generalize sameL x.l y.l = X4 at *
  generalize sameP x.p y.p = X5 at *
  unfold sm1 at hX1
  unfold sm2 at hX2
  have HX1 := Lib.hid hX1
  have HX2 := Lib.hid hX2
  have HRES := Lib.hid hres
  have hbb : Below w.heap.size w ((w.alloc (.cells ma 33)).alloc (.cells mb 33)) := ((Below.refl w.heap.size w).alloc (Nat.le_refl _) _).alloc (by simp) _
  have hbx : Blk ((w.alloc (.cells ma 33)).alloc (.cells mb 33)) w.heap.size 33 (msA x se sl sc) := by rw [hma]; exact (Blk.new w _ _).alloc _
  have hby : Blk ((w.alloc (.cells ma 33)).alloc (.cells mb 33)) (w.heap.size + 1) 33 (msA y se' sl' sc') := by rw [hmb]; exact Blk.newAt (w := w.alloc (.cells ma 33)) _ _ (by simp)
  have HSX := Lib.hid hsx
  have HSY := Lib.hid hsy
  have HMX := Lib.hid hmx
  have HMY := Lib.hid hmy
  have HBx := Lib.hid hbx
  have HBy := Lib.hid hby
  have HB := Lib.hid hbb
  rw [e1, e2, e3] at HBx
  rw [e4, e5, e6] at HBy
  rw [e1, e4] at HE
  rw [e2, e5] at HL
  rw [e3, e6] at HP
  clear hx1 hx2 hx3 hx4 hy1 hy2 hy3 hy4 hma hmb hsx hsy hmx hmy hX1 hX2 hres hbb hbx hby e1 e2 e3 e4 e5 e6
  go_enter Tryz.func10, Tryz.ntmps10
  go_upto_region 1 with fail
  generalize (w.alloc (Obj.cells ma 33)).alloc (Obj.cells mb 33) = w2 at *
  have hx := HX1.out
  have hy := HX2.out
  clear HX1 HX2
  obtain ⟨e0, fe0⟩ : ∃ e, (x.K == y.K) = e := ⟨_, rfl⟩
  have ge0 : (x.K != y.K) = !e0 := by rw [← fe0]; rfl
  obtain ⟨e1, fe1⟩ : ∃ e, (x.T == y.T) = e := ⟨_, rfl⟩
  have ge1 : (x.T != y.T) = !e1 := by rw [← fe1]; rfl
  obtain ⟨e2, fe2⟩ : ∃ e, (x.P == y.P) = e := ⟨_, rfl⟩
  have ge2 : (x.P != y.P) = !e2 := by rw [← fe2]; rfl
  obtain ⟨e3, fe3⟩ : ∃ e, (x.PT == y.PT) = e := ⟨_, rfl⟩
  have ge3 : (x.PT != y.PT) = !e3 := by rw [← fe3]; rfl
  obtain ⟨e4, fe4⟩ : ∃ e, (x.C == y.C) = e := ⟨_, rfl⟩
  have ge4 : (x.C != y.C) = !e4 := by rw [← fe4]; rfl
  obtain ⟨e5, fe5⟩ : ∃ e, (x.Y == y.Y) = e := ⟨_, rfl⟩
  have ge5 : (x.Y != y.Y) = !e5 := by rw [← fe5]; rfl
  obtain ⟨e6, fe6⟩ : ∃ e, (x.M == y.M) = e := ⟨_, rfl⟩
  have ge6 : (x.M != y.M) = !e6 := by rw [← fe6]; rfl
  obtain ⟨e7, fe7⟩ : ∃ e, (x.S == y.S) = e := ⟨_, rfl⟩
  have ge7 : (x.S != y.S) = !e7 := by rw [← fe7]; rfl
  rw [fe0, fe1, fe2, fe3, fe4, fe5, fe6, fe7] at hx
  clear fe0 fe1 fe2 fe3 fe4 fe5 fe6 fe7
  obtain ⟨n1, fn1⟩ : ∃ e, (x.n == y.n) = e := ⟨_, rfl⟩
  obtain ⟨n2, fn2⟩ : ∃ e, (x.la.1 == y.la.1 && x.la.2 == y.la.2) = e := ⟨_, rfl⟩
  obtain ⟨n3, fn3⟩ : ∃ e, (x.ta.1 == y.ta.1 && x.ta.2 == y.ta.2) = e := ⟨_, rfl⟩
  obtain ⟨n4, fn4⟩ : ∃ e, (x.N == y.N) = e := ⟨_, rfl⟩
  have gl := fun w => run_eq_guid x.la.1 x.la.2 y.la.1 y.la.2 w
  have gt := fun w => run_eq_guid x.ta.1 x.ta.2 y.ta.1 y.ta.2 w
  simp only [fn2] at gl
  simp only [fn3] at gt
  rw [fn1, fn2, fn3, fn4] at hy
  clear fn2 fn3
  have FN1 := Lib.hid fn1
  have FN4 := Lib.hid fn4
  have GL := Lib.hid gl
  have GT := Lib.hid gt
  clear fn1 fn4 gl gt
  have p0 : w2.cell? ⟨w.heap.size, 0, none⟩ = some (.int .i64 x.K) := by rw [HBx.out.cell]; rfl
  have q0 : w2.cell? ⟨w.heap.size + 1, 0, none⟩ = some (.int .i64 y.K) := by rw [HBy.out.cell]; rfl
  have p1 : w2.cell? ⟨w.heap.size, 1, none⟩ = some (.int .u64 x.T) := by rw [HBx.out.cell]; rfl
  have q1 : w2.cell? ⟨w.heap.size + 1, 1, none⟩ = some (.int .u64 y.T) := by rw [HBy.out.cell]; rfl
  have p2 : w2.cell? ⟨w.heap.size, 2, none⟩ = some (.int .i64 x.P) := by rw [HBx.out.cell]; rfl
  have q2 : w2.cell? ⟨w.heap.size + 1, 2, none⟩ = some (.int .i64 y.P) := by rw [HBy.out.cell]; rfl
  have p3 : w2.cell? ⟨w.heap.size, 3, none⟩ = some (.int .u64 x.PT) := by rw [HBx.out.cell]; rfl
  have q3 : w2.cell? ⟨w.heap.size + 1, 3, none⟩ = some (.int .u64 y.PT) := by rw [HBy.out.cell]; rfl
  have p5 : w2.cell? ⟨w.heap.size, 5, none⟩ = some (.int .i64 x.C) := by rw [HBx.out.cell]; rfl
  have q5 : w2.cell? ⟨w.heap.size + 1, 5, none⟩ = some (.int .i64 y.C) := by rw [HBy.out.cell]; rfl
  have p6 : w2.cell? ⟨w.heap.size, 6, none⟩ = some (.bool x.Y) := by rw [HBx.out.cell]; rfl
  have q6 : w2.cell? ⟨w.heap.size + 1, 6, none⟩ = some (.bool y.Y) := by rw [HBy.out.cell]; rfl
  have p7 : w2.cell? ⟨w.heap.size, 7, none⟩ = some (.int .i64 x.M) := by rw [HBx.out.cell]; rfl
  have q7 : w2.cell? ⟨w.heap.size + 1, 7, none⟩ = some (.int .i64 y.M) := by rw [HBy.out.cell]; rfl
  have p8 : w2.cell? ⟨w.heap.size, 8, none⟩ = some (.int .i64 x.S) := by rw [HBx.out.cell]; rfl
  have q8 : w2.cell? ⟨w.heap.size + 1, 8, none⟩ = some (.int .i64 y.S) := by rw [HBy.out.cell]; rfl
  cases e0 with
  | false =>
    replace ge0 : (x.K != y.K) = true := ge0
    have HRR : Hid (res = false) := Lib.hid (by rw [HRES.out, hx]; simp)
    clear hx hy
    go_wp2
    go_ret
    exact ⟨by rw [HRR.out]; rfl, HB.out⟩
  | true =>
    replace ge0 : (x.K != y.K) = false := ge0
    cases e1 with
    | false =>
      replace ge1 : (x.T != y.T) = true := ge1
      have HRR : Hid (res = false) := Lib.hid (by rw [HRES.out, hx]; simp)
      clear hx hy
      go_wp2
      go_ret
      exact ⟨by rw [HRR.out]; rfl, HB.out⟩
    | true =>
      replace ge1 : (x.T != y.T) = false := ge1
      cases e2 with
      | false =>
        replace ge2 : (x.P != y.P) = true := ge2
        have HRR : Hid (res = false) := Lib.hid (by rw [HRES.out, hx]; simp)
        clear hx hy
        go_wp2
        go_ret
        exact ⟨by rw [HRR.out]; rfl, HB.out⟩
      | true =>
        replace ge2 : (x.P != y.P) = false := ge2
        cases e3 with
        | false =>
          replace ge3 : (x.PT != y.PT) = true := ge3
          have HRR : Hid (res = false) := Lib.hid (by rw [HRES.out, hx]; simp)
          clear hx hy
          go_wp2
          go_ret
          exact ⟨by rw [HRR.out]; rfl, HB.out⟩
        | true =>
          replace ge3 : (x.PT != y.PT) = false := ge3
          cases e4 with
          | false =>
            replace ge4 : (x.C != y.C) = true := ge4
            have HRR : Hid (res = false) := Lib.hid (by rw [HRES.out, hx]; simp)
            clear hx hy
            go_wp2
            go_ret
            exact ⟨by rw [HRR.out]; rfl, HB.out⟩
          | true =>
            replace ge4 : (x.C != y.C) = false := ge4
            cases e5 with
            | false =>
              replace ge5 : (x.Y != y.Y) = true := ge5
              have hYn : ¬ x.Y = y.Y := bne_iff_ne.1 ge5
              clear ge5
              have HRR : Hid (res = false) := Lib.hid (by rw [HRES.out, hx]; simp)
              clear hx hy
              go_wp2
              go_ret
              exact ⟨by rw [HRR.out]; rfl, HB.out⟩
            | true =>
              replace ge5 : (x.Y != y.Y) = false := ge5
              have hYe : y.Y = x.Y := by have := ge5; simp at this; exact this.symm
              rw [hYe] at q6
              clear ge5 hYe
              have ge5 := True.intro
              cases e6 with
              | false =>
                replace ge6 : (x.M != y.M) = true := ge6
                have HRR : Hid (res = false) := Lib.hid (by rw [HRES.out, hx]; simp)
                clear hx hy
                go_wp2
                go_ret
                exact ⟨by rw [HRR.out]; rfl, HB.out⟩
              | true =>
                replace ge6 : (x.M != y.M) = false := ge6
                cases e7 with
                | false =>
                  replace ge7 : (x.S != y.S) = true := ge7
                  have HRR : Hid (res = false) := Lib.hid (by rw [HRES.out, hx]; simp)
                  clear hx hy
                  go_wp2
                  go_ret
                  exact ⟨by rw [HRR.out]; rfl, HB.out⟩
                | true =>
                  replace ge7 : (x.S != y.S) = false := ge7
                  have HH : Hid (res = ((n1 && (n2 && (n3 && n4))) && (X3 && (X4 && X5)))) := Lib.hid (by rw [HRES.out, hx, hy]; simp)
                  replace HRES := HH
                  clear hx hy HH
                  have p4 : w2.cell? ⟨w.heap.size, 4, none⟩ = some (.slice a1 x.es.length c1) := by rw [HBx.out.cell]; rfl
                  have q4 : w2.cell? ⟨w.heap.size + 1, 4, none⟩ = some (.slice a4 y.es.length c4) := by rw [HBy.out.cell]; rfl
                  go_wp2_with fail
                  refine (HE.out _ HB.out).mono ?_
                  rintro e w3 ⟨rfl, hb⟩
                  replace HB := Lib.hid (HB.out.trans (hb.mono HB.out.size))
                  replace HBx := Lib.hid (HBx.out.keep hb)
                  replace HBy := Lib.hid (HBy.out.keep hb)
                  clear hb p0 q0 p1 q1 p2 q2 p3 q3 p4 q4 p5 q5 p6 q6 p7 q7 p8 q8 ge0 ge1 ge2 ge3 ge4 ge5 ge6 ge7
                  cases X3 with
                  | false =>
                    have HRR : Hid (res = false) := Lib.hid (by rw [HRES.out]; simp)
                    go_wp2
                    go_ret
                    exact ⟨by rw [HRR.out]; rfl, HB.out⟩
                  | true =>
                    have p9 : w3.cell? ⟨w.heap.size, 9, none⟩ = some (.int .u64 x.l.E) := by rw [HBx.out.cell]; rfl
                    have q9 : w3.cell? ⟨w.heap.size + 1, 9, none⟩ = some (.int .u64 y.l.E) := by rw [HBy.out.cell]; rfl
                    have p10 : w3.cell? ⟨w.heap.size, 10, none⟩ = some (.int .i64 x.l.B) := by rw [HBx.out.cell]; rfl
                    have q10 : w3.cell? ⟨w.heap.size + 1, 10, none⟩ = some (.int .i64 y.l.B) := by rw [HBy.out.cell]; rfl
                    have p11 : w3.cell? ⟨w.heap.size, 11, none⟩ = some (.bool x.l.L) := by rw [HBx.out.cell]; rfl
                    have q11 : w3.cell? ⟨w.heap.size + 1, 11, none⟩ = some (.bool y.l.L) := by rw [HBy.out.cell]; rfl
                    have p12 : w3.cell? ⟨w.heap.size, 12, none⟩ = some (.slice a2 x.l.l.length c2) := by rw [HBx.out.cell]; rfl
                    have q12 : w3.cell? ⟨w.heap.size + 1, 12, none⟩ = some (.slice a5 y.l.l.length c5) := by rw [HBy.out.cell]; rfl
                    go_wp2_with fail
                    refine (HL.out _ HB.out).mono ?_
                    rintro e w4 ⟨rfl, hb⟩
                    replace HB := Lib.hid (HB.out.trans (hb.mono HB.out.size))
                    replace HBx := Lib.hid (HBx.out.keep hb)
                    replace HBy := Lib.hid (HBy.out.keep hb)
                    clear hb p9 q9 p10 q10 p11 q11 p12 q12
                    cases X4 with
                    | false =>
                      have HRR : Hid (res = false) := Lib.hid (by rw [HRES.out]; simp)
                      go_wp2
                      go_ret
                      exact ⟨by rw [HRR.out]; rfl, HB.out⟩
                    | true =>
                      have p13 : w4.cell? ⟨w.heap.size, 13, none⟩ = some (.int .i64 x.n) := by rw [HBx.out.cell]; rfl
                      have q13 : w4.cell? ⟨w.heap.size + 1, 13, none⟩ = some (.int .i64 y.n) := by rw [HBy.out.cell]; rfl
                      have p14 : w4.cell? ⟨w.heap.size, 14, none⟩ = some (.int .u64 x.la.1) := by rw [HBx.out.cell]; rfl
                      have q14 : w4.cell? ⟨w.heap.size + 1, 14, none⟩ = some (.int .u64 y.la.1) := by rw [HBy.out.cell]; rfl
                      have p15 : w4.cell? ⟨w.heap.size, 15, none⟩ = some (.int .u64 x.la.2) := by rw [HBx.out.cell]; rfl
                      have q15 : w4.cell? ⟨w.heap.size + 1, 15, none⟩ = some (.int .u64 y.la.2) := by rw [HBy.out.cell]; rfl
                      have p16 : w4.cell? ⟨w.heap.size, 16, none⟩ = some (.int .u64 x.ta.1) := by rw [HBx.out.cell]; rfl
                      have q16 : w4.cell? ⟨w.heap.size + 1, 16, none⟩ = some (.int .u64 y.ta.1) := by rw [HBy.out.cell]; rfl
                      have p17 : w4.cell? ⟨w.heap.size, 17, none⟩ = some (.int .u64 x.ta.2) := by rw [HBx.out.cell]; rfl
                      have q17 : w4.cell? ⟨w.heap.size + 1, 17, none⟩ = some (.int .u64 y.ta.2) := by rw [HBy.out.cell]; rfl
                      have p18 : w4.cell? ⟨w.heap.size, 18, none⟩ = some (.int .i64 x.N) := by rw [HBx.out.cell]; rfl
                      have q18 : w4.cell? ⟨w.heap.size + 1, 18, none⟩ = some (.int .i64 y.N) := by rw [HBy.out.cell]; rfl
                      have fn1 := FN1.out
                      have fn4 := FN4.out
                      have gl := GL.out
                      have gt := GT.out
                      cases n1 with
                      | false =>
                        have HRR : Hid (res = false) := Lib.hid (by rw [HRES.out]; simp)
                        go_wp2
                        go_ret
                        exact ⟨by rw [HRR.out]; rfl, HB.out⟩
                      | true =>
                        cases n2 with
                        | false =>
                          have HRR : Hid (res = false) := Lib.hid (by rw [HRES.out]; simp)
                          go_wp2
                          go_ret
                          exact ⟨by rw [HRR.out]; rfl, HB.out⟩
                        | true =>
                          cases n3 with
                          | false =>
                            have HRR : Hid (res = false) := Lib.hid (by rw [HRES.out]; simp)
                            go_wp2
                            go_ret
                            exact ⟨by rw [HRR.out]; rfl, HB.out⟩
                          | true =>
                            cases n4 with
                            | false =>
                              have HRR : Hid (res = false) := Lib.hid (by rw [HRES.out]; simp)
                              go_wp2
                              go_ret
                              exact ⟨by rw [HRR.out]; rfl, HB.out⟩
                            | true =>
                              have p19 : w4.cell? ⟨w.heap.size, 19, none⟩ = some (.int .u64 x.p.b.1) := by rw [HBx.out.cell]; rfl
                              have q19 : w4.cell? ⟨w.heap.size + 1, 19, none⟩ = some (.int .u64 y.p.b.1) := by rw [HBy.out.cell]; rfl
                              have p20 : w4.cell? ⟨w.heap.size, 20, none⟩ = some (.int .u64 x.p.b.2) := by rw [HBx.out.cell]; rfl
                              have q20 : w4.cell? ⟨w.heap.size + 1, 20, none⟩ = some (.int .u64 y.p.b.2) := by rw [HBy.out.cell]; rfl
                              have p21 : w4.cell? ⟨w.heap.size, 21, none⟩ = some (.int .u64 x.p.t.1) := by rw [HBx.out.cell]; rfl
                              have q21 : w4.cell? ⟨w.heap.size + 1, 21, none⟩ = some (.int .u64 y.p.t.1) := by rw [HBy.out.cell]; rfl
                              have p22 : w4.cell? ⟨w.heap.size, 22, none⟩ = some (.int .u64 x.p.t.2) := by rw [HBx.out.cell]; rfl
                              have q22 : w4.cell? ⟨w.heap.size + 1, 22, none⟩ = some (.int .u64 y.p.t.2) := by rw [HBy.out.cell]; rfl
                              have p23 : w4.cell? ⟨w.heap.size, 23, none⟩ = some (.int .i64 x.p.f) := by rw [HBx.out.cell]; rfl
                              have q23 : w4.cell? ⟨w.heap.size + 1, 23, none⟩ = some (.int .i64 y.p.f) := by rw [HBy.out.cell]; rfl
                              have p24 : w4.cell? ⟨w.heap.size, 24, none⟩ = some (.int .i64 x.p.a) := by rw [HBx.out.cell]; rfl
                              have q24 : w4.cell? ⟨w.heap.size + 1, 24, none⟩ = some (.int .i64 y.p.a) := by rw [HBy.out.cell]; rfl
                              have p25 : w4.cell? ⟨w.heap.size, 25, none⟩ = some (.slice a3 x.p.cs.length c3) := by rw [HBx.out.cell]; rfl
                              have q25 : w4.cell? ⟨w.heap.size + 1, 25, none⟩ = some (.slice a6 y.p.cs.length c6) := by rw [HBy.out.cell]; rfl
                              go_wp2_with fail
                              refine (HP.out _ HB.out).mono ?_
                              rintro e w5 ⟨rfl, hb⟩
                              replace HB := Lib.hid (HB.out.trans (hb.mono HB.out.size))
                              replace HBx := Lib.hid (HBx.out.keep hb)
                              replace HBy := Lib.hid (HBy.out.keep hb)
                              clear hb p13 q13 p14 q14 p15 q15 p16 q16 p17 q17 p18 q18 p19 q19 p20 q20 p21 q21 p22 q22 p23 q23 p24 q24 p25 q25 fn1 fn4 gl gt
                              have HRR : Hid (res = X5) := Lib.hid (by rw [HRES.out]; simp)
                              go_wp2
                              go_ret
                              exact ⟨by rw [HRR.out]; rfl, HB.out⟩
end Go.Proofs.YtikimmhkfjaijaaGreat
namespace Go.Proofs.YtikimmhkfjaijaaGreat
open Go.RowKit Reg Go.ChangeShapes

theorem InMs.ok {w : World} {v : Value} {m : Ms} (h : InMs w v m) (hm : mayM m = true) : MsOk m := by
  obtain ⟨se, sl, sc, -, ⟨-, -, -, -, -, h1, -⟩, ⟨-, -, h2⟩, -, h3⟩ := h
  exact ⟨hm, h3, h1, h2⟩
theorem nB_le (x : Int) : (nB x).length ≤ 9 := putNum_le _
theorem gdB_le (g : Gd) : (gdB g).length ≤ 18 := by
  have h1 := nB_le g.1
  have h2 := nB_le g.2
  unfold gdB
  rw [List.length_append]
  omega
theorem enB_le (e : En) : (enB e).length ≤ 36 := by
  have h1 := nB_le e.T
  have h2 := nB_le e.K
  have h3 := gdB_le e.g
  unfold enB
  simp only [List.length_append]
  omega
theorem flat_le {α : Type} (f : α → List UInt8) (b : Nat) (h : ∀ x, (f x).length ≤ b) : ∀ l : List α, (l.flatMap f).length ≤ b * l.length
  | [] => by simp
  | x :: l => by
    have h1 := flat_le f b h l
    have h2 := h x
    rw [List.flatMap_cons, List.length_append, List.length_cons, Nat.mul_succ]
    omega
theorem lineB_le (l : Ln) : (lineB l).length ≤ 36 + 18 * l.l.length := by
  have h1 := nB_le l.E
  have h2 := nB_le l.B
  have h3 := putNum_le (b01 l.L)
  have h4 := nB_le (l.l.length : Nat)
  have h5 := flat_le gdB 18 gdB_le l.l
  unfold lineB
  simp only [List.length_append]
  omega
theorem bytes_le {m : Ms} (hm : MsOk m) : (bytesM m).length ≤ 8000 := by
  have hK := mayM_K hm.may
  have k0 := nB_le m.K
  have hb : (bodyB m).length ≤ 7000 := by
    have kT := nB_le m.T
    have kP := nB_le m.P
    have kPT := nB_le m.PT
    have kY := putNum_le (b01 m.Y)
    have kC := nB_le m.C
    have kS := nB_le m.S
    have kM := nB_le m.M
    have kn := nB_le m.n
    have kN := nB_le m.N
    have kla := gdB_le m.la
    have kta := gdB_le m.ta
    have kl := lineB_le m.l
    have kle := nB_le (m.es.length : Nat)
    have kes := flat_le enB 36 enB_le m.es
    have kp : (partB m.p).length ≤ 200 := by
      have h1 := encS_le m.p
      have h2 : (encS m.p).data.toList.length = (encS m.p).size := Array.length_toList
      have h3 := putNum_le (encS m.p).data.toList.length
      unfold partB Wire.putText
      rw [List.length_append]
      omega
    have hA : m.K ≤ 4 → m.es.length ≤ 8 := fun h => (mayM_a hm.may h).len
    have hL : 4 < m.K → m.l.l.length ≤ 20 := fun h => (checkL_ok (mayM_l hm.may h)).1
    unfold bodyB askB voteB appsB appdB pullL partL entsB askB voteB
    by_cases h1 : m.K = 1
    · rw [if_pos h1]; simp only [List.length_append]; omega
    by_cases h2 : m.K = 2
    · rw [if_neg h1, if_pos h2]; simp only [List.length_append]; omega
    by_cases h3 : m.K = 3
    · have := hA (by omega)
      rw [if_neg h1, if_neg h2, if_pos h3]; simp only [List.length_append]; omega
    by_cases h4 : m.K = 4
    · rw [if_neg h1, if_neg h2, if_neg h3, if_pos h4]; simp only [List.length_append]; omega
    have := hL (by omega)
    by_cases h5 : m.K = 5
    · rw [if_neg h1, if_neg h2, if_neg h3, if_neg h4, if_pos h5]; simp only [List.length_append]; omega
    by_cases h6 : m.K = 6
    · rw [if_neg h1, if_neg h2, if_neg h3, if_neg h4, if_neg h5, if_pos h6]; simp only [List.length_append]; omega
    · rw [if_neg h1, if_neg h2, if_neg h3, if_neg h4, if_neg h5, if_neg h6]; omega
  unfold bytesM
  rw [List.length_append]
  omega
theorem checkM_own {m : Ms} (hok : mayM m = true → MsOk m) : checkM m = if (sameM m (ownM m) && mayM m) = true then 0 else 2 := by
  have e : checkB m = (sameM m (ownM m) && mayM m) := by
    cases h : mayM m with
    | false =>
      rw [Bool.and_false]
      unfold checkB
      rw [h, Bool.false_and]
    | true =>
      rw [Bool.and_true, Bool.eq_iff_iff, checkB_ok (hok h), sameM_iff]
      exact ⟨fun q => q.symm, fun q => q.symm⟩
  unfold checkM
  rw [e]
set_option maxRecDepth 100000 in
set_option maxHeartbeats 8000000 in
theorem rcheck_any (w : World) (v : Value) (m : Ms) (hv : InMs w v m) : Calls Tryz.prog 8 #[v] w fun e w' => e = .returned (.int .i64 (checkM m)) ∧ Below w.heap.size w w' := by
  have hfin := checkM_own (m := m) (fun h => hv.ok h)
  obtain ⟨zz, hzz⟩ : ∃ z, z = checkM m := ⟨_, rfl⟩
  rw [← hzz] at hfin ⊢
  clear hzz
  have hpull := fun w2 (h : Below w.heap.size w w2) => rpull_any w2 v m (hv.keep h)
  have hent := fun w2 (h : Below w.heap.size w w2) (hP : 0 ≤ m.P ∧ m.P ≤ 300) => rentries_any w2 v m (hv.keep h) hP
  have hsame := fun w2 (h : Below w.heap.size w w2) (u : Value) (hu : InMs w2 u (ownM m)) => rsame_any w2 v u m (ownM m) (hv.keep h) hu
  obtain ⟨ma, a1, a2, a3, c1, c2, c3, rfl, hone, hsz, hma, hE, hL, hC, hwf⟩ := ms_cells hv
  have HLC := Lib.hid (fun w2 (h : Below w.heap.size w w2) => lcheckR_any (.agg #[.int .u64 m.l.E, .int .i64 m.l.B, .bool m.l.L, .slice a2 m.l.l.length c2]) m.l w2 ⟨_, rfl, hL.keep h, hwf.E, hwf.B⟩)
  have HPC := Lib.hid (fun w2 (h : Below w.heap.size w w2) => checkR_any w2 (prV m.p (.slice a3 m.p.cs.length c3)) m.p ⟨_, rfl, hC.keep h, hwf.p⟩)
  unfold prV at HPC
  have HOWN := Lib.hid (fun w2 (hk : 1 ≤ m.K ∧ m.K ≤ 7) => rown_any w2 m ma a1 a2 a3 c1 c2 c3 hma hk)
  have HOIN := Lib.hid (fun w2 (h : Below w.heap.size w w2) (hk : 1 ≤ m.K ∧ m.K ≤ 7) => own_in (hE.keep h) (hL.keep h) (hC.keep h) hwf hk)
  generalize ownA m a1 a2 a3 c1 c2 c3 = oa at *
  have HPULL := Lib.hid hpull
  have HENT := Lib.hid hent
  have HSAME := Lib.hid hsame
  have hb := (Below.refl w.heap.size w).alloc (Nat.le_refl _) (Obj.cells ma 33)
  have hbk : Blk (w.alloc (.cells ma 33)) w.heap.size 33 (msA m (.slice a1 m.es.length c1) (.slice a2 m.l.l.length c2) (.slice a3 m.p.cs.length c3)) := by rw [hma]; exact Blk.new w _ _
  have HMA := Lib.hid (Blk.new w 33 ma)
  obtain ⟨res, hres⟩ : ∃ r, r = mayM m := ⟨_, rfl⟩
  rw [← hres] at hfin
  unfold mayM at hres
  have HB := Lib.hid hb
  have HBK := Lib.hid hbk
  have HONE := Lib.hid hone
  have HSZ := Lib.hid hsz
  have HFIN := Lib.hid hfin
  clear hfin hma hv hone hsz hb hbk hE hL hC hwf hpull hent hsame
  generalize hcl : checkL m.l = cl at *
  generalize hcp : checkP m.p = cp at *
  generalize hpb : pullB m = pb at *
  generalize heb : entB m = eb at *
  generalize hsv : sameM m (ownM m) = sv at *
  clear hcl hcp hpb heb hsv
  have hc : m.K < 1 ∨ 7 < m.K ∨ (1 ≤ m.K ∧ m.K ≤ 7) := by omega
  rcases hc with hk | hk | hk
  · rw [decide_eq_false (by omega), Bool.false_and] at hres
    replace HFIN : Hid (zz = 2) := Lib.hid (by rw [HFIN.out, hres, Bool.and_false]; rfl)
    clear hres
    have p0 : (w.alloc (.cells ma 33)).cell? ⟨w.heap.size, 0, none⟩ = some (.int .i64 m.K) := by rw [HBK.out.cell]; rfl
    go_enter Tryz.func8, Tryz.ntmps8
    go_wp2_with fail
    go_quiet (fail)
    go_wp2
    go_ret
    exact ⟨by rw [HFIN.out]; rfl, below_drewN HB.out _⟩
  · rw [decide_eq_true (show 1 ≤ m.K by omega), decide_eq_false (show ¬ m.K ≤ 7 by omega), Bool.false_and, Bool.and_false] at hres
    have i1 : decide (m.K < 1) = false := decide_eq_false (by omega)
    replace HFIN : Hid (zz = 2) := Lib.hid (by rw [HFIN.out, hres, Bool.and_false]; rfl)
    clear hres
    have p0 : (w.alloc (.cells ma 33)).cell? ⟨w.heap.size, 0, none⟩ = some (.int .i64 m.K) := by rw [HBK.out.cell]; rfl
    go_enter Tryz.func8, Tryz.ntmps8
    go_wp2_with fail
    go_quiet (fail)
    go_wp2
    go_ret
    exact ⟨by rw [HFIN.out]; rfl, below_drewN HB.out _⟩
  · rw [decide_eq_true hk.1, decide_eq_true hk.2, Bool.true_and, Bool.true_and] at hres
    have HK := Lib.hid hk
    have i1 : decide (m.K < 1) = false := decide_eq_false (by omega)
    have i2 : decide (7 < m.K) = false := decide_eq_false (by omega)
    clear hk
    have p0 : (w.alloc (.cells ma 33)).cell? ⟨w.heap.size, 0, none⟩ = some (.int .i64 m.K) := by rw [HBK.out.cell]; rfl
    go_enter Tryz.func8, Tryz.ntmps8
    go_upto_region 1 with fail
    generalize w.alloc (Obj.cells ma 33) = w1 at *
    refine wp_region_chain [11, 12] (kv [(11, .is (.agg oa)), (12, .is (.bool sv))]) (fun _ w => Below (w1).heap.size (w1) w) (by kernel_rfl) (by kernel_rfl) (by kernel_rfl) (kv_inh _) (Below.drew (Below.refl _ _)) ?_
    intro ν hν
    have n11 : ν 11 = .agg oa := hν 11
    have n12 : ν 12 = .bool sv := hν 12
    clear hν
    refine ch_plain 0 2 1 (by rfl) rfl (by kernel_rfl) (by kernel_rfl) ?_
    apply Exists.intro
    refine ⟨fun st w2 hlo hhi hJ => ?_, ?_⟩
    · clear hlo hhi hJ
      go_simp
      exact And.intro rfl rfl
    simp only [Act.put, List.setIfInBounds_toArray, List.set_cons_succ, List.set_cons_zero, Nat.reduceAdd]
    refine ch_plain 0 2 1 (by rfl) rfl (by kernel_rfl) (by kernel_rfl) ?_
    apply Exists.intro
    refine ⟨fun st w2 hlo hhi hJ => ?_, ?_⟩
    · replace hJ : Below (w1).heap.size (w1) w2 := hJ
      have y0 := cell_later hJ p0
      clear hlo hhi hJ
      go_simp
      exact And.intro rfl rfl
    simp only [Act.put, List.setIfInBounds_toArray, List.set_cons_succ, List.set_cons_zero, Nat.reduceAdd]
    refine ch_plain 0 2 1 (by rfl) rfl (by kernel_rfl) (by kernel_rfl) ?_
    apply Exists.intro
    refine ⟨fun st w2 hlo hhi hJ => ?_, ?_⟩
    · clear hlo hhi hJ
      go_simp
      exact And.intro rfl rfl
    simp only [Act.put, List.setIfInBounds_toArray, List.set_cons_succ, List.set_cons_zero, Nat.reduceAdd]
    refine ch_plain 0 2 1 (by rfl) rfl (by kernel_rfl) (by kernel_rfl) ?_
    apply Exists.intro
    refine ⟨fun st w2 hlo hhi hJ => ?_, ?_⟩
    · clear hlo hhi hJ
      go_simp
      exact And.intro rfl rfl
    simp only [Act.put, List.setIfInBounds_toArray, List.set_cons_succ, List.set_cons_zero, Nat.reduceAdd]
    refine ch_plain 0 2 1 (by rfl) rfl (by kernel_rfl) (by kernel_rfl) ?_
    apply Exists.intro
    refine ⟨fun st w2 hlo hhi hJ => ?_, ?_⟩
    · clear hlo hhi hJ
      go_simp
      exact And.intro rfl rfl
    simp only [Act.put, List.setIfInBounds_toArray, List.set_cons_succ, List.set_cons_zero, Nat.reduceAdd]
    refine ch_plain 0 2 1 (by rfl) rfl (by kernel_rfl) (by kernel_rfl) ?_
    apply Exists.intro
    refine ⟨fun st w2 hlo hhi hJ => ?_, ?_⟩
    · replace hJ : Below (w1).heap.size (w1) w2 := hJ
      have y0 := cell_later hJ p0
      clear hlo hhi hJ
      go_simp
      exact And.intro rfl rfl
    simp only [Act.put, List.setIfInBounds_toArray, List.set_cons_succ, List.set_cons_zero, Nat.reduceAdd]
    refine ch_plain 0 2 1 (by rfl) rfl (by kernel_rfl) (by kernel_rfl) ?_
    apply Exists.intro
    refine ⟨fun st w2 hlo hhi hJ => ?_, ?_⟩
    · clear hlo hhi hJ
      go_simp
      exact And.intro rfl rfl
    simp only [Act.put, List.setIfInBounds_toArray, List.set_cons_succ, List.set_cons_zero, Nat.reduceAdd]
    refine ch_plain 0 2 1 (by rfl) rfl (by kernel_rfl) (by kernel_rfl) ?_
    apply Exists.intro
    refine ⟨fun st w2 hlo hhi hJ => ?_, ?_⟩
    · clear hlo hhi hJ
      go_simp
      exact And.intro rfl rfl
    simp only [Act.put, List.setIfInBounds_toArray, List.set_cons_succ, List.set_cons_zero, Nat.reduceAdd]
    refine ch_plain 0 2 1 (by rfl) rfl (by kernel_rfl) (by kernel_rfl) ?_
    apply Exists.intro
    refine ⟨fun st w2 hlo hhi hJ => ?_, ?_⟩
    · clear hlo hhi hJ
      go_simp
      exact And.intro rfl rfl
    simp only [Act.put, List.setIfInBounds_toArray, List.set_cons_succ, List.set_cons_zero, Nat.reduceAdd]
    refine ch_plain 0 2 1 (by rfl) rfl (by kernel_rfl) (by kernel_rfl) ?_
    apply Exists.intro
    refine ⟨fun st w2 hlo hhi hJ => ?_, ?_⟩
    · have hJ' : Below w1.heap.size w1 w2 := hJ
      have hy := HMA.out.keep hJ'
      clear hlo hhi hJ hJ'
      rw [exec_load_blk 33 _ rfl w.heap.size rfl _ hy Tryz.underlying33 rfl HSZ.out]
      exact And.intro rfl rfl
    simp only [Act.put, List.setIfInBounds_toArray, List.set_cons_succ, List.set_cons_zero, Nat.reduceAdd]
    refine ch_plain 0 2 1 (by rfl) rfl (by kernel_rfl) (by kernel_rfl) ?_
    apply Exists.intro
    refine ⟨fun st w2 hlo hhi hJ => ?_, ?_⟩
    · have hJ' : Below w1.heap.size w1 w2 := hJ
      have hy := HMA.out.keep hJ'
      clear hlo hhi hJ hJ'
      rw [exec_load_blk 33 _ rfl w.heap.size rfl _ hy Tryz.underlying33 rfl HSZ.out]
      exact And.intro rfl rfl
    simp only [Act.put, List.setIfInBounds_toArray, List.set_cons_succ, List.set_cons_zero, Nat.reduceAdd]
    refine ch_special 0 6 (by rfl) rfl (by decide) (by kernel_rfl) (fun w2 hJ => ?_) ?_
    · replace hJ : Below (w1).heap.size (w1) w2 := hJ
      go_simp
      refine (HOWN.out w2 HK.out).mono ?_
      rintro e w3 ⟨rfl, hb⟩
      exact ⟨_, rfl, rfl, hJ.trans (hb.mono hJ.size)⟩
    rw [n11]
    simp only [Act.put, List.setIfInBounds_toArray, List.set_cons_succ, List.set_cons_zero, Nat.reduceAdd]
    refine ch_special 1 6 (by rfl) rfl (by decide) (by kernel_rfl) (fun w2 hJ => ?_) ?_
    · replace hJ : Below (w1).heap.size (w1) w2 := hJ
      go_simp
      refine (HSAME.out w2 (HB.out.trans (hJ.mono HB.out.size)) _ (HOIN.out w2 (HB.out.trans (hJ.mono HB.out.size)) HK.out)).mono ?_
      rintro e w3 ⟨rfl, hb⟩
      exact ⟨_, rfl, rfl, hJ.trans (hb.mono hJ.size)⟩
    rw [n12]
    simp only [Act.put, List.setIfInBounds_toArray, List.set_cons_succ, List.set_cons_zero, Nat.reduceAdd]
    refine ch_plain 0 2 1 (by rfl) rfl (by kernel_rfl) (by kernel_rfl) ?_
    apply Exists.intro
    refine ⟨fun st w2 hlo hhi hJ => ?_, ?_⟩
    · clear hlo hhi hJ
      go_simp
      exact And.intro rfl rfl
    simp only [Act.put, List.setIfInBounds_toArray, List.set_cons_succ, List.set_cons_zero, Nat.reduceAdd]
    refine ch_plain 0 2 1 (by rfl) rfl (by kernel_rfl) (by kernel_rfl) ?_
    apply Exists.intro
    refine ⟨fun st w2 hlo hhi hJ => ?_, ?_⟩
    · clear hlo hhi hJ
      go_simp
      exact And.intro rfl rfl
    simp only [Act.put, Nat.reduceAdd]
    refine ch_nil (fun w5 hJ => ?_)
    replace hJ : Below (w1).heap.size (w1) w5 := hJ
    clear n11 n12
    clear i1 i2 p0
    replace HB := Lib.hid (HB.out.trans (hJ.mono HB.out.size))
    replace HBK := Lib.hid (HBK.out.keep hJ)
    replace HMA := Lib.hid (HMA.out.keep hJ)
    clear hJ HOWN HOIN HSAME
    cases sv with
    | false =>
      replace HFIN : Hid (zz = 2) := Lib.hid (by rw [HFIN.out, Bool.false_and]; rfl)
      clear hres
      go_wp2
      go_ret
      exact ⟨by rw [HFIN.out]; rfl, HB.out⟩
    | true =>
      replace HFIN : Hid (zz = if res = true then 0 else 2) := Lib.hid (by rw [HFIN.out, Bool.true_and])
      have hkk := HK.out
      rcases (show m.K = 5 ∨ m.K = 6 ∨ m.K = 7 ∨ (1 ≤ m.K ∧ m.K ≤ 4) by omega) with hk | hk | hk | hk
      · rw [if_pos (by omega), hk] at hres
        clear hkk
        have p0 : (w5).cell? ⟨w.heap.size, 0, none⟩ = some (.int .i64 m.K) := by rw [HBK.out.cell]; rfl
        have p9 : (w5).cell? ⟨w.heap.size, 9, none⟩ = some (.int .u64 m.l.E) := by rw [HBK.out.cell]; rfl
        have p10 : (w5).cell? ⟨w.heap.size, 10, none⟩ = some (.int .i64 m.l.B) := by rw [HBK.out.cell]; rfl
        have p11 : (w5).cell? ⟨w.heap.size, 11, none⟩ = some (.bool m.l.L) := by rw [HBK.out.cell]; rfl
        have p12 : (w5).cell? ⟨w.heap.size, 12, none⟩ = some (.slice a2 m.l.l.length c2) := by rw [HBK.out.cell]; rfl
        rw [hk] at p0
        go_wp2_with fail
        refine (HLC.out _ HB.out).mono ?_
        rintro e w3 ⟨rfl, hb⟩
        replace HB := Lib.hid (HB.out.trans (hb.mono HB.out.size))
        replace HBK := Lib.hid (HBK.out.keep hb)
        replace HMA := Lib.hid (HMA.out.keep hb)
        clear hb
        clear p0 p9 p10 p11 p12
        by_cases hz : cl = 0
        · rw [decide_eq_true hz, Bool.true_and] at hres
          subst hz
          have p0 : (w3).cell? ⟨w.heap.size, 0, none⟩ = some (.int .i64 m.K) := by rw [HBK.out.cell]; rfl
          rw [hk] at p0
          go_wp2_with (first | refine wpList_wanted_run (by rfl) (.agg ma) (exec_load_blk 33 _ rfl w.heap.size rfl _ HMA.out Tryz.underlying33 rfl HSZ.out) ?_)
          refine (HPULL.out _ HB.out).mono ?_
          rintro e w4 ⟨rfl, hb⟩
          replace HB := Lib.hid (HB.out.trans (hb.mono HB.out.size))
          replace HBK := Lib.hid (HBK.out.keep hb)
          replace HMA := Lib.hid (HMA.out.keep hb)
          clear hb
          clear p0
          have p0 : (w4).cell? ⟨w.heap.size, 0, none⟩ = some (.int .i64 m.K) := by rw [HBK.out.cell]; rfl
          rw [hk] at p0
          cases pb with
          | true =>
            have HRES := Lib.hid hres
            clear hres
            go_wp2
            go_ret
            exact ⟨by rw [HFIN.out, HRES.out]; rfl, HB.out⟩
          | false =>
            have HRES := Lib.hid hres
            clear hres
            go_wp2
            go_ret
            exact ⟨by rw [HFIN.out, HRES.out]; rfl, HB.out⟩
        · rw [decide_eq_false hz, Bool.false_and] at hres
          have hz2 : (cl == 0) = false := beq_eq_false_iff_ne.2 hz
          have p0 : (w3).cell? ⟨w.heap.size, 0, none⟩ = some (.int .i64 m.K) := by rw [HBK.out.cell]; rfl
          rw [hk] at p0
          have HRES := Lib.hid hres
          clear hres hz
          go_wp2
          go_ret
          exact ⟨by rw [HFIN.out, HRES.out]; rfl, HB.out⟩
      · rw [if_pos (by omega), hk] at hres
        clear hkk
        have p0 : (w5).cell? ⟨w.heap.size, 0, none⟩ = some (.int .i64 m.K) := by rw [HBK.out.cell]; rfl
        have p9 : (w5).cell? ⟨w.heap.size, 9, none⟩ = some (.int .u64 m.l.E) := by rw [HBK.out.cell]; rfl
        have p10 : (w5).cell? ⟨w.heap.size, 10, none⟩ = some (.int .i64 m.l.B) := by rw [HBK.out.cell]; rfl
        have p11 : (w5).cell? ⟨w.heap.size, 11, none⟩ = some (.bool m.l.L) := by rw [HBK.out.cell]; rfl
        have p12 : (w5).cell? ⟨w.heap.size, 12, none⟩ = some (.slice a2 m.l.l.length c2) := by rw [HBK.out.cell]; rfl
        rw [hk] at p0
        go_wp2_with fail
        refine (HLC.out _ HB.out).mono ?_
        rintro e w3 ⟨rfl, hb⟩
        replace HB := Lib.hid (HB.out.trans (hb.mono HB.out.size))
        replace HBK := Lib.hid (HBK.out.keep hb)
        replace HMA := Lib.hid (HMA.out.keep hb)
        clear hb
        clear p0 p9 p10 p11 p12
        by_cases hz : cl = 0
        · rw [decide_eq_true hz, Bool.true_and] at hres
          subst hz
          have p0 : (w3).cell? ⟨w.heap.size, 0, none⟩ = some (.int .i64 m.K) := by rw [HBK.out.cell]; rfl
          rw [hk] at p0
          have p19 : (w3).cell? ⟨w.heap.size, 19, none⟩ = some (.int .u64 m.p.b.1) := by rw [HBK.out.cell]; rfl
          have p20 : (w3).cell? ⟨w.heap.size, 20, none⟩ = some (.int .u64 m.p.b.2) := by rw [HBK.out.cell]; rfl
          have p21 : (w3).cell? ⟨w.heap.size, 21, none⟩ = some (.int .u64 m.p.t.1) := by rw [HBK.out.cell]; rfl
          have p22 : (w3).cell? ⟨w.heap.size, 22, none⟩ = some (.int .u64 m.p.t.2) := by rw [HBK.out.cell]; rfl
          have p23 : (w3).cell? ⟨w.heap.size, 23, none⟩ = some (.int .i64 m.p.f) := by rw [HBK.out.cell]; rfl
          have p24 : (w3).cell? ⟨w.heap.size, 24, none⟩ = some (.int .i64 m.p.a) := by rw [HBK.out.cell]; rfl
          have p25 : (w3).cell? ⟨w.heap.size, 25, none⟩ = some (.slice a3 m.p.cs.length c3) := by rw [HBK.out.cell]; rfl
          go_wp2_with fail
          refine (HPC.out _ HB.out).mono ?_
          rintro e w4 ⟨rfl, hb⟩
          replace HB := Lib.hid (HB.out.trans (hb.mono HB.out.size))
          replace HBK := Lib.hid (HBK.out.keep hb)
          replace HMA := Lib.hid (HMA.out.keep hb)
          clear hb
          clear p0 p19 p20 p21 p22 p23 p24 p25
          by_cases hy : cp = 0
          · subst hy
            have HRES := Lib.hid hres
            clear hres
            go_wp2
            go_ret
            exact ⟨by rw [HFIN.out, HRES.out]; rfl, HB.out⟩
          · rw [decide_eq_false hy] at hres
            have hy2 : (cp == 0) = false := beq_eq_false_iff_ne.2 hy
            have HRES := Lib.hid hres
            clear hres hy
            go_wp2
            go_ret
            exact ⟨by rw [HFIN.out, HRES.out]; rfl, HB.out⟩
        · rw [decide_eq_false hz, Bool.false_and] at hres
          have hz2 : (cl == 0) = false := beq_eq_false_iff_ne.2 hz
          have p0 : (w3).cell? ⟨w.heap.size, 0, none⟩ = some (.int .i64 m.K) := by rw [HBK.out.cell]; rfl
          rw [hk] at p0
          have HRES := Lib.hid hres
          clear hres hz
          go_wp2
          go_ret
          exact ⟨by rw [HFIN.out, HRES.out]; rfl, HB.out⟩
      · rw [if_pos (by omega), hk] at hres
        clear hkk
        have p0 : (w5).cell? ⟨w.heap.size, 0, none⟩ = some (.int .i64 m.K) := by rw [HBK.out.cell]; rfl
        have p9 : (w5).cell? ⟨w.heap.size, 9, none⟩ = some (.int .u64 m.l.E) := by rw [HBK.out.cell]; rfl
        have p10 : (w5).cell? ⟨w.heap.size, 10, none⟩ = some (.int .i64 m.l.B) := by rw [HBK.out.cell]; rfl
        have p11 : (w5).cell? ⟨w.heap.size, 11, none⟩ = some (.bool m.l.L) := by rw [HBK.out.cell]; rfl
        have p12 : (w5).cell? ⟨w.heap.size, 12, none⟩ = some (.slice a2 m.l.l.length c2) := by rw [HBK.out.cell]; rfl
        rw [hk] at p0
        go_wp2_with fail
        refine (HLC.out _ HB.out).mono ?_
        rintro e w3 ⟨rfl, hb⟩
        replace HB := Lib.hid (HB.out.trans (hb.mono HB.out.size))
        replace HBK := Lib.hid (HBK.out.keep hb)
        replace HMA := Lib.hid (HMA.out.keep hb)
        clear hb
        clear p0 p9 p10 p11 p12
        by_cases hz : cl = 0
        · rw [decide_eq_true hz, Bool.true_and] at hres
          subst hz
          have p0 : (w3).cell? ⟨w.heap.size, 0, none⟩ = some (.int .i64 m.K) := by rw [HBK.out.cell]; rfl
          rw [hk] at p0
          have HRES := Lib.hid hres
          clear hres
          go_wp2
          go_ret
          exact ⟨by rw [HFIN.out, HRES.out]; rfl, HB.out⟩
        · rw [decide_eq_false hz, Bool.false_and] at hres
          have hz2 : (cl == 0) = false := beq_eq_false_iff_ne.2 hz
          have p0 : (w3).cell? ⟨w.heap.size, 0, none⟩ = some (.int .i64 m.K) := by rw [HBK.out.cell]; rfl
          rw [hk] at p0
          have HRES := Lib.hid hres
          clear hres hz
          go_wp2
          go_ret
          exact ⟨by rw [HFIN.out, HRES.out]; rfl, HB.out⟩
      · rw [if_neg (by omega)] at hres
        have i3 : m.K ≤ 4 := hk.2
        have i5 : (m.K == 5) = false := beq_eq_false_iff_ne.2 (by omega)
        have i6 : (m.K == 6) = false := beq_eq_false_iff_ne.2 (by omega)
        clear hk hkk
        have p0 : (w5).cell? ⟨w.heap.size, 0, none⟩ = some (.int .i64 m.K) := by rw [HBK.out.cell]; rfl
        have p1 : (w5).cell? ⟨w.heap.size, 1, none⟩ = some (.int .u64 m.T) := by rw [HBK.out.cell]; rfl
        have p2 : (w5).cell? ⟨w.heap.size, 2, none⟩ = some (.int .i64 m.P) := by rw [HBK.out.cell]; rfl
        by_cases h1 : 1 ≤ m.T
        · rw [decide_eq_true h1, Bool.true_and] at hres
          go_wp2_with fail
          refine (rplace_any _ _).mono ?_
          rintro e w3 ⟨rfl, rfl⟩
          by_cases h2 : placeB m.P = true
          · have hPP := placeB_iff.1 h2
            rw [h2] at hres ⊢
            rw [Bool.true_and] at hres
            have p7 : (w5).cell? ⟨w.heap.size, 7, none⟩ = some (.int .i64 m.M) := by rw [HBK.out.cell]; rfl
            have HPP := Lib.hid hPP
            clear hPP h2
            go_wp2_with fail
            refine (rplace_any _ _).mono ?_
            rintro e w4 ⟨rfl, rfl⟩
            by_cases h3 : placeB m.M = true
            · rw [h3] at hres ⊢
              rw [Bool.true_and] at hres
              clear h3
              have p5 : (w5).cell? ⟨w.heap.size, 5, none⟩ = some (.int .i64 m.C) := by rw [HBK.out.cell]; rfl
              go_wp2_with fail
              refine (rplace_any _ _).mono ?_
              rintro e w6 ⟨rfl, rfl⟩
              by_cases h4 : placeB m.C = true
              · rw [h4] at hres ⊢
                rw [Bool.true_and] at hres
                clear h4
                have p3 : (w5).cell? ⟨w.heap.size, 3, none⟩ = some (.int .u64 m.PT) := by rw [HBK.out.cell]; rfl
                have p8 : (w5).cell? ⟨w.heap.size, 8, none⟩ = some (.int .i64 m.S) := by rw [HBK.out.cell]; rfl
                obtain ⟨x1, hx1⟩ : ∃ b, (m.PT == 0) = b := ⟨_, rfl⟩
                obtain ⟨x2, hx2⟩ : ∃ b, (m.P == 0) = b := ⟨_, rfl⟩
                have e1 : decide (m.PT = 0) = x1 := by rw [← hx1]; rfl
                have e2 : decide (m.P = 0) = x2 := by rw [← hx2]; rfl
                rw [e1, e2] at hres
                clear e1 e2
                by_cases h5 : x1 = x2
                · have e3 : (x1 == x2) = true := by simpa using h5
                  rw [e3, Bool.true_and] at hres
                  clear h5
                  by_cases h6 : 0 ≤ m.S
                  · rw [decide_eq_true h6, Bool.true_and] at hres
                    go_wp2_with (first | refine wpList_wanted_run (by rfl) (.agg ma) (exec_load_blk 33 _ rfl w.heap.size rfl _ HMA.out Tryz.underlying33 rfl HSZ.out) ?_)
                    refine (HENT.out _ HB.out HPP.out).mono ?_
                    rintro e w7 ⟨rfl, hb⟩
                    replace HB := Lib.hid (HB.out.trans (hb.mono HB.out.size))
                    replace HBK := Lib.hid (HBK.out.keep hb)
                    have HRES := Lib.hid hres
                    clear hres hb p0 p1 p2 p3 p5 p7 p8 HMA
                    have p0 : (w7).cell? ⟨w.heap.size, 0, none⟩ = some (.int .i64 m.K) := by rw [HBK.out.cell]; rfl
                    cases eb with
                    | true =>
                      go_wp2
                      go_ret
                      exact ⟨by rw [HFIN.out, HRES.out]; rfl, HB.out⟩
                    | false =>
                      go_wp2
                      go_ret
                      exact ⟨by rw [HFIN.out, HRES.out]; rfl, HB.out⟩
                  · rw [decide_eq_false h6, Bool.false_and] at hres
                    have k6 : decide (0 ≤ m.S) = false := decide_eq_false h6
                    clear h6
                    have HRES := Lib.hid hres
                    clear hres
                    go_wp2
                    go_ret
                    exact ⟨by rw [HFIN.out, HRES.out]; rfl, HB.out⟩
                · have e3 : (x1 == x2) = false := by simpa using h5
                  rw [e3, Bool.false_and] at hres
                  clear h5
                  have HRES := Lib.hid hres
                  clear hres
                  go_wp2
                  go_ret
                  exact ⟨by rw [HFIN.out, HRES.out]; rfl, HB.out⟩
              · have k4 : placeB m.C = false := by simpa using h4
                rw [k4] at hres ⊢
                rw [Bool.false_and] at hres
                clear h4 k4
                have HRES := Lib.hid hres
                clear hres
                go_wp2
                go_ret
                exact ⟨by rw [HFIN.out, HRES.out]; rfl, HB.out⟩
            · have k3 : placeB m.M = false := by simpa using h3
              rw [k3] at hres ⊢
              rw [Bool.false_and] at hres
              clear h3 k3
              have HRES := Lib.hid hres
              clear hres
              go_wp2
              go_ret
              exact ⟨by rw [HFIN.out, HRES.out]; rfl, HB.out⟩
          · have k2 : placeB m.P = false := by simpa using h2
            rw [k2] at hres ⊢
            rw [Bool.false_and] at hres
            clear h2 k2
            have HRES := Lib.hid hres
            clear hres
            go_wp2
            go_ret
            exact ⟨by rw [HFIN.out, HRES.out]; rfl, HB.out⟩
        · rw [decide_eq_false h1, Bool.false_and] at hres
          have k1 : decide (1 ≤ m.T) = false := decide_eq_false h1
          clear h1
          have HRES := Lib.hid hres
          clear hres
          go_wp2
          go_ret
          exact ⟨by rw [HFIN.out, HRES.out]; rfl, HB.out⟩
end Go.Proofs.YtikimmhkfjaijaaGreat
