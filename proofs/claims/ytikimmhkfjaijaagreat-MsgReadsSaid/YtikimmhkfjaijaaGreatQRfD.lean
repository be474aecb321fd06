/-
  LINES: the reference (printed by wip/gen-msgbase.py).
-/
import Derived.Test.YtikimmhkfjaijaaGreatQLnB
namespace Go.Proofs.YtikimmhkfjaijaaGreat
open Go.RowKit Reg

theorem guids_any (v v' : Value) (gs hs : List Gd) (w : World) (hv : InG w v gs) (hv' : InG w v' hs) :
    Calls Tryz.prog 61 #[v, v'] w fun e w' => e = .returned (.bool (decide (gs = hs))) ∧ Below w.heap.size w w' := by
  obtain ⟨a, c, rfl, -, hx⟩ := hv.open_
  obtain ⟨a', c', rfl, -, hx'⟩ := hv'.open_
  have hneq := run_neq_guid
  by_cases hl : gs.length = hs.length
  · rw [← hl] at hx' ⊢
    have hres : ∀ b, (b = true ↔ ∀ j, j < gs.length → gs.getD j (0, 0) = hs.getD j (0, 0)) → decide (gs = hs) = b := by
      intro b hb
      rw [Bool.eq_iff_iff, hb, decide_eq_true_iff]
      exact ⟨fun h => h ▸ fun _ _ => rfl, eqG_of_getD hl⟩
    generalize decide (gs = hs) = b at *
    generalize hZ : (fun j => gs.getD j (0, 0)) = Z at *
    generalize hZ' : (fun j => hs.getD j (0, 0)) = Z' at *
    have g1 : ∀ j, gs.getD j (0, 0) = Z j := fun j => by subst hZ; rfl
    have g2 : ∀ j, hs.getD j (0, 0) = Z' j := fun j => by subst hZ'; rfl
    simp only [g1] at hx hres
    simp only [g2] at hx' hres
    have hn := hv.2.1
    clear hZ hZ' hv hv' hl g1 g2
    generalize gs.length = n at *
    have HX := Lib.hid hx
    have HX' := Lib.hid hx'
    have HR := Lib.hid hres
    have HN := Lib.hid hn
    clear hx hx' hres hn
    go_enter Tryz.func61, Tryz.ntmps61
    go_wp2_with fail
    go_loopw [5] (fun i wr => ∃ k : Nat, k ≤ n ∧ (∀ j, j < k → Z j = Z' j) ∧ i = .int .i64 k ∧ Below w.heap.size w wr) (fun i _ => n - (intOf i).toNat)
    case atStart => exact ⟨0, Nat.zero_le _, fun j hj => by omega, rfl, Below.refl _ _⟩
    case round =>
      obtain ⟨k, hk, hq, rfl, hb⟩ := hrel
      have HB := Lib.hid hb
      have HQ := Lib.hid hq
      clear hb hq
      by_cases hkn : k < n
      · obtain ⟨g, off, rfl, hc, hd⟩ := HX.out k hkn
        obtain ⟨g', off', rfl, hc', hd'⟩ := HX'.out k hkn
        have hc1 := cell_later HB.out hc
        have hc2 := cell_later HB.out hd
        have hc3 := cell_later HB.out hc'
        have hc4 := cell_later HB.out hd'
        have i1 : (k : Int) < (n : Int) := by omega
        have hn := HN.out
        unfold maxLen at hn
        have k9 : (k : Int) < 9223372036854775807 := by omega
        have HKN := Lib.hid hkn
        clear hc hd hc' hd' hkn hn
        by_cases hz : sameG (Z k) (Z' k) = true
        · have hzz := sameG_iff.1 hz
          unfold sameG at hz
          have HZ := Lib.hid hzz
          clear hzz
          go_wp2_with fail
          go_quiet (fail)
          have HB1 := Lib.hid (below_drewN HB.out nq)
          clear HB
          have hkn := HKN.out
          go_wp2
          refine ⟨⟨k + 1, by omega, ?_, by go_num, HB1.out⟩, by simp [intOf]; omega⟩
          intro j hj
          rcases Nat.lt_succ_iff_lt_or_eq.1 hj with h | rfl
          · exact HQ.out j h
          · exact HZ.out
        · have hb : b = false := HR.out false ⟨(fun h => by cases h), fun h => absurd (sameG_iff.2 (h k HKN.out)) hz⟩
          have hz2 : sameG (Z k) (Z' k) = false := by simpa using hz
          unfold sameG at hz2
          have HBB := Lib.hid hb
          clear hb hz
          go_wp2_with fail
          go_quiet (fail)
          have HB1 := Lib.hid (below_drewN HB.out nq)
          clear HB
          go_wp2
          go_ret
          exact ⟨by rw [HBB.out]; rfl, HB1.out⟩
      · obtain rfl : k = n := by omega
        have hb : b = true := HR.out true ⟨fun _ => HQ.out, fun _ => rfl⟩
        have HBB := Lib.hid hb
        clear hb
        go_wp2
        go_ret
        exact ⟨by rw [HBB.out]; rfl, HB.out⟩
  · have hd : decide (gs = hs) = false := by
      rw [decide_eq_false_iff_not]
      rintro rfl
      exact hl rfl
    have i1 : ((gs.length : Int) == (hs.length : Int)) = false := by simp; omega
    have i2 : ¬ (gs.length : Int) = (hs.length : Int) := by omega
    rw [hd]
    clear hx hx' hv hv' hd hneq
    generalize gs.length = n at *
    generalize hs.length = n' at *
    go_enter Tryz.func61, Tryz.ntmps61
    go_wp2
    go_ret
    exact ⟨rfl, Below.refl _ _⟩

theorem laboveR_any (g h : Gd) (w : World) : Calls Tryz.prog 55 #[.agg #[.int .u64 g.1, .int .u64 g.2], .agg #[.int .u64 h.1, .int .u64 h.2]] w fun e w' => e = .returned (.bool (aboveG g h)) ∧ Below w.heap.size w w' := by
  obtain ⟨a, b⟩ := g
  obtain ⟨c, d⟩ := h
  obtain ⟨r, hr⟩ : ∃ r, r = aboveG (a, b) (c, d) := ⟨_, rfl⟩
  rw [← hr]
  unfold aboveG at hr
  simp only at hr ⊢
  have hb := ((Below.refl w.heap.size w).alloc (Nat.le_refl _) (Obj.cells #[.int .u64 a, .int .u64 b] 28)).alloc (by simp) (Obj.cells #[.int .u64 c, .int .u64 d] 28)
  have HB := Lib.hid hb
  clear hb
  have hs : (c < a ∧ r = true) ∨ (¬ c < a ∧ ¬ a = c ∧ r = false) ∨ (a = c ∧ d < b ∧ r = true) ∨ (a = c ∧ ¬ d < b ∧ r = false) := by
    by_cases h1 : c < a
    · exact .inl ⟨h1, by rw [hr]; simp [h1]⟩
    · by_cases h2 : a = c
      · by_cases h3 : d < b
        · exact .inr (.inr (.inl ⟨h2, h3, by rw [hr]; simp [h2, h3]⟩))
        · exact .inr (.inr (.inr ⟨h2, h3, by rw [hr]; simp [h2, h3]⟩))
      · exact .inr (.inl ⟨h1, h2, by rw [hr]; simp [h1, h2]⟩)
  clear hr
  rcases hs with ⟨h1, rfl⟩ | ⟨h1, h2, rfl⟩ | ⟨rfl, h3, rfl⟩ | ⟨rfl, h3, rfl⟩
  all_goals
    go_enter Tryz.func55, Tryz.ntmps55
    go_wp2
    go_ret
    exact ⟨rfl, HB.out⟩

theorem sameS_any (v v' : Value) (x y : Ln) (w : World) (hv : InL w v x) (hv' : InL w v' y) :
    Calls Tryz.prog 35 #[v, v'] w fun e w' => e = .returned (.bool (sameL x y)) ∧ Below w.heap.size w w' := by
  obtain ⟨sl, rfl, hs, -, -⟩ := hv
  obtain ⟨sl', rfl, hs', -, -⟩ := hv'
  have hg := fun w1 hb => guids_any sl sl' x.l y.l w1 (hs.keep (w' := w1) hb) (hs'.keep hb)
  have hr : ∃ r, r = sameL x y := ⟨_, rfl⟩
  obtain ⟨r, hr⟩ := hr
  rw [← hr]
  obtain ⟨E, B, L, l⟩ := x
  obtain ⟨E', B', L', l'⟩ := y
  simp only at hg hr ⊢
  have hsl : (¬ E = E' ∧ r = false) ∨ (E = E' ∧ ¬ B = B' ∧ r = false) ∨ (E = E' ∧ B = B' ∧ (L == L') = false ∧ r = false) ∨ (E = E' ∧ B = B' ∧ L = L' ∧ r = decide (l = l')) := by
    have hi := @sameL_iff ⟨E, B, L, l⟩ ⟨E', B', L', l'⟩
    rw [← hr, Ln.mk.injEq] at hi
    by_cases h1 : E = E'
    · by_cases h2 : B = B'
      · by_cases h3 : L = L'
        · refine .inr (.inr (.inr ⟨h1, h2, h3, ?_⟩))
          rw [Bool.eq_iff_iff, hi, decide_eq_true_iff]
          exact ⟨fun h => h.2.2.2, fun h => ⟨h1, h2, h3, h⟩⟩
        · refine .inr (.inr (.inl ⟨h1, h2, by simpa using h3, ?_⟩))
          rw [Bool.eq_false_iff, ne_eq, hi]
          exact fun h => h3 h.2.2.1
      · refine .inr (.inl ⟨h1, h2, ?_⟩)
        rw [Bool.eq_false_iff, ne_eq, hi]
        exact fun h => h2 h.2.1
    · refine .inl ⟨h1, ?_⟩
      rw [Bool.eq_false_iff, ne_eq, hi]
      exact fun h => h1 h.1
  generalize decide (l = l') = q at *
  have HG := Lib.hid hg
  clear hs hs' hg hr
  rcases hsl with ⟨h1, rfl⟩ | ⟨rfl, h2, rfl⟩ | ⟨rfl, rfl, h3, rfl⟩ | ⟨rfl, rfl, rfl, rfl⟩
  · go_enter Tryz.func35, Tryz.ntmps35
    go_wp2
    go_ret
    exact ⟨rfl, ((Below.refl _ _).alloc (Nat.le_refl _) _).alloc (by simp) _⟩
  · go_enter Tryz.func35, Tryz.ntmps35
    go_wp2
    go_ret
    exact ⟨rfl, ((Below.refl _ _).alloc (Nat.le_refl _) _).alloc (by simp) _⟩
  · go_enter Tryz.func35, Tryz.ntmps35
    go_wp2
    go_ret
    exact ⟨rfl, ((Below.refl _ _).alloc (Nat.le_refl _) _).alloc (by simp) _⟩
  · go_enter Tryz.func35, Tryz.ntmps35
    go_wp2_with fail
    refine (HG.out _ (((Below.refl _ _).alloc (Nat.le_refl _) _).alloc (by simp) _)).mono ?_
    rintro e w1 ⟨rfl, hb⟩
    have HB := Lib.hid ((((Below.refl w.heap.size w).alloc (Nat.le_refl _) _).alloc (by simp) _).trans (hb.mono (by simp; omega)))
    clear hb HG
    go_wp2
    go_ret
    exact ⟨rfl, HB.out⟩

set_option maxRecDepth 100000 in
theorem lcheckR_any (v : Value) (x : Ln) (w : World) (hv : InL w v x) :
    Calls Tryz.prog 28 #[v] w fun e w' => e = .returned (.int .i64 (checkL x)) ∧ Below w.heap.size w w' := by
  obtain ⟨sl, rfl, hs, -, -⟩ := hv
  obtain ⟨E, B, L, l⟩ := x
  obtain ⟨r, hr⟩ : ∃ r, r = checkL ⟨E, B, L, l⟩ := ⟨_, rfl⟩
  rw [← hr]
  unfold checkL at hr
  simp only at hr hs ⊢
  obtain ⟨a, c, rfl, -, hxx⟩ := hs.open_
  obtain ⟨RL, hR0, hR1, hR2⟩ := rises_at E l
  rw [← hR0] at hr
  clear hR0 hs
  generalize hZ : (fun j => (l.getD j (0, 0))) = Z at *
  have g1 : ∀ j, l.getD j (0, 0) = Z j := fun j => by subst hZ; rfl
  simp only [g1] at hxx hR1
  clear hZ g1
  generalize l.length = n at *
  have hb0 := ((Below.refl w.heap.size w).alloc (Nat.le_refl _) (Obj.cells #[.int .u64 E, .int .i64 B, .bool L, .slice a n c] 26)).alloc (by simp) (Obj.cells #[.int .u64 0, .int .u64 0] 28)
  have hbx := (Blk.new w 26 #[.int .u64 E, .int .i64 B, .bool L, .slice a n c]).alloc (Obj.cells #[.int .u64 0, .int .u64 0] 28)
  have hbl := Blk.newAt (w := w.alloc (Obj.cells #[.int .u64 E, .int .i64 B, .bool L, .slice a n c] 26)) 28 #[.int .u64 0, .int .u64 0] (g := w.heap.size + 1) (by simp)
  have HB0 := Lib.hid hb0
  have HBX := Lib.hid hbx
  have HBL := Lib.hid hbl
  clear hb0 hbx hbl
  have hr1 : 20 < n → r = 3 := fun h => by rw [hr, if_pos h]
  have hr2 : ¬ 20 < n → RL 0 (0, 0) = false → r = 2 := fun h h2 => by rw [hr, if_neg h, h2]; simp
  have hr3 : ¬ 20 < n → RL 0 (0, 0) = true → ¬ (0 ≤ B ∧ B ≤ n) → r = 2 := fun h h2 h3 => by rw [hr, if_neg h, if_neg]; exact fun q => h3 q.2
  have hr4 : ¬ 20 < n → RL 0 (0, 0) = true → (0 ≤ B ∧ B ≤ n) → r = 0 := fun h h2 h3 => by rw [hr, if_neg h, if_pos]; exact ⟨h2, h3⟩
  have HR1 := Lib.hid hr1
  have HR2 := Lib.hid hr2
  have HR3 := Lib.hid hr3
  have HR4 := Lib.hid hr4
  have HX := Lib.hid hxx
  have HL1 := Lib.hid hR1
  have HL2 := Lib.hid hR2
  clear hr hr1 hr2 hr3 hr4 hxx hR1 hR2
  by_cases h1 : 20 < n
  · have i1 : (20 : Int) < (n : Int) := by omega
    obtain rfl := HR1.out h1
    go_enter Tryz.func28, Tryz.ntmps28
    go_wp2
    go_ret
    exact ⟨rfl, (Below.refl _ _).alloc (Nat.le_refl _) _⟩
  · have i1 : ¬ ((20 : Int) < (n : Int)) := by omega
    have HN := Lib.hid h1
    clear h1
    go_enter Tryz.func28, Tryz.ntmps28
    go_wp2_with (refine wpList_store_then rfl 28 _ _ rfl (w.heap.size + 1) #[.int .u64 0, .int .u64 0] rfl rfl 28 _ HBL.out (by kernel_rfl) rfl (lgcells_one _ _) ?_)
    refine Later.mk fun w6 hw6 => ?_
    have hbx6 : Blk w6 w.heap.size 26 #[.int .u64 E, .int .i64 B, .bool L, .slice a n c] := by
      rw [hw6]
      exact HBX.out.farRow (by omega) _
    have hb6 : Below w.heap.size w w6 := by rw [hw6]; exact Below.setRow HB0.out (by omega) _
    have hl6 : Blk w6 (w.heap.size + 1) 28 #[.int .u64 0, .int .u64 0] := by rw [hw6]; exact HBL.out.row _
    have HB6 := Lib.hid hb6
    have HX6 := Lib.hid hbx6
    have HL6 := Lib.hid hl6
    clear hb6 hw6 hbx6 hl6 HB0 HBX HBL i1
    go_wp2_with fail
    go_loopw [4] (fun i wr => ∃ (k : Nat) (last : Gd), k ≤ n ∧ i = .int .i64 k ∧ RL k last = RL 0 (0, 0) ∧ Blk wr (w.heap.size + 1) 28 #[.int .u64 last.1, .int .u64 last.2] ∧ Below (w.heap.size + 1) w6 wr) (fun i _ => n - (intOf i).toNat)
    case atStart => exact ⟨0, (0, 0), Nat.zero_le _, rfl, rfl, HL6.out, Below.refl _ _⟩
    case round =>
      obtain ⟨k, last, hk, rfl, hq, hl, hb⟩ := hrel
      have HQ := Lib.hid hq
      have HL := Lib.hid hl
      have HB := Lib.hid hb
      have hbx := HX6.out.below hb (Nat.lt_succ_self _)
      have HBX := Lib.hid hbx
      have HBB := Lib.hid (HB6.out.trans (hb.mono (Nat.le_succ _)))
      have c0 := hbx.cell 0
      have c1 := hbx.cell 1
      have c3 := hbx.cell 3
      simp at c0 c1 c3
      clear hq hb hbx
      by_cases hkn : k < n
      · obtain ⟨g, off, rfl, hc, hd⟩ := HX.out k hkn
        have hc1 := cell_later HBB.out hc
        have hc2 := cell_later HBB.out hd
        have HC1 := Lib.hid hc
        have HC2 := Lib.hid hd
        have i1 : (k : Int) < (n : Int) := by omega
        have k9 : (k : Int) < 9223372036854775807 := by have := HN.out; omega
        have hr1 := HL1.out k last hkn
        rw [HQ.out] at hr1
        have hab := fun w1 => laboveR_any (Z k) last w1
        have hwr : wrongG E last (Z k) = (!aboveG (Z k) last || decide (E < (Z k).1)) := rfl
        generalize wrongG E last (Z k) = wg at *
        generalize aboveG (Z k) last = ab at *
        generalize Z k = z at *
        obtain ⟨z1, z2⟩ := z
        obtain ⟨y1, y2⟩ := last
        have hlt := hl.lt
        have d0 := hl.cell 0
        have d1 := hl.cell 1
        simp at d0 d1
        have HR := Lib.hid hr1
        have HKN := Lib.hid hkn
        have HAB := Lib.hid hab
        clear hc hd hr1 hkn hl hab
        simp only at hwr
        have hs : (ab = false ∧ wg = true) ∨ (ab = true ∧ E < z1 ∧ wg = true) ∨ (ab = true ∧ decide (E < z1) = false ∧ wg = false) := by
          cases ab with
          | false => exact .inl ⟨rfl, by rw [hwr]; rfl⟩
          | true =>
            by_cases h1 : E < z1
            · exact .inr (.inl ⟨rfl, h1, by rw [hwr]; simp [h1]⟩)
            · exact .inr (.inr ⟨rfl, decide_eq_false h1, by rw [hwr]; simp [h1]⟩)
        clear hwr
        have e1 : ∀ q : Bw wr, q.w.cell? ⟨g, off + k * 2, none⟩ = some (.int .u64 z1) := fun q => q.cell hc1
        have e2 : ∀ q : Bw wr, q.w.cell? ⟨g, off + k * 2 + 1, none⟩ = some (.int .u64 z2) := fun q => q.cell hc2
        have e3 : ∀ q : Bw wr, q.w.cell? ⟨w.heap.size + 1, 0, none⟩ = some (.int .u64 y1) := fun q => q.cell d0
        have e4 : ∀ q : Bw wr, q.w.cell? ⟨w.heap.size + 1, 1, none⟩ = some (.int .u64 y2) := fun q => q.cell d1
        have e5 : ∀ q : Bw wr, q.w.cell? ⟨w.heap.size, 0, none⟩ = some (.int .u64 E) := fun q => q.cell c0
        have e6 : ∀ q : Bw wr, q.w.cell? ⟨w.heap.size, 3, none⟩ = some (.slice (some ⟨g, off, none⟩) n c) := fun q => q.cell c3
        go_wp2_with fail
        clear hc1 hc2 d0 d1 c0 c1
        rcases hs with ⟨rfl, rfl⟩ | ⟨rfl, h1, rfl⟩ | ⟨rfl, h1, rfl⟩
        rotate_left 2
        · refine wp_region_below (by kernel_rfl) (by kernel_rfl) ?_
          repeat (go_big_quiet_step (first | (go_at_call 55; exact below_call (HAB.out _))))
          refine wpQuiet_nil ?_
          intro w7 hb7
          have HL7 := Lib.hid (HL.out.keep hb7)
          have HB7 := Lib.hid (HB.out.trans (hb7.mono (Nat.le_of_lt hlt)))
          have hx7 := HBX.out.keep hb7
          have q3 := hx7.cell 3
          simp at q3
          have hbb7 := HBB.out.trans (hb7.mono HBB.out.size)
          have q1 := cell_later hbb7 HC1.out
          have q2 := cell_later hbb7 HC2.out
          have hr := HR.out
          rw [Bool.not_false, Bool.true_and] at hr
          have HRR := Lib.hid hr.symm
          have hfin : ∀ w8, w8 = w7.setRow (w.heap.size + 1) #[.int .u64 z1, .int .u64 z2] → Blk w8 (w.heap.size + 1) 28 #[.int .u64 z1, .int .u64 z2] ∧ Below (w.heap.size + 1) w6 w8 := by
            rintro w8 rfl
            exact ⟨HL7.out.row _, Below.setRow HB7.out (Nat.le_refl _) _⟩
          have HFIN := Lib.hid hfin
          clear hb7 hx7 hbb7 hr hfin e1 e2 e3 e4 e5 e6 HAB h1 HBX HBB HC1 HC2
          go_wp2_with (refine wpList_store_then rfl 28 _ _ rfl (w.heap.size + 1) #[.int .u64 z1, .int .u64 z2] rfl rfl 28 _ HL7.out (by kernel_rfl) rfl (lgcells_one _ _) ?_)
          refine Later.mk fun w8 hw8 => ?_
          have HF := Lib.hid (HFIN.out w8 hw8)
          clear hw8 HFIN
          go_wp2
          have hkn := HKN.out
          refine ⟨⟨k + 1, (z1, z2), by omega, by go_num, HRR.out, HF.out.1, HF.out.2⟩, by simp [intOf]; omega⟩
        all_goals
          have hr := HR.out
          rw [Bool.not_true, Bool.false_and] at hr
          obtain rfl := HR2.out HN.out hr
          clear hr
          refine wp_region_below (by kernel_rfl) (by kernel_rfl) ?_
          repeat (go_big_quiet_step (first | (go_at_call 55; exact below_call (HAB.out _))))
          refine wpQuiet_nil ?_
          intro w7 hb7
          have HB7 := Lib.hid (HBB.out.trans (hb7.mono HBB.out.size))
          clear hb7 e1 e2 e3 e4 e5 e6 HAB
          go_wp2
          go_ret
          exact ⟨rfl, HB7.out⟩
      · obtain rfl : k = n := by omega
        have hr := HL2.out last
        rw [HQ.out] at hr
        have HRR := Lib.hid hr
        have HK := Lib.hid hk
        clear hr hkn hl hk
        by_cases h2 : B < 0
        · obtain rfl := HR3.out HN.out HRR.out (by omega)
          go_wp2
          go_ret
          exact ⟨rfl, HBB.out⟩
        · have h4 : 0 ≤ B := by omega
          clear h2
          by_cases h3 : (k : Int) < B
          · obtain rfl := HR3.out HN.out HRR.out (by omega)
            go_wp2
            go_ret
            exact ⟨rfl, HBB.out⟩
          · obtain rfl := HR4.out HN.out HRR.out (by omega)
            have h5 : B ≤ (k : Int) := by omega
            clear h3
            go_wp2
            go_ret
            exact ⟨rfl, HBB.out⟩
end Go.Proofs.YtikimmhkfjaijaaGreat
