/-
  MAY A LINE BE, both ways, joined; two lines compared, the reference's way.
-/
import Derived.Test.YtfkgidljgbhccaaLineCheck
namespace Go.Proofs.Ytfkgidljgbhccaa
open Go.RowKit Reg

set_option maxRecDepth 100000 in
theorem check_any (v : Value) (x : Ln) (w : World) (hv : InL w v x) :
    Calls Try.prog 19 #[v] w fun e w' => e = .returned (.int .i64 (checkL x)) ∧ Below w.heap.size w w' := by
  have hmf : ∀ (fn : Fn) (first cap : Array Value) (w : World), (Instr.makeFunc fn first cap).run Try.prog w = .ok (.func fn first cap) w := fun _ _ _ _ => rfl
  obtain ⟨sl, rfl, hs, -, -⟩ := hv
  obtain ⟨E, B, L, l⟩ := x
  obtain ⟨r, hr⟩ : ∃ r, r = checkL ⟨E, B, L, l⟩ := ⟨_, rfl⟩
  rw [← hr]
  unfold checkL at hr
  simp only at hr hs ⊢
  have hcn := fun bl bx w1 => contains_any bl bx E B L sl sl l w w1 hs
  obtain ⟨a, c, rfl, -, -⟩ := hs.open_
  have hb0 := ((Below.refl w.heap.size w).alloc (Nat.le_refl _) (Obj.cells #[.int .u64 E, .int .i64 B, .bool L, .slice a l.length c] 25)).alloc (by simp) (Obj.cells #[.int .u64 0, .int .u64 0] 32)
  have hbx := (Blk.new w 25 #[.int .u64 E, .int .i64 B, .bool L, .slice a l.length c]).alloc (Obj.cells #[.int .u64 0, .int .u64 0] 32)
  have hbl := Blk.newAt (w := w.alloc (Obj.cells #[.int .u64 E, .int .i64 B, .bool L, .slice a l.length c] 25)) 32 #[.int .u64 0, .int .u64 0] (g := w.heap.size + 1) (by simp)
  generalize hrr : rises E (0, 0) l = rr at *
  have hs3 : (20 < l.length ∧ r = 3) ∨ (¬ 20 < l.length ∧ rr = false ∧ r = 2) ∨ (¬ 20 < l.length ∧ rr = true ∧ B < 0 ∧ r = 2) ∨ (¬ 20 < l.length ∧ rr = true ∧ 0 ≤ B ∧ (l.length : Int) < B ∧ r = 2) ∨ (¬ 20 < l.length ∧ rr = true ∧ 0 ≤ B ∧ B ≤ (l.length : Int) ∧ r = 0) := by
    by_cases h1 : 20 < l.length
    · rw [if_pos h1] at hr
      exact .inl ⟨h1, hr⟩
    · rw [if_neg h1] at hr
      cases rr with
      | false => exact .inr (.inl ⟨h1, rfl, by rw [hr]; simp⟩)
      | true =>
        by_cases h2 : B < 0
        · exact .inr (.inr (.inl ⟨h1, rfl, h2, by rw [hr, if_neg (by omega)]⟩))
        · by_cases h3 : (l.length : Int) < B
          · exact .inr (.inr (.inr (.inl ⟨h1, rfl, by omega, h3, by rw [hr, if_neg (by omega)]⟩)))
          · exact .inr (.inr (.inr (.inr ⟨h1, rfl, by omega, by omega, by rw [hr, if_pos ⟨rfl, by omega, by omega⟩]⟩)))
  clear hrr hr
  have HB0 := Lib.hid hb0
  have HBX := Lib.hid hbx
  have HBL := Lib.hid hbl
  have HCN := Lib.hid hcn
  clear hs hb0 hcn
  generalize l.length = n at *
  rcases hs3 with ⟨h1, rfl⟩ | ⟨h1, rfl, rfl⟩ | ⟨h1, rfl, h2, rfl⟩ | ⟨h1, rfl, h2, h3, rfl⟩ | ⟨h1, rfl, h2, h3, rfl⟩
  · have i1 : (20 : Int) < (n : Int) := by omega
    have c3 := hbx.cell 3
    simp at c3
    clear hbx hbl
    go_enter Try.func19, Try.ntmps19
    go_wp2_with (refine wpList_store_then rfl 32 _ _ rfl (w.heap.size + 1) #[.int .u64 0, .int .u64 0] rfl rfl 32 _ HBL.out (by kernel_rfl) rfl (gcells_one _ _) ?_)
    refine Later.mk fun w6 hw6 => ?_
    have c3 : w6.cell? ⟨w.heap.size, 3, none⟩ = some (.slice a n c) := by
      rw [hw6, (HBX.out.farRow (by omega) _).cell 3]
      rfl
    have hb6 : Below w.heap.size w w6 := by rw [hw6]; exact Below.setRow HB0.out (by omega) _
    have HB6 := Lib.hid hb6
    clear hb6 hw6
    go_wp2
    go_ret
    exact ⟨rfl, HB6.out⟩
  all_goals
    have i1 : ¬ ((20 : Int) < (n : Int)) := by omega
    clear hbx hbl h1
    go_enter Try.func19, Try.ntmps19
    go_wp2_with (refine wpList_store_then rfl 32 _ _ rfl (w.heap.size + 1) #[.int .u64 0, .int .u64 0] rfl rfl 32 _ HBL.out (by kernel_rfl) rfl (gcells_one _ _) ?_)
    refine Later.mk fun w6 hw6 => ?_
    have hbx6 : Blk w6 w.heap.size 25 #[.int .u64 E, .int .i64 B, .bool L, .slice a n c] := by
      rw [hw6]
      exact HBX.out.farRow (by omega) _
    have c3 := hbx6.cell 3
    simp at c3
    have hb6 : Below w.heap.size w w6 := by rw [hw6]; exact Below.setRow HB0.out (by omega) _
    have hl6 : Blk w6 (w.heap.size + 1) 32 #[.int .u64 0, .int .u64 0] := by rw [hw6]; exact HBL.out.row _
    have HB6 := Lib.hid hb6
    have HX6 := Lib.hid hbx6
    have HL6 := Lib.hid hl6
    clear hb6 hw6 hbx6 hl6
    go_wp2_with fail
    refine (HCN.out (w.heap.size + 1) w.heap.size w6 HB6.out (Nat.le_refl _) (Nat.lt_succ_self _) HL6.out HX6.out).mono ?_
    rintro e w7 ⟨rfl, hb⟩
    have hx7 := HX6.out.below hb (Nat.lt_succ_self _)
    have c1 := hx7.cell 1
    have c3 := hx7.cell 3
    simp at c1 c3
    have HB7 := Lib.hid (HB6.out.trans (hb.mono (Nat.le_succ _)))
    clear hx7 hb i1
    go_wp2
    go_ret
    exact ⟨rfl, HB7.out⟩

theorem sameS_any (v v' : Value) (x y : Ln) (w : World) (hv : InL w v x) (hv' : InL w v' y) :
    Calls Try.prog 10 #[v, v'] w fun e w' => e = .returned (.bool (sameL x y)) ∧ Below w.heap.size w w' := by
  obtain ⟨sl, rfl, hs, -, -⟩ := hv
  obtain ⟨sl', rfl, hs', -, -⟩ := hv'
  have hg := fun w1 hb => guids_any sl sl' x.l y.l w1 (hs.keep (w' := w1) hb) (hs'.keep hb)
  have hr : ∃ r, r = sameL x y := ⟨_, rfl⟩
  obtain ⟨r, hr⟩ := hr
  rw [← hr]
  obtain ⟨E, B, L, l⟩ := x
  obtain ⟨E', B', L', l'⟩ := y
  simp only at hg hr ⊢
  have hsl : (¬ E = E' ∧ r = false) ∨ (E = E' ∧ ¬ B = B' ∧ r = false) ∨ (E = E' ∧ B = B' ∧ (L == L') = false ∧ r = false) ∨ (E = E' ∧ B = B' ∧ L = L' ∧ r = decide (l = l')) := by
    have hi := @sameL_iff ⟨E, B, L, l⟩ ⟨E', B', L', l'⟩
    rw [← hr, Ln.mk.injEq] at hi
    by_cases h1 : E = E'
    · by_cases h2 : B = B'
      · by_cases h3 : L = L'
        · refine .inr (.inr (.inr ⟨h1, h2, h3, ?_⟩))
          rw [Bool.eq_iff_iff, hi, decide_eq_true_iff]
          exact ⟨fun h => h.2.2.2, fun h => ⟨h1, h2, h3, h⟩⟩
        · refine .inr (.inr (.inl ⟨h1, h2, by simpa using h3, ?_⟩))
          rw [Bool.eq_false_iff, ne_eq, hi]
          exact fun h => h3 h.2.2.1
      · refine .inr (.inl ⟨h1, h2, ?_⟩)
        rw [Bool.eq_false_iff, ne_eq, hi]
        exact fun h => h2 h.2.1
    · refine .inl ⟨h1, ?_⟩
      rw [Bool.eq_false_iff, ne_eq, hi]
      exact fun h => h1 h.1
  generalize decide (l = l') = q at *
  have HG := Lib.hid hg
  clear hs hs' hg hr
  rcases hsl with ⟨h1, rfl⟩ | ⟨rfl, h2, rfl⟩ | ⟨rfl, rfl, h3, rfl⟩ | ⟨rfl, rfl, rfl, rfl⟩
  · go_enter Try.func10, Try.ntmps10
    go_wp2
    go_ret
    exact ⟨rfl, ((Below.refl _ _).alloc (Nat.le_refl _) _).alloc (by simp) _⟩
  · go_enter Try.func10, Try.ntmps10
    go_wp2
    go_ret
    exact ⟨rfl, ((Below.refl _ _).alloc (Nat.le_refl _) _).alloc (by simp) _⟩
  · go_enter Try.func10, Try.ntmps10
    go_wp2
    go_ret
    exact ⟨rfl, ((Below.refl _ _).alloc (Nat.le_refl _) _).alloc (by simp) _⟩
  · go_enter Try.func10, Try.ntmps10
    go_wp2_with fail
    refine (HG.out _ (((Below.refl _ _).alloc (Nat.le_refl _) _).alloc (by simp) _)).mono ?_
    rintro e w1 ⟨rfl, hb⟩
    have HB := Lib.hid ((((Below.refl w.heap.size w).alloc (Nat.le_refl _) _).alloc (by simp) _).trans (hb.mono (by simp; omega)))
    clear hb HG
    go_wp2
    go_ret
    exact ⟨rfl, HB.out⟩

set_option maxRecDepth 100000 in
theorem checkR_any (v : Value) (x : Ln) (w : World) (hv : InL w v x) :
    Calls Try.prog 20 #[v] w fun e w' => e = .returned (.int .i64 (checkL x)) ∧ Below w.heap.size w w' := by
  obtain ⟨sl, rfl, hs, -, -⟩ := hv
  obtain ⟨E, B, L, l⟩ := x
  obtain ⟨r, hr⟩ : ∃ r, r = checkL ⟨E, B, L, l⟩ := ⟨_, rfl⟩
  rw [← hr]
  unfold checkL at hr
  simp only at hr hs ⊢
  obtain ⟨a, c, rfl, -, hxx⟩ := hs.open_
  obtain ⟨RL, hR0, hR1, hR2⟩ := rises_at E l
  rw [← hR0] at hr
  clear hR0 hs
  generalize hZ : (fun j => (l.getD j (0, 0))) = Z at *
  have g1 : ∀ j, l.getD j (0, 0) = Z j := fun j => by subst hZ; rfl
  simp only [g1] at hxx hR1
  clear hZ g1
  generalize l.length = n at *
  have hb0 := ((Below.refl w.heap.size w).alloc (Nat.le_refl _) (Obj.cells #[.int .u64 E, .int .i64 B, .bool L, .slice a n c] 25)).alloc (by simp) (Obj.cells #[.int .u64 0, .int .u64 0] 32)
  have hbx := (Blk.new w 25 #[.int .u64 E, .int .i64 B, .bool L, .slice a n c]).alloc (Obj.cells #[.int .u64 0, .int .u64 0] 32)
  have hbl := Blk.newAt (w := w.alloc (Obj.cells #[.int .u64 E, .int .i64 B, .bool L, .slice a n c] 25)) 32 #[.int .u64 0, .int .u64 0] (g := w.heap.size + 1) (by simp)
  have HB0 := Lib.hid hb0
  have HBX := Lib.hid hbx
  have HBL := Lib.hid hbl
  clear hb0 hbx hbl
  have hr1 : 20 < n → r = 3 := fun h => by rw [hr, if_pos h]
  have hr2 : ¬ 20 < n → RL 0 (0, 0) = false → r = 2 := fun h h2 => by rw [hr, if_neg h, h2]; simp
  have hr3 : ¬ 20 < n → RL 0 (0, 0) = true → ¬ (0 ≤ B ∧ B ≤ n) → r = 2 := fun h h2 h3 => by rw [hr, if_neg h, if_neg]; exact fun q => h3 q.2
  have hr4 : ¬ 20 < n → RL 0 (0, 0) = true → (0 ≤ B ∧ B ≤ n) → r = 0 := fun h h2 h3 => by rw [hr, if_neg h, if_pos]; exact ⟨h2, h3⟩
  have HR1 := Lib.hid hr1
  have HR2 := Lib.hid hr2
  have HR3 := Lib.hid hr3
  have HR4 := Lib.hid hr4
  have HX := Lib.hid hxx
  have HL1 := Lib.hid hR1
  have HL2 := Lib.hid hR2
  clear hr hr1 hr2 hr3 hr4 hxx hR1 hR2
  by_cases h1 : 20 < n
  · have i1 : (20 : Int) < (n : Int) := by omega
    obtain rfl := HR1.out h1
    go_enter Try.func20, Try.ntmps20
    go_wp2
    go_ret
    exact ⟨rfl, (Below.refl _ _).alloc (Nat.le_refl _) _⟩
  · have i1 : ¬ ((20 : Int) < (n : Int)) := by omega
    have HN := Lib.hid h1
    clear h1
    go_enter Try.func20, Try.ntmps20
    go_wp2_with (refine wpList_store_then rfl 32 _ _ rfl (w.heap.size + 1) #[.int .u64 0, .int .u64 0] rfl rfl 32 _ HBL.out (by kernel_rfl) rfl (gcells_one _ _) ?_)
    refine Later.mk fun w6 hw6 => ?_
    have hbx6 : Blk w6 w.heap.size 25 #[.int .u64 E, .int .i64 B, .bool L, .slice a n c] := by
      rw [hw6]
      exact HBX.out.farRow (by omega) _
    have hb6 : Below w.heap.size w w6 := by rw [hw6]; exact Below.setRow HB0.out (by omega) _
    have hl6 : Blk w6 (w.heap.size + 1) 32 #[.int .u64 0, .int .u64 0] := by rw [hw6]; exact HBL.out.row _
    have HB6 := Lib.hid hb6
    have HX6 := Lib.hid hbx6
    have HL6 := Lib.hid hl6
    clear hb6 hw6 hbx6 hl6 HB0 HBX HBL i1
    go_wp2_with fail
    go_loopw [4] (fun i wr => ∃ (k : Nat) (last : Gd), k ≤ n ∧ i = .int .i64 k ∧ RL k last = RL 0 (0, 0) ∧ Blk wr (w.heap.size + 1) 32 #[.int .u64 last.1, .int .u64 last.2] ∧ Below (w.heap.size + 1) w6 wr) (fun i _ => n - (intOf i).toNat)
    case atStart => exact ⟨0, (0, 0), Nat.zero_le _, rfl, rfl, HL6.out, Below.refl _ _⟩
    case round =>
      obtain ⟨k, last, hk, rfl, hq, hl, hb⟩ := hrel
      have HQ := Lib.hid hq
      have HL := Lib.hid hl
      have HB := Lib.hid hb
      have hbx := HX6.out.below hb (Nat.lt_succ_self _)
      have HBX := Lib.hid hbx
      have HBB := Lib.hid (HB6.out.trans (hb.mono (Nat.le_succ _)))
      have c0 := hbx.cell 0
      have c1 := hbx.cell 1
      have c3 := hbx.cell 3
      simp at c0 c1 c3
      clear hq hb hbx
      by_cases hkn : k < n
      · obtain ⟨g, off, rfl, hc, hd⟩ := HX.out k hkn
        have hc1 := cell_later HBB.out hc
        have hc2 := cell_later HBB.out hd
        have HC1 := Lib.hid hc
        have HC2 := Lib.hid hd
        have i1 : (k : Int) < (n : Int) := by omega
        have k9 : (k : Int) < 9223372036854775807 := by have := HN.out; omega
        have hr1 := HL1.out k last hkn
        rw [HQ.out] at hr1
        have hab := fun w1 => aboveR_any (Z k) last w1
        have hwr : wrongG E last (Z k) = (!aboveG (Z k) last || decide (E < (Z k).1)) := rfl
        generalize wrongG E last (Z k) = wg at *
        generalize aboveG (Z k) last = ab at *
        generalize Z k = z at *
        obtain ⟨z1, z2⟩ := z
        obtain ⟨y1, y2⟩ := last
        have hlt := hl.lt
        have d0 := hl.cell 0
        have d1 := hl.cell 1
        simp at d0 d1
        have HR := Lib.hid hr1
        have HKN := Lib.hid hkn
        have HAB := Lib.hid hab
        clear hc hd hr1 hkn hl hab
        simp only at hwr
        have hs : (ab = false ∧ wg = true) ∨ (ab = true ∧ E < z1 ∧ wg = true) ∨ (ab = true ∧ decide (E < z1) = false ∧ wg = false) := by
          cases ab with
          | false => exact .inl ⟨rfl, by rw [hwr]; rfl⟩
          | true =>
            by_cases h1 : E < z1
            · exact .inr (.inl ⟨rfl, h1, by rw [hwr]; simp [h1]⟩)
            · exact .inr (.inr ⟨rfl, decide_eq_false h1, by rw [hwr]; simp [h1]⟩)
        clear hwr
        have e1 : ∀ q : Bw wr, q.w.cell? ⟨g, off + k * 2, none⟩ = some (.int .u64 z1) := fun q => q.cell hc1
        have e2 : ∀ q : Bw wr, q.w.cell? ⟨g, off + k * 2 + 1, none⟩ = some (.int .u64 z2) := fun q => q.cell hc2
        have e3 : ∀ q : Bw wr, q.w.cell? ⟨w.heap.size + 1, 0, none⟩ = some (.int .u64 y1) := fun q => q.cell d0
        have e4 : ∀ q : Bw wr, q.w.cell? ⟨w.heap.size + 1, 1, none⟩ = some (.int .u64 y2) := fun q => q.cell d1
        have e5 : ∀ q : Bw wr, q.w.cell? ⟨w.heap.size, 0, none⟩ = some (.int .u64 E) := fun q => q.cell c0
        have e6 : ∀ q : Bw wr, q.w.cell? ⟨w.heap.size, 3, none⟩ = some (.slice (some ⟨g, off, none⟩) n c) := fun q => q.cell c3
        go_wp2_with fail
        clear hc1 hc2 d0 d1 c0 c1
        rcases hs with ⟨rfl, rfl⟩ | ⟨rfl, h1, rfl⟩ | ⟨rfl, h1, rfl⟩
        rotate_left 2
        · refine wp_region_below (by kernel_rfl) (by kernel_rfl) ?_
          repeat (go_big_quiet_step (first | (go_at_call 33; exact below_call (HAB.out _))))
          refine wpQuiet_nil ?_
          intro w7 hb7
          have HL7 := Lib.hid (HL.out.keep hb7)
          have HB7 := Lib.hid (HB.out.trans (hb7.mono (Nat.le_of_lt hlt)))
          have hx7 := HBX.out.keep hb7
          have q3 := hx7.cell 3
          simp at q3
          have hbb7 := HBB.out.trans (hb7.mono HBB.out.size)
          have q1 := cell_later hbb7 HC1.out
          have q2 := cell_later hbb7 HC2.out
          have hr := HR.out
          rw [Bool.not_false, Bool.true_and] at hr
          have HRR := Lib.hid hr.symm
          have hfin : ∀ w8, w8 = w7.setRow (w.heap.size + 1) #[.int .u64 z1, .int .u64 z2] → Blk w8 (w.heap.size + 1) 32 #[.int .u64 z1, .int .u64 z2] ∧ Below (w.heap.size + 1) w6 w8 := by
            rintro w8 rfl
            exact ⟨HL7.out.row _, Below.setRow HB7.out (Nat.le_refl _) _⟩
          have HFIN := Lib.hid hfin
          clear hb7 hx7 hbb7 hr hfin e1 e2 e3 e4 e5 e6 HAB h1 HBX HBB HC1 HC2
          go_wp2_with (refine wpList_store_then rfl 32 _ _ rfl (w.heap.size + 1) #[.int .u64 z1, .int .u64 z2] rfl rfl 32 _ HL7.out (by kernel_rfl) rfl (gcells_one _ _) ?_)
          refine Later.mk fun w8 hw8 => ?_
          have HF := Lib.hid (HFIN.out w8 hw8)
          clear hw8 HFIN
          go_wp2
          have hkn := HKN.out
          refine ⟨⟨k + 1, (z1, z2), by omega, by go_num, HRR.out, HF.out.1, HF.out.2⟩, by simp [intOf]; omega⟩
        all_goals
          have hr := HR.out
          rw [Bool.not_true, Bool.false_and] at hr
          obtain rfl := HR2.out HN.out hr
          clear hr
          refine wp_region_below (by kernel_rfl) (by kernel_rfl) ?_
          repeat (go_big_quiet_step (first | (go_at_call 33; exact below_call (HAB.out _))))
          refine wpQuiet_nil ?_
          intro w7 hb7
          have HB7 := Lib.hid (HBB.out.trans (hb7.mono HBB.out.size))
          clear hb7 e1 e2 e3 e4 e5 e6 HAB
          go_wp2
          go_ret
          exact ⟨rfl, HB7.out⟩
      · obtain rfl : k = n := by omega
        have hr := HL2.out last
        rw [HQ.out] at hr
        have HRR := Lib.hid hr
        have HK := Lib.hid hk
        clear hr hkn hl hk
        by_cases h2 : B < 0
        · obtain rfl := HR3.out HN.out HRR.out (by omega)
          go_wp2
          go_ret
          exact ⟨rfl, HBB.out⟩
        · have h4 : 0 ≤ B := by omega
          clear h2
          by_cases h3 : (k : Int) < B
          · obtain rfl := HR3.out HN.out HRR.out (by omega)
            go_wp2
            go_ret
            exact ⟨rfl, HBB.out⟩
          · obtain rfl := HR4.out HN.out HRR.out (by omega)
            have h5 : B ≤ (k : Int) := by omega
            clear h3
            go_wp2
            go_ret
            exact ⟨rfl, HBB.out⟩
end Go.Proofs.Ytfkgidljgbhccaa
