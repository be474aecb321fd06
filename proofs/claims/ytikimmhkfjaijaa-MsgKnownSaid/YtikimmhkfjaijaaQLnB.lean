/-
  LINES: Check (printed by wip/gen-msgbase.py).
-/
import Derived.Test.YtikimmhkfjaijaaQLnA
namespace Go.Proofs.Ytikimmhkfjaijaa
open Go.RowKit Reg

def aboveG (g h : Gd) : Bool := decide (h.1 < g.1) || (decide (g.1 = h.1) && decide (h.2 < g.2))
def wrongG (E : Int) (last g : Gd) : Bool := !aboveG g last || decide (E < g.1)
def rises (E : Int) : Gd → List Gd → Bool
  | _, [] => true
  | last, g :: gs => !wrongG E last g && rises E g gs
def checkL (x : Ln) : Int := if 20 < x.l.length then 3 else if rises x.E (0, 0) x.l = true ∧ 0 ≤ x.B ∧ x.B ≤ x.l.length then 0 else 2
theorem rises_at (E : Int) (gs : List Gd) : ∃ RL : Nat → Gd → Bool, RL 0 (0, 0) = rises E (0, 0) gs ∧ (∀ k last, k < gs.length → RL k last = (!wrongG E last (gs.getD k (0, 0)) && RL (k + 1) (gs.getD k (0, 0)))) ∧ ∀ last, RL gs.length last = true := by
  refine ⟨fun k last => rises E last (gs.drop k), rfl, fun k last hk => ?_, fun last => ?_⟩
  · show rises E last (gs.drop k) = _
    rw [List.drop_eq_getElem_cons hk]
    have e : gs.getD k (0, 0) = gs[k] := by simp [hk]
    rw [e]
    rfl
  · show rises E last (gs.drop gs.length) = true
    rw [List.drop_length]
    rfl

theorem labove_any (g h : Gd) (w : World) : Calls Try.prog 46 #[.agg #[.int .u64 g.1, .int .u64 g.2], .agg #[.int .u64 h.1, .int .u64 h.2]] w fun e w' => e = .returned (.bool (aboveG g h)) ∧ Below w.heap.size w w' := by
  obtain ⟨a, b⟩ := g
  obtain ⟨c, d⟩ := h
  obtain ⟨r, hr⟩ : ∃ r, r = aboveG (a, b) (c, d) := ⟨_, rfl⟩
  rw [← hr]
  unfold aboveG at hr
  simp only at hr ⊢
  have hb := ((Below.refl w.heap.size w).alloc (Nat.le_refl _) (Obj.cells #[.int .u64 a, .int .u64 b] 28)).alloc (by simp) (Obj.cells #[.int .u64 c, .int .u64 d] 28)
  have HB := Lib.hid hb
  clear hb
  have hs : (c < a ∧ r = true) ∨ (¬ c < a ∧ ¬ a = c ∧ r = false) ∨ (a = c ∧ d < b ∧ r = true) ∨ (a = c ∧ ¬ d < b ∧ r = false) := by
    by_cases h1 : c < a
    · exact .inl ⟨h1, by rw [hr]; simp [h1]⟩
    · by_cases h2 : a = c
      · by_cases h3 : d < b
        · exact .inr (.inr (.inl ⟨h2, h3, by rw [hr]; simp [h2, h3]⟩))
        · exact .inr (.inr (.inr ⟨h2, h3, by rw [hr]; simp [h2, h3]⟩))
      · exact .inr (.inl ⟨h1, h2, by rw [hr]; simp [h1, h2]⟩)
  clear hr
  rcases hs with ⟨h1, rfl⟩ | ⟨h1, h2, rfl⟩ | ⟨rfl, h3, rfl⟩ | ⟨rfl, h3, rfl⟩
  all_goals
    go_enter Try.func46, Try.ntmps46
    go_wp2
    go_ret
    exact ⟨rfl, HB.out⟩
theorem lgcells_one (a b : Int) : (#[Value.int .u64 a, .int .u64 b].all fun x => x.oneCell') = true := by simp; exact ⟨rfl, rfl⟩
set_option maxRecDepth 100000 in
theorem lwrong_any (bl bx : Nat) (E B : Int) (L : Bool) (sl : Value) (last g : Gd) (w : World) (hl : Blk w bl 28 #[.int .u64 last.1, .int .u64 last.2]) (hx : Blk w bx 26 #[.int .u64 E, .int .i64 B, .bool L, sl]) :
    Calls Try.prog 45 #[.agg #[.int .u64 g.1, .int .u64 g.2], .pointer (some ⟨bl, 0, none⟩), .pointer (some ⟨bx, 0, none⟩)] w fun e w' => e = .returned (.bool (wrongG E last g)) ∧ Blk w' bl 28 #[.int .u64 g.1, .int .u64 g.2] ∧ Below bl w w' := by
  have hab := labove_any g last
  have hr : ∃ r, r = wrongG E last g := ⟨_, rfl⟩
  obtain ⟨r, hr⟩ := hr
  rw [← hr]
  unfold wrongG at hr
  generalize aboveG g last = ab at *
  obtain ⟨a, b⟩ := g
  obtain ⟨c, d⟩ := last
  simp only at hab hr hl ⊢
  have hlt := hl.lt
  have hb0 := (Below.refl bl w).alloc (Nat.le_of_lt hlt) (Obj.cells #[.int .u64 a, .int .u64 b] 28)
  have b1 := Blk.new w 28 #[.int .u64 a, .int .u64 b]
  have b2 := hl.alloc (Obj.cells #[.int .u64 a, .int .u64 b] 28)
  have b3 := hx.alloc (Obj.cells #[.int .u64 a, .int .u64 b] 28)
  have HG := Lib.hid b1
  have HL := Lib.hid b2
  have HX := Lib.hid b3
  have HB := Lib.hid hb0
  have HAB := Lib.hid hab
  have c1 := b2.cell 0
  have c2 := b2.cell 1
  simp at c1 c2
  have hne : w.heap.size ≠ bl := by omega
  have HNE := Lib.hid hne
  have HLT := Lib.hid hlt
  clear hl hx b1 b2 b3 hb0 hab hne hlt
  have hs : (ab = false ∧ r = true) ∨ (ab = true ∧ E < a ∧ r = true) ∨ (ab = true ∧ decide (E < a) = false ∧ r = false) := by
    cases ab with
    | false => exact .inl ⟨rfl, by rw [hr]; rfl⟩
    | true =>
      by_cases h1 : E < a
      · exact .inr (.inl ⟨rfl, h1, by rw [hr]; simp [h1]⟩)
      · exact .inr (.inr ⟨rfl, decide_eq_false h1, by rw [hr]; simp [h1]⟩)
  clear hr
  go_enter Try.func45, Try.ntmps45
  go_wp2_with fail
  refine (HAB.out _).mono ?_
  rintro e w1 ⟨rfl, hb⟩
  have HG := Lib.hid (HG.out.keep hb)
  have HL := Lib.hid (HL.out.keep hb)
  have HX := Lib.hid (HX.out.keep hb)
  have HB := Lib.hid (HB.out.trans (hb.mono (Nat.le_trans (Nat.le_of_lt HLT.out) HB.out.size)))
  have c3 := HG.out.cell 0
  have c4 := HX.out.cell 0
  simp at c3 c4
  have hfin : ∀ w6, w6 = w1.setRow bl #[.int .u64 a, .int .u64 b] → Blk w6 bl 28 #[.int .u64 a, .int .u64 b] ∧ Below bl w w6 := by
    rintro w6 rfl
    exact ⟨HL.out.row _, Below.setRow HB.out (Nat.le_refl _) _⟩
  have HFIN := Lib.hid hfin
  clear hb c1 c2 hfin HAB
  rcases hs with ⟨rfl, rfl⟩ | ⟨rfl, h1, rfl⟩ | ⟨rfl, h1, rfl⟩
  all_goals
    go_wp2_with (first | refine wpList_load_row rfl 28 _ rfl w.heap.size rfl 28 #[.int .u64 a, .int .u64 b] (0, 0) _ HG.out Try.underlying28 rfl (by kernel_rfl) ?_ | refine wpList_store_then rfl 28 _ _ rfl bl #[.int .u64 a, .int .u64 b] rfl rfl 28 _ HL.out (by kernel_rfl) rfl (lgcells_one _ _) ?_)
    refine Later.mk fun w6 hw6 => ?_
    have HF := Lib.hid (HFIN.out w6 hw6)
    clear hw6 HFIN c3 c4
    go_wp2
    go_ret
    exact ⟨rfl, HF.out⟩

set_option maxRecDepth 100000 in
theorem lindex_any (bl bx : Nat) (E B : Int) (L : Bool) (sl : Value) (v : Value) (gs : List Gd) (w0 w : World) (hv : InG w0 v gs) (hb0 : Below w0.heap.size w0 w) (h0 : w0.heap.size ≤ bx) (h1 : bx < bl)
    (hl : Blk w bl 28 #[.int .u64 0, .int .u64 0]) (hx : Blk w bx 26 #[.int .u64 E, .int .i64 B, .bool L, sl]) :
    Calls Try.prog 60 #[v, .func (.func 45) #[] #[.pointer (some ⟨bl, 0, none⟩), .pointer (some ⟨bx, 0, none⟩)]] w fun e w' => (∃ r : Int, e = .returned (.int .i64 r) ∧ decide (0 ≤ r) = !rises E (0, 0) gs) ∧ Below bl w w' := by
  obtain ⟨a, c, rfl, -, hxx⟩ := hv.open_
  obtain ⟨RL, hR0, hR1, hR2⟩ := rises_at E gs
  rw [← hR0]
  clear hR0
  have hwr := fun last k w1 hl hx => lwrong_any bl bx E B L sl last (gs.getD k (0, 0)) w1 hl hx
  have hn := hv.2.1
  unfold maxLen at hn
  generalize hZ : (fun j => (gs.getD j (0, 0))) = Z at *
  have g1 : ∀ j, gs.getD j (0, 0) = Z j := fun j => by subst hZ; rfl
  simp only [g1] at hxx hR1 hwr
  clear hZ g1 hv
  generalize gs.length = n at *
  have hlt := hl.lt
  have HX := Lib.hid hxx
  have HR1 := Lib.hid hR1
  have HR2 := Lib.hid hR2
  have HWR := Lib.hid hwr
  have HN := Lib.hid hn
  have HL := Lib.hid hl
  have HBX := Lib.hid hx
  have HB0 := Lib.hid hb0
  have H0 := Lib.hid h0
  have H1 := Lib.hid h1
  have HLT := Lib.hid hlt
  clear hxx hR1 hR2 hwr hn hl hx hb0 h0 h1 hlt
  go_enter Try.func60, Try.ntmps60
  go_wp2_with fail
  go_loopw [8] (fun i wr => ∃ (k : Nat) (last : Gd), k ≤ n ∧ i = .int .i64 k ∧ RL k last = RL 0 (0, 0) ∧ Blk wr bl 28 #[.int .u64 last.1, .int .u64 last.2] ∧ Below bl w wr) (fun i _ => n - (intOf i).toNat)
  case atStart => exact ⟨0, (0, 0), Nat.zero_le _, rfl, rfl, HL.out, Below.refl _ _⟩
  case round =>
    obtain ⟨k, last, hk, rfl, hq, hl, hb⟩ := hrel
    have HQ := Lib.hid hq
    have HL := Lib.hid hl
    have HB := Lib.hid hb
    have HBX := Lib.hid (HBX.out.below hb H1.out)
    have HBB := Lib.hid (HB0.out.trans (hb.mono (by have := H0.out; have := H1.out; omega)))
    clear hq hl hb
    by_cases hkn : k < n
    · obtain ⟨g, off, rfl, hc, hd⟩ := HX.out k hkn
      have hc1 := cell_later HBB.out hc
      have hc2 := cell_later HBB.out hd
      have i1 : (k : Int) < (n : Int) := by omega
      have hn := HN.out
      have k9 : (k : Int) < 9223372036854775807 := by omega
      have hw1 := HWR.out last k wr HL.out HBX.out
      have hr1 := HR1.out k last hkn
      rw [HQ.out] at hr1
      have HW := Lib.hid hw1
      have HR := Lib.hid hr1
      have HKN := Lib.hid hkn
      clear hc hd hn hw1 hr1 hkn
      generalize wrongG E last (Z k) = wg at *
      generalize Z k = z at *
      obtain ⟨z1, z2⟩ := z
      go_wp2_with fail
      refine HW.out.mono ?_
      rintro e w2 ⟨rfl, hl2, hb2⟩
      have HL2 := Lib.hid hl2
      have HB2 := Lib.hid (HB.out.trans hb2)
      clear hl2 hb2 hc1 hc2
      cases wg with
      | true =>
        have hr := HR.out
        rw [Bool.not_true, Bool.false_and] at hr
        have HRR := Lib.hid hr
        clear hr
        go_wp2
        go_ret
        exact ⟨⟨_, rfl, by rw [HRR.out]; simp⟩, HB2.out⟩
      | false =>
        have hr := HR.out
        rw [Bool.not_false, Bool.true_and] at hr
        have HRR := Lib.hid hr
        clear hr
        go_wp2
        have hkn := HKN.out
        refine ⟨⟨k + 1, (z1, z2), by omega, by go_num, HRR.out.symm, HL2.out, HB2.out⟩, by simp [intOf]; omega⟩
    · obtain rfl : k = n := by omega
      have hr := HR2.out last
      rw [HQ.out] at hr
      have HRR := Lib.hid hr
      clear hr
      go_wp2
      go_ret
      exact ⟨⟨_, rfl, by rw [HRR.out]; rfl⟩, HB.out⟩
theorem lcontains_any (bl bx : Nat) (E B : Int) (L : Bool) (sl : Value) (v : Value) (gs : List Gd) (w0 w : World) (hv : InG w0 v gs) (hb0 : Below w0.heap.size w0 w) (h0 : w0.heap.size ≤ bx) (h1 : bx < bl)
    (hl : Blk w bl 28 #[.int .u64 0, .int .u64 0]) (hx : Blk w bx 26 #[.int .u64 E, .int .i64 B, .bool L, sl]) :
    Calls Try.prog 47 #[v, .func (.func 45) #[] #[.pointer (some ⟨bl, 0, none⟩), .pointer (some ⟨bx, 0, none⟩)]] w fun e w' => e = .returned (.bool (!rises E (0, 0) gs)) ∧ Below bl w w' := by
  have hi := lindex_any bl bx E B L sl v gs w0 w hv hb0 h0 h1 hl hx
  obtain ⟨a, c, rfl, -, -⟩ := hv.open_
  generalize (!rises E (0, 0) gs) = r at *
  have HI := Lib.hid hi
  clear hi hv hb0 h0 h1 hl hx
  go_enter Try.func47, Try.ntmps47
  go_wp2_with fail
  refine HI.out.mono ?_
  rintro e w2 ⟨⟨q, rfl, hq⟩, hb⟩
  have HB := Lib.hid hb
  have HQ := Lib.hid hq
  clear hb hq
  go_wp2
  go_ret
  exact ⟨by rw [← HQ.out]; rfl, HB.out⟩
set_option maxRecDepth 100000 in
theorem lcheck_any (v : Value) (x : Ln) (w : World) (hv : InL w v x) :
    Calls Try.prog 29 #[v] w fun e w' => e = .returned (.int .i64 (checkL x)) ∧ Below w.heap.size w w' := by
  have hmf : ∀ (fn : Fn) (first cap : Array Value) (w : World), (Instr.makeFunc fn first cap).run Try.prog w = .ok (.func fn first cap) w := fun _ _ _ _ => rfl
  obtain ⟨sl, rfl, hs, -, -⟩ := hv
  obtain ⟨E, B, L, l⟩ := x
  obtain ⟨r, hr⟩ : ∃ r, r = checkL ⟨E, B, L, l⟩ := ⟨_, rfl⟩
  rw [← hr]
  unfold checkL at hr
  simp only at hr hs ⊢
  have hcn := fun bl bx w1 => lcontains_any bl bx E B L sl sl l w w1 hs
  obtain ⟨a, c, rfl, -, -⟩ := hs.open_
  have hb0 := ((Below.refl w.heap.size w).alloc (Nat.le_refl _) (Obj.cells #[.int .u64 E, .int .i64 B, .bool L, .slice a l.length c] 26)).alloc (by simp) (Obj.cells #[.int .u64 0, .int .u64 0] 28)
  have hbx := (Blk.new w 26 #[.int .u64 E, .int .i64 B, .bool L, .slice a l.length c]).alloc (Obj.cells #[.int .u64 0, .int .u64 0] 28)
  have hbl := Blk.newAt (w := w.alloc (Obj.cells #[.int .u64 E, .int .i64 B, .bool L, .slice a l.length c] 26)) 28 #[.int .u64 0, .int .u64 0] (g := w.heap.size + 1) (by simp)
  generalize hrr : rises E (0, 0) l = rr at *
  have hs3 : (20 < l.length ∧ r = 3) ∨ (¬ 20 < l.length ∧ rr = false ∧ r = 2) ∨ (¬ 20 < l.length ∧ rr = true ∧ B < 0 ∧ r = 2) ∨ (¬ 20 < l.length ∧ rr = true ∧ 0 ≤ B ∧ (l.length : Int) < B ∧ r = 2) ∨ (¬ 20 < l.length ∧ rr = true ∧ 0 ≤ B ∧ B ≤ (l.length : Int) ∧ r = 0) := by
    by_cases h1 : 20 < l.length
    · rw [if_pos h1] at hr
      exact .inl ⟨h1, hr⟩
    · rw [if_neg h1] at hr
      cases rr with
      | false => exact .inr (.inl ⟨h1, rfl, by rw [hr]; simp⟩)
      | true =>
        by_cases h2 : B < 0
        · exact .inr (.inr (.inl ⟨h1, rfl, h2, by rw [hr, if_neg (by omega)]⟩))
        · by_cases h3 : (l.length : Int) < B
          · exact .inr (.inr (.inr (.inl ⟨h1, rfl, by omega, h3, by rw [hr, if_neg (by omega)]⟩)))
          · exact .inr (.inr (.inr (.inr ⟨h1, rfl, by omega, by omega, by rw [hr, if_pos ⟨rfl, by omega, by omega⟩]⟩)))
  clear hrr hr
  have HB0 := Lib.hid hb0
  have HBX := Lib.hid hbx
  have HBL := Lib.hid hbl
  have HCN := Lib.hid hcn
  clear hs hb0 hcn
  generalize l.length = n at *
  rcases hs3 with ⟨h1, rfl⟩ | ⟨h1, rfl, rfl⟩ | ⟨h1, rfl, h2, rfl⟩ | ⟨h1, rfl, h2, h3, rfl⟩ | ⟨h1, rfl, h2, h3, rfl⟩
  · have i1 : (20 : Int) < (n : Int) := by omega
    have c3 := hbx.cell 3
    simp at c3
    clear hbx hbl
    go_enter Try.func29, Try.ntmps29
    go_wp2_with (refine wpList_store_then rfl 28 _ _ rfl (w.heap.size + 1) #[.int .u64 0, .int .u64 0] rfl rfl 28 _ HBL.out (by kernel_rfl) rfl (lgcells_one _ _) ?_)
    refine Later.mk fun w6 hw6 => ?_
    have c3 : w6.cell? ⟨w.heap.size, 3, none⟩ = some (.slice a n c) := by
      rw [hw6, (HBX.out.farRow (by omega) _).cell 3]
      rfl
    have hb6 : Below w.heap.size w w6 := by rw [hw6]; exact Below.setRow HB0.out (by omega) _
    have HB6 := Lib.hid hb6
    clear hb6 hw6
    go_wp2
    go_ret
    exact ⟨rfl, HB6.out⟩
  all_goals
    have i1 : ¬ ((20 : Int) < (n : Int)) := by omega
    clear hbx hbl h1
    go_enter Try.func29, Try.ntmps29
    go_wp2_with (refine wpList_store_then rfl 28 _ _ rfl (w.heap.size + 1) #[.int .u64 0, .int .u64 0] rfl rfl 28 _ HBL.out (by kernel_rfl) rfl (lgcells_one _ _) ?_)
    refine Later.mk fun w6 hw6 => ?_
    have hbx6 : Blk w6 w.heap.size 26 #[.int .u64 E, .int .i64 B, .bool L, .slice a n c] := by
      rw [hw6]
      exact HBX.out.farRow (by omega) _
    have c3 := hbx6.cell 3
    simp at c3
    have hb6 : Below w.heap.size w w6 := by rw [hw6]; exact Below.setRow HB0.out (by omega) _
    have hl6 : Blk w6 (w.heap.size + 1) 28 #[.int .u64 0, .int .u64 0] := by rw [hw6]; exact HBL.out.row _
    have HB6 := Lib.hid hb6
    have HX6 := Lib.hid hbx6
    have HL6 := Lib.hid hl6
    clear hb6 hw6 hbx6 hl6
    go_wp2_with fail
    refine (HCN.out (w.heap.size + 1) w.heap.size w6 HB6.out (Nat.le_refl _) (Nat.lt_succ_self _) HL6.out HX6.out).mono ?_
    rintro e w7 ⟨rfl, hb⟩
    have hx7 := HX6.out.below hb (Nat.lt_succ_self _)
    have c1 := hx7.cell 1
    have c3 := hx7.cell 3
    simp at c1 c3
    have HB7 := Lib.hid (HB6.out.trans (hb.mono (Nat.le_succ _)))
    clear hx7 hb i1
    go_wp2
    go_ret
    exact ⟨rfl, HB7.out⟩

end Go.Proofs.Ytikimmhkfjaijaa
