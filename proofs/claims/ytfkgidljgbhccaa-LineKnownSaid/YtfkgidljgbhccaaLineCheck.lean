/-
  MAY A LINE BE: the program's Check (a closure over a variable, handed to slices.ContainsFunc) and the reference's, walked.
-/
import Derived.Test.YtfkgidljgbhccaaLineSameP
namespace Go.Proofs.Ytfkgidljgbhccaa
open Go.RowKit Reg

def aboveG (g h : Gd) : Bool := decide (h.1 < g.1) || (decide (g.1 = h.1) && decide (h.2 < g.2))
def wrongG (E : Int) (last g : Gd) : Bool := !aboveG g last || decide (E < g.1)
def rises (E : Int) : Gd → List Gd → Bool
  | _, [] => true
  | last, g :: gs => !wrongG E last g && rises E g gs
def checkL (x : Ln) : Int := if 20 < x.l.length then 3 else if rises x.E (0, 0) x.l = true ∧ 0 ≤ x.B ∧ x.B ≤ x.l.length then 0 else 2
theorem rises_at (E : Int) (gs : List Gd) : ∃ RL : Nat → Gd → Bool, RL 0 (0, 0) = rises E (0, 0) gs ∧ (∀ k last, k < gs.length → RL k last = (!wrongG E last (gs.getD k (0, 0)) && RL (k + 1) (gs.getD k (0, 0)))) ∧ ∀ last, RL gs.length last = true := by
  refine ⟨fun k last => rises E last (gs.drop k), rfl, fun k last hk => ?_, fun last => ?_⟩
  · show rises E last (gs.drop k) = _
    rw [List.drop_eq_getElem_cons hk]
    have e : gs.getD k (0, 0) = gs[k] := by simp [hk]
    rw [e]
    rfl
  · show rises E last (gs.drop gs.length) = true
    rw [List.drop_length]
    rfl

theorem above_any (g h : Gd) (w : World) : Calls Try.prog 31 #[.agg #[.int .u64 g.1, .int .u64 g.2], .agg #[.int .u64 h.1, .int .u64 h.2]] w fun e w' => e = .returned (.bool (aboveG g h)) ∧ Below w.heap.size w w' := by
  obtain ⟨a, b⟩ := g
  obtain ⟨c, d⟩ := h
  obtain ⟨r, hr⟩ : ∃ r, r = aboveG (a, b) (c, d) := ⟨_, rfl⟩
  rw [← hr]
  unfold aboveG at hr
  simp only at hr ⊢
  have hb := ((Below.refl w.heap.size w).alloc (Nat.le_refl _) (Obj.cells #[.int .u64 a, .int .u64 b] 32)).alloc (by simp) (Obj.cells #[.int .u64 c, .int .u64 d] 32)
  have HB := Lib.hid hb
  clear hb
  have hs : (c < a ∧ r = true) ∨ (¬ c < a ∧ ¬ a = c ∧ r = false) ∨ (a = c ∧ d < b ∧ r = true) ∨ (a = c ∧ ¬ d < b ∧ r = false) := by
    by_cases h1 : c < a
    · exact .inl ⟨h1, by rw [hr]; simp [h1]⟩
    · by_cases h2 : a = c
      · by_cases h3 : d < b
        · exact .inr (.inr (.inl ⟨h2, h3, by rw [hr]; simp [h2, h3]⟩))
        · exact .inr (.inr (.inr ⟨h2, h3, by rw [hr]; simp [h2, h3]⟩))
      · exact .inr (.inl ⟨h1, h2, by rw [hr]; simp [h1, h2]⟩)
  clear hr
  rcases hs with ⟨h1, rfl⟩ | ⟨h1, h2, rfl⟩ | ⟨rfl, h3, rfl⟩ | ⟨rfl, h3, rfl⟩
  all_goals
    go_enter Try.func31, Try.ntmps31
    go_wp2
    go_ret
    exact ⟨rfl, HB.out⟩
theorem aboveR_any (g h : Gd) (w : World) : Calls Try.prog 33 #[.agg #[.int .u64 g.1, .int .u64 g.2], .agg #[.int .u64 h.1, .int .u64 h.2]] w fun e w' => e = .returned (.bool (aboveG g h)) ∧ Below w.heap.size w w' := by
  obtain ⟨a, b⟩ := g
  obtain ⟨c, d⟩ := h
  obtain ⟨r, hr⟩ : ∃ r, r = aboveG (a, b) (c, d) := ⟨_, rfl⟩
  rw [← hr]
  unfold aboveG at hr
  simp only at hr ⊢
  have hb := ((Below.refl w.heap.size w).alloc (Nat.le_refl _) (Obj.cells #[.int .u64 a, .int .u64 b] 32)).alloc (by simp) (Obj.cells #[.int .u64 c, .int .u64 d] 32)
  have HB := Lib.hid hb
  clear hb
  have hs : (c < a ∧ r = true) ∨ (¬ c < a ∧ ¬ a = c ∧ r = false) ∨ (a = c ∧ d < b ∧ r = true) ∨ (a = c ∧ ¬ d < b ∧ r = false) := by
    by_cases h1 : c < a
    · exact .inl ⟨h1, by rw [hr]; simp [h1]⟩
    · by_cases h2 : a = c
      · by_cases h3 : d < b
        · exact .inr (.inr (.inl ⟨h2, h3, by rw [hr]; simp [h2, h3]⟩))
        · exact .inr (.inr (.inr ⟨h2, h3, by rw [hr]; simp [h2, h3]⟩))
      · exact .inr (.inl ⟨h1, h2, by rw [hr]; simp [h1, h2]⟩)
  clear hr
  rcases hs with ⟨h1, rfl⟩ | ⟨h1, h2, rfl⟩ | ⟨rfl, h3, rfl⟩ | ⟨rfl, h3, rfl⟩
  all_goals
    go_enter Try.func33, Try.ntmps33
    go_wp2
    go_ret
    exact ⟨rfl, HB.out⟩

theorem gcells_one (a b : Int) : (#[Value.int .u64 a, .int .u64 b].all fun x => x.oneCell') = true := by simp; exact ⟨rfl, rfl⟩
set_option maxRecDepth 100000 in
theorem wrong_any (bl bx : Nat) (E B : Int) (L : Bool) (sl : Value) (last g : Gd) (w : World) (hl : Blk w bl 32 #[.int .u64 last.1, .int .u64 last.2]) (hx : Blk w bx 25 #[.int .u64 E, .int .i64 B, .bool L, sl]) :
    Calls Try.prog 30 #[.agg #[.int .u64 g.1, .int .u64 g.2], .pointer (some ⟨bl, 0, none⟩), .pointer (some ⟨bx, 0, none⟩)] w fun e w' => e = .returned (.bool (wrongG E last g)) ∧ Blk w' bl 32 #[.int .u64 g.1, .int .u64 g.2] ∧ Below bl w w' := by
  have hab := above_any g last
  have hr : ∃ r, r = wrongG E last g := ⟨_, rfl⟩
  obtain ⟨r, hr⟩ := hr
  rw [← hr]
  unfold wrongG at hr
  generalize aboveG g last = ab at *
  obtain ⟨a, b⟩ := g
  obtain ⟨c, d⟩ := last
  simp only at hab hr hl ⊢
  have hlt := hl.lt
  have hb0 := (Below.refl bl w).alloc (Nat.le_of_lt hlt) (Obj.cells #[.int .u64 a, .int .u64 b] 32)
  have b1 := Blk.new w 32 #[.int .u64 a, .int .u64 b]
  have b2 := hl.alloc (Obj.cells #[.int .u64 a, .int .u64 b] 32)
  have b3 := hx.alloc (Obj.cells #[.int .u64 a, .int .u64 b] 32)
  have HG := Lib.hid b1
  have HL := Lib.hid b2
  have HX := Lib.hid b3
  have HB := Lib.hid hb0
  have HAB := Lib.hid hab
  have c1 := b2.cell 0
  have c2 := b2.cell 1
  simp at c1 c2
  have hne : w.heap.size ≠ bl := by omega
  have HNE := Lib.hid hne
  have HLT := Lib.hid hlt
  clear hl hx b1 b2 b3 hb0 hab hne hlt
  have hs : (ab = false ∧ r = true) ∨ (ab = true ∧ E < a ∧ r = true) ∨ (ab = true ∧ decide (E < a) = false ∧ r = false) := by
    cases ab with
    | false => exact .inl ⟨rfl, by rw [hr]; rfl⟩
    | true =>
      by_cases h1 : E < a
      · exact .inr (.inl ⟨rfl, h1, by rw [hr]; simp [h1]⟩)
      · exact .inr (.inr ⟨rfl, decide_eq_false h1, by rw [hr]; simp [h1]⟩)
  clear hr
  go_enter Try.func30, Try.ntmps30
  go_wp2_with fail
  refine (HAB.out _).mono ?_
  rintro e w1 ⟨rfl, hb⟩
  have HG := Lib.hid (HG.out.keep hb)
  have HL := Lib.hid (HL.out.keep hb)
  have HX := Lib.hid (HX.out.keep hb)
  have HB := Lib.hid (HB.out.trans (hb.mono (Nat.le_trans (Nat.le_of_lt HLT.out) HB.out.size)))
  have c3 := HG.out.cell 0
  have c4 := HX.out.cell 0
  simp at c3 c4
  have hfin : ∀ w6, w6 = w1.setRow bl #[.int .u64 a, .int .u64 b] → Blk w6 bl 32 #[.int .u64 a, .int .u64 b] ∧ Below bl w w6 := by
    rintro w6 rfl
    exact ⟨HL.out.row _, Below.setRow HB.out (Nat.le_refl _) _⟩
  have HFIN := Lib.hid hfin
  clear hb c1 c2 hfin HAB
  rcases hs with ⟨rfl, rfl⟩ | ⟨rfl, h1, rfl⟩ | ⟨rfl, h1, rfl⟩
  all_goals
    go_wp2_with (first | refine wpList_load_row rfl 32 _ rfl w.heap.size rfl 32 #[.int .u64 a, .int .u64 b] (0, 0) _ HG.out Try.underlying32 rfl (by kernel_rfl) ?_ | refine wpList_store_then rfl 32 _ _ rfl bl #[.int .u64 a, .int .u64 b] rfl rfl 32 _ HL.out (by kernel_rfl) rfl (gcells_one _ _) ?_)
    refine Later.mk fun w6 hw6 => ?_
    have HF := Lib.hid (HFIN.out w6 hw6)
    clear hw6 HFIN c3 c4
    go_wp2
    go_ret
    exact ⟨rfl, HF.out⟩

set_option maxRecDepth 100000 in
theorem index_any (bl bx : Nat) (E B : Int) (L : Bool) (sl : Value) (v : Value) (gs : List Gd) (w0 w : World) (hv : InG w0 v gs) (hb0 : Below w0.heap.size w0 w) (h0 : w0.heap.size ≤ bx) (h1 : bx < bl)
    (hl : Blk w bl 32 #[.int .u64 0, .int .u64 0]) (hx : Blk w bx 25 #[.int .u64 E, .int .i64 B, .bool L, sl]) :
    Calls Try.prog 35 #[v, .func (.func 30) #[] #[.pointer (some ⟨bl, 0, none⟩), .pointer (some ⟨bx, 0, none⟩)]] w fun e w' => (∃ r : Int, e = .returned (.int .i64 r) ∧ decide (0 ≤ r) = !rises E (0, 0) gs) ∧ Below bl w w' := by
  obtain ⟨a, c, rfl, -, hxx⟩ := hv.open_
  obtain ⟨RL, hR0, hR1, hR2⟩ := rises_at E gs
  rw [← hR0]
  clear hR0
  have hwr := fun last k w1 hl hx => wrong_any bl bx E B L sl last (gs.getD k (0, 0)) w1 hl hx
  have hn := hv.2.1
  unfold maxLen at hn
  generalize hZ : (fun j => (gs.getD j (0, 0))) = Z at *
  have g1 : ∀ j, gs.getD j (0, 0) = Z j := fun j => by subst hZ; rfl
  simp only [g1] at hxx hR1 hwr
  clear hZ g1 hv
  generalize gs.length = n at *
  have hlt := hl.lt
  have HX := Lib.hid hxx
  have HR1 := Lib.hid hR1
  have HR2 := Lib.hid hR2
  have HWR := Lib.hid hwr
  have HN := Lib.hid hn
  have HL := Lib.hid hl
  have HBX := Lib.hid hx
  have HB0 := Lib.hid hb0
  have H0 := Lib.hid h0
  have H1 := Lib.hid h1
  have HLT := Lib.hid hlt
  clear hxx hR1 hR2 hwr hn hl hx hb0 h0 h1 hlt
  go_enter Try.func35, Try.ntmps35
  go_wp2_with fail
  go_loopw [8] (fun i wr => ∃ (k : Nat) (last : Gd), k ≤ n ∧ i = .int .i64 k ∧ RL k last = RL 0 (0, 0) ∧ Blk wr bl 32 #[.int .u64 last.1, .int .u64 last.2] ∧ Below bl w wr) (fun i _ => n - (intOf i).toNat)
  case atStart => exact ⟨0, (0, 0), Nat.zero_le _, rfl, rfl, HL.out, Below.refl _ _⟩
  case round =>
    obtain ⟨k, last, hk, rfl, hq, hl, hb⟩ := hrel
    have HQ := Lib.hid hq
    have HL := Lib.hid hl
    have HB := Lib.hid hb
    have HBX := Lib.hid (HBX.out.below hb H1.out)
    have HBB := Lib.hid (HB0.out.trans (hb.mono (by have := H0.out; have := H1.out; omega)))
    clear hq hl hb
    by_cases hkn : k < n
    · obtain ⟨g, off, rfl, hc, hd⟩ := HX.out k hkn
      have hc1 := cell_later HBB.out hc
      have hc2 := cell_later HBB.out hd
      have i1 : (k : Int) < (n : Int) := by omega
      have hn := HN.out
      have k9 : (k : Int) < 9223372036854775807 := by omega
      have hw1 := HWR.out last k wr HL.out HBX.out
      have hr1 := HR1.out k last hkn
      rw [HQ.out] at hr1
      have HW := Lib.hid hw1
      have HR := Lib.hid hr1
      have HKN := Lib.hid hkn
      clear hc hd hn hw1 hr1 hkn
      generalize wrongG E last (Z k) = wg at *
      generalize Z k = z at *
      obtain ⟨z1, z2⟩ := z
      go_wp2_with fail
      refine HW.out.mono ?_
      rintro e w2 ⟨rfl, hl2, hb2⟩
      have HL2 := Lib.hid hl2
      have HB2 := Lib.hid (HB.out.trans hb2)
      clear hl2 hb2 hc1 hc2
      cases wg with
      | true =>
        have hr := HR.out
        rw [Bool.not_true, Bool.false_and] at hr
        have HRR := Lib.hid hr
        clear hr
        go_wp2
        go_ret
        exact ⟨⟨_, rfl, by rw [HRR.out]; simp⟩, HB2.out⟩
      | false =>
        have hr := HR.out
        rw [Bool.not_false, Bool.true_and] at hr
        have HRR := Lib.hid hr
        clear hr
        go_wp2
        have hkn := HKN.out
        refine ⟨⟨k + 1, (z1, z2), by omega, by go_num, HRR.out.symm, HL2.out, HB2.out⟩, by simp [intOf]; omega⟩
    · obtain rfl : k = n := by omega
      have hr := HR2.out last
      rw [HQ.out] at hr
      have HRR := Lib.hid hr
      clear hr
      go_wp2
      go_ret
      exact ⟨⟨_, rfl, by rw [HRR.out]; rfl⟩, HB.out⟩
theorem contains_any (bl bx : Nat) (E B : Int) (L : Bool) (sl : Value) (v : Value) (gs : List Gd) (w0 w : World) (hv : InG w0 v gs) (hb0 : Below w0.heap.size w0 w) (h0 : w0.heap.size ≤ bx) (h1 : bx < bl)
    (hl : Blk w bl 32 #[.int .u64 0, .int .u64 0]) (hx : Blk w bx 25 #[.int .u64 E, .int .i64 B, .bool L, sl]) :
    Calls Try.prog 32 #[v, .func (.func 30) #[] #[.pointer (some ⟨bl, 0, none⟩), .pointer (some ⟨bx, 0, none⟩)]] w fun e w' => e = .returned (.bool (!rises E (0, 0) gs)) ∧ Below bl w w' := by
  have hi := index_any bl bx E B L sl v gs w0 w hv hb0 h0 h1 hl hx
  obtain ⟨a, c, rfl, -, -⟩ := hv.open_
  generalize (!rises E (0, 0) gs) = r at *
  have HI := Lib.hid hi
  clear hi hv hb0 h0 h1 hl hx
  go_enter Try.func32, Try.ntmps32
  go_wp2_with fail
  refine HI.out.mono ?_
  rintro e w2 ⟨⟨q, rfl, hq⟩, hb⟩
  have HB := Lib.hid hb
  have HQ := Lib.hid hq
  clear hb hq
  go_wp2
  go_ret
  exact ⟨by rw [← HQ.out]; rfl, HB.out⟩
end Go.Proofs.Ytfkgidljgbhccaa
