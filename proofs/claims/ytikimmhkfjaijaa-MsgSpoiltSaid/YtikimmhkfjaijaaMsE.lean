/-
  MESSAGES: sized, laying or reading (printed by wip/gen-msge.py).
-/
import Derived.Test.YtikimmhkfjaijaaMsD
namespace Go.Proofs.Ytikimmhkfjaijaa
open Go.RowKit Reg Go.ChangeShapes

/-- does a list get room? -/
def freshF (S : Sf) (k : Nat) : Bool := S.m.isRd && !(intF S k).1.bad
def szN (S : Sf) (k : Nat) : Nat := (intF S k).2.toNat
theorem intF_bad {S : Sf} {k : Nat} (h : (intF S k).1.bad = false) : (numF S.m k).2 ≤ 8192 ∧ (intF S k).2 = ((numF S.m k).2 : Nat) := by
  have h2 : ¬ 8192 < (numF S.m k).2 := by
    simp only [intF, Int.toNat_natCast, Bool.or_eq_false_iff, decide_eq_false_iff_not] at h
    exact h.2
  refine ⟨by omega, ?_⟩
  show wrap64 ((numF S.m k).2 : Nat) = _
  exact IntWalk.wrap64_in _ (by omega)
theorem fresh_n {S : Sf} {k : Nat} (h : freshF S k = true) : szN S k ≤ 8192 ∧ (intF S k).2 = (szN S k : Nat) := by
  simp only [freshF, Bool.and_eq_true, Bool.not_eq_true'] at h
  have h2 := intF_bad h.2
  unfold szN
  rw [h2.2]
  exact ⟨by simpa using h2.1, by simp⟩

/-- room that has just been made -/
def madeG (n : Nat) : Array Value := madeCells #[.int .u64 0, .int .u64 0] (n * 2)
theorem madeG_run (n : Nat) (hn : n ≤ 8192) (w : World) : (Instr.makeSlice 24 (.int .i64 (n : Int)) (.int .i64 (n : Int))).run Try.prog w = .ok (.slice (some ⟨w.heap.size, 0, none⟩) n n) (w.alloc (.cells (madeG n) 28)) := by
  have hinfo : (Try.prog.info? 28).map (fun i => (i.zero, i.size, i.bytes)) = some (some (.agg #[.int .u64 0, .int .u64 0]), 2, 16) := by kernel_rfl
  obtain ⟨i, hi, hz0, hz1, hz2⟩ := info_parts hinfo
  have h := run_make (P := Try.prog) w 24 28 i _ Try.underlying24 hi hz0 .i64 .i64 (n : Int) (n : Int) (by omega) (Int.le_refl _) (by rw [hz2]; omega) (by omega)
  rw [hz1] at h
  simp only [Int.toNat_natCast] at h
  exact h
theorem fsizedG_any (w : World) (fb mb : Nat) (S : Sf) (p o k c : Nat) (a : Option Addr) (hF : Fd w fb mb S) (hc : w.cell? ⟨p, o, none⟩ = some (.slice a k c)) (hk : k ≤ 8192) (hp : PtOk w fb S.m p o) (hfz : w.frozen? ⟨p, o, none⟩ = false) (hsz : S.m.sz ≤ 900000) :
    Calls Try.prog 59 #[.pointer (some ⟨fb, 0, none⟩), .pointer (some ⟨p, o, none⟩)] w fun e w' =>
      ∃ sl', e = .returned sl' ∧ Kp (Zf fb S.m) (w.setCell ⟨p, o, none⟩ sl') w' ∧ Fd w' fb mb (intF S k).1 ∧
        ((freshF S k = false ∧ sl' = .slice a k c) ∨ (freshF S k = true ∧ ∃ g, sl' = .slice (some ⟨g, 0, none⟩) (szN S k) (szN S k) ∧ w.heap.size ≤ g ∧ Blk w' g 28 (madeG (szN S k)))) := by
  obtain ⟨R, hR⟩ : ∃ R : Ending → World → Prop, R = fun e w' => ∃ sl', e = .returned sl' ∧ Kp (Zf fb S.m) (w.setCell ⟨p, o, none⟩ sl') w' ∧ Fd w' fb mb (intF S k).1 ∧
        ((freshF S k = false ∧ sl' = .slice a k c) ∨ (freshF S k = true ∧ ∃ g, sl' = .slice (some ⟨g, 0, none⟩) (szN S k) (szN S k) ∧ w.heap.size ≤ g ∧ Blk w' g 28 (madeG (szN S k)))) := ⟨_, rfl⟩
  rw [← hR]
  have hlt : p < w.heap.size := World.block_lt_of_cell? w _ hc
  have hlf := hF.lt
  have hne := hp.ne
  have hb2 := (Below.refl w.heap.size w).alloc (Nat.le_refl _) (Obj.cells #[.int .i64 (k : Int)] 3)
  have hx2 := Blk.new w 3 #[.int .i64 (k : Int)]
  have hs2 : (w.alloc (.cells #[.int .i64 (k : Int)] 3)).heap.size = w.heap.size + 1 := by simp
  have hN := fints_any _ fb mb S w.heap.size 0 k (hF.keep hb2) (by rw [hx2.cell]; rfl) hk (pt_of hx2 (Nat.ne_of_gt hlf) (fun h => Nat.lt_irrefl _ (hF.near_lt h))) (hx2.frozen 0) hsz
  rw [hs2] at hN
  have HN := Lib.hid hN
  have HFIN : Hid (∀ w3, Kp (Zf fb S.m) ((w.alloc (.cells #[.int .i64 (k : Int)] 3)).setCell ⟨w.heap.size, 0, none⟩ (.int .i64 (intF S k).2)) w3 → Fd w3 fb mb (intF S k).1 →
      w3.cell? ⟨w.heap.size, 0, none⟩ = some (.int .i64 (intF S k).2) ∧ w3.cell? ⟨p, o, none⟩ = some (.slice a k c) ∧ w3.frozen? ⟨p, o, none⟩ = false ∧
      w3.cell? ⟨fb, 2, none⟩ = some (intF S k).1.m.inV ∧ w3.cell? ⟨fb, 3, none⟩ = some (.bool (intF S k).1.bad) ∧ p < w3.heap.size ∧
      (freshF S k = false → R (.returned (.slice a k c)) w3) ∧
      (freshF S k = true → R (.returned (.slice (some ⟨w3.heap.size, 0, none⟩) (szN S k) (szN S k))) ((w3.alloc (.cells (madeG (szN S k)) 28)).setCell ⟨p, o, none⟩ (.slice (some ⟨w3.heap.size, 0, none⟩) (szN S k) (szN S k))))) := Lib.hid fun w3 h3 hf3 => by
    have hzx : ¬ Zf fb S.m w.heap.size := fun h => Nat.lt_irrefl _ (Zf_lt hF h)
    have hz := hp.nz
    have hkp : Kp (Zf fb S.m) w w3 := ((Kp.of_below hb2).fresh (p := ⟨w.heap.size, 0, none⟩) (Nat.le_refl _) _).trans h3
    have h5 := cells_other h3 hz (cell_later hb2 hc) (.inl (Nat.ne_of_gt hlt))
    refine ⟨cells_after h3 hzx (by rw [hx2.cell]; rfl), h5, ?_, by rw [hf3.1.cell]; rfl, by rw [hf3.1.cell]; rfl, World.block_lt_of_cell? w3 _ h5, fun hfr => ?_, fun hfr => ?_⟩
    · rw [frozen_after h3 hz (Nat.lt_of_lt_of_le hlt hb2.size)]
      exact (World.frozen?_of_block (a := ⟨p, o, none⟩) (hb2.block p hlt)).trans hfz
    · rw [hR]
      refine ⟨_, rfl, ?_, hf3, .inl ⟨hfr, rfl⟩⟩
      rw [setCell_same hc]
      exact hkp
    · rw [hR]
      have hal := (Below.refl w3.heap.size w3).alloc (Nat.le_refl _) (Obj.cells (madeG (szN S k)) 28)
      refine ⟨_, rfl, (hkp.grow _).both _ _, ?_, .inr ⟨hfr, w3.heap.size, rfl, hkp.size, (Blk.new _ _ _).far (by have := World.block_lt_of_cell? w3 _ h5; exact Nat.ne_of_gt this) _⟩⟩
      obtain ⟨g1, g2, g3⟩ := hf3.keep hal
      refine ⟨g1.far (by exact hne.symm) _, ?_, g3⟩
      refine Md.ok_kp (A := fun b => b = p) g2 (Kp.at _ _ _) (fun b hb e => ?_)
      rw [intF_near] at hb
      exact hp.far (e ▸ hb)
  have HFR := Lib.hid (@fresh_n S k)
  have HMK := Lib.hid (fun hn => madeG_run (szN S k) hn)
  have hfr : freshF S k = ((intF S k).1.m.isRd && !(intF S k).1.bad) := by
    unfold freshF
    rw [show (intF S k).1.m.isRd = S.m.isRd from numF_isRd _ _]
  clear hF hp hfz hsz hlt hlf hR hb2 hx2 hs2 hN hk
  generalize (intF S k).1 = S1 at *
  generalize szN S k = N at *
  generalize (intF S k).2 = z at *
  generalize freshF S k = fr at *
  obtain ⟨m1, bad1⟩ := S1
  dsimp only at *
  go_enter Try.func59, Try.ntmps59
  go_wp2_with fail
  refine HN.out.mono ?_
  rintro e w3 ⟨rfl, h3, hf3⟩
  obtain ⟨x3, y3, y3f, c2, c3, hpl, hr0, hr1⟩ := HFIN.out w3 h3 hf3
  have HR0 := Lib.hid hr0
  have HR1 := Lib.hid hr1
  have hpl2 : p ≠ w3.heap.size := Nat.ne_of_lt hpl
  clear h3 hf3 hr0 hr1 hc HFIN HN hpl
  cases m1 with
  | lay s =>
    have hr : R (.returned (.slice a k c)) w3 := HR0.out (by rw [hfr]; rfl)
    have HR := Lib.hid hr
    have c2' : w3.cell? ⟨fb, 2, none⟩ = some (.pointer none) := c2
    clear hr HR0 HR1 c2 hfr
    go_wp2
    exact HR.out
  | rd r st =>
    have c2' : w3.cell? ⟨fb, 2, none⟩ = some (.pointer (some ⟨r, 0, none⟩)) := c2
    cases bad1 with
    | true =>
      have hr : R (.returned (.slice a k c)) w3 := HR0.out (by rw [hfr]; rfl)
      have HR := Lib.hid hr
      clear hr HR0 HR1 c2 hfr
      go_wp2
      exact HR.out
    | false =>
      have hfr1 : fr = true := by rw [hfr]; rfl
      obtain ⟨hN, hz⟩ := HFR.out hfr1
      have HR := Lib.hid (HR1.out hfr1)
      have hmk := HMK.out hN
      subst hz
      have i0 : wrap64 (N : Int) = (N : Int) := IntWalk.wrap64_in _ (by omega)
      have hal := (Below.refl w3.heap.size w3).alloc (Nat.le_refl _) (Obj.cells (madeG N) 28)
      have y4 := cell_later hal y3
      have y4f : (w3.alloc (.cells (madeG N) 28)).frozen? ⟨p, o, none⟩ = false := (World.frozen?_of_block (a := ⟨p, o, none⟩) (hal.block p (World.block_lt_of_cell? w3 _ y3))).trans y3f
      clear HR0 HR1 c2 hfr HMK HFR hN hal
      go_wp2
      exact HR.out

/-- room that has just been made -/
def madeE (n : Nat) : Array Value := madeCells #[.int .u64 0, .int .i64 0, .int .u64 0, .int .u64 0] (n * 4)
theorem madeE_run (n : Nat) (hn : n ≤ 8192) (w : World) : (Instr.makeSlice 23 (.int .i64 (n : Int)) (.int .i64 (n : Int))).run Try.prog w = .ok (.slice (some ⟨w.heap.size, 0, none⟩) n n) (w.alloc (.cells (madeE n) 50)) := by
  have hinfo : (Try.prog.info? 50).map (fun i => (i.zero, i.size, i.bytes)) = some (some (.agg #[.int .u64 0, .int .i64 0, .int .u64 0, .int .u64 0]), 4, 32) := by kernel_rfl
  obtain ⟨i, hi, hz0, hz1, hz2⟩ := info_parts hinfo
  have h := run_make (P := Try.prog) w 23 50 i _ Try.underlying23 hi hz0 .i64 .i64 (n : Int) (n : Int) (by omega) (Int.le_refl _) (by rw [hz2]; omega) (by omega)
  rw [hz1] at h
  simp only [Int.toNat_natCast] at h
  exact h
theorem fsizedE_any (w : World) (fb mb : Nat) (S : Sf) (p o k c : Nat) (a : Option Addr) (hF : Fd w fb mb S) (hc : w.cell? ⟨p, o, none⟩ = some (.slice a k c)) (hk : k ≤ 8192) (hp : PtOk w fb S.m p o) (hfz : w.frozen? ⟨p, o, none⟩ = false) (hsz : S.m.sz ≤ 900000) :
    Calls Try.prog 69 #[.pointer (some ⟨fb, 0, none⟩), .pointer (some ⟨p, o, none⟩)] w fun e w' =>
      ∃ sl', e = .returned sl' ∧ Kp (Zf fb S.m) (w.setCell ⟨p, o, none⟩ sl') w' ∧ Fd w' fb mb (intF S k).1 ∧
        ((freshF S k = false ∧ sl' = .slice a k c) ∨ (freshF S k = true ∧ ∃ g, sl' = .slice (some ⟨g, 0, none⟩) (szN S k) (szN S k) ∧ w.heap.size ≤ g ∧ Blk w' g 50 (madeE (szN S k)))) := by
  obtain ⟨R, hR⟩ : ∃ R : Ending → World → Prop, R = fun e w' => ∃ sl', e = .returned sl' ∧ Kp (Zf fb S.m) (w.setCell ⟨p, o, none⟩ sl') w' ∧ Fd w' fb mb (intF S k).1 ∧
        ((freshF S k = false ∧ sl' = .slice a k c) ∨ (freshF S k = true ∧ ∃ g, sl' = .slice (some ⟨g, 0, none⟩) (szN S k) (szN S k) ∧ w.heap.size ≤ g ∧ Blk w' g 50 (madeE (szN S k)))) := ⟨_, rfl⟩
  rw [← hR]
  have hlt : p < w.heap.size := World.block_lt_of_cell? w _ hc
  have hlf := hF.lt
  have hne := hp.ne
  have hb2 := (Below.refl w.heap.size w).alloc (Nat.le_refl _) (Obj.cells #[.int .i64 (k : Int)] 3)
  have hx2 := Blk.new w 3 #[.int .i64 (k : Int)]
  have hs2 : (w.alloc (.cells #[.int .i64 (k : Int)] 3)).heap.size = w.heap.size + 1 := by simp
  have hN := fints_any _ fb mb S w.heap.size 0 k (hF.keep hb2) (by rw [hx2.cell]; rfl) hk (pt_of hx2 (Nat.ne_of_gt hlf) (fun h => Nat.lt_irrefl _ (hF.near_lt h))) (hx2.frozen 0) hsz
  rw [hs2] at hN
  have HN := Lib.hid hN
  have HFIN : Hid (∀ w3, Kp (Zf fb S.m) ((w.alloc (.cells #[.int .i64 (k : Int)] 3)).setCell ⟨w.heap.size, 0, none⟩ (.int .i64 (intF S k).2)) w3 → Fd w3 fb mb (intF S k).1 →
      w3.cell? ⟨w.heap.size, 0, none⟩ = some (.int .i64 (intF S k).2) ∧ w3.cell? ⟨p, o, none⟩ = some (.slice a k c) ∧ w3.frozen? ⟨p, o, none⟩ = false ∧
      w3.cell? ⟨fb, 2, none⟩ = some (intF S k).1.m.inV ∧ w3.cell? ⟨fb, 3, none⟩ = some (.bool (intF S k).1.bad) ∧ p < w3.heap.size ∧
      (freshF S k = false → R (.returned (.slice a k c)) w3) ∧
      (freshF S k = true → R (.returned (.slice (some ⟨w3.heap.size, 0, none⟩) (szN S k) (szN S k))) ((w3.alloc (.cells (madeE (szN S k)) 50)).setCell ⟨p, o, none⟩ (.slice (some ⟨w3.heap.size, 0, none⟩) (szN S k) (szN S k))))) := Lib.hid fun w3 h3 hf3 => by
    have hzx : ¬ Zf fb S.m w.heap.size := fun h => Nat.lt_irrefl _ (Zf_lt hF h)
    have hz := hp.nz
    have hkp : Kp (Zf fb S.m) w w3 := ((Kp.of_below hb2).fresh (p := ⟨w.heap.size, 0, none⟩) (Nat.le_refl _) _).trans h3
    have h5 := cells_other h3 hz (cell_later hb2 hc) (.inl (Nat.ne_of_gt hlt))
    refine ⟨cells_after h3 hzx (by rw [hx2.cell]; rfl), h5, ?_, by rw [hf3.1.cell]; rfl, by rw [hf3.1.cell]; rfl, World.block_lt_of_cell? w3 _ h5, fun hfr => ?_, fun hfr => ?_⟩
    · rw [frozen_after h3 hz (Nat.lt_of_lt_of_le hlt hb2.size)]
      exact (World.frozen?_of_block (a := ⟨p, o, none⟩) (hb2.block p hlt)).trans hfz
    · rw [hR]
      refine ⟨_, rfl, ?_, hf3, .inl ⟨hfr, rfl⟩⟩
      rw [setCell_same hc]
      exact hkp
    · rw [hR]
      have hal := (Below.refl w3.heap.size w3).alloc (Nat.le_refl _) (Obj.cells (madeE (szN S k)) 50)
      refine ⟨_, rfl, (hkp.grow _).both _ _, ?_, .inr ⟨hfr, w3.heap.size, rfl, hkp.size, (Blk.new _ _ _).far (by have := World.block_lt_of_cell? w3 _ h5; exact Nat.ne_of_gt this) _⟩⟩
      obtain ⟨g1, g2, g3⟩ := hf3.keep hal
      refine ⟨g1.far (by exact hne.symm) _, ?_, g3⟩
      refine Md.ok_kp (A := fun b => b = p) g2 (Kp.at _ _ _) (fun b hb e => ?_)
      rw [intF_near] at hb
      exact hp.far (e ▸ hb)
  have HFR := Lib.hid (@fresh_n S k)
  have HMK := Lib.hid (fun hn => madeE_run (szN S k) hn)
  have hfr : freshF S k = ((intF S k).1.m.isRd && !(intF S k).1.bad) := by
    unfold freshF
    rw [show (intF S k).1.m.isRd = S.m.isRd from numF_isRd _ _]
  clear hF hp hfz hsz hlt hlf hR hb2 hx2 hs2 hN hk
  generalize (intF S k).1 = S1 at *
  generalize szN S k = N at *
  generalize (intF S k).2 = z at *
  generalize freshF S k = fr at *
  obtain ⟨m1, bad1⟩ := S1
  dsimp only at *
  go_enter Try.func69, Try.ntmps69
  go_wp2_with fail
  refine HN.out.mono ?_
  rintro e w3 ⟨rfl, h3, hf3⟩
  obtain ⟨x3, y3, y3f, c2, c3, hpl, hr0, hr1⟩ := HFIN.out w3 h3 hf3
  have HR0 := Lib.hid hr0
  have HR1 := Lib.hid hr1
  have hpl2 : p ≠ w3.heap.size := Nat.ne_of_lt hpl
  clear h3 hf3 hr0 hr1 hc HFIN HN hpl
  cases m1 with
  | lay s =>
    have hr : R (.returned (.slice a k c)) w3 := HR0.out (by rw [hfr]; rfl)
    have HR := Lib.hid hr
    have c2' : w3.cell? ⟨fb, 2, none⟩ = some (.pointer none) := c2
    clear hr HR0 HR1 c2 hfr
    go_wp2
    exact HR.out
  | rd r st =>
    have c2' : w3.cell? ⟨fb, 2, none⟩ = some (.pointer (some ⟨r, 0, none⟩)) := c2
    cases bad1 with
    | true =>
      have hr : R (.returned (.slice a k c)) w3 := HR0.out (by rw [hfr]; rfl)
      have HR := Lib.hid hr
      clear hr HR0 HR1 c2 hfr
      go_wp2
      exact HR.out
    | false =>
      have hfr1 : fr = true := by rw [hfr]; rfl
      obtain ⟨hN, hz⟩ := HFR.out hfr1
      have HR := Lib.hid (HR1.out hfr1)
      have hmk := HMK.out hN
      subst hz
      have i0 : wrap64 (N : Int) = (N : Int) := IntWalk.wrap64_in _ (by omega)
      have hal := (Below.refl w3.heap.size w3).alloc (Nat.le_refl _) (Obj.cells (madeE N) 50)
      have y4 := cell_later hal y3
      have y4f : (w3.alloc (.cells (madeE N) 50)).frozen? ⟨p, o, none⟩ = false := (World.frozen?_of_block (a := ⟨p, o, none⟩) (hal.block p (World.block_lt_of_cell? w3 _ y3))).trans y3f
      clear HR0 HR1 c2 hfr HMK HFR hN hal
      go_wp2
      exact HR.out
end Go.Proofs.Ytikimmhkfjaijaa
