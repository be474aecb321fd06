/-
  META: meta.token.
-/
import Derived.Test.YtimgecflcackbaaMetC
namespace Go.Proofs.Ytimgecflcackbaa
open Go.RowKit Reg

set_option maxRecDepth 100000 in
set_option maxHeartbeats 1000000 in
theorem token_none (w : World) (v : Value) (t : Tk) (last : Gd) (blocks n : Int) (hv : InTk w v t) (h0 : t.target = (0, 0)) :
    Calls Try.prog 42 #[v, aggG last, .int .i64 blocks, .int .i64 n] w fun e w' => e = .returned (.int .i64 (tokOf t last blocks n)) ∧ Below w.heap.size w w' := by
  obtain ⟨iv, rfl, hi, -⟩ := hv
  obtain ⟨a, c, rfl, -, -⟩ := hi.open_
  obtain ⟨le, lc⟩ := last
  obtain ⟨⟨b1, b2⟩, ⟨t1, t2⟩, nx, al, im⟩ := t
  dsimp only at h0 hi
  simp only [Prod.mk.injEq] at h0
  obtain ⟨rfl, rfl⟩ := h0
  obtain ⟨res, hres⟩ : ∃ z, z = tokOf ⟨(b1, b2), (0, 0), nx, al, im⟩ (le, lc) blocks n := ⟨_, rfl⟩
  rw [← hres]
  unfold tokOf at hres
  dsimp only at hres
  rw [if_pos rfl] at hres
  unfold tkV aggG
  dsimp only
  have hb : decide ((b1, b2) ≠ ((0 : Int), (0 : Int))) = !(b1 == 0 && b2 == 0) := by
    by_cases h1 : b1 = 0 <;> by_cases h2 : b2 = 0 <;> simp [h1, h2]
  have hm : im ≠ [] ↔ im.length ≠ 0 := by cases im <;> simp
  have hE := run_eq_guid 0 0 0 0
  have hN := run_neq_guid b1 b2 0 0
  have e0 : ((0 : Int) == 0 && (0 : Int) == 0) = true := rfl
  rw [e0] at hE
  clear e0
  have HBO := Lib.hid (((Below.refl w.heap.size w).alloc (Nat.le_refl _) (Obj.cells #[.int .u64 b1, .int .u64 b2, .int .u64 0, .int .u64 0, .int .i64 nx, .int .i64 al, .slice a im.length c] 28)).alloc (by simp) (Obj.cells #[.int .u64 le, .int .u64 lc] 26))
  have hr : ∀ s : Bool, (!(b1 == 0 && b2 == 0)) = s → res = if s = true ∨ nx ≠ 0 ∨ al ≠ 0 ∨ im.length ≠ 0 then 2 else 0 := by
    intro s hs
    rw [hs] at hb
    rw [hres]
    have h3 : (b1, b2) ≠ ((0 : Int), (0 : Int)) ↔ s = true := by rw [← hb, decide_eq_true_iff]
    simp only [h3, hm]
  generalize (!(b1 == 0 && b2 == 0)) = nb at *
  replace hr := hr nb rfl
  clear hb hm hi hres
  generalize im.length = m at *
  have HR := Lib.hid hr
  clear hr
  cases nb with
  | true =>
    have HF := Lib.hid (show res = 2 by rw [HR.out]; simp)
    go_enter Try.func42, Try.ntmps42
    go_wp2
    go_ret
    exact ⟨by rw [HF.out]; rfl, HBO.out⟩
  | false =>
    by_cases h1 : nx = 0
    · subst h1
      by_cases h2 : al = 0
      · subst h2
        by_cases h3 : m = 0
        · subst h3
          have HF := Lib.hid (show res = 0 by rw [HR.out]; simp)
          go_enter Try.func42, Try.ntmps42
          go_wp2
          go_ret
          exact ⟨by rw [HF.out]; rfl, HBO.out⟩
        · have HF := Lib.hid (show res = 2 by rw [HR.out]; simp [h3])
          have e3 : ((m : Int) != 0) = true := by simp [h3]
          clear h3
          go_enter Try.func42, Try.ntmps42
          go_wp2
          go_ret
          exact ⟨by rw [HF.out]; rfl, HBO.out⟩
      · have HF := Lib.hid (show res = 2 by rw [HR.out]; simp [h2])
        have e2 : (al != 0) = true := by simp [h2]
        clear h2
        go_enter Try.func42, Try.ntmps42
        go_wp2
        go_ret
        exact ⟨by rw [HF.out]; rfl, HBO.out⟩
    · have HF := Lib.hid (show res = 2 by rw [HR.out]; simp [h1])
      have e1 : (nx != 0) = true := by simp [h1]
      clear h1
      go_enter Try.func42, Try.ntmps42
      go_wp2
      go_ret
      exact ⟨by rw [HF.out]; rfl, HBO.out⟩
set_option maxRecDepth 100000 in
set_option maxHeartbeats 2000000 in
theorem token_some (w : World) (v : Value) (t : Tk) (last : Gd) (blocks n : Int) (hv : InTk w v t) (h0 : ¬ t.target = (0, 0)) :
    Calls Try.prog 42 #[v, aggG last, .int .i64 blocks, .int .i64 n] w fun e w' => e = .returned (.int .i64 (tokOf t last blocks n)) ∧ Below w.heap.size w w' := by
  obtain ⟨iv, rfl, hi, -⟩ := hv
  have HCK := Lib.hid (fun w2 (h : Below w.heap.size w w2) => check_any iv t.image blocks n w2 (hi.keep h))
  obtain ⟨a, c, rfl, -, -⟩ := hi.open_
  obtain ⟨le, lc⟩ := last
  obtain ⟨⟨b1, b2⟩, ⟨t1, t2⟩, nx, al, im⟩ := t
  dsimp only at h0 hi HCK
  obtain ⟨res, hres⟩ : ∃ z, z = tokOf ⟨(b1, b2), (t1, t2), nx, al, im⟩ (le, lc) blocks n := ⟨_, rfl⟩
  rw [← hres]
  unfold tokOf at hres
  dsimp only at hres
  rw [if_neg h0] at hres
  unfold tkV
  dsimp only
  have hb : decide ((b1, b2) ≠ (le, lc)) = !(b1 == le && b2 == lc) := by
    by_cases h1 : b1 = le <;> by_cases h2 : b2 = lc <;> simp [h1, h2]
  have hE := run_eq_guid t1 t2 0 0
  have hN := run_neq_guid b1 b2 le lc
  have e0 : (t1 == 0 && t2 == 0) = false := by
    cases h : (t1 == 0 && t2 == 0) with
    | false => rfl
    | true => simp only [Bool.and_eq_true, beq_iff_eq] at h; exact absurd (Prod.ext_iff.2 h) h0
  rw [e0] at hE
  have hop := ordG_pos (t1, t2) (le, lc)
  have hoa := order_any (t1, t2) (le, lc)
  unfold aggG at hoa ⊢
  dsimp only at hoa
  generalize ordG (t1, t2) (le, lc) = o at *
  generalize upG (le, lc) (t1, t2) = up at *
  have HOA := Lib.hid hoa
  have HBO := Lib.hid (((Below.refl w.heap.size w).alloc (Nat.le_refl _) (Obj.cells #[.int .u64 b1, .int .u64 b2, .int .u64 t1, .int .u64 t2, .int .i64 nx, .int .i64 al, .slice a im.length c] 28)).alloc (by simp) (Obj.cells #[.int .u64 le, .int .u64 lc] 26))
  have HBX := Lib.hid ((Blk.new w 28 #[.int .u64 b1, .int .u64 b2, .int .u64 t1, .int .u64 t2, .int .i64 nx, .int .i64 al, .slice a im.length c]).alloc (Obj.cells #[.int .u64 le, .int .u64 lc] 26))
  replace hres : ∀ s : Bool, (!(b1 == le && b2 == lc)) = s → res = if s = true ∨ up = false ∨ nx < 1 ∨ al ≤ nx ∨ blocks < al then 2 else chkOf im blocks n := by
    intro s hs
    rw [hs] at hb
    have h3 : (b1, b2) ≠ (le, lc) ↔ s = true := by rw [← hb, decide_eq_true_iff]
    rw [hres]
    simp only [h3]
  generalize (!(b1 == le && b2 == lc)) = nb at *
  replace hres := hres nb rfl
  generalize chkOf im blocks n = ck at *
  clear hb hi hoa e0 h0
  generalize im.length = m at *
  have HR := Lib.hid hres
  have HOP := Lib.hid hop
  clear hres hop
  cases nb with
  | true =>
    have HF := Lib.hid (show res = 2 by rw [HR.out]; simp)
    clear HR HCK HOA HOP HBX
    go_enter Try.func42, Try.ntmps42
    go_wp2
    go_ret
    exact ⟨by rw [HF.out]; rfl, HBO.out⟩
  | false =>
    go_enter Try.func42, Try.ntmps42
    go_wp2_with fail
    refine (HOA.out _).mono ?_
    rintro e w2 ⟨rfl, hbw⟩
    have HB2 := Lib.hid (HBO.out.trans (hbw.mono HBO.out.size))
    have hbk := HBX.out.keep hbw
    have x4 := hbk.cell 4
    have x5 := hbk.cell 5
    have x6 := hbk.cell 6
    simp at x4 x5 x6
    have HC2 := Lib.hid (HCK.out w2 HB2.out)
    clear hbw hbk HBX HBO HOA HCK
    cases up with
    | false =>
      have ho : decide (o ≤ 0) = true := HOP.out
      have HF := Lib.hid (show res = 2 by rw [HR.out]; simp)
      clear HR HOP HC2
      go_wp2
      go_ret
      exact ⟨by rw [HF.out]; rfl, HB2.out⟩
    | true =>
      have ho : decide (o ≤ 0) = false := HOP.out
      by_cases h1 : nx < 1
      · have HF := Lib.hid (show res = 2 by rw [HR.out]; simp [h1])
        clear HR HOP HC2
        go_wp2
        go_ret
        exact ⟨by rw [HF.out]; rfl, HB2.out⟩
      · by_cases h2 : al ≤ nx
        · have HF := Lib.hid (show res = 2 by rw [HR.out]; simp [h2])
          have h1' := decide_eq_false h1
          clear HR HOP HC2 h1
          go_wp2
          go_ret
          exact ⟨by rw [HF.out]; rfl, HB2.out⟩
        · by_cases h3 : blocks < al
          · have HF := Lib.hid (show res = 2 by rw [HR.out]; simp [h3])
            have h1' := decide_eq_false h1
            have h2' := decide_eq_false h2
            clear HR HOP HC2 h1 h2
            go_wp2
            go_ret
            exact ⟨by rw [HF.out]; rfl, HB2.out⟩
          · have HF := Lib.hid (show res = ck by rw [HR.out]; simp [h1, h2, h3])
            have h1' := decide_eq_false h1
            have h2' := decide_eq_false h2
            have h3' := decide_eq_false h3
            clear HR HOP h1 h2 h3
            go_wp2_with fail
            refine HC2.out.mono ?_
            rintro e w4 ⟨rfl, hb4⟩
            have HB4 := Lib.hid (HB2.out.trans (hb4.mono HB2.out.size))
            clear hb4 HC2
            go_wp2
            go_ret
            exact ⟨by rw [HF.out]; rfl, HB4.out⟩
theorem token_any (w : World) (v : Value) (t : Tk) (last : Gd) (blocks n : Int) (hv : InTk w v t) :
    Calls Try.prog 42 #[v, aggG last, .int .i64 blocks, .int .i64 n] w fun e w' => e = .returned (.int .i64 (tokOf t last blocks n)) ∧ Below w.heap.size w w' := by
  by_cases h0 : t.target = (0, 0)
  · exact token_none w v t last blocks n hv h0
  · exact token_some w v t last blocks n hv h0
end Go.Proofs.Ytimgecflcackbaa
