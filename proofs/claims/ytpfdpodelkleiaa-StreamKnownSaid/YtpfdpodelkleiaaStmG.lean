/-
  STREAM's REFERENCE: Check (printed by wip/gen-stmg.py).
-/
import Derived.Test.YtpfdpodelkleiaaStmF
namespace Go.Proofs.Ytpfdpodelkleiaa
open Go.RowKit Reg Go.ChangeShapes

set_option maxRecDepth 100000 in
set_option maxHeartbeats 1000000 in
theorem checkR_any (w : World) (v : Value) (p : Prt) (hv : InPr w v p) : Calls Try.prog 18 #[v] w fun e w' => e = .returned (.int .i64 (checkP p)) ∧ Below w.heap.size w w' := by
  obtain ⟨sv, rfl, hc, -⟩ := hv
  have hgood := fun h : okP p => show checkP p = 0 from if_pos h
  have hbad := fun h : ¬ okP p => show checkP p = 2 from if_neg h
  unfold okP at hgood hbad
  generalize checkP p = res at *
  have HMAY := Lib.hid (fun w2 (h : Below w.heap.size w w2) => changesR_any w2 sv p.cs (hc.keep h))
  obtain ⟨a, c, rfl, hml, -⟩ := hc
  unfold prV
  obtain ⟨⟨be, bc⟩, ⟨te, tc⟩, f, al, cs⟩ := p
  dsimp only at *
  have HBO := Lib.hid ((Below.refl w.heap.size w).alloc (Nat.le_refl _) (Obj.cells #[.int .u64 be, .int .u64 bc, .int .u64 te, .int .u64 tc, .int .i64 f, .int .i64 al, .slice a cs.length c] 30))
  have HBX := Lib.hid (Blk.new w 30 #[.int .u64 be, .int .u64 bc, .int .u64 te, .int .u64 tc, .int .i64 f, .int .i64 al, .slice a cs.length c])
  have HAB := Lib.hid (fun w => aboveR_any (te, tc) (be, bc) w)
  generalize hmc : mayC (-1) cs = mc at *
  generalize upG (be, bc) (te, tc) = up at *
  generalize hn : cs.length = n at *
  clear hmc
  have HML := Lib.hid hml
  have HG := Lib.hid hgood
  have HBD := Lib.hid hbad
  clear hgood hbad hn hml
  go_enter Try.func18, Try.ntmps18
  go_wp2_with fail
  generalize w.alloc (Obj.cells #[.int .u64 be, .int .u64 bc, .int .u64 te, .int .u64 tc, .int .i64 f, .int .i64 al, .slice a n c] 30) = w1 at *
  refine (HAB.out _).mono ?_
  rintro e w2 ⟨rfl, hb⟩
  have HB2 := Lib.hid (HBO.out.trans (hb.mono HBO.out.size))
  have hbk := HBX.out.keep hb
  have x4 := hbk.cell 4
  have x5 := hbk.cell 5
  have x6 := hbk.cell 6
  simp at x4 x5 x6
  clear hb hbk HAB HBX HBO
  cases up with
  | false =>
    have HR := Lib.hid (HBD.out (fun h => by obtain ⟨h1, ⟨h2, h3⟩, ⟨h4, h5⟩, h6, h7, h8⟩ := h; cases h1))
    clear HG HBD HMAY
    go_wp2
    go_ret
    exact ⟨by rw [HR.out]; rfl, HB2.out⟩
  | true =>
  by_cases g1 : al < 0
  case pos =>
    have b1 : decide (al < 0) = true := decide_eq_true g1
    have HR := Lib.hid (HBD.out (fun h => by obtain ⟨h1, ⟨h2, h3⟩, ⟨h4, h5⟩, h6, h7, h8⟩ := h; omega))
    clear HG HBD HMAY g1
    go_wp2
    go_ret
    exact ⟨by rw [HR.out]; rfl, HB2.out⟩
  case neg =>
  have b1 : decide (al < 0) = false := decide_eq_false g1
  by_cases g2 : 8 < al
  case pos =>
    have b2 : decide (8 < al) = true := decide_eq_true g2
    have HR := Lib.hid (HBD.out (fun h => by obtain ⟨h1, ⟨h2, h3⟩, ⟨h4, h5⟩, h6, h7, h8⟩ := h; omega))
    clear HG HBD HMAY g1 g2
    go_wp2
    go_ret
    exact ⟨by rw [HR.out]; rfl, HB2.out⟩
  case neg =>
  have b2 : decide (8 < al) = false := decide_eq_false g2
  by_cases g3 : f < 0
  case pos =>
    have b3 : decide (f < 0) = true := decide_eq_true g3
    have HR := Lib.hid (HBD.out (fun h => by obtain ⟨h1, ⟨h2, h3⟩, ⟨h4, h5⟩, h6, h7, h8⟩ := h; omega))
    clear HG HBD HMAY g1 g2 g3
    go_wp2
    go_ret
    exact ⟨by rw [HR.out]; rfl, HB2.out⟩
  case neg =>
  have b3 : decide (f < 0) = false := decide_eq_false g3
  by_cases g4 : al < f
  case pos =>
    have b4 : decide (al < f) = true := decide_eq_true g4
    have HR := Lib.hid (HBD.out (fun h => by obtain ⟨h1, ⟨h2, h3⟩, ⟨h4, h5⟩, h6, h7, h8⟩ := h; omega))
    clear HG HBD HMAY g1 g2 g3 g4
    go_wp2
    go_ret
    exact ⟨by rw [HR.out]; rfl, HB2.out⟩
  case neg =>
  have b4 : decide (al < f) = false := decide_eq_false g4
  have w0 : wrap64 f = f := IntWalk.wrap64_in _ (by omega)
  by_cases g6 : 2 < n
  case pos =>
    have b6 : decide (2 < (n : Int)) = true := decide_eq_true (by omega)
    have b6' : decide (2 < n) = true := decide_eq_true g6
    obtain ⟨wf, hwf⟩ : ∃ wf, wrap64 (f + (n : Int)) = wf := ⟨_, rfl⟩
    by_cases g5 : al < wf
    · have b5 : decide (al < wf) = true := decide_eq_true g5
      have HR := Lib.hid (HBD.out (fun h => by obtain ⟨h1, ⟨h2, h3⟩, ⟨h4, h5⟩, h6, h7, h8⟩ := h; omega))
      clear HG HBD HMAY g1 g2 g3 g4 g5 g6
      go_wp2
      go_ret
      exact ⟨by rw [HR.out]; rfl, HB2.out⟩
    · have b5 : decide (al < wf) = false := decide_eq_false g5
      have HR := Lib.hid (HBD.out (fun h => by obtain ⟨h1, ⟨h2, h3⟩, ⟨h4, h5⟩, h6, h7, h8⟩ := h; omega))
      clear HG HBD HMAY g1 g2 g3 g4 g5 g6
      go_wp2
      go_ret
      exact ⟨by rw [HR.out]; rfl, HB2.out⟩
  case neg =>
  have b6 : decide (2 < (n : Int)) = false := decide_eq_false (by omega)
  have b6' : decide (2 < n) = false := decide_eq_false g6
  have w1 : wrap64 (f + (n : Int)) = f + (n : Int) := IntWalk.wrap64_in _ (by omega)
  by_cases g5 : al < f + n
  case pos =>
    have b5 : decide (al < f + n) = true := decide_eq_true g5
    have HR := Lib.hid (HBD.out (fun h => by obtain ⟨h1, ⟨h2, h3⟩, ⟨h4, h5⟩, h6, h7, h8⟩ := h; omega))
    clear HG HBD HMAY g1 g2 g3 g4 g5 g6
    go_wp2
    go_ret
    exact ⟨by rw [HR.out]; rfl, HB2.out⟩
  case neg =>
  have b5 : decide (al < f + n) = false := decide_eq_false g5
  by_cases g7 : n = 0 ∧ 0 < al
  case pos =>
    obtain ⟨rfl, g8⟩ := g7
    have b7 : (al != 0) = true := by simp; omega
    have HR := Lib.hid (HBD.out (fun h => by obtain ⟨h1, ⟨h2, h3⟩, ⟨h4, h5⟩, h6, h7, h8⟩ := h; exact h7 ⟨rfl, g8⟩))
    clear HG HBD HMAY g1 g2 g3 g4 g5 g6 g8
    go_wp2
    go_ret
    exact ⟨by rw [HR.out]; rfl, HB2.out⟩
  case neg =>
  have HMAY2 := Lib.hid (HMAY.out w2 HB2.out)
  have HOKS := Lib.hid (show (0 ≤ al ∧ al ≤ 8) ∧ (0 ≤ f ∧ f ≤ al) ∧ (n : Int) ≤ min 2 (al - f) from ⟨by omega, by omega, by omega⟩)
  have HRES := Lib.hid (show mc = true → res = 0 from fun h => HG.out ⟨rfl, HOKS.out.1, HOKS.out.2.1, HOKS.out.2.2, g7, h⟩)
  have HRES2 := Lib.hid (show mc = false → res = 2 from fun h => HBD.out fun hh => by rw [h] at hh; cases hh.2.2.2.2.2)
  have hcase : (n ≠ 0) ∨ (n = 0 ∧ al = 0) := by omega
  clear HG HBD HMAY HOKS g1 g2 g3 g4 g5 g6 g7
  rcases hcase with h6 | ⟨rfl, rfl⟩
  · have e1 : ((n : Int) == 0) = false := by simp; omega
    have e2 : decide (n = 0) = false := decide_eq_false h6
    clear h6
    go_wp2_with fail
    refine HMAY2.out.mono ?_
    rintro e w4 ⟨rfl, hb⟩
    have HB4 := Lib.hid (HB2.out.trans (hb.mono HB2.out.size))
    clear hb
    cases mc with
    | true =>
      have HR := Lib.hid (HRES.out rfl)
      go_wp2
      go_ret
      exact ⟨by rw [HR.out]; rfl, HB4.out⟩
    | false =>
      have HR := Lib.hid (HRES2.out rfl)
      go_wp2
      go_ret
      exact ⟨by rw [HR.out]; rfl, HB4.out⟩
  · go_wp2_with fail
    refine HMAY2.out.mono ?_
    rintro e w4 ⟨rfl, hb⟩
    have HB4 := Lib.hid (HB2.out.trans (hb.mono HB2.out.size))
    clear hb
    cases mc with
    | true =>
      have HR := Lib.hid (HRES.out rfl)
      go_wp2
      go_ret
      exact ⟨by rw [HR.out]; rfl, HB4.out⟩
    | false =>
      have HR := Lib.hid (HRES2.out rfl)
      go_wp2
      go_ret
      exact ⟨by rw [HR.out]; rfl, HB4.out⟩
end Go.Proofs.Ytpfdpodelkleiaa
