/-
  META: what MetaKnown does to its copies: stores into the rows (printed by wip/gen-metkd.py).
-/
import Derived.Test.YtimgecflcackbaaMetKc
namespace Go.Proofs.Ytimgecflcackbaa
open Go.RowKit Reg Go.ChangeShapes

def bad2 : Mt := ⟨[200, 200], [⟨(1, 1), [0, 0], true⟩, ⟨(2, 1), [300, 301], false⟩], ⟨(2, 1), (2, 2), 1, 2, [302, 301]⟩⟩
set_option maxRecDepth 100000 in
set_option maxHeartbeats 400000 in
theorem do2 (w : World) (B g : Nat) (h : PtA w B g wholeM) (_ : B ≤ g) : Calls Try.prog 21 #[.pointer (some ⟨g, 0, none⟩)] w (DoT w B g (bad2)) := by
  unfold DoT
  obtain ⟨la, lc, sa, sc, ia, ic, hb, ho⟩ := h
  obtain ⟨es, h1, h2, h3, h4, h5, h6, h7, h8, ap1, ap2, ap3⟩ := ho.rows
  have hb2 : Blk w g 30 #[.slice la 2 lc, .slice sa 2 sc, .int .u64 2, .int .u64 1, .int .u64 2, .int .u64 2, .int .i64 1, .int .i64 2, .slice ia 2 ic] := hb
  have h1' : OwI w B (.slice la 2 lc) [200, 0] := h1
  have h5' : OwI w B (.slice ia 2 ic) [302, 301] := h5
  obtain ⟨gl, cap, e, hge, hlt, hfz, hcl⟩ := h1'.block (by decide)
  simp only [Value.slice.injEq] at e
  obtain ⟨rfl, -, rfl⟩ := e
  have hne : gl ≠ g := own_ne h1'.1 hb2 (by decide) rfl
  have hk := kp_cell w gl 1 (.int .i64 200)
  have hset := h1'.set 1 200 (by rfl)
  have x0 := hb2.cell 0
  simp at x0
  have c1 := hcl 1 (by decide)
  have f1 := hfz 1
  simp at c1
  have HBF := Lib.hid (hk.blk hb2 (fun e => hne e.symm))
  have HBL := Lib.hid ((below_cell w gl 1 (.int .i64 200)).mono hge)
  have HS := Lib.hid (show OwSn (w.setCell ⟨gl, 1, none⟩ (.int .i64 200)) B (.slice sa 2 sc) wholeM.snaps from ⟨h8, h7, es, own_kp hk h2 (fun b hb' e => own_apart h1'.1 h2 (by decide) (show _ = some b by rw [e]; rfl) hb'), fun e he => OwI.kp (h3 e he) hk (fun b hb' e' => (fun e he => (ap2 e he).1) e he gl rfl (by rw [hb', e'])), h4⟩)
  have HO := Lib.hid hset
  have HX := Lib.hid (h5'.kp hk (fun b hb' e => ap1 gl rfl (hb'.trans (congrArg some e))))
  clear hb ho h1 h2 h3 h4 h5 h6 h7 h8 ap1 ap2 ap3 hb2 h1' h5' hset hk hne hcl hfz
  go_enter Try.func21, Try.ntmps21
  go_wp2
  go_end0
  exact ⟨rfl, ⟨_, _, _, _, _, _, HBF.out, ⟨_, _, _, rfl, HO.out, HS.out, HX.out, ⟨⟨rfl, rfl⟩, ⟨rfl, rfl⟩, rfl, rfl⟩⟩⟩, HBL.out⟩
def bad12 : Mt := ⟨[200, 0], [⟨(1, 1), [0, 0], true⟩, ⟨(2, 1), [300, 301], false⟩], ⟨(2, 1), (2, 2), 1, 2, [302, 302]⟩⟩
set_option maxRecDepth 100000 in
set_option maxHeartbeats 400000 in
theorem do12 (w : World) (B g : Nat) (h : PtA w B g wholeM) (_ : B ≤ g) : Calls Try.prog 31 #[.pointer (some ⟨g, 0, none⟩)] w (DoT w B g (bad12)) := by
  unfold DoT
  obtain ⟨la, lc, sa, sc, ia, ic, hb, ho⟩ := h
  obtain ⟨es, h1, h2, h3, h4, h5, h6, h7, h8, ap1, ap2, ap3⟩ := ho.rows
  have hb2 : Blk w g 30 #[.slice la 2 lc, .slice sa 2 sc, .int .u64 2, .int .u64 1, .int .u64 2, .int .u64 2, .int .i64 1, .int .i64 2, .slice ia 2 ic] := hb
  have h1' : OwI w B (.slice la 2 lc) [200, 0] := h1
  have h5' : OwI w B (.slice ia 2 ic) [302, 301] := h5
  obtain ⟨gl, cap, e, hge, hlt, hfz, hcl⟩ := h5'.block (by decide)
  simp only [Value.slice.injEq] at e
  obtain ⟨rfl, -, rfl⟩ := e
  have hne : gl ≠ g := own_ne h5'.1 hb2 (by decide) rfl
  have hk := kp_cell w gl 1 (.int .i64 302)
  have hset := h5'.set 1 302 (by rfl)
  have x0 := hb2.cell 8
  simp at x0
  have c1 := hcl 1 (by decide)
  have f1 := hfz 1
  simp at c1
  have HBF := Lib.hid (hk.blk hb2 (fun e => hne e.symm))
  have HBL := Lib.hid ((below_cell w gl 1 (.int .i64 302)).mono hge)
  have HS := Lib.hid (show OwSn (w.setCell ⟨gl, 1, none⟩ (.int .i64 302)) B (.slice sa 2 sc) wholeM.snaps from ⟨h8, h7, es, own_kp hk h2 (fun b hb' e => own_apart h5'.1 h2 (by decide) (show _ = some b by rw [e]; rfl) hb'), fun e he => OwI.kp (h3 e he) hk (fun b hb' e' => (fun e he => (ap2 e he).2) e he gl rfl (by rw [hb', e'])), h4⟩)
  have HO := Lib.hid hset
  have HX := Lib.hid (h1'.kp hk (fun b hb' e => ap1 b hb' (by rw [e]; rfl)))
  clear hb ho h1 h2 h3 h4 h5 h6 h7 h8 ap1 ap2 ap3 hb2 h1' h5' hset hk hne hcl hfz
  go_enter Try.func31, Try.ntmps31
  go_wp2
  go_end0
  exact ⟨rfl, ⟨_, _, _, _, _, _, HBF.out, ⟨_, _, _, rfl, HX.out, HS.out, HO.out, ⟨⟨rfl, rfl⟩, ⟨rfl, rfl⟩, rfl, rfl⟩⟩⟩, HBL.out⟩
def bad16 : Mt := ⟨[200, 0], [], ⟨(0, 0), (0, 0), 0, 0, []⟩⟩
set_option maxRecDepth 100000 in
set_option maxHeartbeats 400000 in
theorem do16 (w : World) (B g : Nat) (h : PtA w B g wholeM) (hB : B ≤ g) : Calls Try.prog 35 #[.pointer (some ⟨g, 0, none⟩)] w (DoT w B g (bad16)) := by
  unfold DoT
  obtain ⟨la, lc, sa, sc, ia, ic, hb, ho⟩ := h
  obtain ⟨es, h1, h2, h3, h4, h5, h6, h7, h8, -⟩ := ho.rows
  have hb2 : Blk w g 30 #[.slice la 2 lc, .slice sa 2 sc, .int .u64 2, .int .u64 1, .int .u64 2, .int .u64 2, .int .i64 1, .int .i64 2, .slice ia 2 ic] := hb
  have HB := Lib.hid hb2
  have HL := Lib.hid (show OwI w B (.slice la 2 lc) [200, 0] from h1)
  have HS := Lib.hid (show OwSn w B (.slice sa 2 sc) wholeM.snaps from ⟨h8, h7, es, h2, h3, h4⟩)
  have HI := Lib.hid (show OwI w B (.slice ia 2 ic) [302, 301] from h5)
  have HG := Lib.hid hB
  clear hb hb2 ho h1 h2 h3 h4 h5 h6 h7 h8
  have x1 := HB.out.cell 1
  have f1 := HB.out.frozen 1
  simp at x1
  have hk1 := kp_cell w g 1 (.slice none 0 0)
  have hot : ∀ b, b = g → Oth w B b := fun b e => by subst e; exact .inr ⟨_, _, HB.out, by decide, by decide⟩
  have HB1 := Lib.hid (show Blk _ g 30 #[.slice la 2 lc, .slice none 0 0, .int .u64 2, .int .u64 1, .int .u64 2, .int .u64 2, .int .i64 1, .int .i64 2, .slice ia 2 ic] from HB.out.set 1 (.slice none 0 0))
  have HL1 := Lib.hid (HL.out.kpT hk1 hot)
  have HI1 := Lib.hid (HI.out.kpT hk1 hot)
  have HBL1 := Lib.hid ((below_cell w g 1 (.slice none 0 0)).mono HG.out)
  clear hk1 hot HB HL HS HI
  go_enter Try.func35, Try.ntmps35
  go_wp2_with (refine wpList_mid_then rfl 28 _ _ rfl g 2 #[.int .u64 0, .int .u64 0, .int .u64 0, .int .u64 0, .int .i64 0, .int .i64 0, .slice none 0 0] rfl rfl (HB1.out.there (by show 2 + 7 ≤ 9; decide)) (by kernel_rfl) (tk_one _ _ _ _ _ _ _ _ _) ?_)
  refine Later.mk fun w9 hw9 => ?_
  have HK := Lib.hid (show Kp (· = g) (w.setCell ⟨g, 1, none⟩ (.slice none 0 0)) w9 by rw [hw9]; exact kp_setCells g _ 2 (w.setCell ⟨g, 1, none⟩ (.slice none 0 0)))
  have HO := Lib.hid (show ∀ b, b = g → Oth (w.setCell ⟨g, 1, none⟩ (.slice none 0 0)) B b from fun b e => by subst e; exact .inr ⟨_, _, HB1.out, by decide, by decide⟩)
  have HBF := Lib.hid (show Blk w9 g 30 #[.slice la 2 lc, .slice none 0 0, .int .u64 0, .int .u64 0, .int .u64 0, .int .u64 0, .int .i64 0, .int .i64 0, .slice none 0 0] by rw [hw9]; have q := blk_setCells [.int .u64 0, .int .u64 0, .int .u64 0, .int .u64 0, .int .i64 0, .int .i64 0, .slice none 0 0] 2 (w.setCell ⟨g, 1, none⟩ (.slice none 0 0)) _ HB1.out; simpa [setMany] using q)
  have HBL := Lib.hid (show Below B w w9 from HBL1.out.trans (HK.out.below (B := B) (fun b e => by have := HG.out; omega) (Nat.le_of_lt (Nat.lt_of_le_of_lt HG.out HB1.out.lt))))
  clear hw9
  go_wp2
  go_end0
  exact ⟨rfl, ⟨_, _, _, _, _, _, (show Blk _ g 30 #[.slice la 2 lc, .slice none 0 0, .int .u64 0, .int .u64 0, .int .u64 0, .int .u64 0, .int .i64 0, .int .i64 0, .slice none 0 0] from HBF.out), ⟨_, _, _, rfl, HL1.out.kpT HK.out HO.out, OwSn.nil_ _ _, OwI.nil_ _ _, ⟨⟨rfl, rfl⟩, ⟨rfl, rfl⟩, rfl, rfl⟩⟩⟩, HBL.out⟩
def bad17 : Mt := ⟨[200, 0], [], ⟨(0, 0), (2, 2), 1, 2, [302, 301]⟩⟩
set_option maxRecDepth 100000 in
set_option maxHeartbeats 400000 in
theorem do17 (w : World) (B g : Nat) (h : PtA w B g wholeM) (hB : B ≤ g) : Calls Try.prog 36 #[.pointer (some ⟨g, 0, none⟩)] w (DoT w B g (bad17)) := by
  unfold DoT
  obtain ⟨la, lc, sa, sc, ia, ic, hb, ho⟩ := h
  obtain ⟨es, h1, h2, h3, h4, h5, h6, h7, h8, -⟩ := ho.rows
  have hb2 : Blk w g 30 #[.slice la 2 lc, .slice sa 2 sc, .int .u64 2, .int .u64 1, .int .u64 2, .int .u64 2, .int .i64 1, .int .i64 2, .slice ia 2 ic] := hb
  have HB := Lib.hid hb2
  have HL := Lib.hid (show OwI w B (.slice la 2 lc) [200, 0] from h1)
  have HS := Lib.hid (show OwSn w B (.slice sa 2 sc) wholeM.snaps from ⟨h8, h7, es, h2, h3, h4⟩)
  have HI := Lib.hid (show OwI w B (.slice ia 2 ic) [302, 301] from h5)
  have HG := Lib.hid hB
  clear hb hb2 ho h1 h2 h3 h4 h5 h6 h7 h8
  have x1 := HB.out.cell 1
  have f1 := HB.out.frozen 1
  simp at x1
  have hk1 := kp_cell w g 1 (.slice none 0 0)
  have hot : ∀ b, b = g → Oth w B b := fun b e => by subst e; exact .inr ⟨_, _, HB.out, by decide, by decide⟩
  have HB1 := Lib.hid (show Blk _ g 30 #[.slice la 2 lc, .slice none 0 0, .int .u64 2, .int .u64 1, .int .u64 2, .int .u64 2, .int .i64 1, .int .i64 2, .slice ia 2 ic] from HB.out.set 1 (.slice none 0 0))
  have HL1 := Lib.hid (HL.out.kpT hk1 hot)
  have HI1 := Lib.hid (HI.out.kpT hk1 hot)
  have HBL1 := Lib.hid ((below_cell w g 1 (.slice none 0 0)).mono HG.out)
  clear hk1 hot HB HL HS HI
  go_enter Try.func36, Try.ntmps36
  go_wp2_with fail
  generalize w.setCell ⟨g, 1, none⟩ (.slice none 0 0) = w1 at *
  clear x1 f1
  refine (guid_any 0 0 _).mono ?_
  rintro e w2 ⟨rfl, hb⟩
  replace HBL1 := Lib.hid (HBL1.out.trans (hb.mono (Nat.le_of_lt (Nat.lt_of_le_of_lt HG.out HB1.out.lt))))
  replace HB1 := Lib.hid (HB1.out.keep hb)
  replace HL1 := Lib.hid (HL1.out.keep hb)
  replace HI1 := Lib.hid (HI1.out.keep hb)
  clear hb
  go_wp2_with (refine wpList_mid_then rfl 26 _ _ rfl g 2 #[.int .u64 0, .int .u64 0] rfl rfl (HB1.out.there (by show 2 + 2 ≤ 9; decide)) (by kernel_rfl) (gcells_one _ _) ?_)
  refine Later.mk fun w9 hw9 => ?_
  have HK := Lib.hid (show Kp (· = g) w2 w9 by rw [hw9]; exact kp_setCells g _ 2 w2)
  have HO := Lib.hid (show ∀ b, b = g → Oth w2 B b from fun b e => by subst e; exact .inr ⟨_, _, HB1.out, by decide, by decide⟩)
  have HBF := Lib.hid (show Blk w9 g 30 #[.slice la 2 lc, .slice none 0 0, .int .u64 0, .int .u64 0, .int .u64 2, .int .u64 2, .int .i64 1, .int .i64 2, .slice ia 2 ic] by rw [hw9]; have q := blk_setCells [.int .u64 0, .int .u64 0] 2 w2 _ HB1.out; simpa [setMany] using q)
  have HBL := Lib.hid (show Below B w w9 from HBL1.out.trans (HK.out.below (B := B) (fun b e => by have := HG.out; omega) (Nat.le_of_lt (Nat.lt_of_le_of_lt HG.out HB1.out.lt))))
  clear hw9
  go_wp2
  go_end0
  exact ⟨rfl, ⟨_, _, _, _, _, _, (show Blk _ g 30 #[.slice la 2 lc, .slice none 0 0, .int .u64 0, .int .u64 0, .int .u64 2, .int .u64 2, .int .i64 1, .int .i64 2, .slice ia 2 ic] from HBF.out), ⟨_, _, _, rfl, HL1.out.kpT HK.out HO.out, OwSn.nil_ _ _, HI1.out.kpT HK.out HO.out, ⟨⟨rfl, rfl⟩, ⟨rfl, rfl⟩, rfl, rfl⟩⟩⟩, HBL.out⟩
end Go.Proofs.Ytimgecflcackbaa
