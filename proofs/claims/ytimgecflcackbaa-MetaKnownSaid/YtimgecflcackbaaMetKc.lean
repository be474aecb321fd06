/-
  META: what MetaKnown does to its copies: stores into the table itself (printed by wip/gen-metkc.py).
-/
import Derived.Test.YtimgecflcackbaaMetKb
namespace Go.Proofs.Ytimgecflcackbaa
open Go.RowKit Reg Go.ChangeShapes

theorem OwA.rows {w : World} {B : Nat} {m : Mt} {la sa ia : Option Addr} {lc sc ic : Nat} (h : OwA w B (.agg #[.slice la m.live.length lc, .slice sa m.snaps.length sc, .int .u64 m.token.base.1, .int .u64 m.token.base.2, .int .u64 m.token.target.1, .int .u64 m.token.target.2, .int .i64 m.token.next, .int .i64 m.token.all, .slice ia m.token.image.length ic]) m) : ∃ es,
    OwI w B (.slice la m.live.length lc) m.live ∧ OwE w B (.slice sa m.snaps.length sc) es ∧ (∀ e ∈ es, EO w B e) ∧ es.map Se.sn = m.snaps ∧ OwI w B (.slice ia m.token.image.length ic) m.token.image ∧ wfTk m.token ∧ (∀ s ∈ m.snaps, wfG s.guid) ∧ m.snaps.length ≤ 1000 ∧
    Apart (.slice la m.live.length lc) (.slice ia m.token.image.length ic) ∧ (∀ e ∈ es, Apart (.slice la m.live.length lc) e.iv ∧ Apart (.slice ia m.token.image.length ic) e.iv) ∧ es.Pairwise (fun e e' => Apart e.iv e'.iv) := by
  obtain ⟨lv, sv, iv, es, h1, h2, h3, h4, h5, h6, h7, h8, h9, h10⟩ := h
  simp only [mtV, Value.agg.injEq, Array.mk.injEq, List.cons.injEq, true_and, and_true] at h1
  obtain ⟨rfl, rfl, rfl⟩ := h1
  exact ⟨es, h2, h3, h4, h5, h6, h7, h9, h8, h10⟩
def bad7 : Mt := ⟨[200, 0], [⟨(1, 1), [0, 0], true⟩, ⟨(2, 1), [300, 301], false⟩], ⟨(2, 1), (2, 2), 2, 2, [302, 301]⟩⟩
set_option maxRecDepth 100000 in
set_option maxHeartbeats 400000 in
theorem do7 (w : World) (B g : Nat) (h : PtA w B g wholeM) (hB : B ≤ g) : Calls Try.prog 26 #[.pointer (some ⟨g, 0, none⟩)] w (DoT w B g (bad7)) := by
  unfold DoT
  obtain ⟨la, lc, sa, sc, ia, ic, hb, ho⟩ := h
  obtain ⟨es, h1, h2, h3, h4, h5, h6, h7, h8, -⟩ := ho.rows
  have hb2 : Blk w g 30 #[.slice la 2 lc, .slice sa 2 sc, .int .u64 2, .int .u64 1, .int .u64 2, .int .u64 2, .int .i64 1, .int .i64 2, .slice ia 2 ic] := hb
  have HB := Lib.hid hb2
  have HL := Lib.hid (show OwI w B (.slice la 2 lc) [200, 0] from h1)
  have HS := Lib.hid (show OwSn w B (.slice sa 2 sc) wholeM.snaps from ⟨h8, h7, es, h2, h3, h4⟩)
  have HI := Lib.hid (show OwI w B (.slice ia 2 ic) [302, 301] from h5)
  have HG := Lib.hid hB
  clear hb hb2 ho h1 h2 h3 h4 h5 h6 h7 h8
  have x6 := HB.out.cell 6
  have f6 := HB.out.frozen 6
  simp at x6
  have HK := Lib.hid (kp_cell w g 6 (.int .i64 2))
  have HO := Lib.hid (show ∀ b, b = g → Oth w B b from fun b e => by subst e; exact .inr ⟨_, _, HB.out, by decide, by decide⟩)
  have HBF := Lib.hid (HB.out.set 6 (.int .i64 2))
  have HBL := Lib.hid ((below_cell w g 6 (.int .i64 2)).mono HG.out)
  go_enter Try.func26, Try.ntmps26
  go_wp2
  go_end0
  exact ⟨rfl, ⟨_, _, _, _, _, _, (show Blk _ g 30 #[.slice la 2 lc, .slice sa 2 sc, .int .u64 2, .int .u64 1, .int .u64 2, .int .u64 2, .int .i64 2, .int .i64 2, .slice ia 2 ic] from HBF.out), ⟨_, _, _, rfl, HL.out.kpT HK.out HO.out, HS.out.kpT HK.out HO.out, HI.out.kpT HK.out HO.out, ⟨⟨rfl, rfl⟩, ⟨rfl, rfl⟩, rfl, rfl⟩⟩⟩, HBL.out⟩
def bad8 : Mt := ⟨[200, 0], [⟨(1, 1), [0, 0], true⟩, ⟨(2, 1), [300, 301], false⟩], ⟨(2, 1), (2, 2), 0, 2, [302, 301]⟩⟩
set_option maxRecDepth 100000 in
set_option maxHeartbeats 400000 in
theorem do8 (w : World) (B g : Nat) (h : PtA w B g wholeM) (hB : B ≤ g) : Calls Try.prog 27 #[.pointer (some ⟨g, 0, none⟩)] w (DoT w B g (bad8)) := by
  unfold DoT
  obtain ⟨la, lc, sa, sc, ia, ic, hb, ho⟩ := h
  obtain ⟨es, h1, h2, h3, h4, h5, h6, h7, h8, -⟩ := ho.rows
  have hb2 : Blk w g 30 #[.slice la 2 lc, .slice sa 2 sc, .int .u64 2, .int .u64 1, .int .u64 2, .int .u64 2, .int .i64 1, .int .i64 2, .slice ia 2 ic] := hb
  have HB := Lib.hid hb2
  have HL := Lib.hid (show OwI w B (.slice la 2 lc) [200, 0] from h1)
  have HS := Lib.hid (show OwSn w B (.slice sa 2 sc) wholeM.snaps from ⟨h8, h7, es, h2, h3, h4⟩)
  have HI := Lib.hid (show OwI w B (.slice ia 2 ic) [302, 301] from h5)
  have HG := Lib.hid hB
  clear hb hb2 ho h1 h2 h3 h4 h5 h6 h7 h8
  have x6 := HB.out.cell 6
  have f6 := HB.out.frozen 6
  simp at x6
  have HK := Lib.hid (kp_cell w g 6 (.int .i64 0))
  have HO := Lib.hid (show ∀ b, b = g → Oth w B b from fun b e => by subst e; exact .inr ⟨_, _, HB.out, by decide, by decide⟩)
  have HBF := Lib.hid (HB.out.set 6 (.int .i64 0))
  have HBL := Lib.hid ((below_cell w g 6 (.int .i64 0)).mono HG.out)
  go_enter Try.func27, Try.ntmps27
  go_wp2
  go_end0
  exact ⟨rfl, ⟨_, _, _, _, _, _, (show Blk _ g 30 #[.slice la 2 lc, .slice sa 2 sc, .int .u64 2, .int .u64 1, .int .u64 2, .int .u64 2, .int .i64 0, .int .i64 2, .slice ia 2 ic] from HBF.out), ⟨_, _, _, rfl, HL.out.kpT HK.out HO.out, HS.out.kpT HK.out HO.out, HI.out.kpT HK.out HO.out, ⟨⟨rfl, rfl⟩, ⟨rfl, rfl⟩, rfl, rfl⟩⟩⟩, HBL.out⟩
def bad9 : Mt := ⟨[200, 0], [⟨(1, 1), [0, 0], true⟩, ⟨(2, 1), [300, 301], false⟩], ⟨(2, 1), (2, 2), 1, 3, [302, 301]⟩⟩
set_option maxRecDepth 100000 in
set_option maxHeartbeats 400000 in
theorem do9 (w : World) (B g : Nat) (h : PtA w B g wholeM) (hB : B ≤ g) : Calls Try.prog 28 #[.pointer (some ⟨g, 0, none⟩)] w (DoT w B g (bad9)) := by
  unfold DoT
  obtain ⟨la, lc, sa, sc, ia, ic, hb, ho⟩ := h
  obtain ⟨es, h1, h2, h3, h4, h5, h6, h7, h8, -⟩ := ho.rows
  have hb2 : Blk w g 30 #[.slice la 2 lc, .slice sa 2 sc, .int .u64 2, .int .u64 1, .int .u64 2, .int .u64 2, .int .i64 1, .int .i64 2, .slice ia 2 ic] := hb
  have HB := Lib.hid hb2
  have HL := Lib.hid (show OwI w B (.slice la 2 lc) [200, 0] from h1)
  have HS := Lib.hid (show OwSn w B (.slice sa 2 sc) wholeM.snaps from ⟨h8, h7, es, h2, h3, h4⟩)
  have HI := Lib.hid (show OwI w B (.slice ia 2 ic) [302, 301] from h5)
  have HG := Lib.hid hB
  clear hb hb2 ho h1 h2 h3 h4 h5 h6 h7 h8
  have x7 := HB.out.cell 7
  have f7 := HB.out.frozen 7
  simp at x7
  have HK := Lib.hid (kp_cell w g 7 (.int .i64 3))
  have HO := Lib.hid (show ∀ b, b = g → Oth w B b from fun b e => by subst e; exact .inr ⟨_, _, HB.out, by decide, by decide⟩)
  have HBF := Lib.hid (HB.out.set 7 (.int .i64 3))
  have HBL := Lib.hid ((below_cell w g 7 (.int .i64 3)).mono HG.out)
  go_enter Try.func28, Try.ntmps28
  go_wp2
  go_end0
  exact ⟨rfl, ⟨_, _, _, _, _, _, (show Blk _ g 30 #[.slice la 2 lc, .slice sa 2 sc, .int .u64 2, .int .u64 1, .int .u64 2, .int .u64 2, .int .i64 1, .int .i64 3, .slice ia 2 ic] from HBF.out), ⟨_, _, _, rfl, HL.out.kpT HK.out HO.out, HS.out.kpT HK.out HO.out, HI.out.kpT HK.out HO.out, ⟨⟨rfl, rfl⟩, ⟨rfl, rfl⟩, rfl, rfl⟩⟩⟩, HBL.out⟩
def bad19 : Mt := ⟨[], [⟨(1, 1), [0, 0], true⟩, ⟨(2, 1), [300, 301], false⟩], ⟨(2, 1), (2, 2), 1, 2, [302, 301]⟩⟩
set_option maxRecDepth 100000 in
set_option maxHeartbeats 400000 in
theorem do19 (w : World) (B g : Nat) (h : PtA w B g wholeM) (hB : B ≤ g) : Calls Try.prog 38 #[.pointer (some ⟨g, 0, none⟩)] w (DoT w B g (bad19)) := by
  unfold DoT
  obtain ⟨la, lc, sa, sc, ia, ic, hb, ho⟩ := h
  obtain ⟨es, h1, h2, h3, h4, h5, h6, h7, h8, -⟩ := ho.rows
  have hb2 : Blk w g 30 #[.slice la 2 lc, .slice sa 2 sc, .int .u64 2, .int .u64 1, .int .u64 2, .int .u64 2, .int .i64 1, .int .i64 2, .slice ia 2 ic] := hb
  have HB := Lib.hid hb2
  have HL := Lib.hid (show OwI w B (.slice la 2 lc) [200, 0] from h1)
  have HS := Lib.hid (show OwSn w B (.slice sa 2 sc) wholeM.snaps from ⟨h8, h7, es, h2, h3, h4⟩)
  have HI := Lib.hid (show OwI w B (.slice ia 2 ic) [302, 301] from h5)
  have HG := Lib.hid hB
  clear hb hb2 ho h1 h2 h3 h4 h5 h6 h7 h8
  have x0 := HB.out.cell 0
  have f0 := HB.out.frozen 0
  simp at x0
  have HK := Lib.hid (kp_cell w g 0 (.slice none 0 0))
  have HO := Lib.hid (show ∀ b, b = g → Oth w B b from fun b e => by subst e; exact .inr ⟨_, _, HB.out, by decide, by decide⟩)
  have HBF := Lib.hid (HB.out.set 0 (.slice none 0 0))
  have HBL := Lib.hid ((below_cell w g 0 (.slice none 0 0)).mono HG.out)
  go_enter Try.func38, Try.ntmps38
  go_wp2
  go_end0
  exact ⟨rfl, ⟨_, _, _, _, _, _, (show Blk _ g 30 #[.slice none 0 0, .slice sa 2 sc, .int .u64 2, .int .u64 1, .int .u64 2, .int .u64 2, .int .i64 1, .int .i64 2, .slice ia 2 ic] from HBF.out), ⟨_, _, _, rfl, OwI.nil_ _ _, HS.out.kpT HK.out HO.out, HI.out.kpT HK.out HO.out, ⟨⟨rfl, rfl⟩, ⟨rfl, rfl⟩, rfl, rfl⟩⟩⟩, HBL.out⟩
def bad10 : Mt := ⟨[200, 0], [⟨(1, 1), [0, 0], true⟩, ⟨(2, 1), [300, 301], false⟩], ⟨(1, 1), (2, 2), 1, 2, [302, 301]⟩⟩
set_option maxRecDepth 100000 in
set_option maxHeartbeats 400000 in
theorem do10 (w : World) (B g : Nat) (h : PtA w B g wholeM) (hB : B ≤ g) : Calls Try.prog 29 #[.pointer (some ⟨g, 0, none⟩)] w (DoT w B g (bad10)) := by
  unfold DoT
  obtain ⟨la, lc, sa, sc, ia, ic, hb, ho⟩ := h
  obtain ⟨es, h1, h2, h3, h4, h5, h6, h7, h8, -⟩ := ho.rows
  have hb2 : Blk w g 30 #[.slice la 2 lc, .slice sa 2 sc, .int .u64 2, .int .u64 1, .int .u64 2, .int .u64 2, .int .i64 1, .int .i64 2, .slice ia 2 ic] := hb
  have HB := Lib.hid hb2
  have HL := Lib.hid (show OwI w B (.slice la 2 lc) [200, 0] from h1)
  have HS := Lib.hid (show OwSn w B (.slice sa 2 sc) wholeM.snaps from ⟨h8, h7, es, h2, h3, h4⟩)
  have HI := Lib.hid (show OwI w B (.slice ia 2 ic) [302, 301] from h5)
  have HG := Lib.hid hB
  clear hb hb2 ho h1 h2 h3 h4 h5 h6 h7 h8
  have HGL := Lib.hid (show B ≤ w.heap.size from Nat.le_of_lt (Nat.lt_of_le_of_lt HG.out HB.out.lt))
  go_enter Try.func29, Try.ntmps29
  go_wp2_with fail
  refine (guid_any 1 1 _).mono ?_
  rintro e w2 ⟨rfl, hb⟩
  have HK0 := Lib.hid hb
  replace HB := Lib.hid (HB.out.keep hb)
  replace HL := Lib.hid (HL.out.keep hb)
  replace HS := Lib.hid (HS.out.keep hb)
  replace HI := Lib.hid (HI.out.keep hb)
  clear hb
  go_wp2_with (refine wpList_mid_then rfl 26 _ _ rfl g 2 #[.int .u64 1, .int .u64 1] rfl rfl (HB.out.there (by show 2 + 2 ≤ 9; decide)) (by kernel_rfl) (gcells_one _ _) ?_)
  refine Later.mk fun w9 hw9 => ?_
  have HK := Lib.hid (show Kp (· = g) w2 w9 by rw [hw9]; exact kp_setCells g _ 2 w2)
  have HO := Lib.hid (show ∀ b, b = g → Oth w2 B b from fun b e => by subst e; exact .inr ⟨_, _, HB.out, by decide, by decide⟩)
  have HBF := Lib.hid (show Blk w9 g 30 #[.slice la 2 lc, .slice sa 2 sc, .int .u64 1, .int .u64 1, .int .u64 2, .int .u64 2, .int .i64 1, .int .i64 2, .slice ia 2 ic] by rw [hw9]; have q := blk_setCells [.int .u64 1, .int .u64 1] 2 w2 _ HB.out; simpa [setMany] using q)
  have HBL := Lib.hid (show Below B w w9 from (HK0.out.mono HGL.out).trans (HK.out.below (B := B) (fun b e => by have := HG.out; omega) (Nat.le_of_lt (Nat.lt_of_le_of_lt HG.out HB.out.lt))))
  clear hw9
  go_wp2
  go_end0
  exact ⟨rfl, ⟨_, _, _, _, _, _, (show Blk _ g 30 #[.slice la 2 lc, .slice sa 2 sc, .int .u64 1, .int .u64 1, .int .u64 2, .int .u64 2, .int .i64 1, .int .i64 2, .slice ia 2 ic] from HBF.out), ⟨_, _, _, rfl, HL.out.kpT HK.out HO.out, HS.out.kpT HK.out HO.out, HI.out.kpT HK.out HO.out, ⟨⟨rfl, rfl⟩, ⟨rfl, rfl⟩, rfl, rfl⟩⟩⟩, HBL.out⟩
def bad11 : Mt := ⟨[200, 0], [⟨(1, 1), [0, 0], true⟩, ⟨(2, 1), [300, 301], false⟩], ⟨(2, 1), (2, 1), 1, 2, [302, 301]⟩⟩
set_option maxRecDepth 100000 in
set_option maxHeartbeats 400000 in
theorem do11 (w : World) (B g : Nat) (h : PtA w B g wholeM) (hB : B ≤ g) : Calls Try.prog 30 #[.pointer (some ⟨g, 0, none⟩)] w (DoT w B g (bad11)) := by
  unfold DoT
  obtain ⟨la, lc, sa, sc, ia, ic, hb, ho⟩ := h
  obtain ⟨es, h1, h2, h3, h4, h5, h6, h7, h8, -⟩ := ho.rows
  have hb2 : Blk w g 30 #[.slice la 2 lc, .slice sa 2 sc, .int .u64 2, .int .u64 1, .int .u64 2, .int .u64 2, .int .i64 1, .int .i64 2, .slice ia 2 ic] := hb
  have HB := Lib.hid hb2
  have HL := Lib.hid (show OwI w B (.slice la 2 lc) [200, 0] from h1)
  have HS := Lib.hid (show OwSn w B (.slice sa 2 sc) wholeM.snaps from ⟨h8, h7, es, h2, h3, h4⟩)
  have HI := Lib.hid (show OwI w B (.slice ia 2 ic) [302, 301] from h5)
  have HG := Lib.hid hB
  clear hb hb2 ho h1 h2 h3 h4 h5 h6 h7 h8
  have HGL := Lib.hid (show B ≤ w.heap.size from Nat.le_of_lt (Nat.lt_of_le_of_lt HG.out HB.out.lt))
  go_enter Try.func30, Try.ntmps30
  go_wp2_with fail
  refine (guid_any 2 1 _).mono ?_
  rintro e w2 ⟨rfl, hb⟩
  have HK0 := Lib.hid hb
  replace HB := Lib.hid (HB.out.keep hb)
  replace HL := Lib.hid (HL.out.keep hb)
  replace HS := Lib.hid (HS.out.keep hb)
  replace HI := Lib.hid (HI.out.keep hb)
  clear hb
  go_wp2_with (refine wpList_mid_then rfl 26 _ _ rfl g 4 #[.int .u64 2, .int .u64 1] rfl rfl (HB.out.there (by show 4 + 2 ≤ 9; decide)) (by kernel_rfl) (gcells_one _ _) ?_)
  refine Later.mk fun w9 hw9 => ?_
  have HK := Lib.hid (show Kp (· = g) w2 w9 by rw [hw9]; exact kp_setCells g _ 4 w2)
  have HO := Lib.hid (show ∀ b, b = g → Oth w2 B b from fun b e => by subst e; exact .inr ⟨_, _, HB.out, by decide, by decide⟩)
  have HBF := Lib.hid (show Blk w9 g 30 #[.slice la 2 lc, .slice sa 2 sc, .int .u64 2, .int .u64 1, .int .u64 2, .int .u64 1, .int .i64 1, .int .i64 2, .slice ia 2 ic] by rw [hw9]; have q := blk_setCells [.int .u64 2, .int .u64 1] 4 w2 _ HB.out; simpa [setMany] using q)
  have HBL := Lib.hid (show Below B w w9 from (HK0.out.mono HGL.out).trans (HK.out.below (B := B) (fun b e => by have := HG.out; omega) (Nat.le_of_lt (Nat.lt_of_le_of_lt HG.out HB.out.lt))))
  clear hw9
  go_wp2
  go_end0
  exact ⟨rfl, ⟨_, _, _, _, _, _, (show Blk _ g 30 #[.slice la 2 lc, .slice sa 2 sc, .int .u64 2, .int .u64 1, .int .u64 2, .int .u64 1, .int .i64 1, .int .i64 2, .slice ia 2 ic] from HBF.out), ⟨_, _, _, rfl, HL.out.kpT HK.out HO.out, HS.out.kpT HK.out HO.out, HI.out.kpT HK.out HO.out, ⟨⟨rfl, rfl⟩, ⟨rfl, rfl⟩, rfl, rfl⟩⟩⟩, HBL.out⟩
def bad13 : Mt := ⟨[200, 0], [⟨(1, 1), [0, 0], true⟩, ⟨(2, 1), [300, 301], false⟩], ⟨(2, 1), (0, 0), 1, 2, [302, 301]⟩⟩
set_option maxRecDepth 100000 in
set_option maxHeartbeats 400000 in
theorem do13 (w : World) (B g : Nat) (h : PtA w B g wholeM) (hB : B ≤ g) : Calls Try.prog 32 #[.pointer (some ⟨g, 0, none⟩)] w (DoT w B g (bad13)) := by
  unfold DoT
  obtain ⟨la, lc, sa, sc, ia, ic, hb, ho⟩ := h
  obtain ⟨es, h1, h2, h3, h4, h5, h6, h7, h8, -⟩ := ho.rows
  have hb2 : Blk w g 30 #[.slice la 2 lc, .slice sa 2 sc, .int .u64 2, .int .u64 1, .int .u64 2, .int .u64 2, .int .i64 1, .int .i64 2, .slice ia 2 ic] := hb
  have HB := Lib.hid hb2
  have HL := Lib.hid (show OwI w B (.slice la 2 lc) [200, 0] from h1)
  have HS := Lib.hid (show OwSn w B (.slice sa 2 sc) wholeM.snaps from ⟨h8, h7, es, h2, h3, h4⟩)
  have HI := Lib.hid (show OwI w B (.slice ia 2 ic) [302, 301] from h5)
  have HG := Lib.hid hB
  clear hb hb2 ho h1 h2 h3 h4 h5 h6 h7 h8
  have HGL := Lib.hid (show B ≤ w.heap.size from Nat.le_of_lt (Nat.lt_of_le_of_lt HG.out HB.out.lt))
  go_enter Try.func32, Try.ntmps32
  go_wp2_with fail
  refine (guid_any 0 0 _).mono ?_
  rintro e w2 ⟨rfl, hb⟩
  have HK0 := Lib.hid hb
  replace HB := Lib.hid (HB.out.keep hb)
  replace HL := Lib.hid (HL.out.keep hb)
  replace HS := Lib.hid (HS.out.keep hb)
  replace HI := Lib.hid (HI.out.keep hb)
  clear hb
  go_wp2_with (refine wpList_mid_then rfl 26 _ _ rfl g 4 #[.int .u64 0, .int .u64 0] rfl rfl (HB.out.there (by show 4 + 2 ≤ 9; decide)) (by kernel_rfl) (gcells_one _ _) ?_)
  refine Later.mk fun w9 hw9 => ?_
  have HK := Lib.hid (show Kp (· = g) w2 w9 by rw [hw9]; exact kp_setCells g _ 4 w2)
  have HO := Lib.hid (show ∀ b, b = g → Oth w2 B b from fun b e => by subst e; exact .inr ⟨_, _, HB.out, by decide, by decide⟩)
  have HBF := Lib.hid (show Blk w9 g 30 #[.slice la 2 lc, .slice sa 2 sc, .int .u64 2, .int .u64 1, .int .u64 0, .int .u64 0, .int .i64 1, .int .i64 2, .slice ia 2 ic] by rw [hw9]; have q := blk_setCells [.int .u64 0, .int .u64 0] 4 w2 _ HB.out; simpa [setMany] using q)
  have HBL := Lib.hid (show Below B w w9 from (HK0.out.mono HGL.out).trans (HK.out.below (B := B) (fun b e => by have := HG.out; omega) (Nat.le_of_lt (Nat.lt_of_le_of_lt HG.out HB.out.lt))))
  clear hw9
  go_wp2
  go_end0
  exact ⟨rfl, ⟨_, _, _, _, _, _, (show Blk _ g 30 #[.slice la 2 lc, .slice sa 2 sc, .int .u64 2, .int .u64 1, .int .u64 0, .int .u64 0, .int .i64 1, .int .i64 2, .slice ia 2 ic] from HBF.out), ⟨_, _, _, rfl, HL.out.kpT HK.out HO.out, HS.out.kpT HK.out HO.out, HI.out.kpT HK.out HO.out, ⟨⟨rfl, rfl⟩, ⟨rfl, rfl⟩, rfl, rfl⟩⟩⟩, HBL.out⟩
def bad14 : Mt := ⟨[200, 0], [⟨(1, 1), [0, 0], true⟩, ⟨(2, 1), [300, 301], false⟩], ⟨(0, 0), (0, 0), 1, 0, []⟩⟩
set_option maxRecDepth 100000 in
set_option maxHeartbeats 400000 in
theorem do14 (w : World) (B g : Nat) (h : PtA w B g wholeM) (hB : B ≤ g) : Calls Try.prog 33 #[.pointer (some ⟨g, 0, none⟩)] w (DoT w B g (bad14)) := by
  unfold DoT
  obtain ⟨la, lc, sa, sc, ia, ic, hb, ho⟩ := h
  obtain ⟨es, h1, h2, h3, h4, h5, h6, h7, h8, -⟩ := ho.rows
  have hb2 : Blk w g 30 #[.slice la 2 lc, .slice sa 2 sc, .int .u64 2, .int .u64 1, .int .u64 2, .int .u64 2, .int .i64 1, .int .i64 2, .slice ia 2 ic] := hb
  have HB := Lib.hid hb2
  have HL := Lib.hid (show OwI w B (.slice la 2 lc) [200, 0] from h1)
  have HS := Lib.hid (show OwSn w B (.slice sa 2 sc) wholeM.snaps from ⟨h8, h7, es, h2, h3, h4⟩)
  have HI := Lib.hid (show OwI w B (.slice ia 2 ic) [302, 301] from h5)
  have HG := Lib.hid hB
  clear hb hb2 ho h1 h2 h3 h4 h5 h6 h7 h8
  go_enter Try.func33, Try.ntmps33
  go_wp2_with (refine wpList_mid_then rfl 28 _ _ rfl g 2 #[.int .u64 0, .int .u64 0, .int .u64 0, .int .u64 0, .int .i64 1, .int .i64 0, .slice none 0 0] rfl rfl (HB.out.there (by show 2 + 7 ≤ 9; decide)) (by kernel_rfl) (tk_one _ _ _ _ _ _ _ _ _) ?_)
  refine Later.mk fun w9 hw9 => ?_
  have HK := Lib.hid (show Kp (· = g) w w9 by rw [hw9]; exact kp_setCells g _ 2 w)
  have HO := Lib.hid (show ∀ b, b = g → Oth w B b from fun b e => by subst e; exact .inr ⟨_, _, HB.out, by decide, by decide⟩)
  have HBF := Lib.hid (show Blk w9 g 30 #[.slice la 2 lc, .slice sa 2 sc, .int .u64 0, .int .u64 0, .int .u64 0, .int .u64 0, .int .i64 1, .int .i64 0, .slice none 0 0] by rw [hw9]; have q := blk_setCells [.int .u64 0, .int .u64 0, .int .u64 0, .int .u64 0, .int .i64 1, .int .i64 0, .slice none 0 0] 2 w _ HB.out; simpa [setMany] using q)
  have HBL := Lib.hid (show Below B w w9 from (HK.out.below (B := B) (fun b e => by have := HG.out; omega) (Nat.le_of_lt (Nat.lt_of_le_of_lt HG.out HB.out.lt))))
  clear hw9
  go_wp2
  go_end0
  exact ⟨rfl, ⟨_, _, _, _, _, _, (show Blk _ g 30 #[.slice la 2 lc, .slice sa 2 sc, .int .u64 0, .int .u64 0, .int .u64 0, .int .u64 0, .int .i64 1, .int .i64 0, .slice none 0 0] from HBF.out), ⟨_, _, _, rfl, HL.out.kpT HK.out HO.out, HS.out.kpT HK.out HO.out, OwI.nil_ _ _, ⟨⟨rfl, rfl⟩, ⟨rfl, rfl⟩, rfl, rfl⟩⟩⟩, HBL.out⟩
def bad15 : Mt := ⟨[200, 0], [⟨(1, 1), [0, 0], true⟩, ⟨(2, 1), [300, 301], false⟩], ⟨(0, 0), (0, 0), 0, 0, []⟩⟩
set_option maxRecDepth 100000 in
set_option maxHeartbeats 400000 in
theorem do15 (w : World) (B g : Nat) (h : PtA w B g wholeM) (hB : B ≤ g) : Calls Try.prog 34 #[.pointer (some ⟨g, 0, none⟩)] w (DoT w B g (bad15)) := by
  unfold DoT
  obtain ⟨la, lc, sa, sc, ia, ic, hb, ho⟩ := h
  obtain ⟨es, h1, h2, h3, h4, h5, h6, h7, h8, -⟩ := ho.rows
  have hb2 : Blk w g 30 #[.slice la 2 lc, .slice sa 2 sc, .int .u64 2, .int .u64 1, .int .u64 2, .int .u64 2, .int .i64 1, .int .i64 2, .slice ia 2 ic] := hb
  have HB := Lib.hid hb2
  have HL := Lib.hid (show OwI w B (.slice la 2 lc) [200, 0] from h1)
  have HS := Lib.hid (show OwSn w B (.slice sa 2 sc) wholeM.snaps from ⟨h8, h7, es, h2, h3, h4⟩)
  have HI := Lib.hid (show OwI w B (.slice ia 2 ic) [302, 301] from h5)
  have HG := Lib.hid hB
  clear hb hb2 ho h1 h2 h3 h4 h5 h6 h7 h8
  go_enter Try.func34, Try.ntmps34
  go_wp2_with (refine wpList_mid_then rfl 28 _ _ rfl g 2 #[.int .u64 0, .int .u64 0, .int .u64 0, .int .u64 0, .int .i64 0, .int .i64 0, .slice none 0 0] rfl rfl (HB.out.there (by show 2 + 7 ≤ 9; decide)) (by kernel_rfl) (tk_one _ _ _ _ _ _ _ _ _) ?_)
  refine Later.mk fun w9 hw9 => ?_
  have HK := Lib.hid (show Kp (· = g) w w9 by rw [hw9]; exact kp_setCells g _ 2 w)
  have HO := Lib.hid (show ∀ b, b = g → Oth w B b from fun b e => by subst e; exact .inr ⟨_, _, HB.out, by decide, by decide⟩)
  have HBF := Lib.hid (show Blk w9 g 30 #[.slice la 2 lc, .slice sa 2 sc, .int .u64 0, .int .u64 0, .int .u64 0, .int .u64 0, .int .i64 0, .int .i64 0, .slice none 0 0] by rw [hw9]; have q := blk_setCells [.int .u64 0, .int .u64 0, .int .u64 0, .int .u64 0, .int .i64 0, .int .i64 0, .slice none 0 0] 2 w _ HB.out; simpa [setMany] using q)
  have HBL := Lib.hid (show Below B w w9 from (HK.out.below (B := B) (fun b e => by have := HG.out; omega) (Nat.le_of_lt (Nat.lt_of_le_of_lt HG.out HB.out.lt))))
  clear hw9
  go_wp2
  go_end0
  exact ⟨rfl, ⟨_, _, _, _, _, _, (show Blk _ g 30 #[.slice la 2 lc, .slice sa 2 sc, .int .u64 0, .int .u64 0, .int .u64 0, .int .u64 0, .int .i64 0, .int .i64 0, .slice none 0 0] from HBF.out), ⟨_, _, _, rfl, HL.out.kpT HK.out HO.out, HS.out.kpT HK.out HO.out, OwI.nil_ _ _, ⟨⟨rfl, rfl⟩, ⟨rfl, rfl⟩, rfl, rfl⟩⟩⟩, HBL.out⟩
end Go.Proofs.Ytimgecflcackbaa
