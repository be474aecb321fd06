/-
  META: what MetaKnown does to its copies: a place of a snapshot's image; 21 snapshots (printed by wip/gen-metkg.py).
-/
import Derived.Test.YtimgecflcackbaaMetKf
import Derived.Laws.OwnMore
namespace Go.Proofs.Ytimgecflcackbaa
open Go.RowKit Reg Go.ChangeShapes

def bad5 : Mt := ⟨[200, 0], [⟨(1, 1), [0, 0], true⟩, ⟨(2, 1), [301, 301], false⟩], ⟨(2, 1), (2, 2), 1, 2, [302, 301]⟩⟩
set_option maxRecDepth 100000 in
set_option maxHeartbeats 400000 in
theorem do5 (w : World) (B g : Nat) (h : PtA w B g wholeM) (_ : B ≤ g) : Calls Try.prog 24 #[.pointer (some ⟨g, 0, none⟩)] w (DoT w B g (bad5)) := by
  unfold DoT
  obtain ⟨la, lc, sa, sc, ia, ic, hb, ho⟩ := h
  obtain ⟨es, h1, h2, h3, h4, h5, h6, h7, h8, ap1, ap2, ap3⟩ := ho.rows
  have hb2 : Blk w g 30 #[.slice la 2 lc, .slice sa 2 sc, .int .u64 2, .int .u64 1, .int .u64 2, .int .u64 2, .int .i64 1, .int .i64 2, .slice ia 2 ic] := hb
  have h1' : OwI w B (.slice la 2 lc) [200, 0] := h1
  have h5' : OwI w B (.slice ia 2 ic) [302, 301] := h5
  obtain ⟨e0, e1, rfl⟩ : ∃ e0 e1, es = [e0, e1] := by
    have hl := congrArg List.length h4
    rw [List.length_map] at hl
    match es, hl with
    | [a, b], _ => exact ⟨a, b, rfl⟩
  obtain ⟨gl, cap, e, hge⟩ := own_block_ h2 (show 0 < [e0, e1].length by simp)
  simp only [Value.slice.injEq] at e
  obtain ⟨rfl, -, rfl⟩ := e
  have hne : gl ≠ g := own_ne h2 hb2 (by decide) rfl
  have he1 : e1.sn = ⟨(2, 1), [300, 301], false⟩ := (List.cons.inj (List.cons.inj h4).2).1
  have he0 : e0.sn = ⟨(1, 1), [0, 0], true⟩ := (List.cons.inj h4).1
  obtain ⟨eg, ez, eh, ea, ec⟩ := e1
  simp only [Se.sn, Sn.mk.injEq] at he1
  obtain ⟨rfl, rfl, rfl⟩ := he1
  have hi1 : OwI w B (.slice ea 2 ec) [300, 301] := h3 ⟨(2, 1), [300, 301], false, ea, ec⟩ (by simp)
  have hap0 : Apart e0.iv (.slice ea 2 ec) := (List.pairwise_cons.1 ap3).1 ⟨(2, 1), [300, 301], false, ea, ec⟩ (by simp)
  have hapl : Apart (.slice la 2 lc) (.slice ea 2 ec) := (ap2 ⟨(2, 1), [300, 301], false, ea, ec⟩ (by simp)).1
  have hapi : Apart (.slice ia 2 ic) (.slice ea 2 ec) := (ap2 ⟨(2, 1), [300, 301], false, ea, ec⟩ (by simp)).2
  have c2 : w.cell? ⟨gl, 6, none⟩ = some (.slice ea 2 ec) := h2.cellAt 6 (by decide)
  obtain ⟨gi, cap, e, hgi, hlt, hfz, hcl⟩ := hi1.block (by decide)
  simp only [Value.slice.injEq] at e
  obtain ⟨rfl, -, rfl⟩ := e
  have hne2 : gi ≠ g := own_ne hi1.1 hb2 (by decide) rfl
  have hk := kp_cell w gi 0 (.int .i64 301)
  have hset := hi1.set 0 301 (by rfl)
  have x1 := hb2.cell 1
  simp at x1
  have c1 := hcl 0 (by decide)
  have f1 := hfz 0
  simp at c1
  have HBF := Lib.hid (hk.blk hb2 (fun e => hne2 e.symm))
  have HBL := Lib.hid ((below_cell w gi 0 (.int .i64 301)).mono hgi)
  have HS := Lib.hid (show OwSn (w.setCell ⟨gi, 0, none⟩ (.int .i64 301)) B (.slice (some ⟨gl, 0, none⟩) 2 sc) bad5.snaps from
    ⟨by decide, (by intro s hs; simp only [bad5, List.mem_cons, List.not_mem_nil, or_false] at hs; rcases hs with rfl | rfl <;> exact ⟨rfl, rfl⟩), [e0, ⟨(2, 1), [301, 301], false, some ⟨gi, 0, none⟩, ec⟩], own_kp hk h2 (fun b hb' e => own_apart hi1.1 h2 (by decide) (show _ = some b by rw [e]; rfl) hb'), (by
      intro e he
      simp only [List.mem_cons, List.not_mem_nil, or_false] at he
      rcases he with rfl | rfl
      · exact OwI.kp (h3 e (by simp)) hk (fun b hb' e2 => hap0 b hb' (by rw [e2]; rfl))
      · exact hset), by
      rw [List.map_cons, he0]; rfl⟩)
  have HL := Lib.hid (h1'.kp hk (fun b hb' e => hapl b hb' (by rw [e]; rfl)))
  have HI := Lib.hid (h5'.kp hk (fun b hb' e => hapi b hb' (by rw [e]; rfl)))
  clear hb ho h1 h2 h3 h4 h5 h6 h7 h8 ap1 ap2 ap3 hb2 h1' h5' hset hk hne he0 hap0 hapl hapi hi1 hfz hcl
  go_enter Try.func24, Try.ntmps24
  go_wp2
  go_end0
  exact ⟨rfl, ⟨_, _, _, _, _, _, HBF.out, ⟨_, _, _, rfl, HL.out, HS.out, HI.out, ⟨⟨rfl, rfl⟩, ⟨rfl, rfl⟩, rfl, rfl⟩⟩⟩, HBL.out⟩
def bad18 : Mt := ⟨[200, 0], List.replicate 21 ⟨(0, 0), [], false⟩, ⟨(2, 1), (2, 2), 1, 2, [302, 301]⟩⟩
set_option maxRecDepth 100000 in
set_option maxHeartbeats 400000 in
theorem do18 (w : World) (B g : Nat) (h : PtA w B g wholeM) (hB : B ≤ g) : Calls Try.prog 37 #[.pointer (some ⟨g, 0, none⟩)] w (DoT w B g (bad18)) := by
  unfold DoT
  obtain ⟨la, lc, sa, sc, ia, ic, hb, ho⟩ := h
  obtain ⟨es, h1, h2, h3, h4, h5, h6, h7, h8, -⟩ := ho.rows
  have hb2 : Blk w g 30 #[.slice la 2 lc, .slice sa 2 sc, .int .u64 2, .int .u64 1, .int .u64 2, .int .u64 2, .int .i64 1, .int .i64 2, .slice ia 2 ic] := hb
  have HB := Lib.hid hb2
  have HL := Lib.hid (show OwI w B (.slice la 2 lc) [200, 0] from h1)
  have HS := Lib.hid (show OwSn w B (.slice sa 2 sc) wholeM.snaps from ⟨h8, h7, es, h2, h3, h4⟩)
  have HI := Lib.hid (show OwI w B (.slice ia 2 ic) [302, 301] from h5)
  have HG := Lib.hid hB
  clear hb hb2 ho h1 h2 h3 h4 h5 h6 h7 h8
  obtain ⟨i, hi, hz0, hz1, hz2⟩ := info_parts snap_info
  have hgs : B ≤ w.heap.size := Nat.le_of_lt (Nat.lt_of_le_of_lt HG.out HB.out.lt)
  obtain ⟨w1, hmk, ho1, hgr⟩ := run_makeSlice_full (P := Try.prog) (w := w) B 23 48 i (.agg #[.int .u64 0, .int .u64 0, .slice none 0 0, .bool false]) 4 Try.underlying23 hi hz0 hz1 .i64 .i64 21 (by omega) (by rw [hz2]; omega) (by unfold maxLen; omega) hgs
  have hmk2 : (Instr.makeSlice 23 (.int .i64 21) (.int .i64 21)).run Try.prog w = .ok (.slice (some ⟨w.heap.size, 0, none⟩) 21 21) w1 := hmk
  have hb1 : Below w.heap.size w w1 := ⟨hgr.os, hgr.tape, hgr.output, hgr.size, fun b hb => hgr.block b hb (by simp)⟩
  have hoe : OwE w1 B (.slice (some ⟨w.heap.size, 0, none⟩) 21 21) (List.replicate 21 se0) := by
    unfold OwE
    have e : (madeCells (Value.cells (.agg #[.int .u64 0, .int .u64 0, .slice none 0 0, .bool false])) (21 * 4)).toList = cellsE (List.replicate 21 se0) := by kernel_rfl
    rw [e] at ho1
    exact ho1
  have hos : OwSn w1 B (.slice (some ⟨w.heap.size, 0, none⟩) 21 21) bad18.snaps := ⟨by decide, (by
    intro s hs
    obtain rfl := List.eq_of_mem_replicate (show s ∈ List.replicate 21 (⟨(0, 0), [], false⟩ : Sn) from hs)
    exact ⟨rfl, rfl⟩), _, hoe, (by
    intro e he
    obtain rfl := List.eq_of_mem_replicate he
    exact OwI.nil_ _ _), rfl⟩
  generalize hsz : w.heap.size = q at *
  have hbk := HB.out.below hb1 (by have := HB.out.lt; omega)
  have x1 := hbk.cell 1
  have f1 := hbk.frozen 1
  simp at x1
  have hkc := kp_cell w1 g 1 (.slice (some ⟨q, 0, none⟩) 21 21)
  have hot : ∀ b, b = g → Oth w1 B b := fun b e => by subst e; exact .inr ⟨_, _, hbk, by decide, by decide⟩
  have HBF := Lib.hid (show Blk _ g 30 #[.slice la 2 lc, .slice (some ⟨q, 0, none⟩) 21 21, .int .u64 2, .int .u64 1, .int .u64 2, .int .u64 2, .int .i64 1, .int .i64 2, .slice ia 2 ic] from hbk.set 1 (.slice (some ⟨q, 0, none⟩) 21 21))
  have hb0 : Below w.heap.size w w1 := by rw [hsz]; exact hb1
  have HLF := Lib.hid ((HL.out.keep hb0).kpT hkc hot)
  have HIF := Lib.hid ((HI.out.keep hb0).kpT hkc hot)
  have HSF := Lib.hid (hos.kpT hkc hot)
  have HBL := Lib.hid ((hb1.mono hgs).trans ((below_cell w1 g 1 (.slice (some ⟨q, 0, none⟩) 21 21)).mono HG.out))
  clear hi hz0 hz1 hz2 hgs ho1 hgr hb1 hoe hos hbk hkc hot hb0 hmk hsz HB HL HS HI HG
  go_enter Try.func37, Try.ntmps37
  go_wp2
  go_end0
  exact ⟨rfl, ⟨_, _, _, _, _, _, HBF.out, ⟨_, _, _, rfl, HLF.out, HSF.out, HIF.out, ⟨⟨rfl, rfl⟩, ⟨rfl, rfl⟩, rfl, rfl⟩⟩⟩, HBL.out⟩
end Go.Proofs.Ytimgecflcackbaa
