/-
  META: what MetaKnown does to its copies: stores into the row of snapshots (printed by wip/gen-metke.py).
-/
import Derived.Test.YtimgecflcackbaaMetKd
namespace Go.Proofs.Ytimgecflcackbaa
open Go.RowKit Reg Go.ChangeShapes

/-- a row's block -/
theorem own_block_ {w : World} {base m n : Nat} {t : TypeId} {v : Value} {xs : List Value} (h : w.ownsRow base t m v n xs) (hn : 0 < n) : ∃ g cap, v = .slice (some ⟨g, 0, none⟩) n cap ∧ base ≤ g := by
  rcases h.2 with ⟨rfl, h0⟩ | ⟨g, cap, cur, rfl, hg, _⟩
  · omega
  · exact ⟨g, cap, rfl, hg⟩
def bad6 : Mt := ⟨[200, 0], [⟨(1, 1), [], true⟩, ⟨(2, 1), [300, 301], false⟩], ⟨(2, 1), (2, 2), 1, 2, [302, 301]⟩⟩
set_option maxRecDepth 100000 in
set_option maxHeartbeats 400000 in
theorem do6 (w : World) (B g : Nat) (h : PtA w B g wholeM) (_ : B ≤ g) : Calls Try.prog 25 #[.pointer (some ⟨g, 0, none⟩)] w (DoT w B g (bad6)) := by
  unfold DoT
  obtain ⟨la, lc, sa, sc, ia, ic, hb, ho⟩ := h
  obtain ⟨es, h1, h2, h3, h4, h5, h6, h7, h8, ap1, ap2, ap3⟩ := ho.rows
  have hb2 : Blk w g 30 #[.slice la 2 lc, .slice sa 2 sc, .int .u64 2, .int .u64 1, .int .u64 2, .int .u64 2, .int .i64 1, .int .i64 2, .slice ia 2 ic] := hb
  have h1' : OwI w B (.slice la 2 lc) [200, 0] := h1
  have h5' : OwI w B (.slice ia 2 ic) [302, 301] := h5
  obtain ⟨e0, e1, rfl⟩ : ∃ e0 e1, es = [e0, e1] := by
    have hl := congrArg List.length h4
    rw [List.length_map] at hl
    match es, hl with
    | [a, b], _ => exact ⟨a, b, rfl⟩
  obtain ⟨gl, cap, e, hge⟩ := own_block_ h2 (show 0 < [e0, e1].length by simp)
  simp only [Value.slice.injEq] at e
  obtain ⟨rfl, -, rfl⟩ := e
  have hne : gl ≠ g := own_ne h2 hb2 (by decide) rfl
  have hk := kp_cell w gl 2 (.slice none 0 0)
  have x1 := hb2.cell 1
  simp at x1
  have c2 : w.cell? ⟨gl, 2, none⟩ = some e0.iv := h2.cellAt 2 (by decide)
  have f2 := h2.frozenAt 2
  have hst := (h2.stored 2 (.slice none 0 0)).1
  have he1 : e1.sn = ⟨(2, 1), [300, 301], false⟩ := (List.cons.inj (List.cons.inj h4).2).1
  have he0 : e0.sn = ⟨(1, 1), [0, 0], true⟩ := (List.cons.inj h4).1
  have HBF := Lib.hid (hk.blk hb2 (fun e => hne e.symm))
  have HBL := Lib.hid ((below_cell w gl 2 (.slice none 0 0)).mono hge)
  obtain ⟨eg, ez, eh, ea, ec⟩ := e0
  simp only [Se.sn, Sn.mk.injEq] at he0
  obtain ⟨rfl, rfl, rfl⟩ := he0
  have HS := Lib.hid (show OwSn (w.setCell ⟨gl, 2, none⟩ (.slice none 0 0)) B (.slice (some ⟨gl, 0, none⟩) 2 sc) bad6.snaps from
    ⟨by decide, (by intro s hs; simp only [bad6, List.mem_cons, List.not_mem_nil, or_false] at hs; rcases hs with rfl | rfl <;> exact ⟨rfl, rfl⟩), [⟨(1, 1), [], true, none, 0⟩, e1], hst, (by
      intro e he
      rcases List.mem_cons.1 he with rfl | he
      · exact OwI.nil_ _ _
      · rw [List.mem_singleton] at he
        rw [he]
        exact OwI.kp (h3 e1 (by simp)) hk (fun b hb' e => own_apart (h3 e1 (by simp)).1 h2 (by decide) hb' (by rw [e]; rfl))), by rw [List.map_cons, List.map_cons, he1]; rfl⟩)
  have HL := Lib.hid (h1'.kp hk (fun b hb' e => own_apart h1'.1 h2 (by decide) hb' (by rw [e]; rfl)))
  have HI := Lib.hid (h5'.kp hk (fun b hb' e => own_apart h5'.1 h2 (by decide) hb' (by rw [e]; rfl)))
  clear hb ho h1 h2 h3 h4 h5 h6 h7 h8 ap1 ap2 ap3 hb2 h1' h5' hst hk hne he1
  go_enter Try.func25, Try.ntmps25
  go_wp2
  go_end0
  exact ⟨rfl, ⟨_, _, _, _, _, _, HBF.out, ⟨_, _, _, rfl, HL.out, HS.out, HI.out, ⟨⟨rfl, rfl⟩, ⟨rfl, rfl⟩, rfl, rfl⟩⟩⟩, HBL.out⟩
end Go.Proofs.Ytimgecflcackbaa
