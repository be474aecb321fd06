/-
  STREAM: the laws StreamReads and StreamLays, walked (printed by wip/gen-stmr.py).
-/
import Derived.Test.YtpfdpodelkleiaaStmQ
namespace Go.Proofs.Ytpfdpodelkleiaa
open Go.RowKit Reg Go.ChangeShapes

theorem cut400 (s : ByteArray) : ∃ Y : ByteArray, Y.size ≤ 400 ∧ (((400 : Int) < (s.size : Int) ∧ s.extract 0 400 = Y) ∨ ((s.size : Int) ≤ 400 ∧ s = Y)) := by
  by_cases h : 400 < s.size
  · exact ⟨_, by simp; omega, .inl ⟨by omega, rfl⟩⟩
  · exact ⟨_, by omega, .inr ⟨by omega, rfl⟩⟩
/-- a part in a block of its own -/
def PtG (w : World) (g : Nat) (p : Prt) : Prop := ∃ a n c, Blk w g 30 #[.int .u64 p.b.1, .int .u64 p.b.2, .int .u64 p.t.1, .int .u64 p.t.2, .int .i64 p.f, .int .i64 p.a, .slice a n c] ∧ InPr w (.agg #[.int .u64 p.b.1, .int .u64 p.b.2, .int .u64 p.t.1, .int .u64 p.t.2, .int .i64 p.f, .int .i64 p.a, .slice a n c]) p
theorem PtG.keep {w w' : World} {g : Nat} {p : Prt} (h : PtG w g p) (hb : Below w.heap.size w w') : PtG w' g p := by
  obtain ⟨a, n, c, h1, h2⟩ := h
  exact ⟨a, n, c, h1.keep hb, h2.keep hb⟩
theorem PtG.new {w : World} {p : Prt} {a : Option Addr} {n c : Nat} (h : InPr w (.agg #[.int .u64 p.b.1, .int .u64 p.b.2, .int .u64 p.t.1, .int .u64 p.t.2, .int .i64 p.f, .int .i64 p.a, .slice a n c]) p) :
    PtG (w.alloc (.cells #[.int .u64 p.b.1, .int .u64 p.b.2, .int .u64 p.t.1, .int .u64 p.t.2, .int .i64 p.f, .int .i64 p.a, .slice a n c] 30)) w.heap.size p :=
  ⟨a, n, c, Blk.new _ _ _, h.keep ((Below.refl _ _).alloc (Nat.le_refl _) _)⟩
theorem InPr.open_ {w : World} {v : Value} {p : Prt} (h : InPr w v p) : ∃ a n c, v = .agg #[.int .u64 p.b.1, .int .u64 p.b.2, .int .u64 p.t.1, .int .u64 p.t.2, .int .i64 p.f, .int .i64 p.a, .slice a n c] := by
  obtain ⟨sv, rfl, hs, -⟩ := h
  obtain ⟨a, c, rfl, -⟩ := hs
  exact ⟨a, _, c, rfl⟩
/-- a part is given back, and a number -/
def PzT (w : World) (p : Prt) (z : Int) (e : Ending) (w' : World) : Prop := ∃ a n c, e = .returned (.tuple #[.agg #[.int .u64 p.b.1, .int .u64 p.b.2, .int .u64 p.t.1, .int .u64 p.t.2, .int .i64 p.f, .int .i64 p.a, .slice a n c], .int .i64 z]) ∧
  InPr w' (.agg #[.int .u64 p.b.1, .int .u64 p.b.2, .int .u64 p.t.1, .int .u64 p.t.2, .int .i64 p.f, .int .i64 p.a, .slice a n c]) p ∧ Below w.heap.size w w'
theorem PzT.of {w : World} {p : Prt} {z : Int} {e : Ending} {w' : World} (h : DecT w p z e w') : PzT w p z e w' := by
  obtain ⟨v, rfl, hv, hb⟩ := h
  have hin := hv.inp
  obtain ⟨a, n, c, rfl⟩ := hin.open_
  exact ⟨a, n, c, rfl, hin, hb⟩
theorem decZ (w : World) (s : ByteArray) (hs : s.size ≤ 1152921504606846976) {p : Prt} {z : Int} (hp : decP 9 2 s = p ∧ decE 9 2 s = z) : Calls Try.prog 20 #[.string s] w (PzT w p z) := by
  obtain ⟨rfl, rfl⟩ := hp
  exact (dec_any w s hs).mono fun _ _ h => PzT.of h
theorem decRZ (w : World) (s : ByteArray) (hs : s.size ≤ 1152921504606846976) {p : Prt} {z : Int} (hp : decP 9 2 s = p ∧ decE 9 2 s = z) : Calls Try.prog 21 #[.string s] w (PzT w p z) := by
  obtain ⟨rfl, rfl⟩ := hp
  have h := dec_agree s 9 2 99 9 (by omega) (by omega)
  have h2 := decR_any w s hs
  rw [← h.1, ← h.2] at h2
  exact h2.mono fun _ _ h => PzT.of h
theorem sameRZ (w : World) {u v : Value} {p : Prt} (hu : InPr w u p) (hv : InPr w v p) : Calls Try.prog 12 #[u, v] w fun e w' => e = .returned (.bool true) ∧ Below w.heap.size w w' := by
  have := sameR_any w u v p p hu hv
  rwa [sameP_refl] at this
theorem sameZ (w : World) {u v : Value} {p : Prt} (hu : InPr w u p) (hv : InPr w v p) : Calls Try.prog 19 #[u, v] w fun e w' => e = .returned (.bool true) ∧ Below w.heap.size w w' := by
  have := same_any w u v p p hu hv
  rwa [sameP_refl] at this
theorem sealS_le {s : ByteArray} (h : s.size ≤ 400) : (sealS s).size ≤ 404 := by
  unfold sealS
  rw [strOf_size, Crc.length_sealed, List.length_take]
  omega
set_option maxRecDepth 100000 in
set_option maxHeartbeats 2000000 in
theorem law_StreamReads (s : ByteArray) (w : World) (_ : s.size ≤ reachBytes) : Calls Try.prog 5 #[.string s] w fun e w' => e = .returned (.bool true) ∧ Below w.heap.size w w' := by
  obtain ⟨Y, hY, hcase⟩ := cut400 s
  have HB := Lib.hid (Below.refl w.heap.size w)
  obtain ⟨p, hp⟩ : ∃ p, decP 9 2 Y = p := ⟨_, rfl⟩
  obtain ⟨z, hz⟩ : ∃ p, decE 9 2 Y = p := ⟨_, rfl⟩
  obtain ⟨U, hU⟩ : ∃ U, sealS Y = U := ⟨_, rfl⟩
  obtain ⟨p2, hp2⟩ : ∃ p, decP 9 2 U = p := ⟨_, rfl⟩
  obtain ⟨z2, hz2⟩ : ∃ p, decE 9 2 U = p := ⟨_, rfl⟩
  have hU4 := sealS_le hY
  rw [hU] at hU4
  have HD := Lib.hid (fun w => decZ w Y (by omega) ⟨hp, hz⟩)
  have HR := Lib.hid (fun w => decRZ w Y (by omega) ⟨hp, hz⟩)
  have HD2 := Lib.hid (fun w => decZ w U (by omega) ⟨hp2, hz2⟩)
  have HR2 := Lib.hid (fun w => decRZ w U (by omega) ⟨hp2, hz2⟩)
  have HS := Lib.hid (fun w => sealed_any Y w (by omega))
  rw [hU] at HS
  clear hp hz hU hp2 hz2 hU4 hY
  rcases hcase with ⟨h4, h5⟩ | ⟨h4, rfl⟩
  · have hm : min ((s.size : Nat) : Int) 400 = 400 := by omega
    go_enter Try.func5, Try.ntmps5
    go_wp2_with fail
    clear h4 h5 hm
    refine (HD.out _).mono ?_
    rintro e wx ⟨aP, nP, cP, rfl, hi, hb⟩
    replace HB := Lib.hid (HB.out.trans (hb.mono HB.out.size))
    have hb2 := (Below.refl wx.heap.size wx).alloc (Nat.le_refl _) (Obj.cells #[.int .u64 p.b.1, .int .u64 p.b.2, .int .u64 p.t.1, .int .u64 p.t.2, .int .i64 p.f, .int .i64 p.a, .slice aP nP cP] 30)
    have hp := PtG.new hi
    clear hb hi
    go_wp2_with fail
    generalize hg : wx.heap.size = gP at *
    generalize wx.alloc (Obj.cells #[.int .u64 p.b.1, .int .u64 p.b.2, .int .u64 p.t.1, .int .u64 p.t.2, .int .i64 p.f, .int .i64 p.a, .slice aP nP cP] 30) = wy at *
    replace HB := Lib.hid (HB.out.trans (hb2.mono (by rw [← hg]; exact HB.out.size)))
    have HP := Lib.hid hp
    clear hb2 hg hp
    refine (HR.out _).mono ?_
    rintro e wx ⟨aQ, nQ, cQ, rfl, hi, hb⟩
    replace HB := Lib.hid (HB.out.trans (hb.mono HB.out.size))
    replace HP := Lib.hid (HP.out.keep hb)
    have hb2 := (Below.refl wx.heap.size wx).alloc (Nat.le_refl _) (Obj.cells #[.int .u64 p.b.1, .int .u64 p.b.2, .int .u64 p.t.1, .int .u64 p.t.2, .int .i64 p.f, .int .i64 p.a, .slice aQ nQ cQ] 30)
    have hp := PtG.new hi
    clear hb hi
    go_wp2_with fail
    generalize hg : wx.heap.size = gQ at *
    generalize wx.alloc (Obj.cells #[.int .u64 p.b.1, .int .u64 p.b.2, .int .u64 p.t.1, .int .u64 p.t.2, .int .i64 p.f, .int .i64 p.a, .slice aQ nQ cQ] 30) = wy at *
    replace HB := Lib.hid (HB.out.trans (hb2.mono (by rw [← hg]; exact HB.out.size)))
    have HQ := Lib.hid hp
    replace HP := Lib.hid (HP.out.keep (by rw [hg]; exact hb2))
    clear hb2 hg hp
    refine (HS.out _).mono ?_
    rintro e wx ⟨rfl, hb⟩
    replace HB := Lib.hid (HB.out.trans (hb.mono HB.out.size))
    replace HP := Lib.hid (HP.out.keep hb)
    replace HQ := Lib.hid (HQ.out.keep hb)
    clear hb
    go_wp2_with fail
    refine (HD2.out _).mono ?_
    rintro e wx ⟨aA, nA, cA, rfl, hi, hb⟩
    replace HB := Lib.hid (HB.out.trans (hb.mono HB.out.size))
    replace HP := Lib.hid (HP.out.keep hb)
    replace HQ := Lib.hid (HQ.out.keep hb)
    have hb2 := (Below.refl wx.heap.size wx).alloc (Nat.le_refl _) (Obj.cells #[.int .u64 p2.b.1, .int .u64 p2.b.2, .int .u64 p2.t.1, .int .u64 p2.t.2, .int .i64 p2.f, .int .i64 p2.a, .slice aA nA cA] 30)
    have hp := PtG.new hi
    clear hb hi
    go_wp2_with fail
    generalize hg : wx.heap.size = gA at *
    generalize wx.alloc (Obj.cells #[.int .u64 p2.b.1, .int .u64 p2.b.2, .int .u64 p2.t.1, .int .u64 p2.t.2, .int .i64 p2.f, .int .i64 p2.a, .slice aA nA cA] 30) = wy at *
    replace HB := Lib.hid (HB.out.trans (hb2.mono (by rw [← hg]; exact HB.out.size)))
    have HA := Lib.hid hp
    replace HP := Lib.hid (HP.out.keep (by rw [hg]; exact hb2))
    replace HQ := Lib.hid (HQ.out.keep (by rw [hg]; exact hb2))
    clear hb2 hg hp
    refine (HR2.out _).mono ?_
    rintro e wx ⟨aB, nB, cB, rfl, hi, hb⟩
    replace HB := Lib.hid (HB.out.trans (hb.mono HB.out.size))
    replace HP := Lib.hid (HP.out.keep hb)
    replace HQ := Lib.hid (HQ.out.keep hb)
    replace HA := Lib.hid (HA.out.keep hb)
    have hb2 := (Below.refl wx.heap.size wx).alloc (Nat.le_refl _) (Obj.cells #[.int .u64 p2.b.1, .int .u64 p2.b.2, .int .u64 p2.t.1, .int .u64 p2.t.2, .int .i64 p2.f, .int .i64 p2.a, .slice aB nB cB] 30)
    have hp := PtG.new hi
    replace HB := Lib.hid (HB.out.trans (hb2.mono HB.out.size))
    obtain ⟨ap, np, cp, hp1, hi1⟩ := HP.out.keep hb2
    obtain ⟨aq, nq, cq, hp2, hi2⟩ := HQ.out.keep hb2
    obtain ⟨aa, na, ca, hp3, hi3⟩ := HA.out.keep hb2
    have hp4 := Blk.new wx 30 #[.int .u64 p2.b.1, .int .u64 p2.b.2, .int .u64 p2.t.1, .int .u64 p2.t.2, .int .i64 p2.f, .int .i64 p2.a, .slice aB nB cB]
    have hi4 := hi.keep hb2
    have x0 := hp1.cell 0
    have x1 := hp1.cell 1
    have x2 := hp1.cell 2
    have x3 := hp1.cell 3
    have x4 := hp1.cell 4
    have x5 := hp1.cell 5
    have x6 := hp1.cell 6
    have y0 := hp2.cell 0
    have y1 := hp2.cell 1
    have y2 := hp2.cell 2
    have y3 := hp2.cell 3
    have y4 := hp2.cell 4
    have y5 := hp2.cell 5
    have y6 := hp2.cell 6
    have z0 := hp3.cell 0
    have z1 := hp3.cell 1
    have z2 := hp3.cell 2
    have z3 := hp3.cell 3
    have z4 := hp3.cell 4
    have z5 := hp3.cell 5
    have z6 := hp3.cell 6
    simp at x0 x1 x2 x3 x4 x5 x6 y0 y1 y2 y3 y4 y5 y6 z0 z1 z2 z3 z4 z5 z6
    have HP4 := Lib.hid hp4
    have HI := Lib.hid (And.intro (And.intro hi1 hi2) (And.intro hi3 hi4))
    clear hb hb2 hi hp hp1 hp2 hp3 hp4 hi1 hi2 hi3 hi4 HP HQ HA
    go_wp2_with fail
    refine (sameRZ _ HI.out.1.1 HI.out.1.2).mono ?_
    rintro e wy ⟨rfl, hb⟩
    replace HB := Lib.hid (HB.out.trans (hb.mono HB.out.size))
    replace z0 := cell_later hb z0
    replace z1 := cell_later hb z1
    replace z2 := cell_later hb z2
    replace z3 := cell_later hb z3
    replace z4 := cell_later hb z4
    replace z5 := cell_later hb z5
    replace z6 := cell_later hb z6
    have u0 := (HP4.out.keep hb).cell 0
    have u1 := (HP4.out.keep hb).cell 1
    have u2 := (HP4.out.keep hb).cell 2
    have u3 := (HP4.out.keep hb).cell 3
    have u4 := (HP4.out.keep hb).cell 4
    have u5 := (HP4.out.keep hb).cell 5
    have u6 := (HP4.out.keep hb).cell 6
    simp at u0 u1 u2 u3 u4 u5 u6
    have HI2 := Lib.hid (And.intro (HI.out.2.1.keep hb) (HI.out.2.2.keep hb))
    clear hb x0 x1 x2 x3 x4 x5 x6 y0 y1 y2 y3 y4 y5 y6 HI
    go_wp2_with fail
    refine (sameRZ _ HI2.out.1 HI2.out.2).mono ?_
    rintro e wz ⟨rfl, hb⟩
    replace HB := Lib.hid (HB.out.trans (hb.mono HB.out.size))
    clear hb z0 z1 z2 z3 z4 z5 z6 u0 u1 u2 u3 u4 u5 u6 HI2
    go_wp2_with fail
    refine (works_any _).mono ?_
    rintro e wz ⟨rfl, hb⟩
    replace HB := Lib.hid (HB.out.trans (hb.mono HB.out.size))
    clear hb
    go_wp2
    go_ret
    exact ⟨rfl, HB.out⟩
  · have hm : min ((s.size : Nat) : Int) 400 = s.size := by omega
    go_enter Try.func5, Try.ntmps5
    go_wp2_with fail
    clear h4 hm
    refine (HD.out _).mono ?_
    rintro e wx ⟨aP, nP, cP, rfl, hi, hb⟩
    replace HB := Lib.hid (HB.out.trans (hb.mono HB.out.size))
    have hb2 := (Below.refl wx.heap.size wx).alloc (Nat.le_refl _) (Obj.cells #[.int .u64 p.b.1, .int .u64 p.b.2, .int .u64 p.t.1, .int .u64 p.t.2, .int .i64 p.f, .int .i64 p.a, .slice aP nP cP] 30)
    have hp := PtG.new hi
    clear hb hi
    go_wp2_with fail
    generalize hg : wx.heap.size = gP at *
    generalize wx.alloc (Obj.cells #[.int .u64 p.b.1, .int .u64 p.b.2, .int .u64 p.t.1, .int .u64 p.t.2, .int .i64 p.f, .int .i64 p.a, .slice aP nP cP] 30) = wy at *
    replace HB := Lib.hid (HB.out.trans (hb2.mono (by rw [← hg]; exact HB.out.size)))
    have HP := Lib.hid hp
    clear hb2 hg hp
    refine (HR.out _).mono ?_
    rintro e wx ⟨aQ, nQ, cQ, rfl, hi, hb⟩
    replace HB := Lib.hid (HB.out.trans (hb.mono HB.out.size))
    replace HP := Lib.hid (HP.out.keep hb)
    have hb2 := (Below.refl wx.heap.size wx).alloc (Nat.le_refl _) (Obj.cells #[.int .u64 p.b.1, .int .u64 p.b.2, .int .u64 p.t.1, .int .u64 p.t.2, .int .i64 p.f, .int .i64 p.a, .slice aQ nQ cQ] 30)
    have hp := PtG.new hi
    clear hb hi
    go_wp2_with fail
    generalize hg : wx.heap.size = gQ at *
    generalize wx.alloc (Obj.cells #[.int .u64 p.b.1, .int .u64 p.b.2, .int .u64 p.t.1, .int .u64 p.t.2, .int .i64 p.f, .int .i64 p.a, .slice aQ nQ cQ] 30) = wy at *
    replace HB := Lib.hid (HB.out.trans (hb2.mono (by rw [← hg]; exact HB.out.size)))
    have HQ := Lib.hid hp
    replace HP := Lib.hid (HP.out.keep (by rw [hg]; exact hb2))
    clear hb2 hg hp
    refine (HS.out _).mono ?_
    rintro e wx ⟨rfl, hb⟩
    replace HB := Lib.hid (HB.out.trans (hb.mono HB.out.size))
    replace HP := Lib.hid (HP.out.keep hb)
    replace HQ := Lib.hid (HQ.out.keep hb)
    clear hb
    go_wp2_with fail
    refine (HD2.out _).mono ?_
    rintro e wx ⟨aA, nA, cA, rfl, hi, hb⟩
    replace HB := Lib.hid (HB.out.trans (hb.mono HB.out.size))
    replace HP := Lib.hid (HP.out.keep hb)
    replace HQ := Lib.hid (HQ.out.keep hb)
    have hb2 := (Below.refl wx.heap.size wx).alloc (Nat.le_refl _) (Obj.cells #[.int .u64 p2.b.1, .int .u64 p2.b.2, .int .u64 p2.t.1, .int .u64 p2.t.2, .int .i64 p2.f, .int .i64 p2.a, .slice aA nA cA] 30)
    have hp := PtG.new hi
    clear hb hi
    go_wp2_with fail
    generalize hg : wx.heap.size = gA at *
    generalize wx.alloc (Obj.cells #[.int .u64 p2.b.1, .int .u64 p2.b.2, .int .u64 p2.t.1, .int .u64 p2.t.2, .int .i64 p2.f, .int .i64 p2.a, .slice aA nA cA] 30) = wy at *
    replace HB := Lib.hid (HB.out.trans (hb2.mono (by rw [← hg]; exact HB.out.size)))
    have HA := Lib.hid hp
    replace HP := Lib.hid (HP.out.keep (by rw [hg]; exact hb2))
    replace HQ := Lib.hid (HQ.out.keep (by rw [hg]; exact hb2))
    clear hb2 hg hp
    refine (HR2.out _).mono ?_
    rintro e wx ⟨aB, nB, cB, rfl, hi, hb⟩
    replace HB := Lib.hid (HB.out.trans (hb.mono HB.out.size))
    replace HP := Lib.hid (HP.out.keep hb)
    replace HQ := Lib.hid (HQ.out.keep hb)
    replace HA := Lib.hid (HA.out.keep hb)
    have hb2 := (Below.refl wx.heap.size wx).alloc (Nat.le_refl _) (Obj.cells #[.int .u64 p2.b.1, .int .u64 p2.b.2, .int .u64 p2.t.1, .int .u64 p2.t.2, .int .i64 p2.f, .int .i64 p2.a, .slice aB nB cB] 30)
    have hp := PtG.new hi
    replace HB := Lib.hid (HB.out.trans (hb2.mono HB.out.size))
    obtain ⟨ap, np, cp, hp1, hi1⟩ := HP.out.keep hb2
    obtain ⟨aq, nq, cq, hp2, hi2⟩ := HQ.out.keep hb2
    obtain ⟨aa, na, ca, hp3, hi3⟩ := HA.out.keep hb2
    have hp4 := Blk.new wx 30 #[.int .u64 p2.b.1, .int .u64 p2.b.2, .int .u64 p2.t.1, .int .u64 p2.t.2, .int .i64 p2.f, .int .i64 p2.a, .slice aB nB cB]
    have hi4 := hi.keep hb2
    have x0 := hp1.cell 0
    have x1 := hp1.cell 1
    have x2 := hp1.cell 2
    have x3 := hp1.cell 3
    have x4 := hp1.cell 4
    have x5 := hp1.cell 5
    have x6 := hp1.cell 6
    have y0 := hp2.cell 0
    have y1 := hp2.cell 1
    have y2 := hp2.cell 2
    have y3 := hp2.cell 3
    have y4 := hp2.cell 4
    have y5 := hp2.cell 5
    have y6 := hp2.cell 6
    have z0 := hp3.cell 0
    have z1 := hp3.cell 1
    have z2 := hp3.cell 2
    have z3 := hp3.cell 3
    have z4 := hp3.cell 4
    have z5 := hp3.cell 5
    have z6 := hp3.cell 6
    simp at x0 x1 x2 x3 x4 x5 x6 y0 y1 y2 y3 y4 y5 y6 z0 z1 z2 z3 z4 z5 z6
    have HP4 := Lib.hid hp4
    have HI := Lib.hid (And.intro (And.intro hi1 hi2) (And.intro hi3 hi4))
    clear hb hb2 hi hp hp1 hp2 hp3 hp4 hi1 hi2 hi3 hi4 HP HQ HA
    go_wp2_with fail
    refine (sameRZ _ HI.out.1.1 HI.out.1.2).mono ?_
    rintro e wy ⟨rfl, hb⟩
    replace HB := Lib.hid (HB.out.trans (hb.mono HB.out.size))
    replace z0 := cell_later hb z0
    replace z1 := cell_later hb z1
    replace z2 := cell_later hb z2
    replace z3 := cell_later hb z3
    replace z4 := cell_later hb z4
    replace z5 := cell_later hb z5
    replace z6 := cell_later hb z6
    have u0 := (HP4.out.keep hb).cell 0
    have u1 := (HP4.out.keep hb).cell 1
    have u2 := (HP4.out.keep hb).cell 2
    have u3 := (HP4.out.keep hb).cell 3
    have u4 := (HP4.out.keep hb).cell 4
    have u5 := (HP4.out.keep hb).cell 5
    have u6 := (HP4.out.keep hb).cell 6
    simp at u0 u1 u2 u3 u4 u5 u6
    have HI2 := Lib.hid (And.intro (HI.out.2.1.keep hb) (HI.out.2.2.keep hb))
    clear hb x0 x1 x2 x3 x4 x5 x6 y0 y1 y2 y3 y4 y5 y6 HI
    go_wp2_with fail
    refine (sameRZ _ HI2.out.1 HI2.out.2).mono ?_
    rintro e wz ⟨rfl, hb⟩
    replace HB := Lib.hid (HB.out.trans (hb.mono HB.out.size))
    clear hb z0 z1 z2 z3 z4 z5 z6 u0 u1 u2 u3 u4 u5 u6 HI2
    go_wp2_with fail
    refine (works_any _).mono ?_
    rintro e wz ⟨rfl, hb⟩
    replace HB := Lib.hid (HB.out.trans (hb.mono HB.out.size))
    clear hb
    go_wp2
    go_ret
    exact ⟨rfl, HB.out⟩
theorem InPr.farRow {w : World} {v : Value} {p : Prt} (h : InPr w v p) {g : Nat} {q : Prt} {a : Option Addr} {n c : Nat} (hg : Blk w g 30 #[.int .u64 q.b.1, .int .u64 q.b.2, .int .u64 q.t.1, .int .u64 q.t.2, .int .i64 q.f, .int .i64 q.a, .slice a n c]) (ds : Array Value) : InPr (w.setRow g ds) v p := by
  obtain ⟨sv, h1, ⟨a', c', h2, h3, hx⟩, h4⟩ := h
  refine ⟨sv, h1, ⟨a', c', h2, h3, fun j hj => ?_⟩, h4⟩
  obtain ⟨g', off, h5, h6, h7⟩ := hx j hj
  have hne : g' ≠ g := by
    rintro rfl
    rw [hg.cell] at h7
    match off + j * 2 + 1, h7 with
    | 0, h7 => simp at h7
    | 1, h7 => simp at h7
    | 2, h7 => simp at h7
    | 3, h7 => simp at h7
    | 4, h7 => simp at h7
    | 5, h7 => simp at h7
    | 6, h7 => simp at h7
    | n + 7, h7 => simp at h7
  have far : ∀ o, (w.setRow g ds).cell? ⟨g', o, none⟩ = w.cell? ⟨g', o, none⟩ := fun o => by
    refine World.cell?_of_block ?_
    simp only [World.setRow, Array.getElem?_modify]
    rw [if_neg (by omega)]
  exact ⟨g', off, h5, (far _).trans h6, (far _).trans h7⟩

set_option maxRecDepth 100000 in
set_option maxHeartbeats 4000000 in
theorem law_StreamLays (v : Value) (p : Prt) (v' : Value) (q : Prt) (w : World) (hv : InPr w v p) (_ : True) (hv' : InPr w v' q) (_ : True) : Calls Try.prog 4 #[v, v'] w fun e w' => e = .returned (.bool true) ∧ Below w.heap.size w w' := by
  obtain ⟨a, n, c, rfl⟩ := hv.open_
  obtain ⟨a', n', c', rfl⟩ := hv'.open_
  have hb1 := (Below.refl w.heap.size w).alloc (Nat.le_refl _) (Obj.cells #[.int .u64 p.b.1, .int .u64 p.b.2, .int .u64 p.t.1, .int .u64 p.t.2, .int .i64 p.f, .int .i64 p.a, .slice a n c] 30)
  have hb0 := hb1.alloc (by simp) (Obj.cells #[.int .u64 q.b.1, .int .u64 q.b.2, .int .u64 q.t.1, .int .u64 q.t.2, .int .i64 q.f, .int .i64 q.a, .slice a' n' c'] 30)
  have h1 := (Blk.new w 30 #[.int .u64 p.b.1, .int .u64 p.b.2, .int .u64 p.t.1, .int .u64 p.t.2, .int .i64 p.f, .int .i64 p.a, .slice a n c]).alloc (Obj.cells #[.int .u64 q.b.1, .int .u64 q.b.2, .int .u64 q.t.1, .int .u64 q.t.2, .int .i64 q.f, .int .i64 q.a, .slice a' n' c'] 30)
  have h2 := Blk.newAt (w := w.alloc (Obj.cells #[.int .u64 p.b.1, .int .u64 p.b.2, .int .u64 p.t.1, .int .u64 p.t.2, .int .i64 p.f, .int .i64 p.a, .slice a n c] 30)) 30 #[.int .u64 q.b.1, .int .u64 q.b.2, .int .u64 q.t.1, .int .u64 q.t.2, .int .i64 q.f, .int .i64 q.a, .slice a' n' c'] (g := w.heap.size + 1) (by simp)
  have h3 := hv.keep hb0
  have h4 := hv'.keep hb0
  go_enter Try.func4, Try.ntmps4
  go_wp2_with fail
  generalize (w.alloc (Obj.cells #[.int .u64 p.b.1, .int .u64 p.b.2, .int .u64 p.t.1, .int .u64 p.t.2, .int .i64 p.f, .int .i64 p.a, .slice a n c] 30)).alloc (Obj.cells #[.int .u64 q.b.1, .int .u64 q.b.2, .int .u64 q.t.1, .int .u64 q.t.2, .int .i64 q.f, .int .i64 q.a, .slice a' n' c'] 30) = w0 at *
  have HB := Lib.hid hb0
  have H1 := Lib.hid h1
  have H2 := Lib.hid h2
  have H4 := Lib.hid h4
  have H3 := Lib.hid h3
  clear hb0 hb1 h1 h2 h4 h3 hv hv'
  obtain ⟨sp, hsp⟩ : ∃ x, shortP p = x := ⟨_, rfl⟩
  obtain ⟨sq, hsq⟩ : ∃ x, shortP q = x := ⟨_, rfl⟩
  have hsz0 := H2.out.lt
  refine (short_any w0 _ p H3.out).mono ?_
  rintro e wx ⟨⟨vs, rfl, hi⟩, hb⟩
  rw [hsp] at hi
  obtain ⟨az, ns, cz, rfl⟩ := hi.inp.open_
  replace HB := Lib.hid (HB.out.trans (hb.mono HB.out.size))
  replace H1 := Lib.hid (H1.out.keep hb)
  replace H2 := Lib.hid (H2.out.keep hb)
  replace H4 := Lib.hid (H4.out.keep hb)
  have HO := Lib.hid hi
  have HSQ := Lib.hid hsq
  have HSZ := Lib.hid hsz0
  clear hb hi hsp hsq hsz0 H3
  go_wp2_with (refine wpList_store_then rfl 30 _ _ rfl w.heap.size #[.int .u64 sp.b.1, .int .u64 sp.b.2, .int .u64 sp.t.1, .int .u64 sp.t.2, .int .i64 sp.f, .int .i64 sp.a, .slice az ns cz] rfl rfl 30 _ H1.out part_size rfl (part_one _ _ _ _ _ _ _ _ _) ?_)
  refine Later.mk fun w1 hw1 => ?_
  have G1 := Lib.hid (show Blk w1 w.heap.size 30 #[.int .u64 sp.b.1, .int .u64 sp.b.2, .int .u64 sp.t.1, .int .u64 sp.t.2, .int .i64 sp.f, .int .i64 sp.a, .slice az ns cz] by rw [hw1]; exact H1.out.row _)
  have G2 := Lib.hid (show Blk w1 (w.heap.size + 1) 30 #[.int .u64 q.b.1, .int .u64 q.b.2, .int .u64 q.t.1, .int .u64 q.t.2, .int .i64 q.f, .int .i64 q.a, .slice a' n' c'] by rw [hw1]; exact H2.out.farRow (by omega) _)
  have GO := Lib.hid (show OwPr w1 w0.heap.size (.agg #[.int .u64 sp.b.1, .int .u64 sp.b.2, .int .u64 sp.t.1, .int .u64 sp.t.2, .int .i64 sp.f, .int .i64 sp.a, .slice az ns cz]) sp by rw [hw1]; exact HO.out.farRow (by have := HSZ.out; omega) _)
  have GI := Lib.hid (show InPr w1 (.agg #[.int .u64 q.b.1, .int .u64 q.b.2, .int .u64 q.t.1, .int .u64 q.t.2, .int .i64 q.f, .int .i64 q.a, .slice a' n' c']) q by rw [hw1]; exact H4.out.farRow H1.out _)
  have GB := Lib.hid (show Below w.heap.size w w1 by rw [hw1]; exact Below.setRow HB.out (Nat.le_refl _) _)
  clear hw1 H1 H2 H4 HO HB
  have y0 := G2.out.cell 0
  have y1 := G2.out.cell 1
  have y2 := G2.out.cell 2
  have y3 := G2.out.cell 3
  have y4 := G2.out.cell 4
  have y5 := G2.out.cell 5
  have y6 := G2.out.cell 6
  simp at y0 y1 y2 y3 y4 y5 y6
  go_wp2_with fail
  clear y0 y1 y2 y3 y4 y5 y6
  refine (short_any w1 _ q GI.out).mono ?_
  rintro e wx ⟨⟨vs, rfl, hi⟩, hb⟩
  rw [HSQ.out] at hi
  obtain ⟨at_, nt, ct, rfl⟩ := hi.inp.open_
  have hsz1 := G1.out.lt
  have hsz2 := G2.out.lt
  replace GB := Lib.hid (GB.out.trans (hb.mono GB.out.size))
  replace G1 := Lib.hid (G1.out.keep hb)
  replace G2 := Lib.hid (G2.out.keep hb)
  replace GO := Lib.hid (GO.out.keep hb)
  have GQ := Lib.hid hi
  have HSZ2 := Lib.hid (And.intro hsz1 hsz2)
  clear hb hi hsz1 hsz2 GI
  go_wp2_with (refine wpList_store_then rfl 30 _ _ rfl (w.heap.size + 1) #[.int .u64 sq.b.1, .int .u64 sq.b.2, .int .u64 sq.t.1, .int .u64 sq.t.2, .int .i64 sq.f, .int .i64 sq.a, .slice at_ nt ct] rfl rfl 30 _ G2.out part_size rfl (part_one _ _ _ _ _ _ _ _ _) ?_)
  refine Later.mk fun w2 hw2 => ?_
  have K1 := Lib.hid (show Blk w2 w.heap.size 30 #[.int .u64 sp.b.1, .int .u64 sp.b.2, .int .u64 sp.t.1, .int .u64 sp.t.2, .int .i64 sp.f, .int .i64 sp.a, .slice az ns cz] by rw [hw2]; exact G1.out.farRow (by omega) _)
  have K2 := Lib.hid (show Blk w2 (w.heap.size + 1) 30 #[.int .u64 sq.b.1, .int .u64 sq.b.2, .int .u64 sq.t.1, .int .u64 sq.t.2, .int .i64 sq.f, .int .i64 sq.a, .slice at_ nt ct] by rw [hw2]; exact G2.out.row _)
  have I1 := Lib.hid (show InPr w2 (.agg #[.int .u64 sp.b.1, .int .u64 sp.b.2, .int .u64 sp.t.1, .int .u64 sp.t.2, .int .i64 sp.f, .int .i64 sp.a, .slice az ns cz]) sp by rw [hw2]; exact (GO.out.farRow (by have := HSZ.out; omega) _).inp)
  have I2 := Lib.hid (show InPr w2 (.agg #[.int .u64 sq.b.1, .int .u64 sq.b.2, .int .u64 sq.t.1, .int .u64 sq.t.2, .int .i64 sq.f, .int .i64 sq.a, .slice at_ nt ct]) sq by rw [hw2]; exact (GQ.out.farRow (by have := HSZ2.out; omega) _).inp)
  have HB := Lib.hid (show Below w.heap.size w w2 by rw [hw2]; exact Below.setRow GB.out (by omega) _)
  clear hw2 G1 G2 GO GQ GB HSZ HSZ2 HSQ
  have x0 := K1.out.cell 0
  have x1 := K1.out.cell 1
  have x2 := K1.out.cell 2
  have x3 := K1.out.cell 3
  have x4 := K1.out.cell 4
  have x5 := K1.out.cell 5
  have x6 := K1.out.cell 6
  simp at x0 x1 x2 x3 x4 x5 x6
  go_wp2_with fail
  obtain ⟨S, hS⟩ : ∃ x, encS sp = x := ⟨_, rfl⟩
  obtain ⟨z, hz⟩ : ∃ x, checkP sp = x := ⟨_, rfl⟩
  obtain ⟨sm, hsm⟩ : ∃ x, sameP sp sq = x := ⟨_, rfl⟩
  have HEN := Lib.hid (fun w9 (h : Below w2.heap.size w2 w9) => enc_any w9 _ sp (I1.out.keep h))
  have HER := Lib.hid (fun w9 (h : Below w2.heap.size w2 w9) => encR_any w9 _ sp (I1.out.keep h))
  have HCH := Lib.hid (fun w9 (h : Below w2.heap.size w2 w9) => check_any w9 _ sp (I1.out.keep h))
  have HCR := Lib.hid (fun w9 (h : Below w2.heap.size w2 w9) => checkR_any w9 _ sp (I1.out.keep h))
  have HSA := Lib.hid (fun w9 (h : Below w2.heap.size w2 w9) => same_any w9 _ _ sp sq (I1.out.keep h) (I2.out.keep h))
  have HSR := Lib.hid (fun w9 (h : Below w2.heap.size w2 w9) => sameR_any w9 _ _ sp sq (I1.out.keep h) (I2.out.keep h))
  have HSS := Lib.hid (fun w9 (h : Below w2.heap.size w2 w9) => sameZ w9 (p := sp) (I1.out.keep h) (I1.out.keep h))
  rw [hS, hz] at HEN HER
  rw [hz] at HCH HCR
  rw [hsm] at HSA HSR
  clear hS hz hsm
  refine (HEN.out _ (Below.refl _ _)).mono ?_
  rintro e w3 ⟨rfl, hb⟩
  have HB3 := Lib.hid hb
  replace x0 := cell_later hb x0
  replace x1 := cell_later hb x1
  replace x2 := cell_later hb x2
  replace x3 := cell_later hb x3
  replace x4 := cell_later hb x4
  replace x5 := cell_later hb x5
  replace x6 := cell_later hb x6
  clear hb
  go_wp2_with fail
  clear x0 x1 x2 x3 x4 x5 x6
  refine (HER.out _ HB3.out).mono ?_
  rintro e w4 ⟨rfl, hb⟩
  replace HB3 := Lib.hid (HB3.out.trans (hb.mono HB3.out.size))
  clear hb
  go_wp2_with fail
  refine wp_region_chain [1, 3, 18, 21, 27, 30] (kv [(1, .is (.int .i64 z)), (3, .is (.int .i64 z)), (18, .is (.bool sm)), (21, .is (.bool sm)), (27, .is (.bool true)), (30, .is (.bool true))]) (fun _ w => Below (w4).heap.size (w4) w) (by kernel_rfl) (by kernel_rfl) (by kernel_rfl) (kv_inh _) (Below.drew (Below.refl _ _)) ?_
  intro ν hν
  have n1 : ν 1 = .int .i64 z := hν 1
  have n3 : ν 3 = .int .i64 z := hν 3
  have n18 : ν 18 = .bool sm := hν 18
  have n21 : ν 21 = .bool sm := hν 21
  have n27 : ν 27 = .bool true := hν 27
  have n30 : ν 30 = .bool true := hν 30
  clear hν
  refine ch_plain 0 6 1 (by rfl) rfl (by kernel_rfl) (by kernel_rfl) ?_
  apply Exists.intro
  refine ⟨fun st w2 hlo hhi hJ => ?_, ?_⟩
  · replace hJ : Below (w4).heap.size (w4) w2 := hJ
    have hZ := HB3.out.trans (hJ.mono HB3.out.size)
    have x0 := (K1.out.keep hZ).cell 0
    have x1 := (K1.out.keep hZ).cell 1
    have x2 := (K1.out.keep hZ).cell 2
    have x3 := (K1.out.keep hZ).cell 3
    have x4 := (K1.out.keep hZ).cell 4
    have x5 := (K1.out.keep hZ).cell 5
    have x6 := (K1.out.keep hZ).cell 6
    simp at x0 x1 x2 x3 x4 x5 x6
    clear hZ
    clear hlo hhi hJ
    go_simp
    exact And.intro rfl rfl
  simp only [Act.put, List.setIfInBounds_toArray, List.set_cons_succ, List.set_cons_zero, Nat.reduceAdd]
  refine ch_special 0 6 (by rfl) rfl (by decide) (by kernel_rfl) (fun w2 hJ => ?_) ?_
  · replace hJ : Below (w4).heap.size (w4) w2 := hJ
    go_simp
    refine (HCH.out _ (HB3.out.trans (hJ.mono HB3.out.size))).mono ?_
    rintro e w3 ⟨rfl, hb⟩
    exact ⟨_, rfl, rfl, hJ.trans (hb.mono hJ.size)⟩
  rw [n1]
  simp only [Act.put, List.setIfInBounds_toArray, List.set_cons_succ, List.set_cons_zero, Nat.reduceAdd]
  refine ch_plain 0 6 1 (by rfl) rfl (by kernel_rfl) (by kernel_rfl) ?_
  apply Exists.intro
  refine ⟨fun st w2 hlo hhi hJ => ?_, ?_⟩
  · replace hJ : Below (w4).heap.size (w4) w2 := hJ
    have hZ := HB3.out.trans (hJ.mono HB3.out.size)
    have x0 := (K1.out.keep hZ).cell 0
    have x1 := (K1.out.keep hZ).cell 1
    have x2 := (K1.out.keep hZ).cell 2
    have x3 := (K1.out.keep hZ).cell 3
    have x4 := (K1.out.keep hZ).cell 4
    have x5 := (K1.out.keep hZ).cell 5
    have x6 := (K1.out.keep hZ).cell 6
    simp at x0 x1 x2 x3 x4 x5 x6
    clear hZ
    clear hlo hhi hJ
    go_simp
    exact And.intro rfl rfl
  simp only [Act.put, List.setIfInBounds_toArray, List.set_cons_succ, List.set_cons_zero, Nat.reduceAdd]
  refine ch_special 1 6 (by rfl) rfl (by decide) (by kernel_rfl) (fun w2 hJ => ?_) ?_
  · replace hJ : Below (w4).heap.size (w4) w2 := hJ
    go_simp
    refine (HCR.out _ (HB3.out.trans (hJ.mono HB3.out.size))).mono ?_
    rintro e w3 ⟨rfl, hb⟩
    exact ⟨_, rfl, rfl, hJ.trans (hb.mono hJ.size)⟩
  rw [n3]
  simp only [Act.put, List.setIfInBounds_toArray, List.set_cons_succ, List.set_cons_zero, Nat.reduceAdd]
  refine ch_plain 0 6 1 (by rfl) rfl (by kernel_rfl) (by kernel_rfl) ?_
  apply Exists.intro
  refine ⟨fun st w2 hlo hhi hJ => ?_, ?_⟩
  · clear hlo hhi hJ
    go_simp
    exact And.intro rfl rfl
  simp only [Act.put, List.setIfInBounds_toArray, List.set_cons_succ, List.set_cons_zero, Nat.reduceAdd]
  refine ch_plain 0 6 1 (by rfl) rfl (by kernel_rfl) (by kernel_rfl) ?_
  apply Exists.intro
  refine ⟨fun st w2 hlo hhi hJ => ?_, ?_⟩
  · clear hlo hhi hJ
    go_simp
    exact And.intro rfl rfl
  simp only [Act.put, List.setIfInBounds_toArray, List.set_cons_succ, List.set_cons_zero, Nat.reduceAdd]
  refine ch_plain 0 6 1 (by rfl) rfl (by kernel_rfl) (by kernel_rfl) ?_
  apply Exists.intro
  refine ⟨fun st w2 hlo hhi hJ => ?_, ?_⟩
  · clear hlo hhi hJ
    go_simp
    exact And.intro rfl rfl
  simp only [Act.put, List.setIfInBounds_toArray, List.set_cons_succ, List.set_cons_zero, Nat.reduceAdd]
  refine ch_plain 0 6 1 (by rfl) rfl (by kernel_rfl) (by kernel_rfl) ?_
  apply Exists.intro
  refine ⟨fun st w2 hlo hhi hJ => ?_, ?_⟩
  · clear hlo hhi hJ
    go_simp
    exact And.intro rfl rfl
  simp only [Act.put, List.setIfInBounds_toArray, List.set_cons_succ, List.set_cons_zero, Nat.reduceAdd]
  refine ch_plain 0 6 1 (by rfl) rfl (by kernel_rfl) (by kernel_rfl) ?_
  apply Exists.intro
  refine ⟨fun st w2 hlo hhi hJ => ?_, ?_⟩
  · clear hlo hhi hJ
    go_simp
    exact And.intro rfl rfl
  simp only [Act.put, List.setIfInBounds_toArray, List.set_cons_succ, List.set_cons_zero, Nat.reduceAdd]
  refine ch_plain 0 6 1 (by rfl) rfl (by kernel_rfl) (by kernel_rfl) ?_
  apply Exists.intro
  refine ⟨fun st w2 hlo hhi hJ => ?_, ?_⟩
  · clear hlo hhi hJ
    go_simp
    exact And.intro rfl rfl
  simp only [Act.put, List.setIfInBounds_toArray, List.set_cons_succ, List.set_cons_zero, Nat.reduceAdd]
  refine ch_plain 0 6 1 (by rfl) rfl (by kernel_rfl) (by kernel_rfl) ?_
  apply Exists.intro
  refine ⟨fun st w2 hlo hhi hJ => ?_, ?_⟩
  · clear hlo hhi hJ
    go_simp
    exact And.intro rfl rfl
  simp only [Act.put, List.setIfInBounds_toArray, List.set_cons_succ, List.set_cons_zero, Nat.reduceAdd]
  refine ch_plain 0 6 1 (by rfl) rfl (by kernel_rfl) (by kernel_rfl) ?_
  apply Exists.intro
  refine ⟨fun st w2 hlo hhi hJ => ?_, ?_⟩
  · clear hlo hhi hJ
    go_simp
    exact And.intro rfl rfl
  simp only [Act.put, List.setIfInBounds_toArray, List.set_cons_succ, List.set_cons_zero, Nat.reduceAdd]
  refine ch_plain 0 6 1 (by rfl) rfl (by kernel_rfl) (by kernel_rfl) ?_
  apply Exists.intro
  refine ⟨fun st w2 hlo hhi hJ => ?_, ?_⟩
  · clear hlo hhi hJ
    go_simp
    exact And.intro rfl rfl
  simp only [Act.put, List.setIfInBounds_toArray, List.set_cons_succ, List.set_cons_zero, Nat.reduceAdd]
  refine ch_plain 0 6 1 (by rfl) rfl (by kernel_rfl) (by kernel_rfl) ?_
  apply Exists.intro
  refine ⟨fun st w2 hlo hhi hJ => ?_, ?_⟩
  · clear hlo hhi hJ
    go_simp
    exact And.intro rfl rfl
  simp only [Act.put, List.setIfInBounds_toArray, List.set_cons_succ, List.set_cons_zero, Nat.reduceAdd]
  refine ch_plain 0 6 1 (by rfl) rfl (by kernel_rfl) (by kernel_rfl) ?_
  apply Exists.intro
  refine ⟨fun st w2 hlo hhi hJ => ?_, ?_⟩
  · clear hlo hhi hJ
    go_simp
    exact And.intro rfl rfl
  simp only [Act.put, List.setIfInBounds_toArray, List.set_cons_succ, List.set_cons_zero, Nat.reduceAdd]
  refine ch_plain 0 6 1 (by rfl) rfl (by kernel_rfl) (by kernel_rfl) ?_
  apply Exists.intro
  refine ⟨fun st w2 hlo hhi hJ => ?_, ?_⟩
  · clear hlo hhi hJ
    go_simp
    exact And.intro rfl rfl
  simp only [Act.put, List.setIfInBounds_toArray, List.set_cons_succ, List.set_cons_zero, Nat.reduceAdd]
  refine ch_plain 0 6 1 (by rfl) rfl (by kernel_rfl) (by kernel_rfl) ?_
  apply Exists.intro
  refine ⟨fun st w2 hlo hhi hJ => ?_, ?_⟩
  · replace hJ : Below (w4).heap.size (w4) w2 := hJ
    have hZ := HB3.out.trans (hJ.mono HB3.out.size)
    have x0 := (K1.out.keep hZ).cell 0
    have x1 := (K1.out.keep hZ).cell 1
    have x2 := (K1.out.keep hZ).cell 2
    have x3 := (K1.out.keep hZ).cell 3
    have x4 := (K1.out.keep hZ).cell 4
    have x5 := (K1.out.keep hZ).cell 5
    have x6 := (K1.out.keep hZ).cell 6
    simp at x0 x1 x2 x3 x4 x5 x6
    clear hZ
    clear hlo hhi hJ
    go_simp
    exact And.intro rfl rfl
  simp only [Act.put, List.setIfInBounds_toArray, List.set_cons_succ, List.set_cons_zero, Nat.reduceAdd]
  refine ch_plain 0 6 1 (by rfl) rfl (by kernel_rfl) (by kernel_rfl) ?_
  apply Exists.intro
  refine ⟨fun st w2 hlo hhi hJ => ?_, ?_⟩
  · replace hJ : Below (w4).heap.size (w4) w2 := hJ
    have hZ := HB3.out.trans (hJ.mono HB3.out.size)
    have y0 := (K2.out.keep hZ).cell 0
    have y1 := (K2.out.keep hZ).cell 1
    have y2 := (K2.out.keep hZ).cell 2
    have y3 := (K2.out.keep hZ).cell 3
    have y4 := (K2.out.keep hZ).cell 4
    have y5 := (K2.out.keep hZ).cell 5
    have y6 := (K2.out.keep hZ).cell 6
    simp at y0 y1 y2 y3 y4 y5 y6
    clear hZ
    clear hlo hhi hJ
    go_simp
    exact And.intro rfl rfl
  simp only [Act.put, List.setIfInBounds_toArray, List.set_cons_succ, List.set_cons_zero, Nat.reduceAdd]
  refine ch_special 2 6 (by rfl) rfl (by decide) (by kernel_rfl) (fun w2 hJ => ?_) ?_
  · replace hJ : Below (w4).heap.size (w4) w2 := hJ
    go_simp
    refine (HSA.out _ (HB3.out.trans (hJ.mono HB3.out.size))).mono ?_
    rintro e w3 ⟨rfl, hb⟩
    exact ⟨_, rfl, rfl, hJ.trans (hb.mono hJ.size)⟩
  rw [n18]
  simp only [Act.put, List.setIfInBounds_toArray, List.set_cons_succ, List.set_cons_zero, Nat.reduceAdd]
  refine ch_plain 0 6 1 (by rfl) rfl (by kernel_rfl) (by kernel_rfl) ?_
  apply Exists.intro
  refine ⟨fun st w2 hlo hhi hJ => ?_, ?_⟩
  · replace hJ : Below (w4).heap.size (w4) w2 := hJ
    have hZ := HB3.out.trans (hJ.mono HB3.out.size)
    have x0 := (K1.out.keep hZ).cell 0
    have x1 := (K1.out.keep hZ).cell 1
    have x2 := (K1.out.keep hZ).cell 2
    have x3 := (K1.out.keep hZ).cell 3
    have x4 := (K1.out.keep hZ).cell 4
    have x5 := (K1.out.keep hZ).cell 5
    have x6 := (K1.out.keep hZ).cell 6
    simp at x0 x1 x2 x3 x4 x5 x6
    clear hZ
    clear hlo hhi hJ
    go_simp
    exact And.intro rfl rfl
  simp only [Act.put, List.setIfInBounds_toArray, List.set_cons_succ, List.set_cons_zero, Nat.reduceAdd]
  refine ch_plain 0 6 1 (by rfl) rfl (by kernel_rfl) (by kernel_rfl) ?_
  apply Exists.intro
  refine ⟨fun st w2 hlo hhi hJ => ?_, ?_⟩
  · replace hJ : Below (w4).heap.size (w4) w2 := hJ
    have hZ := HB3.out.trans (hJ.mono HB3.out.size)
    have y0 := (K2.out.keep hZ).cell 0
    have y1 := (K2.out.keep hZ).cell 1
    have y2 := (K2.out.keep hZ).cell 2
    have y3 := (K2.out.keep hZ).cell 3
    have y4 := (K2.out.keep hZ).cell 4
    have y5 := (K2.out.keep hZ).cell 5
    have y6 := (K2.out.keep hZ).cell 6
    simp at y0 y1 y2 y3 y4 y5 y6
    clear hZ
    clear hlo hhi hJ
    go_simp
    exact And.intro rfl rfl
  simp only [Act.put, List.setIfInBounds_toArray, List.set_cons_succ, List.set_cons_zero, Nat.reduceAdd]
  refine ch_special 3 6 (by rfl) rfl (by decide) (by kernel_rfl) (fun w2 hJ => ?_) ?_
  · replace hJ : Below (w4).heap.size (w4) w2 := hJ
    go_simp
    refine (HSR.out _ (HB3.out.trans (hJ.mono HB3.out.size))).mono ?_
    rintro e w3 ⟨rfl, hb⟩
    exact ⟨_, rfl, rfl, hJ.trans (hb.mono hJ.size)⟩
  rw [n21]
  simp only [Act.put, List.setIfInBounds_toArray, List.set_cons_succ, List.set_cons_zero, Nat.reduceAdd]
  refine ch_plain 0 6 1 (by rfl) rfl (by kernel_rfl) (by kernel_rfl) ?_
  apply Exists.intro
  refine ⟨fun st w2 hlo hhi hJ => ?_, ?_⟩
  · clear hlo hhi hJ
    go_simp
    exact And.intro rfl rfl
  simp only [Act.put, List.setIfInBounds_toArray, List.set_cons_succ, List.set_cons_zero, Nat.reduceAdd]
  refine ch_plain 0 6 1 (by rfl) rfl (by kernel_rfl) (by kernel_rfl) ?_
  apply Exists.intro
  refine ⟨fun st w2 hlo hhi hJ => ?_, ?_⟩
  · clear hlo hhi hJ
    go_simp
    exact And.intro rfl rfl
  simp only [Act.put, List.setIfInBounds_toArray, List.set_cons_succ, List.set_cons_zero, Nat.reduceAdd]
  refine ch_plain 0 6 1 (by rfl) rfl (by kernel_rfl) (by kernel_rfl) ?_
  apply Exists.intro
  refine ⟨fun st w2 hlo hhi hJ => ?_, ?_⟩
  · clear hlo hhi hJ
    go_simp
    exact And.intro rfl rfl
  simp only [Act.put, List.setIfInBounds_toArray, List.set_cons_succ, List.set_cons_zero, Nat.reduceAdd]
  refine ch_plain 0 6 1 (by rfl) rfl (by kernel_rfl) (by kernel_rfl) ?_
  apply Exists.intro
  refine ⟨fun st w2 hlo hhi hJ => ?_, ?_⟩
  · replace hJ : Below (w4).heap.size (w4) w2 := hJ
    have hZ := HB3.out.trans (hJ.mono HB3.out.size)
    have x0 := (K1.out.keep hZ).cell 0
    have x1 := (K1.out.keep hZ).cell 1
    have x2 := (K1.out.keep hZ).cell 2
    have x3 := (K1.out.keep hZ).cell 3
    have x4 := (K1.out.keep hZ).cell 4
    have x5 := (K1.out.keep hZ).cell 5
    have x6 := (K1.out.keep hZ).cell 6
    simp at x0 x1 x2 x3 x4 x5 x6
    clear hZ
    clear hlo hhi hJ
    go_simp
    exact And.intro rfl rfl
  simp only [Act.put, List.setIfInBounds_toArray, List.set_cons_succ, List.set_cons_zero, Nat.reduceAdd]
  refine ch_plain 0 6 1 (by rfl) rfl (by kernel_rfl) (by kernel_rfl) ?_
  apply Exists.intro
  refine ⟨fun st w2 hlo hhi hJ => ?_, ?_⟩
  · replace hJ : Below (w4).heap.size (w4) w2 := hJ
    have hZ := HB3.out.trans (hJ.mono HB3.out.size)
    have x0 := (K1.out.keep hZ).cell 0
    have x1 := (K1.out.keep hZ).cell 1
    have x2 := (K1.out.keep hZ).cell 2
    have x3 := (K1.out.keep hZ).cell 3
    have x4 := (K1.out.keep hZ).cell 4
    have x5 := (K1.out.keep hZ).cell 5
    have x6 := (K1.out.keep hZ).cell 6
    simp at x0 x1 x2 x3 x4 x5 x6
    clear hZ
    clear hlo hhi hJ
    go_simp
    exact And.intro rfl rfl
  simp only [Act.put, List.setIfInBounds_toArray, List.set_cons_succ, List.set_cons_zero, Nat.reduceAdd]
  refine ch_special 4 6 (by rfl) rfl (by decide) (by kernel_rfl) (fun w2 hJ => ?_) ?_
  · replace hJ : Below (w4).heap.size (w4) w2 := hJ
    go_simp
    refine (HSS.out _ (HB3.out.trans (hJ.mono HB3.out.size))).mono ?_
    rintro e w3 ⟨rfl, hb⟩
    exact ⟨_, rfl, rfl, hJ.trans (hb.mono hJ.size)⟩
  rw [n27]
  simp only [Act.put, List.setIfInBounds_toArray, List.set_cons_succ, List.set_cons_zero, Nat.reduceAdd]
  refine ch_plain 0 6 1 (by rfl) rfl (by kernel_rfl) (by kernel_rfl) ?_
  apply Exists.intro
  refine ⟨fun st w2 hlo hhi hJ => ?_, ?_⟩
  · clear hlo hhi hJ
    go_simp
    exact And.intro rfl rfl
  simp only [Act.put, List.setIfInBounds_toArray, List.set_cons_succ, List.set_cons_zero, Nat.reduceAdd]
  refine ch_plain 0 6 1 (by rfl) rfl (by kernel_rfl) (by kernel_rfl) ?_
  apply Exists.intro
  refine ⟨fun st w2 hlo hhi hJ => ?_, ?_⟩
  · clear hlo hhi hJ
    go_simp
    exact And.intro rfl rfl
  simp only [Act.put, List.setIfInBounds_toArray, List.set_cons_succ, List.set_cons_zero, Nat.reduceAdd]
  refine ch_special 5 6 (by rfl) rfl (by decide) (by kernel_rfl) (fun w2 hJ => ?_) ?_
  · replace hJ : Below (w4).heap.size (w4) w2 := hJ
    go_simp
    refine (works_any w2).mono ?_
    rintro e w3 ⟨rfl, hb⟩
    exact ⟨_, rfl, rfl, hJ.trans (hb.mono hJ.size)⟩
  rw [n30]
  simp only [Act.put, List.setIfInBounds_toArray, List.set_cons_succ, List.set_cons_zero, Nat.reduceAdd]
  refine ch_plain 0 6 1 (by rfl) rfl (by kernel_rfl) (by kernel_rfl) ?_
  apply Exists.intro
  refine ⟨fun st w2 hlo hhi hJ => ?_, ?_⟩
  · clear hlo hhi hJ
    go_simp
    exact And.intro rfl rfl
  simp only [Act.put, List.setIfInBounds_toArray, List.set_cons_succ, List.set_cons_zero, Nat.reduceAdd]
  refine ch_plain 0 6 1 (by rfl) rfl (by kernel_rfl) (by kernel_rfl) ?_
  apply Exists.intro
  refine ⟨fun st w2 hlo hhi hJ => ?_, ?_⟩
  · clear hlo hhi hJ
    go_simp
    exact And.intro rfl rfl
  simp only [Act.put, Nat.reduceAdd]
  refine ch_nil (fun w5 hJ => ?_)
  replace hJ : Below (w4).heap.size (w4) w5 := hJ
  clear n1 n3 n18 n21 n27 n30
  have HB9 := Lib.hid (HB.out.trans ((HB3.out.trans (hJ.mono HB3.out.size)).mono HB.out.size))
  clear hJ
  go_wp2
  go_ret
  exact ⟨rfl, HB9.out⟩
end Go.Proofs.Ytpfdpodelkleiaa
