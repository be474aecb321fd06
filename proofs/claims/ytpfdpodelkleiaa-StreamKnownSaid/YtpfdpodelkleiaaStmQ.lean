/-
  STREAM: works, walked (printed by wip/gen-stmq.py).
-/
import Derived.Test.YtpfdpodelkleiaaStmP
namespace Go.Proofs.Ytpfdpodelkleiaa
open Go.RowKit Reg Go.ChangeShapes

theorem cut_any (w : World) (gb gt : Gd) (v : Value) (l : List Cg) (f : Int) (hv : RdC w v l) (hgw : wfG gb ∧ wfG gt) : Calls Try.prog 10 #[aggG gb, aggG gt, v, .int .i64 f] w (CutT w (cutP gb gt l f) (cutE gb gt l f)) := by
  unfold cutP cutE
  by_cases h : cutOk gb gt l f
  · rw [if_pos h, if_pos h]
    obtain ⟨k, rfl⟩ : ∃ k : Nat, f = k := ⟨f.toNat, by have := h.2.2.1; omega⟩
    exact cut_good w gb gt v l k hv hgw h
  · rw [if_neg h, if_neg h]
    exact cut_bad w gb gt v l f hv h
theorem cutR_any (w : World) (gb gt : Gd) (v : Value) (l : List Cg) (f : Int) (hv : RdC w v l) (hgw : wfG gb ∧ wfG gt) : Calls Try.prog 11 #[aggG gb, aggG gt, v, .int .i64 f] w (CutT w (cutP gb gt l f) (cutE gb gt l f)) := by
  unfold cutP cutE
  by_cases h : cutOk gb gt l f
  · rw [if_pos h, if_pos h]
    obtain ⟨k, rfl⟩ : ∃ k : Nat, f = k := ⟨f.toNat, by have := h.2.2.1; omega⟩
    exact cutR_good w gb gt v l k hv hgw h
  · rw [if_neg h, if_neg h]
    exact cutR_bad w gb gt v l f hv h
def P0 : Prt := cutQ (1, 1) (1, 2) (madeP threeM) 0
def P2 : Prt := cutQ (1, 1) (1, 2) (madeP threeM) 2
theorem ok0 : cutOk (1, 1) (1, 2) (madeP threeM) ((0 : Nat) : Int) := by decide +kernel
theorem ok2 : cutOk (1, 1) (1, 2) (madeP threeM) ((2 : Nat) : Int) := by decide +kernel
theorem okP0 : okP P0 := by decide +kernel
theorem okP2 : okP P2 := by decide +kernel
theorem wf_ones : wfG ((1, 1) : Gd) ∧ wfG ((1, 2) : Gd) := ⟨⟨rfl, rfl⟩, ⟨rfl, rfl⟩⟩
theorem wfP2 : wfPr P2 := ⟨wf_ones.1, wf_ones.2, rfl, by decide +kernel⟩
theorem wfP0 : wfPr P0 := ⟨wf_ones.1, wf_ones.2, rfl, by decide +kernel⟩
def LitT (w : World) (f n : Int) (m : Nat) (p : Prt) (e : Ending) (w' : World) : Prop := ∃ a c, e = .returned (.tuple #[.agg #[.int .u64 1, .int .u64 1, .int .u64 1, .int .u64 2, .int .i64 f, .int .i64 n, .slice a m c], .int .i64 0]) ∧
  InPr w' (.agg #[.int .u64 1, .int .u64 1, .int .u64 1, .int .u64 2, .int .i64 f, .int .i64 n, .slice a m c]) p ∧ Below w.heap.size w w'
theorem cutw0 (w : World) {base : Nat} {u : Value} (ho : OwC w base u (madeP threeM)) :
    Calls Try.prog 10 #[.agg #[.int .u64 1, .int .u64 1], .agg #[.int .u64 1, .int .u64 2], u, .int .i64 0] w (LitT w 0 3 2 P0) := by
  refine (cut_good w (1, 1) (1, 2) u (madeP threeM) 0 ho.rdc wf_ones ok0).mono ?_
  rintro e w' ⟨v, rfl, hv, hb⟩
  have hin := hv.inp
  obtain ⟨sv, rfl, hs, -⟩ := hv
  obtain ⟨a, c, rfl, -⟩ := hs.rd
  exact ⟨a, c, rfl, hin, hb⟩
theorem cutw2 (w : World) {base : Nat} {u : Value} (ho : OwC w base u (madeP threeM)) :
    Calls Try.prog 10 #[.agg #[.int .u64 1, .int .u64 1], .agg #[.int .u64 1, .int .u64 2], u, .int .i64 2] w (LitT w 2 3 1 P2) := by
  refine (cut_good w (1, 1) (1, 2) u (madeP threeM) 2 ho.rdc wf_ones ok2).mono ?_
  rintro e w' ⟨v, rfl, hv, hb⟩
  have hin := hv.inp
  obtain ⟨sv, rfl, hs, -⟩ := hv
  obtain ⟨a, c, rfl, -⟩ := hs.rd
  exact ⟨a, c, rfl, hin, hb⟩
theorem encS_le (p : Prt) : (encS p).size ≤ 1152921504606846976 := by
  unfold encS
  by_cases h : okP p
  · rw [if_pos h, strOf_size, Crc.length_sealed]
    have h1 := gB_le p (Z := fun j => p.cs.getD j (0, ByteArray.empty)) (fun _ => rfl) h (G := fun k => numB p (List.range 7) ++ (p.cs.take k).flatMap chgB) (fun _ => rfl) (Nat.le_refl _)
    simp only [List.take_length] at h1
    have h2 := h.2.2.2.1
    unfold encB
    omega
  · rw [if_neg h]
    show (0 : Nat) ≤ _
    omega
theorem decw (w : World) {s : ByteArray} (hs : s = encS P2) : Calls Try.prog 20 #[.string s] w (LitT w 2 3 1 P2) := by
  subst hs
  have hd := dec_enc wfP2 okP2 9 2 (by omega) (by omega)
  have h := dec_any w (encS P2) (encS_le P2)
  rw [hd.1, hd.2] at h
  refine h.mono ?_
  rintro e w' ⟨v, rfl, hv, hb⟩
  have hin := hv.inp
  obtain ⟨sv, rfl, hs, -⟩ := hv
  obtain ⟨a, c, rfl, -⟩ := hs.rd
  exact ⟨a, c, rfl, hin, hb⟩
theorem encw (w : World) {v : Value} (h : InPr w v P2) : Calls Try.prog 15 #[v] w fun e w' => ∃ s, e = .returned (.tuple #[.string s, .int .i64 0]) ∧ s = encS P2 ∧ Below w.heap.size w w' := by
  have := enc_any w v P2 h
  rw [show checkP P2 = 0 from if_pos okP2] at this
  exact this.mono fun e w' ⟨he, hb⟩ => ⟨_, he, rfl, hb⟩
theorem samew (w : World) {u v : Value} (hu : InPr w u P2) (hv : InPr w v P2) : Calls Try.prog 19 #[u, v] w fun e w' => e = .returned (.bool true) ∧ Below w.heap.size w w' := by
  have := same_any w u v P2 P2 hu hv
  rwa [sameP_refl] at this
theorem checkw (w : World) {v : Value} (h : InPr w v P0) : Calls Try.prog 17 #[v] w fun e w' => e = .returned (.int .i64 0) ∧ Below w.heap.size w w' := by
  have := check_any w v P0 h
  rwa [show checkP P0 = 0 from if_pos okP0] at this
/-- a part in a block of its own -/
def PtB (w : World) (g : Nat) (f n : Int) (m : Nat) (p : Prt) : Prop := ∃ a c, Blk w g 30 #[.int .u64 1, .int .u64 1, .int .u64 1, .int .u64 2, .int .i64 f, .int .i64 n, .slice a m c] ∧ InPr w (.agg #[.int .u64 1, .int .u64 1, .int .u64 1, .int .u64 2, .int .i64 f, .int .i64 n, .slice a m c]) p
theorem PtB.keep {w w' : World} {g : Nat} {f n : Int} {m : Nat} {p : Prt} (h : PtB w g f n m p) (hb : Below w.heap.size w w') : PtB w' g f n m p := by
  obtain ⟨a, c, h1, h2⟩ := h
  exact ⟨a, c, h1.keep hb, h2.keep hb⟩
theorem PtB.new {w : World} {f n : Int} {m : Nat} {p : Prt} {a : Option Addr} {c : Nat} (h : InPr w (.agg #[.int .u64 1, .int .u64 1, .int .u64 1, .int .u64 2, .int .i64 f, .int .i64 n, .slice a m c]) p) :
    PtB (w.alloc (.cells #[.int .u64 1, .int .u64 1, .int .u64 1, .int .u64 2, .int .i64 f, .int .i64 n, .slice a m c] 30)) w.heap.size f n m p :=
  ⟨a, c, Blk.new _ _ _, h.keep ((Below.refl _ _).alloc (Nat.le_refl _) _)⟩
set_option maxRecDepth 100000 in
set_option maxHeartbeats 2000000 in
theorem works_any (w : World) : Calls Try.prog 13 #[] w fun e w' => e = .returned (.bool true) ∧ Below w.heap.size w w' := by
  have HB := Lib.hid (Below.refl w.heap.size w)
  go_enter Try.func13, Try.ntmps13
  go_wp2_with fail
  refine (guid_any 1 1 _).mono ?_
  rintro e wx ⟨rfl, hb⟩
  replace HB := Lib.hid (HB.out.trans (hb.mono HB.out.size))
  clear hb
  go_wp2_with fail
  refine (guid_any 1 2 _).mono ?_
  rintro e wx ⟨rfl, hb⟩
  replace HB := Lib.hid (HB.out.trans (hb.mono HB.out.size))
  clear hb
  go_wp2_with fail
  refine (three_any _).mono ?_
  rintro e wx ⟨u, rfl, ho, hb⟩
  have HO := Lib.hid ho
  replace HB := Lib.hid (HB.out.trans (hb.mono HB.out.size))
  clear ho hb
  go_wp2_with fail
  refine (cutw0 _ HO.out).mono ?_
  rintro e wx ⟨a, c, rfl, hi, hb⟩
  replace HB := Lib.hid (HB.out.trans (hb.mono HB.out.size))
  go_wp2_with fail
  have hp := PtB.new hi
  have hb2 := (Below.refl wx.heap.size wx).alloc (Nat.le_refl _) (Obj.cells #[.int .u64 1, .int .u64 1, .int .u64 1, .int .u64 2, .int .i64 0, .int .i64 3, .slice a 2 c] 30)
  have HQI := Lib.hid (hi.keep hb2)
  clear hb hi
  generalize hgP : wx.heap.size = gP at *
  generalize wx.alloc (Obj.cells #[.int .u64 1, .int .u64 1, .int .u64 1, .int .u64 2, .int .i64 0, .int .i64 3, .slice a 2 c] 30) = wy at *
  replace HB := Lib.hid (HB.out.trans (hb2.mono (by rw [← hgP]; exact HB.out.size)))
  have HP := Lib.hid hp
  clear HO hb2 hgP hp HQI
  refine (guid_any 1 1 _).mono ?_
  rintro e wx ⟨rfl, hb⟩
  replace HB := Lib.hid (HB.out.trans (hb.mono HB.out.size))
  replace HP := Lib.hid (HP.out.keep hb)
  clear hb
  go_wp2_with fail
  refine (guid_any 1 2 _).mono ?_
  rintro e wx ⟨rfl, hb⟩
  replace HB := Lib.hid (HB.out.trans (hb.mono HB.out.size))
  replace HP := Lib.hid (HP.out.keep hb)
  clear hb
  go_wp2_with fail
  refine (three_any _).mono ?_
  rintro e wx ⟨u, rfl, ho, hb⟩
  have HO := Lib.hid ho
  replace HB := Lib.hid (HB.out.trans (hb.mono HB.out.size))
  replace HP := Lib.hid (HP.out.keep hb)
  clear ho hb
  go_wp2_with fail
  refine (cutw2 _ HO.out).mono ?_
  rintro e wx ⟨a, c, rfl, hi, hb⟩
  replace HB := Lib.hid (HB.out.trans (hb.mono HB.out.size))
  replace HP := Lib.hid (HP.out.keep hb)
  go_wp2_with fail
  have hp := PtB.new hi
  have hb2 := (Below.refl wx.heap.size wx).alloc (Nat.le_refl _) (Obj.cells #[.int .u64 1, .int .u64 1, .int .u64 1, .int .u64 2, .int .i64 2, .int .i64 3, .slice a 1 c] 30)
  have HQI := Lib.hid (hi.keep hb2)
  clear hb hi
  generalize hgQ : wx.heap.size = gQ at *
  generalize wx.alloc (Obj.cells #[.int .u64 1, .int .u64 1, .int .u64 1, .int .u64 2, .int .i64 2, .int .i64 3, .slice a 1 c] 30) = wy at *
  replace HB := Lib.hid (HB.out.trans (hb2.mono (by rw [← hgQ]; exact HB.out.size)))
  have HQ := Lib.hid hp
  replace HP := Lib.hid (HP.out.keep (by rw [hgQ]; exact hb2))
  clear HO hb2 hgQ hp
  refine (encw _ HQI.out).mono ?_
  rintro e wx ⟨s, rfl, hs, hb⟩
  have HS := Lib.hid hs
  clear hs
  replace HB := Lib.hid (HB.out.trans (hb.mono HB.out.size))
  replace HP := Lib.hid (HP.out.keep hb)
  replace HQ := Lib.hid (HQ.out.keep hb)
  clear hb HQI
  go_wp2_with fail
  refine (decw _ HS.out).mono ?_
  rintro e wx ⟨a, c, rfl, hi, hb⟩
  replace HB := Lib.hid (HB.out.trans (hb.mono HB.out.size))
  replace HP := Lib.hid (HP.out.keep hb)
  replace HQ := Lib.hid (HQ.out.keep hb)
  have hb2 := (Below.refl wx.heap.size wx).alloc (Nat.le_refl _) (Obj.cells #[.int .u64 1, .int .u64 1, .int .u64 1, .int .u64 2, .int .i64 2, .int .i64 3, .slice a 1 c] 30)
  obtain ⟨ap, cp, hp, hpi⟩ := HP.out.keep hb2
  obtain ⟨aq, cq, hq, hqi⟩ := HQ.out.keep hb2
  have hr := Blk.new wx 30 #[.int .u64 1, .int .u64 1, .int .u64 1, .int .u64 2, .int .i64 2, .int .i64 3, .slice a 1 c]
  have hri := hi.keep hb2
  replace HB := Lib.hid (HB.out.trans (hb2.mono HB.out.size))
  have x0 := hp.cell 0
  have x1 := hp.cell 1
  have x2 := hp.cell 2
  have x3 := hp.cell 3
  have x4 := hp.cell 4
  have x5 := hp.cell 5
  have x6 := hp.cell 6
  have y0 := hq.cell 0
  have y1 := hq.cell 1
  have y2 := hq.cell 2
  have y3 := hq.cell 3
  have y4 := hq.cell 4
  have y5 := hq.cell 5
  have y6 := hq.cell 6
  have z0 := hr.cell 0
  have z1 := hr.cell 1
  have z2 := hr.cell 2
  have z3 := hr.cell 3
  have z4 := hr.cell 4
  have z5 := hr.cell 5
  have z6 := hr.cell 6
  simp at x0 x1 x2 x3 x4 x5 x6 y0 y1 y2 y3 y4 y5 y6 z0 z1 z2 z3 z4 z5 z6
  clear hb hb2 hi
  have HI := Lib.hid (And.intro hpi (And.intro hqi hri))
  clear hp hq hr hpi hqi hri HP HQ
  go_wp2_with fail
  refine (samew _ HI.out.2.1 HI.out.2.2).mono ?_
  rintro e wx ⟨rfl, hb⟩
  replace HB := Lib.hid (HB.out.trans (hb.mono HB.out.size))
  replace x0 := cell_later hb x0
  replace x1 := cell_later hb x1
  replace x2 := cell_later hb x2
  replace x3 := cell_later hb x3
  replace x4 := cell_later hb x4
  replace x5 := cell_later hb x5
  replace x6 := cell_later hb x6
  have HI2 := Lib.hid (HI.out.1.keep hb)
  clear hb y0 y1 y2 y3 y4 y5 y6 z0 z1 z2 z3 z4 z5 z6 HI
  go_wp2_with fail
  refine (checkw _ HI2.out).mono ?_
  rintro e wx ⟨rfl, hb⟩
  replace HB := Lib.hid (HB.out.trans (hb.mono HB.out.size))
  clear hb
  go_wp2
  go_ret
  exact ⟨rfl, HB.out⟩
end Go.Proofs.Ytpfdpodelkleiaa
