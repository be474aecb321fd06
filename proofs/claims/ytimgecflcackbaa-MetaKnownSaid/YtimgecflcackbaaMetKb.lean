/-
  META: MetaKnown's 'with': a copy of the table, and what is done to it (printed by wip/gen-metkb.py).
-/
import Derived.Test.YtimgecflcackbaaMetKa
namespace Go.Proofs.Ytimgecflcackbaa
open Go.RowKit Reg Go.ChangeShapes

theorem OwA.open_ {w : World} {base : Nat} {v : Value} {m : Mt} (h : OwA w base v m) : ∃ la lc sa sc ia ic, v = .agg #[.slice la m.live.length lc, .slice sa m.snaps.length sc, .int .u64 m.token.base.1, .int .u64 m.token.base.2, .int .u64 m.token.target.1, .int .u64 m.token.target.2, .int .i64 m.token.next, .int .i64 m.token.all, .slice ia m.token.image.length ic] := h.mt.inm.open_
/-- a table whose rows lie apart, in block g -/
def PtA (w : World) (B g : Nat) (m : Mt) : Prop := ∃ la lc sa sc ia ic, Blk w g 30 #[.slice la m.live.length lc, .slice sa m.snaps.length sc, .int .u64 m.token.base.1, .int .u64 m.token.base.2, .int .u64 m.token.target.1, .int .u64 m.token.target.2, .int .i64 m.token.next, .int .i64 m.token.all, .slice ia m.token.image.length ic] ∧ OwA w B (.agg #[.slice la m.live.length lc, .slice sa m.snaps.length sc, .int .u64 m.token.base.1, .int .u64 m.token.base.2, .int .u64 m.token.target.1, .int .u64 m.token.target.2, .int .i64 m.token.next, .int .i64 m.token.all, .slice ia m.token.image.length ic]) m
/-- what is done to it leaves the table m -/
def DoT (w : World) (B g : Nat) (m : Mt) (e : Ending) (w' : World) : Prop := e = .returned (.tuple #[]) ∧ (∃ la lc sa sc ia ic, Blk w' g 30 #[.slice la m.live.length lc, .slice sa m.snaps.length sc, .int .u64 m.token.base.1, .int .u64 m.token.base.2, .int .u64 m.token.target.1, .int .u64 m.token.target.2, .int .i64 m.token.next, .int .i64 m.token.all, .slice ia m.token.image.length ic] ∧ OwMt w' B (.agg #[.slice la m.live.length lc, .slice sa m.snaps.length sc, .int .u64 m.token.base.1, .int .u64 m.token.base.2, .int .u64 m.token.target.1, .int .u64 m.token.target.2, .int .i64 m.token.next, .int .i64 m.token.all, .slice ia m.token.image.length ic]) m) ∧ Below B w w'
set_option maxRecDepth 100000 in
set_option maxHeartbeats 1000000 in
theorem with_any (fid : FuncId) (m m' : Mt) (w : World) (W : Nat) (hW : MtG w W m) (hf : ∀ (args : Array Value) (w : World), (callFunc fid args).run Try.prog w = .ok (.enter fid args) w)
    (hdo : ∀ w B g, PtA w B g (shortM m) → B ≤ g → Calls Try.prog fid #[.pointer (some ⟨g, 0, none⟩)] w (DoT w B g m')) :
    Calls Try.prog 20 #[.func (.func fid) #[] #[], .pointer (some ⟨W, 0, none⟩)] w (RetM w m') := by
  have hb0 := (Below.refl w.heap.size w).alloc (Nat.le_refl _) (Obj.cells #[.slice none 0 0, .slice none 0 0, .int .u64 0, .int .u64 0, .int .u64 0, .int .u64 0, .int .i64 0, .int .i64 0, .slice none 0 0] 30)
  have hz := Blk.new w 30 #[.slice none 0 0, .slice none 0 0, .int .u64 0, .int .u64 0, .int .u64 0, .int .u64 0, .int .i64 0, .int .i64 0, .slice none 0 0]
  obtain ⟨la, lc, sa, sc, ia, ic, hg2, hi2⟩ := hW.keep hb0
  have x0 := hg2.cell 0
  have x1 := hg2.cell 1
  have x2 := hg2.cell 2
  have x3 := hg2.cell 3
  have x4 := hg2.cell 4
  have x5 := hg2.cell 5
  have x6 := hg2.cell 6
  have x7 := hg2.cell 7
  have x8 := hg2.cell 8
  simp at x0 x1 x2 x3 x4 x5 x6 x7 x8
  have HDO := Lib.hid hdo
  have HB0 := Lib.hid hb0
  have HZ := Lib.hid hz
  have HI := Lib.hid hi2
  clear hW hg2 hi2 hb0 hz hdo
  go_enter Try.func20, Try.ntmps20
  go_wp2_with fail
  generalize w.alloc (Obj.cells #[.slice none 0 0, .slice none 0 0, .int .u64 0, .int .u64 0, .int .u64 0, .int .u64 0, .int .i64 0, .int .i64 0, .slice none 0 0] 30) = w1 at *
  clear x0 x1 x2 x3 x4 x5 x6 x7 x8
  refine (short2_any w1 _ m HI.out).mono ?_
  generalize shortM m = sm at *
  rintro e w2 ⟨u, rfl, ho, hb⟩
  obtain ⟨la', lc', sa', sc', ia', ic', rfl⟩ := ho.open_
  have HV := Lib.hid ho
  have HLT := Lib.hid (show w.heap.size < w1.heap.size from HZ.out.lt)
  have HB2 := Lib.hid (HB0.out.trans (hb.mono HB0.out.size))
  have HZ2 := Lib.hid (And.intro (HZ.out.keep hb) hb.size)
  clear hb ho HI HZ HB0
  go_wp2_with fail
  have hb3 := (Below.refl w2.heap.size w2).alloc (Nat.le_refl _) (Obj.cells #[.slice la' sm.live.length lc', .slice sa' sm.snaps.length sc', .int .u64 sm.token.base.1, .int .u64 sm.token.base.2, .int .u64 sm.token.target.1, .int .u64 sm.token.target.2, .int .i64 sm.token.next, .int .i64 sm.token.all, .slice ia' sm.token.image.length ic'] 30)
  have hk3 := Blk.new w2 30 #[.slice la' sm.live.length lc', .slice sa' sm.snaps.length sc', .int .u64 sm.token.base.1, .int .u64 sm.token.base.2, .int .u64 sm.token.target.1, .int .u64 sm.token.target.2, .int .i64 sm.token.next, .int .i64 sm.token.all, .slice ia' sm.token.image.length ic']
  generalize hgn : w2.heap.size = g at *
  generalize w2.alloc (Obj.cells #[.slice la' sm.live.length lc', .slice sa' sm.snaps.length sc', .int .u64 sm.token.base.1, .int .u64 sm.token.base.2, .int .u64 sm.token.target.1, .int .u64 sm.token.target.2, .int .i64 sm.token.next, .int .i64 sm.token.all, .slice ia' sm.token.image.length ic'] 30) = w3 at *
  have HO3 := Lib.hid (show PtA w3 w1.heap.size g sm from ⟨_, _, _, _, _, _, hk3, HV.out.kpT (A := fun _ => False) (Kp.of_below (by rw [hgn]; exact hb3)) fun _ h => h.elim⟩)
  have HB3 := Lib.hid (HB2.out.trans (hb3.mono (by rw [← hgn]; exact HB2.out.size)))
  have HZ3 := Lib.hid (show Blk w3 w.heap.size 30 #[.slice none 0 0, .slice none 0 0, .int .u64 0, .int .u64 0, .int .u64 0, .int .u64 0, .int .i64 0, .int .i64 0, .slice none 0 0] ∧ w1.heap.size ≤ g from ⟨HZ2.out.1.keep (by rw [hgn]; exact hb3), HZ2.out.2⟩)
  clear hb3 hk3 hgn HB2 HZ2 HV
  refine (HDO.out w3 _ g HO3.out HZ3.out.2).mono ?_
  rintro e w4 ⟨rfl, hp, hb⟩
  have HZ4 := Lib.hid (HZ3.out.1.below hb HLT.out)
  have HB4 := Lib.hid (HB3.out.trans (hb.mono (Nat.le_of_lt HLT.out)))
  obtain ⟨ld, kd, sd, td, id_, jd, h1, h2⟩ := hp
  have y0 := h1.cell 0
  have y1 := h1.cell 1
  have y2 := h1.cell 2
  have y3 := h1.cell 3
  have y4 := h1.cell 4
  have y5 := h1.cell 5
  have y6 := h1.cell 6
  have y7 := h1.cell 7
  have y8 := h1.cell 8
  simp at y0 y1 y2 y3 y4 y5 y6 y7 y8
  have HO5 := Lib.hid h2
  clear hb h1 h2 hf
  go_wp2_with (refine wpList_store_then rfl 30 _ _ rfl w.heap.size #[.slice ld m'.live.length kd, .slice sd m'.snaps.length td, .int .u64 m'.token.base.1, .int .u64 m'.token.base.2, .int .u64 m'.token.target.1, .int .u64 m'.token.target.2, .int .i64 m'.token.next, .int .i64 m'.token.all, .slice id_ m'.token.image.length jd] rfl rfl 30 _ HZ4.out meta_size rfl (mt_one _ _ _ _ _ _ _ _ _ _ _ _ _ _ _) ?_)
  refine Later.mk fun w9 hw9 => ?_
  have H9 := Lib.hid (show Below w.heap.size w w9 ∧ Blk w9 w.heap.size 30 #[.slice ld m'.live.length kd, .slice sd m'.snaps.length td, .int .u64 m'.token.base.1, .int .u64 m'.token.base.2, .int .u64 m'.token.target.1, .int .u64 m'.token.target.2, .int .i64 m'.token.next, .int .i64 m'.token.all, .slice id_ m'.token.image.length jd] ∧ InMt w9 (.agg #[.slice ld m'.live.length kd, .slice sd m'.snaps.length td, .int .u64 m'.token.base.1, .int .u64 m'.token.base.2, .int .u64 m'.token.target.1, .int .u64 m'.token.target.2, .int .i64 m'.token.next, .int .i64 m'.token.all, .slice id_ m'.token.image.length jd]) m' by
    rw [hw9]
    exact ⟨Below.setRow HB4.out (Nat.le_refl _) _, HZ4.out.row _, (HO5.out.kp (kp_row w4 w.heap.size #[.slice ld m'.live.length kd, .slice sd m'.snaps.length td, .int .u64 m'.token.base.1, .int .u64 m'.token.base.2, .int .u64 m'.token.target.1, .int .u64 m'.token.target.2, .int .i64 m'.token.next, .int .i64 m'.token.all, .slice id_ m'.token.image.length jd]) fun b hb e => by have := HLT.out; omega).inm⟩)
  clear hw9 y0 y1 y2 y3 y4 y5 y6 y7 y8
  go_wp2
  refine bodyPost_ret (results_cell (ty := 30) (g := w.heap.size) (k := 3) rfl rfl H9.out.2.1 Try.underlying30 rfl meta_size) rfl ⟨_, _, _, _, _, _, rfl, H9.out.2.2, H9.out.1⟩
def wholeM : Mt := ⟨[200, 0], [⟨(1, 1), [0, 0], true⟩, ⟨(2, 1), [300, 301], false⟩], ⟨(2, 1), (2, 2), 1, 2, [302, 301]⟩⟩
theorem whole_short : shortM wholeM = wholeM := rfl
end Go.Proofs.Ytimgecflcackbaa
