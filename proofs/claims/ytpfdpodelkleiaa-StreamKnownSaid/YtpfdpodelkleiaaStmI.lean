/-
  STREAM's STATEMENTS: short.
-/
import Derived.Test.YtpfdpodelkleiaaStmH
namespace Go.Proofs.Ytpfdpodelkleiaa
open Go.RowKit Reg Go.ChangeShapes

def cutS (t : ByteArray) : ByteArray := if 40 < t.size then t.extract 0 40 else t
def cutC (x : Cg) : Cg := (x.1, cutS x.2)
def shortP (p : Prt) : Prt := { p with cs := (p.cs.take 30).map cutC }
theorem cutS_cases (t : ByteArray) : ∃ Y : ByteArray, cutS t = Y ∧ (((40 : Int) < (t.size : Int) ∧ t.extract 0 40 = Y) ∨ ((t.size : Int) ≤ 40 ∧ t = Y)) := by
  unfold cutS
  by_cases h : 40 < t.size
  · exact ⟨_, rfl, .inl ⟨by omega, by rw [if_pos h]⟩⟩
  · exact ⟨_, rfl, .inr ⟨by omega, by rw [if_neg h]⟩⟩
theorem OwC.far {w : World} {base : Nat} {v : Value} {cs : List Cg} (h : OwC w base v cs) {p : Addr} (hp : p.block < base) (u : Value) : OwC (w.setCell p u) base v cs := by
  refine ⟨⟨h.1.1, ?_⟩, h.2⟩
  rcases h.1.2 with hn | ⟨g, cap, cur, rfl, hg, hh, rest⟩
  · exact .inl hn
  · exact .inr ⟨g, cap, cur, rfl, hg, (Below.heap_setCell w p u g (by omega)).trans hh, rest⟩
theorem OwC.farRow {w : World} {base : Nat} {v : Value} {cs : List Cg} (h : OwC w base v cs) {k : Nat} (hk : k < base) (ds : Array Value) : OwC (w.setRow k ds) base v cs := by
  refine ⟨⟨h.1.1, ?_⟩, h.2⟩
  rcases h.1.2 with hn | ⟨g, cap, cur, rfl, hg, hh, rest⟩
  · exact .inl hn
  · refine .inr ⟨g, cap, cur, rfl, hg, ?_, rest⟩
    rw [← hh]
    simp only [World.setRow, Array.getElem?_modify]
    rw [if_neg (by omega)]
theorem short_wf {p : Prt} (h : wfPr p) : wfPr (shortP p) := ⟨h.b, h.t, h.f, h.a⟩
/-- v is the part p, its changes the call's own -/
def OwPr (w : World) (base : Nat) (v : Value) (p : Prt) : Prop := ∃ sv, v = prV p sv ∧ OwC w base sv p.cs ∧ wfPr p
theorem OwPr.inp {w : World} {base : Nat} {v : Value} {p : Prt} (h : OwPr w base v p) : InPr w v p := by
  obtain ⟨sv, h1, h2, h3⟩ := h
  exact ⟨sv, h1, h2.rd, h3⟩
theorem OwPr.keep {w w' : World} {base : Nat} {v : Value} {p : Prt} (h : OwPr w base v p) (hb : Below w.heap.size w w') : OwPr w' base v p := by
  obtain ⟨sv, h1, h2, h3⟩ := h
  exact ⟨sv, h1, h2.keep hb, h3⟩
theorem OwPr.farRow {w : World} {base : Nat} {v : Value} {p : Prt} (h : OwPr w base v p) {k : Nat} (hk : k < base) (ds : Array Value) : OwPr (w.setRow k ds) base v p := by
  obtain ⟨sv, h1, h2, h3⟩ := h
  exact ⟨sv, h1, h2.farRow hk ds, h3⟩
theorem short_end {w : World} {base : Nat} {p : Prt} {a : Option Addr} {c : Nat} {l : List Cg} {b0 : Nat} (h : wfPr p) (he : (shortP p).cs = l) (ho : OwC w base (.slice a l.length c) l) (hb : b0 ≤ base) :
    OwPr w b0 (.agg #[.int .u64 p.b.1, .int .u64 p.b.2, .int .u64 p.t.1, .int .u64 p.t.2, .int .i64 p.f, .int .i64 p.a, .slice a l.length c]) (shortP p) := ⟨_, rfl, by rw [he]; exact ho.mono hb, short_wf h⟩
theorem part_one (a b c d e f : Int) (sp : Option Addr) (n m : Nat) : ((#[.int .u64 a, .int .u64 b, .int .u64 c, .int .u64 d, .int .i64 e, .int .i64 f, .slice sp n m] : Array Value).all fun x => x.oneCell') = true := by
  rw [← Array.all_toList]
  rfl
theorem part_size : (Try.prog.info? 30).map (·.size) = some 7 := by kernel_rfl
set_option maxRecDepth 100000 in
set_option maxHeartbeats 1000000 in
theorem short_any (w : World) (v : Value) (p : Prt) (hv : InPr w v p) : Calls Try.prog 14 #[v] w fun e w' => (∃ v', e = .returned v' ∧ OwPr w' w.heap.size v' (shortP p)) ∧ Below w.heap.size w w' := by
  obtain ⟨sv, rfl, hc, hw⟩ := hv
  obtain ⟨a, c, rfl, hml, hx⟩ := hc
  have HX := Lib.hid hx
  have HW := Lib.hid hw
  have HML := Lib.hid hml
  unfold prV
  clear hx hw hml
  go_enter Try.func14, Try.ntmps14
  go_wp2_with fail
  have hb0 := ((Below.refl w.heap.size w).alloc (Nat.le_refl _) (Obj.cells #[.int .u64 p.b.1, .int .u64 p.b.2, .int .u64 p.t.1, .int .u64 p.t.2, .int .i64 p.f, .int .i64 p.a, .slice a p.cs.length c] 30)).alloc (by simp) (Obj.cells #[.int .u64 0, .int .u64 0, .int .u64 0, .int .u64 0, .int .i64 0, .int .i64 0, .slice none 0 0] 30)
  have hb1 := (Blk.new w 30 #[.int .u64 p.b.1, .int .u64 p.b.2, .int .u64 p.t.1, .int .u64 p.t.2, .int .i64 p.f, .int .i64 p.a, .slice a p.cs.length c]).alloc (Obj.cells #[.int .u64 0, .int .u64 0, .int .u64 0, .int .u64 0, .int .i64 0, .int .i64 0, .slice none 0 0] 30)
  have hb2 := Blk.newAt (w := w.alloc (Obj.cells #[.int .u64 p.b.1, .int .u64 p.b.2, .int .u64 p.t.1, .int .u64 p.t.2, .int .i64 p.f, .int .i64 p.a, .slice a p.cs.length c] 30)) 30 #[.int .u64 0, .int .u64 0, .int .u64 0, .int .u64 0, .int .i64 0, .int .i64 0, .slice none 0 0] (g := w.heap.size + 1) (by simp)
  generalize (w.alloc (Obj.cells #[.int .u64 p.b.1, .int .u64 p.b.2, .int .u64 p.t.1, .int .u64 p.t.2, .int .i64 p.f, .int .i64 p.a, .slice a p.cs.length c] 30)).alloc (Obj.cells #[.int .u64 0, .int .u64 0, .int .u64 0, .int .u64 0, .int .i64 0, .int .i64 0, .slice none 0 0] 30) = W0 at *
  have HB0 := Lib.hid hb0
  have HP := Lib.hid hb1
  have HQ := Lib.hid hb2
  generalize hZ : (fun j => p.cs.getD j (0, ByteArray.empty)) = Z
  have hZj : ∀ j, p.cs.getD j (0, ByteArray.empty) = Z j := fun j => by rw [← hZ]
  obtain ⟨S, hS⟩ : ∃ S : Nat → List Cg, ∀ k, S k = (p.cs.take k).map cutC := ⟨_, fun _ => rfl⟩
  have HS0 := Lib.hid (show S 0 = [] by rw [hS]; simp)
  have HSN := Lib.hid (fun k (hk : k < p.cs.length) => show S (k + 1) = S k ++ [cutC (Z k)] by
    rw [hS, hS, List.take_add_one, List.map_append, ← hZj]
    simp [hk])
  have HSL := Lib.hid (fun k => show (S k).length ≤ k by rw [hS]; simp; omega)
  have HSE := Lib.hid (fun k (hk : k = p.cs.length ∨ k = 30) (h : k ≤ 30) => show (shortP p).cs = S k by
    rw [hS]
    show (p.cs.take 30).map cutC = _
    rcases hk with rfl | rfl
    · rw [List.take_of_length_le (show p.cs.length ≤ 30 from h), List.take_of_length_le (Nat.le_refl _)]
    · rfl)
  have hx := HX.out
  simp only [hZj] at hx
  replace HX := Lib.hid hx
  generalize hpc : p.cs.length = n at *
  clear hb0 hb1 hb2 hZ hZj hS hx
  go_loopw [3, 4] (fun l i wr => ∃ k : Nat, k ≤ 30 ∧ k ≤ n ∧ i = .int .i64 k ∧ OwC wr W0.heap.size l (S k) ∧ Below w.heap.size w wr ∧ Below W0.heap.size W0 wr) (fun _ i _ => 30 - (intOf i).toNat)
  case atStart => exact ⟨0, by omega, by omega, rfl, by rw [HS0.out]; exact OwC.nil_ _ _, HB0.out, Below.refl _ _⟩
  case round =>
    obtain ⟨k, hk, hkn, rfl, ho, hb, hbw⟩ := hrel
    have HO := Lib.hid ho
    have HB := Lib.hid (And.intro hb hbw)
    have HPW := Lib.hid (HP.out.keep hbw)
    have y6 := HPW.out.cell 6
    simp at y6
    clear ho hb hbw
    by_cases h1 : k < n
    · by_cases h2 : k < 30
      · obtain ⟨g, off, rfl, hc0, hc1⟩ := HX.out k h1
        have c0 := cell_later HB.out.1 hc0
        have c1 := cell_later HB.out.1 hc1
        have hsn := HSN.out k h1
        generalize Z k = zk at *
        obtain ⟨xb, xd⟩ := zk
        unfold cutC at hsn
        dsimp only at c0 c1 hsn
        have HSN2 := Lib.hid hsn
        have i1 : (k : Int) < (n : Int) := by omega
        have i2 : (k : Int) < 30 := by omega
        obtain ⟨Y, hY, hcase⟩ := cutS_cases xd
        rw [hY] at HSN2
        clear hc0 hc1 hsn hY
        have HK := Lib.hid (And.intro h1 h2)
        have hb2 := (((Below.refl wr.heap.size wr).alloc (Nat.le_refl _) (Obj.cells #[.int .i64 xb, .string Y] 36)).alloc (by simp) (Obj.cells #[.int .i64 xb, .string Y] 36))
        have hap := (app_chg (w := (wr.alloc (.cells #[.int .i64 xb, .string Y] 36)).alloc (.cells #[.int .i64 xb, .string Y] 36)) 27 (xb, Y) (wr.alloc (.cells #[.int .i64 xb, .string Y] 36)) _ rfl rfl (HO.out.keep hb2) (by have := HSL.out k; omega) (by have := HB.out.2.size; simp; omega))
        rw [World.size_alloc] at hap
        have HA := Lib.hid hap
        clear hap
        have HO2 := Lib.hid (HO.out.keep hb2)
        have HB2 := Lib.hid (And.intro (HB.out.1.trans (hb2.mono HB.out.1.size)) (HB.out.2.trans (hb2.mono HB.out.2.size)))
        clear hb2 h1 h2 hk hkn
        rcases hcase with ⟨h4, h5⟩ | ⟨h4, rfl⟩
        · have hm : min ((xd.size : Nat) : Int) 40 = 40 := by omega
          go_wp2_with (at_builtin; refine wpList_append_run rfl _ _ 27 rfl _ _ rfl rfl _ HA.out ?_)
          refine Later.mk fun _ _ v' w' hp => ?_
          have hbx := hp.below HO2.out (Nat.le_trans HB.out.2.size (by simp; omega))
          have HN := Lib.hid (And.intro (HB2.out.1.trans (hbx.mono HB0.out.size)) (And.intro (HB2.out.2.trans hbx) hp.1))
          clear hp hbx
          go_wp2
          clear i1 i2 h4
          exact ⟨⟨k + 1, HK.out.2, HK.out.1, rfl, by rw [HSN2.out]; exact HN.out.2.2, HN.out.1, HN.out.2.1⟩, meas_succ HK.out.2⟩
        · have hm : min ((xd.size : Nat) : Int) 40 = xd.size := by omega
          go_wp2_with (at_builtin; refine wpList_append_run rfl _ _ 27 rfl _ _ rfl rfl _ HA.out ?_)
          refine Later.mk fun _ _ v' w' hp => ?_
          have hbx := hp.below HO2.out (Nat.le_trans HB.out.2.size (by simp; omega))
          have HN := Lib.hid (And.intro (HB2.out.1.trans (hbx.mono HB0.out.size)) (And.intro (HB2.out.2.trans hbx) hp.1))
          clear hp hbx
          go_wp2
          clear i1 i2 h4
          exact ⟨⟨k + 1, HK.out.2, HK.out.1, rfl, by rw [HSN2.out]; exact HN.out.2.2, HN.out.1, HN.out.2.1⟩, meas_succ HK.out.2⟩
      · obtain rfl : k = 30 := by omega
        have i1 : ((30 : Nat) : Int) < (n : Int) := by omega
        have HPE := Lib.hid (HSE.out 30 (.inr rfl) (by omega))
        clear hk hkn h1 h2
        obtain ⟨a3, c3, rfl, hm3, hx3⟩ := HO.out.rd
        have y0 := HPW.out.cell 0
        have y1 := HPW.out.cell 1
        have y2 := HPW.out.cell 2
        have y3 := HPW.out.cell 3
        have y4 := HPW.out.cell 4
        have y5 := HPW.out.cell 5
        simp at y0 y1 y2 y3 y4 y5
        have f6 := HPW.out.frozen 6
        have hq9 := (HQ.out.keep HB.out.2).far (p := ⟨w.heap.size, 6, none⟩) (by simp) (.slice a3 (S 30).length c3)
        have HQ9 := Lib.hid hq9
        clear hq9 hx3 hm3
        go_wp2_with (refine wpList_store_then rfl 30 _ _ rfl (w.heap.size + 1) #[.int .u64 p.b.1, .int .u64 p.b.2, .int .u64 p.t.1, .int .u64 p.t.2, .int .i64 p.f, .int .i64 p.a, .slice a3 (S 30).length c3] rfl rfl 30 _ HQ9.out part_size rfl (part_one _ _ _ _ _ _ _ _ _) ?_)
        refine Later.mk fun w3 hw3 => ?_
        have H3 := Lib.hid (show Below w.heap.size w w3 ∧ Blk w3 (w.heap.size + 1) 30 #[.int .u64 p.b.1, .int .u64 p.b.2, .int .u64 p.t.1, .int .u64 p.t.2, .int .i64 p.f, .int .i64 p.a, .slice a3 (S 30).length c3] ∧ OwC w3 W0.heap.size (.slice a3 (S 30).length c3) (S 30) by
          have hlt := HQ.out.lt
          rw [hw3]
          exact ⟨Below.setRow (HB.out.1.setCell (Nat.le_refl _) _) (by omega) _, HQ9.out.row _, (HO.out.far (by simp; omega) _).farRow (by omega) _⟩)
        clear hw3
        go_wp2
        refine bodyPost_ret (results_cell (ty := 30) (g := w.heap.size + 1) (k := 2) rfl rfl H3.out.2.1 Try.underlying30 rfl part_size) rfl ⟨⟨_, rfl, short_end HW.out HPE.out H3.out.2.2 HB0.out.size⟩, H3.out.1⟩
    · obtain rfl : k = n := by omega
      have i1 : ¬ ((k : Int) < (k : Int)) := by omega
      have HPE := Lib.hid (HSE.out k (.inl rfl) hk)
      clear hk hkn h1
      obtain ⟨a3, c3, rfl, hm3, hx3⟩ := HO.out.rd
      have y0 := HPW.out.cell 0
      have y1 := HPW.out.cell 1
      have y2 := HPW.out.cell 2
      have y3 := HPW.out.cell 3
      have y4 := HPW.out.cell 4
      have y5 := HPW.out.cell 5
      simp at y0 y1 y2 y3 y4 y5
      have f6 := HPW.out.frozen 6
      have hq9 := (HQ.out.keep HB.out.2).far (p := ⟨w.heap.size, 6, none⟩) (by simp) (.slice a3 (S k).length c3)
      have HQ9 := Lib.hid hq9
      clear hq9 hx3 hm3
      go_wp2_with (refine wpList_store_then rfl 30 _ _ rfl (w.heap.size + 1) #[.int .u64 p.b.1, .int .u64 p.b.2, .int .u64 p.t.1, .int .u64 p.t.2, .int .i64 p.f, .int .i64 p.a, .slice a3 (S k).length c3] rfl rfl 30 _ HQ9.out part_size rfl (part_one _ _ _ _ _ _ _ _ _) ?_)
      refine Later.mk fun w3 hw3 => ?_
      have H3 := Lib.hid (show Below w.heap.size w w3 ∧ Blk w3 (w.heap.size + 1) 30 #[.int .u64 p.b.1, .int .u64 p.b.2, .int .u64 p.t.1, .int .u64 p.t.2, .int .i64 p.f, .int .i64 p.a, .slice a3 (S k).length c3] ∧ OwC w3 W0.heap.size (.slice a3 (S k).length c3) (S k) by
        have hlt := HQ.out.lt
        rw [hw3]
        exact ⟨Below.setRow (HB.out.1.setCell (Nat.le_refl _) _) (by omega) _, HQ9.out.row _, (HO.out.far (by simp; omega) _).farRow (by omega) _⟩)
      clear hw3
      go_wp2
      refine bodyPost_ret (results_cell (ty := 30) (g := w.heap.size + 1) (k := 2) rfl rfl H3.out.2.1 Try.underlying30 rfl part_size) rfl ⟨⟨_, rfl, short_end HW.out HPE.out H3.out.2.2 HB0.out.size⟩, H3.out.1⟩
end Go.Proofs.Ytpfdpodelkleiaa
