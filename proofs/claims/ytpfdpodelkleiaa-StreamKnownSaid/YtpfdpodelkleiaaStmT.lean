/-
  STREAM: the law StreamBack, walked (printed by wip/gen-stmt.py).
-/
import Derived.Test.YtpfdpodelkleiaaStmR
namespace Go.Proofs.Ytpfdpodelkleiaa
open Go.RowKit Reg Go.ChangeShapes

theorem checkP_ok {p : Prt} (h : okP p) : checkP p = 0 := if_pos h
theorem checkP_bad {p : Prt} (h : ¬ okP p) : checkP p = 2 := if_neg h
theorem back_yes {s : ByteArray} (h : decOk 9 2 s) : decP 9 2 s = readP 9 2 (txt s) ∧ decE 9 2 s = 0 ∧ encS (readP 9 2 (txt s)) = s ∧ checkP (readP 9 2 (txt s)) = 0 :=
  ⟨if_pos h, if_pos h, h.2.2, checkP_ok h.2.1⟩
theorem back_no {s : ByteArray} (h : ¬ decOk 9 2 s) : decP 9 2 s = zeroP ∧ decE 9 2 s = 4 := ⟨if_neg h, if_neg h⟩
theorem ext_all (Y : ByteArray) : Y.extract 0 Y.size = Y := by
  simp
theorem zero_len {w : World} {a : Option Addr} {n c : Nat} (h : InPr w (.agg #[.int .u64 zeroP.b.1, .int .u64 zeroP.b.2, .int .u64 zeroP.t.1, .int .u64 zeroP.t.2, .int .i64 zeroP.f, .int .i64 zeroP.a, .slice a n c]) zeroP) : n = 0 := by
  obtain ⟨sv, he, ⟨a', c', h2, -⟩, -⟩ := h
  unfold prV at he
  simp only [Value.agg.injEq, Array.mk.injEq, List.cons.injEq] at he
  have := he.2.2.2.2.2.2.1
  rw [h2] at this
  simp only [Value.slice.injEq] at this
  exact this.2.1
set_option maxRecDepth 100000 in
set_option maxHeartbeats 8000000 in
theorem law_StreamBack (v : Value) (p : Prt) (s : ByteArray) (w : World) (hv : InPr w v p) (_ : True) (_ : s.size ≤ reachBytes) : Calls Try.prog 7 #[v, .string s] w fun e w' => e = .returned (.bool true) ∧ Below w.heap.size w w' := by
  obtain ⟨a, n, c, rfl⟩ := hv.open_
  have hb0 := (Below.refl w.heap.size w).alloc (Nat.le_refl _) (Obj.cells #[.int .u64 p.b.1, .int .u64 p.b.2, .int .u64 p.t.1, .int .u64 p.t.2, .int .i64 p.f, .int .i64 p.a, .slice a n c] 30)
  have h1 := Blk.new w 30 #[.int .u64 p.b.1, .int .u64 p.b.2, .int .u64 p.t.1, .int .u64 p.t.2, .int .i64 p.f, .int .i64 p.a, .slice a n c]
  have h3 := hv.keep hb0
  obtain ⟨Y, hY, hcase⟩ := cut400 s
  obtain ⟨U, hU⟩ : ∃ U, sealS Y = U := ⟨_, rfl⟩
  have hU4 := sealS_le hY
  rw [hU] at hU4
  have HS := Lib.hid (fun w => sealed_any Y w (by omega))
  rw [hU] at HS
  have HYU := Lib.hid (And.intro hY hU4)
  have HCS := Lib.hid hcase
  clear hU hU4 hY hcase
  go_enter Try.func7, Try.ntmps7
  go_wp2_with fail
  generalize w.alloc (Obj.cells #[.int .u64 p.b.1, .int .u64 p.b.2, .int .u64 p.t.1, .int .u64 p.t.2, .int .i64 p.f, .int .i64 p.a, .slice a n c] 30) = w0 at *
  have HB := Lib.hid hb0
  have H1 := Lib.hid h1
  have H3 := Lib.hid h3
  clear hb0 h1 h3 hv
  obtain ⟨sp, hsp⟩ : ∃ x, shortP p = x := ⟨_, rfl⟩
  have hsz0 := H1.out.lt
  refine (short_any w0 _ p H3.out).mono ?_
  rintro e wx ⟨⟨vs, rfl, hi⟩, hb⟩
  rw [hsp] at hi
  obtain ⟨az, ns, cz, rfl⟩ := hi.inp.open_
  replace HB := Lib.hid (HB.out.trans (hb.mono HB.out.size))
  replace H1 := Lib.hid (H1.out.keep hb)
  have HO := Lib.hid hi
  have HSZ := Lib.hid hsz0
  clear hb hi hsp hsz0 H3
  go_wp2_with (refine wpList_store_then rfl 30 _ _ rfl w.heap.size #[.int .u64 sp.b.1, .int .u64 sp.b.2, .int .u64 sp.t.1, .int .u64 sp.t.2, .int .i64 sp.f, .int .i64 sp.a, .slice az ns cz] rfl rfl 30 _ H1.out part_size rfl (part_one _ _ _ _ _ _ _ _ _) ?_)
  refine Later.mk fun w1 hw1 => ?_
  have G1 := Lib.hid (show Blk w1 w.heap.size 30 #[.int .u64 sp.b.1, .int .u64 sp.b.2, .int .u64 sp.t.1, .int .u64 sp.t.2, .int .i64 sp.f, .int .i64 sp.a, .slice az ns cz] by rw [hw1]; exact H1.out.row _)
  have GO := Lib.hid (show InPr w1 (.agg #[.int .u64 sp.b.1, .int .u64 sp.b.2, .int .u64 sp.t.1, .int .u64 sp.t.2, .int .i64 sp.f, .int .i64 sp.a, .slice az ns cz]) sp by rw [hw1]; exact (HO.out.farRow (by have := HSZ.out; omega) _).inp)
  have GB := Lib.hid (show Below w.heap.size w w1 by rw [hw1]; exact Below.setRow HB.out (Nat.le_refl _) _)
  clear hw1 H1 HO HB HSZ
  have x0 := G1.out.cell 0
  have x1 := G1.out.cell 1
  have x2 := G1.out.cell 2
  have x3 := G1.out.cell 3
  have x4 := G1.out.cell 4
  have x5 := G1.out.cell 5
  have x6 := G1.out.cell 6
  simp at x0 x1 x2 x3 x4 x5 x6
  go_wp2_with fail
  obtain ⟨B, hB⟩ : ∃ x, encS sp = x := ⟨_, rfl⟩
  obtain ⟨z, hz⟩ : ∃ x, checkP sp = x := ⟨_, rfl⟩
  have HEN := Lib.hid (fun w9 (h : Below w1.heap.size w1 w9) => enc_any w9 _ sp (GO.out.keep h))
  have HCH := Lib.hid (fun w9 (h : Below w1.heap.size w1 w9) => check_any w9 _ sp (GO.out.keep h))
  rw [hB, hz] at HEN
  rw [hz] at HCH
  have HBZ := Lib.hid (And.intro hB hz)
  clear hB hz
  refine (HEN.out _ (Below.refl _ _)).mono ?_
  rintro e w3 ⟨rfl, hb⟩
  have HB3 := Lib.hid hb
  replace x0 := cell_later hb x0
  replace x1 := cell_later hb x1
  replace x2 := cell_later hb x2
  replace x3 := cell_later hb x3
  replace x4 := cell_later hb x4
  replace x5 := cell_later hb x5
  replace x6 := cell_later hb x6
  clear hb
  go_wp2_with fail
  refine (HCH.out _ HB3.out).mono ?_
  rintro e w4 ⟨rfl, hb⟩
  replace HB3 := Lib.hid (HB3.out.trans (hb.mono HB3.out.size))
  replace x0 := cell_later hb x0
  replace x1 := cell_later hb x1
  replace x2 := cell_later hb x2
  replace x3 := cell_later hb x3
  replace x4 := cell_later hb x4
  replace x5 := cell_later hb x5
  replace x6 := cell_later hb x6
  clear hb
  by_cases hok : okP sp
  · have hz0 : z = 0 := by rw [← HBZ.out.2]; exact checkP_ok hok
    subst hz0
    have HW := Lib.hid (show wfPr sp from by obtain ⟨_, _, _, h⟩ := GO.out; exact h)
    have hde := dec_enc HW.out hok 9 2 (by omega) (by omega)
    rw [HBZ.out.1] at hde
    have HD := Lib.hid (fun w => decZ w B (by have := encS_le sp; rw [HBZ.out.1] at this; exact this) hde)
    clear hok hde
    go_wp2_with fail
    refine (HD.out _).mono ?_
    rintro e w5 ⟨aq, nq, cq, rfl, hi, hb⟩
    have hb2 := (Below.refl w5.heap.size w5).alloc (Nat.le_refl _) (Obj.cells #[.int .u64 sp.b.1, .int .u64 sp.b.2, .int .u64 sp.t.1, .int .u64 sp.t.2, .int .i64 sp.f, .int .i64 sp.a, .slice aq nq cq] 30)
    have hq := Blk.new w5 30 #[.int .u64 sp.b.1, .int .u64 sp.b.2, .int .u64 sp.t.1, .int .u64 sp.t.2, .int .i64 sp.f, .int .i64 sp.a, .slice aq nq cq]
    have HQI := Lib.hid (hi.keep hb2)
    replace HB3 := Lib.hid (HB3.out.trans ((hb.trans (hb2.mono hb.size)).mono HB3.out.size))
    have hbx := hb.trans (hb2.mono hb.size)
    replace x0 := cell_later hbx x0
    replace x1 := cell_later hbx x1
    replace x2 := cell_later hbx x2
    replace x3 := cell_later hbx x3
    replace x4 := cell_later hbx x4
    replace x5 := cell_later hbx x5
    replace x6 := cell_later hbx x6
    have HQB := Lib.hid hq
    clear hb hb2 hbx hq hi
    go_wp2_with fail
    refine (sameZ _ (GO.out.keep HB3.out) HQI.out).mono ?_
    rintro e w6 ⟨rfl, hb⟩
    replace HB3 := Lib.hid (HB3.out.trans (hb.mono HB3.out.size))
    clear hb x0 x1 x2 x3 x4 x5 x6 HQB HQI HW HD
    rcases HCS.out with ⟨h4, h5⟩ | ⟨h4, rfl⟩
    · have hm : min ((s.size : Nat) : Int) 400 = 400 := by omega
      go_wp2_with fail
      clear h4 h5 hm
      refine (HS.out _).mono ?_
      rintro e w7 ⟨rfl, hb⟩
      have HB7 := Lib.hid (GB.out.trans ((HB3.out.trans (hb.mono HB3.out.size)).mono GB.out.size))
      clear hb
      go_wp2_with fail
      have hbs := (Below.refl w7.heap.size w7).alloc (Nat.le_refl _) (Obj.cells #[.string Y, .string U] 9)
      have hks := Blk.new w7 9 #[.string Y, .string U]
      generalize hgs : w7.heap.size = gs at *
      generalize w7.alloc (Obj.cells #[.string Y, .string U] 9) = w8 at *
      have HB8 := Lib.hid (HB7.out.trans (hbs.mono (by rw [← hgs]; exact HB7.out.size)))
      have HKS := Lib.hid hks
      clear hbs hks hgs
      go_loopw [51] (fun i wr => ∃ k : Nat, k ≤ 2 ∧ i = .int .i64 k ∧ Below w8.heap.size w8 wr) (fun i _ => 2 - (intOf i).toNat)
      case atStart => exact ⟨0, Nat.zero_le _, rfl, Below.refl _ _⟩
      case round =>
        obtain ⟨k, hk, rfl, hb⟩ := hrel
        have HBR := Lib.hid hb
        clear hb
        by_cases hk2 : k < 2
        · obtain ⟨T, hT, hT4⟩ : ∃ T : ByteArray, wr.cell? ⟨gs, k, none⟩ = some (.string T) ∧ T.size ≤ 404 := by
            have hc := (HKS.out.keep HBR.out).cell k
            have hyu := HYU.out
            obtain rfl | rfl : k = 0 ∨ k = 1 := by omega
            · exact ⟨Y, hc, by omega⟩
            · exact ⟨U, hc, by omega⟩
          have HK2 := Lib.hid hk2
          have i1 : (k : Int) < 2 := by omega
          have i0 : (0 : Int) ≤ (k : Int) := by omega
          have HT4 := Lib.hid hT4
          clear hk hk2 hT4
          go_wp2_with fail
          clear i1 i0
          by_cases hd : decOk 9 2 T
          · obtain ⟨d1, d2, d3, d4⟩ := back_yes hd
            obtain ⟨q, hq⟩ : ∃ q, readP 9 2 (txt T) = q := ⟨_, rfl⟩
            rw [hq] at d1 d3 d4
            have HEQ := Lib.hid (fun w9 v (h : InPr w9 v q) => enc_any w9 v q h)
            rw [d3, d4] at HEQ
            refine (decZ _ T (by have := HT4.out; omega) ⟨d1, d2⟩).mono ?_
            rintro e w9 ⟨aq, nq, cq, rfl, hi, hb⟩
            have hb2 := (Below.refl w9.heap.size w9).alloc (Nat.le_refl _) (Obj.cells #[.int .u64 q.b.1, .int .u64 q.b.2, .int .u64 q.t.1, .int .u64 q.t.2, .int .i64 q.f, .int .i64 q.a, .slice aq nq cq] 30)
            have HQI := Lib.hid (hi.keep hb2)
            have HB9 := Lib.hid (HBR.out.trans ((hb.trans (hb2.mono hb.size)).mono HBR.out.size))
            clear hb hb2 hi hd d1 d2 d3 d4 hq hT
            go_wp2_with fail
            refine (HEQ.out _ _ HQI.out).mono ?_
            rintro e w10 ⟨rfl, hb⟩
            have HB10 := Lib.hid (HB9.out.trans (hb.mono HB9.out.size))
            clear hb HQI
            go_wp2
            rw [wrap_succ HK2.out (by decide)]
            exact ⟨⟨k + 1, HK2.out, rfl, HB10.out⟩, meas_succ HK2.out⟩
          · obtain ⟨d1, d2⟩ := back_no hd
            refine (decZ _ T (by have := HT4.out; omega) ⟨d1, d2⟩).mono ?_
            rintro e w9 ⟨aq, nq, cq, rfl, hi, hb⟩
            obtain rfl := zero_len hi
            have hb2 := (Below.refl w9.heap.size w9).alloc (Nat.le_refl _) (Obj.cells #[.int .u64 zeroP.b.1, .int .u64 zeroP.b.2, .int .u64 zeroP.t.1, .int .u64 zeroP.t.2, .int .i64 zeroP.f, .int .i64 zeroP.a, .slice aq 0 cq] 30)
            have HQ6 := Lib.hid (Blk.new w9 30 #[.int .u64 zeroP.b.1, .int .u64 zeroP.b.2, .int .u64 zeroP.t.1, .int .u64 zeroP.t.2, .int .i64 zeroP.f, .int .i64 zeroP.a, .slice aq 0 cq])
            have HQI := Lib.hid (hi.keep hb2)
            have HB9 := Lib.hid (HBR.out.trans ((hb.trans (hb2.mono hb.size)).mono HBR.out.size))
            clear hb hb2 hi hd d1 d2 hT
            go_wp2_with fail
            have HEZ := Lib.hid (enc_any _ _ zeroP HQI.out)
            obtain ⟨ez, hez⟩ : ∃ x, encS zeroP = x := ⟨_, rfl⟩
            obtain ⟨cz, hcz⟩ : ∃ x, checkP zeroP = x := ⟨_, rfl⟩
            rw [hez, hcz] at HEZ
            clear hez hcz
            refine HEZ.out.mono ?_
            rintro e w10 ⟨rfl, hb⟩
            have HB10 := Lib.hid (HB9.out.trans (hb.mono HB9.out.size))
            have z6 := (HQ6.out.keep hb).cell 6
            simp at z6
            clear hb HQI HEZ
            go_wp2
            rw [wrap_succ HK2.out (by decide)]
            exact ⟨⟨k + 1, HK2.out, rfl, HB10.out⟩, meas_succ HK2.out⟩
        · obtain rfl : k = 2 := by omega
          clear hk hk2
          go_wp2_with fail
          refine (works_any _).mono ?_
          rintro e w14 ⟨rfl, hb⟩
          have HBZZ := Lib.hid (HB8.out.trans ((HBR.out.trans (hb.mono HBR.out.size)).mono HB8.out.size))
          clear hb
          go_wp2
          go_ret
          exact ⟨rfl, HBZZ.out⟩
    · have hm : min ((s.size : Nat) : Int) 400 = s.size := by omega
      go_wp2_with fail
      clear h4 hm
      refine (HS.out _).mono ?_
      rintro e w7 ⟨rfl, hb⟩
      have HB7 := Lib.hid (GB.out.trans ((HB3.out.trans (hb.mono HB3.out.size)).mono GB.out.size))
      clear hb
      go_wp2_with fail
      have hbs := (Below.refl w7.heap.size w7).alloc (Nat.le_refl _) (Obj.cells #[.string s, .string U] 9)
      have hks := Blk.new w7 9 #[.string s, .string U]
      generalize hgs : w7.heap.size = gs at *
      generalize w7.alloc (Obj.cells #[.string s, .string U] 9) = w8 at *
      have HB8 := Lib.hid (HB7.out.trans (hbs.mono (by rw [← hgs]; exact HB7.out.size)))
      have HKS := Lib.hid hks
      clear hbs hks hgs
      go_loopw [51] (fun i wr => ∃ k : Nat, k ≤ 2 ∧ i = .int .i64 k ∧ Below w8.heap.size w8 wr) (fun i _ => 2 - (intOf i).toNat)
      case atStart => exact ⟨0, Nat.zero_le _, rfl, Below.refl _ _⟩
      case round =>
        obtain ⟨k, hk, rfl, hb⟩ := hrel
        have HBR := Lib.hid hb
        clear hb
        by_cases hk2 : k < 2
        · obtain ⟨T, hT, hT4⟩ : ∃ T : ByteArray, wr.cell? ⟨gs, k, none⟩ = some (.string T) ∧ T.size ≤ 404 := by
            have hc := (HKS.out.keep HBR.out).cell k
            have hyu := HYU.out
            obtain rfl | rfl : k = 0 ∨ k = 1 := by omega
            · exact ⟨s, hc, by omega⟩
            · exact ⟨U, hc, by omega⟩
          have HK2 := Lib.hid hk2
          have i1 : (k : Int) < 2 := by omega
          have i0 : (0 : Int) ≤ (k : Int) := by omega
          have HT4 := Lib.hid hT4
          clear hk hk2 hT4
          go_wp2_with fail
          clear i1 i0
          by_cases hd : decOk 9 2 T
          · obtain ⟨d1, d2, d3, d4⟩ := back_yes hd
            obtain ⟨q, hq⟩ : ∃ q, readP 9 2 (txt T) = q := ⟨_, rfl⟩
            rw [hq] at d1 d3 d4
            have HEQ := Lib.hid (fun w9 v (h : InPr w9 v q) => enc_any w9 v q h)
            rw [d3, d4] at HEQ
            refine (decZ _ T (by have := HT4.out; omega) ⟨d1, d2⟩).mono ?_
            rintro e w9 ⟨aq, nq, cq, rfl, hi, hb⟩
            have hb2 := (Below.refl w9.heap.size w9).alloc (Nat.le_refl _) (Obj.cells #[.int .u64 q.b.1, .int .u64 q.b.2, .int .u64 q.t.1, .int .u64 q.t.2, .int .i64 q.f, .int .i64 q.a, .slice aq nq cq] 30)
            have HQI := Lib.hid (hi.keep hb2)
            have HB9 := Lib.hid (HBR.out.trans ((hb.trans (hb2.mono hb.size)).mono HBR.out.size))
            clear hb hb2 hi hd d1 d2 d3 d4 hq hT
            go_wp2_with fail
            refine (HEQ.out _ _ HQI.out).mono ?_
            rintro e w10 ⟨rfl, hb⟩
            have HB10 := Lib.hid (HB9.out.trans (hb.mono HB9.out.size))
            clear hb HQI
            go_wp2
            rw [wrap_succ HK2.out (by decide)]
            exact ⟨⟨k + 1, HK2.out, rfl, HB10.out⟩, meas_succ HK2.out⟩
          · obtain ⟨d1, d2⟩ := back_no hd
            refine (decZ _ T (by have := HT4.out; omega) ⟨d1, d2⟩).mono ?_
            rintro e w9 ⟨aq, nq, cq, rfl, hi, hb⟩
            obtain rfl := zero_len hi
            have hb2 := (Below.refl w9.heap.size w9).alloc (Nat.le_refl _) (Obj.cells #[.int .u64 zeroP.b.1, .int .u64 zeroP.b.2, .int .u64 zeroP.t.1, .int .u64 zeroP.t.2, .int .i64 zeroP.f, .int .i64 zeroP.a, .slice aq 0 cq] 30)
            have HQ6 := Lib.hid (Blk.new w9 30 #[.int .u64 zeroP.b.1, .int .u64 zeroP.b.2, .int .u64 zeroP.t.1, .int .u64 zeroP.t.2, .int .i64 zeroP.f, .int .i64 zeroP.a, .slice aq 0 cq])
            have HQI := Lib.hid (hi.keep hb2)
            have HB9 := Lib.hid (HBR.out.trans ((hb.trans (hb2.mono hb.size)).mono HBR.out.size))
            clear hb hb2 hi hd d1 d2 hT
            go_wp2_with fail
            have HEZ := Lib.hid (enc_any _ _ zeroP HQI.out)
            obtain ⟨ez, hez⟩ : ∃ x, encS zeroP = x := ⟨_, rfl⟩
            obtain ⟨cz, hcz⟩ : ∃ x, checkP zeroP = x := ⟨_, rfl⟩
            rw [hez, hcz] at HEZ
            clear hez hcz
            refine HEZ.out.mono ?_
            rintro e w10 ⟨rfl, hb⟩
            have HB10 := Lib.hid (HB9.out.trans (hb.mono HB9.out.size))
            have z6 := (HQ6.out.keep hb).cell 6
            simp at z6
            clear hb HQI HEZ
            go_wp2
            rw [wrap_succ HK2.out (by decide)]
            exact ⟨⟨k + 1, HK2.out, rfl, HB10.out⟩, meas_succ HK2.out⟩
        · obtain rfl : k = 2 := by omega
          clear hk hk2
          go_wp2_with fail
          refine (works_any _).mono ?_
          rintro e w14 ⟨rfl, hb⟩
          have HBZZ := Lib.hid (HB8.out.trans ((HBR.out.trans (hb.mono HBR.out.size)).mono HB8.out.size))
          clear hb
          go_wp2
          go_ret
          exact ⟨rfl, HBZZ.out⟩
  · have hz0 : z = 2 := by rw [← HBZ.out.2]; exact checkP_bad hok
    subst hz0
    clear hok x0 x1 x2 x3 x4 x5 x6
    rcases HCS.out with ⟨h4, h5⟩ | ⟨h4, rfl⟩
    · have hm : min ((s.size : Nat) : Int) 400 = 400 := by omega
      go_wp2_with fail
      clear h4 h5 hm
      refine (HS.out _).mono ?_
      rintro e w7 ⟨rfl, hb⟩
      have HB7 := Lib.hid (GB.out.trans ((HB3.out.trans (hb.mono HB3.out.size)).mono GB.out.size))
      clear hb
      go_wp2_with fail
      have hbs := (Below.refl w7.heap.size w7).alloc (Nat.le_refl _) (Obj.cells #[.string Y, .string U] 9)
      have hks := Blk.new w7 9 #[.string Y, .string U]
      generalize hgs : w7.heap.size = gs at *
      generalize w7.alloc (Obj.cells #[.string Y, .string U] 9) = w8 at *
      have HB8 := Lib.hid (HB7.out.trans (hbs.mono (by rw [← hgs]; exact HB7.out.size)))
      have HKS := Lib.hid hks
      clear hbs hks hgs
      go_loopw [51] (fun i wr => ∃ k : Nat, k ≤ 2 ∧ i = .int .i64 k ∧ Below w8.heap.size w8 wr) (fun i _ => 2 - (intOf i).toNat)
      case atStart => exact ⟨0, Nat.zero_le _, rfl, Below.refl _ _⟩
      case round =>
        obtain ⟨k, hk, rfl, hb⟩ := hrel
        have HBR := Lib.hid hb
        clear hb
        by_cases hk2 : k < 2
        · obtain ⟨T, hT, hT4⟩ : ∃ T : ByteArray, wr.cell? ⟨gs, k, none⟩ = some (.string T) ∧ T.size ≤ 404 := by
            have hc := (HKS.out.keep HBR.out).cell k
            have hyu := HYU.out
            obtain rfl | rfl : k = 0 ∨ k = 1 := by omega
            · exact ⟨Y, hc, by omega⟩
            · exact ⟨U, hc, by omega⟩
          have HK2 := Lib.hid hk2
          have i1 : (k : Int) < 2 := by omega
          have i0 : (0 : Int) ≤ (k : Int) := by omega
          have HT4 := Lib.hid hT4
          clear hk hk2 hT4
          go_wp2_with fail
          clear i1 i0
          by_cases hd : decOk 9 2 T
          · obtain ⟨d1, d2, d3, d4⟩ := back_yes hd
            obtain ⟨q, hq⟩ : ∃ q, readP 9 2 (txt T) = q := ⟨_, rfl⟩
            rw [hq] at d1 d3 d4
            have HEQ := Lib.hid (fun w9 v (h : InPr w9 v q) => enc_any w9 v q h)
            rw [d3, d4] at HEQ
            refine (decZ _ T (by have := HT4.out; omega) ⟨d1, d2⟩).mono ?_
            rintro e w9 ⟨aq, nq, cq, rfl, hi, hb⟩
            have hb2 := (Below.refl w9.heap.size w9).alloc (Nat.le_refl _) (Obj.cells #[.int .u64 q.b.1, .int .u64 q.b.2, .int .u64 q.t.1, .int .u64 q.t.2, .int .i64 q.f, .int .i64 q.a, .slice aq nq cq] 30)
            have HQI := Lib.hid (hi.keep hb2)
            have HB9 := Lib.hid (HBR.out.trans ((hb.trans (hb2.mono hb.size)).mono HBR.out.size))
            clear hb hb2 hi hd d1 d2 d3 d4 hq hT
            go_wp2_with fail
            refine (HEQ.out _ _ HQI.out).mono ?_
            rintro e w10 ⟨rfl, hb⟩
            have HB10 := Lib.hid (HB9.out.trans (hb.mono HB9.out.size))
            clear hb HQI
            go_wp2
            rw [wrap_succ HK2.out (by decide)]
            exact ⟨⟨k + 1, HK2.out, rfl, HB10.out⟩, meas_succ HK2.out⟩
          · obtain ⟨d1, d2⟩ := back_no hd
            refine (decZ _ T (by have := HT4.out; omega) ⟨d1, d2⟩).mono ?_
            rintro e w9 ⟨aq, nq, cq, rfl, hi, hb⟩
            obtain rfl := zero_len hi
            have hb2 := (Below.refl w9.heap.size w9).alloc (Nat.le_refl _) (Obj.cells #[.int .u64 zeroP.b.1, .int .u64 zeroP.b.2, .int .u64 zeroP.t.1, .int .u64 zeroP.t.2, .int .i64 zeroP.f, .int .i64 zeroP.a, .slice aq 0 cq] 30)
            have HQ6 := Lib.hid (Blk.new w9 30 #[.int .u64 zeroP.b.1, .int .u64 zeroP.b.2, .int .u64 zeroP.t.1, .int .u64 zeroP.t.2, .int .i64 zeroP.f, .int .i64 zeroP.a, .slice aq 0 cq])
            have HQI := Lib.hid (hi.keep hb2)
            have HB9 := Lib.hid (HBR.out.trans ((hb.trans (hb2.mono hb.size)).mono HBR.out.size))
            clear hb hb2 hi hd d1 d2 hT
            go_wp2_with fail
            have HEZ := Lib.hid (enc_any _ _ zeroP HQI.out)
            obtain ⟨ez, hez⟩ : ∃ x, encS zeroP = x := ⟨_, rfl⟩
            obtain ⟨cz, hcz⟩ : ∃ x, checkP zeroP = x := ⟨_, rfl⟩
            rw [hez, hcz] at HEZ
            clear hez hcz
            refine HEZ.out.mono ?_
            rintro e w10 ⟨rfl, hb⟩
            have HB10 := Lib.hid (HB9.out.trans (hb.mono HB9.out.size))
            have z6 := (HQ6.out.keep hb).cell 6
            simp at z6
            clear hb HQI HEZ
            go_wp2
            rw [wrap_succ HK2.out (by decide)]
            exact ⟨⟨k + 1, HK2.out, rfl, HB10.out⟩, meas_succ HK2.out⟩
        · obtain rfl : k = 2 := by omega
          clear hk hk2
          go_wp2_with fail
          refine (works_any _).mono ?_
          rintro e w14 ⟨rfl, hb⟩
          have HBZZ := Lib.hid (HB8.out.trans ((HBR.out.trans (hb.mono HBR.out.size)).mono HB8.out.size))
          clear hb
          go_wp2
          go_ret
          exact ⟨rfl, HBZZ.out⟩
    · have hm : min ((s.size : Nat) : Int) 400 = s.size := by omega
      go_wp2_with fail
      clear h4 hm
      refine (HS.out _).mono ?_
      rintro e w7 ⟨rfl, hb⟩
      have HB7 := Lib.hid (GB.out.trans ((HB3.out.trans (hb.mono HB3.out.size)).mono GB.out.size))
      clear hb
      go_wp2_with fail
      have hbs := (Below.refl w7.heap.size w7).alloc (Nat.le_refl _) (Obj.cells #[.string s, .string U] 9)
      have hks := Blk.new w7 9 #[.string s, .string U]
      generalize hgs : w7.heap.size = gs at *
      generalize w7.alloc (Obj.cells #[.string s, .string U] 9) = w8 at *
      have HB8 := Lib.hid (HB7.out.trans (hbs.mono (by rw [← hgs]; exact HB7.out.size)))
      have HKS := Lib.hid hks
      clear hbs hks hgs
      go_loopw [51] (fun i wr => ∃ k : Nat, k ≤ 2 ∧ i = .int .i64 k ∧ Below w8.heap.size w8 wr) (fun i _ => 2 - (intOf i).toNat)
      case atStart => exact ⟨0, Nat.zero_le _, rfl, Below.refl _ _⟩
      case round =>
        obtain ⟨k, hk, rfl, hb⟩ := hrel
        have HBR := Lib.hid hb
        clear hb
        by_cases hk2 : k < 2
        · obtain ⟨T, hT, hT4⟩ : ∃ T : ByteArray, wr.cell? ⟨gs, k, none⟩ = some (.string T) ∧ T.size ≤ 404 := by
            have hc := (HKS.out.keep HBR.out).cell k
            have hyu := HYU.out
            obtain rfl | rfl : k = 0 ∨ k = 1 := by omega
            · exact ⟨s, hc, by omega⟩
            · exact ⟨U, hc, by omega⟩
          have HK2 := Lib.hid hk2
          have i1 : (k : Int) < 2 := by omega
          have i0 : (0 : Int) ≤ (k : Int) := by omega
          have HT4 := Lib.hid hT4
          clear hk hk2 hT4
          go_wp2_with fail
          clear i1 i0
          by_cases hd : decOk 9 2 T
          · obtain ⟨d1, d2, d3, d4⟩ := back_yes hd
            obtain ⟨q, hq⟩ : ∃ q, readP 9 2 (txt T) = q := ⟨_, rfl⟩
            rw [hq] at d1 d3 d4
            have HEQ := Lib.hid (fun w9 v (h : InPr w9 v q) => enc_any w9 v q h)
            rw [d3, d4] at HEQ
            refine (decZ _ T (by have := HT4.out; omega) ⟨d1, d2⟩).mono ?_
            rintro e w9 ⟨aq, nq, cq, rfl, hi, hb⟩
            have hb2 := (Below.refl w9.heap.size w9).alloc (Nat.le_refl _) (Obj.cells #[.int .u64 q.b.1, .int .u64 q.b.2, .int .u64 q.t.1, .int .u64 q.t.2, .int .i64 q.f, .int .i64 q.a, .slice aq nq cq] 30)
            have HQI := Lib.hid (hi.keep hb2)
            have HB9 := Lib.hid (HBR.out.trans ((hb.trans (hb2.mono hb.size)).mono HBR.out.size))
            clear hb hb2 hi hd d1 d2 d3 d4 hq hT
            go_wp2_with fail
            refine (HEQ.out _ _ HQI.out).mono ?_
            rintro e w10 ⟨rfl, hb⟩
            have HB10 := Lib.hid (HB9.out.trans (hb.mono HB9.out.size))
            clear hb HQI
            go_wp2
            rw [wrap_succ HK2.out (by decide)]
            exact ⟨⟨k + 1, HK2.out, rfl, HB10.out⟩, meas_succ HK2.out⟩
          · obtain ⟨d1, d2⟩ := back_no hd
            refine (decZ _ T (by have := HT4.out; omega) ⟨d1, d2⟩).mono ?_
            rintro e w9 ⟨aq, nq, cq, rfl, hi, hb⟩
            obtain rfl := zero_len hi
            have hb2 := (Below.refl w9.heap.size w9).alloc (Nat.le_refl _) (Obj.cells #[.int .u64 zeroP.b.1, .int .u64 zeroP.b.2, .int .u64 zeroP.t.1, .int .u64 zeroP.t.2, .int .i64 zeroP.f, .int .i64 zeroP.a, .slice aq 0 cq] 30)
            have HQ6 := Lib.hid (Blk.new w9 30 #[.int .u64 zeroP.b.1, .int .u64 zeroP.b.2, .int .u64 zeroP.t.1, .int .u64 zeroP.t.2, .int .i64 zeroP.f, .int .i64 zeroP.a, .slice aq 0 cq])
            have HQI := Lib.hid (hi.keep hb2)
            have HB9 := Lib.hid (HBR.out.trans ((hb.trans (hb2.mono hb.size)).mono HBR.out.size))
            clear hb hb2 hi hd d1 d2 hT
            go_wp2_with fail
            have HEZ := Lib.hid (enc_any _ _ zeroP HQI.out)
            obtain ⟨ez, hez⟩ : ∃ x, encS zeroP = x := ⟨_, rfl⟩
            obtain ⟨cz, hcz⟩ : ∃ x, checkP zeroP = x := ⟨_, rfl⟩
            rw [hez, hcz] at HEZ
            clear hez hcz
            refine HEZ.out.mono ?_
            rintro e w10 ⟨rfl, hb⟩
            have HB10 := Lib.hid (HB9.out.trans (hb.mono HB9.out.size))
            have z6 := (HQ6.out.keep hb).cell 6
            simp at z6
            clear hb HQI HEZ
            go_wp2
            rw [wrap_succ HK2.out (by decide)]
            exact ⟨⟨k + 1, HK2.out, rfl, HB10.out⟩, meas_succ HK2.out⟩
        · obtain rfl : k = 2 := by omega
          clear hk hk2
          go_wp2_with fail
          refine (works_any _).mono ?_
          rintro e w14 ⟨rfl, hb⟩
          have HBZZ := Lib.hid (HB8.out.trans ((HBR.out.trans (hb.mono HBR.out.size)).mono HB8.out.size))
          clear hb
          go_wp2
          go_ret
          exact ⟨rfl, HBZZ.out⟩
end Go.Proofs.Ytpfdpodelkleiaa
