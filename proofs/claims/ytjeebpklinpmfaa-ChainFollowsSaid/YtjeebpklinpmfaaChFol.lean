/-
  ChainFollows, WALKED (printed by wip/gen-chfol.py).
-/
import Derived.Test.YtjeebpklinpmfaaChFolP
import Derived.Test.YtjeebpklinpmfaaWas
namespace Go.Proofs.Ytjeebpklinpmfaa
open Go.RowKit Reg Go.WideShapes Go.ChangeShapes

theorem chE_okF {C : Ch} {i : Nat} (h : i < C.snaps.length) : C.chE (i : Int) = 0 := by
  unfold Ch.chE
  rw [if_neg (by omega)]
theorem min_15F {n m : Nat} (h : m = min n 15) : min (n : Int) 15 = (m : Int) := by omega
theorem gF_wf {k : Nat} (h : k ≤ 100) : wfG (gF k) := by
  have := wf_small (n := k + 1) (by omega)
  refine ⟨rfl, ?_⟩
  show (Lit.int .u64 ((k : Int) + 1)).wf = true
  rwa [show ((k + 1 : Nat) : Int) = (k : Int) + 1 from by omega] at this
/-- what was seen -/
def wasF (rs : List (List Pt)) (k : Nat) : List (List ByteArray) := (List.range k).map fun j => (aB gF rs (j + 1)).live
theorem wasF_succ (rs : List (List Pt)) (k : Nat) : wasF rs (k + 1) = wasF rs k ++ [(aB gF rs (k + 1)).live] := by simp [wasF, List.range_succ]
theorem wasF_at (rs : List (List Pt)) {k j : Nat} (h : j < k) : (wasF rs k).getD j [] = (aB gF rs (j + 1)).live := by simp [wasF, h]
theorem wasF_len (rs : List (List Pt)) (k : Nat) : (wasF rs k).length = k := by simp [wasF]
def WsP (B : Nat) (xs : List (List ByteArray)) (v : Value) (w : World) (v' : Value) (w' : World) : Prop := Ws B w' v' xs ∧ Kp (fun b => v.ownBlock = some b) w w'
set_option maxRecDepth 100000 in
set_option maxHeartbeats 4000000 in
theorem law_ChainFollows (v0 : Value) (rs : List (List Pt)) (W : World) (w0 : InPP W v0 rs) (_m0 : True) :
    Calls Try.prog 3 #[v0] W fun e w' => e = .returned (.bool true) ∧ Below W.heap.size W w' := by
  obtain ⟨a, c, rfl, hml, hx⟩ := w0
  obtain ⟨m, hm⟩ : ∃ m, m = min rs.length 15 := ⟨_, rfl⟩
  have hm15 : m ≤ 15 := by omega
  have hmn : m ≤ rs.length := by omega
  have HMIN := Lib.hid (min_15F hm)
  have HS := Lib.hid (And.intro hm15 hmn)
  have HX := Lib.hid hx
  have HNX := Lib.hid (fun i (hi : i ≤ 15) => aB_next gF_ris rs hi)
  have HSN := Lib.hid (fun i => show (roundC (aB gF rs i) (rs.getD i [])).snap (gF i) = aB gF rs (i + 1) from rfl)
  have HLI := Lib.hid (fun i (hi : i ≤ 15) => show (aB gF rs i).live.take (aB gF rs i).n = (aB gF rs i).live by
    rw [(aB_props gF_ris rs i hi).1]
    exact List.take_of_length_le (by rw [(aB_full gF rs i).1]; exact Nat.le_refl _))
  have HLL := Lib.hid (fun i => (aB_full gF rs i).1)
  have HWS := Lib.hid (wasF_succ rs)
  have HWA := Lib.hid (fun k j (h : j < k) => wasF_at rs h)
  have HWL := Lib.hid (wasF_len rs)
  have HW0 := Lib.hid (show wasF rs 0 = [] from rfl)
  have HCE := Lib.hid (fun i (hi : i < m) => chE_okF (C := aB gF rs m) (i := i) (by have := (aB_props gF_ris rs m (by omega)).2.1; omega))
  have HAE := Lib.hid (fun i (hi : i < m) => bF_addE rs hm15 hi)
  have HAD := Lib.hid (fun i => show (bF (aB gF rs m) i).add (gF i) ((aB gF rs m).chC (i : Int)) = bF (aB gF rs m) (i + 1) from rfl)
  have HBL := Lib.hid (fun i (hi : i ≤ m) => show (bF (aB gF rs m) i).live.take (bF (aB gF rs m) i).n = (aB gF rs i).live by
    obtain ⟨b1, _, b3, _⟩ := bF_props rs hm15 i hi
    rw [b1, b3]
    exact List.take_of_length_le (by rw [(aB_full gF rs i).1]; exact Nat.le_refl _))
  have HRA := Lib.hid (fun i (hi : i < m) => aB_read rs hm15 hi)
  have HRB := Lib.hid (fun i (hi : i < m) => bF_read rs hm15 hi)
  have HB0 := Lib.hid (show bF (aB gF rs m) 0 = aB gF rs 0 from rfl)
  have HA0 := Lib.hid (show aB gF rs 0 = Ch.new 8 from rfl)
  generalize hBB : bF (aB gF rs m) = F at *
  generalize hA : aB gF rs = A at *
  generalize hWW : wasF rs = G at *
  clear hBB hA hWW hx hm hm15 hmn
  generalize rs.length = n at *
  have i1 : (0 : Int) ≤ (m : Int) := by omega
  obtain ⟨hm15, hmn⟩ := HS.out
  have i2 : (m : Int) ≤ 15 := by omega
  have hmin := HMIN.out
  clear hm15 hmn
  go_enter Try.func3, Try.ntmps3
  go_wp2_with fail
  refine (works_any _).mono ?_
  rintro e w1 ⟨rfl, hb⟩
  have HB1 := Lib.hid hb
  clear hb
  go_wp2_with fail
  refine (new_any _ 8 (by decide) (by decide)).mono ?_
  rintro e w2 hn
  obtain ⟨ba, rfl, ho⟩ := Ho.of_new HB1.out HB1.out.size hn
  have HO := Lib.hid ho
  clear hn ho
  go_wp2_with fail
  refine (new_any _ 8 (by decide) (by decide)).mono ?_
  rintro e w3 hn
  obtain ⟨bb, rfl, hp⟩ := HO.out.pair hn
  have HP := Lib.hid (show Hp W.heap.size W w3 ba (A 0) bb (A 0) by rw [HA0.out]; exact hp)
  clear hn hp HO HB1
  go_wp2_with fail
  clear hmin
  go_loopw [6, 7] (fun l0 i wr => ∃ (k : Nat) (l : Value), k ≤ m ∧ i = .int .i64 k ∧ l = l0 ∧ Hp W.heap.size W wr ba (A k) bb (A 0) ∧ Ws W.heap.size wr l (G k)) (fun _ i _ => m - (intOf i).toNat)
  case atStart => exact ⟨0, _, Nat.zero_le _, rfl, rfl, HP.out, by rw [HW0.out]; exact Ws.nil_ _ _⟩
  case round =>
    obtain ⟨k, l, hk, rfl, rfl, hp, hws⟩ := hrel
    have HPK := Lib.hid hp
    have HWK := Lib.hid hws
    clear hp hws
    by_cases hkm : k < m
    · obtain ⟨g, off, u, rfl, hc, hu⟩ := HX.out k (by have := HS.out; omega)
      obtain ⟨ua, uc, hue, -⟩ := id hu
      subst hue
      have c0 := cell_later HPK.out.below hc
      have hk15 : k ≤ 15 := by have := HS.out; omega
      have i3 : (k : Int) < (m : Int) := by omega
      have i4 : (k : Int) < 15 := by omega
      have i5 : (k : Int) < (n : Int) := by have := HS.out; omega
      have i6 : (0 : Int) ≤ (k : Int) := by omega
      have hnx : (roundC (A k) (rs.getD k [])).next (gF k) = 0 := HNX.out k hk15
      have hsn : (roundC (A k) (rs.getD k [])).snap (gF k) = A (k + 1) := HSN.out k
      have HNXK := Lib.hid hnx
      have HSNK := Lib.hid hsn
      have HU := Lib.hid hu
      have HKM := Lib.hid hkm
      have HWF := Lib.hid (gF_wf (k := k) (by omega))
      have HLK := Lib.hid (HLI.out (k + 1) (by have := HS.out; omega))
      have HGK := Lib.hid (HWS.out k)
      have HGL := Lib.hid (show (G k).length ≤ 1000 by rw [HWL.out]; omega)
      clear hnx hsn hu hc hk15 hkm hk
      generalize rs.getD k [] = ps at *
      generalize ps.length = pn at *
      go_wp2_with fail
      refine (hp_round HPK.out _ _ HU.out).mono ?_
      rintro e w4 ⟨rfl, hp, hot⟩
      have HP4 := Lib.hid hp
      have HW4 := Lib.hid (HWK.out.oth hot)
      clear hp hot c0 HPK HWK
      go_wp2_with fail
      refine (guid_any 1 ((k : Int) + 1) _).mono ?_
      rintro e w5 ⟨rfl, hb⟩
      have HP5 := Lib.hid (HP4.out.keep hb)
      have HW5 := Lib.hid (HW4.out.keep hb)
      clear hb HP4 HW4
      go_wp2_with fail
      have hc := hp_snap HP5.out (gF k) HWF.out
      rw [HNXK.out, HSNK.out] at hc
      refine hc.mono ?_
      clear hc
      rintro e w6 ⟨rfl, hp, hot⟩
      have HP6 := Lib.hid hp
      have HW6 := Lib.hid (HW5.out.oth hot)
      clear hp hot HP5 HW5
      go_wp2_with fail
      have hc := hp_live HP6.out
      rw [HLK.out] at hc
      refine hc.mono ?_
      clear hc
      rintro e w7 ⟨v7, rfl, ho, hb⟩
      obtain ⟨a7, c7, rfl, -⟩ := ho.rd.open_
      generalize (A (k + 1)).live.length = n7 at *
      have hB7 : W.heap.size ≤ w7.heap.size := Nat.le_trans HP6.out.size hb.size
      have hbl := (Below.refl w7.heap.size w7).alloc (Nat.le_refl _) (Obj.cells #[.slice a7 n7 c7] 35)
      have hap := Ws.app (w := w7.alloc (Obj.cells #[.slice a7 n7 c7] 35)) ((HW6.out.keep hb).keep hbl) 26 w7 _ rfl rfl ((ho.mono HP6.out.size).keep hbl) rfl HGL.out (Nat.le_trans hB7 hbl.size)
      have HA := Lib.hid hap
      have HP8 := Lib.hid ((HP6.out.keep hb).keep hbl)
      have HW8 := Lib.hid ((HW6.out.keep hb).keep hbl)
      clear hap ho hb hbl hB7 HP6 HW6
      go_wp2_with (at_builtin; refine wpList_append_run rfl _ _ 26 rfl _ _ rfl rfl (fun v' w' => WsP W.heap.size (G k ++ [(A (k + 1)).live]) l (w7.alloc (Obj.cells #[.slice a7 n7 c7] 35)) v' w') HA.out ?_)
      refine Later.mk fun _ _ v' w' hpp => ?_
      have HN := Lib.hid (show Hp W.heap.size W w' ba (A (k + 1)) bb (A 0) ∧ Ws W.heap.size w' v' (G (k + 1)) from ⟨HP8.out.turn hpp.2 (fun b hb => HW8.out.lt hb), by rw [HGK.out]; exact hpp.1⟩)
      clear hpp
      go_wp2
      clear i1 i2 i3 i4 i5 i6
      exact ⟨⟨k + 1, v', HKM.out, rfl, rfl, HN.out.1, HN.out.2⟩, meas_succ HKM.out⟩
    · obtain rfl : k = m := by omega
      have i3 : ¬ ((k : Int) < (k : Int)) := by omega
      obtain ⟨al, cl, hvl, -⟩ := HWK.out.at
      rw [HWL.out] at hvl
      subst hvl
      clear hkm hk
      go_wp2_with fail
      clear i3
      go_loopw [8] (fun i wr => ∃ q : Nat, q ≤ k ∧ i = .int .i64 q ∧ Hp W.heap.size W wr ba (A k) bb (F q) ∧ Ws W.heap.size wr (.slice al k cl) (G k)) (fun i _ => k - (intOf i).toNat)
      case atStart => exact ⟨0, Nat.zero_le _, rfl, by rw [HB0.out]; exact HPK.out, HWK.out⟩
      case round =>
        obtain ⟨q, hq, rfl, hp, hws⟩ := hrel
        have HPQ := Lib.hid hp
        have HWQ := Lib.hid hws
        clear hp hws
        by_cases hqk : q < k
        · have i3 : (q : Int) < (k : Int) := by omega
          have i4 : (q : Int) < 15 := by have := HS.out; omega
          have i6 : (0 : Int) ≤ (q : Int) := by omega
          have HQK := Lib.hid hqk
          have HCEQ := Lib.hid (HCE.out q hqk)
          have HAEQ := Lib.hid (HAE.out q hqk)
          have HADQ := Lib.hid (HAD.out q)
          have HBLQ := Lib.hid (HBL.out (q + 1) hqk)
          have HWF := Lib.hid (gF_wf (k := q) (by have := HS.out; omega))
          have HATQ := Lib.hid (HWA.out k q hqk)
          have HL8 := Lib.hid (HLL.out (q + 1))
          clear hqk hq
          go_wp2_with fail
          have hc := hp_chg HPQ.out (q : Int)
          rw [HCEQ.out] at hc
          refine hc.mono ?_
          clear hc
          rintro e z1 ⟨v1, rfl, ho, hb⟩
          have HP1 := Lib.hid (HPQ.out.keep hb)
          have HW1 := Lib.hid (HWQ.out.keep hb)
          have HC1 := Lib.hid ho
          clear ho hb HPQ HWQ
          go_wp2_with fail
          refine (guid_any 1 ((q : Int) + 1) _).mono ?_
          rintro e z2 ⟨rfl, hb⟩
          have HP2 := Lib.hid (HP1.out.keep hb)
          have HW2 := Lib.hid (HW1.out.keep hb)
          have HC2 := Lib.hid (HC1.out.keep hb).rd
          clear hb HP1 HW1 HC1
          go_wp2_with fail
          have hc := hp_add HP2.out.swap (gF q) HWF.out v1 _ HC2.out
          rw [HAEQ.out, HADQ.out] at hc
          refine hc.mono ?_
          clear hc
          rintro e z3 ⟨rfl, hp, hot⟩
          have HP3 := Lib.hid hp.swap
          have HW3 := Lib.hid (HW2.out.oth hot)
          clear hp hot HP2 HW2 HC2
          go_wp2_with fail
          have hc := hp_live HP3.out.swap
          rw [HBLQ.out] at hc
          refine hc.mono ?_
          clear hc
          rintro e z4 ⟨v4, rfl, ho, hb⟩
          have HP4 := Lib.hid (HP3.out.keep hb)
          have HW4 := Lib.hid (HW3.out.keep hb)
          obtain ⟨a1, c1, rfl, -, hx1⟩ := ho.rd.open_
          obtain ⟨g2, u2, rfl, hu2, hin⟩ := HW4.out.at2 q (by rw [HWL.out]; exact HQK.out)
          rw [HATQ.out] at hin
          obtain ⟨a3, c3, rfl, -, hx3⟩ := hin.open_
          rw [HL8.out] at hx1 hx3
          rw [HL8.out] at hu2
          rw [HL8.out]
          have HX1 := Lib.hid hx1
          have HX3 := Lib.hid hx3
          have HU2 := Lib.hid hu2
          clear ho hb hx1 hx3 hin hu2 HP3 HW3
          generalize (A (q + 1)).live = zl at *
          go_wp2_with fail
          go_loopw [12] (fun i wy => ∃ t : Nat, t ≤ 8 ∧ i = .int .i64 t ∧ Below z4.heap.size z4 wy) (fun i _ => 8 - (intOf i).toNat)
          case atStart => exact ⟨0, Nat.zero_le _, rfl, Below.refl _ _⟩
          case round =>
            obtain ⟨t, ht, rfl, hb⟩ := hrel
            have HBT := Lib.hid hb
            by_cases ht8 : t < 8
            · obtain ⟨g1, o1, rfl, y1⟩ := HX1.out t ht8
              obtain ⟨g3, o3, rfl, y3⟩ := HX3.out t ht8
              replace y1 := cell_later hb y1
              replace y3 := cell_later hb y3
              have y2 := cell_later hb HU2.out
              have l1 : (t : Int) < 8 := by omega
              have l0 : (0 : Int) ≤ (t : Int) := by omega
              have HT8 := Lib.hid ht8
              generalize zl.getD t ByteArray.empty = st at *
              clear hb ht ht8
              go_wp2_with fail
              go_quiet (fail)
              have HB1 := Lib.hid (below_drewN HBT.out nq)
              go_wp2
              clear l0 l1
              exact ⟨⟨t + 1, HT8.out, rfl, HB1.out⟩, meas_succ HT8.out⟩
            · obtain rfl : t = 8 := by omega
              have HZ := Lib.hid (And.intro (HP4.out.keep hb) (HW4.out.keep hb))
              clear hb ht ht8
              go_wp2
              clear i3 i4 i6
              exact ⟨⟨q + 1, HQK.out, rfl, HZ.out.1, HZ.out.2⟩, meas_succ HQK.out⟩
        · obtain rfl : q = k := by omega
          have i3 : ¬ ((q : Int) < (q : Int)) := by omega
          clear hqk hq
          go_wp2_with fail
          clear i3
          go_loopw [13] (fun i wr => ∃ p : Nat, p ≤ q ∧ i = .int .i64 p ∧ Hp W.heap.size W wr ba (A q) bb (F q) ∧ Ws W.heap.size wr (.slice al q cl) (G q)) (fun i _ => q - (intOf i).toNat)
          case atStart => exact ⟨0, Nat.zero_le _, rfl, HPQ.out, HWQ.out⟩
          case round =>
            obtain ⟨p, hpq0, rfl, hp, hws⟩ := hrel
            have HPP := Lib.hid hp
            have HWP := Lib.hid hws
            clear hp hws
            by_cases hpq : p < q
            · have i3 : (p : Int) < (q : Int) := by omega
              have i4 : (p : Int) < 15 := by have := HS.out; omega
              have i6 : (0 : Int) ≤ (p : Int) := by omega
              have HPQ2 := Lib.hid hpq
              have HRAP := Lib.hid (HRA.out p hpq)
              have HRBP := Lib.hid (HRB.out p hpq)
              have HATP := Lib.hid (HWA.out q p hpq)
              have HL8 := Lib.hid (HLL.out (p + 1))
              clear hpq hpq0
              go_wp2_with fail
              refine (guid_any 1 ((p : Int) + 1) _).mono ?_
              rintro e z1 ⟨rfl, hb⟩
              have HP1 := Lib.hid (HPP.out.keep hb)
              have HW1 := Lib.hid (HWP.out.keep hb)
              clear hb HPP HWP
              go_wp2_with fail
              have hc := hp_read HP1.out (gF p)
              rw [HRAP.out.1, HRAP.out.2] at hc
              refine hc.mono ?_
              clear hc
              rintro e z2 ⟨v2, rfl, ho, hb⟩
              have HP2 := Lib.hid (HP1.out.keep hb)
              have HW2 := Lib.hid (HW1.out.keep hb)
              have HV2 := Lib.hid ho.rd
              clear ho hb HP1 HW1
              go_wp2_with fail
              refine (guid_any 1 ((p : Int) + 1) _).mono ?_
              rintro e z3 ⟨rfl, hb⟩
              have HP3 := Lib.hid (HP2.out.keep hb)
              have HW3 := Lib.hid (HW2.out.keep hb)
              replace HV2 := Lib.hid (HV2.out.keep hb)
              clear hb HP2 HW2
              go_wp2_with fail
              have hc := hp_read HP3.out.swap (gF p)
              rw [HRBP.out.1, HRBP.out.2] at hc
              refine hc.mono ?_
              clear hc
              rintro e z4 ⟨v4, rfl, ho, hb⟩
              have HP4 := Lib.hid (HP3.out.keep hb)
              have HW4 := Lib.hid (HW3.out.keep hb)
              replace HV2 := Lib.hid (HV2.out.keep hb)
              obtain ⟨a1, c1, rfl, -, hx1⟩ := HV2.out.open_
              obtain ⟨a4, c4, rfl, -, hx4⟩ := ho.rd.open_
              obtain ⟨g2, u2, rfl, hu2, hin⟩ := HW4.out.at2 p (by rw [HWL.out]; exact HPQ2.out)
              rw [HATP.out] at hin
              obtain ⟨a3, c3, rfl, -, hx3⟩ := hin.open_
              rw [HL8.out] at hx1 hx3 hx4
              rw [HL8.out] at hu2
              rw [HL8.out]
              have HX1 := Lib.hid hx1
              have HX3 := Lib.hid hx3
              have HX4 := Lib.hid hx4
              have HU2 := Lib.hid hu2
              clear ho hb hx1 hx3 hx4 hin hu2 HP3 HW3 HV2
              generalize (A (p + 1)).live = zl at *
              go_wp2_with fail
              go_loopw [18] (fun i wy => ∃ t : Nat, t ≤ 8 ∧ i = .int .i64 t ∧ Below z4.heap.size z4 wy) (fun i _ => 8 - (intOf i).toNat)
              case atStart => exact ⟨0, Nat.zero_le _, rfl, Below.refl _ _⟩
              case round =>
                obtain ⟨t, ht, rfl, hb⟩ := hrel
                have HBT := Lib.hid hb
                by_cases ht8 : t < 8
                · obtain ⟨g1, o1, rfl, y1⟩ := HX1.out t ht8
                  obtain ⟨g3, o3, rfl, y3⟩ := HX3.out t ht8
                  obtain ⟨g4, o4, rfl, y4⟩ := HX4.out t ht8
                  replace y1 := cell_later hb y1
                  replace y3 := cell_later hb y3
                  replace y4 := cell_later hb y4
                  have y2 := cell_later hb HU2.out
                  have l1 : (t : Int) < 8 := by omega
                  have l0 : (0 : Int) ≤ (t : Int) := by omega
                  have HT8 := Lib.hid ht8
                  generalize zl.getD t ByteArray.empty = st at *
                  clear hb ht ht8
                  go_wp2_with fail
                  go_quiet (fail)
                  have HB1 := Lib.hid (below_drewN HBT.out nq)
                  go_wp2
                  clear l0 l1
                  exact ⟨⟨t + 1, HT8.out, rfl, HB1.out⟩, meas_succ HT8.out⟩
                · obtain rfl : t = 8 := by omega
                  have HZ := Lib.hid (And.intro (HP4.out.keep hb) (HW4.out.keep hb))
                  clear hb ht ht8
                  go_wp2
                  clear i3 i4 i6
                  exact ⟨⟨p + 1, HPQ2.out, rfl, HZ.out.1, HZ.out.2⟩, meas_succ HPQ2.out⟩
            · obtain rfl : p = q := by omega
              have i3 : ¬ ((p : Int) < (p : Int)) := by omega
              clear hpq hpq0
              go_wp2
              go_ret
              exact ⟨rfl, HPP.out.below⟩
end Go.Proofs.Ytjeebpklinpmfaa
