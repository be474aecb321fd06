/-
  ChainBack, WALKED (printed by wip/gen-chback.py).
-/
import Derived.Test.YtjeebpklinpmfaaChBackP
namespace Go.Proofs.Ytjeebpklinpmfaa
open Go.RowKit Reg Go.WideShapes Go.ChangeShapes

theorem u64_small {k : Nat} (h : k ≤ 1000) : IntKind.u64.wrap (k : Int) = (k : Int) := IntWalk.u64_in _ (by omega)
theorem chE_ok {C : Ch} {i : Nat} (h : i < C.snaps.length) : C.chE (i : Int) = 0 := by
  unfold Ch.chE
  rw [if_neg (by omega)]
theorem chC_le (C : Ch) (n : Int) : (C.chC n).length ≤ 8 := by
  unfold Ch.chC
  split
  · simp
  · exact chgs_le _ _ 8
theorem min_15 {n m : Nat} (h : m = min n 15) : min (n : Int) 15 = (m : Int) := by omega
set_option maxRecDepth 100000 in
set_option maxHeartbeats 2000000 in
theorem law_ChainBack (v0 : Value) (rs : List (List Pt)) (b : Int) (W : World) (w0 : InPP W v0 rs) (_m0 : True) (hb : (Lit.int .u8 b).wf = true) :
    Calls Try.prog 4 #[v0, .int .u8 b] W fun e w' => e = .returned (.bool true) ∧ Below W.heap.size W w' := by
  obtain ⟨a, c, rfl, hml, hx⟩ := w0
  have hb0 : 0 ≤ b ∧ b ≤ 255 := by
    simpa [Lit.wf, show IntKind.u8.min = 0 from by decide, show IntKind.u8.max = 255 from by decide] using hb
  obtain ⟨m, hm⟩ : ∃ m, m = min rs.length 15 := ⟨_, rfl⟩
  obtain ⟨s, hs⟩ : ∃ s : Nat, (s : Int) = b.tmod ((m : Int) + 1) := ⟨(b.tmod ((m : Int) + 1)).toNat, by
    rw [Int.tmod_eq_emod_of_nonneg hb0.1]
    have := Int.emod_nonneg b (show (m : Int) + 1 ≠ 0 by omega)
    omega⟩
  have hsm : s ≤ m := by
    rw [Int.tmod_eq_emod_of_nonneg hb0.1] at hs
    have := Int.emod_lt_of_pos b (show (0 : Int) < (m : Int) + 1 by omega)
    omega
  have hm15 : m ≤ 15 := by omega
  have hmn : m ≤ rs.length := by omega
  have HMIN := Lib.hid (min_15 hm)
  have HTM := Lib.hid hs.symm
  have HS := Lib.hid (And.intro hsm (And.intro hm15 hmn))
  have HX := Lib.hid hx
  have HB := Lib.hid hb0
  have hnext := fun i (hi : i ≤ 15) => aB_next gB_ris rs hi
  have HNX := Lib.hid hnext
  have hsn := fun i => show (roundC (aB gB rs i) (rs.getD i [])).snap (gB i) = aB gB rs (i + 1) from rfl
  have HSN := Lib.hid hsn
  have HRO := Lib.hid (aB_roll gB_ris rs hsm hm15)
  have HPR := Lib.hid (aB_props gB_ris rs s (by omega))
  have H99 := Lib.hid (aB_99 rs (s := s) (by omega))
  have HCE := Lib.hid (fun i (hi : i < s) => chE_ok (C := aB gB rs s) (i := i) (by have := (aB_props gB_ris rs s (by omega)).2.1; omega))
  have HA0 := Lib.hid (show aB gB rs 0 = Ch.new 8 from rfl)
  generalize hA : aB gB rs = A at *
  clear hA hx hb hm hs hsm hm15 hmn hb0 hnext hsn
  generalize rs.length = n at *
  have i1 : (0 : Int) ≤ (m : Int) := by omega
  obtain ⟨hsm, hm15, hmn⟩ := HS.out
  have i2 : (m : Int) ≤ 15 := by omega
  obtain ⟨b0, b1⟩ := HB.out
  have hmin := HMIN.out
  have htm := HTM.out
  have hz1 : ((m : Int) + 1 == 0) = false := by
    rw [beq_eq_false_iff_ne]
    omega
  have hz2 : decide ((m : Int) + 1 = 0) = false := decide_eq_false (by omega)
  clear hsm hm15 hmn
  go_enter Try.func4, Try.ntmps4
  go_wp2_with fail
  refine (works_any _).mono ?_
  rintro e w1 ⟨rfl, hb⟩
  have HB1 := Lib.hid hb
  clear hb
  go_wp2_with fail
  refine (new_any _ 8 (by decide) (by decide)).mono ?_
  rintro e w2 hn
  obtain ⟨ba, rfl, ho⟩ := Ho.of_new HB1.out HB1.out.size hn
  have HO := Lib.hid ho
  clear hn ho
  go_wp2_with fail
  refine (new_any _ 8 (by decide) (by decide)).mono ?_
  rintro e w3 hn
  obtain ⟨bb, rfl, hp⟩ := HO.out.pair hn
  have HP := Lib.hid (show Hp W.heap.size W w3 ba (A 0) bb (A 0) by rw [HA0.out]; exact hp)
  clear hn hp HO HB1
  go_wp2_with fail
  clear hmin htm hz1 hz2 b0 b1
  go_loopw [9] (fun i wr => ∃ k : Nat, k ≤ m ∧ i = .int .i64 k ∧ Hp W.heap.size W wr ba (A k) bb (A (min k s))) (fun i _ => m - (intOf i).toNat)
  case atStart => exact ⟨0, Nat.zero_le _, rfl, by rw [Nat.zero_min]; exact HP.out⟩
  case round =>
    obtain ⟨k, hk, rfl, hp⟩ := hrel
    have HPK := Lib.hid hp
    clear hp
    by_cases hkm : k < m
    · obtain ⟨g, off, u, rfl, hc, hu⟩ := HX.out k (by have := HS.out; omega)
      obtain ⟨ua, uc, hue, -⟩ := id hu
      subst hue
      have c0 := cell_later HPK.out.below hc
      have hk15 : k ≤ 15 := by have := HS.out; omega
      have i3 : (k : Int) < (m : Int) := by omega
      have i4 : (k : Int) < 15 := by omega
      have i5 : (k : Int) < (n : Int) := by have := HS.out; omega
      have i6 : (0 : Int) ≤ (k : Int) := by omega
      have hnx : (roundC (A k) (rs.getD k [])).next (2, (k : Int)) = 0 := HNX.out k hk15
      have hsn : (roundC (A k) (rs.getD k [])).snap (2, (k : Int)) = A (k + 1) := HSN.out k
      have HNXK := Lib.hid hnx
      have HSNK := Lib.hid hsn
      have HU := Lib.hid hu
      have HC := Lib.hid hc
      have HKM := Lib.hid hkm
      have HWF := Lib.hid (show wfG (2, (k : Int)) from ⟨rfl, wf_small (by omega)⟩)
      clear hnx hsn hu hc hk15 hkm hk
      generalize rs.getD k [] = ps at *
      generalize ps.length = pn at *
      go_wp2_with fail
      refine (hp_round HPK.out _ _ HU.out).mono ?_
      rintro e w4 ⟨rfl, hp, -⟩
      have HP4 := Lib.hid hp
      clear hp c0
      go_wp2_with fail
      refine (guid_any 2 (k : Int) _).mono ?_
      rintro e w5 ⟨rfl, hb⟩
      have HP5 := Lib.hid (HP4.out.keep hb)
      clear hb HP4
      go_wp2_with fail
      have hc := hp_snap HP5.out (2, (k : Int)) HWF.out
      rw [HNXK.out, HSNK.out] at hc
      refine hc.mono ?_
      clear hc
      rintro e w6 ⟨rfl, hp, -⟩
      have HP6 := Lib.hid hp
      clear hp HP5
      by_cases hks : k < s
      · have i7 : (k : Int) < (s : Int) := by omega
        have HQ := Lib.hid (show Hp W.heap.size W w6 bb (A k) ba (A (k + 1)) by
          have h := HP6.out.swap
          rwa [Nat.min_eq_left (by omega)] at h)
        have HKS := Lib.hid hks
        have c0 := cell_later HP6.out.below HC.out
        clear hks HP6
        go_wp2_with fail
        refine (hp_round HQ.out _ _ HU.out).mono ?_
        rintro e w7 ⟨rfl, hp, -⟩
        have HP7 := Lib.hid hp
        clear hp c0 HQ
        go_wp2_with fail
        refine (guid_any 2 (k : Int) _).mono ?_
        rintro e w8 ⟨rfl, hb⟩
        have HP8 := Lib.hid (HP7.out.keep hb)
        clear hb HP7
        go_wp2_with fail
        have hc := hp_snap HP8.out (2, (k : Int)) HWF.out
        rw [HNXK.out, HSNK.out] at hc
        refine hc.mono ?_
        clear hc
        rintro e w9 ⟨rfl, hp, -⟩
        have HP9 := Lib.hid hp.swap
        clear hp HP8
        go_wp2
        clear i1 i2 i3 i4 i5 i6 i7
        exact ⟨⟨k + 1, HKM.out, rfl, by rw [Nat.min_eq_left HKS.out]; exact HP9.out⟩, meas_succ HKM.out⟩
      · have i7 : ¬ ((k : Int) < (s : Int)) := by omega
        have HQ := Lib.hid (show Hp W.heap.size W w6 ba (A (k + 1)) bb (A (min (k + 1) s)) by
          have h := HP6.out
          rwa [show min k s = min (k + 1) s from by omega] at h)
        clear hks HP6
        go_wp2
        clear i1 i2 i3 i4 i5 i6 i7
        exact ⟨⟨k + 1, HKM.out, rfl, HQ.out⟩, meas_succ HKM.out⟩
    · obtain rfl : k = m := by omega
      have i3 : ¬ ((k : Int) < (k : Int)) := by omega
      have HPM := Lib.hid (show Hp W.heap.size W _ ba (A k) bb (A s) by
        have h := HPK.out
        rwa [Nat.min_eq_right (by have := HS.out; omega)] at h)
      clear hkm hk HPK
      go_wp2_with fail
      have hc := hp_roll HPM.out (s : Int)
      rw [HRO.out.1, HRO.out.2] at hc
      refine hc.mono ?_
      clear hc
      rintro e w4 ⟨rfl, hp, -⟩
      have HH := Lib.hid hp
      clear hp HPM
      have hsl := HPR.out.2.1
      have hsn8 := HPR.out.1
      have hlv := HH.out.wf.1
      have HLV := Lib.hid (show ((A s).live.take (A s).n).length = 8 by rw [List.length_take, hsn8, hlv]; rfl)
      have HSL := Lib.hid (show ((A s).snaps.map (·.g)).length = s by rw [List.length_map, hsl])
      clear hsl hsn8 hlv
      generalize hS : A s = S at *
      have HSS := Lib.hid hS
      clear hS
      clear i1 i2 i3
      go_wp2_with fail
      refine (hp_list HH.out).mono ?_
      rintro e w5 ⟨vg, rfl, ho, hb⟩
      replace HH := Lib.hid (HH.out.keep hb)
      obtain ⟨ag, cg, hvg, -⟩ := ho.rd.open_
      rw [HSL.out] at hvg
      subst hvg
      clear ho hb
      go_wp2_with fail
      refine (hp_list HH.out.swap).mono ?_
      rintro e w6 ⟨vg2, rfl, ho, hb⟩
      replace HH := Lib.hid (HH.out.keep hb)
      obtain ⟨ag2, cg2, hvg, -⟩ := ho.rd.open_
      rw [HSL.out] at hvg
      subst hvg
      clear ho hb
      go_wp2_with fail
      refine (hp_live HH.out).mono ?_
      rintro e w7 ⟨v1, rfl, ho, hb⟩
      replace HH := Lib.hid (HH.out.keep hb)
      have HV1 := Lib.hid ho.rd
      clear ho hb
      go_wp2_with fail
      refine (hp_live HH.out.swap).mono ?_
      rintro e w8 ⟨v2, rfl, ho, hb⟩
      replace HH := Lib.hid (HH.out.keep hb)
      replace HV1 := Lib.hid (HV1.out.keep hb)
      obtain ⟨a1, c1, rfl, -, hx1⟩ := HV1.out.open_
      obtain ⟨a2, c2, rfl, -, hx2⟩ := ho.rd.open_
      rw [HLV.out] at hx1 hx2
      rw [HLV.out]
      have HX1 := Lib.hid hx1
      have HX2 := Lib.hid hx2
      clear ho hb hx1 hx2 HV1
      go_wp2_with fail
      go_loopw [12] (fun i wr => ∃ q : Nat, q ≤ 8 ∧ i = .int .i64 q ∧ Below w8.heap.size w8 wr) (fun i _ => 8 - (intOf i).toNat)
      case atStart => exact ⟨0, Nat.zero_le _, rfl, Below.refl _ _⟩
      case round =>
        obtain ⟨q, hq, rfl, hb⟩ := hrel
        have HBQ := Lib.hid hb
        by_cases hq8 : q < 8
        · obtain ⟨g1, o1, rfl, y1⟩ := HX1.out q hq8
          obtain ⟨g2, o2, rfl, y2⟩ := HX2.out q hq8
          replace y1 := cell_later hb y1
          replace y2 := cell_later hb y2
          have j1 : (q : Int) < 8 := by omega
          have j0 : (0 : Int) ≤ (q : Int) := by omega
          have HQ8 := Lib.hid hq8
          generalize (List.take S.n S.live).getD q ByteArray.empty = st at *
          clear hb hq hq8
          go_wp2_with fail
          go_quiet (fail)
          have HB1 := Lib.hid (below_drewN HBQ.out nq)
          go_wp2
          clear j1 j0
          exact ⟨⟨q + 1, HQ8.out, rfl, HB1.out⟩, meas_succ HQ8.out⟩
        · obtain rfl : q = 8 := by omega
          replace HH := Lib.hid (HH.out.keep hb)
          clear hb hq hq8 HX1 HX2
          go_wp2_with fail
          go_loopw [13] (fun i wz => ∃ q : Nat, q ≤ s ∧ i = .int .i64 q ∧ Hp W.heap.size W wz ba S bb S) (fun i _ => s - (intOf i).toNat)
          case atStart => exact ⟨0, Nat.zero_le _, rfl, HH.out⟩
          case round =>
            obtain ⟨q, hq, rfl, hp⟩ := hrel
            have HZ := Lib.hid hp
            clear hp
            by_cases hqs : q < s
            · have hce := HCE.out q hqs
              have j1 : (q : Int) < (s : Int) := by omega
              have j2 : (s : Int) ≤ 15 := by have := HS.out; omega
              have HQS := Lib.hid hqs
              clear hq hqs
              have hc := fun w x y (h : Hp W.heap.size W w x S y S) => hp_chg h (q : Int)
              rw [hce] at hc
              have HCH := Lib.hid hc
              have HLE := Lib.hid (chC_le S (q : Int))
              generalize S.chC (q : Int) = cs at *
              clear hc hce
              go_wp2_with fail
              refine (HCH.out _ _ _ HZ.out).mono ?_
              rintro e z1 ⟨x1, rfl, ho, hb⟩
              have HZ1 := Lib.hid (HZ.out.keep hb)
              have HV1 := Lib.hid ho.rd
              clear ho hb
              go_wp2_with fail
              refine (HCH.out _ _ _ HZ1.out.swap).mono ?_
              rintro e z2 ⟨x2, rfl, ho, hb⟩
              have HZ2 := Lib.hid (HZ1.out.keep hb)
              replace HV1 := Lib.hid (HV1.out.keep hb)
              obtain ⟨a1, c1, rfl, -, hx1⟩ := HV1.out
              obtain ⟨a2, c2, rfl, -, hx2⟩ := ho.rd
              generalize hcl : cs.length = cl at *
              generalize hZZ : (fun j => cs.getD j (0, ByteArray.empty)) = Z
              have hZj : ∀ j, cs.getD j (0, ByteArray.empty) = Z j := fun j => by rw [← hZZ]
              simp only [hZj] at hx1 hx2
              have HX1 := Lib.hid hx1
              have HX2 := Lib.hid hx2
              clear ho hb hx1 hx2 HV1 hcl hZZ hZj
              go_wp2_with fail
              go_loopw [18] (fun i wy => ∃ t : Nat, t ≤ cl ∧ i = .int .i64 t ∧ Below z2.heap.size z2 wy) (fun i _ => cl - (intOf i).toNat)
              case atStart => exact ⟨0, Nat.zero_le _, rfl, Below.refl _ _⟩
              case round =>
                obtain ⟨t, ht, rfl, hb⟩ := hrel
                have HBT := Lib.hid hb
                by_cases htc : t < cl
                · obtain ⟨g1, o1, rfl, y1, y2⟩ := HX1.out t htc
                  obtain ⟨g2, o2, rfl, y3, y4⟩ := HX2.out t htc
                  replace y1 := cell_later hb y1
                  replace y2 := cell_later hb y2
                  replace y3 := cell_later hb y3
                  replace y4 := cell_later hb y4
                  have l1 : (t : Int) < (cl : Int) := by omega
                  have l2 : (t : Int) < 8 := by have := HLE.out; omega
                  have l0 : (0 : Int) ≤ (t : Int) := by omega
                  have HTC := Lib.hid htc
                  generalize Z t = zt at *
                  obtain ⟨zi, zs⟩ := zt
                  dsimp only at y1 y2 y3 y4
                  have hne := run_neq_same zi zs
                  clear hb ht htc
                  go_wp2_with fail
                  go_quiet (fail)
                  have HB1 := Lib.hid (below_drewN HBT.out nq)
                  go_wp2
                  clear l0 l1 l2
                  exact ⟨⟨t + 1, HTC.out, rfl, HB1.out⟩, meas_succ HTC.out⟩
                · obtain rfl : t = cl := by omega
                  have l1 : ¬ ((t : Int) < (t : Int)) := by omega
                  have HZ3 := Lib.hid (HZ2.out.keep hb)
                  clear hb ht htc
                  go_wp2
                  clear l1 j1 j2
                  exact ⟨⟨q + 1, HQS.out, rfl, HZ3.out⟩, meas_succ HQS.out⟩
            · obtain rfl : q = s := by omega
              have j1 : ¬ ((q : Int) < (q : Int)) := by omega
              clear hq hqs
              go_wp2_with fail
              refine (guid_any 2 99 _).mono ?_
              rintro e z1 ⟨rfl, hb⟩
              have HZ1 := Lib.hid (HZ.out.keep hb)
              clear hb
              go_wp2_with fail
              have hc := hp_snap HZ1.out (2, 99) ⟨rfl, rfl⟩
              rw [H99.out] at hc
              refine hc.mono ?_
              clear hc
              rintro e z2 ⟨rfl, hp, -⟩
              have HF := Lib.hid hp.below
              clear hp
              go_wp2
              go_ret
              exact ⟨rfl, HF.out⟩
end Go.Proofs.Ytjeebpklinpmfaa
