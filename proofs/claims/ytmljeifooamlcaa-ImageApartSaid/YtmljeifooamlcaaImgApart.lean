/-
  ImageApart, WALKED.
-/
import Derived.Test.YtmljeifooamlcaaImgApartP
namespace Go.Proofs.Ytmljeifooamlcaa
open Go.RowKit Reg

theorem apart_next {wr : World} {base : Nat} {u a v' : Value} {xs : List Int} (hu : OwI wr base u xs) (hap : u.ownBlock = none ∨ u.ownBlock ≠ a.ownBlock)
    (h : v'.ownBlock = a.ownBlock ∨ ∃ g, v'.ownBlock = some g ∧ wr.heap.size ≤ g) : u.ownBlock = none ∨ u.ownBlock ≠ v'.ownBlock := by
  rcases hap with h1 | h1
  · exact .inl h1
  · rcases h with h2 | ⟨g, h2, h3⟩
    · exact .inr (h2 ▸ h1)
    · refine .inr fun e => ?_
      have := (hu.1.lt g (e.trans h2)).2
      omega
theorem has_lit (v : Value) (zs : List Int) (n : Int) (b : Bool) (w : World) (hv : InI w v zs) (h : decide (n ∈ zs) = b) :
    Calls Try.prog 19 #[v, .int .i64 n] w fun e w' => e = .returned (.bool b) ∧ Below w.heap.size w w' := h ▸ has_any v zs n w hv
set_option maxRecDepth 100000 in
set_option maxHeartbeats 2000000 in
theorem law_ImageApart (v : Value) (l : List Int) (v' : Value) (l' : List Int) (v'' : Value) (l'' : List Int) (w : World)
    (hl : RdIn w v l.length (l.map (.int .i64))) (hm : l.length ≤ maxLen) (hn : ∀ x ∈ l, (Lit.int .i64 x).wf = true)
    (hl' : RdIn w v' l'.length (l'.map (.int .i64))) (hm' : l'.length ≤ maxLen) (hn' : ∀ x ∈ l', (Lit.int .i64 x).wf = true)
    (hl'' : RdIn w v'' l''.length (l''.map (.int .i64))) (hm'' : l''.length ≤ maxLen) (hn'' : ∀ x ∈ l'', (Lit.int .i64 x).wf = true) :
    Calls Try.prog 6 #[v, v', v''] w fun e w' => e = .returned (.bool true) ∧ Below w.heap.size w w' := by
  have hown := own_any v l w ⟨hl, hm, hn⟩
  have hv' : InI w v' l' := ⟨hl', hm', hn'⟩
  have hv'' : InI w v'' l'' := ⟨hl'', hm'', hn''⟩
  have HOWN := Lib.hid hown
  have HV' := Lib.hid hv'
  have HV'' := Lib.hid hv''
  have s1 : Hid ((l.take 60).length ≤ 60) := Lib.hid (by rw [List.length_take]; omega)
  have s2 : Hid ((l'.take 60).length ≤ 60) := Lib.hid (by rw [List.length_take]; omega)
  have s3 : Hid ((l''.take 60).length ≤ 60) := Lib.hid (by rw [List.length_take]; omega)
  clear hown hl hm hn hl' hm' hn' hv' hl'' hm'' hn'' hv''
  go_enter Try.func6, Try.ntmps6
  go_wp2_with fail
  refine HOWN.out.mono ?_
  rintro e w1 ⟨u, rfl, ho, hb⟩
  have HA := Lib.hid ho
  have HB := Lib.hid hb
  clear ho hb HOWN
  go_wp2_with fail
  refine (own_any _ _ _ (HV'.out.keep HB.out)).mono ?_
  rintro e w2 ⟨u', rfl, ho, hb⟩
  have HBB := Lib.hid ho
  have HB2 := Lib.hid (HB.out.trans (hb.mono HB.out.size))
  have HA2 := Lib.hid (HA.out.keep hb)
  have hap : ∀ k, u.ownBlock = some k → k < w1.heap.size := fun k hk => (HA.out.1.lt k hk).2
  have hap2 : ∀ k, u'.ownBlock = some k → w1.heap.size ≤ k := fun k hk => (ho.1.lt k hk).1
  have hab : u'.ownBlock = none ∨ u'.ownBlock ≠ u.ownBlock := by
    cases h : u'.ownBlock with
    | none => exact .inl rfl
    | some k => exact .inr fun e => by have h1 := hap k e.symm; have h2 := hap2 k h; omega
  have HAB := Lib.hid hab
  have hsz2 : Hid (w1.heap.size ≤ w2.heap.size) := Lib.hid hb.size
  have HAP := Lib.hid hap
  clear ho hb HB HV' hap hap2 hab
  go_wp2_with fail
  refine (own_any _ _ _ (HV''.out.keep HB2.out)).mono ?_
  rintro e w3 ⟨u'', rfl, ho, hb⟩
  have HC := Lib.hid ho
  have HB3 := Lib.hid (HB2.out.trans (hb.mono HB2.out.size))
  have HA3 := Lib.hid (HA2.out.keep hb)
  have HBB3 := Lib.hid (HBB.out.keep hb)
  have hap2 : ∀ k, u''.ownBlock = some k → w2.heap.size ≤ k := fun k hk => (ho.1.lt k hk).1
  have hac : u''.ownBlock = none ∨ u''.ownBlock ≠ u.ownBlock := by
    cases h : u''.ownBlock with
    | none => exact .inl rfl
    | some k => exact .inr fun e => by have h1 := HAP.out k e.symm; have h2 := hap2 k h; have := hsz2.out; omega
  have HAC := Lib.hid hac
  clear ho hb HB2 HA HA2 HBB HV'' hap2 hac HAP hsz2
  generalize List.take 60 l = A0 at *
  generalize List.take 60 l' = B at *
  generalize List.take 60 l'' = C at *
  obtain ⟨ab, cb, rfl, -, hxb⟩ := HBB3.out.rd.open_
  have HXB := Lib.hid hxb
  obtain ⟨nb, hnb⟩ : ∃ nb, nb = B.length := ⟨_, rfl⟩
  rw [← hnb]
  have HNB := Lib.hid hnb
  clear hxb hnb
  have HBB4 : Hid (OwI w3 w1.heap.size (.slice ab nb cb) B) := Lib.hid (by rw [HNB.out]; exact HBB3.out)
  have HAB4 : Hid ((Value.slice ab nb cb).ownBlock = none ∨ (Value.slice ab nb cb).ownBlock ≠ u.ownBlock) := Lib.hid (by rw [HNB.out]; exact HAB.out)
  clear HBB3 HAB
  go_wp2_with fail
  go_loopw [0] (fun a wr => ∃ (X : List Int), X.length ≤ 60 ∧ OwI wr w.heap.size a X ∧ OwI wr w1.heap.size (.slice ab nb cb) B ∧ OwI wr w2.heap.size u'' C ∧ ((Value.slice ab nb cb).ownBlock = none ∨ (Value.slice ab nb cb).ownBlock ≠ a.ownBlock) ∧
      (u''.ownBlock = none ∨ u''.ownBlock ≠ a.ownBlock) ∧ Below w.heap.size w wr ∧ (∃ c, ∃ p, a = .slice p X.length c)) (fun a _ => 60 - (match a with | .slice _ n _ => n | _ => 0))
  case atStart =>
    obtain ⟨p, c, h, -, -⟩ := HA3.out.rd.open_
    exact ⟨A0, s1.out, HA3.out, HBB4.out, HC.out, HAB4.out, HAC.out, HB3.out, c, p, h⟩
  case round =>
    clear HA3 HBB4 HC HAB4 HAC HB3
    obtain ⟨X, hX, ha, hbb, hc, hab, hac, hb, c, p, rfl⟩ := hrel
    have HA := Lib.hid ha
    have HBB := Lib.hid hbb
    have HC := Lib.hid hc
    have HAB := Lib.hid hab
    have HAC := Lib.hid hac
    have HB := Lib.hid hb
    have s2' := s2.out
    have nb' := HNB.out
    by_cases hlt : X.length < nb
    · have i1 : (X.length : Int) < (nb : Int) := by omega
      have hA := app_int 22 0 HA.out (by decide) (by omega) HB.out.size
      have HAP := Lib.hid hA
      have hX60 : X.length + 1 ≤ 60 := by omega
      clear hA ha hbb hc hab hac hb s2' nb'
      obtain ⟨nx, hnx⟩ : ∃ nx, nx = X.length := ⟨_, rfl⟩
      rw [← hnx] at HAP i1 hX60 hlt HAB HAC
      rw [← hnx]
      have HNX := Lib.hid hnx
      clear hnx
      go_wp2_with (at_builtin; refine wpList_append_run rfl _ _ 22 rfl _ _ rfl rfl _ HAP.out ?_)
      refine Later.mk fun _ _ v1 w4 hp => ?_
      have ho' : OwI wr w.heap.size (.slice p nx c) X := by rw [HNX.out]; exact HA.out
      have HB1 := Lib.hid (HB.out.trans (hp.below ho' HB.out.size))
      have HA1 := Lib.hid hp.1
      have HBB1 := Lib.hid (HBB.out.grown hp.2.1 HAB.out)
      have HC1 := Lib.hid (HC.out.grown hp.2.1 HAC.out)
      have HAB1 := Lib.hid (apart_next HBB.out HAB.out hp.2.2)
      have HAC1 := Lib.hid (apart_next HC.out HAC.out hp.2.2)
      obtain ⟨p1, c1, h1, -, -⟩ := hp.1.rd.open_
      have H1 := Lib.hid h1
      clear hp HAP h1 ho'
      go_wp2
      have hl1 : (X ++ [0]).length = nx + 1 := by rw [List.length_append, ← HNX.out]; rfl
      refine ⟨⟨X ++ [0], by omega, HA1.out, HBB1.out, HC1.out, HAB1.out, HAC1.out, HB1.out, c1, p1, H1.out⟩, ?_⟩
      rw [H1.out, hl1]
      simp
      omega
    · have i1 : (nb : Int) ≤ (X.length : Int) := by omega
      have sX : Hid (X.length ≤ 1000) := Lib.hid (by omega)
      have sB : Hid (B.length ≤ 1000) := Lib.hid (by omega)
      have sC : Hid (C.length ≤ 1000) := Lib.hid (by have := s3.out; omega)
      have hle : Hid (B.length ≤ X.length ∧ X.length ≤ 60) := Lib.hid (by omega)
      have HBI : Hid (InI wr (.slice ab nb cb) B) := Lib.hid HBB.out.rd
      have HCI := Lib.hid HC.out.rd
      have HA0 := HA
      clear HA
      have HA := Lib.hid HA0.out.rd
      clear ha hbb hc hab hac hb s2' nb' HA0 HBB HC HAB HAC hlt hX s1 s2 s3
      go_wp2_with fail
      refine (diff_any _ _ X B _ HA.out HBI.out sX.out sB.out).mono ?_
      rintro e w4 ⟨D1, rfl, ho, hb⟩
      have HW4 := Lib.hid (HB.out.trans (hb.mono HB.out.size))
      have HA4 := Lib.hid (HA.out.keep hb)
      have HB4 := Lib.hid (HBI.out.keep hb)
      have HC4 := Lib.hid (HCI.out.keep hb)
      have HD4 := Lib.hid ho.rd
      clear hb ho HB HA HBI HCI
      go_wp2_with fail
      refine (diff_any _ _ B C _ HB4.out HC4.out sB.out sC.out).mono ?_
      rintro e w5 ⟨D2, rfl, ho, hb⟩
      have HW5 := Lib.hid (HW4.out.trans (hb.mono HW4.out.size))
      have HA5 := Lib.hid (HA4.out.keep hb)
      have HB5 := Lib.hid (HB4.out.keep hb)
      have HC5 := Lib.hid (HC4.out.keep hb)
      have HD5 := Lib.hid (HD4.out.keep hb)
      have HE5 := Lib.hid ho.rd
      clear hb ho HW4 HA4 HB4 HC4 HD4
      go_wp2_with fail
      refine (diff_any _ _ X C _ HA5.out HC5.out sX.out sC.out).mono ?_
      rintro e w6 ⟨D3, rfl, ho, hb⟩
      have HW6 := Lib.hid (HW5.out.trans (hb.mono HW5.out.size))
      have HA6 := Lib.hid (HA5.out.keep hb)
      have HB6 := Lib.hid (HB5.out.keep hb)
      have HD6 := Lib.hid (HD5.out.keep hb)
      have HE6 := Lib.hid (HE5.out.keep hb)
      have HF6 := Lib.hid ho.rd
      clear hb ho HW5 HA5 HB5 HC5 HD5 HE5
      go_wp2_with fail
      refine (diff_lit _ _ B X (diffOf X B) _ HB6.out HA6.out sB.out sX.out (diffOf_comm X B)).mono ?_
      rintro e w7 ⟨D4, rfl, ho, hb⟩
      have HW7 := Lib.hid (HW6.out.trans (hb.mono HW6.out.size))
      have HA7 := Lib.hid (HA6.out.keep hb)
      have HB7 := Lib.hid (HB6.out.keep hb)
      have HD7 := Lib.hid (HD6.out.keep hb)
      have HE7 := Lib.hid (HE6.out.keep hb)
      have HF7 := Lib.hid (HF6.out.keep hb)
      have HG7 := Lib.hid ho.rd
      clear hb ho HW6 HA6 HB6 HD6 HE6 HF6
      go_wp2_with fail
      refine (is_lit _ _ _ _ true _ HG7.out HD7.out (decide_eq_true rfl)).mono ?_
      rintro e w8 ⟨rfl, hb⟩
      have HW8 := Lib.hid (HW7.out.trans (hb.mono HW7.out.size))
      have HA8 := Lib.hid (HA7.out.keep hb)
      have HB8 := Lib.hid (HB7.out.keep hb)
      have HD8 := Lib.hid (HD7.out.keep hb)
      have HE8 := Lib.hid (HE7.out.keep hb)
      have HF8 := Lib.hid (HF7.out.keep hb)
      clear hb HW7 HA7 HB7 HD7 HE7 HF7 HG7
      go_wp2_with fail
      refine (diff_lit _ _ X X [] _ HA8.out HA8.out sX.out sX.out (diffOf_self X)).mono ?_
      rintro e w9 ⟨D5, rfl, ho, hb⟩
      have HW9 := Lib.hid (HW8.out.trans (hb.mono HW8.out.size))
      have HA9 := Lib.hid (HA8.out.keep hb)
      have HB9 := Lib.hid (HB8.out.keep hb)
      have HD9 := Lib.hid (HD8.out.keep hb)
      have HE9 := Lib.hid (HE8.out.keep hb)
      have HF9 := Lib.hid (HF8.out.keep hb)
      have HG9 := Lib.hid ho.rd
      clear hb ho HW8 HA8 HB8 HD8 HE8 HF8
      obtain ⟨g, cg, rfl, -, -⟩ := HG9.out.open_
      obtain ⟨p1, c1, rfl, -, -⟩ := HD9.out.open_
      obtain ⟨p3, c3, rfl, -, -⟩ := HF9.out.open_
      clear HG9 HXB
      have hth : ∀ z, z ∈ diffOf X C → ¬ z ∈ diffOf X B → z ∈ diffOf B C := fun z h h1 => diffOf_third h h1
      have hd60 : (diffOf X B).length ≤ 60 := by have := diffOf_length X B; have := hle.out; omega
      have hf60 : (diffOf X C).length ≤ 2000 := by have := diffOf_length X C; have h1 := sX.out; have h2 := sC.out; omega
      have HTH := Lib.hid hth
      generalize diffOf X C = FL at *
      generalize diffOf B C = EL at *
      generalize hDL : diffOf X B = DL at *
      generalize hnf : FL.length = nf at *
      generalize hnd : DL.length = nd at *
      generalize hm : X.length = m at *
      have HDL := Lib.hid hDL
      have HNF := Lib.hid hnf
      have HND := Lib.hid hnd
      have HM := Lib.hid hm
      have k1 : (nf : Int) ≤ 2000 := by omega
      have k2 : (nd : Int) ≤ 60 := by omega
      clear hth hDL hnf hnd hm hd60 hf60
      go_wp2_with fail
      go_loopw [10] (fun x wr => ∃ k : Nat, k ≤ nf ∧ x = .int .i64 k ∧ Below w9.heap.size w9 wr) (fun x _ => nf - (intOf x).toNat)
      case atStart => exact ⟨0, Nat.zero_le _, rfl, Below.refl _ _⟩
      case round =>
        obtain ⟨k, hk, rfl, hb⟩ := hrel
        have HB10 := Lib.hid hb
        have hd10 := HD9.out.keep hb
        have HE10 := Lib.hid (HE9.out.keep hb)
        obtain ⟨p3', c3', h3, -, hx3⟩ := (HF9.out.keep hb).open_
        obtain ⟨p1', c1', h1, -, hx1⟩ := hd10.open_
        rw [Value.slice.injEq] at h3 h1
        obtain ⟨rfl, -, rfl⟩ := h3
        obtain ⟨rfl, -, rfl⟩ := h1
        have HD10 := Lib.hid hd10
        have HX3 := Lib.hid hx3
        have HX1 := Lib.hid hx1
        clear hb hd10 hx3 hx1
        by_cases hkn : k < nf
        · have i3 : (k : Int) < (nf : Int) := by omega
          obtain ⟨g3, o3, rfl, hc3⟩ := HX3.out k (by rw [HNF.out]; exact hkn)
          have hmem : FL.getD k 0 ∈ FL := by simp [HNF.out ▸ hkn]
          have HMEM := Lib.hid hmem
          clear hmem
          generalize FL.getD k 0 = z at *
          by_cases hz : z ∈ DL
          · go_wp2_with fail
            refine (has_lit _ DL z true _ HD10.out (decide_eq_true hz)).mono ?_
            rintro e w11 ⟨rfl, hb⟩
            have HB11 := Lib.hid (HB10.out.trans (hb.mono HB10.out.size))
            clear hb HB10 hz
            go_wp2
            refine ⟨⟨k + 1, by omega, by go_num, HB11.out⟩, by simp [intOf]; omega⟩
          · go_wp2_with fail
            refine (has_lit _ DL z false _ HD10.out (decide_eq_false hz)).mono ?_
            rintro e w11 ⟨rfl, hb⟩
            have HB11 := Lib.hid (HB10.out.trans (hb.mono HB10.out.size))
            have HE11 := Lib.hid (HE10.out.keep hb)
            have hc3' := cell_later hb hc3
            clear hb HB10 hc3 HE10
            go_wp2_with fail
            refine (has_lit _ EL z true _ HE11.out (decide_eq_true (HTH.out z HMEM.out hz))).mono ?_
            rintro e w12 ⟨rfl, hb⟩
            have HB12 := Lib.hid (HB11.out.trans (hb.mono HB11.out.size))
            clear hb HB11 hz
            go_wp2
            refine ⟨⟨k + 1, by omega, by go_num, HB12.out⟩, by simp [intOf]; omega⟩
        · have i3 : (nf : Int) ≤ (k : Int) := by omega
          have HY := Lib.hid (HA9.out.keep HB10.out)
          have HBY := Lib.hid (HB9.out.keep HB10.out)
          have HWY := Lib.hid (HW9.out.trans (HB10.out.mono HW9.out.size))
          clear HB10 HE10 HX3 HX1 HA9 HB9 HD9 HE9 HF9 HW9
          go_wp2_with fail
          go_loopw [0, 11] (fun a x wr3 => ∃ (k : Nat) (Y : List Int), k ≤ nd ∧ x = .int .i64 k ∧ InI wr3 a Y ∧ Y.length = m ∧ diffOf Y B = DL.drop k ∧ Below wr.heap.size wr wr3) (fun _ x _ => nd - (intOf x).toNat)
          case atStart => exact ⟨0, X, Nat.zero_le _, rfl, HY.out, HM.out, HDL.out, Below.refl _ _⟩
          case round =>
            clear HY
            rename_i wr3
            obtain ⟨k, Y, hk, rfl, hy, hym, hdf, hb⟩ := hrel
            have HB12 := Lib.hid hb
            have HYY := Lib.hid hy
            have HYM := Lib.hid hym
            have hbb := HBY.out.keep hb
            obtain ⟨pb', cb', hv1, -, hxb⟩ := hbb.open_
            obtain ⟨p1', c1', h1, -, hx1⟩ := (HD10.out.keep hb).open_
            rw [Value.slice.injEq] at hv1 h1
            obtain ⟨rfl, -, rfl⟩ := hv1
            obtain ⟨rfl, -, rfl⟩ := h1
            have HBB := Lib.hid hbb
            by_cases hkn : k < nd
            · have i3 : (k : Int) < (nd : Int) := by omega
              have hdr := drop_at DL k (by rw [HND.out]; exact hkn)
              have hdf2 := hdf
              rw [hdr] at hdf2
              obtain ⟨j, hz, hj⟩ := diffOf_head (by have := hle.out; omega) hdf2
              obtain ⟨g1, o1, rfl, hc1⟩ := hx1 k (by rw [HND.out]; exact hkn)
              rw [hz] at hdf2 hc1
              have hnext := diffOf_step hj hdf2
              have hsw := hbb.wf j
              have j60 : (j : Int) < 1000 := by have := sX.out; omega
              have hxj := hxb j
              have hout := getD_out B j
              generalize B.getD j 0 = s at *
              have HNEXT := Lib.hid hnext
              have HSW := Lib.hid hsw
              clear hdr hdf hdf2 hz hnext hsw hx1 hxb hy hym hb hbb
              by_cases hjb : j < nb
              · have i4 : (j : Int) < (nb : Int) := by omega
                obtain ⟨gb, ob, rfl, hcb⟩ := hxj (by rw [← HNB.out]; exact hjb)
                clear hxj hout hjb
                rcases Int.lt_or_le s 0 with i5 | i5
                · clear HYY HBB HNEXT
                  go_wp2_with fail
                  refine (works_any _).mono ?_
                  rintro e w13 ⟨rfl, hb⟩
                  have HB13 := Lib.hid (HB12.out.trans (hb.mono HB12.out.size))
                  clear hb HB12
                  go_wp2
                  go_ret
                  exact ⟨rfl, (HWY.out.trans (HB13.out.mono HWY.out.size))⟩
                · go_wp2_with fail
                  have hs0 : 0 ≤ s := by omega
                  refine (with_ok _ Y j s _ HYY.out hj hs0 HSW.out (by have := HYM.out; have := sX.out; omega)).mono ?_
                  rintro e w13 ⟨N, rfl, ho, hb⟩
                  have HB13 := Lib.hid (HB12.out.trans (hb.mono HB12.out.size))
                  have HN13 := Lib.hid ho.rd
                  have HBB13 := Lib.hid (HBB.out.keep hb)
                  clear ho hb HB12 HBB hs0
                  go_wp2_with fail
                  refine (diff_lit _ _ (Y.set j s) B (DL.drop (k + 1)) _ HN13.out HBB13.out (by rw [List.length_set]; have := HYM.out; have := sX.out; omega) sB.out HNEXT.out).mono ?_
                  rintro e w14 ⟨G2, rfl, ho, hb⟩
                  have HB14 := Lib.hid (HB13.out.trans (hb.mono HB13.out.size))
                  have HN14 := Lib.hid (HN13.out.keep hb)
                  obtain ⟨g2, c2, rfl, -, -⟩ := ho.rd.open_
                  obtain ⟨q, hq⟩ : ∃ q, q = (DL.drop (k + 1)).length := ⟨_, rfl⟩
                  rw [← hq]
                  have hq2 : (q : Int) = (nd : Int) - (k : Int) - 1 := by rw [hq, List.length_drop, HND.out]; omega
                  clear ho hb HB13 HN13 HBB13 hq
                  go_wp2
                  refine ⟨⟨k + 1, Y.set j s, by omega, by go_num, HN14.out, by rw [List.length_set]; exact HYM.out, HNEXT.out, HB14.out⟩, by simp [intOf]; omega⟩
              · have i4 : (nb : Int) ≤ (j : Int) := by omega
                have hs : s = 0 := hout (by rw [← HNB.out]; omega)
                clear hxj hout hjb
                subst hs
                go_wp2_with fail
                have hs0 : (0 : Int) ≤ 0 := by omega
                refine (with_ok _ Y j 0 _ HYY.out hj hs0 HSW.out (by have := HYM.out; have := sX.out; omega)).mono ?_
                rintro e w13 ⟨N, rfl, ho, hb⟩
                have HB13 := Lib.hid (HB12.out.trans (hb.mono HB12.out.size))
                have HN13 := Lib.hid ho.rd
                have HBB13 := Lib.hid (HBB.out.keep hb)
                clear ho hb HB12 HBB hs0
                go_wp2_with fail
                refine (diff_lit _ _ (Y.set j 0) B (DL.drop (k + 1)) _ HN13.out HBB13.out (by rw [List.length_set]; have := HYM.out; have := sX.out; omega) sB.out HNEXT.out).mono ?_
                rintro e w14 ⟨G2, rfl, ho, hb⟩
                have HB14 := Lib.hid (HB13.out.trans (hb.mono HB13.out.size))
                have HN14 := Lib.hid (HN13.out.keep hb)
                obtain ⟨g2, c2, rfl, -, -⟩ := ho.rd.open_
                obtain ⟨q, hq⟩ : ∃ q, q = (DL.drop (k + 1)).length := ⟨_, rfl⟩
                rw [← hq]
                have hq2 : (q : Int) = (nd : Int) - (k : Int) - 1 := by rw [hq, List.length_drop, HND.out]; omega
                clear ho hb HB13 HN13 HBB13 hq
                go_wp2
                refine ⟨⟨k + 1, Y.set j 0, by omega, by go_num, HN14.out, by rw [List.length_set]; exact HYM.out, HNEXT.out, HB14.out⟩, by simp [intOf]; omega⟩
            · have i3 : (nd : Int) ≤ (k : Int) := by omega
              clear hx1 hxb hy hym hb hbb hdf HBB HYY
              go_wp2_with fail
              refine (works_any _).mono ?_
              rintro e w13 ⟨rfl, hb⟩
              have HB13 := Lib.hid (HB12.out.trans (hb.mono HB12.out.size))
              clear hb HB12
              go_wp2
              go_ret
              exact ⟨rfl, (HWY.out.trans (HB13.out.mono HWY.out.size))⟩
end Go.Proofs.Ytmljeifooamlcaa
