/-
  WireOne, WALKED.
-/
import Derived.Test.YtephbgkaoanjjaaWireLaws
namespace Go.Proofs.Ytephbgkaoanjjaa
open Go.RowKit Reg

theorem whole_num (X : ByteArray) (h : endB (Wire.num (some X.data.toList)).2 = true) : (Wire.num (some X.data.toList)).1 < 256 ^ 8 ∧ strOf (ByteArray.empty.data.toList ++ Wire.putNum (Wire.num (some X.data.toList)).1) = X := by
  unfold endB at h
  obtain ⟨h1, h2⟩ := Wire.num_whole _ (of_decide_eq_true h)
  refine ⟨h2, ?_⟩
  rw [h1]
  exact strOf_data X
theorem whole_text (X : ByteArray) (hX : X.size ≤ 300) (h : endB (Wire.text (some X.data.toList)).2 = true) : (strOf (Wire.text (some X.data.toList)).1).size ≤ 1000 ∧ strOf (ByteArray.empty.data.toList ++ Wire.putText (strOf (Wire.text (some X.data.toList)).1).data.toList) = X := by
  unfold endB at h
  have h1 := Wire.text_whole _ (of_decide_eq_true h)
  constructor
  · rw [size_strOf]
    have h2 := congrArg List.length h1
    rw [len_data] at h2
    unfold Wire.putText at h2
    simp at h2
    omega
  · rw [strOf_list, h1]
    exact strOf_data X
/-- another reader has been read -/
theorem Rdr.far2 {w w' : World} {r r' : Nat} {st : Wire.St} {l' : List UInt8} (h : Rdr w r st) (hr : Rdr w r' (some l')) (hg : w.grownBy w' (some r')) (hne : r ≠ r') : Rdr w' r st := by
  cases st with
  | none => obtain ⟨v, b⟩ := h; exact ⟨v, (hg.block r b.lt (by simpa using hne)).trans b⟩
  | some l =>
    obtain ⟨g, off, c, b, h1, h2, h3, hx⟩ := h
    refine ⟨g, off, c, (hg.block r b.lt (by simpa using hne)).trans b, h1, h2, h3, fun j u hu => ?_⟩
    have hc := hx j u hu
    have hgr : g ≠ r' := by
      intro e
      subst e
      have hj : ∃ x : UInt8, u = vb x := by
        rw [List.getElem?_map] at hu
        cases hq : l[j]? with
        | none => rw [hq] at hu; cases hu
        | some x => rw [hq] at hu; exact ⟨x, (Option.some.inj hu).symm⟩
      obtain ⟨x, rfl⟩ := hj
      have hb : ∃ v z t, Blk w g t #[v, .bool z] ∧ ∀ y : UInt8, v ≠ vb y := by
        obtain ⟨_, _, _, b', _⟩ := hr
        exact ⟨_, _, _, b', fun y hy => by simp [vb] at hy⟩
      obtain ⟨v, z, t, b', hv⟩ := hb
      rw [b'.cell] at hc
      match off + j, hc with
      | 0, hc => exact hv _ (by simpa using hc)
      | 1, hc => simp [vb] at hc
      | n + 2, hc => simp at hc
    rw [World.cell?_of_block (w := w)]
    · exact hc
    · refine hg.block g ?_ (by simpa using hgr)
      rcases Nat.lt_or_ge g w.heap.size with q | q
      · exact q
      · simp [World.cell?, Array.getElem?_eq_none q] at hc
theorem grown_read {r : Nat} {w0 w w1 w2 : World} (h : Below w0.heap.size w0 w) (hb : Below w.heap.size w w1) (hr : w.heap.size ≤ r) (hg : w1.grownBy w2 (some r)) : Below w0.heap.size w0 w2 :=
  below_read (h.trans (hb.mono h.size)) hg (Nat.le_trans h.size hr) (Nat.le_refl _)

theorem cut_text (s : ByteArray) (m : Nat) : ∃ X : ByteArray, X.size ≤ m ∧ (((m : Int) < (s.size : Int) ∧ s.extract 0 m = X) ∨ ((s.size : Int) ≤ (m : Int) ∧ X = s)) := by
  rcases cut_cases s m with ⟨h1, h2⟩ | ⟨h1, h2⟩
  · exact ⟨_, h2, .inl ⟨h1, rfl⟩⟩
  · exact ⟨_, h2, .inr ⟨h1, rfl⟩⟩
set_option maxHeartbeats 4000000 in
theorem law_WireOne (s : ByteArray) (n : Int) (w : World) (_ : s.size ≤ reachBytes) (hn : (Lit.int .u64 n).wf = true) :
    Calls Try.prog 6 #[.string s, .int .u64 n] w fun e w' => e = .returned (.bool true) ∧ Below w.heap.size w w' := by
  obtain ⟨m, rfl, hm⟩ := wf_u64 hn
  have HM := Lib.hid hm
  clear hn hm
  rcases cut_text s 300 with ⟨X, hs2, ⟨hs1, hX⟩ | ⟨hs1, rfl⟩⟩
  all_goals
    have HS := Lib.hid hs2
    clear hs2
    go_enter Try.func6, Try.ntmps6
    go_wp2_with fail
    refine (newReader_any X w (Nat.le_trans HS.out (by decide))).mono ?_
    rintro e w1 ⟨r, rfl, hr, hrd, hb⟩
    have HB1 := Lib.hid hb
    have HR := Lib.hid hr
    have HRD := Lib.hid hrd
    clear hb hr hrd
    go_wp2_with fail
    refine (newReader_any X w1 (Nat.le_trans HS.out (by decide))).mono ?_
    rintro e w2 ⟨q, rfl, hr, hrd, hb⟩
    have HQ := Lib.hid (Nat.le_trans HB1.out.size hr)
    have HQD := Lib.hid hrd
    have hne : r ≠ q := by have := HRD.out.lt; omega
    have HNE := Lib.hid hne
    have HRD2 := Lib.hid (HRD.out.keep hb)
    have HB2 := Lib.hid (HB1.out.trans (hb.mono HB1.out.size))
    clear hb hr hrd hne HRD HB1
    have hc1 := num_any r _ w2 HRD2.out
    have hw1 := whole_num X
    have hw2 := whole_text X HS.out
    have HW1 := Lib.hid hw1
    have HW2 := Lib.hid hw2
    clear hw1 hw2
    go_wp2_with fail
    refine hc1.mono ?_
    rintro e w3 ⟨rfl, h1, h2⟩
    have HRD3 := Lib.hid h1
    have HQD3 := Lib.hid (HQD.out.far2 HRD2.out h2 (Ne.symm HNE.out))
    have HB3 := Lib.hid (below_read HB2.out h2 HR.out (Nat.le_refl _))
    clear h1 h2 hc1 HRD2 HQD HB2
    go_wp2_with fail
    refine (end_any r _ w3 HRD3.out).mono ?_
    rintro e w4 ⟨rfl, rfl⟩
    have hbo : endB (Wire.num (some X.data.toList)).2 = false ∨ endB (Wire.num (some X.data.toList)).2 = true := by cases endB (Wire.num (some X.data.toList)).2 <;> simp
    have hbt : endB (Wire.text (some X.data.toList)).2 = false ∨ endB (Wire.text (some X.data.toList)).2 = true := by cases endB (Wire.text (some X.data.toList)).2 <;> simp
    have HBT := Lib.hid hbt
    clear hbt
    rcases hbo with hbo | hbo
    focus
      rw [hbo]
      clear HW1 hbo HRD3
      go_wp2_with fail
      refine (text_any q _ w3 HQD3.out).mono ?_
      rintro e w5 ⟨rfl, h1, h2⟩
      have HQD5 := Lib.hid h1
      have HB5 := Lib.hid (below_read HB3.out h2 HQ.out (Nat.le_refl _))
      clear h1 h2 HQD3 HB3
    rotate_left
    focus
      obtain ⟨g1, g2⟩ := HW1.out hbo
      rw [hbo]
      have G1 := Lib.hid g1
      have G2 := Lib.hid g2
      clear HW1 hbo HRD3 g1 g2
      generalize (Wire.num (some X.data.toList)).1 = a at *
      go_wp2_with fail
      refine (putNum_lit _ X a w3 G1.out (by decide) G2.out).mono ?_
      rintro e w4 ⟨rfl, hb⟩
      have HQD4 := Lib.hid (HQD3.out.keep hb)
      have HB4 := Lib.hid (HB3.out.trans (hb.mono HB3.out.size))
      clear hb HQD3 HB3
      go_wp2_with fail
      refine (text_any q _ w4 HQD4.out).mono ?_
      rintro e w5 ⟨rfl, h1, h2⟩
      have HQD5 := Lib.hid h1
      have HB5 := Lib.hid (below_read HB4.out h2 HQ.out (Nat.le_refl _))
      clear h1 h2 HQD4 HB4
    all_goals
      go_wp2_with fail
      refine (end_any q _ w5 HQD5.out).mono ?_
      rintro e w6 ⟨rfl, rfl⟩
      have hbt := HBT.out
      clear HBT
      rcases hbt with hbt | hbt
      focus
        rw [hbt]
        clear HW2 hbt HQD5
        go_wp2_with fail
        refine (putNum_any _ m w5 HM.out (max_of _ _ (by decide : _ ≤ 1000) (by decide))).mono ?_
        rintro e w7 ⟨rfl, hb⟩
        have HB7 := Lib.hid (HB5.out.trans (hb.mono HB5.out.size))
        clear hb HB5
      rotate_left
      focus
        obtain ⟨g1, g2⟩ := HW2.out hbt
        rw [hbt]
        have G1 := Lib.hid g1
        have G2 := Lib.hid g2
        clear HW2 hbt HQD5 g1 g2
        generalize strOf (Wire.text (some X.data.toList)).1 = a at *
        go_wp2_with fail
        refine (putText_lit _ a X w5 (by decide) G1.out G2.out).mono ?_
        rintro e w6 ⟨rfl, hb⟩
        have HB6 := Lib.hid (HB5.out.trans (hb.mono HB5.out.size))
        clear hb HB5
        go_wp2_with fail
        refine (putNum_any _ m w6 HM.out (max_of _ _ (by decide : _ ≤ 1000) (by decide))).mono ?_
        rintro e w7 ⟨rfl, hb⟩
        have HB7 := Lib.hid (HB6.out.trans (hb.mono HB6.out.size))
        clear hb HB6
    all_goals
      have hBL : (strOf (({ data := #[] } : ByteArray).data.toList ++ Wire.putNum m)).data.toList = Wire.putNum m := by rw [strOf_list]; rfl
      have hBS : (strOf (({ data := #[] } : ByteArray).data.toList ++ Wire.putNum m)).size = (Wire.putNum m).length := by rw [← len_data, hBL]
      have hB9 : (strOf (({ data := #[] } : ByteArray).data.toList ++ Wire.putNum m)).size ≤ 9 := by rw [hBS]; exact Wire.putNum_length m
      generalize strOf (({ data := #[] } : ByteArray).data.toList ++ Wire.putNum m) = B at *
      have HBL := Lib.hid hBL
      have HBS := Lib.hid hBS
      have HB9 := Lib.hid hB9
      clear hBL hBS hB9
      go_wp2
      go_loopw [10] (fun i wr => ∃ j : Nat, j ≤ B.size ∧ i = .int .i64 j ∧ Below w.heap.size w wr) (fun i _ => B.size - (intOf i).toNat)
      case atStart => exact ⟨0, Nat.zero_le _, rfl, HB7.out⟩
      case round =>
        obtain ⟨j, hj, rfl, hb⟩ := hrel
        have HBW := Lib.hid hb
        clear hb HB7
        by_cases hlt : j < B.size
        · have hi : (j : Int) < (B.size : Int) := by omega
          have hj9 : (j : Int) < 9 := by have := HB9.out; omega
          have hi2 : (0 : Int) ≤ (j : Int) ∧ (j : Int) ≤ (B.size : Int) := by omega
          have hcut : Wire.num (some ((Wire.putNum m).take j)) = (0, none) := Wire.num_cut m j (by have := HBS.out; omega)
          have HCUT := Lib.hid hcut
          have hpre : (B.extract 0 j).data.toList = (Wire.putNum m).take j := by rw [extract_list, HBL.out]
          have HPRE := Lib.hid hpre
          have hsz : (B.extract 0 j).size ≤ 100000 := by have := cut_size B j; have := HB9.out; omega
          have HSZ := Lib.hid hsz
          clear hcut hpre hsz
          go_wp2_with fail
          refine (newReader_lit _ _ wr HSZ.out HPRE.out).mono ?_
          rintro e w8 ⟨x, rfl, hr, hrd, hb⟩
          have HX := Lib.hid (Nat.le_trans HBW.out.size hr)
          have HXD := Lib.hid hrd
          have HB8 := Lib.hid (HBW.out.trans (hb.mono HBW.out.size))
          clear hr hrd hb HBW
          go_wp2_with fail
          refine (num_lit x _ none 0 w8 HXD.out HCUT.out).mono ?_
          rintro e w9 ⟨rfl, h1, h2⟩
          have HXD9 := Lib.hid h1
          have HB9' := Lib.hid (below_read HB8.out h2 HX.out (Nat.le_refl _))
          clear h1 h2 HXD HB8
          go_wp2_with fail
          refine (ok_lit x none false w9 HXD9.out rfl).mono ?_
          rintro e w10 ⟨rfl, rfl⟩
          go_wp2_with fail
          refine (end_lit x none false w9 HXD9.out rfl).mono ?_
          rintro e w10 ⟨rfl, rfl⟩
          go_wp2_with fail
          refine (num_lit x none none 0 w9 HXD9.out rfl).mono ?_
          rintro e w10 ⟨rfl, h1, h2⟩
          have HXD10 := Lib.hid h1
          have HB10 := Lib.hid (below_read HB9'.out h2 HX.out (Nat.le_refl _))
          clear h1 h2 HXD9 HB9'
          go_wp2_with fail
          refine (text_lit x none none [] ⟨#[]⟩ w10 HXD10.out rfl rfl).mono ?_
          rintro e w11 ⟨rfl, h1, h2⟩
          have HB11 := Lib.hid (below_read HB10.out h2 HX.out (Nat.le_refl _))
          clear h1 h2 HXD10 HB10
          go_wp2
          refine ⟨⟨j + 1, by omega, by go_num, HB11.out⟩, by simp [intOf]; omega⟩
        · have hi : ¬ (j : Int) < (B.size : Int) := by omega
          go_wp2_with fail
          refine (works_any _).mono ?_
          rintro e w8 ⟨rfl, hb⟩
          have HB8 := Lib.hid (HBW.out.trans (hb.mono HBW.out.size))
          clear hb HBW
          go_wp2
          go_ret
          exact ⟨rfl, HB8.out⟩
end Go.Proofs.Ytephbgkaoanjjaa
