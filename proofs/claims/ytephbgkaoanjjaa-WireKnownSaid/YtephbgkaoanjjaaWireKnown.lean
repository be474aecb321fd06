/-
  WireKnown, WALKED.
-/
import Derived.Test.YtephbgkaoanjjaaWireLaws
namespace Go.Proofs.Ytephbgkaoanjjaa
open Go.RowKit Reg
theorem bad_all (L : List ByteArray) (h : ∀ s ∈ L, Wire.num (some s.data.toList) = (0, none) ∧ s.size ≤ 1000) (j : Nat) (hj : j < L.length) : Wire.num (some L[j].data.toList) = (0, none) ∧ L[j].size ≤ 100000 := by
  have := h L[j] (List.getElem_mem hj)
  exact ⟨this.1, by omega⟩
theorem bad_all_t (L : List ByteArray) (h : ∀ s ∈ L, Wire.text (some s.data.toList) = ([], none) ∧ s.size ≤ 1000) (j : Nat) (hj : j < L.length) : Wire.text (some L[j].data.toList) = ([], none) ∧ L[j].size ≤ 100000 := by
  have := h L[j] (List.getElem_mem hj)
  exact ⟨this.1, by omega⟩
theorem blk_strs {w : World} {g t : Nat} {L : List ByteArray} (b : Blk w g t (L.map Value.string).toArray) (j : Nat) (hj : j < L.length) : w.cell? ⟨g, j, none⟩ = some (.string L[j]) := by
  rw [b.cell]
  simp [hj]
def bad1 : List ByteArray := [⟨#[]⟩, ⟨#[1, 0]⟩, ⟨#[2, 0, 5]⟩, ⟨#[9, 1, 1, 1, 1, 1, 1, 1, 1, 1]⟩, ⟨#[2, 1]⟩, ⟨#[255]⟩, ⟨#[8, 0, 1, 1, 1, 1, 1, 1, 1]⟩]
def bad2 : List ByteArray := [⟨#[1, 3, 97, 98]⟩, ⟨#[8, 255, 255, 255, 255, 255, 255, 255, 255]⟩, ⟨#[1]⟩]
theorem bad1_ok : ∀ s ∈ bad1, Wire.num (some s.data.toList) = (0, none) ∧ s.size ≤ 1000 := by decide +kernel
theorem bad2_ok : ∀ s ∈ bad2, Wire.text (some s.data.toList) = ([], none) ∧ s.size ≤ 1000 := by decide +kernel
set_option maxHeartbeats 2000000 in
theorem law_WireKnown (w : World) :
    Calls Try.prog 7 #[] w fun e w' => e = .returned (.bool true) ∧ Below w.heap.size w w' := by
  go_enter Try.func7, Try.ntmps7
  go_wp2_with fail
  refine (putNum_lit _ ⟨#[0]⟩ 0 w (by decide) (by decide) (eq_strOf (by decide +kernel))).mono ?_
  rintro e w1 ⟨rfl, hb⟩
  have HB1 := Lib.hid hb
  clear hb
  go_wp2_with fail
  refine (putNum_lit _ ⟨#[120, 1, 5]⟩ 5 w1 (by decide) (by decide) (eq_strOf (by decide +kernel))).mono ?_
  rintro e w2 ⟨rfl, hb⟩
  have HB2 := Lib.hid (HB1.out.trans (hb.mono HB1.out.size))
  clear hb HB1
  go_wp2_with fail
  refine (putNum_lit _ ⟨#[2, 1, 0]⟩ 256 w2 (by decide) (by decide) (eq_strOf (by decide +kernel))).mono ?_
  rintro e w3 ⟨rfl, hb⟩
  have HB3 := Lib.hid (HB2.out.trans (hb.mono HB2.out.size))
  clear hb HB2
  go_wp2_with fail
  refine (putNum_lit _ ⟨#[8, 255, 255, 255, 255, 255, 255, 255, 255]⟩ 18446744073709551615 w3 (by decide) (by decide) (eq_strOf (by decide +kernel))).mono ?_
  rintro e w4 ⟨rfl, hb⟩
  have HB4 := Lib.hid (HB3.out.trans (hb.mono HB3.out.size))
  clear hb HB3
  go_wp2_with fail
  refine (putText_lit _ _ ⟨#[0]⟩ w4 (by decide) (by decide) (eq_strOf (by decide +kernel))).mono ?_
  rintro e w5 ⟨rfl, hb⟩
  have HB5 := Lib.hid (HB4.out.trans (hb.mono HB4.out.size))
  clear hb HB4
  go_wp2_with fail
  refine (putText_lit _ _ ⟨#[1, 2, 97, 98]⟩ w5 (by decide) (by decide) (eq_strOf (by decide +kernel))).mono ?_
  rintro e w6 ⟨rfl, hb⟩
  have HB6 := Lib.hid (HB5.out.trans (hb.mono HB5.out.size))
  clear hb HB5
  go_wp2
  rw [show (#[Value.string { data := #[] }, Value.string { data := #[1, 0] }, Value.string { data := #[2, 0, 5] }, Value.string { data := #[9, 1, 1, 1, 1, 1, 1, 1, 1, 1] }, Value.string { data := #[2, 1] }, Value.string { data := #[255] }, Value.string { data := #[8, 0, 1, 1, 1, 1, 1, 1, 1] }] : Array Value) = (bad1.map Value.string).toArray from rfl]
  have b := Blk.new w6 9 (bad1.map Value.string).toArray
  have hb := HB6.out.alloc HB6.out.size (Obj.cells (bad1.map Value.string).toArray 9)
  generalize w6.alloc (Obj.cells (bad1.map Value.string).toArray 9) = w7 at *
  generalize w6.heap.size = g6 at *
  have HK6 := Lib.hid b
  have HB7 := Lib.hid hb
  clear b hb HB6
  go_loopw [33] (fun i wr => ∃ j : Nat, j ≤ 7 ∧ i = .int .i64 j ∧ Below w7.heap.size w7 wr) (fun i _ => 7 - (intOf i).toNat)
  case atStart => exact ⟨0, Nat.zero_le _, rfl, Below.refl _ _⟩
  case round =>
    obtain ⟨j, hj, rfl, hb⟩ := hrel
    have HBW := Lib.hid hb
    clear hb
    by_cases hlt : j < 7
    · have hcell := cell_later HBW.out (blk_strs HK6.out j hlt)
      obtain ⟨q1, q2⟩ := bad_all bad1 bad1_ok j hlt
      have Q1 := Lib.hid q1
      have Q2 := Lib.hid q2
      clear q1 q2
      have hi : (j : Int) < 7 := by omega
      generalize bad1[j] = t at *
      go_wp2_with fail
      refine (newReader_lit t _ wr Q2.out rfl).mono ?_
      rintro e w8 ⟨x, rfl, hr, hrd, hb⟩
      have HX := Lib.hid (Nat.le_trans HBW.out.size hr)
      have HXD := Lib.hid hrd
      have HB8 := Lib.hid (HBW.out.trans (hb.mono HBW.out.size))
      clear hr hrd hb HBW hcell
      go_wp2_with fail
      refine (num_lit x _ none 0 w8 HXD.out Q1.out).mono ?_
      rintro e w9 ⟨rfl, h1, h2⟩
      have HXD9 := Lib.hid h1
      have HB9 := Lib.hid (below_read HB8.out h2 HX.out (Nat.le_refl _))
      clear h1 h2 HXD HB8
      go_wp2_with fail
      refine (ok_lit x none false w9 HXD9.out rfl).mono ?_
      rintro e w10 ⟨rfl, rfl⟩
      go_wp2_with fail
      refine (end_lit x none false w9 HXD9.out rfl).mono ?_
      rintro e w10 ⟨rfl, rfl⟩
      go_wp2
      refine ⟨⟨j + 1, by omega, by go_num, HB9.out⟩, by simp [intOf]; omega⟩
    · obtain rfl : j = 7 := by omega
      have HB8 := Lib.hid (HB7.out.trans (HBW.out.mono HB7.out.size))
      clear HB7 HBW HK6
      have e8 : ∃ w8, w8 = wr := ⟨wr, rfl⟩
      obtain ⟨w8, e8⟩ := e8
      subst e8
      go_wp2
      rw [show (#[Value.string { data := #[1, 3, 97, 98] }, Value.string { data := #[8, 255, 255, 255, 255, 255, 255, 255, 255] }, Value.string { data := #[1] }] : Array Value) = (bad2.map Value.string).toArray from rfl]
      have b := Blk.new w8 9 (bad2.map Value.string).toArray
      have hb := HB8.out.alloc HB8.out.size (Obj.cells (bad2.map Value.string).toArray 9)
      generalize w8.alloc (Obj.cells (bad2.map Value.string).toArray 9) = w9 at *
      generalize w8.heap.size = g8 at *
      have HK8 := Lib.hid b
      have HB9 := Lib.hid hb
      clear b hb HB8
      go_loopw [57] (fun i wr => ∃ j : Nat, j ≤ 3 ∧ i = .int .i64 j ∧ Below w9.heap.size w9 wr) (fun i _ => 3 - (intOf i).toNat)
      case atStart => exact ⟨0, Nat.zero_le _, rfl, Below.refl _ _⟩
      case round =>
        obtain ⟨j, hj, rfl, hb⟩ := hrel
        have HBW := Lib.hid hb
        clear hb
        by_cases hlt : j < 3
        · have hcell := cell_later HBW.out (blk_strs HK8.out j hlt)
          obtain ⟨q1, q2⟩ := bad_all_t bad2 bad2_ok j hlt
          have Q1 := Lib.hid q1
          have Q2 := Lib.hid q2
          clear q1 q2
          have hi : (j : Int) < 3 := by omega
          generalize bad2[j] = t at *
          go_wp2_with fail
          refine (newReader_lit t _ _ Q2.out rfl).mono ?_
          rintro e w10 ⟨x, rfl, hr, hrd, hb⟩
          have HX := Lib.hid (Nat.le_trans HBW.out.size hr)
          have HXD := Lib.hid hrd
          have HB10 := Lib.hid (HBW.out.trans (hb.mono HBW.out.size))
          clear hr hrd hb HBW hcell
          go_wp2_with fail
          refine (text_lit x _ none [] ⟨#[]⟩ w10 HXD.out Q1.out rfl).mono ?_
          rintro e w11 ⟨rfl, h1, h2⟩
          have HXD11 := Lib.hid h1
          have HB11 := Lib.hid (below_read HB10.out h2 HX.out (Nat.le_refl _))
          clear h1 h2 HXD HB10
          go_wp2_with fail
          refine (ok_lit x none false w11 HXD11.out rfl).mono ?_
          rintro e w12 ⟨rfl, rfl⟩
          go_wp2
          go_roundw
          case rel => exact ⟨_, _, _, _, _, _, _, _, _, _, _, _, _, _, _, _, _, _, _, _, _, ⟨j + 1, by omega, by go_num, HB11.out⟩, rfl⟩
          case measure => simp [intOf]; omega
        · obtain rfl : j = 3 := by omega
          have HB10 := Lib.hid (HB9.out.trans (HBW.out.mono HB9.out.size))
          clear HB9 HBW HK8
          go_wp2_with fail
          refine (newReader_lit _ [1, 5, 0, 1, 1, 97] _ (by decide) (by decide +kernel)).mono ?_
          rintro e w11 ⟨r, rfl, hr, hrd, hb⟩
          have HR := Lib.hid (Nat.le_trans HB10.out.size hr)
          have HRD := Lib.hid hrd
          have HB11 := Lib.hid (HB10.out.trans (hb.mono HB10.out.size))
          clear hr hrd hb HB10
          go_wp2_with fail
          refine (num_lit r _ (some [0, 1, 1, 97]) 5 w11 HRD.out (by decide +kernel)).mono ?_
          rintro e w12 ⟨rfl, h1, h2⟩
          have HRD12 := Lib.hid h1
          have HB12 := Lib.hid (below_read HB11.out h2 HR.out (Nat.le_refl _))
          clear h1 h2 HRD HB11
          go_wp2_with fail
          refine (end_lit r _ false w12 HRD12.out (by decide +kernel)).mono ?_
          rintro e we ⟨rfl, rfl⟩
          go_wp2_with fail
          refine (text_lit r _ (some [1, 1, 97]) [] ⟨#[]⟩ w12 HRD12.out (by decide +kernel) (by decide +kernel)).mono ?_
          rintro e w13 ⟨rfl, h1, h2⟩
          have HRD13 := Lib.hid h1
          have HB13 := Lib.hid (below_read HB12.out h2 HR.out (Nat.le_refl _))
          clear h1 h2 HRD12 HB12
          go_wp2_with fail
          refine (text_lit r _ (some []) [97] ⟨#[97]⟩ w13 HRD13.out (by decide +kernel) (by decide +kernel)).mono ?_
          rintro e w14 ⟨rfl, h1, h2⟩
          have HRD14 := Lib.hid h1
          have HB14 := Lib.hid (below_read HB13.out h2 HR.out (Nat.le_refl _))
          clear h1 h2 HRD13 HB13
          go_wp2_with fail
          refine (end_lit r _ true w14 HRD14.out (by decide +kernel)).mono ?_
          rintro e we ⟨rfl, rfl⟩
          go_wp2_with fail
          refine (num_lit r _ none 0 w14 HRD14.out (by decide +kernel)).mono ?_
          rintro e w15 ⟨rfl, h1, h2⟩
          have HRD15 := Lib.hid h1
          have HB15 := Lib.hid (below_read HB14.out h2 HR.out (Nat.le_refl _))
          clear h1 h2 HRD14 HB14
          go_wp2_with fail
          refine (end_lit r _ false w15 HRD15.out (by decide +kernel)).mono ?_
          rintro e we ⟨rfl, rfl⟩
          go_wp2_with fail
          refine (ok_lit r _ false w15 HRD15.out (by decide +kernel)).mono ?_
          rintro e we ⟨rfl, rfl⟩
          go_wp2_with fail
          refine (num_none_there w15).mono ?_
          rintro e we ⟨rfl, rfl⟩
          go_wp2_with fail
          refine (text_none_there w15).mono ?_
          rintro e we ⟨rfl, rfl⟩
          go_wp2_with fail
          refine (ok_none_there w15).mono ?_
          rintro e we ⟨rfl, rfl⟩
          go_wp2_with fail
          refine (end_none_there w15).mono ?_
          rintro e we ⟨rfl, rfl⟩
          go_wp2_with fail
          refine (works_any w15).mono ?_
          rintro e w16 ⟨rfl, hb⟩
          have HB16 := Lib.hid (HB15.out.trans (hb.mono HB15.out.size))
          clear hb HB15
          go_wp2
          go_ret
          exact ⟨rfl, HB16.out⟩
end Go.Proofs.Ytephbgkaoanjjaa
