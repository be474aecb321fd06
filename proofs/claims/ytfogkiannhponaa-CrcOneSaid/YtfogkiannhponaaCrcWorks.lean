/-
  THE CHAPTER's ROWS.
-/
import Derived.Test.YtfogkiannhponaaCrcSeal
namespace Go.Proofs.Ytfogkiannhponaa
open Go.RowKit

theorem sum_lit (s : ByteArray) (n : Int) (w : World) (hs : s.size ≤ maxLen) (hn : ((Crc.sum s.data.toList).toNat : Int) = n) :
    Calls Try.prog 9 #[.string s] w fun e w' => e = .returned (.int .u32 n) ∧ Below w.heap.size w w' := by
  rw [← hn]; exact sum_any s w hs
theorem seal_lit (s t : ByteArray) (w : World) (hs : s.size + 4 ≤ maxLen) (hn : strOf (Crc.sealed s.data.toList) = t) :
    Calls Try.prog 11 #[.string s] w fun e w' => e = .returned (.string t) ∧ Below w.heap.size w w' := by
  rw [← hn]; exact seal_any s w hs
theorem open_yes (s t : ByteArray) (w : World) (hs : s.size ≤ maxLen) (ho : Crc.opens s.data.toList = true) (hn : strOf (s.data.toList.take (s.size - 4)) = t) :
    Calls Try.prog 14 #[.string s] w fun e w' => e = .returned (.tuple #[.string t, .bool true]) ∧ Below w.heap.size w w' := by
  have h : openV s = .tuple #[.string t, .bool true] := by rw [openV, if_pos ho, hn]
  rw [← h]; exact open_any s w hs
theorem open_no (s : ByteArray) (w : World) (hs : s.size ≤ maxLen) (ho : Crc.opens s.data.toList = false) :
    Calls Try.prog 14 #[.string s] w fun e w' => e = .returned (.tuple #[.string ByteArray.empty, .bool false]) ∧ Below w.heap.size w w' := by
  have h : openV s = .tuple #[.string ByteArray.empty, .bool false] := by rw [openV, if_neg (by rw [ho]; exact Bool.false_ne_true)]
  rw [← h]; exact open_any s w hs

theorem small (s : ByteArray) (n : Nat) (h : s.size ≤ n) (hn : n ≤ 1000) : s.size + 4 ≤ maxLen := by unfold maxLen; omega

set_option maxHeartbeats 1000000 in
theorem works_any (w : World) :
    Calls Try.prog 13 #[] w fun e w' => e = .returned (.bool true) ∧ Below w.heap.size w w' := by
  go_enter Try.func13, Try.ntmps13
  go_wp2_with fail
  refine (seal_lit _ ⟨#[120, 140, 220, 22, 131]⟩ _ (by decide) (eq_strOf (by decide +kernel))).mono ?_
  rintro e w1 ⟨rfl, hb1⟩
  have HB1 := Lib.hid hb1
  clear hb1
  go_wp2_with fail
  refine (open_yes _ ⟨#[120]⟩ _ (by decide) (by decide +kernel) (eq_strOf (by decide +kernel))).mono ?_
  rintro e w2 ⟨rfl, hb2⟩
  have HB2 := Lib.hid (HB1.out.trans (hb2.mono HB1.out.size))
  clear hb2 HB1
  go_wp2_with fail
  refine (open_no _ _ (by decide) (by decide +kernel)).mono ?_
  rintro e w3 ⟨rfl, hb3⟩
  have HB3 := Lib.hid (HB2.out.trans (hb3.mono HB2.out.size))
  clear hb3 HB2
  go_wp2_with fail
  refine (sum_lit _ 0 _ (by decide) (by decide +kernel)).mono ?_
  rintro e w4 ⟨rfl, hb4⟩
  have HB4 := Lib.hid (HB3.out.trans (hb4.mono HB3.out.size))
  clear hb4 HB3
  go_wp2_with fail
  refine (sum_lit _ 3421780262 _ (by decide) (by decide +kernel)).mono ?_
  rintro e w5 ⟨rfl, hb5⟩
  have HB5 := Lib.hid (HB4.out.trans (hb5.mono HB4.out.size))
  clear hb5 HB4
  go_wp2_with fail
  refine (sum_lit _ 3523407757 _ (by decide) (by decide +kernel)).mono ?_
  rintro e w6 ⟨rfl, hb6⟩
  have HB6 := Lib.hid (HB5.out.trans (hb6.mono HB5.out.size))
  clear hb6 HB5
  go_wp2_with fail
  refine (seal_lit _ ⟨#[49, 50, 51, 52, 53, 54, 55, 56, 57, 203, 244, 57, 38]⟩ _ (by decide) (eq_strOf (by decide +kernel))).mono ?_
  rintro e w7 ⟨rfl, hb7⟩
  have HB7 := Lib.hid (HB6.out.trans (hb7.mono HB6.out.size))
  clear hb7 HB6
  go_wp2
  go_ret
  exact ⟨rfl, HB7.out⟩
end Go.Proofs.Ytfogkiannhponaa
