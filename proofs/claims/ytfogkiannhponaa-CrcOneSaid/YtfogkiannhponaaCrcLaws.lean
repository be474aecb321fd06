/-
  THE LAWS OF THE CHAPTER, WALKED.
-/
import Derived.Test.YtfogkiannhponaaCrcWorks
import Derived.SizedLaws
namespace Go.Proofs.Ytfogkiannhponaa
open Go.RowKit

theorem reach_small {s : ByteArray} (h : s.size ≤ reachBytes) : s.size + 4 ≤ maxLen := by unfold reachBytes at h; unfold maxLen; omega
theorem reach_len {s : ByteArray} (h : s.size ≤ reachBytes) : s.size ≤ maxLen := by unfold reachBytes at h; unfold maxLen; omega

set_option maxHeartbeats 400000 in
theorem law_CrcSums (s : ByteArray) (w : World) (hs : s.size ≤ reachBytes) :
    Calls Try.prog 3 #[.string s] w fun e w' => e = .returned (.bool true) ∧ Below w.heap.size w w' := by
  have h1 := reach_small hs
  have h2 := reach_len hs
  clear hs
  go_enter Try.func3, Try.ntmps3
  go_wp2_with fail
  refine (sum_any s _ h2).mono ?_
  rintro e w1 ⟨rfl, hb1⟩
  have HB1 := Lib.hid hb1
  clear hb1
  go_wp2_with fail
  refine (refSum_any s _ h2).mono ?_
  rintro e w2 ⟨rfl, rfl⟩
  go_wp2_with fail
  refine (seal_any s _ h1).mono ?_
  rintro e w2 ⟨rfl, hb2⟩
  have HB2 := Lib.hid (HB1.out.trans (hb2.mono HB1.out.size))
  clear hb2 HB1
  go_wp2_with fail
  refine (refSeal_any s _ h1).mono ?_
  rintro e w3 ⟨rfl, hb3⟩
  have HB3 := Lib.hid (HB2.out.trans (hb3.mono HB2.out.size))
  clear hb3 HB2
  go_wp2_with fail
  refine (works_any _).mono ?_
  rintro e w4 ⟨rfl, hb4⟩
  have HB4 := Lib.hid (HB3.out.trans (hb4.mono HB3.out.size))
  clear hb4 HB3
  go_wp2
  go_ret
  exact ⟨rfl, HB4.out⟩

/-- what opening gives is as itself -/
theorem openV_cases (s : ByteArray) : (∃ t : ByteArray, openV s = .tuple #[.string t, .bool true]) ∨ openV s = .tuple #[.string ByteArray.empty, .bool false] := by
  unfold openV
  by_cases h : Crc.opens s.data.toList = true
  · rw [if_pos h]; exact .inl ⟨_, rfl⟩
  · rw [if_neg h]; exact .inr rfl

set_option maxHeartbeats 400000 in
theorem law_CrcOpens (s : ByteArray) (w : World) (hs : s.size ≤ reachBytes) :
    Calls Try.prog 4 #[.string s] w fun e w' => e = .returned (.bool true) ∧ Below w.heap.size w w' := by
  have hv := openV_cases s
  have h2 := reach_len hs
  clear hs
  have h3 := open_any s w h2
  have h4 : ∀ w1, Calls Try.prog 15 #[.string s] w1 fun e w' => e = .returned (openV s) ∧ Below w1.heap.size w1 w' := fun w1 => refOpen_any s w1 h2
  have H3 := Lib.hid h3
  have H4 := Lib.hid h4
  clear h3 h4
  generalize openV s = v at *
  rcases hv with ⟨t, rfl⟩ | rfl
  all_goals
    go_enter Try.func4, Try.ntmps4
    go_wp2_with fail
    refine (H3.out).mono ?_
    rintro e w1 ⟨rfl, hb1⟩
    have HB1 := Lib.hid hb1
    clear hb1
    go_wp2_with fail
    refine (H4.out _).mono ?_
    rintro e w2 ⟨rfl, hb2⟩
    have HB2 := Lib.hid (HB1.out.trans (hb2.mono HB1.out.size))
    clear hb2 HB1
    go_wp2_with fail
    refine (works_any _).mono ?_
    rintro e w3 ⟨rfl, hb3⟩
    have HB3 := Lib.hid (HB2.out.trans (hb3.mono HB2.out.size))
    clear hb3 HB2
    go_wp2
    go_ret
    exact ⟨rfl, HB3.out⟩

set_option maxHeartbeats 1000000 in
theorem law_CrcKnown  (w : World)  :
    Calls Try.prog 8 #[] w fun e w' => e = .returned (.bool true) ∧ Below w.heap.size w w' := by
  go_enter Try.func8, Try.ntmps8
  go_wp2_with fail
  refine (open_no _ _ (by decide) (by decide +kernel)).mono ?_
  rintro e w1 ⟨rfl, hb1⟩
  have HB1 := Lib.hid hb1
  clear hb1
  go_wp2_with fail
  refine (open_no _ _ (by decide) (by decide +kernel)).mono ?_
  rintro e w2 ⟨rfl, hb2⟩
  have HB2 := Lib.hid (HB1.out.trans (hb2.mono HB1.out.size))
  clear hb2 HB1
  go_wp2_with fail
  refine (open_yes _ ⟨#[]⟩ _ (by decide) (by decide +kernel) (eq_strOf (by decide +kernel))).mono ?_
  rintro e w3 ⟨rfl, hb3⟩
  have HB3 := Lib.hid (HB2.out.trans (hb3.mono HB2.out.size))
  clear hb3 HB2
  go_wp2_with fail
  refine (open_no _ _ (by decide) (by decide +kernel)).mono ?_
  rintro e w4 ⟨rfl, hb4⟩
  have HB4 := Lib.hid (HB3.out.trans (hb4.mono HB3.out.size))
  clear hb4 HB3
  go_wp2_with fail
  refine (works_any _).mono ?_
  rintro e w5 ⟨rfl, hb5⟩
  have HB5 := Lib.hid (HB4.out.trans (hb5.mono HB4.out.size))
  clear hb5 HB4
  go_wp2_with fail
  refine (seal_lit _ ⟨#[0, 0, 0, 0]⟩ _ (by decide) (eq_strOf (by decide +kernel))).mono ?_
  rintro e w6 ⟨rfl, hb6⟩
  have HB6 := Lib.hid (HB5.out.trans (hb6.mono HB5.out.size))
  clear hb6 HB5
  go_wp2_with fail
  refine (sum_lit _ 3904355907 _ (by decide) (by decide +kernel)).mono ?_
  rintro e w7 ⟨rfl, hb7⟩
  have HB7 := Lib.hid (HB6.out.trans (hb7.mono HB6.out.size))
  clear hb7 HB6
  go_wp2_with fail
  refine (sum_lit _ 891568578 _ (by decide) (by decide +kernel)).mono ?_
  rintro e w8 ⟨rfl, hb8⟩
  have HB8 := Lib.hid (HB7.out.trans (hb8.mono HB7.out.size))
  clear hb8 HB7
  go_wp2_with fail
  refine (sum_lit _ 1095738169 _ (by decide) (by decide +kernel)).mono ?_
  rintro e w9 ⟨rfl, hb9⟩
  have HB9 := Lib.hid (HB8.out.trans (hb9.mono HB8.out.size))
  clear hb9 HB8
  go_wp2
  go_ret
  exact ⟨rfl, HB9.out⟩
end Go.Proofs.Ytfogkiannhponaa
