/-
  THE LAWS OF THE CHAPTER, WALKED.
-/
import Derived.Test.YtfogkiannhponaaCrcWorks
import Derived.SizedLaws
namespace Go.Proofs.Ytfogkiannhponaa
open Go.RowKit

theorem reach_small {s : ByteArray} (h : s.size ≤ reachBytes) : s.size + 4 ≤ maxLen := by unfold reachBytes at h; unfold maxLen; omega
theorem reach_len {s : ByteArray} (h : s.size ≤ reachBytes) : s.size ≤ maxLen := by unfold reachBytes at h; unfold maxLen; omega

set_option maxHeartbeats 400000 in
theorem law_CrcSums (s : ByteArray) (w : World) (hs : s.size ≤ reachBytes) :
    Calls Try.prog 3 #[.string s] w fun e w' => e = .returned (.bool true) ∧ Below w.heap.size w w' := by
  have h1 := reach_small hs
  have h2 := reach_len hs
  clear hs
  go_enter Try.func3, Try.ntmps3
  go_wp2_with fail
  refine (sum_any s _ h2).mono ?_
  rintro e w1 ⟨rfl, hb1⟩
  have HB1 := Lib.hid hb1
  clear hb1
  go_wp2_with fail
  refine (refSum_any s _ h2).mono ?_
  rintro e w2 ⟨rfl, rfl⟩
  go_wp2_with fail
  refine (seal_any s _ h1).mono ?_
  rintro e w2 ⟨rfl, hb2⟩
  have HB2 := Lib.hid (HB1.out.trans (hb2.mono HB1.out.size))
  clear hb2 HB1
  go_wp2_with fail
  refine (refSeal_any s _ h1).mono ?_
  rintro e w3 ⟨rfl, hb3⟩
  have HB3 := Lib.hid (HB2.out.trans (hb3.mono HB2.out.size))
  clear hb3 HB2
  go_wp2_with fail
  refine (works_any _).mono ?_
  rintro e w4 ⟨rfl, hb4⟩
  have HB4 := Lib.hid (HB3.out.trans (hb4.mono HB3.out.size))
  clear hb4 HB3
  go_wp2
  go_ret
  exact ⟨rfl, HB4.out⟩
end Go.Proofs.Ytfogkiannhponaa
