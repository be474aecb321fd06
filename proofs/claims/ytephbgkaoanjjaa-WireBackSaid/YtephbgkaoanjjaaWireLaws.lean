/-
  THE CHAPTER's ROWS, WALKED: works, WirePuts.
-/
import Derived.Test.YtephbgkaoanjjaaWireRef4
import Derived.SizedLaws
namespace Go.Proofs.Ytephbgkaoanjjaa
open Go.RowKit Reg

theorem num_lit (r : Nat) (st st' : Wire.St) (n : Nat) (w : World) (h : Rdr w r st) (hn : Wire.num st = (n, st')) :
    Calls Try.prog 14 #[.pointer (some ⟨r, 0, none⟩)] w fun e w' => e = .returned (.int .u64 (n : Int)) ∧ Rdr w' r st' ∧ w.grownBy w' (some r) := by
  refine (num_any r st w h).mono ?_
  rintro e w1 ⟨rfl, h1, h2⟩
  rw [hn] at h1
  exact ⟨by rw [hn], h1, h2⟩
theorem text_lit (r : Nat) (st st' : Wire.St) (t : List UInt8) (t' : ByteArray) (w : World) (h : Rdr w r st) (hn : Wire.text st = (t, st')) (ht : strOf t = t') :
    Calls Try.prog 16 #[.pointer (some ⟨r, 0, none⟩)] w fun e w' => e = .returned (.string t') ∧ Rdr w' r st' ∧ w.grownBy w' (some r) := by
  refine (text_any r st w h).mono ?_
  rintro e w1 ⟨rfl, h1, h2⟩
  rw [hn] at h1
  exact ⟨by rw [hn]; rw [ht], h1, h2⟩
theorem end_lit (r : Nat) (st : Wire.St) (b : Bool) (w : World) (h : Rdr w r st) (hb : endB st = b) :
    Calls Try.prog 20 #[.pointer (some ⟨r, 0, none⟩)] w fun e w' => e = .returned (.bool b) ∧ w = w' := by
  rw [← hb]; exact end_any r st w h
theorem ok_lit (r : Nat) (st : Wire.St) (b : Bool) (w : World) (h : Rdr w r st) (hb : okB st = b) :
    Calls Try.prog 18 #[.pointer (some ⟨r, 0, none⟩)] w fun e w' => e = .returned (.bool b) ∧ w = w' := by
  rw [← hb]; exact ok_any r st w h
theorem putNum_lit (s t : ByteArray) (n : Nat) (w : World) (hn : n < 256 ^ 8) (hs : s.size ≤ 1000) (ht : strOf (s.data.toList ++ Wire.putNum n) = t) :
    Calls Try.prog 8 #[.string s, .int .u64 (n : Int)] w fun e w' => e = .returned (.string t) ∧ Below w.heap.size w w' := by
  rw [← ht]; exact putNum_any s n w hn (by unfold maxLen; omega)
theorem putText_lit (s t u : ByteArray) (w : World) (hs : s.size ≤ 1000) (ht : t.size ≤ 1000) (hu : strOf (s.data.toList ++ Wire.putText t.data.toList) = u) :
    Calls Try.prog 10 #[.string s, .string t] w fun e w' => e = .returned (.string u) ∧ Below w.heap.size w w' := by
  rw [← hu]; exact putText_any s t w (by omega) (by omega)
theorem newReader_lit (s : ByteArray) (l : List UInt8) (w : World) (hs : s.size ≤ 100000) (hl : s.data.toList = l) :
    Calls Try.prog 13 #[.string s] w fun e w' => ∃ r, e = .returned (.pointer (some ⟨r, 0, none⟩)) ∧ w.heap.size ≤ r ∧ Rdr w' r (some l) ∧ Below w.heap.size w w' := by
  rw [← hl]; exact newReader_any s w (by omega)
/-- a reader made since then has been read -/
theorem below_read {n r : Nat} {w w1 w2 : World} (h : Below n w w1) (hg : w1.grownBy w2 (some r)) (hr : n ≤ r) (hn : n ≤ w.heap.size) : Below n w w2 :=
  h.trans (below_grown hg (Nat.le_trans hn h.size) (fun k hk => by injection hk with hk; omega))

set_option maxHeartbeats 1000000 in
theorem works_any (w : World) :
    Calls Try.prog 12 #[] w fun e w' => e = .returned (.bool true) ∧ Below w.heap.size w w' := by
  go_enter Try.func12, Try.ntmps12
  go_wp2_with fail
  refine (putNum_lit _ ⟨#[2, 1, 44]⟩ 300 _ (by decide) (by decide) (eq_strOf (by decide +kernel))).mono ?_
  rintro e w1 ⟨rfl, hb1⟩
  have HB1 := Lib.hid hb1
  clear hb1
  go_wp2_with fail
  refine (putText_lit _ _ ⟨#[2, 1, 44, 1, 2, 97, 98]⟩ _ (by decide) (by decide) (eq_strOf (by decide +kernel))).mono ?_
  rintro e w2 ⟨rfl, hb2⟩
  have HB2 := Lib.hid (HB1.out.trans (hb2.mono HB1.out.size))
  clear hb2 HB1
  go_wp2_with fail
  refine (newReader_lit _ [2, 1, 44, 1, 2, 97, 98] _ (by decide) (by decide +kernel)).mono ?_
  rintro e w3 ⟨r, rfl, hr, hrd, hb3⟩
  have hr' : w.heap.size ≤ r := Nat.le_trans HB2.out.size hr
  have HB3 := Lib.hid (HB2.out.trans (hb3.mono HB2.out.size))
  have HR := Lib.hid hr'
  have HRD := Lib.hid hrd
  clear hb3 HB2 hr hrd hr'
  go_wp2_with fail
  refine (num_lit r _ (some [1, 2, 97, 98]) 300 _ HRD.out (by decide +kernel)).mono ?_
  rintro e w4 ⟨rfl, h1, h2⟩
  have HB4 := Lib.hid (below_read HB3.out h2 HR.out (Nat.le_refl _))
  have HRD4 := Lib.hid h1
  clear HB3 HRD h1 h2
  go_wp2_with fail
  refine (text_lit r _ (some []) [97, 98] ⟨#[97, 98]⟩ _ HRD4.out (by decide +kernel) (by decide +kernel)).mono ?_
  rintro e w5 ⟨rfl, h1, h2⟩
  have HB5 := Lib.hid (below_read HB4.out h2 HR.out (Nat.le_refl _))
  have HRD5 := Lib.hid h1
  clear HB4 HRD4 h1 h2
  go_wp2_with fail
  refine (end_lit r _ true _ HRD5.out (by decide +kernel)).mono ?_
  rintro e w6 ⟨rfl, rfl⟩
  go_wp2
  go_ret
  exact ⟨rfl, HB5.out⟩

theorem wf_u64 {c : Int} (h : (Lit.int .u64 c).wf = true) : ∃ m : Nat, c = (m : Int) ∧ m < 256 ^ 8 := by
  simp [Lit.wf] at h
  have e1 : IntKind.u64.min = 0 := by decide
  have e2 : IntKind.u64.max = 18446744073709551615 := by decide
  rw [e1, e2] at h
  refine ⟨c.toNat, by omega, by omega⟩
theorem cut_size (s : ByteArray) (k : Nat) : (s.extract 0 k).size ≤ k := by simp; omega
/-- a text cut to so many bytes: the cut, or the text -/
theorem cut_cases (s : ByteArray) (m : Nat) : ((m : Int) < (s.size : Int) ∧ (s.extract 0 m).size ≤ m) ∨ ((s.size : Int) ≤ (m : Int) ∧ s.size ≤ m) := by
  rcases Nat.lt_or_ge m s.size with h | h
  · exact .inl ⟨by omega, cut_size s m⟩
  · exact .inr ⟨by omega, h⟩
theorem max_of (n k : Nat) (h : n ≤ k) (hk : k ≤ 1000) : n + 100 ≤ maxLen := by unfold maxLen; omega
set_option maxHeartbeats 2000000 in
theorem law_WirePuts (s : ByteArray) (n : Int) (t : ByteArray) (w : World) (_ : s.size ≤ reachBytes) (hn : (Lit.int .u64 n).wf = true) (_ : t.size ≤ reachBytes) :
    Calls Try.prog 3 #[.string s, .int .u64 n, .string t] w fun e w' => e = .returned (.bool true) ∧ Below w.heap.size w w' := by
  obtain ⟨m, rfl, hm⟩ := wf_u64 hn
  have HM := Lib.hid hm
  clear hn hm
  rcases cut_cases s 1000 with ⟨hs1, hs2⟩ | ⟨hs1, hs2⟩
  all_goals rcases cut_cases t 1000 with ⟨ht1, ht2⟩ | ⟨ht1, ht2⟩
  all_goals
    have HS := Lib.hid hs2
    have HT := Lib.hid ht2
    clear hs2 ht2
    go_enter Try.func3, Try.ntmps3
    go_wp2_with fail
    refine (putNum_any _ m w HM.out (max_of _ _ HS.out (by decide))).mono ?_
    rintro e w1 ⟨rfl, hb1⟩
    have HB1 := Lib.hid hb1
    clear hb1
    go_wp2_with fail
    refine (refPutNum_any _ m w1 HM.out (max_of _ _ HS.out (by decide))).mono ?_
    rintro e w2 ⟨rfl, hb2⟩
    have HB2 := Lib.hid (HB1.out.trans (hb2.mono HB1.out.size))
    clear hb2 HB1
    go_wp2_with fail
    refine (putText_any _ _ w2 (Nat.le_trans HT.out (by decide)) (Nat.le_trans HS.out (by decide))).mono ?_
    rintro e w3 ⟨rfl, hb3⟩
    have HB3 := Lib.hid (HB2.out.trans (hb3.mono HB2.out.size))
    clear hb3 HB2
    go_wp2_with fail
    refine (refPutText_any _ _ w3 (Nat.le_trans HT.out (by decide)) (Nat.le_trans HS.out (by decide))).mono ?_
    rintro e w4 ⟨rfl, hb4⟩
    have HB4 := Lib.hid (HB3.out.trans (hb4.mono HB3.out.size))
    clear hb4 HB3
    go_wp2_with fail
    refine (works_any _).mono ?_
    rintro e w5 ⟨rfl, hb5⟩
    have HB5 := Lib.hid (HB4.out.trans (hb5.mono HB4.out.size))
    clear hb5 HB4
    go_wp2
    go_ret
    exact ⟨rfl, HB5.out⟩
end Go.Proofs.Ytephbgkaoanjjaa
