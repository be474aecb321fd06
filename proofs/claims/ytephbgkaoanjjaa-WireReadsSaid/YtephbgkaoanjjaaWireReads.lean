/-
  WireReads, WALKED.
-/
import Derived.Test.YtephbgkaoanjjaaWireLaws
import Derived.Test.YtephbgkaoanjjaaOpen
namespace Go.Proofs.Ytephbgkaoanjjaa
open Go.RowKit Reg

theorem num_both (r q : Nat) (st : Wire.St) (w : World) (h : Rdr w r st) (hq : RdR w q st) (hne : r ≠ q) :
    Calls Try.prog 14 #[.pointer (some ⟨r, 0, none⟩)] w fun e w' => e = .returned (.int .u64 ((Wire.num st).1 : Int)) ∧ Rdr w' r (Wire.num st).2 ∧ RdR w' q st ∧ w.grownBy w' (some r) := by
  refine (num_any r st w h).mono ?_
  rintro e w1 ⟨rfl, h1, h2⟩
  exact ⟨rfl, h1, hq.far h2 (by simpa using hne.symm), h2⟩
theorem num_both' (r q : Nat) (st st1 : Wire.St) (w : World) (h : Rdr w r st1) (hq : RdR w q st) (hne : r ≠ q) :
    Calls Try.prog 15 #[.pointer (some ⟨q, 0, none⟩)] w fun e w' => e = .returned (.int .u64 ((Wire.num st).1 : Int)) ∧ RdR w' q (Wire.num st).2 ∧ Rdr w' r st1 ∧ w.grownBy w' (some q) := by
  refine (refNum_any q st w hq).mono ?_
  rintro e w1 ⟨rfl, h1, h2⟩
  exact ⟨rfl, h1, h.far_ hq h2 hne, h2⟩
theorem text_both (r q : Nat) (st : Wire.St) (w : World) (h : Rdr w r st) (hq : RdR w q st) (hne : r ≠ q) :
    Calls Try.prog 16 #[.pointer (some ⟨r, 0, none⟩)] w fun e w' => e = .returned (.string (strOf (Wire.text st).1)) ∧ Rdr w' r (Wire.text st).2 ∧ RdR w' q st ∧ w.grownBy w' (some r) := by
  refine (text_any r st w h).mono ?_
  rintro e w1 ⟨rfl, h1, h2⟩
  exact ⟨rfl, h1, hq.far h2 (by simpa using hne.symm), h2⟩
theorem text_both' (r q : Nat) (st st1 : Wire.St) (w : World) (h : Rdr w r st1) (hq : RdR w q st) (hne : r ≠ q) :
    Calls Try.prog 17 #[.pointer (some ⟨q, 0, none⟩)] w fun e w' => e = .returned (.string (strOf (Wire.text st).1)) ∧ RdR w' q (Wire.text st).2 ∧ Rdr w' r st1 ∧ w.grownBy w' (some q) := by
  refine (refText_any q st w hq).mono ?_
  rintro e w1 ⟨rfl, h1, h2⟩
  exact ⟨rfl, h1, h.far_ hq h2 hne, h2⟩

/-- both readers have the same left; what was there is as it was -/
def Both (w0 : World) (r q : Nat) (st : Wire.St) (w : World) : Prop := Below w0.heap.size w0 w ∧ Rdr w r st ∧ RdR w q st
theorem both_new (r : Nat) (X : ByteArray) (w0 w : World) (hX : X.size ≤ 1000) (hrd : Rdr w r (some X.data.toList)) (hb : Below w0.heap.size w0 w) :
    Both w0 r w.heap.size (some X.data.toList) (w.alloc (Obj.cells #[.string X, .bool false] 32)) := by
  refine ⟨hb.alloc hb.size _, hrd.keep ((Below.refl _ _).alloc (Nat.le_refl _) _), by rw [len_data]; omega, ?_⟩
  rw [strOf_data]
  exact Blk.new _ _ _

set_option maxHeartbeats 4000000 in
theorem law_WireReads (s : ByteArray) (v : Value) (l : List Bool) (w : World) (_ : s.size ≤ reachBytes) (hv : RdIn w v l.length (l.map .bool)) (_ : l.length ≤ maxLen) :
    Calls Try.prog 4 #[.string s, v] w fun e w' => e = .returned (.bool true) ∧ Below w.heap.size w w' := by
  rcases cut_cases s 1000 with ⟨hs1, hs2⟩ | ⟨hs1, hs2⟩
  all_goals
    have HS := Lib.hid hs2
    clear hs2
    rcases hv with ⟨a, c, rfl, h0, hl⟩ | ⟨hp, _, ⟨rfl, h0⟩ | ⟨g, off, c, rfl, hc, hx⟩⟩
    · clear h0 hl
      go_enter Try.func4, Try.ntmps4
      go_wp2_with fail
      refine (newReader_any _ w (Nat.le_trans HS.out (by decide))).mono ?_
      rintro e w1 ⟨r, rfl, hr, hrd, hb⟩
      have HB1 := Lib.hid (both_new r _ w w1 HS.out hrd hb)
      clear hrd hb
      go_wp2
      refine wp_loop_rounds 1 ?_
      rw [rounds_succ]
      go_wp2_with fail
      refine (works_any _).mono ?_
      rintro e w2 ⟨rfl, hb2⟩
      have HB2 := Lib.hid (HB1.out.1.trans (hb2.mono HB1.out.1.size))
      clear hb2 HB1
      go_wp2
      go_ret
      exact ⟨rfl, HB2.out⟩
    · omega
    · have HX := Lib.hid hx
      clear hx hc
      go_enter Try.func4, Try.ntmps4
      go_wp2_with fail
      refine (newReader_any _ w (Nat.le_trans HS.out (by decide))).mono ?_
      rintro e w1 ⟨r, rfl, hr, hrd, hb⟩
      have HB1 := Lib.hid (both_new r _ w w1 HS.out hrd hb)
      have hne : r ≠ w1.heap.size := Nat.ne_of_lt hrd.lt
      have hq : w.heap.size ≤ w1.heap.size := hb.size
      have HNE := Lib.hid hne
      have HR := Lib.hid hr
      have HQ := Lib.hid hq
      clear hb hrd hr hne hq
      go_wp2
      generalize hq : w1.heap.size = q at *
      clear hq
      generalize w1.alloc _ = w2 at *
      go_loopw [7] (fun i wr => ∃ (j : Nat) (st : Wire.St), j ≤ l.length ∧ i = .int .i64 j ∧ Both w r q st wr) (fun i _ => l.length - (intOf i).toNat)
      case atStart => exact ⟨0, _, Nat.zero_le _, rfl, HB1.out⟩
      case round =>
        obtain ⟨j, st, hj, rfl, hbb⟩ := hrel
        have HBB := Lib.hid hbb
        clear hbb HB1
        by_cases hjl : j < l.length
        · by_cases hj40 : j < 40
          · have hcell : wr.cell? ⟨g, off + j, none⟩ = some (.bool l[j]) := by
              have h1 := HX.out j (.bool l[j]) (by simp [hjl])
              exact cell_later HBB.out.1 h1
            have hi1 : (j : Int) < (l.length : Int) := by omega
            have hi2 : (j : Int) < 40 := by omega
            generalize l[j] = b at *
            cases b with
            | true =>
              go_wp2_with fail
              refine (num_both r q st wr HBB.out.2.1 HBB.out.2.2 HNE.out).mono ?_
              rintro e w3 ⟨rfl, h1, h2, h3⟩
              have H1 := Lib.hid h1
              have H2 := Lib.hid h2
              have H3 := Lib.hid (below_read HBB.out.1 h3 HR.out (Nat.le_refl _))
              clear h1 h2 h3 HBB hcell
              go_wp2_with fail
              refine (num_both' r q st _ w3 H1.out H2.out HNE.out).mono ?_
              rintro e w4 ⟨rfl, h1, h2, h3⟩
              have H4 := Lib.hid h1
              have H5 := Lib.hid h2
              have H6 := Lib.hid (below_read H3.out h3 HQ.out (Nat.le_refl _))
              clear h1 h2 h3 H1 H2 H3
              generalize (Wire.num st).1 = n at *
              go_wp2_with fail
              refine (ok_any r _ w4 H5.out).mono ?_
              rintro e w5 ⟨rfl, rfl⟩
              go_wp2_with fail
              refine (refOk_any q _ w4 H4.out).mono ?_
              rintro e w5 ⟨rfl, rfl⟩
              go_wp2_with fail
              refine (end_any r _ w4 H5.out).mono ?_
              rintro e w5 ⟨rfl, rfl⟩
              go_wp2_with fail
              refine (refEnd_any q _ w4 H4.out).mono ?_
              rintro e w5 ⟨rfl, rfl⟩
              go_wp2
              refine ⟨⟨j + 1, _, by omega, by go_num, H6.out, H5.out, H4.out⟩, by simp [intOf]; omega⟩
            | false =>
              go_wp2_with fail
              refine (text_both r q st wr HBB.out.2.1 HBB.out.2.2 HNE.out).mono ?_
              rintro e w3 ⟨rfl, h1, h2, h3⟩
              have H1 := Lib.hid h1
              have H2 := Lib.hid h2
              have H3 := Lib.hid (below_read HBB.out.1 h3 HR.out (Nat.le_refl _))
              clear h1 h2 h3 HBB hcell
              go_wp2_with fail
              refine (text_both' r q st _ w3 H1.out H2.out HNE.out).mono ?_
              rintro e w4 ⟨rfl, h1, h2, h3⟩
              have H4 := Lib.hid h1
              have H5 := Lib.hid h2
              have H6 := Lib.hid (below_read H3.out h3 HQ.out (Nat.le_refl _))
              clear h1 h2 h3 H1 H2 H3
              generalize (Wire.text st).1 = n at *
              go_wp2_with fail
              refine (ok_any r _ w4 H5.out).mono ?_
              rintro e w5 ⟨rfl, rfl⟩
              go_wp2_with fail
              refine (refOk_any q _ w4 H4.out).mono ?_
              rintro e w5 ⟨rfl, rfl⟩
              go_wp2_with fail
              refine (end_any r _ w4 H5.out).mono ?_
              rintro e w5 ⟨rfl, rfl⟩
              go_wp2_with fail
              refine (refEnd_any q _ w4 H4.out).mono ?_
              rintro e w5 ⟨rfl, rfl⟩
              go_wp2
              refine ⟨⟨j + 1, _, by omega, by go_num, H6.out, H5.out, H4.out⟩, by simp [intOf]; omega⟩
          · have hi1 : (j : Int) < (l.length : Int) := by omega
            have hi2 : ¬ (j : Int) < 40 := by omega
            go_wp2_with fail
            refine (works_any _).mono ?_
            rintro e w5 ⟨rfl, hb5⟩
            have HB5 := Lib.hid (HBB.out.1.trans (hb5.mono HBB.out.1.size))
            clear hb5 HBB
            go_wp2
            go_ret
            exact ⟨rfl, HB5.out⟩
        · have hi1 : ¬ (j : Int) < (l.length : Int) := by omega
          go_wp2_with fail
          refine (works_any _).mono ?_
          rintro e w5 ⟨rfl, hb5⟩
          have HB5 := Lib.hid (HBB.out.1.trans (hb5.mono HBB.out.1.size))
          clear hb5 HBB
          go_wp2
          go_ret
          exact ⟨rfl, HB5.out⟩
end Go.Proofs.Ytephbgkaoanjjaa
