/-
  THE REFERENCE's READER: Num, Text, OK, End, whatever the state.
-/
import Derived.Test.YtpfdpodelkleiaaWireRef3S
namespace Go.Proofs.Ytpfdpodelkleiaa
open Go.RowKit Reg
theorem refNum_any (r : Nat) (st : Wire.St) (w : World) (h : RdR w r st) : Calls Try.prog 56 #[.pointer (some ⟨r, 0, none⟩)] w (NumPostR w r st) := by
  cases st with
  | none => exact refNum_none r w h
  | some l =>
    cases l with
    | nil => exact refNum_nil r w h
    | cons k l =>
      by_cases hk : 8 < k.toNat ∨ l.length < k.toNat ∨ (0 < k.toNat ∧ l[0]? = some 0)
      · exact refNum_bad r k l w h hk
      · exact refNum_good r k l w h hk
def TextPostR (w : World) (r : Nat) (st : Wire.St) (e : Ending) (w' : World) : Prop := e = .returned (.string (strOf (Wire.text st).1)) ∧ RdR w' r (Wire.text st).2 ∧ w.grownBy w' (some r)
set_option maxHeartbeats 1000000 in
theorem refText_any (r : Nat) (st : Wire.St) (w : World) (h : RdR w r st) : Calls Try.prog 57 #[.pointer (some ⟨r, 0, none⟩)] w (TextPostR w r st) := by
  have hempty : ByteArray.empty = strOf [] := rfl
  have HE := Lib.hid hempty
  clear hempty
  go_enter Try.func57, Try.ntmps57
  go_wp2_with fail
  refine (refNum_any r st w h).mono ?_
  rintro e w1 ⟨rfl, h1, h2⟩
  have H2 := Lib.hid h2
  clear h h2
  cases hst : (Wire.num st).2 with
  | none =>
    have ht : Wire.text st = ([], none) := by unfold Wire.text; rw [hst]
    rw [hst] at h1
    obtain ⟨s, b⟩ := h1
    have c1 : w1.cell? ⟨r, 1, none⟩ = some (.bool true) := b.cell 1
    have HT := Lib.hid ht
    have HB := Lib.hid b
    clear ht b hst
    generalize (Wire.num st).1 = n at *
    go_wp2_with fail
    refine (fail_any r s true _ HB.out).mono ?_
    rintro e w2 ⟨rfl, h3, h4⟩
    have H3 := Lib.hid h3
    have H4 := Lib.hid h4
    clear h3 h4
    go_wp2
    go_ret
    exact ⟨by rw [HT.out]; rfl, by rw [HT.out]; exact H3.out, grownBy_trans H2.out H4.out⟩
  | some l =>
    rw [hst] at h1
    have b := h1.2
    have hlen := h1.1
    have c0 : w1.cell? ⟨r, 0, none⟩ = some (.string (strOf l)) := b.cell 0
    have c1 : w1.cell? ⟨r, 1, none⟩ = some (.bool false) := b.cell 1
    have f0 := b.frozen 0
    have hsz : (strOf l).size = l.length := size_strOf l
    have hw : IntKind.u64.wrap ((strOf l).size : Int) = ((strOf l).size : Int) := wrap_u64 _ (by omega)
    have HB := Lib.hid b
    have HLEN := Lib.hid hlen
    by_cases hl : l.length < (Wire.num st).1
    · have ht : Wire.text st = ([], none) := by unfold Wire.text; rw [hst]; dsimp only; rw [if_pos hl]
      have HT := Lib.hid ht
      have hd : decide ((strOf l).size < (Wire.num st).1) = true := by rw [decide_eq_true_eq]; omega
      clear ht h1 hst hl b hlen hsz
      generalize (Wire.num st).1 = n at *
      go_wp2_with fail
      refine (fail_any r _ false _ HB.out).mono ?_
      rintro e w2 ⟨rfl, h3, h4⟩
      have H3 := Lib.hid h3
      have H4 := Lib.hid h4
      clear h3 h4
      go_wp2
      go_ret
      exact ⟨by rw [HT.out]; rfl, by rw [HT.out]; exact H3.out, grownBy_trans H2.out H4.out⟩
    · have ht : Wire.text st = (l.take (Wire.num st).1, some (l.drop (Wire.num st).1)) := by unfold Wire.text; rw [hst]; dsimp only; rw [if_neg hl]
      have HT := Lib.hid ht
      have hd : decide ((strOf l).size < (Wire.num st).1) = false := by rw [decide_eq_false_iff_not]; omega
      have hs2 : (0 : Int) ≤ (((Wire.num st).1 : Nat) : Int) ∧ (((Wire.num st).1 : Nat) : Int) ≤ ((strOf l).size : Int) := by omega
      have hs3 : ((Wire.num st).1 : Nat) ≤ (strOf l).size := by omega
      clear ht h1 hst hl b hlen hsz
      generalize (Wire.num st).1 = n at *
      go_wp2
      go_ret
      have e1 : (strOf l).extract 0 n = strOf (l.take n) := by rw [extract_strOf, strOf_list]
      have e2 : (strOf l).extract n (strOf l).size = strOf (l.drop n) := by
        rw [← strOf_data ((strOf l).extract n (strOf l).size), extract_from, strOf_list]
      rw [e2]
      refine ⟨by rw [HT.out, ← e1]; rfl, ?_, grownBy_trans H2.out (grownBy_set _ _ _ _)⟩
      rw [HT.out]
      refine ⟨?_, HB.out.set 0 _⟩
      have := HLEN.out
      simp
      omega
end Go.Proofs.Ytpfdpodelkleiaa
