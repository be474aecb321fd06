/-
  THE PROGRAM's READER: Text, OK, End; and the one that is not there.
-/
import Derived.Test.YtikimmhkfjaijaaQWireNum
namespace Go.Proofs.Ytikimmhkfjaijaa
open Go.RowKit Reg

def TextPost (w : World) (r : Nat) (st : Wire.St) (e : Ending) (w' : World) : Prop := e = .returned (.string (strOf (Wire.text st).1)) ∧ Rdr w' r (Wire.text st).2 ∧ w.grownBy w' (some r)
theorem conv_nil (w : World) : (convert 47 9 (.slice none 0 0)).run Try.prog w = .ok (.string ByteArray.empty) w := run_convert_bytes_nil w 47 5 Try.underlying47 Try.underlying5 0 0 9 Try.underlying9
set_option maxHeartbeats 400000 in
theorem text_any (r : Nat) (st : Wire.St) (w : World) (h : Rdr w r st) : Calls Try.prog 71 #[.pointer (some ⟨r, 0, none⟩)] w (TextPost w r st) := by
  have hcn := conv_nil
  go_enter Try.func71, Try.ntmps71
  go_wp2_with fail
  refine (num_any r st w h).mono ?_
  rintro e w1 ⟨rfl, h1, h2⟩
  have H2 := Lib.hid h2
  clear h h2
  cases hst : (Wire.num st).2 with
  | none =>
    have ht : Wire.text st = ([], none) := by unfold Wire.text; rw [hst]
    rw [hst] at h1
    have HT := Lib.hid ht
    have H1 := Lib.hid h1
    clear ht h1 hst
    generalize (Wire.num st).1 = n at *
    go_wp2_with fail
    refine (take_bad r n w1 H1.out).mono ?_
    rintro e w2 ⟨rfl, h3, h4⟩
    have H3 := Lib.hid h3
    have H4 := Lib.hid h4
    clear h3 h4
    go_wp2
    go_ret
    exact ⟨by rw [HT.out]; rfl, by rw [HT.out]; exact H3.out, grownBy_trans H2.out H4.out⟩
  | some l =>
    rw [hst] at h1
    by_cases hl : l.length < (Wire.num st).1
    · have ht : Wire.text st = ([], none) := by unfold Wire.text; rw [hst]; dsimp only; rw [if_pos hl]
      have HT := Lib.hid ht
      have H1 := Lib.hid h1
      have HL := Lib.hid hl
      clear ht h1 hst hl
      generalize (Wire.num st).1 = n at *
      go_wp2_with fail
      refine (take_over r n l w1 H1.out HL.out).mono ?_
      rintro e w2 ⟨rfl, h3, h4⟩
      have H3 := Lib.hid h3
      have H4 := Lib.hid h4
      clear h3 h4
      go_wp2
      go_ret
      exact ⟨by rw [HT.out]; rfl, by rw [HT.out]; exact H3.out, grownBy_trans H2.out H4.out⟩
    · have ht : Wire.text st = (l.take (Wire.num st).1, some (l.drop (Wire.num st).1)) := by unfold Wire.text; rw [hst]; dsimp only; rw [if_neg hl]
      have HT := Lib.hid ht
      have H1 := Lib.hid h1
      have HL : Hid ((Wire.num st).1 ≤ l.length) := Nat.le_of_not_lt hl
      clear ht h1 hst hl
      generalize (Wire.num st).1 = n at *
      go_wp2_with fail
      refine (take_ok r n l w1 H1.out HL.out).mono ?_
      rintro e w2 ⟨g, off, rfl, hg, hrd, h3, h4⟩
      have H3 := Lib.hid h3
      have H4 := Lib.hid h4
      have hc := str_of_rd (P := Try.prog) 47 9 5 Try.underlying47 Try.underlying5 Try.underlying9 hrd
      clear h3 h4 hrd hcn
      go_wp2
      go_ret
      exact ⟨by rw [HT.out]; rfl, by rw [HT.out]; exact H3.out, grownBy_trans H2.out H4.out⟩
/-- is it still good? -/
def okB (st : Wire.St) : Bool := st.isSome
/-- was all read? -/
def endB (st : Wire.St) : Bool := decide (st = some [])
set_option maxHeartbeats 400000 in
theorem take_nil (n : Int) (w : World) : Calls Try.prog 67 #[.pointer none, .int .u64 n] w fun e w' => e = .returned (.slice none 0 0) ∧ w = w' := by
  go_enter Try.func67, Try.ntmps67
  go_wp2
  go_ret
  exact ⟨rfl, rfl⟩
set_option maxHeartbeats 400000 in
theorem num_none_there (w : World) : Calls Try.prog 52 #[.pointer none] w fun e w' => e = .returned (.int .u64 0) ∧ w = w' := by
  have hmf : ∀ (fn : Fn) (first cap : Array Value) (w : World), (Instr.makeFunc fn first cap).run Try.prog w = .ok (.func fn first cap) w := fun _ _ _ _ => rfl
  go_enter Try.func52, Try.ntmps52
  go_wp2_with fail
  refine (take_nil 1 w).mono ?_
  rintro e w1 ⟨rfl, rfl⟩
  go_wp2
  go_ret
  exact ⟨rfl, rfl⟩
set_option maxHeartbeats 400000 in
theorem text_none_there (w : World) : Calls Try.prog 71 #[.pointer none] w fun e w' => e = .returned (.string ByteArray.empty) ∧ w = w' := by
  have hcn := conv_nil
  go_enter Try.func71, Try.ntmps71
  go_wp2_with fail
  refine (num_none_there w).mono ?_
  rintro e w1 ⟨rfl, rfl⟩
  go_wp2_with fail
  refine (take_nil 0 w).mono ?_
  rintro e w1 ⟨rfl, rfl⟩
  go_wp2
  go_ret
  exact ⟨rfl, rfl⟩
end Go.Proofs.Ytikimmhkfjaijaa
