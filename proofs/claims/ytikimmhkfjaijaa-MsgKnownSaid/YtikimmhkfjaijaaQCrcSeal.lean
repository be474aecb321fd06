/-
  SEALING AND OPENING, THE PROGRAM's AND THE REFERENCE's.
-/
import Derived.Test.YtikimmhkfjaijaaQCrcRef
namespace Go.Proofs.Ytikimmhkfjaijaa
open Go.RowKit

set_option maxHeartbeats 400000 in
theorem seal_any (s : ByteArray) (w : World) (hs : s.size + 4 ≤ maxLen) :
    Calls Try.prog 13 #[.string s] w fun e w' => e = .returned (.string (strOf (Crc.sealed s.data.toList))) ∧ Below w.heap.size w w' := by
  have hs1 : s.size ≤ maxLen := by omega
  unfold maxLen at hs
  have hcat := run_string_add_sum (P := Try.prog) (a := s) (b := strOf (Crc.four (Crc.sum s.data.toList))) (h := by rw [size_strOf, Crc.length_four]; omega)
  rw [strOf_append] at hcat
  go_enter Try.func13, Try.ntmps13
  go_wp2_with fail
  refine (sum_any s _ hs1).mono ?_
  rintro e w1 ⟨rfl, hb⟩
  have HB := Lib.hid hb
  have HN := Lib.hid (four_nums (Crc.sum s.data.toList))
  have h0 : (0 : Int) ≤ ((Crc.sum s.data.toList).toNat : Int) := by omega
  have h1 : ((Crc.sum s.data.toList).toNat : Int) < 4294967296 := by have := (Crc.sum s.data.toList).isLt; omega
  have HC : Hid (strOf (s.data.toList ++ Crc.four (Crc.sum s.data.toList)) = strOf (Crc.sealed s.data.toList)) := rfl
  clear hb
  generalize Crc.four (Crc.sum s.data.toList) = l4 at *
  generalize ((Crc.sum s.data.toList).toNat : Int) = z at *
  have hc := run_convert_bytes_arg (P := Try.prog) (w1.alloc (Obj.cells #[Value.int IntKind.u8 (z / 16777216), Value.int IntKind.u8 (z / 65536 % 256), Value.int IntKind.u8 (z / 256 % 256), Value.int IntKind.u8 (z % 256)] 5))
      47 5 Try.underlying47 Try.underlying5 w1.heap.size 0 4 4 [z / 16777216, z / 65536 % 256, z / 256 % 256, z % 256] rfl (by
      intro i hi
      match i, hi with
      | 0, _ => simp [go_sem]
      | 1, _ => simp [go_sem]
      | 2, _ => simp [go_sem]
      | 3, _ => simp [go_sem]
      | n + 4, h => omega) 9 Try.underlying9
  rw [HN.out] at hc
  go_wp2
  go_ret
  exact ⟨ret_str HC.out, HB.out.alloc HB.out.size _⟩


theorem open_eq (s : ByteArray) (h : ¬ s.size < 4) : ((strOf (Crc.sealed (s.data.toList.take (s.size - 4)))).toList == s.toList) = Crc.opens s.data.toList := by
  rw [str_eq, strOf_list]
  unfold Crc.opens
  have h1 : s.data.toList.length = s.size := rfl
  rw [h1, decide_eq_true (by omega : 4 ≤ s.size), Bool.true_and]
theorem open_eq2 (s : ByteArray) (h : ¬ s.size < 4) : ((s.extract (s.size - 4) s.size).toList == (strOf (Crc.four (Crc.sum (s.data.toList.take (s.size - 4))))).toList) = Crc.opens s.data.toList := by
  rw [← open_eq s h, str_eq, str_eq, strOf_list, strOf_list]
  have h1 : s.data.toList.length = s.size := rfl
  have h2 : (s.extract (s.size - 4) s.size).data.toList = s.data.toList.drop (s.size - 4) := by
    rw [ByteArray.data_extract, Array.toList_extract, List.extract_eq_take_drop, ← h1]
    exact List.take_of_length_le (by rw [List.length_drop]; omega)
  rw [h2]
  rw [decide_eq_decide]
  constructor
  · intro e
    unfold Crc.sealed
    rw [← e, List.take_append_drop]
  · intro e
    have := congrArg (List.drop (s.size - 4)) e
    rw [← this]
    unfold Crc.sealed
    rw [List.drop_append_of_le_length (by simp)]
    simp

/-- what opening gives -/
def openV (s : ByteArray) : Value :=
  if Crc.opens s.data.toList then .tuple #[.string (strOf (s.data.toList.take (s.size - 4))), .bool true] else .tuple #[.string ByteArray.empty, .bool false]

set_option maxHeartbeats 400000 in
theorem open_any (s : ByteArray) (w : World) (hs : s.size ≤ maxLen) :
    Calls Try.prog 12 #[.string s] w fun e w' => e = .returned (openV s) ∧ Below w.heap.size w w' := by
  have hs0 := hs
  unfold maxLen at hs
  by_cases h4 : s.size < 4
  · have ho : openV s = .tuple #[.string ByteArray.empty, .bool false] := by
      unfold openV Crc.opens
      rw [if_neg]
      simp; omega
    rw [ho]
    go_enter Try.func12, Try.ntmps12
    go_wp2
    go_ret2
    exact ⟨rfl, Below.refl _ _⟩
  · have hz : (s.size : Int) - 4 = ((s.size - 4 : Nat) : Int) := by omega
    have hk : s.size - 4 ≤ s.size := by omega
    have hlt : ¬ ((s.size : Int) - 4 < 0) := by omega
    have hd : decide ((s.size : Int) - 4 < 0) = false := decide_eq_false hlt
    have HZ := Lib.hid hz
    clear hz
    go_enter Try.func12, Try.ntmps12
    go_wp2_with fail
    refine (seal_any _ _ (by simp [maxLen]; omega)).mono ?_
    rintro e w1 ⟨rfl, hb⟩
    have HB := Lib.hid hb
    clear hb
    have hq := open_eq s h4
    cases ho : Crc.opens s.data.toList
    · rw [ho] at hq
      go_wp2
      go_ret2
      exact ⟨by rw [openV, if_neg (by rw [ho]; exact Bool.false_ne_true)]; rfl, HB.out⟩
    · rw [ho] at hq
      go_wp2
      go_ret2
      exact ⟨by rw [openV, if_pos ho, ← extract_strOf]; rfl, HB.out⟩


end Go.Proofs.Ytikimmhkfjaijaa
