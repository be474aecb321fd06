/-
  WHAT THE REFERENCE's SUM DOES.
-/
import Derived.Test.YtpfdpodelkleiaaCrcWalks
namespace Go.Proofs.Ytpfdpodelkleiaa
open Go.RowKit
set_option maxHeartbeats 1000000 in
theorem refSum_any (s : ByteArray) (w : World) (hs : s.size ≤ maxLen) :
    Calls Try.prog 64 #[.string s] w fun e w' => e = .returned (.int .u32 ((Crc.sum s.data.toList).toNat : Int)) ∧ w = w' := by
  unfold maxLen at hs
  go_enter Try.func64, Try.ntmps64
  go_wp2
  go_loopw [3, 4] (fun n i wr => ∃ k : Nat, k ≤ s.size ∧ i = .int .i64 k ∧ n = .int .u32 ((Crc.st Crc.ones (s.data.toList.take k)).toNat : Int) ∧ w = wr) (fun _ i _ => s.size - (intOf i).toNat)
  case atStart => exact ⟨0, Nat.zero_le _, rfl, rfl, rfl⟩
  case round =>
    obtain ⟨k, hk, rfl, rfl, rfl⟩ := hrel
    by_cases hlt : k < s.size
    · have HX := Lib.hid (st_take s k hlt Crc.ones)
      have e1 : bits .xor .u32 ((Crc.st Crc.ones (s.data.toList.take k)).toNat : Int) ((s[k].toNat : Int) % 4294967296) = ((Crc.st Crc.ones (s.data.toList.take k) ^^^ s[k].toBitVec.setWidth 32).toNat : Int) := by
        rw [show ((s[k].toNat : Int) % 4294967296) = ((s[k].toBitVec.setWidth 32).toNat : Int) from by rw [BitVec.toNat_setWidth, UInt8.toNat_toBitVec]; have := s[k].toNat_lt; omega, xor_u32]
      have e8 := Crc.bit8 (Crc.st Crc.ones (s.data.toList.take k)) s[k].toBitVec
      generalize Crc.st Crc.ones (s.data.toList.take k) ^^^ s[k].toBitVec.setWidth 32 = y at e1 e8
      have HY := Lib.hid e8
      clear e8
      go_wp2
      go_loopw [3, 5] (fun n i wr => ∃ j : Nat, j ≤ 8 ∧ i = .int .i64 j ∧ n = .int .u32 ((Crc.bitN y j).toNat : Int) ∧ w = wr) (fun _ i _ => 8 - (intOf i).toNat)
      case atStart => exact ⟨0, Nat.zero_le _, rfl, rfl, rfl⟩
      case round =>
        obtain ⟨j, hj, rfl, rfl, rfl⟩ := hrel
        clear e1
        by_cases hj8 : j < 8
        · have HS : Hid (Crc.bitN y (j + 1) = Crc.bit (Crc.bitN y j)) := rfl
          generalize Crc.bitN y j = z at *
          have ea := Crc.bit_and z
          have b0 : (0 : Int) ≤ (z.toNat : Int) := by omega
          have b1 : (z.toNat : Int) < 4294967296 := by have := z.isLt; omega
          by_cases hz : z.getLsbD 0 = true
          · rw [if_pos hz] at ea
            have ex : bits .xor .u32 ((z.toNat : Int) / 2) 3988292384 = ((Crc.bit z).toNat : Int) := by
              rw [Crc.bit, if_pos hz, ← xor_u32, ← shr1_u32]; rfl
            clear hz
            generalize (z.toNat : Int) = zi at *
            go_wp2
            go_roundw
            case rel => exact ⟨j + 1, by omega, by go_num, by rw [HS.out], trivial⟩
            case measure => simp [intOf]; omega
          · rw [if_neg hz] at ea
            have ex : ((z.toNat : Int) / 2) = ((Crc.bit z).toNat : Int) := by
              rw [Crc.bit, if_neg hz, ← shr1_u32]
            have HZ := Lib.hid ex
            clear hz ex
            generalize (z.toNat : Int) = zi at *
            go_wp2
            go_roundw
            case rel => exact ⟨j + 1, by omega, by go_num, by rw [HS.out, ← HZ.out], trivial⟩
            case measure => simp [intOf]; omega
        · obtain rfl : j = 8 := by omega
          go_wp2
          go_roundw
          case rel => exact ⟨k + 1, by omega, by go_num, by rw [HX.out, ← HY.out], trivial⟩
          case measure => simp [intOf]; omega
    · have e0 : s.data.toList.take k = s.data.toList := List.take_of_length_le (by simp; omega)
      have hfin : bits .xor .u32 ((Crc.st Crc.ones (s.data.toList.take k)).toNat : Int) 4294967295 = ((Crc.sum s.data.toList).toNat : Int) := by
        rw [e0, show (4294967295 : Int) = (Crc.ones.toNat : Int) from rfl, xor_u32]; rfl
      have HF := Lib.hid hfin
      clear hfin e0
      go_wp2
      go_ret
      exact ⟨ret_int HF.out, rfl⟩

/-! ### The sum's four bytes, and what is sealed -/
theorem u8_byte (n : BitVec 32) (k : Nat) : UInt8.ofNat (((n >>> k).setWidth 8 : BitVec 8).toNat : Int).toNat = ⟨(n >>> k).setWidth 8⟩ := by
  rw [Int.toNat_natCast]
  apply UInt8.toNat.inj
  show (UInt8.ofNat _).toNat = _
  rw [UInt8.toNat_ofNat', Nat.mod_eq_of_lt (BitVec.isLt _)]
  rfl
theorem four_nums (n : BitVec 32) : strOfNums [((n.toNat : Int) / 16777216), ((n.toNat : Int) / 65536 % 256), ((n.toNat : Int) / 256 % 256), ((n.toNat : Int) % 256)] = strOf (Crc.four n) := by
  have h3 : ((n.toNat : Int) / (16777216 : Int)) = (((n >>> 24).setWidth 8 : BitVec 8).toNat : Int) := by
    have := n.isLt
    rw [BitVec.toNat_setWidth, BitVec.toNat_ushiftRight, Nat.shiftRight_eq_div_pow]; omega
  have h2 : ((n.toNat : Int) / (65536 : Int) % (256 : Int)) = (((n >>> 16).setWidth 8 : BitVec 8).toNat : Int) := by
    rw [BitVec.toNat_setWidth, BitVec.toNat_ushiftRight, Nat.shiftRight_eq_div_pow]; omega
  have h1 : ((n.toNat : Int) / (256 : Int) % (256 : Int)) = (((n >>> 8).setWidth 8 : BitVec 8).toNat : Int) := by
    rw [BitVec.toNat_setWidth, BitVec.toNat_ushiftRight, Nat.shiftRight_eq_div_pow]; omega
  have h0 : ((n.toNat : Int) % (256 : Int)) = (((n >>> 0).setWidth 8 : BitVec 8).toNat : Int) := by
    rw [BitVec.toNat_setWidth, BitVec.toNat_ushiftRight, Nat.shiftRight_eq_div_pow]; omega
  rw [h3, h2, h1, h0]
  have e : (strOfNums [(((n >>> 24).setWidth 8 : BitVec 8).toNat : Int), (((n >>> 16).setWidth 8 : BitVec 8).toNat : Int), (((n >>> 8).setWidth 8 : BitVec 8).toNat : Int), (((n >>> 0).setWidth 8 : BitVec 8).toNat : Int)]).data.toList = Crc.four n := by
    rw [strOfNums_data]
    simp only [List.map_cons, List.map_nil, u8_byte]
    simp [Crc.four]
  rw [← e, strOf_data]

set_option maxHeartbeats 400000 in
theorem bytes_any (n : BitVec 32) (w : World) :
    Calls Try.prog 63 #[.int .u32 (n.toNat : Int)] w fun e w' => e = .returned (.string (strOf (Crc.four n))) ∧ Below w.heap.size w w' := by
  have HN := Lib.hid (four_nums n)
  have h0 : (0 : Int) ≤ (n.toNat : Int) := by omega
  have h1 : (n.toNat : Int) < 4294967296 := by have := n.isLt; omega
  generalize (n.toNat : Int) = z at *
  have hc := run_convert_bytes_arg (P := Try.prog) (w.alloc (Obj.cells #[Value.int IntKind.u8 (z / 16777216), Value.int IntKind.u8 (z / 65536 % 256), Value.int IntKind.u8 (z / 256 % 256), Value.int IntKind.u8 (z % 256)] 5))
      61 5 Try.underlying61 Try.underlying5 w.heap.size 0 4 4 [z / 16777216, z / 65536 % 256, z / 256 % 256, z % 256] rfl (by
      intro i hi
      match i, hi with
      | 0, _ => simp [go_sem]
      | 1, _ => simp [go_sem]
      | 2, _ => simp [go_sem]
      | 3, _ => simp [go_sem]
      | n + 4, h => omega) 9 Try.underlying9
  rw [HN.out] at hc
  go_enter Try.func63, Try.ntmps63
  go_wp2
  go_ret
  exact ⟨rfl, (Below.refl _ _).alloc (Nat.le_refl _) _⟩
end Go.Proofs.Ytpfdpodelkleiaa
