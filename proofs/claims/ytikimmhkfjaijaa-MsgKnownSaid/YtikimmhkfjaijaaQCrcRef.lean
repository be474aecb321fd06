/-
  WHAT THE REFERENCE's SUM DOES.
-/
import Derived.Test.YtikimmhkfjaijaaCrcWalks
namespace Go.Proofs.Ytikimmhkfjaijaa
open Go.RowKit

/-! ### The sum's four bytes, and what is sealed -/
theorem u8_byte (n : BitVec 32) (k : Nat) : UInt8.ofNat (((n >>> k).setWidth 8 : BitVec 8).toNat : Int).toNat = ⟨(n >>> k).setWidth 8⟩ := by
  rw [Int.toNat_natCast]
  apply UInt8.toNat.inj
  show (UInt8.ofNat _).toNat = _
  rw [UInt8.toNat_ofNat', Nat.mod_eq_of_lt (BitVec.isLt _)]
  rfl
theorem four_nums (n : BitVec 32) : strOfNums [((n.toNat : Int) / 16777216), ((n.toNat : Int) / 65536 % 256), ((n.toNat : Int) / 256 % 256), ((n.toNat : Int) % 256)] = strOf (Crc.four n) := by
  have h3 : ((n.toNat : Int) / (16777216 : Int)) = (((n >>> 24).setWidth 8 : BitVec 8).toNat : Int) := by
    have := n.isLt
    rw [BitVec.toNat_setWidth, BitVec.toNat_ushiftRight, Nat.shiftRight_eq_div_pow]; omega
  have h2 : ((n.toNat : Int) / (65536 : Int) % (256 : Int)) = (((n >>> 16).setWidth 8 : BitVec 8).toNat : Int) := by
    rw [BitVec.toNat_setWidth, BitVec.toNat_ushiftRight, Nat.shiftRight_eq_div_pow]; omega
  have h1 : ((n.toNat : Int) / (256 : Int) % (256 : Int)) = (((n >>> 8).setWidth 8 : BitVec 8).toNat : Int) := by
    rw [BitVec.toNat_setWidth, BitVec.toNat_ushiftRight, Nat.shiftRight_eq_div_pow]; omega
  have h0 : ((n.toNat : Int) % (256 : Int)) = (((n >>> 0).setWidth 8 : BitVec 8).toNat : Int) := by
    rw [BitVec.toNat_setWidth, BitVec.toNat_ushiftRight, Nat.shiftRight_eq_div_pow]; omega
  rw [h3, h2, h1, h0]
  have e : (strOfNums [(((n >>> 24).setWidth 8 : BitVec 8).toNat : Int), (((n >>> 16).setWidth 8 : BitVec 8).toNat : Int), (((n >>> 8).setWidth 8 : BitVec 8).toNat : Int), (((n >>> 0).setWidth 8 : BitVec 8).toNat : Int)]).data.toList = Crc.four n := by
    rw [strOfNums_data]
    simp only [List.map_cons, List.map_nil, u8_byte]
    simp [Crc.four]
  rw [← e, strOf_data]


end Go.Proofs.Ytikimmhkfjaijaa
