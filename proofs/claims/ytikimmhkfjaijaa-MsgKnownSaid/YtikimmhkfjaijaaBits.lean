/-
  THE MODEL's BITS AS BITVECTORS: what the operations on bits of unsigned kinds come to, where the numbers are given as bitvectors.
-/
import Derived.Below
import Derived.Laws.Bits
namespace Go.Proofs.Ytikimmhkfjaijaa

theorem wrap_u32 (n : Nat) (h : n < 4294967296) : IntKind.u32.wrap (n : Int) = n := by
  simp [IntKind.wrap, IntKind.bits, IntKind.signed]; omega
theorem wrap_u8 (n : Nat) (h : n < 256) : IntKind.u8.wrap (n : Int) = n := by
  simp [IntKind.wrap, IntKind.bits, IntKind.signed]; omega
theorem wrap_u64 (n : Nat) (h : n < 256 ^ 8) : IntKind.u64.wrap (n : Int) = n := by
  simp [IntKind.wrap, IntKind.bits, IntKind.signed]; omega
theorem xor_u32 (x y : BitVec 32) : bits .xor .u32 (x.toNat : Int) (y.toNat : Int) = ((x ^^^ y).toNat : Int) := by
  show IntKind.u32.wrap (((BitVec.ofInt 32 (x.toNat : Int)) ^^^ (BitVec.ofInt 32 (y.toNat : Int))).toNat : Int) = _
  rw [BitVec.ofInt_natCast, BitVec.ofInt_natCast, BitVec.ofNat_toNat, BitVec.ofNat_toNat, BitVec.setWidth_eq, BitVec.setWidth_eq]
  exact wrap_u32 _ (x ^^^ y).isLt
theorem and_u32 (x y : BitVec 32) : bits .and .u32 (x.toNat : Int) (y.toNat : Int) = ((x &&& y).toNat : Int) := by
  show IntKind.u32.wrap (((BitVec.ofInt 32 (x.toNat : Int)) &&& (BitVec.ofInt 32 (y.toNat : Int))).toNat : Int) = _
  rw [BitVec.ofInt_natCast, BitVec.ofInt_natCast, BitVec.ofNat_toNat, BitVec.ofNat_toNat, BitVec.setWidth_eq, BitVec.setWidth_eq]
  exact wrap_u32 _ (x &&& y).isLt
theorem xor_u8 (x y : BitVec 8) : bits .xor .u8 (x.toNat : Int) (y.toNat : Int) = ((x ^^^ y).toNat : Int) := by
  show IntKind.u8.wrap (((BitVec.ofInt 8 (x.toNat : Int)) ^^^ (BitVec.ofInt 8 (y.toNat : Int))).toNat : Int) = _
  rw [BitVec.ofInt_natCast, BitVec.ofInt_natCast, BitVec.ofNat_toNat, BitVec.ofNat_toNat, BitVec.setWidth_eq, BitVec.setWidth_eq]
  exact wrap_u8 _ (x ^^^ y).isLt
theorem and_u8 (x y : BitVec 8) : bits .and .u8 (x.toNat : Int) (y.toNat : Int) = ((x &&& y).toNat : Int) := by
  show IntKind.u8.wrap (((BitVec.ofInt 8 (x.toNat : Int)) &&& (BitVec.ofInt 8 (y.toNat : Int))).toNat : Int) = _
  rw [BitVec.ofInt_natCast, BitVec.ofInt_natCast, BitVec.ofNat_toNat, BitVec.ofNat_toNat, BitVec.setWidth_eq, BitVec.setWidth_eq]
  exact wrap_u8 _ (x &&& y).isLt
theorem low_u8 (x : BitVec 32) : ((x.toNat : Int) % 256) = ((x.setWidth 8).toNat : Int) := by
  rw [BitVec.toNat_setWidth]; omega
theorem shr_u32 (x : BitVec 32) (k : Nat) : ((x.toNat : Int) / (2 ^ k : Nat)) = ((x >>> k).toNat : Int) := by
  rw [BitVec.toNat_ushiftRight, Nat.shiftRight_eq_div_pow]; omega
theorem shr_u8 (x : BitVec 8) (k : Nat) : ((x.toNat : Int) / (2 ^ k : Nat)) = ((x >>> k).toNat : Int) := by
  rw [BitVec.toNat_ushiftRight, Nat.shiftRight_eq_div_pow]; omega
theorem shr1_u32 (x : BitVec 32) : ((x.toNat : Int) / (2 : Int)) = ((x >>> 1).toNat : Int) := by
  rw [BitVec.toNat_ushiftRight, Nat.shiftRight_eq_div_pow]; omega
theorem shr4_u8 (x : UInt8) : ((x.toNat : Int) / (16 : Int)) = ((x.toBitVec >>> 4).toNat : Int) := by
  rw [BitVec.toNat_ushiftRight, Nat.shiftRight_eq_div_pow, UInt8.toNat_toBitVec]; omega
theorem or_low (x b : Nat) (h : x * 256 + b < 256 ^ 8) (hb : b < 256) : bits .or .u64 (IntKind.u64.wrap ((x : Int) * 256)) (IntKind.u64.wrap (b : Int)) = ((x * 256 + b : Nat) : Int) := by
  have h1 : x * 256 < 256 ^ 8 := Nat.lt_of_le_of_lt (Nat.le_add_right _ _) h
  have h2 : b < 256 ^ 8 := Nat.lt_of_le_of_lt (Nat.le_add_left _ _) h
  have e64 : (256 : Nat) ^ 8 = 2 ^ 64 := by decide
  rw [show ((x : Int) * 256) = ((x * 256 : Nat) : Int) from (Int.natCast_mul x 256).symm, wrap_u64 (x * 256) h1, wrap_u64 b h2]
  show IntKind.u64.wrap (((BitVec.ofInt 64 ((x * 256 : Nat) : Int)) ||| (BitVec.ofInt 64 (b : Int))).toNat : Int) = _
  rw [BitVec.ofInt_natCast, BitVec.ofInt_natCast, BitVec.toNat_or, BitVec.toNat_ofNat, BitVec.toNat_ofNat, Nat.mod_eq_of_lt (e64 ▸ h1), Nat.mod_eq_of_lt (e64 ▸ h2)]
  have e : x * 256 ||| b = x * 256 + b := by
    rw [show x * 256 = x <<< 8 from by rw [Nat.shiftLeft_eq]]
    exact (Nat.shiftLeft_add_eq_or_of_lt (i := 8) hb x).symm
  rw [e]
  exact wrap_u64 _ h
end Go.Proofs.Ytikimmhkfjaijaa
