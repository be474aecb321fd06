/-
  WHAT THE SUM's FUNCTIONS DO, THE PROGRAM's AND THE REFERENCE's: each gives back the plain law's answer and changes nothing that was there.
-/
import Derived.Test.YtikimmhkfjaijaaRows
import Derived.Test.YtikimmhkfjaijaaBits
import Derived.Test.YtikimmhkfjaijaaCrcPlain
import Derived.Test.YtikimmhkfjaijaaMem
import Derived.Test.YtikimmhkfjaijaaStr
import Derived.WalkKit
import Derived.WalkSpells
import Derived.WalkLawsBesides
import Derived.Deep.QuietTactic
import Derived.BigQuiet
import Derived.Lib.Hide
namespace Go.Proofs.Ytikimmhkfjaijaa
open Go.RowKit
def tabI : List Int := [0, 498536548, 997073096, 651767980, 1994146192, 1802195444, 1303535960, 1342533948, 3988292384, 4027552580, 3604390888, 3412177804, 2607071920, 2262029012, 2685067896, 3183342108]
def tabV : Array Value := (tabI.map (Value.int .u32)).toArray
theorem tabV_one : (tabV.all fun x => x.oneCell') = true := by kernel_rfl
theorem tab_at : ∀ i, i < 16 → tabI[i]? = some ((Crc.tab i).toNat : Int) := by decide
theorem tabV_at (i : Nat) (h : i < 16) : tabV[i]? = some (.int .u32 ((Crc.tab i).toNat : Int)) := by
  have h1 : tabV[i]? = (tabI[i]?).map (Value.int .u32) := by unfold tabV; rw [List.getElem?_toArray, List.getElem?_map]
  rw [h1, tab_at i h]
  rfl
set_option maxHeartbeats 400000 in
theorem four_any (w : World) :
    Calls Try.prog 34 #[] w fun e w' => e = .returned (.agg tabV) ∧ Below w.heap.size w w' := by
  go_enter Try.func34, Try.ntmps34
  go_wp2_with (refine wpList_store_row rfl 80 _ _ rfl w.heap.size tabV rfl rfl 80 _ (heap_alloc_new _ _) (by kernel_rfl) rfl tabV_one ?_)
  refine bodyPost_ret (v := .agg tabV) (results_cell_row Try.results34 _ _ w.heap.size 80 tabV (0, 0) _ rfl (Blk.row (Blk.new _ _ _) _) Try.underlying80 rfl (by kernel_rfl)) rfl ⟨rfl, ?_⟩
  exact Below.setRow ((Below.refl _ _).alloc (Nat.le_refl _) _) (Nat.le_refl _) _

set_option maxHeartbeats 400000 in
theorem half_any (x : BitVec 32) (b : BitVec 8) (bn bl : Nat) (w : World) (hn : Blk w bn 61 #[.int .u32 (x.toNat : Int)]) (hl : Blk w bl 80 tabV) :
    Calls Try.prog 35 #[.int .u8 (b.toNat : Int), .pointer (some ⟨bn, 0, none⟩), .pointer (some ⟨bl, 0, none⟩)] w fun e w' => e = .returned (.tuple #[]) ∧ w' = (w.setCell ⟨bn, 0, none⟩ (.int .u32 ((Crc.half x b).toNat : Int))).drew := by
  have h0 : (0 : Int) ≤ (x.toNat : Int) := by omega
  have h1 : (x.toNat : Int) < 4294967296 := by have := x.isLt; omega
  have h2 : (0 : Int) ≤ (b.toNat : Int) := by omega
  have h3 : (b.toNat : Int) < 256 := by have := b.isLt; omega
  have c1 : w.cell? ⟨bn, 0, none⟩ = some (.int .u32 (x.toNat : Int)) := hn.cell 0
  have c2 : w.frozen? ⟨bn, 0, none⟩ = false := hn.frozen 0
  have hi : Crc.idx x b < 16 := Crc.idx_lt x b
  have c3 : w.cell? ⟨bl, Crc.idx x b, none⟩ = some (.int .u32 ((Crc.tab (Crc.idx x b)).toNat : Int)) := by rw [hl.cell]; exact tabV_at _ hi
  have hk : bits .and .u8 (bits .xor .u8 ((x.toNat : Int) % 256) (b.toNat : Int)) 15 = ((Crc.idx x b : Nat) : Int) := by
    rw [low_u8, xor_u8, show (15 : Int) = ((15#8).toNat : Int) from rfl, and_u8]; rfl
  have hfin : bits .xor .u32 ((x.toNat : Int) / 16) ((Crc.tab (Crc.idx x b)).toNat : Int) = ((Crc.half x b).toNat : Int) := by
    rw [show (16 : Int) = ((2 ^ 4 : Nat) : Int) from rfl, shr_u32, xor_u32]; rfl
  clear hn hl
  generalize Crc.idx x b = k at *
  generalize (Crc.half x b).toNat = y at *
  generalize (Crc.tab k).toNat = z at *
  go_enter Try.func35, Try.ntmps35
  go_wp2
  go_region
  go_end0
  exact ⟨rfl, rfl⟩

/-- a byte of a text -/
theorem st_take (s : ByteArray) (k : Nat) (h : k < s.size) (x : BitVec 32) : Crc.st x (s.data.toList.take (k + 1)) = Crc.step (Crc.st x (s.data.toList.take k)) s[k].toBitVec := by
  rw [List.take_succ_eq_append_getElem (by simpa using h), Crc.st_snoc]; rfl
set_option maxHeartbeats 1000000 in
theorem sum_any (s : ByteArray) (w : World) (hs : s.size ≤ maxLen) :
    Calls Try.prog 21 #[.string s] w fun e w' => e = .returned (.int .u32 ((Crc.sum s.data.toList).toNat : Int)) ∧ Below w.heap.size w w' := by
  unfold maxLen at hs
  have hmf : ∀ (fn : Fn) (first cap : Array Value) (w : World), (Instr.makeFunc fn first cap).run Try.prog w = .ok (.func fn first cap) w := fun _ _ _ _ => rfl
  go_enter Try.func21, Try.ntmps21
  go_wp2_with fail
  refine (four_any _).mono ?_
  rintro e w1 ⟨rfl, hb1⟩
  have HB := Lib.hid hb1
  clear hb1
  go_wp2_with (refine wpList_store_then rfl 80 _ _ rfl w1.heap.size tabV rfl rfl 80 _ (Blk.alloc (Blk.new _ _ _) _) (by kernel_rfl) rfl tabV_one ?_)
  refine Later.mk fun w2 hw2 => ?_
  have B1 : Blk w2 w1.heap.size 80 tabV := by rw [hw2]; exact Blk.row (Blk.alloc (Blk.new _ _ _) _) _
  have B2 : Blk w2 (w1.heap.size + 1) 61 #[.int .u32 0] := by rw [hw2]; exact Blk.farRow (Blk.newAt _ _ (by simp)) (by omega) _
  have hb2 : Below w1.heap.size w1 w2 := by rw [hw2]; exact Below.setRow (((Below.refl _ _).alloc (Nat.le_refl _) _).alloc (by simp) _) (Nat.le_refl _) _
  clear hw2
  have hL : w.heap.size ≤ w1.heap.size := HB.out.size
  have HB2 := Lib.hid (HB.out.trans (hb2.mono hL))
  have c1 := B2.cell 0
  have c2 := B2.frozen 0
  simp at c1
  clear hb2 HB
  have HB1 := Lib.hid B1
  have HB3 := Lib.hid B2
  clear B1 B2
  generalize w1.heap.size = L at *
  go_wp2
  go_loopw [6, 11] (fun _ i wr => ∃ k : Nat, k ≤ s.size ∧ i = .int .i64 k ∧ Below w.heap.size w wr ∧ Blk wr L 80 tabV ∧ Blk wr (L + 1) 61 #[.int .u32 ((Crc.st Crc.ones (s.data.toList.take k)).toNat : Int)]) (fun _ i _ => s.size - (intOf i).toNat)
  case atStart => exact ⟨0, Nat.zero_le _, rfl, HB2.out.setCell (by simp; omega) _, HB1.out.far (by simp) _, HB3.out.set 0 _⟩
  case round =>
    clear c1 c2 HB1 HB2 HB3
    obtain ⟨k, hk, rfl, hb, b1, b2⟩ := hrel
    have HB := Lib.hid hb
    clear hb
    by_cases hlt : k < s.size
    · have hx := st_take s k hlt Crc.ones
      have HX := Lib.hid hx
      clear hx
      go_wp2_with fail
      refine (half_any _ s[k].toBitVec _ _ _ b2 b1).mono ?_
      rintro e w3 ⟨rfl, hw3⟩
      have b1' : Blk w3 L 80 tabV := by rw [hw3]; exact (b1.far (by simp) _).drew
      have b2' : Blk w3 (L + 1) 61 #[.int .u32 ((Crc.half (Crc.st Crc.ones (s.data.toList.take k)) s[k].toBitVec).toNat : Int)] := by rw [hw3]; exact (b2.set 0 _).drew
      have hb' : Below w.heap.size w w3 := by rw [hw3]; exact (HB.out.setCell (by simp; omega) _).drew
      clear hw3 b1 b2 HB
      have HB := Lib.hid hb'
      clear hb'
      go_wp2_with fail
      rw [shr4_u8]
      refine (half_any _ (s[k].toBitVec >>> 4) _ _ _ b2' b1').mono ?_
      rintro e w4 ⟨rfl, hw4⟩
      have b1 : Blk w4 L 80 tabV := by rw [hw4]; exact (b1'.far (by simp) _).drew
      have b2 : Blk w4 (L + 1) 61 #[.int .u32 ((Crc.st Crc.ones (s.data.toList.take (k + 1))).toNat : Int)] := by
        rw [hw4, HX.out, ← Crc.half_half]; exact (b2'.set 0 _).drew
      have hb : Below w.heap.size w w4 := by rw [hw4]; exact (HB.out.setCell (by simp; omega) _).drew
      clear hw4 b1' b2' HB HX
      have HB := Lib.hid hb
      clear hb
      go_wp2
      go_roundw
      case rel => exact ⟨k + 1, by omega, by go_num, HB.out, b1, b2⟩
      case measure => simp [intOf]; omega
    · have c1 := b2.cell 0
      simp at c1
      have e0 : s.data.toList.take k = s.data.toList := List.take_of_length_le (by simp; omega)
      have hfin : bits .xor .u32 IntKind.u32.max ((Crc.st Crc.ones (s.data.toList.take k)).toNat : Int) = ((Crc.sum s.data.toList).toNat : Int) := by
        rw [e0, show IntKind.u32.max = (Crc.ones.toNat : Int) from rfl, xor_u32, BitVec.xor_comm]; rfl
      have HF := Lib.hid hfin
      clear hfin e0
      go_wp2
      go_ret
      exact ⟨ret_int HF.out, HB.out⟩

theorem bit_take (s : ByteArray) (k : Nat) (h : k < s.size) (x : BitVec 32) : Crc.st x (s.data.toList.take (k + 1)) = Crc.step (Crc.st x (s.data.toList.take k)) s[k].toBitVec := st_take s k h x
/-- j bits of a byte -/
def Crc.bitN (x : BitVec 32) : Nat → BitVec 32
  | 0 => x
  | j + 1 => bit (bitN x j)
theorem Crc.bit8 (x : BitVec 32) (b : BitVec 8) : Crc.bitN (x ^^^ b.setWidth 32) 8 = Crc.step x b := rfl
theorem Crc.bit_and (x : BitVec 32) : bits .and .u32 (x.toNat : Int) (1 : Int) = if x.getLsbD 0 then 1 else 0 := by
  rw [show (1 : Int) = ((1#32).toNat : Int) from rfl, and_u32, BitVec.toNat_and, show (1#32).toNat = 2 ^ 1 - 1 from rfl, Nat.and_two_pow_sub_one_eq_mod]
  rw [BitVec.getLsbD, Nat.testBit_zero]
  have : x.toNat % 2 = 0 ∨ x.toNat % 2 = 1 := by omega
  rcases this with h | h <;> simp [h]
end Go.Proofs.Ytikimmhkfjaijaa
