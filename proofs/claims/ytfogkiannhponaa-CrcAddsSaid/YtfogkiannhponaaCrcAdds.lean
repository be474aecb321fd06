/-
  THE SUM IS ONE OF BITS.
-/
import Derived.Test.YtfogkiannhponaaCrcLaws
namespace Go.Proofs.Ytfogkiannhponaa
open Go.RowKit
def vb (b : UInt8) : Value := .int .u8 (b.toNat : Int)
def zb : Value := .int .u8 0
/-- k bytes laid, the others still zeros -/
def laid (l : List UInt8) (k : Nat) : Array Value := ((l.take k).map vb ++ List.replicate (l.length - k) zb).toArray
theorem laid_size (l : List UInt8) (k : Nat) (h : k ≤ l.length) : (laid l k).size = l.length := by simp [laid]; omega
theorem laid_set (l : List UInt8) (k : Nat) (h : k < l.length) : (laid l k).setIfInBounds k (vb l[k]) = laid l (k + 1) := by
  apply Array.ext'
  simp only [laid, List.setIfInBounds_toArray]
  have e1 : ((l.take k).map vb).length = k := by simp; omega
  rw [List.set_append_right _ _ (by omega), e1, Nat.sub_self]
  rw [show l.length - k = (l.length - (k + 1)) + 1 from by omega, List.replicate_succ, List.set_cons_zero, List.take_succ_eq_append_getElem h, List.map_append, List.append_assoc]
  rfl
theorem laid_zero (l : List UInt8) : laid l 0 = (List.replicate l.length zb).toArray := by simp [laid]
theorem laid_all (l : List UInt8) : laid l l.length = (l.map vb).toArray := by simp [laid]
theorem laid_at (l : List UInt8) (j : Nat) (h : j < l.length) : (laid l l.length)[j]? = some (vb l[j]) := by
  rw [laid_all]; simp [h]
theorem laid_old (l : List UInt8) (k : Nat) (h : k < l.length) : ∃ v, (laid l k)[k]? = some v := by
  have : k < (laid l k).size := by rw [laid_size l k (by omega)]; exact h
  exact ⟨_, Array.getElem?_eq_getElem this⟩
/-- make([]byte, n) -/
theorem made_bytes {P : Program} (w : World) (t e : TypeId) (i : TypeInfo) (ht : P.underlying t = some (.slice e)) (hi : P.info? e = some i) (hz : i.zero = some (.int .u8 0)) (hsz : i.size = 1) (hby : i.bytes = 1) (n : Nat) (hn : n ≤ 140737488351232) :
    ∃ w', (Instr.makeSlice t (.int .i64 (n : Int)) (.int .i64 (n : Int))).run P w = .ok (.slice (some ⟨w.heap.size, 0, none⟩) n n) w' ∧ Blk w' w.heap.size e (List.replicate n zb).toArray ∧ w'.heap.size = w.heap.size + 1 ∧ Below w.heap.size w w' := by
  have h := run_make (P := P) w t e i (.int .u8 0) ht hi hz .i64 .i64 (n : Int) (n : Int) (by omega) (Int.le_refl _) (by rw [hby]; omega) (by omega)
  refine ⟨_, by simpa using h, ?_, by simp, (Below.refl _ _).alloc (Nat.le_refl _) _⟩
  rw [hsz]
  have e0 : madeCells (Value.cells (.int .u8 0)) (n * 1) = (List.replicate n zb).toArray := by
    rw [Nat.mul_one]
    apply Array.ext'
    exact toList_madeCells_one _ _
  rw [e0]
  exact Blk.new _ _ _
theorem xor_bytes (a b c : ByteArray) (k : Nat) (ha : k < a.size) (hb : k < b.size) (hc : k < c.size) :
    bits .xor .u8 (bits .xor .u8 (a[k].toNat : Int) (b[k].toNat : Int)) (c[k].toNat : Int) = ((a[k] ^^^ b[k] ^^^ c[k]).toNat : Int) := by
  rw [show (a[k].toNat : Int) = (a[k].toBitVec.toNat : Int) from rfl, show (b[k].toNat : Int) = (b[k].toBitVec.toNat : Int) from rfl, show (c[k].toNat : Int) = (c[k].toBitVec.toNat : Int) from rfl, xor_u8, xor_u8]
  rfl
/-- the xor of three texts -/
def xor3 (a b c : ByteArray) : List UInt8 := List.zipWith (· ^^^ ·) (List.zipWith (· ^^^ ·) a.data.toList b.data.toList) c.data.toList
theorem xor3_length (a b c : ByteArray) : (xor3 a b c).length = min (min a.size b.size) c.size := by simp [xor3]
theorem xor3_at (a b c : ByteArray) (k : Nat) (ha : k < a.size) (hb : k < b.size) (hc : k < c.size) (h : k < (xor3 a b c).length) : (xor3 a b c)[k] = a[k] ^^^ b[k] ^^^ c[k] := by
  simp [xor3, ByteArray.getElem_eq_getElem_data]
theorem xor3_sum (a b c : ByteArray) (n : Nat) (hn : n = min (min a.size b.size) c.size) :
    Crc.sum (xor3 a b c) = Crc.sum (a.data.toList.take n) ^^^ Crc.sum (b.data.toList.take n) ^^^ Crc.sum (c.data.toList.take n) := by
  rw [← Crc.sum_xor3 _ _ _ (by simp; omega) (by simp; omega)]
  congr 1
  unfold xor3
  apply List.ext_getElem
  · simp; omega
  · intro i h1 h2
    simp
set_option maxHeartbeats 1000000 in
theorem law_CrcAdds (a b c : ByteArray) (w : World) (ha : a.size ≤ reachBytes) (hb : b.size ≤ reachBytes) (hc : c.size ≤ reachBytes) :
    Calls Try.prog 6 #[.string a, .string b, .string c] w fun e w' => e = .returned (.bool true) ∧ Below w.heap.size w w' := by
  have ha' : a.size ≤ 140737488351232 := ha
  have hb' : b.size ≤ 140737488351232 := hb
  have hc' : c.size ≤ 140737488351232 := hc
  clear ha hb hc
  have hmin : ∀ ts t w, (Builtin.min_ ts t #[.int .i64 (a.size : Int), .int .i64 (b.size : Int), .int .i64 (c.size : Int)]).run Try.prog w = .ok (.int .i64 (((xor3 a b c).length : Nat) : Int)) w := by
    intro ts t w
    rw [run_min_int3]
    congr 2
    rw [xor3_length]
    simp only [Int.ofNat_lt]
    split <;> split <;> omega
  have hXS := Lib.hid (xor3_sum a b c _ (xor3_length a b c))
  have hXA := Lib.hid (xor3_at a b c)
  have hn := xor3_length a b c
  have hna : (xor3 a b c).length ≤ a.size := by omega
  have hnb : (xor3 a b c).length ≤ b.size := by omega
  have hnc : (xor3 a b c).length ≤ c.size := by omega
  clear hn
  generalize hX : xor3 a b c = X at *
  clear hX
  go_enter Try.func6, Try.ntmps6
  go_wp2_with fail
  refine (works_any _).mono ?_
  rintro e w1 ⟨rfl, hb1⟩
  have HB1 := Lib.hid hb1
  clear hb1
  obtain ⟨i0, hi, hz0, hz1, hz2⟩ := info_parts (show (Try.prog.info? 5).map (fun i => (i.zero, i.size, i.bytes)) = some (some (.int .u8 0), 1, 1) by kernel_rfl)
  obtain ⟨w2, hmk, B2, hs2, hb2⟩ := made_bytes (P := Try.prog) w1 29 5 i0 Try.underlying29 hi hz0 hz1 hz2 X.length (by omega)
  have HB2 := Lib.hid (HB1.out.trans (hb2.mono HB1.out.size))
  have hL : w.heap.size ≤ w1.heap.size := HB1.out.size
  clear hb2 HB1 hi hz0 hz1 hz2
  rw [← laid_zero] at B2
  have HBK := Lib.hid B2
  clear B2
  generalize w1.heap.size = L at *
  go_wp2
  go_loopw [9] (fun i wr => ∃ k : Nat, k ≤ X.length ∧ i = .int .i64 k ∧ Below w.heap.size w wr ∧ Blk wr L 5 (laid X k)) (fun i _ => X.length - (intOf i).toNat)
  case atStart => exact ⟨0, Nat.zero_le _, rfl, HB2.out, HBK.out⟩
  case round =>
    clear hmk hmin HBK HB2
    obtain ⟨k, hk, rfl, hb, B⟩ := hrel
    have HB := Lib.hid hb
    have HK := Lib.hid B
    clear hb B
    by_cases hlt : k < X.length
    · have hx := xor_bytes a b c k (by omega) (by omega) (by omega)
      rw [← hXA.out k (by omega) (by omega) (by omega) hlt] at hx
      obtain ⟨v, hv⟩ := laid_old X k hlt
      have c1 : wr.cell? ⟨L, k, none⟩ = some v := (HK.out.cell k).trans hv
      have c2 := HK.out.frozen k
      have q1 : k < a.size := by omega
      have q2 : k < b.size := by omega
      have q3 : k < c.size := by omega
      have hk1 : (0 : Int) ≤ (k : Int) := by omega
      have hk2 : (k : Int) < (X.length : Int) := by omega
      go_wp2
      go_region
      have hfin : Blk (wr.setCell ⟨L, k, none⟩ (.int .u8 (X[k].toNat : Int))).drew L 5 (laid X (k + 1)) := by
        rw [← laid_set X k hlt]; exact (HK.out.set k _).drew
      have hbel : Below w.heap.size w (wr.setCell ⟨L, k, none⟩ (.int .u8 (X[k].toNat : Int))).drew := (HB.out.setCell hL _).drew
      have HF := Lib.hid hfin
      have HG := Lib.hid hbel
      clear hfin hbel
      go_wp2
      go_roundw
      case rel => exact ⟨k + 1, by omega, by go_num, HG.out, HF.out⟩
      case measure => simp [intOf]; omega
    · obtain rfl : k = X.length := by omega
      have hconv : ∀ x : Bw wr, (convert 29 9 (.slice (some ⟨L, 0, none⟩) X.length X.length)).run Try.prog x.w = .ok (.string (strOf X)) x.w := fun x =>
        str_of (P := Try.prog) x.w 29 9 5 L X.length X.length X Try.underlying29 Try.underlying5 Try.underlying9 rfl (fun j hj => x.cell (by rw [HK.out.cell]; exact laid_at X j hj))
      have hsum := hXS.out
      have hx : bits .xor .u32 (bits .xor .u32 ((Crc.sum (a.data.toList.take X.length)).toNat : Int) ((Crc.sum (b.data.toList.take X.length)).toNat : Int)) ((Crc.sum (c.data.toList.take X.length)).toNat : Int) = ((Crc.sum (strOf X).data.toList).toNat : Int) := by
        rw [xor_u32, xor_u32, strOf_list, hsum]
      have z1 : (a.extract 0 X.length).size ≤ maxLen := by unfold maxLen; simp; omega
      have z2 : (b.extract 0 X.length).size ≤ maxLen := by unfold maxLen; simp; omega
      have z3 : (c.extract 0 X.length).size ≤ maxLen := by unfold maxLen; simp; omega
      have z4 : (strOf X).size ≤ maxLen := by rw [size_strOf]; unfold maxLen; omega
      have Z1 := Lib.hid z1
      have Z2 := Lib.hid z2
      have Z3 := Lib.hid z3
      have Z4 := Lib.hid z4
      clear z1 z2 z3 z4 hsum hXS hXA
      have k1 : (0 : Int) ≤ (X.length : Int) := by omega
      have k2 : (X.length : Int) ≤ (a.size : Int) := by omega
      have k3 : (X.length : Int) ≤ (b.size : Int) := by omega
      have k4 : (X.length : Int) ≤ (c.size : Int) := by omega
      go_wp2
      refine wp_region_below (by kernel_rfl) (by kernel_rfl) ?_
      repeat (go_big_quiet_step (first | (go_at_call 9; exact below_call (sum_any _ _ Z4.out)) | (go_at_call 9; exact below_call (sum_any _ _ Z1.out)) | (go_at_call 9; exact below_call (sum_any _ _ Z2.out)) | (go_at_call 9; exact below_call (sum_any _ _ Z3.out))))
      refine wpQuiet_nil ?_
      intro w5 hb5
      have HB5 := Lib.hid (HB.out.trans (hb5.mono HB.out.size))
      clear hb5
      go_wp2
      go_ret
      exact ⟨rfl, HB5.out⟩
end Go.Proofs.Ytfogkiannhponaa
