/-
  MESSAGES: QRfA, QRfB, in one text (merged by wip/merge.py).
-/
import Derived.Test.YtikimmhkfjaijaaGreatQWireTextS
import Derived.Test.YtikimmhkfjaijaaGreatQCrcSeal
namespace Go.Proofs.YtikimmhkfjaijaaGreat
open Go.RowKit Reg Go.ChangeShapes

set_option maxRecDepth 100000 in
set_option maxHeartbeats 1000000 in
theorem refPutNum_any (s : ByteArray) (n : Nat) (w : World) (hn : n < 256 ^ 8) (hs : s.size + 100 ≤ maxLen) :
    Calls Tryz.prog 16 #[.string s, .int .u64 (n : Int)] w fun e w' => e = .returned (.string (strOf (s.data.toList ++ Wire.putNum n))) ∧ Below w.heap.size w w' := by
  have HN := Lib.hid hn
  have HS := Lib.hid hs
  clear hn hs
  obtain ⟨i0, hi, hz0, hz1, hz2⟩ := info_parts (show (Tryz.prog.info? 5).map (fun i => (i.zero, i.size, i.bytes)) = some (some (.int .u8 0), 1, 1) by kernel_rfl)
  have HI := Lib.hid hi
  have HZ0 := Lib.hid hz0
  have HZ1 := Lib.hid hz1
  have HZ2 := Lib.hid hz2
  clear hi hz0 hz1 hz2
  go_enter Tryz.func16, Tryz.ntmps16
  go_wp2
  go_loopw [1, 5] (fun x v wr => ∃ (m : Nat) (T : List UInt8), T.length ≤ 8 ∧ x = .int .u64 (m : Int) ∧ Hid (m < 256 ^ (8 - T.length)) ∧ Wire.nums n = Wire.nums m ++ T ∧ Below w.heap.size w wr ∧ wr.ownsRow w.heap.size 5 1 v T.length (T.map vb)) (fun x _ _ => (intOf x).toNat)
  case atStart => exact ⟨n, [], by simp, rfl, HN.out, by simp, Below.refl _ _, own_nil _ _ _ _⟩
  case round =>
    obtain ⟨m, T, hT, rfl, hm, he, hb, ho⟩ := hrel
    have HE := Lib.hid he
    have HB := Lib.hid hb
    have HO := Lib.hid ho
    have hBL : w.heap.size ≤ wr.heap.size := hb.size
    clear he hb ho
    by_cases h0 : m = 0
    · subst h0
      have hT' : Wire.nums n = T := by rw [HE.out]; rfl
      clear HE hm
      have hw2 : IntKind.u8.wrap (T.length : Int) = (T.length : Int) := wrap_u8 _ (by omega)
      have hbyte : (vb (UInt8.ofNat T.length)) = .int .u8 (T.length : Int) := by
        unfold vb; rw [UInt8.toNat_ofNat', Nat.mod_eq_of_lt (by omega : T.length < 2 ^ 8)]
      have hrd := Rd.of_own (HO.out.alloc (.cells #[.int .u8 (T.length : Int)] 5))
      have hc1 := str_of_rd (P := Tryz.prog) (v := u5) 80 9 5 Tryz.underlying80 Tryz.underlying5 Tryz.underlying9 hrd
      have hrd1 : RdB (wr.alloc (.cells #[.int .u8 (T.length : Int)] 5)) (.slice (some ⟨wr.heap.size, 0, none⟩) 1 1) [UInt8.ofNat T.length] := by
        have := Rd.of_blk (n := 1) (size := 1) (Blk.new wr 5 #[.int .u8 (T.length : Int)]) rfl 1 (Nat.le_refl _)
        rw [show (#[Value.int .u8 (T.length : Int)].toList) = [UInt8.ofNat T.length].map vb from by rw [List.map_cons, List.map_nil, hbyte]] at this
        exact this
      have hc2 := str_of_rd (P := Tryz.prog) 80 9 5 Tryz.underlying80 Tryz.underlying5 Tryz.underlying9 hrd1
      have hcat1 := run_string_add_sum (P := Tryz.prog) (a := s) (b := strOf [UInt8.ofNat T.length]) (h := by have := HS.out; rw [size_strOf]; unfold maxLen at this; simp; omega)
      have hcat2 := run_string_add_sum (P := Tryz.prog) (a := strOf (s.data.toList ++ [UInt8.ofNat T.length])) (b := strOf T) (h := by have := HS.out; rw [size_strOf, size_strOf]; unfold maxLen at this; simp; omega)
      rw [strOf_append] at hcat1 hcat2
      rw [strOf_list] at hcat2
      clear hrd hrd1 hbyte
      obtain ⟨a5, n5, c5, rfl⟩ : ∃ a n c, u5 = .slice a n c := by
        rcases HO.out.2 with ⟨rfl, _⟩ | ⟨g, cap, cur, rfl, _⟩
        · exact ⟨_, _, _, rfl⟩
        · exact ⟨_, _, _, rfl⟩
      obtain rfl : n5 = T.length := by
        rcases HO.out.2 with ⟨h, h2⟩ | ⟨g, cap, cur, h, _⟩
        · cases h; omega
        · cases h; rfl
      go_wp2
      go_ret
      exact ⟨ret_str (by unfold Wire.putNum; rw [hT']), HB.out.alloc hBL _⟩
    · have h8 : T.length < 8 := by
        rcases Nat.eq_zero_or_pos (8 - T.length) with q | q
        · have := hm.out; rw [q] at this; simp at this; omega
        · omega
      have hmp : (0 : Int) < (m : Int) := by omega
      have hbyte : (Value.int .u8 ((m : Int) % 256)) = vb (UInt8.ofNat (m % 256)) := by
        unfold vb; rw [UInt8.toNat_ofNat', Nat.mod_eq_of_lt (by omega : m % 256 < 2 ^ 8)]; rfl
      have hrun := app_own (P := Tryz.prog) (wr.alloc (.cells #[vb (UInt8.ofNat (m % 256))] 5)) w.heap.size 80 80 5 i0 (.int .u8 0) 1 1 Tryz.underlying80 HI.out HZ0.out HZ1.out HZ2.out rfl (by omega)
        (ownB_new wr w.heap.size (UInt8.ofNat (m % 256)) 5 hBL) (Rd.of_own (HO.out.alloc _)) (vb_one T) (by unfold maxLen; omega) (by omega) (by simp; omega)
      rw [← hbyte] at hrun
      have HR := Lib.hid hrun
      have HNZ := Lib.hid h0
      have HBY := Lib.hid hbyte
      clear hrun h0 hbyte
      go_wp2_with (at_builtin; refine wpList_append_run rfl _ _ 80 rfl _ _ rfl rfl _ HR.out ?_)
      refine Later.mk fun _ _ v' w' hp => ?_
      have HP := Lib.hid hp
      have hbel : Below w.heap.size w w' := HB.out.trans ((((Below.refl _ _).alloc hBL _)).trans (hp.below (by rw [HBY.out]; exact ownB_new wr w.heap.size _ 5 hBL) (by simp; omega)))
      have HBL := Lib.hid hbel
      have hown : w'.ownsRow w.heap.size 5 1 v' (UInt8.ofNat (m % 256) :: T).length ((UInt8.ofNat (m % 256) :: T).map vb) := by
        have := hp.1
        rw [Nat.add_comm] at this
        exact this
      have HOW := Lib.hid hown
      have hq : IntKind.u64.wrap ((m : Int) / 256) = ((m / 256 : Nat) : Int) := wrap_u64 (m / 256) (by have := Nat.lt_of_lt_of_le hm.out (Nat.pow_le_pow_right (by omega) (by omega : 8 - T.length ≤ 8)); omega)
      clear hp hbel hown
      go_wp2
      refine ⟨⟨m / 256, UInt8.ofNat (m % 256) :: T, by simp; omega, rfl, ?_, ?_, HBL.out, HOW.out⟩, ?_⟩
      · have h1 := hm.out
        show m / 256 < 256 ^ (8 - (T.length + 1))
        rw [show 8 - T.length = (8 - (T.length + 1)) + 1 from by omega, Nat.pow_succ] at h1
        omega
      · rw [HE.out, Wire.nums_step m (Nat.lt_of_lt_of_le hm.out (Nat.pow_le_pow_right (by omega) (by omega))) HNZ.out]
        simp
      · simp [intOf]; omega

set_option maxHeartbeats 400000 in
theorem refPutText_any (s t : ByteArray) (w : World) (ht : t.size ≤ 100000) (hs : s.size ≤ 1000000) :
    Calls Tryz.prog 21 #[.string s, .string t] w fun e w' => e = .returned (.string (strOf (s.data.toList ++ Wire.putText t.data.toList))) ∧ Below w.heap.size w w' := by
  have hc : ∀ w1, Calls Tryz.prog 16 #[.string s, .int .u64 (t.size : Int)] w1 fun e w' => e = .returned (.string (strOf (s.data.toList ++ Wire.putNum t.size))) ∧ Below w1.heap.size w1 w' :=
    fun w1 => refPutNum_any s t.size w1 (by omega) (by unfold maxLen; omega)
  have HC := Lib.hid hc
  clear hc
  have hcat := run_string_add_sum (P := Tryz.prog) (a := strOf (s.data.toList ++ Wire.putNum t.size)) (b := t) (h := by rw [size_strOf]; have := Wire.putNum_length t.size; simp; omega)
  rw [show strOf (s.data.toList ++ Wire.putNum t.size) ++ t = strOf (s.data.toList ++ Wire.putText t.data.toList) from by
    rw [← strOf_data t, strOf_append, strOf_list, strOf_data]
    unfold Wire.putText
    rw [len_data, List.append_assoc]] at hcat
  have HT : Hid (t.size ≤ 100000) := ht
  clear ht hs
  have ht2 : (t.size : Int) ≤ 100000 := by have := HT.out; omega
  go_enter Tryz.func21, Tryz.ntmps21
  go_wp2_with fail
  refine (HC.out _).mono ?_
  rintro e w1 ⟨rfl, hb⟩
  have HB := Lib.hid hb
  clear hb
  go_wp2
  go_ret
  exact ⟨rfl, HB.out⟩
set_option maxHeartbeats 1000000 in
theorem refSum_any (s : ByteArray) (w : World) (hs : s.size ≤ maxLen) :
    Calls Tryz.prog 46 #[.string s] w fun e w' => e = .returned (.int .u32 ((Crc.sum s.data.toList).toNat : Int)) ∧ w = w' := by
  unfold maxLen at hs
  go_enter Tryz.func46, Tryz.ntmps46
  go_wp2
  go_loopw [3, 4] (fun n i wr => ∃ k : Nat, k ≤ s.size ∧ i = .int .i64 k ∧ n = .int .u32 ((Crc.st Crc.ones (s.data.toList.take k)).toNat : Int) ∧ w = wr) (fun _ i _ => s.size - (intOf i).toNat)
  case atStart => exact ⟨0, Nat.zero_le _, rfl, rfl, rfl⟩
  case round =>
    obtain ⟨k, hk, rfl, rfl, rfl⟩ := hrel
    by_cases hlt : k < s.size
    · have HX := Lib.hid (st_take s k hlt Crc.ones)
      have e1 : bits .xor .u32 ((Crc.st Crc.ones (s.data.toList.take k)).toNat : Int) ((s[k].toNat : Int) % 4294967296) = ((Crc.st Crc.ones (s.data.toList.take k) ^^^ s[k].toBitVec.setWidth 32).toNat : Int) := by
        rw [show ((s[k].toNat : Int) % 4294967296) = ((s[k].toBitVec.setWidth 32).toNat : Int) from by rw [BitVec.toNat_setWidth, UInt8.toNat_toBitVec]; have := s[k].toNat_lt; omega, xor_u32]
      have e8 := Crc.bit8 (Crc.st Crc.ones (s.data.toList.take k)) s[k].toBitVec
      generalize Crc.st Crc.ones (s.data.toList.take k) ^^^ s[k].toBitVec.setWidth 32 = y at e1 e8
      have HY := Lib.hid e8
      clear e8
      go_wp2
      go_loopw [3, 5] (fun n i wr => ∃ j : Nat, j ≤ 8 ∧ i = .int .i64 j ∧ n = .int .u32 ((Crc.bitN y j).toNat : Int) ∧ w = wr) (fun _ i _ => 8 - (intOf i).toNat)
      case atStart => exact ⟨0, Nat.zero_le _, rfl, rfl, rfl⟩
      case round =>
        obtain ⟨j, hj, rfl, rfl, rfl⟩ := hrel
        clear e1
        by_cases hj8 : j < 8
        · have HS : Hid (Crc.bitN y (j + 1) = Crc.bit (Crc.bitN y j)) := rfl
          generalize Crc.bitN y j = z at *
          have ea := Crc.bit_and z
          have b0 : (0 : Int) ≤ (z.toNat : Int) := by omega
          have b1 : (z.toNat : Int) < 4294967296 := by have := z.isLt; omega
          by_cases hz : z.getLsbD 0 = true
          · rw [if_pos hz] at ea
            have ex : bits .xor .u32 ((z.toNat : Int) / 2) 3988292384 = ((Crc.bit z).toNat : Int) := by
              rw [Crc.bit, if_pos hz, ← xor_u32, ← shr1_u32]; rfl
            clear hz
            generalize (z.toNat : Int) = zi at *
            go_wp2
            go_roundw
            case rel => exact ⟨j + 1, by omega, by go_num, by rw [HS.out], trivial⟩
            case measure => simp [intOf]; omega
          · rw [if_neg hz] at ea
            have ex : ((z.toNat : Int) / 2) = ((Crc.bit z).toNat : Int) := by
              rw [Crc.bit, if_neg hz, ← shr1_u32]
            have HZ := Lib.hid ex
            clear hz ex
            generalize (z.toNat : Int) = zi at *
            go_wp2
            go_roundw
            case rel => exact ⟨j + 1, by omega, by go_num, by rw [HS.out, ← HZ.out], trivial⟩
            case measure => simp [intOf]; omega
        · obtain rfl : j = 8 := by omega
          go_wp2
          go_roundw
          case rel => exact ⟨k + 1, by omega, by go_num, by rw [HX.out, ← HY.out], trivial⟩
          case measure => simp [intOf]; omega
    · have e0 : s.data.toList.take k = s.data.toList := List.take_of_length_le (by simp; omega)
      have hfin : bits .xor .u32 ((Crc.st Crc.ones (s.data.toList.take k)).toNat : Int) 4294967295 = ((Crc.sum s.data.toList).toNat : Int) := by
        rw [e0, show (4294967295 : Int) = (Crc.ones.toNat : Int) from rfl, xor_u32]; rfl
      have HF := Lib.hid hfin
      clear hfin e0
      go_wp2
      go_ret
      exact ⟨ret_int HF.out, rfl⟩

set_option maxHeartbeats 400000 in
theorem bytes_any (n : BitVec 32) (w : World) :
    Calls Tryz.prog 45 #[.int .u32 (n.toNat : Int)] w fun e w' => e = .returned (.string (strOf (Crc.four n))) ∧ Below w.heap.size w w' := by
  have HN := Lib.hid (four_nums n)
  have h0 : (0 : Int) ≤ (n.toNat : Int) := by omega
  have h1 : (n.toNat : Int) < 4294967296 := by have := n.isLt; omega
  generalize (n.toNat : Int) = z at *
  have hc := run_convert_bytes_arg (P := Tryz.prog) (w.alloc (Obj.cells #[Value.int IntKind.u8 (z / 16777216), Value.int IntKind.u8 (z / 65536 % 256), Value.int IntKind.u8 (z / 256 % 256), Value.int IntKind.u8 (z % 256)] 5))
      80 5 Tryz.underlying80 Tryz.underlying5 w.heap.size 0 4 4 [z / 16777216, z / 65536 % 256, z / 256 % 256, z % 256] rfl (by
      intro i hi
      match i, hi with
      | 0, _ => simp [go_sem]
      | 1, _ => simp [go_sem]
      | 2, _ => simp [go_sem]
      | 3, _ => simp [go_sem]
      | n + 4, h => omega) 9 Tryz.underlying9
  rw [HN.out] at hc
  go_enter Tryz.func45, Tryz.ntmps45
  go_wp2
  go_ret
  exact ⟨rfl, (Below.refl _ _).alloc (Nat.le_refl _) _⟩
set_option maxHeartbeats 400000 in
theorem refSeal_any (s : ByteArray) (w : World) (hs : s.size + 4 ≤ maxLen) :
    Calls Tryz.prog 22 #[.string s] w fun e w' => e = .returned (.string (strOf (Crc.sealed s.data.toList))) ∧ Below w.heap.size w w' := by
  have hs1 : s.size ≤ maxLen := by omega
  unfold maxLen at hs
  have hcat := run_string_add_sum (P := Tryz.prog) (a := s) (b := strOf (Crc.four (Crc.sum s.data.toList))) (h := by rw [size_strOf, Crc.length_four]; omega)
  rw [strOf_append] at hcat
  go_enter Tryz.func22, Tryz.ntmps22
  go_wp2_with fail
  refine (refSum_any s _ hs1).mono ?_
  rintro e w1 ⟨rfl, rfl⟩
  go_wp2_with fail
  refine (bytes_any _ _).mono ?_
  rintro e w1 ⟨rfl, hb⟩
  have HB := Lib.hid hb
  clear hb
  go_wp2
  go_ret
  exact ⟨rfl, HB.out⟩

set_option maxHeartbeats 400000 in
theorem refOpen_any (s : ByteArray) (w : World) (hs : s.size ≤ maxLen) :
    Calls Tryz.prog 39 #[.string s] w fun e w' => e = .returned (openV s) ∧ Below w.heap.size w w' := by
  have hs0 := hs
  unfold maxLen at hs
  by_cases h4 : s.size < 4
  · have ho : openV s = .tuple #[.string ByteArray.empty, .bool false] := by
      unfold openV Crc.opens
      rw [if_neg]
      simp; omega
    rw [ho]
    go_enter Tryz.func39, Tryz.ntmps39
    go_wp2
    go_ret2
    exact ⟨rfl, Below.refl _ _⟩
  · have hz : (s.size : Int) - 4 = ((s.size - 4 : Nat) : Int) := by omega
    have hk : s.size - 4 ≤ s.size := by omega
    have HZ := Lib.hid hz
    clear hz
    go_enter Tryz.func39, Tryz.ntmps39
    have hq := open_eq2 s h4
    have he := extract_list s (s.size - 4)
    have hsz : (s.extract 0 (s.size - 4)).size ≤ maxLen := by unfold maxLen; simp; omega
    have HSZ := Lib.hid hsz
    have HE := Lib.hid he
    clear hsz he
    go_wp2_with fail
    refine wp_region_below (by kernel_rfl) (by kernel_rfl) ?_
    repeat (go_big_quiet_step (first | (go_at_call 46; exact below_same (refSum_any _ _ HSZ.out)) | (go_at_call 45; exact below_call (bytes_any _ _))))
    refine wpQuiet_nil ?_
    intro w1 hb
    have HB := Lib.hid hb
    clear hb
    cases ho : Crc.opens s.data.toList
    · rw [ho] at hq
      go_wp2
      go_ret2
      exact ⟨by rw [openV, if_neg (by rw [ho]; exact Bool.false_ne_true)]; rfl, HB.out⟩
    · rw [ho] at hq
      go_wp2
      go_ret2
      exact ⟨by rw [openV, if_pos ho, ← extract_strOf]; rfl, HB.out⟩
end Go.Proofs.YtikimmhkfjaijaaGreat
namespace Go.Proofs.YtikimmhkfjaijaaGreat
open Go.RowKit Reg Go.ChangeShapes


def RdR (w : World) (r : Nat) : Wire.St → Prop
  | none => ∃ s : ByteArray, Blk w r 68 #[.string s, .bool true]
  | some l => l.length ≤ 1152921504606846976 ∧ Blk w r 68 #[.string (strOf l), .bool false]
theorem RdR.keep {w w' : World} {r : Nat} {st : Wire.St} (h : RdR w r st) (hb : Below w.heap.size w w') : RdR w' r st := by
  cases st with
  | none => obtain ⟨s, b⟩ := h; exact ⟨s, b.keep hb⟩
  | some l => exact ⟨h.1, h.2.keep hb⟩
theorem RdR.lt {w : World} {r : Nat} {st : Wire.St} (h : RdR w r st) : r < w.heap.size := by
  cases st with
  | none => obtain ⟨s, b⟩ := h; exact b.lt
  | some l => exact h.2.lt
theorem RdR.far {w w' : World} {r : Nat} {st : Wire.St} {row : Option Nat} (h : RdR w r st) (hg : w.grownBy w' row) (hr : some r ≠ row) : RdR w' r st := by
  cases st with
  | none => obtain ⟨s, b⟩ := h; exact ⟨s, (hg.block r b.lt hr).trans b⟩
  | some l => exact ⟨h.1, (hg.block r h.2.lt hr).trans h.2⟩
theorem Rdr.far_ {w w' : World} {r r' : Nat} {st st' : Wire.St} (h : Rdr w r st) (hr : RdR w r' st') (hg : w.grownBy w' (some r')) (hne : r ≠ r') : Rdr w' r st := by
  cases st with
  | none => obtain ⟨v, b⟩ := h; exact ⟨v, (hg.block r b.lt (by simpa using hne)).trans b⟩
  | some l =>
    obtain ⟨g, off, c, b, h1, h2, h3, hx⟩ := h
    refine ⟨g, off, c, (hg.block r b.lt (by simpa using hne)).trans b, h1, h2, h3, fun j u hu => ?_⟩
    have hc := hx j u hu
    have hgr : g ≠ r' := by
      intro e
      subst e
      have hj : ∃ x : UInt8, u = vb x := by
        rw [List.getElem?_map] at hu
        cases hq : l[j]? with
        | none => rw [hq] at hu; cases hu
        | some x => rw [hq] at hu; exact ⟨x, (Option.some.inj hu).symm⟩
      obtain ⟨x, rfl⟩ := hj
      cases st' with
      | none =>
        obtain ⟨s, b'⟩ := hr
        rw [b'.cell] at hc
        match off + j, hc with
        | 0, hc => simp [vb] at hc
        | 1, hc => simp [vb] at hc
        | n + 2, hc => simp at hc
      | some l' =>
        have b' := hr.2
        rw [b'.cell] at hc
        match off + j, hc with
        | 0, hc => simp [vb] at hc
        | 1, hc => simp [vb] at hc
        | n + 2, hc => simp at hc
    rw [World.cell?_of_block (w := w)]
    · exact hc
    · refine hg.block g ?_ (by simpa using hgr)
      rcases Nat.lt_or_ge g w.heap.size with q | q
      · exact q
      · simp [World.cell?, Array.getElem?_eq_none q] at hc

set_option maxHeartbeats 400000 in
theorem fail_any (r : Nat) (s : ByteArray) (b : Bool) (w : World) (h : Blk w r 68 #[.string s, .bool b]) :
    Calls Tryz.prog 88 #[.pointer (some ⟨r, 0, none⟩)] w fun e w' => e = .returned (.tuple #[]) ∧ RdR w' r none ∧ w.grownBy w' (some r) := by
  have c0 : w.cell? ⟨r, 0, none⟩ = some (.string s) := h.cell 0
  have c1 : w.cell? ⟨r, 1, none⟩ = some (.bool b) := h.cell 1
  have f0 := h.frozen 0
  have f1 := h.frozen 1
  have H := Lib.hid h
  clear h
  go_enter Tryz.func88, Tryz.ntmps88
  go_wp2
  go_end0
  exact ⟨rfl, ⟨_, (H.out.set 0 _).set 1 _⟩, grownBy_trans (grownBy_set _ _ _ _) (grownBy_set _ _ _ _)⟩

def NumPostR (w : World) (r : Nat) (st : Wire.St) (e : Ending) (w' : World) : Prop := e = .returned (.int .u64 ((Wire.num st).1 : Int)) ∧ RdR w' r (Wire.num st).2 ∧ w.grownBy w' (some r)
theorem grownBy_drewN {a b : World} {row : Option Nat} (n : Nat) (h : (a.drewN n).grownBy b row) : a.grownBy b row := ⟨h.os, h.tape, h.output, h.size, h.block⟩
set_option maxHeartbeats 400000 in
theorem refNum_none (r : Nat) (w : World) (h : RdR w r none) : Calls Tryz.prog 63 #[.pointer (some ⟨r, 0, none⟩)] w (NumPostR w r none) := by
  obtain ⟨s, b⟩ := h
  have c1 : w.cell? ⟨r, 1, none⟩ = some (.bool true) := b.cell 1
  have HB := Lib.hid b
  clear b
  go_enter Tryz.func63, Tryz.ntmps63
  go_wp2_with fail
  go_quiet (fail)
  go_wp2_with fail
  refine (fail_any r s true _ (HB.out.drewN nq)).mono ?_
  rintro e w1 ⟨rfl, h1, h2⟩
  have H1 := Lib.hid h1
  have H2 := Lib.hid (grownBy_drewN nq h2)
  clear h1 h2
  go_wp2
  go_ret
  exact ⟨rfl, H1.out, H2.out⟩
set_option maxHeartbeats 400000 in
theorem refNum_nil (r : Nat) (w : World) (h : RdR w r (some [])) : Calls Tryz.prog 63 #[.pointer (some ⟨r, 0, none⟩)] w (NumPostR w r (some [])) := by
  have b := h.2
  have c0 : w.cell? ⟨r, 0, none⟩ = some (.string (strOf [])) := b.cell 0
  have c1 : w.cell? ⟨r, 1, none⟩ = some (.bool false) := b.cell 1
  have HB := Lib.hid b
  have hz : (((strOf []).size : Int) == 0) = true := by rw [size_strOf]; rfl
  clear b h
  go_enter Tryz.func63, Tryz.ntmps63
  go_wp2_with fail
  go_quiet (fail)
  go_wp2_with fail
  refine (fail_any r (strOf []) false _ (HB.out.drewN nq)).mono ?_
  rintro e w1 ⟨rfl, h1, h2⟩
  have H1 := Lib.hid h1
  have H2 := Lib.hid (grownBy_drewN nq h2)
  clear h1 h2
  go_wp2
  go_ret
  exact ⟨rfl, H1.out, H2.out⟩
theorem str_at (s : ByteArray) (l : List UInt8) (hs : s.data.toList = l) (j : Nat) (h : j < s.size) (hj : j < l.length) : s[j]'h = l[j] := by
  subst hs
  rfl

set_option maxHeartbeats 1000000 in
theorem refNum_bad (r : Nat) (k : UInt8) (l : List UInt8) (w : World) (h : RdR w r (some (k :: l))) (hk : 8 < k.toNat ∨ l.length < k.toNat ∨ (0 < k.toNat ∧ l[0]? = some 0)) : Calls Tryz.prog 63 #[.pointer (some ⟨r, 0, none⟩)] w (NumPostR w r (some (k :: l))) := by
  have hnum : Wire.num (some (k :: l)) = (0, none) := by unfold Wire.num; dsimp only; rw [if_pos hk]
  have b := h.2
  have hlen := h.1
  have c0 : w.cell? ⟨r, 0, none⟩ = some (.string (strOf (k :: l))) := b.cell 0
  have c1 : w.cell? ⟨r, 1, none⟩ = some (.bool false) := b.cell 1
  have hsz : (strOf (k :: l)).size = l.length + 1 := by rw [size_strOf]; rfl
  have hz : (((strOf (k :: l)).size : Int) == 0) = false := by rw [hsz]; rw [beq_eq_false_iff_ne]; omega
  have hp : 0 < (strOf (k :: l)).size := by omega
  have h0 := str_at (strOf (k :: l)) (k :: l) (strOf_list _) 0 hp (by simp)
  have h0' : (strOf (k :: l))[0].toNat = k.toNat := by rw [h0]; rfl
  have HB := Lib.hid b
  have HNUM := Lib.hid hnum
  have hk256 := k.toNat_lt
  have hw1 : IntKind.i64.wrap (k.toNat : Int) = (k.toNat : Int) := IntWalk.i64_in _ (by omega)
  have hw2 : IntKind.i64.wrap (1 + (k.toNat : Int)) = 1 + (k.toNat : Int) := IntWalk.i64_in _ (by omega)
  clear b h hnum h0
  have fin : ∀ w1, RdR w1 r none → w.grownBy w1 (some r) → NumPostR w r (some (k :: l)) (.returned (.int .u64 0)) w1 := fun w1 h1 h2 => ⟨by rw [HNUM.out]; rfl, by rw [HNUM.out]; exact h1, h2⟩
  have FIN := Lib.hid fin
  clear fin HNUM
  have hszI : ((strOf (k :: l)).size : Int) = (l.length : Int) + 1 := by omega
  have main : (decide ((8 : Int) < (k.toNat : Int)) = true) ∨ (decide ((8 : Int) < (k.toNat : Int)) = false ∧ decide (((strOf (k :: l)).size : Int) < 1 + (k.toNat : Int)) = true) ∨
      (decide ((8 : Int) < (k.toNat : Int)) = false ∧ decide (((strOf (k :: l)).size : Int) < 1 + (k.toNat : Int)) = false ∧ decide (0 < k.toNat) = true ∧ ∃ hp1 : 1 < (strOf (k :: l)).size, (strOf (k :: l))[1].toNat = 0) := by
    by_cases q1 : 8 < k.toNat
    · left; rw [decide_eq_true_eq]; omega
    · by_cases q2 : l.length < k.toNat
      · right; left; constructor
        · rw [decide_eq_false_iff_not]; omega
        · rw [decide_eq_true_eq]; omega
      · rcases hk with hk | hk | ⟨hk1, hk2⟩
        · omega
        · omega
        · right; right
          refine ⟨by rw [decide_eq_false_iff_not]; omega, by rw [decide_eq_false_iff_not]; omega, by rw [decide_eq_true_eq]; omega, ?_⟩
          cases l with
          | nil => simp at hk2
          | cons b l =>
            refine ⟨by rw [size_strOf]; simp, ?_⟩
            rw [str_at (strOf (k :: b :: l)) (k :: b :: l) (strOf_list _) 1 (by rw [size_strOf]; simp) (by simp)]
            simp at hk2
            simp [hk2]
  clear hk hsz hlen hszI
  rcases main with d1 | ⟨d1, d2⟩ | ⟨d1, d2, d3, hp1, h1'⟩
  all_goals
    go_enter Tryz.func63, Tryz.ntmps63
    go_wp2_with fail
    go_quiet (fail)
    go_wp2_with fail
    refine (fail_any r _ false _ (HB.out.drewN nq)).mono ?_
    rintro e w1 ⟨rfl, h1, h2⟩
    have H1 := Lib.hid h1
    have H2 := Lib.hid (grownBy_drewN nq h2)
    clear h1 h2
    go_wp2
    go_ret
    exact FIN.out _ H1.out H2.out

theorem wrap_n (y x : Nat) (h : y * 256 + x < 256 ^ 8) : IntKind.u64.wrap (IntKind.u64.wrap ((y : Int) * 256) + IntKind.u64.wrap (x : Int)) = ((y * 256 + x : Nat) : Int) := by
  have e : ((y : Int) * 256) = ((y * 256 : Nat) : Int) := (Int.natCast_mul y 256).symm
  have h1 : y * 256 < 256 ^ 8 := Nat.lt_of_le_of_lt (Nat.le_add_right _ _) h
  rw [e, wrap_u64 _ h1, wrap_u64 _ (Nat.lt_of_le_of_lt (Nat.le_add_left _ _) h), ← Int.natCast_add, wrap_u64 _ h]
set_option maxHeartbeats 1000000 in
theorem refNum_good (r : Nat) (k : UInt8) (l : List UInt8) (w : World) (h : RdR w r (some (k :: l))) (hk : ¬ (8 < k.toNat ∨ l.length < k.toNat ∨ (0 < k.toNat ∧ l[0]? = some 0))) : Calls Tryz.prog 63 #[.pointer (some ⟨r, 0, none⟩)] w (NumPostR w r (some (k :: l))) := by
  have hnum : Wire.num (some (k :: l)) = (Wire.be (l.take k.toNat), some (l.drop k.toNat)) := by unfold Wire.num; dsimp only; rw [if_neg hk]
  have b := h.2
  have hlen := h.1
  have c0 : w.cell? ⟨r, 0, none⟩ = some (.string (strOf (k :: l))) := b.cell 0
  have c1 : w.cell? ⟨r, 1, none⟩ = some (.bool false) := b.cell 1
  have hsz : (strOf (k :: l)).size = l.length + 1 := by rw [size_strOf]; rfl
  have hz : (((strOf (k :: l)).size : Int) == 0) = false := by rw [hsz]; rw [beq_eq_false_iff_ne]; omega
  have hp : 0 < (strOf (k :: l)).size := by omega
  have h0 := str_at (strOf (k :: l)) (k :: l) (strOf_list _) 0 hp (by simp)
  have h0' : (strOf (k :: l))[0].toNat = k.toNat := by rw [h0]; rfl
  have HB := Lib.hid b
  have f0 := b.frozen 0
  have HNUM := Lib.hid hnum
  have hk256 := k.toNat_lt
  have hk8 : k.toNat ≤ 8 := Nat.le_of_not_lt fun q => hk (.inl q)
  have hkl : k.toNat ≤ l.length := Nat.le_of_not_lt fun q => hk (.inr (.inl q))
  have hw1 : IntKind.i64.wrap (k.toNat : Int) = (k.toNat : Int) := IntWalk.i64_in _ (by omega)
  have hw2 : IntKind.i64.wrap (1 + (k.toNat : Int)) = 1 + (k.toNat : Int) := IntWalk.i64_in _ (by omega)
  clear b h hnum h0
  have fin : ∀ w1, RdR w1 r (some (l.drop k.toNat)) → w.grownBy w1 (some r) → NumPostR w r (some (k :: l)) (.returned (.int .u64 ((Wire.be (l.take k.toNat) : Nat) : Int))) w1 := fun w1 h1 h2 => ⟨by rw [HNUM.out], by rw [HNUM.out]; exact h1, h2⟩
  have FIN := Lib.hid fin
  clear fin HNUM
  have d1 : decide ((8 : Int) < (k.toNat : Int)) = false := by rw [decide_eq_false_iff_not]; omega
  have d2 : decide (((strOf (k :: l)).size : Int) < 1 + (k.toNat : Int)) = false := by rw [decide_eq_false_iff_not]; omega
  have main : decide (0 < k.toNat) = false ∨ (decide (0 < k.toNat) = true ∧ ∃ hp1 : 1 < (strOf (k :: l)).size, ∃ x : Nat, (strOf (k :: l))[1].toNat = x ∧ (((x : Nat) : Int) == 0) = false) := by
    by_cases q : 0 < k.toNat
    · right
      refine ⟨by rw [decide_eq_true_eq]; omega, by omega, _, rfl, ?_⟩
      cases l with
      | nil => simp at hkl; omega
      | cons b l =>
        rw [str_at (strOf (k :: b :: l)) (k :: b :: l) (strOf_list _) 1 (by rw [size_strOf]; simp) (by simp)]
        rw [beq_eq_false_iff_ne]
        intro e
        apply hk
        refine .inr (.inr ⟨q, ?_⟩)
        simp at e ⊢
        exact UInt8.toNat.inj (by simpa using e)
    · left; rw [decide_eq_false_iff_not]; omega
  have HK8 := Lib.hid hk8
  have HKL := Lib.hid hkl
  have HSZ := Lib.hid hsz
  have HLEN := Lib.hid hlen
  clear hk hk8 hkl hsz hlen
  rcases main with d3 | ⟨d3, hp1, x1, h1', h1z⟩
  all_goals
    go_enter Tryz.func63, Tryz.ntmps63
    go_wp2_with fail
    go_quiet (fail)
    go_wp2
    go_loopw [3, 5] (fun n i wr => ∃ j : Nat, j ≤ k.toNat ∧ i = .int .i64 ((j : Int) + 1) ∧ n = .int .u64 ((Wire.be (l.take j) : Nat) : Int) ∧ w.drewN nq = wr) (fun _ i _ => k.toNat + 1 - (intOf i).toNat)
    case atStart => exact ⟨0, Nat.zero_le _, rfl, rfl, rfl⟩
    case round =>
      obtain ⟨j, hj, rfl, rfl, rfl⟩ := hrel
      by_cases hlt : j < k.toNat
      · have hp2 : j + 1 < (strOf (k :: l)).size := by have := HSZ.out; have := HKL.out; omega
        have hlj : j < l.length := by have := HKL.out; omega
        have hb : Wire.be (l.take (j + 1)) = Wire.be (l.take j) * 256 + l[j].toNat := by
          rw [List.take_succ_eq_append_getElem hlj, Wire.be_append]
        have hlim : Wire.be (l.take (j + 1)) < 256 ^ 8 := by
          refine Nat.lt_of_lt_of_le (Wire.be_lt _) (Nat.pow_le_pow_right (by omega) ?_)
          rw [List.length_take]; have := HK8.out; omega
        rw [hb] at hlim
        have ho := wrap_n _ _ hlim
        rw [← hb] at ho
        have HO := Lib.hid ho
        have hs := str_at (strOf (k :: l)) (k :: l) (strOf_list _) (j + 1) hp2 (by simp; omega)
        have hs' : (strOf (k :: l))[j + 1].toNat = l[j].toNat := by rw [hs]; simp
        have hi : ((j : Int) + 1).toNat = j + 1 := by omega
        have hip : ((j : Int) + 1) < ((strOf (k :: l)).size : Int) := by omega
        have hjk : (j : Int) + 1 ≤ (k.toNat : Int) := by omega
        clear hb hlim ho hs
        generalize l[j].toNat = x at *
        generalize Wire.be (l.take j) = y at *
        go_wp2
        refine ⟨⟨j + 1, by omega, by go_num, ?_⟩, by simp [intOf]; omega⟩
        first | exact ⟨by rw [HO.out], trivial⟩ | exact ⟨by rw [HO.out], rfl⟩
      · obtain rfl : j = k.toNat := by omega
        have hjk : ¬ ((k.toNat : Int) + 1 ≤ (k.toNat : Int)) := by omega
        have hsl : (0 : Int) ≤ 1 + (k.toNat : Int) ∧ 1 + (k.toNat : Int) ≤ ((strOf (k :: l)).size : Int) := by have := HSZ.out; have := HKL.out; omega
        go_wp2
        go_ret
        have he : (strOf (k :: l)).extract (1 + k.toNat) (strOf (k :: l)).size = strOf (l.drop k.toNat) := by
          rw [← strOf_data ((strOf (k :: l)).extract (1 + k.toNat) (strOf (k :: l)).size), extract_from, strOf_list, Nat.add_comm, List.drop_succ_cons]
        rw [he]
        refine FIN.out _ ⟨?_, (HB.out.drewN nq).set 0 _⟩ (grownBy_drewN nq (grownBy_set _ _ _ _))
        have := HLEN.out
        simp at this ⊢
        omega

theorem refNum_any (r : Nat) (st : Wire.St) (w : World) (h : RdR w r st) : Calls Tryz.prog 63 #[.pointer (some ⟨r, 0, none⟩)] w (NumPostR w r st) := by
  cases st with
  | none => exact refNum_none r w h
  | some l =>
    cases l with
    | nil => exact refNum_nil r w h
    | cons k l =>
      by_cases hk : 8 < k.toNat ∨ l.length < k.toNat ∨ (0 < k.toNat ∧ l[0]? = some 0)
      · exact refNum_bad r k l w h hk
      · exact refNum_good r k l w h hk
def TextPostR (w : World) (r : Nat) (st : Wire.St) (e : Ending) (w' : World) : Prop := e = .returned (.string (strOf (Wire.text st).1)) ∧ RdR w' r (Wire.text st).2 ∧ w.grownBy w' (some r)
set_option maxHeartbeats 1000000 in
theorem refText_any (r : Nat) (st : Wire.St) (w : World) (h : RdR w r st) : Calls Tryz.prog 68 #[.pointer (some ⟨r, 0, none⟩)] w (TextPostR w r st) := by
  have hempty : ByteArray.empty = strOf [] := rfl
  have HE := Lib.hid hempty
  clear hempty
  go_enter Tryz.func68, Tryz.ntmps68
  go_wp2_with fail
  refine (refNum_any r st w h).mono ?_
  rintro e w1 ⟨rfl, h1, h2⟩
  have H2 := Lib.hid h2
  clear h h2
  cases hst : (Wire.num st).2 with
  | none =>
    have ht : Wire.text st = ([], none) := by unfold Wire.text; rw [hst]
    rw [hst] at h1
    obtain ⟨s, b⟩ := h1
    have c1 : w1.cell? ⟨r, 1, none⟩ = some (.bool true) := b.cell 1
    have HT := Lib.hid ht
    have HB := Lib.hid b
    clear ht b hst
    generalize (Wire.num st).1 = n at *
    go_wp2_with fail
    refine (fail_any r s true _ HB.out).mono ?_
    rintro e w2 ⟨rfl, h3, h4⟩
    have H3 := Lib.hid h3
    have H4 := Lib.hid h4
    clear h3 h4
    go_wp2
    go_ret
    exact ⟨by rw [HT.out]; rfl, by rw [HT.out]; exact H3.out, grownBy_trans H2.out H4.out⟩
  | some l =>
    rw [hst] at h1
    have b := h1.2
    have hlen := h1.1
    have c0 : w1.cell? ⟨r, 0, none⟩ = some (.string (strOf l)) := b.cell 0
    have c1 : w1.cell? ⟨r, 1, none⟩ = some (.bool false) := b.cell 1
    have f0 := b.frozen 0
    have hsz : (strOf l).size = l.length := size_strOf l
    have hw : IntKind.u64.wrap ((strOf l).size : Int) = ((strOf l).size : Int) := wrap_u64 _ (by omega)
    have HB := Lib.hid b
    have HLEN := Lib.hid hlen
    by_cases hl : l.length < (Wire.num st).1
    · have ht : Wire.text st = ([], none) := by unfold Wire.text; rw [hst]; dsimp only; rw [if_pos hl]
      have HT := Lib.hid ht
      have hd : decide ((strOf l).size < (Wire.num st).1) = true := by rw [decide_eq_true_eq]; omega
      clear ht h1 hst hl b hlen hsz
      generalize (Wire.num st).1 = n at *
      go_wp2_with fail
      refine (fail_any r _ false _ HB.out).mono ?_
      rintro e w2 ⟨rfl, h3, h4⟩
      have H3 := Lib.hid h3
      have H4 := Lib.hid h4
      clear h3 h4
      go_wp2
      go_ret
      exact ⟨by rw [HT.out]; rfl, by rw [HT.out]; exact H3.out, grownBy_trans H2.out H4.out⟩
    · have ht : Wire.text st = (l.take (Wire.num st).1, some (l.drop (Wire.num st).1)) := by unfold Wire.text; rw [hst]; dsimp only; rw [if_neg hl]
      have HT := Lib.hid ht
      have hd : decide ((strOf l).size < (Wire.num st).1) = false := by rw [decide_eq_false_iff_not]; omega
      have hs2 : (0 : Int) ≤ (((Wire.num st).1 : Nat) : Int) ∧ (((Wire.num st).1 : Nat) : Int) ≤ ((strOf l).size : Int) := by omega
      have hs3 : ((Wire.num st).1 : Nat) ≤ (strOf l).size := by omega
      clear ht h1 hst hl b hlen hsz
      generalize (Wire.num st).1 = n at *
      go_wp2
      go_ret
      have e1 : (strOf l).extract 0 n = strOf (l.take n) := by rw [extract_strOf, strOf_list]
      have e2 : (strOf l).extract n (strOf l).size = strOf (l.drop n) := by
        rw [← strOf_data ((strOf l).extract n (strOf l).size), extract_from, strOf_list]
      rw [e2]
      refine ⟨by rw [HT.out, ← e1]; rfl, ?_, grownBy_trans H2.out (grownBy_set _ _ _ _)⟩
      rw [HT.out]
      refine ⟨?_, HB.out.set 0 _⟩
      have := HLEN.out
      simp
      omega
end Go.Proofs.YtikimmhkfjaijaaGreat
