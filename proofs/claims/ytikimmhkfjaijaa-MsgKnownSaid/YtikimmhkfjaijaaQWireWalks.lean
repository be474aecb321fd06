/-
  PUTTING NUMBERS AND TEXTS, THE PROGRAM's WAY AND THE REFERENCE's.
-/
import Derived.Test.YtikimmhkfjaijaaRows
import Derived.Test.YtikimmhkfjaijaaBits
import Derived.Test.YtikimmhkfjaijaaSlice
import Derived.Test.YtikimmhkfjaijaaRegion
import Derived.Test.YtikimmhkfjaijaaWirePlain
import Derived.Lib.Hide
namespace Go.Proofs.Ytikimmhkfjaijaa
open Go.RowKit Reg

set_option maxHeartbeats 400000 in
theorem put_any (s : ByteArray) (v : Value) (l : List UInt8) (w : World) (hv : RdB w v l) (hs : s.size + l.length ≤ maxLen) :
    Calls Try.prog 68 #[.string s, v] w fun e w' => e = .returned (.string (strOf (s.data.toList ++ l))) ∧ w = w' := by
  have hc := str_of_rd (P := Try.prog) 47 9 5 Try.underlying47 Try.underlying5 Try.underlying9 hv
  have hcat := run_string_add_sum (P := Try.prog) (a := s) (b := strOf l) (h := by rw [size_strOf]; unfold maxLen at hs; omega)
  rw [strOf_append] at hcat
  clear hv hs
  go_enter Try.func68, Try.ntmps68
  go_wp2
  go_ret
  exact ⟨rfl, rfl⟩

namespace Wire
/-- the last bytes of eight -/
def arr (T : List UInt8) : Array Value := (List.replicate (8 - T.length) (Value.int .u8 0) ++ T.map vb).toArray
theorem arr_size (T : List UInt8) (h : T.length ≤ 8) : (arr T).size = 8 := by simp [arr]; omega
theorem arr_set (T : List UInt8) (b : UInt8) (h : T.length < 8) : (arr T).setIfInBounds (8 - T.length - 1) (vb b) = arr (b :: T) := by
  apply Array.ext'
  simp only [arr, List.setIfInBounds_toArray]
  rw [List.set_append_left _ _ (by simp; omega)]
  rw [show 8 - T.length = (8 - T.length - 1) + 1 from by omega, List.replicate_succ']
  rw [List.set_append_right _ _ (by simp)]
  simp
  omega
end Wire
theorem Wire.tail_rd {w w1 : World} {g j : Nat} {T : List UInt8} (B : Blk w g 114 (Wire.arr T)) (hj : j + T.length = 8) (hb : Below w.heap.size w w1) :
    RdB w1 (.slice (some (if 8 = j then ⟨g, 0, none⟩ else ⟨g, j, none⟩)) (8 - j) (8 - j)) T := by
  have hl : 8 - j = T.length := by omega
  rw [hl]
  by_cases h : 8 = j
  · rw [if_pos h]
    have : T = [] := by rw [← List.length_eq_zero_iff]; omega
    subst this
    exact Rd.empty _ _ _ _ _
  · rw [if_neg h]
    refine ⟨by simp, .inr ⟨g, j, T.length, rfl, Nat.le_refl _, fun i u hu => ?_⟩⟩
    refine cell_later hb ?_
    rw [B.cell]
    unfold Wire.arr
    rw [List.getElem?_toArray, List.getElem?_append_right (by simp; omega)]
    simp only [List.length_replicate]
    rw [show j + i - (8 - T.length) = i from by omega]
    exact hu
def pnP (s : ByteArray) (T : List UInt8) : Nat → Value → Prop := fun i u => (i = 5 → u = .string (strOf (s.data.toList ++ [UInt8.ofNat T.length]))) ∧ (i = 8 → u = .string (strOf (s.data.toList ++ [UInt8.ofNat T.length] ++ T)))
def pnF (T : List UInt8) : Nat → World → Value → Prop := fun i w u => i = 4 → RdB w u [UInt8.ofNat T.length]
set_option maxHeartbeats 1000000 in
theorem putNum_any (s : ByteArray) (n : Nat) (w : World) (hn : n < 256 ^ 8) (hs : s.size + 100 ≤ maxLen) :
    Calls Try.prog 53 #[.string s, .int .u64 (n : Int)] w fun e w' => e = .returned (.string (strOf (s.data.toList ++ Wire.putNum n))) ∧ Below w.heap.size w w' := by
  have HN := Lib.hid hn
  have HS := Lib.hid hs
  clear hn hs
  go_enter Try.func53, Try.ntmps53
  go_wp2
  go_loopw [1, 6] (fun x i wr => ∃ (m : Nat) (T : List UInt8), T.length ≤ 8 ∧ x = .int .u64 (m : Int) ∧ i = .int .i64 ((8 - T.length : Nat) : Int) ∧ Hid (m < 256 ^ (8 - T.length)) ∧ Wire.nums n = Wire.nums m ++ T ∧ Below w.heap.size w wr ∧ Blk wr w.heap.size 114 (Wire.arr T)) (fun x _ _ => (intOf x).toNat)
  case atStart => exact ⟨n, [], by simp, rfl, rfl, HN.out, by simp, (Below.refl _ _).alloc (Nat.le_refl _) _, Blk.new _ _ _⟩
  case round =>
    obtain ⟨m, T, hT, rfl, rfl, hm, he, hb, B⟩ := hrel
    have HE := Lib.hid he
    have HB := Lib.hid hb
    have HK := Lib.hid B
    clear he hb B
    by_cases h0 : m = 0
    · subst h0
      have hT' : Wire.nums n = T := by rw [HE.out]; rfl
      clear HE hm
      have hlen : (8 : Int) - ((8 - T.length : Nat) : Int) = (T.length : Int) := by omega
      have hw1 : IntKind.i64.wrap (T.length : Int) = (T.length : Int) := IntWalk.i64_in _ (by omega)
      have hw2 : IntKind.u8.wrap (T.length : Int) = (T.length : Int) := wrap_u8 _ (by omega)
      have hj0 : (0 : Int) ≤ ((8 - T.length : Nat) : Int) := by omega
      have hj1 : ((8 - T.length : Nat) : Int) ≤ 8 := by omega
      have HJ : Hid (8 - T.length + T.length = 8) := show 8 - T.length + T.length = 8 by omega
      generalize 8 - T.length = j at *
      go_wp2
      refine wp_region_spec (fun i => i == 4 || i == 5 || i == 8) (pnP s T) (CF wr (pnF T)) (by kernel_rfl) (by kernel_rfl) ?_ CF.start ?_
      · intro i
        by_cases h5 : i = 5
        · exact ⟨_, fun _ => rfl, (fun h => by omega)⟩
        · exact ⟨_, (fun h => absurd h h5), fun _ => rfl⟩
      intro ν hν
      repeat (refine lex_plain (by rfl) rfl ?_; apply Exists.intro; refine ⟨fun σ w1 hA hD hC => ?_, ?_⟩; (· clear hA hD hC; go_simp; exact And.intro rfl rfl); simp only [Act.put, List.setIfInBounds_toArray, List.set_cons_succ, List.set_cons_zero, Nat.reduceAdd])
      have hst : Stable (pnF T) := fun i w w' u h hb e => (h e).keep hb
      have hbyte : (vb (UInt8.ofNat T.length)) = .int .u8 (T.length : Int) := by
        unfold vb; rw [UInt8.toNat_ofNat', Nat.mod_eq_of_lt (by omega : T.length < 2 ^ 8)]
      refine lex_special (by rfl) rfl (fun σ w1 hA hD hn hC => ?_) ?_
      · have HC := Lib.hid hC
        have HST := Lib.hid hst
        have HBY := Lib.hid hbyte
        clear hA hD hC hst hbyte hν
        go_simp
        refine value_ok HST.out HC.out ((Below.refl _ _).alloc (Nat.le_refl _) _) ⟨(fun h => by cases h), (fun h => by cases h)⟩ (fun _ => ?_)
        have := Rd.of_blk (n := 1) (size := 1) (Blk.new w1 5 #[.int .u8 (T.length : Int)]) rfl 1 (Nat.le_refl _)
        rw [show (#[Value.int .u8 (T.length : Int)].toList) = [UInt8.ofNat T.length].map vb from by rw [List.map_cons, List.map_nil, HBY.out]] at this
        exact this
      simp only [Act.put, List.setIfInBounds_toArray, List.set_cons_succ, List.set_cons_zero, Nat.reduceAdd]
      refine lex_special (by rfl) rfl (fun σ w1 hA hD hn hC => ?_) ?_
      · have HC := Lib.hid hC
        have HST := Lib.hid hst
        have HR := Lib.hid (hC.2 4 _ (got hA hD 4 rfl (by kernel_rfl)) rfl)
        clear hA hD hC hst hbyte hν
        go_simp
        refine call_ok HST.out HC.out ((put_any s (ν 4) _ w1 HR.out (by have := HS.out; simp; omega)).mono fun e w2 ⟨he, hb⟩ => ⟨_, he, ?_, ?_, hb ▸ Below.refl _ _⟩)
        · exact ⟨fun _ => rfl, (fun h => by cases h)⟩
        · exact (fun h => by cases h)
      rw [(hν 5).1 rfl]
      simp only [Act.put, List.setIfInBounds_toArray, List.set_cons_succ, List.set_cons_zero, Nat.reduceAdd]
      repeat (refine lex_plain (by rfl) rfl ?_; apply Exists.intro; refine ⟨fun σ w1 hA hD hC => ?_, ?_⟩; (· clear hA hD hC; go_simp; exact And.intro rfl rfl); simp only [Act.put, List.setIfInBounds_toArray, List.set_cons_succ, List.set_cons_zero, Nat.reduceAdd])
      refine lex_special (by rfl) rfl (fun σ w1 hA hD hn hC => ?_) ?_
      · have HC := Lib.hid hC
        have HST := Lib.hid hst
        have HR := Lib.hid (Wire.tail_rd HK.out HJ.out hC.1)
        clear hA hD hC hst hbyte hν
        go_simp
        refine call_ok HST.out HC.out ((put_any _ _ T w1 HR.out (by have := HS.out; rw [size_strOf]; simp; omega)).mono fun e w2 ⟨he, hb⟩ => ⟨_, he, ?_, ?_, hb ▸ Below.refl _ _⟩)
        · rw [strOf_list]; exact ⟨(fun h => by cases h), fun _ => rfl⟩
        · exact (fun h => by cases h)
      rw [(hν 8).2 rfl]
      simp only [Act.put, List.setIfInBounds_toArray, List.set_cons_succ, List.set_cons_zero, Nat.reduceAdd]
      repeat (refine lex_plain (by rfl) rfl ?_; apply Exists.intro; refine ⟨fun σ w1 hA hD hC => ?_, ?_⟩; (· clear hA hD hC; go_simp; exact And.intro rfl rfl); simp only [Act.put, List.setIfInBounds_toArray, List.set_cons_succ, List.set_cons_zero, Nat.reduceAdd])
      refine lex_nil ?_
      intro σ w2 _ _ hC
      have HB2 := Lib.hid (HB.out.trans (hC.1.mono HB.out.size))
      clear hC hν
      go_wp2
      all_goals
        go_ret
        exact ⟨ret_str (by unfold Wire.putNum; rw [hT']), HB2.out⟩
    · obtain ⟨j, hj⟩ : ∃ j, 8 - T.length = j + 1 := by
        rcases Nat.eq_zero_or_pos (8 - T.length) with q | q
        · have := hm.out; rw [q] at this; simp at this; omega
        · exact ⟨8 - T.length - 1, by omega⟩
      have hmp : (0 : Int) < (m : Int) := by omega
      have hj8 : j < 8 := by omega
      have hset := Wire.arr_set T (UInt8.ofNat (m % 256)) (by omega)
      rw [show 8 - T.length - 1 = j from by omega] at hset
      have hvb : vb (UInt8.ofNat (m % 256)) = .int .u8 ((m : Int) % 256) := by
        unfold vb
        rw [UInt8.toNat_ofNat', Nat.mod_eq_of_lt (by omega : m % 256 < 2 ^ 8)]
        rfl
      rw [hvb] at hset
      obtain ⟨v, hv⟩ : ∃ v, (Wire.arr T)[j]? = some v := ⟨_, Array.getElem?_eq_getElem (by rw [Wire.arr_size T hT]; omega)⟩
      have c1 : wr.cell? ⟨w.heap.size, j, none⟩ = some v := (HK.out.cell j).trans hv
      have c2 := HK.out.frozen j
      have HSET := Lib.hid hset
      clear hset hvb hv
      rw [hj]
      have HJ := Lib.hid hj
      have HNZ := Lib.hid h0
      clear hj h0
      go_wp2
      refine ⟨⟨m / 256, UInt8.ofNat (m % 256) :: T, ?_, rfl, ?_, ?_, ?_, HB.out.setCell (Nat.le_refl _) _, ?_⟩, ?_⟩
      · have := HJ.out; simp; omega
      · have := HJ.out; simp; omega
      · have h1 := hm.out
        have h2 := HJ.out
        show m / 256 < 256 ^ (8 - (T.length + 1))
        rw [h2, Nat.pow_succ] at h1
        rw [show 8 - (T.length + 1) = j from by omega]
        omega
      · rw [HE.out, Wire.nums_step m (Nat.lt_of_lt_of_le hm.out (Nat.pow_le_pow_right (by omega) (by omega))) HNZ.out]
        simp
      · rw [← HSET.out]; exact HK.out.set _ _
      · simp [intOf]; omega

set_option maxHeartbeats 400000 in
theorem putText_any (s t : ByteArray) (w : World) (ht : t.size ≤ 100000) (hs : s.size ≤ 1000000) :
    Calls Try.prog 73 #[.string s, .string t] w fun e w' => e = .returned (.string (strOf (s.data.toList ++ Wire.putText t.data.toList))) ∧ Below w.heap.size w w' := by
  have hc : ∀ w1, Calls Try.prog 53 #[.string s, .int .u64 (t.size : Int)] w1 fun e w' => e = .returned (.string (strOf (s.data.toList ++ Wire.putNum t.size))) ∧ Below w1.heap.size w1 w' :=
    fun w1 => putNum_any s t.size w1 (by omega) (by unfold maxLen; omega)
  have HC := Lib.hid hc
  clear hc
  have hcat := run_string_add_sum (P := Try.prog) (a := strOf (s.data.toList ++ Wire.putNum t.size)) (b := t) (h := by rw [size_strOf]; have := Wire.putNum_length t.size; simp; omega)
  rw [show strOf (s.data.toList ++ Wire.putNum t.size) ++ t = strOf (s.data.toList ++ Wire.putText t.data.toList) from by
    rw [← strOf_data t, strOf_append, strOf_list, strOf_data]
    unfold Wire.putText
    rw [len_data, List.append_assoc]] at hcat
  have HT : Hid (t.size ≤ 100000) := ht
  clear ht hs
  have ht2 : (t.size : Int) ≤ 100000 := by have := HT.out; omega
  go_enter Try.func73, Try.ntmps73
  go_wp2_with fail
  refine (HC.out _).mono ?_
  rintro e w1 ⟨rfl, hb⟩
  have HB := Lib.hid hb
  clear hb
  go_wp2
  go_ret
  exact ⟨rfl, HB.out⟩

theorem ownB_new (w : World) (base : Nat) (b : UInt8) (e : TypeId) (hb : base ≤ w.heap.size) : (w.alloc (.cells #[vb b] e)).ownsRow base e 1 (.slice (some ⟨w.heap.size, 0, none⟩) 1 1) 1 ([b].map vb) :=
  own_new w base e #[vb b] 1 1 rfl hb (by unfold maxLen; omega)
theorem vb_one (l : List UInt8) : ∀ y ∈ l.map vb, y.oneCell' = true := by
  intro y hy
  obtain ⟨b, _, rfl⟩ := List.mem_map.1 hy
  rfl


end Go.Proofs.Ytikimmhkfjaijaa
