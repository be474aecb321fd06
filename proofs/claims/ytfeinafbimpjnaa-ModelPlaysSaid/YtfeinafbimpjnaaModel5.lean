/-
  A MODEL: letters, lists compared, Image.
-/
import Derived.Test.YtfeinafbimpjnaaModel4
import Derived.Laws.BytesArg
namespace Go.Proofs.Ytfeinafbimpjnaa
open Go.RowKit Reg Go.WideShapes Go.ChangeShapes

def layC (c : Int) (k : Nat) : Array Value := (List.replicate k (Value.int .u8 c) ++ List.replicate (32 - k) (Value.int .u8 0)).toArray
theorem layC_set (c : Int) (k : Nat) (h : k < 32) : (layC c k).setIfInBounds k (.int .u8 c) = layC c (k + 1) := by
  unfold layC
  rw [List.setIfInBounds_toArray, List.set_append_right _ _ (by simp), List.length_replicate, Nat.sub_self, show 32 - k = (32 - (k + 1)) + 1 from by omega, List.replicate_succ, List.set_cons_zero, List.replicate_succ' (n := k), List.append_assoc]
  rfl
theorem layC_old (c : Int) (k : Nat) (h : k < 32) : (layC c k)[k]? = some (.int .u8 0) := by
  unfold layC
  rw [List.getElem?_toArray, List.getElem?_append_right (by simp), List.length_replicate, Nat.sub_self, List.getElem?_replicate, if_pos (by omega)]
theorem layC_all (c : Int) (j : Nat) (h : j < 32) : (layC c 32)[j]? = some (.int .u8 c) := by
  unfold layC
  rw [List.getElem?_toArray, List.getElem?_append_left (by simpa using h), List.getElem?_replicate, if_pos h]
theorem rep_getD (n : Nat) (c : Int) (i : Nat) (h : i < n) : (List.replicate n c).getD i 0 = c := by simp [h]
def letS (c : Int) (short : Bool) : ByteArray := strOfNums (List.replicate (if short then 31 else 32) c)
theorem byte_info : (Try.prog.info? 5).map (fun i => (i.zero, i.size, i.bytes)) = some (some (.int .u8 0), 1, 1) := by kernel_rfl
theorem made_32 (w : World) : (Instr.makeSlice 66 (.int .i64 32) (.int .i64 32)).run Try.prog w = .ok (.slice (some ⟨w.heap.size, 0, none⟩) 32 32) (w.alloc (.cells (layC 0 0) 5)) := by
  obtain ⟨i, hi, hz0, hz1, hz2⟩ := info_parts byte_info
  have h := run_make (P := Try.prog) w 66 5 i (.int .u8 0) Try.underlying66 hi hz0 .i64 .i64 32 32 (by omega) (Int.le_refl _) (by rw [hz2]; omega) (by omega)
  have e0 : madeCells (Value.cells (.int .u8 0)) (32 * 1) = layC 0 0 := by
    apply Array.ext'
    exact toList_madeCells_one _ _
  rw [hz1] at h
  have h2 : (Instr.makeSlice 66 (.int .i64 32) (.int .i64 32)).run Try.prog w = .ok (.slice (some ⟨w.heap.size, 0, none⟩) 32 32) (w.alloc (.cells (madeCells (Value.cells (.int .u8 0)) (32 * 1)) 5)) := h
  rw [h2, e0]
set_option maxRecDepth 100000 in
theorem letters_any (c : Int) (short : Bool) (w : World) :
    Calls Try.prog 13 #[.int .u8 c, .bool short] w fun e w' => e = .returned (.string (letS c short)) ∧ Below w.heap.size w w' := by
  have hmk := made_32 w
  have b0 := Blk.new w 5 (layC 0 0)
  have hb0 := (Below.refl w.heap.size w).alloc (Nat.le_refl _) (Obj.cells (layC 0 0) 5)
  have e0 : layC 0 0 = layC c 0 := rfl
  rw [e0] at hmk b0 hb0
  generalize w.alloc (Obj.cells (layC c 0) 5) = w1 at *
  have B0 := Lib.hid b0
  have HB0 := Lib.hid hb0
  clear b0 hb0 e0
  generalize hL : w.heap.size = L at *
  go_enter Try.func13, Try.ntmps13
  go_wp2_with fail
  go_loopw [6] (fun i wr => ∃ k : Nat, k ≤ 32 ∧ i = .int .i64 k ∧ Below L w wr ∧ Blk wr L 5 (layC c k)) (fun i _ => 32 - (intOf i).toNat)
  case atStart => exact ⟨0, Nat.zero_le _, rfl, HB0.out, B0.out⟩
  case round =>
    obtain ⟨k, hk, rfl, hb, hB⟩ := hrel
    have HB := Lib.hid hb
    have HK := Lib.hid hB
    clear hb hB hmk
    by_cases hlt : k < 32
    · have c1 : wr.cell? ⟨L, k, none⟩ = some (.int .u8 0) := (HK.out.cell k).trans (layC_old c k hlt)
      have c2 := HK.out.frozen k
      have hk2 : (k : Int) < 32 := by omega
      have hk3 : (0 : Int) ≤ (k : Int) := by omega
      have hk9 : (k : Int) < 9223372036854775807 := by omega
      have HLT := Lib.hid hlt
      clear hlt
      have hfin : Blk (wr.setCell ⟨L, k, none⟩ (.int .u8 c)) L 5 (layC c (k + 1)) := by
        rw [← layC_set c k HLT.out]
        exact HK.out.set k _
      have HF := Lib.hid hfin
      have HG := Lib.hid (HB.out.setCell (p := ⟨L, k, none⟩) (Nat.le_refl _) (.int .u8 c))
      clear hfin
      go_wp2
      have hlt := HLT.out
      refine ⟨⟨k + 1, by omega, by go_num, HG.out, HF.out⟩, by simp [intOf]; omega⟩
    · obtain rfl : k = 32 := by omega
      have hrs : ∀ s, s = letS c short → Ending.returned (.string s) = .returned (.string (letS c short)) := fun s h => by rw [h]
      have HRS := Lib.hid hrs
      clear hrs hlt hk
      cases short with
      | true =>
        have hcv := run_convert_bytes_arg (P := Try.prog) wr 66 5 Try.underlying66 Try.underlying5 L 1 31 31 (List.replicate 31 c) (by simp) (fun i hi => by
          rw [HK.out.cell, layC_all c (1 + i) (by omega), rep_getD 31 c i hi]) 9 Try.underlying9
        go_wp2
        go_ret
        exact ⟨HRS.out _ rfl, HB.out⟩
      | false =>
        have hcv := run_convert_bytes_arg (P := Try.prog) wr 66 5 Try.underlying66 Try.underlying5 L 0 32 32 (List.replicate 32 c) (by simp) (fun i hi => by
          rw [HK.out.cell, layC_all c (0 + i) (by omega), rep_getD 32 c i hi]) 9 Try.underlying9
        go_wp2
        go_ret
        exact ⟨HRS.out _ rfl, HB.out⟩
end Go.Proofs.Ytfeinafbimpjnaa
