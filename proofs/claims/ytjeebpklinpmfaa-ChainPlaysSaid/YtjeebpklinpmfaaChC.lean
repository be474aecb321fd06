/-
  CHAINS: zeros.
-/
import Derived.Test.YtjeebpklinpmfaaChB
import Derived.Laws.BytesArg
namespace Go.Proofs.Ytjeebpklinpmfaa
open Go.RowKit Reg Go.WideShapes Go.ChangeShapes

theorem zeroVo_set {k : Nat} (hk : k < 8) : (voL (zeroVo k)).toArray.setIfInBounds k (.string zB) = (voL (zeroVo (k + 1))).toArray := by
  have e1 : 8 - k = (8 - (k + 1)) + 1 := by omega
  simp only [voL, zeroVo, List.map_append, List.map_replicate, List.setIfInBounds_toArray]
  congr 1
  rw [e1, List.replicate_succ, List.replicate_succ', List.append_assoc, List.set_append_right _ _ (by simp)]
  simp
theorem zeroVo_zero : (voL (zeroVo 0)).toArray = #[.string ByteArray.empty, .string ByteArray.empty, .string ByteArray.empty, .string ByteArray.empty, .string ByteArray.empty, .string ByteArray.empty, .string ByteArray.empty, .string ByteArray.empty] := rfl
def layC (c : Int) (k : Nat) : Array Value := (List.replicate k (Value.int .u8 c) ++ List.replicate (32 - k) (Value.int .u8 0)).toArray
theorem layC_set (c : Int) (k : Nat) (h : k < 32) : (layC c k).setIfInBounds k (.int .u8 c) = layC c (k + 1) := by
  unfold layC
  rw [List.setIfInBounds_toArray, List.set_append_right _ _ (by simp), List.length_replicate, Nat.sub_self, show 32 - k = (32 - (k + 1)) + 1 from by omega, List.replicate_succ, List.set_cons_zero, List.replicate_succ' (n := k), List.append_assoc]
  rfl
theorem layC_old (c : Int) (k : Nat) (h : k < 32) : (layC c k)[k]? = some (.int .u8 0) := by
  unfold layC
  rw [List.getElem?_toArray, List.getElem?_append_right (by simp), List.length_replicate, Nat.sub_self, List.getElem?_replicate, if_pos (by omega)]
theorem layC_all (c : Int) (j : Nat) (h : j < 32) : (layC c 32)[j]? = some (.int .u8 c) := by
  unfold layC
  rw [List.getElem?_toArray, List.getElem?_append_left (by simpa using h), List.getElem?_replicate, if_pos h]
theorem byte_info : (Try.prog.info? 5).map (fun i => (i.zero, i.size, i.bytes)) = some (some (.int .u8 0), 1, 1) := by kernel_rfl
theorem made_32 (w : World) : (Instr.makeSlice 89 (.int .i64 32) (.int .i64 32)).run Try.prog w = .ok (.slice (some ⟨w.heap.size, 0, none⟩) 32 32) (w.alloc (.cells (layC 0 0) 5)) := by
  obtain ⟨i, hi, hz0, hz1, hz2⟩ := info_parts byte_info
  have h := run_make (P := Try.prog) w 89 5 i (.int .u8 0) Try.underlying89 hi hz0 .i64 .i64 32 32 (by omega) (Int.le_refl _) (by rw [hz2]; omega) (by omega)
  have e0 : madeCells (Value.cells (.int .u8 0)) (32 * 1) = layC 0 0 := by
    apply Array.ext'
    exact toList_madeCells_one _ _
  rw [hz1] at h
  have h2 : (Instr.makeSlice 89 (.int .i64 32) (.int .i64 32)).run Try.prog w = .ok (.slice (some ⟨w.heap.size, 0, none⟩) 32 32) (w.alloc (.cells (madeCells (Value.cells (.int .u8 0)) (32 * 1)) 5)) := h
  rw [h2, e0]
theorem zB_run (w : World) (g : Nat) (hb : Blk w g 5 (layC 0 0)) : (convert 89 9 (.slice (some ⟨g, 0, none⟩) 32 32)).run Try.prog w = .ok (.string zB) w := by
  refine str_of_rd (l := List.replicate 32 0) _ _ 5 Try.underlying89 Try.underlying5 Try.underlying9 ?_
  exact Rd.of_blk hb (n := 32) (size := 1) (by simp [layC]) 32 (Nat.le_refl _)
/-- a result variable that is an array or a struct in a block of its own -/
theorem results_cell {P : Program} {fn : Func} {tmps : Array Value} {w : World} {k : Nat} {ty : TypeId} {g : Nat} {t : TypeId} {cs : Array Value} {d : TypeDesc} (hr : fn.results = #[.cell k ty]) (ht : tmps.getD k undef = .pointer (some ⟨g, 0, none⟩)) (hb : Blk w g t cs)
    (hu : P.underlying ty = some d) (hd : (match d with | .struct _ | .array _ _ => true | _ => false) = true) (hi : (P.info? ty).map (·.size) = some cs.size) : (results fn tmps).run P w = .ok (.agg cs) w := by
  have := run_loadVar_row (P := P) w g t ty cs (0, 0) d hb hu hd hi
  have ht2 : tmps[k]?.getD undef = .pointer (some ⟨g, 0, none⟩) := by simpa using ht
  simp [results, hr, ht2, asAddr, this]
theorem zeros_any (w : World) (n : Nat) (hn : n ≤ 8) : Calls Try.prog 29 #[.int .i64 n] w fun e w' => e = .returned (.agg (voL (zeroVo n)).toArray) ∧ Below w.heap.size w w' := by
  have hset := fun k (hk : k < n) => zeroVo_set (k := k) (by omega)
  have hlen := fun k (hk : k ≤ n) => voL_length (zeroVo_wf (n := k) (by omega))
  have HSET := Lib.hid hset
  have HLEN := Lib.hid hlen
  clear hset hlen
  go_enter Try.func29, Try.ntmps29
  go_wp2_with fail
  go_loopw [6] (fun i wr => ∃ k : Nat, k ≤ n ∧ i = .int .i64 k ∧ Below w.heap.size w wr ∧ Blk wr w.heap.size 68 (voL (zeroVo 0)).toArray ∧ Blk wr (w.heap.size + 1) 68 (voL (zeroVo k)).toArray) (fun i _ => n - (intOf i).toNat)
  case atStart =>
    rw [zeroVo_zero]
    exact ⟨0, Nat.zero_le _, rfl, ((Below.refl _ _).alloc (Nat.le_refl _) _).alloc (by simp) _, (Blk.new _ _ _).alloc _, Blk.newAt _ _ (by simp)⟩
  case round =>
    obtain ⟨k, hk, rfl, hb, hb0, hb1⟩ := hrel
    by_cases hkn : k < n
    · have hmk := made_32 wr
      have a0 := Blk.new wr 5 (layC 0 0)
      have hbl := hb.alloc hb.size (Obj.cells (layC 0 0) 5)
      replace hb0 := hb0.alloc (Obj.cells (layC 0 0) 5)
      have hz := hb1.lt
      replace hb1 := hb1.alloc (Obj.cells (layC 0 0) 5)
      generalize wr.alloc (Obj.cells (layC 0 0) 5) = w1 at *
      have hcv := zB_run w1 wr.heap.size a0
      have HB := Lib.hid hbl
      have HB0 := Lib.hid hb0
      have HB1 := Lib.hid hb1
      have HKN := Lib.hid hkn
      have i1 : (k : Int) < (n : Int) := by omega
      have i2 : (k : Int) < 8 := by omega
      have hck : w1.cell? ⟨w.heap.size + 1, k, none⟩ = some (.string ByteArray.empty) := by
        rw [HB1.out.cell]
        simp only [voL, zeroVo, List.map_append, List.map_replicate, List.getElem?_toArray]
        rw [List.getElem?_append_right (by simp), List.getElem?_replicate, if_pos (by simp; omega)]
      have hfk := HB1.out.frozen k
      have hfin : Blk (w1.setCell ⟨w.heap.size + 1, k, none⟩ (.string zB)) (w.heap.size + 1) 68 (voL (zeroVo (k + 1))).toArray := by
        rw [← HSET.out k hkn]
        exact HB1.out.set k _
      have HF := Lib.hid hfin
      have HG := Lib.hid (HB.out.setCell (p := ⟨w.heap.size + 1, k, none⟩) (Nat.le_succ _) (.string zB))
      have HF0 := Lib.hid (HB0.out.far (p := ⟨w.heap.size + 1, k, none⟩) (Nat.ne_of_lt (Nat.lt_succ_self _)) (.string zB))
      clear hb hb0 hb1 hbl hkn hk a0 hfin hz
      go_wp2
      have hlt := HKN.out
      refine ⟨⟨k + 1, by omega, by go_num, HG.out, HF0.out, HF.out⟩, by simp [intOf]; omega⟩
    · obtain rfl : k = n := by omega
      have HB := Lib.hid hb
      have HB0 := Lib.hid hb0
      have HB1 := Lib.hid hb1
      have hl := HLEN.out k (Nat.le_refl _)
      have hl0 : (voL (zeroVo 0)).toArray.size = 8 := by rw [List.size_toArray]; exact HLEN.out 0 (Nat.zero_le _)
      have hone := all_oneCell_toArray (voL_one (zeroVo k))
      have hrg : wr.rangeAt (w.heap.size + 1) 0 (voL (zeroVo k)) := fun j u hu => by
        rw [hb1.cell, Nat.zero_add]
        simpa using hu
      clear hb hb0 hb1 hk hkn HSET HLEN
      generalize hcz : voL (zeroVo k) = cz at *
      have HCZ := Lib.hid hcz
      clear hcz
      generalize (voL (zeroVo 0)).toArray = c0 at *
      have HONE := Lib.hid hone
      have HRG := Lib.hid hrg
      have HS1 := Lib.hid (show (Try.prog.info? 68).map (fun i => i.size) = some cz.length by rw [hl]; exact vol_size)
      have HS2 := Lib.hid (show (Try.prog.info? 68).map (fun i => i.size) = some cz.toArray.size by rw [List.size_toArray, hl]; exact vol_size)
      have HS3 := Lib.hid (show c0.size = cz.toArray.size from hl0.trans (by simp [hl]))
      clear hl hl0 hone hrg
      go_wp2_with (first | refine wpList_load_mid rfl 68 _ rfl (w.heap.size + 1) 0 rfl cz _ HRG.out Try.underlying68 rfl HS1.out ?_ | refine wpList_store_then rfl 68 _ _ rfl w.heap.size cz.toArray rfl rfl 68 _ HB0.out HS2.out HS3.out HONE.out ?_)
      refine Later.mk fun w2 hw2 => ?_
      have H2 := Lib.hid (show Below w.heap.size w w2 ∧ Blk w2 w.heap.size 68 cz.toArray by rw [hw2]; exact ⟨Below.setRow HB.out (Nat.le_refl _) _, HB0.out.row _⟩)
      clear hw2
      go_wp2
      refine bodyPost_ret (results_cell (ty := 68) (g := w.heap.size) (k := 2) rfl rfl H2.out.2 Try.underlying68 rfl HS2.out) rfl ⟨by rw [HCZ.out], H2.out.1⟩
end Go.Proofs.Ytjeebpklinpmfaa
