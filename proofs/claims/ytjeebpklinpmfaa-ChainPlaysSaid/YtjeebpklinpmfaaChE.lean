/-
  CHAINS: last, next, Snap.
-/
import Derived.Test.YtjeebpklinpmfaaChD
namespace Go.Proofs.Ytjeebpklinpmfaa
open Go.RowKit Reg Go.WideShapes Go.ChangeShapes

def Ch.last (C : Ch) : Sn := if C.snaps.length = 0 then ⟨zeroVo C.n, (0, 0), false⟩ else C.snaps.getD (C.snaps.length - 1) nosn
theorem snap_build (w : World) {v : Vo} (hv : wfV v) : (Instr.build 74 #[(0, .agg (voL v).toArray)]).run Try.prog w = .ok (.agg (snL ⟨v, (0, 0), false⟩).toArray) w := by
  obtain ⟨hl, -⟩ := hv
  match v, hl with
  | [s0, s1, s2, s3, s4, s5, s6, s7], _ => exact run_build w _ _ _ (by kernel_rfl)
theorem snap_build2 (w : World) {v : Vo} (hv : wfV v) (a b : Int) : (Instr.build 74 #[(0, .agg (voL v).toArray), (1, .agg #[.int .u64 a, .int .u64 b])]).run Try.prog w = .ok (.agg (snL ⟨v, (a, b), false⟩).toArray) w := by
  obtain ⟨hl, -⟩ := hv
  match v, hl with
  | [s0, s1, s2, s3, s4, s5, s6, s7], _ => exact run_build w _ _ _ (by kernel_rfl)
theorem snap_zero_size : (Try.prog.info? 74).map (fun i => (i.zero.getD undef).cells.size) = some 11 := by kernel_rfl
section
variable {w : World} {bc : Nat} {sl : Value} {C : Ch}
theorem last_wf (h : Cm w bc sl C) : wfS C.last := by
  unfold Ch.last
  by_cases h0 : C.snaps.length = 0
  · rw [if_pos h0]; exact ⟨zeroVo_wf h.n.2, rfl, rfl⟩
  · rw [if_neg h0]; exact wf_getD h.snaps.1 _
theorem last_any (h : Cm w bc sl C) : Calls Try.prog 33 #[.pointer (some ⟨bc, 0, none⟩)] w fun e w' => e = .returned (.agg (snL C.last).toArray) ∧ Below w.heap.size w w' := by
  obtain ⟨a, c, rfl, hc, hm, hx⟩ := h.snaps.open_
  have hbo : ∀ o, Below w.heap.size w (w.alloc o) := fun o => (Below.refl _ _).alloc (Nat.le_refl _) _
  have c9 := fun o => (h.keep (hbo o)).c9
  have c8 := fun o => (h.keep (hbo o)).c8
  have HW := Lib.hid (last_wf h)
  have hn := h.n
  have hxs := h.snaps.2.1
  cases hl : C.snaps.length with
  | zero =>
    rw [hl] at c9
    have HL := Lib.hid (show C.last = ⟨zeroVo C.n, (0, 0), false⟩ by unfold Ch.last; rw [if_pos hl])
    have HV := Lib.hid (zeroVo_wf hn.2)
    have HZ := Lib.hid (fun w => zeros_any w C.n hn.2)
    have HBO := Lib.hid hbo
    have HS2 := Lib.hid (show (Try.prog.info? 74).map (fun i => i.size) = some (snL ⟨zeroVo C.n, (0, 0), false⟩).toArray.size by rw [List.size_toArray, snL_length ⟨zeroVo_wf hn.2, rfl, rfl⟩]; exact snap_size)
    have HS3 := Lib.hid (show (11 : Nat) = (snL ⟨zeroVo C.n, (0, 0), false⟩).toArray.size by rw [List.size_toArray, snL_length ⟨zeroVo_wf hn.2, rfl, rfl⟩])
    clear hx hl hm hc h hbo hn hxs
    go_enter Try.func33, Try.ntmps33
    go_wp2_with fail
    have B1 := Lib.hid (Blk.new w 74 (snL ⟨List.replicate 8 ByteArray.empty, (0, 0), false⟩).toArray)
    have HB1 := Lib.hid (HBO.out (Obj.cells (snL ⟨List.replicate 8 ByteArray.empty, (0, 0), false⟩).toArray 74))
    refine (HZ.out _).mono ?_
    rintro e w2 ⟨rfl, hb⟩
    have HB2 := Lib.hid (show Below w.heap.size w w2 ∧ ∃ old, Blk w2 w.heap.size 74 old ∧ old.size = 11 from ⟨HB1.out.trans (hb.mono (by simp)), _, B1.out.keep hb, rfl⟩)
    clear hb B1 HB1
    obtain ⟨old, ho1, ho2⟩ := HB2.out.2
    have HO := Lib.hid ho1
    have HO2 := Lib.hid (ho2.trans HS3.out)
    clear ho1 ho2
    go_wp2_with (first | refine wpList_value_run rfl _ (exec_build 74 _ rfl [(0, .agg (voL (zeroVo C.n)).toArray)] rfl _ (snap_build _ HV.out)) ?_ | refine wpList_store_then rfl 74 _ _ rfl w.heap.size (snL ⟨zeroVo C.n, (0, 0), false⟩).toArray rfl rfl 74 _ HO.out HS2.out HO2.out (all_oneCell_toArray (snL_one _)) ?_)
    refine Later.mk fun w3 hw3 => ?_
    have H3 := Lib.hid (show Below w.heap.size w w3 ∧ Blk w3 w.heap.size 74 (snL ⟨zeroVo C.n, (0, 0), false⟩).toArray by rw [hw3]; exact ⟨Below.setRow HB2.out.1 (Nat.le_refl _) _, HO.out.row _⟩)
    clear hw3
    go_wp2
    refine bodyPost_ret (results_cell (ty := 74) (g := w.heap.size) (k := 2) rfl rfl H3.out.2 Try.underlying74 rfl HS2.out) rfl ⟨by rw [HL.out], H3.out.1⟩
  | succ m =>
    rw [hl] at hx
    obtain ⟨g, rfl, _, hr⟩ := hx m (by omega)
    rw [hl] at c9 hxs
    have HL := Lib.hid (show C.last = C.snaps.getD m nosn by unfold Ch.last; rw [if_neg (by omega), hl, Nat.add_sub_cancel])
    have HR := Lib.hid (fun o => show (w.alloc o).rangeAt g (m * 11) (snL (C.snaps.getD m nosn)) from fun j u hu => cell_later (hbo o) (hr j u hu))
    have i1 : (0 : Int) < ((m + 1 : Nat) : Int) := by omega
    have i2 : ((m + 1 : Nat) : Int) - 1 = (m : Int) := by omega
    have hwf := wf_getD h.snaps.1 m
    have HS1 := Lib.hid (show (Try.prog.info? 74).map (fun i => i.size) = some (snL (C.snaps.getD m nosn)).length by rw [snL_length hwf]; exact snap_size)
    have HS2 := Lib.hid (show (Try.prog.info? 74).map (fun i => i.size) = some (snL (C.snaps.getD m nosn)).toArray.size by rw [List.size_toArray, snL_length hwf]; exact snap_size)
    have HS3 := Lib.hid (show (11 : Nat) = (snL (C.snaps.getD m nosn)).toArray.size by rw [List.size_toArray, snL_length hwf])
    have HBO := Lib.hid hbo
    clear hx hr hl hm hc h hbo hwf hn
    go_enter Try.func33, Try.ntmps33
    go_wp2_with (first | refine wpList_load_mid rfl 74 _ rfl g (m * 11) rfl (snL (C.snaps.getD m nosn)) _ (HR.out _) Try.underlying74 rfl HS1.out ?_ | refine wpList_store_then rfl 74 _ _ rfl w.heap.size (snL (C.snaps.getD m nosn)).toArray rfl rfl 74 _ (Blk.new _ _ _) HS2.out HS3.out (all_oneCell_toArray (snL_one _)) ?_)
    refine Later.mk fun w3 hw3 => ?_
    have H3 := Lib.hid (show Below w.heap.size w w3 ∧ Blk w3 w.heap.size 74 (snL (C.snaps.getD m nosn)).toArray by rw [hw3]; exact ⟨Below.setRow (HBO.out _) (Nat.le_refl _) _, (Blk.new _ _ _).row _⟩)
    clear hw3
    go_wp2
    refine bodyPost_ret (results_cell (ty := 74) (g := w.heap.size) (k := 2) rfl rfl H3.out.2 Try.underlying74 rfl HS2.out) rfl ⟨by rw [HL.out], H3.out.1⟩
end
end Go.Proofs.Ytjeebpklinpmfaa
