/-
  THE LAWS' HELPERS: guid, data; puts that are read.
-/
import Derived.Test.YtjeebpklinpmfaaChK
namespace Go.Proofs.Ytjeebpklinpmfaa
open Go.RowKit Reg Go.WideShapes Go.ChangeShapes

theorem guid_any (a b : Int) (w : World) : Calls Try.prog 12 #[.int .u64 a, .int .u64 b] w fun e w' => e = .returned (aggG (a, b)) ∧ Below w.heap.size w w' := by
  go_enter Try.func12, Try.ntmps12
  go_wp2
  refine bodyPost_ret (results_cell (ty := 33) (g := w.heap.size) (k := 4) rfl rfl (Blk.new _ _ _) Try.underlying33 rfl (by kernel_rfl)) rfl ⟨rfl, ?_⟩
  exact (Below.refl _ _).alloc (Nat.le_refl _) _
theorem rep_getD (n : Nat) (c : Int) (i : Nat) (h : i < n) : (List.replicate n c).getD i 0 = c := by simp [h]
def dataS (c : Int) : ByteArray := strOfNums (List.replicate (if 250 < c then (c % 31).toNat else 32) c)
theorem dataS_le (c : Int) : (dataS c).size ≤ 32 := by
  unfold dataS
  have : ∀ l : List Int, (strOfNums l).size = l.length := fun l => by
    show ((l.map fun n => UInt8.ofNat n.toNat).toArray).size = l.length
    simp
  rw [this, List.length_replicate]
  split <;> omega
set_option maxRecDepth 100000 in
theorem data_any (c : Int) (hc0 : 0 ≤ c) (hc1 : c < 256) (w : World) :
    Calls Try.prog 23 #[.int .u8 c] w fun e w' => e = .returned (.string (dataS c)) ∧ Below w.heap.size w w' := by
  have hmk := made_32 w
  have b0 := Blk.new w 5 (layC 0 0)
  have hb0 := (Below.refl w.heap.size w).alloc (Nat.le_refl _) (Obj.cells (layC 0 0) 5)
  have e0 : layC 0 0 = layC c 0 := rfl
  rw [e0] at hmk b0 hb0
  generalize w.alloc (Obj.cells (layC c 0) 5) = w1 at *
  have B0 := Lib.hid b0
  have HB0 := Lib.hid hb0
  have HC := Lib.hid (And.intro hc0 hc1)
  clear b0 hb0 e0 hc0 hc1
  generalize hL : w.heap.size = L at *
  go_enter Try.func23, Try.ntmps23
  go_wp2_with fail
  go_loopw [4] (fun i wr => ∃ k : Nat, k ≤ 32 ∧ i = .int .i64 k ∧ Below L w wr ∧ Blk wr L 5 (layC c k)) (fun i _ => 32 - (intOf i).toNat)
  case atStart => exact ⟨0, Nat.zero_le _, rfl, HB0.out, B0.out⟩
  case round =>
    obtain ⟨k, hk, rfl, hb, hB⟩ := hrel
    have HB := Lib.hid hb
    have HK := Lib.hid hB
    clear hb hB hmk
    by_cases hlt : k < 32
    · have c1 : wr.cell? ⟨L, k, none⟩ = some (.int .u8 0) := (HK.out.cell k).trans (layC_old c k hlt)
      have c2 := HK.out.frozen k
      have hk2 : (k : Int) < 32 := by omega
      have hk3 : (0 : Int) ≤ (k : Int) := by omega
      have HLT := Lib.hid hlt
      have hfin : Blk (wr.setCell ⟨L, k, none⟩ (.int .u8 c)) L 5 (layC c (k + 1)) := by
        rw [← layC_set c k hlt]
        exact HK.out.set k _
      have HF := Lib.hid hfin
      have HG := Lib.hid (HB.out.setCell (p := ⟨L, k, none⟩) (Nat.le_refl _) (.int .u8 c))
      clear hfin hlt hk
      go_wp2
      clear hk2 hk3
      exact ⟨⟨k + 1, HLT.out, rfl, HG.out, HF.out⟩, meas_succ HLT.out⟩
    · obtain rfl : k = 32 := by omega
      have hrs : ∀ s, s = dataS c → Ending.returned (.string s) = .returned (.string (dataS c)) := fun s h => by rw [h]
      clear hlt hk
      obtain ⟨h0, h1⟩ := HC.out
      by_cases h250 : 250 < c
      · have hm : dataS c = strOfNums (List.replicate (c % 31).toNat c) := by unfold dataS; rw [if_pos h250]
        rw [hm] at hrs
        have HRS := Lib.hid (And.intro hm hrs)
        have hmb : (c % 31).toNat ≤ 32 ∧ 0 ≤ c % 31 ∧ c % 31 < 31 ∧ c % 31 = ((c % 31).toNat : Int) := by omega
        obtain ⟨hm1, hm2, hm3, hm4⟩ := hmb
        have hcv := run_convert_bytes_arg (P := Try.prog) wr 89 5 Try.underlying89 Try.underlying5 L 0 (c % 31).toNat 32 (List.replicate (c % 31).toNat c) (by simp) (fun i hi => by
          rw [HK.out.cell, layC_all c (0 + i) (by omega), rep_getD _ c i hi]) 9 Try.underlying9
        generalize hz : c % 31 = z at *
        generalize z.toNat = m at *
        subst hm4
        have e1 : c.tmod 31 = (m : Int) := by rw [Int.tmod_eq_emod_of_nonneg h0]; exact hz
        clear hm hrs hz
        go_wp2
        go_ret
        exact ⟨by rw [HRS.out.1]; rfl, HB.out⟩
      · have hm : dataS c = strOfNums (List.replicate 32 c) := by unfold dataS; rw [if_neg h250]
        have HRS := Lib.hid hm
        have hcv := run_convert_bytes_arg (P := Try.prog) wr 89 5 Try.underlying89 Try.underlying5 L 0 32 32 (List.replicate 32 c) (by simp) (fun i hi => by
          rw [HK.out.cell, layC_all c (0 + i) (by omega), rep_getD 32 c i hi]) 9 Try.underlying9
        clear hm hrs
        go_wp2
        go_ret
        exact ⟨by rw [HRS.out]; rfl, HB.out⟩
/-- a put: a block, a letter -/
abbrev Pt := Int × Int
def wfP (p : Pt) : Prop := (Lit.int .i64 p.1).wf = true ∧ 0 ≤ p.2 ∧ p.2 < 256
/-- v is read as the puts ps -/
def InP (w : World) (v : Value) (ps : List Pt) : Prop :=
  ∃ a c, v = .slice a ps.length c ∧ ps.length ≤ maxLen ∧ (∀ p ∈ ps, wfP p) ∧ ∀ j, j < ps.length → ∃ g off, a = some ⟨g, off, none⟩ ∧ w.cell? ⟨g, off + j * 2, none⟩ = some (.int .i64 (ps.getD j (0, 0)).1) ∧ w.cell? ⟨g, off + j * 2 + 1, none⟩ = some (.int .u8 (ps.getD j (0, 0)).2)
theorem InP.keep {w w' : World} {v : Value} {ps : List Pt} (h : InP w v ps) (hb : Below w.heap.size w w') : InP w' v ps := by
  obtain ⟨a, c, rfl, hm, hw, hx⟩ := h
  refine ⟨a, c, rfl, hm, hw, fun j hj => ?_⟩
  obtain ⟨g, off, rfl, h1, h2⟩ := hx j hj
  exact ⟨g, off, rfl, cell_later hb h1, cell_later hb h2⟩
theorem wfP_getD {ps : List Pt} (h : ∀ p ∈ ps, wfP p) (j : Nat) : wfP (ps.getD j (0, 0)) := by
  rcases Nat.lt_or_ge j ps.length with q | q
  · simp [q]; exact h _ (List.getElem_mem q)
  · rw [show ps.getD j (0, 0) = (0, 0) from by simp [List.getElem?_eq_none q]]; exact ⟨rfl, by decide, by decide⟩
def cgP (p : Pt) : Cg := (p.1, dataS p.2)
end Go.Proofs.Ytjeebpklinpmfaa
