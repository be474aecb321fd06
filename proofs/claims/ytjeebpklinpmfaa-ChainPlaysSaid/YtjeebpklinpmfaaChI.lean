/-
  CHAINS: find, Hide, Read, Copy.
-/
import Derived.Test.YtjeebpklinpmfaaChH
import Derived.Test.YtjeebpklinpmfaaGuidEq
namespace Go.Proofs.Ytjeebpklinpmfaa
open Go.RowKit Reg Go.WideShapes Go.ChangeShapes

theorem is_any (s : Sn) (hs : wfS s) (g : Gd) (gb : Nat) (w : World) (hb : Blk w gb 33 #[.int .u64 g.1, .int .u64 g.2]) :
    Calls Try.prog 54 #[.agg (snL s).toArray, .pointer (some ⟨gb, 0, none⟩)] w fun e w' => e = .returned (.bool (sameG s.g g)) ∧ Below w.heap.size w w' := by
  have b0 := Blk.new w 74 (snL s).toArray
  have HB := Lib.hid ((Below.refl w.heap.size w).alloc (Nat.le_refl _) (Obj.cells (snL s).toArray 74))
  obtain ⟨y8, y9⟩ := snL_g s hs _ _ b0
  have hg := hb.alloc (Obj.cells (snL s).toArray 74)
  have x0 := hg.cell 0
  have x1 := hg.cell 1
  simp at x0 x1
  have heq := fun w => run_eq_guid s.g.1 s.g.2 g.1 g.2 w
  obtain ⟨r, hr⟩ : ∃ r, r = (s.g.1 == g.1 && s.g.2 == g.2) := ⟨_, rfl⟩
  rw [← hr] at heq
  have HR := Lib.hid (show r = sameG s.g g from hr)
  clear b0 hg hb hr hs
  go_enter Try.func54, Try.ntmps54
  go_wp2
  go_ret
  exact ⟨by rw [← HR.out]; rfl, HB.out⟩
section
variable {w : World} {bc : Nat} {sl : Value} {C : Ch}
/-- where the first snapshot of a guid stands; how many there are, if there is none -/
def ixS : List Sn → Gd → Nat
  | [], _ => 0
  | s :: l, g => if sameG s.g g = true then 0 else ixS l g + 1
theorem ixS_le (l : List Sn) (g : Gd) : ixS l g ≤ l.length := by
  induction l with
  | nil => exact Nat.le_refl _
  | cons s l ih => unfold ixS; split <;> simp; omega
theorem ixS_at {l : List Sn} {g : Gd} : ∀ {k : Nat}, k < l.length → (∀ j, j < k → sameG (l.getD j nosn).g g = false) → sameG (l.getD k nosn).g g = true → ixS l g = k := by
  induction l with
  | nil => intro k hk; simp at hk
  | cons s l ih =>
    intro k hk h1 h2
    unfold ixS
    cases k with
    | zero => rw [if_pos (by simpa using h2)]
    | succ k =>
      have h0 := h1 0 (by omega)
      rw [if_neg (by simp at h0; simp [h0]), ih (by simpa using hk) (fun j hj => by simpa using h1 (j + 1) (by omega)) (by simpa using h2)]
theorem ixS_none {l : List Sn} {g : Gd} (h : ∀ j, j < l.length → sameG (l.getD j nosn).g g = false) : ixS l g = l.length := by
  induction l with
  | nil => rfl
  | cons s l ih =>
    have h0 := h 0 (by simp)
    unfold ixS
    rw [if_neg (by simp at h0; simp [h0]), ih (fun j hj => by simpa using h (j + 1) (by simpa using hj))]
    rfl
set_option maxRecDepth 100000 in
theorem index_any (ho : OwS w sl C.snaps) (g : Gd) (gb : Nat) (hb : Blk w gb 33 #[.int .u64 g.1, .int .u64 g.2]) :
    Calls Try.prog 53 #[sl, .func (.func 54) #[] #[.pointer (some ⟨gb, 0, none⟩)]] w fun e w' => e = .returned (.int .i64 (if ixS C.snaps g < C.snaps.length then (ixS C.snaps g : Int) else -1)) ∧ Below w.heap.size w w' := by
  obtain ⟨a, c, rfl, -, -, hx⟩ := ho.open_
  have hxs := ho.2.1
  have hwf := fun j => wf_getD ho.1 j
  obtain ⟨res, hres⟩ : ∃ r, r = (if ixS C.snaps g < C.snaps.length then (ixS C.snaps g : Int) else -1) := ⟨_, rfl⟩
  rw [← hres]
  have H1 := Lib.hid (fun (k : Nat) (hk : k < C.snaps.length) (h1 : ∀ j, j < k → sameG (C.snaps.getD j nosn).g g = false) (h2 : sameG (C.snaps.getD k nosn).g g = true) => show res = (k : Int) by rw [hres, ixS_at hk h1 h2, if_pos hk])
  have H2 := Lib.hid (fun (h : ∀ j, j < C.snaps.length → sameG (C.snaps.getD j nosn).g g = false) => show res = -1 by rw [hres, ixS_none h, if_neg (by omega)])
  have hnl : C.snaps.length ≤ maxLen := by unfold maxLen; omega
  generalize hZ : (fun j => C.snaps.getD j nosn) = Z
  have hZj : ∀ j, C.snaps.getD j nosn = Z j := fun j => by rw [← hZ]
  simp only [hZj] at hx hwf H1 H2
  generalize hL : C.snaps.length = n at *
  have HX := Lib.hid hx
  have HW := Lib.hid hwf
  have HNL := Lib.hid hnl
  have HGB := Lib.hid hb
  clear hZ hZj hL hx hwf hxs hnl hres ho hb
  go_enter Try.func53, Try.ntmps53
  go_wp2_with fail
  go_loopw [8] (fun i wr => ∃ k : Nat, k ≤ n ∧ i = .int .i64 k ∧ Below w.heap.size w wr ∧ ∀ j, j < k → sameG (Z j).g g = false) (fun i _ => n - (intOf i).toNat)
  case atStart => exact ⟨0, Nat.zero_le _, rfl, Below.refl _ _, fun j hj => absurd hj (Nat.not_lt_zero j)⟩
  case round =>
    obtain ⟨k, hk, rfl, hb, hq⟩ := hrel
    have HB := Lib.hid hb
    have HQ := Lib.hid hq
    clear hb hq
    by_cases hkn : k < n
    · obtain ⟨g9, rfl, -, hr⟩ := HX.out k hkn
      have HR := Lib.hid (show wr.rangeAt g9 (k * 11) (snL (Z k)) from fun j u hu => cell_later HB.out (hr j u hu))
      have HWK := Lib.hid (HW.out k)
      have HS1 := Lib.hid (show (Try.prog.info? 74).map (fun i => i.size) = some (snL (Z k)).length by rw [snL_length HWK.out]; exact snap_size)
      have i1 : (k : Int) < (n : Int) := by omega
      have I9 := Lib.hid (wrap_succ hkn HNL.out)
      have HKN := Lib.hid hkn
      clear hr hkn hk
      go_wp2_with (first | refine wpList_load_mid rfl 74 _ rfl g9 (k * 11) rfl (snL (Z k)) _ HR.out Try.underlying74 rfl HS1.out ?_)
      refine (is_any (Z k) HWK.out g gb _ (HGB.out.keep HB.out)).mono ?_
      rintro e w2 ⟨rfl, hb⟩
      have HB1 := Lib.hid (HB.out.trans (hb.mono HB.out.size))
      clear hb
      cases hz : sameG (Z k).g g with
      | false =>
        have HZ := Lib.hid hz
        clear hz
        have i9 := I9.out
        go_wp2
        rw [I9.out]
        clear i9 i1
        refine ⟨⟨k + 1, HKN.out, rfl, HB1.out, fun j hj => ?_⟩, meas_succ HKN.out⟩
        rcases Nat.lt_succ_iff_lt_or_eq.1 hj with h | rfl
        · exact HQ.out j h
        · exact HZ.out
      | true =>
        have HRR := Lib.hid (H1.out k HKN.out HQ.out hz)
        clear hz
        go_wp2
        go_ret
        exact ⟨by rw [HRR.out]; rfl, HB1.out⟩
    · obtain rfl : k = n := by omega
      have i1 : ¬ ((k : Int) < (k : Int)) := by omega
      have HRR := Lib.hid (H2.out HQ.out)
      clear hkn hk
      go_wp2
      go_ret
      exact ⟨by rw [HRR.out]; rfl, HB.out⟩
def Ch.findE (C : Ch) (g : Gd) : Int := if ixS C.snaps g < C.snaps.length then (if (C.snaps.getD (ixS C.snaps g) nosn).hid = true then 14 else 0) else 5
def FindT (w : World) (sl : Value) (C : Ch) (g : Gd) (e : Ending) (w' : World) : Prop := ∃ p, e = .returned (.tuple #[p, .int .i64 (C.findE g)]) ∧ Below w.heap.size w w' ∧
  (C.findE g ≠ 0 → p = .pointer none) ∧ (C.findE g = 0 → ixS C.snaps g < C.snaps.length ∧ (C.snaps.getD (ixS C.snaps g) nosn).hid = false ∧ ∃ gs, sl.ownBlock = some gs ∧ p = .pointer (some ⟨gs, ixS C.snaps g * 11, none⟩))
theorem snL_hid (s : Sn) (hs : wfS s) (w : World) (g o : Nat) (hb : w.rangeAt g o (snL s)) : w.cell? ⟨g, o + 10, none⟩ = some (.bool s.hid) := by
  have hl := voL_length hs.vol
  exact hb 10 _ (by simp [snL, hl])
set_option maxRecDepth 100000 in
theorem find_any (h : Cm w bc sl C) (g : Gd) : Calls Try.prog 35 #[.pointer (some ⟨bc, 0, none⟩), aggG g] w (FindT w sl C g) := by
  have hb0 := (Below.refl w.heap.size w).alloc (Nat.le_refl _) (Obj.cells #[.int .u64 g.1, .int .u64 g.2] 33)
  have h1 := h.keep hb0
  have HB0 := Lib.hid hb0
  have hbx := Blk.new w 33 #[.int .u64 g.1, .int .u64 g.2]
  have HBX := Lib.hid hbx
  have HNO := Lib.hid (none_no h1)
  have HIX := Lib.hid (index_any h1.snaps g _ hbx)
  have HC1 := Lib.hid h1
  have hle := ixS_le C.snaps g
  have hxs := h.snaps.2.1
  have hwf := wf_getD h.snaps.1 (ixS C.snaps g)
  obtain ⟨fe, hfe⟩ : ∃ f, f = C.findE g := ⟨_, rfl⟩
  have HPO := Lib.hid (fun e w' => show (∃ p, e = .returned (.tuple #[p, .int .i64 fe]) ∧ Below w.heap.size w w' ∧ (fe ≠ 0 → p = .pointer none) ∧ (fe = 0 → ixS C.snaps g < C.snaps.length ∧ (C.snaps.getD (ixS C.snaps g) nosn).hid = false ∧ ∃ gs, sl.ownBlock = some gs ∧ p = .pointer (some ⟨gs, ixS C.snaps g * 11, none⟩))) → FindT w sl C g e w' by rw [hfe]; exact fun h => h)
  unfold Ch.findE at hfe
  have c9 := h1.c9
  obtain ⟨a, c, rfl, hc, hm, hx⟩ := h1.snaps.open_
  replace hx := hx (ixS C.snaps g)
  unfold aggG
  generalize ixS C.snaps g = ix at *
  generalize C.snaps.getD ix nosn = sx at *
  generalize hL : C.snaps.length = n at *
  have HX := Lib.hid hx
  have HW := Lib.hid hwf
  clear h h1 hb0 hbx hx hwf hL hc hm
  by_cases hin : ix < n
  · obtain ⟨gs, rfl, hob, hr⟩ := HX.out hin
    have HOB := Lib.hid hob
    have HR := Lib.hid hr
    have HIN := Lib.hid hin
    rw [if_pos hin] at HIX hfe
    have i1 : ¬ ((ix : Int) < 0) := by omega
    have i2 : (ix : Int) < (n : Int) := by omega
    clear hob hr hle hin hxs
    cases hh : sx.hid with
    | true =>
      have HF := Lib.hid (show fe = 14 by rw [hfe, hh]; rfl)
      have HH := Lib.hid hh
      clear hfe hh
      go_enter Try.func35, Try.ntmps35
      go_wp2_with fail
      generalize w.alloc (Obj.cells #[.int .u64 g.1, .int .u64 g.2] 33) = w1 at *
      refine HNO.out.mono ?_
      rintro e w2 ⟨rfl, rfl⟩
      go_wp2_with fail
      refine HIX.out.mono ?_
      rintro e w3 ⟨rfl, hb⟩
      replace c9 := (HC1.out.keep hb).c9
      have c10 := snL_hid sx HW.out w3 gs (ix * 11) (fun j u hu => cell_later hb (HR.out j u hu))
      rw [HH.out] at c10
      have HB3 := Lib.hid (HB0.out.trans (hb.mono HB0.out.size))
      clear hb
      go_wp2
      go_ret2
      exact HPO.out _ _ ⟨.pointer none, by rw [HF.out]; rfl, HB3.out, fun _ => rfl, fun h => by rw [HF.out] at h; cases h⟩
    | false =>
      have HF := Lib.hid (show fe = 0 by rw [hfe, hh]; rfl)
      have HH := Lib.hid hh
      clear hfe hh
      go_enter Try.func35, Try.ntmps35
      go_wp2_with fail
      generalize w.alloc (Obj.cells #[.int .u64 g.1, .int .u64 g.2] 33) = w1 at *
      refine HNO.out.mono ?_
      rintro e w2 ⟨rfl, rfl⟩
      go_wp2_with fail
      refine HIX.out.mono ?_
      rintro e w3 ⟨rfl, hb⟩
      replace c9 := (HC1.out.keep hb).c9
      have c10 := snL_hid sx HW.out w3 gs (ix * 11) (fun j u hu => cell_later hb (HR.out j u hu))
      rw [HH.out] at c10
      have HB3 := Lib.hid (HB0.out.trans (hb.mono HB0.out.size))
      clear hb
      go_wp2
      go_ret2
      exact HPO.out _ _ ⟨.pointer (some ⟨gs, ix * 11, none⟩), by rw [HF.out]; rfl, HB3.out, fun h => absurd HF.out h, fun _ => ⟨HIN.out, HH.out, gs, HOB.out, rfl⟩⟩
  · rw [if_neg hin] at HIX hfe
    have HF := Lib.hid hfe
    clear hfe hle hin hxs
    go_enter Try.func35, Try.ntmps35
    go_wp2_with fail
    generalize w.alloc (Obj.cells #[.int .u64 g.1, .int .u64 g.2] 33) = w1 at *
    refine HNO.out.mono ?_
    rintro e w2 ⟨rfl, rfl⟩
    go_wp2_with fail
    refine HIX.out.mono ?_
    rintro e w3 ⟨rfl, hb⟩
    have HB3 := Lib.hid (HB0.out.trans (hb.mono HB0.out.size))
    clear hb
    go_wp2
    go_ret2
    exact HPO.out _ _ ⟨.pointer none, by rw [HF.out]; rfl, HB3.out, fun _ => rfl, fun h => by rw [HF.out] at h; cases h⟩
theorem find_nil (g : Gd) : Calls Try.prog 35 #[.pointer none, aggG g] w fun e w' => e = .returned (.tuple #[.pointer none, .int .i64 1]) ∧ Below w.heap.size w w' := by
  have HB := Lib.hid ((Below.refl w.heap.size w).alloc (Nat.le_refl _) (Obj.cells #[.int .u64 g.1, .int .u64 g.2] 33))
  unfold aggG
  go_enter Try.func35, Try.ntmps35
  go_wp2_with fail
  refine (none_nil _).mono ?_
  rintro e w1 ⟨rfl, rfl⟩
  go_wp2
  go_ret2
  exact ⟨rfl, HB.out⟩
end
end Go.Proofs.Ytjeebpklinpmfaa
