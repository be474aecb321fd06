/-
  CHAINS: Hide, Read, Copy.
-/
import Derived.Test.YtjeebpklinpmfaaChI
namespace Go.Proofs.Ytjeebpklinpmfaa
open Go.RowKit Reg Go.WideShapes Go.ChangeShapes

def Sn.hide (s : Sn) : Sn := { s with hid := true }
def Ch.hide (C : Ch) (g : Gd) : Ch := if C.findE g = 0 then { C with snaps := C.snaps.set (ixS C.snaps g) (C.snaps.getD (ixS C.snaps g) nosn).hide } else C
theorem snsL_hide {l : List Sn} (h : ∀ s ∈ l, wfS s) : ∀ {k : Nat}, k < l.length → snsL (l.set k (l.getD k nosn).hide) = (snsL l).set (k * 11 + 10) (.bool true) := by
  induction l with
  | nil => intro k hk; simp at hk
  | cons s l ih =>
    intro k hk
    have h1 := snL_length (h s List.mem_cons_self)
    have e1 : ∀ (s : Sn) l, snsL (s :: l) = snL s ++ snsL l := fun _ _ => rfl
    cases k with
    | zero =>
      have hl := voL_length (h s List.mem_cons_self).vol
      rw [List.set_cons_zero, e1, e1, List.set_append_left _ _ (by omega)]
      congr 1
      unfold snL
      rw [List.set_append_right _ _ (by omega), hl]
      rfl
    | succ k =>
      have h2 := ih (fun x hx => h x (List.mem_cons_of_mem _ hx)) (k := k) (by simpa using hk)
      rw [List.set_cons_succ, e1, e1, List.set_append_right _ _ (by omega), h1, show (k + 1) * 11 + 10 - 11 = k * 11 + 10 from by omega, ← h2]
      rfl
theorem wf_hide {l : List Sn} (h : ∀ s ∈ l, wfS s) (k : Nat) : ∀ s ∈ l.set k (l.getD k nosn).hide, wfS s := by
  intro s hs
  rcases List.mem_or_eq_of_mem_set hs with h1 | rfl
  · exact h s h1
  · have := wf_getD h k
    exact ⟨this.vol, this.g⟩
section
variable {w : World} {bc : Nat} {sl : Value} {C : Ch}
theorem OwS.hide {xs : List Sn} (h : OwS w sl xs) {k gs : Nat} (hk : k < xs.length) (hg : sl.ownBlock = some gs) : w.frozen? ⟨gs, k * 11 + 10, none⟩ = false ∧ OwS (w.setCell ⟨gs, k * 11 + 10, none⟩ (.bool true)) sl (xs.set k (xs.getD k nosn).hide) := by
  rcases h.2.2 with ⟨rfl, _⟩ | ⟨g, cap, cur, rfl, hb, hc, hm, hs, ht, hor⟩
  · cases hg
  · obtain rfl : g = gs := by simpa [Value.ownBlock] using hg
    refine ⟨hb.frozen _, wf_hide h.1 k, by simpa using h.2.1, .inr ⟨g, cap, _, by rw [List.length_set], hb.set (k * 11 + 10) (.bool true), by simpa using hc, hm, by simpa using hs, ?_, by simpa using hor⟩⟩
    rw [List.length_set, snsL_hide h.1 hk, ← ht]
    simp [List.take_set]
theorem hide_any (h : Cm w bc sl C) (g : Gd) : Calls Try.prog 27 #[.pointer (some ⟨bc, 0, none⟩), aggG g] w (StT w bc sl (C.findE g) (C.hide g)) := by
  have hb0 := (Below.refl w.heap.size w).alloc (Nat.le_refl _) (Obj.cells #[.int .u64 g.1, .int .u64 g.2] 33)
  have h1 := h.keep hb0
  have HB0 := Lib.hid hb0
  have hf := find_any h1 g
  have HC1 := Lib.hid h1
  have HH := Lib.hid (show C.hide g = if C.findE g = 0 then { C with snaps := C.snaps.set (ixS C.snaps g) (C.snaps.getD (ixS C.snaps g) nosn).hide } else C from rfl)
  have hbx := Blk.new w 33 #[.int .u64 g.1, .int .u64 g.2]
  have x0 := hbx.cell 0
  have x1 := hbx.cell 1
  simp at x0 x1
  unfold FindT at hf
  generalize C.findE g = fe at *
  have HF := Lib.hid hf
  clear h h1 hb0 hf hbx
  unfold aggG at HF ⊢
  go_enter Try.func27, Try.ntmps27
  go_wp2_with fail
  generalize w.alloc (Obj.cells #[.int .u64 g.1, .int .u64 g.2] 33) = w1 at *
  refine HF.out.mono ?_
  rintro e w2 ⟨p, rfl, hb, hn0, hz0⟩
  have HB := Lib.hid (HB0.out.trans (hb.mono HB0.out.size))
  have HC := Lib.hid (HC1.out.keep hb)
  clear hb x0 x1
  by_cases hz : fe = 0
  · obtain ⟨hix, hhid, gs, hgs, rfl⟩ := hz0 hz
    subst hz
    have ho := HC.out.snaps.hide hix hgs
    have HO := Lib.hid ho.2
    have HGB := Lib.hid hgs
    have hcell : w2.cell? ⟨gs, ixS C.snaps g * 11 + 10, none⟩ = some (.bool false) := by
      obtain ⟨a, c, e, -, -, hx⟩ := HC.out.snaps.open_
      obtain ⟨g', -, h2, hr⟩ := hx _ hix
      rw [hgs] at h2
      obtain rfl := Option.some.inj h2
      have := snL_hid _ (wf_getD HC.out.snaps.1 _) w2 _ _ hr
      rw [hhid] at this
      exact this
    have hfz := ho.1
    clear ho hn0 hz0 hhid hgs
    generalize ixS C.snaps g = ix at *
    have hkp : Kp (fun b => b = gs) w2 (w2.setCell ⟨gs, ix * 11 + 10, none⟩ (.bool true)) := ⟨(Below.refl 0 w2).setCell (Nat.zero_le _) _, fun b _ hn => Below.heap_setCell w2 _ _ b hn⟩
    have HKP := Lib.hid hkp
    have HCN := Lib.hid (show Cm (w2.setCell ⟨gs, ix * 11 + 10, none⟩ (.bool true)) bc sl { C with snaps := C.snaps.set ix (C.snaps.getD ix nosn).hide } from ⟨hkp.blk HC.out.obj (fun e => HC.out.ne_own HGB.out e.symm), HO.out, HC.out.n, HC.out.live⟩)
    clear hkp hix
    go_wp2
    go_ret
    exact ⟨rfl, sl, by rw [HH.out]; exact HCN.out, (Kp.of_below HB.out).trans (HKP.out.mono fun b hb => .inr (by rw [hb]; exact HGB.out)), fun b hb => .inl hb⟩
  · have HNZ := Lib.hid hz
    obtain rfl := hn0 hz
    have e1 : (fe == 0) = false := by simpa using hz
    have e2 : decide (fe = 0) = false := decide_eq_false hz
    clear hz hn0 hz0
    go_wp2
    go_ret
    exact ⟨rfl, sl, by rw [HH.out, if_neg HNZ.out]; exact HC.out, Kp.of_below HB.out, fun b hb => .inl hb⟩
theorem hide_nil (g : Gd) : Calls Try.prog 27 #[.pointer none, aggG g] w fun e w' => e = .returned (.int .i64 1) ∧ Below w.heap.size w w' := by
  have HB := Lib.hid ((Below.refl w.heap.size w).alloc (Nat.le_refl _) (Obj.cells #[.int .u64 g.1, .int .u64 g.2] 33))
  have HF := Lib.hid (fun w => @find_nil w g)
  unfold aggG at HF ⊢
  go_enter Try.func27, Try.ntmps27
  go_wp2_with fail
  refine (HF.out _).mono ?_
  rintro e w1 ⟨rfl, hb⟩
  have HB1 := Lib.hid (HB.out.trans (hb.mono HB.out.size))
  clear hb
  go_wp2
  go_ret
  exact ⟨rfl, HB1.out⟩
def Ch.readL (C : Ch) (g : Gd) : List ByteArray := if C.findE g = 0 then (C.snaps.getD (ixS C.snaps g) nosn).vol.take C.n else []
def ReadT (w : World) (zs : List ByteArray) (r : Int) (e : Ending) (w' : World) : Prop := ∃ v, e = .returned (.tuple #[v, .int .i64 r]) ∧ OwT w' w.heap.size v zs ∧ Below w.heap.size w w'
theorem read_any (h : Cm w bc sl C) (g : Gd) : Calls Try.prog 16 #[.pointer (some ⟨bc, 0, none⟩), aggG g] w (ReadT w (C.readL g) (C.findE g)) := by
  have hb0 := (Below.refl w.heap.size w).alloc (Nat.le_refl _) (Obj.cells #[.int .u64 g.1, .int .u64 g.2] 33)
  have h1 := h.keep hb0
  have HB0 := Lib.hid hb0
  have hf := find_any h1 g
  have HC1 := Lib.hid h1
  have HH := Lib.hid (show C.readL g = if C.findE g = 0 then (C.snaps.getD (ixS C.snaps g) nosn).vol.take C.n else [] from rfl)
  have hbx := Blk.new w 33 #[.int .u64 g.1, .int .u64 g.2]
  have x0 := hbx.cell 0
  have x1 := hbx.cell 1
  simp at x0 x1
  unfold FindT at hf
  generalize C.findE g = fe at *
  have HF := Lib.hid hf
  clear h h1 hb0 hf hbx
  unfold aggG at HF ⊢
  go_enter Try.func16, Try.ntmps16
  go_wp2_with fail
  generalize w.alloc (Obj.cells #[.int .u64 g.1, .int .u64 g.2] 33) = w1 at *
  refine HF.out.mono ?_
  rintro e w2 ⟨p, rfl, hb, hn0, hz0⟩
  have HB := Lib.hid (HB0.out.trans (hb.mono HB0.out.size))
  have HC := Lib.hid (HC1.out.keep hb)
  clear hb x0 x1
  by_cases hz : fe = 0
  · obtain ⟨hix, -, gs, hgs, rfl⟩ := hz0 hz
    subst hz
    have hw := wf_getD HC.out.snaps.1 (ixS C.snaps g)
    have hrg : w2.rangeAt gs (ixS C.snaps g * 11) (voL (C.snaps.getD (ixS C.snaps g) nosn).vol) := by
      obtain ⟨a, c, e, -, -, hx⟩ := HC.out.snaps.open_
      obtain ⟨g', -, h2, hr⟩ := hx _ hix
      rw [hgs] at h2
      obtain rfl := Option.some.inj h2
      intro j u hu
      refine hr j u ?_
      have hj := (List.getElem?_eq_some_iff.1 hu).1
      unfold snL
      rw [List.getElem?_append_left hj]
      exact hu
    have HRG := Lib.hid hrg
    have HS := Lib.hid (show (Try.prog.info? 68).map (fun i => i.size) = some (voL (C.snaps.getD (ixS C.snaps g) nosn).vol).length by rw [voL_length hw.vol]; exact vol_size)
    have HL := Lib.hid (list_any HC.out (C.snaps.getD (ixS C.snaps g) nosn).vol hw.vol)
    clear hn0 hz0 hgs hrg hw hix
    generalize ixS C.snaps g = ix at *
    go_wp2_with (first | refine wpList_load_mid rfl 68 _ rfl gs (ix * 11) rfl (voL (C.snaps.getD ix nosn).vol) _ HRG.out Try.underlying68 rfl HS.out ?_)
    refine HL.out.mono ?_
    rintro e w3 ⟨v, rfl, ho, hb⟩
    have HO := Lib.hid (OwT.mono ho HB.out.size)
    have HB3 := Lib.hid (HB.out.trans (hb.mono HB.out.size))
    clear ho hb
    go_wp2
    go_ret2
    exact ⟨v, rfl, by rw [HH.out]; exact HO.out, HB3.out⟩
  · have HNZ := Lib.hid hz
    obtain rfl := hn0 hz
    have e1 : (fe == 0) = false := by simpa using hz
    have e2 : decide (fe = 0) = false := decide_eq_false hz
    clear hz hn0 hz0
    go_wp2
    go_ret2
    exact ⟨.slice none 0 0, rfl, by rw [HH.out, if_neg HNZ.out]; exact OwT.nil_ _ _, HB.out⟩
theorem read_nil (g : Gd) : Calls Try.prog 16 #[.pointer none, aggG g] w fun e w' => e = .returned (.tuple #[.slice none 0 0, .int .i64 1]) ∧ Below w.heap.size w w' := by
  have HB := Lib.hid ((Below.refl w.heap.size w).alloc (Nat.le_refl _) (Obj.cells #[.int .u64 g.1, .int .u64 g.2] 33))
  have HF := Lib.hid (fun w => @find_nil w g)
  unfold aggG at HF ⊢
  go_enter Try.func16, Try.ntmps16
  go_wp2_with fail
  refine (HF.out _).mono ?_
  rintro e w1 ⟨rfl, hb⟩
  have HB1 := Lib.hid (HB.out.trans (hb.mono HB.out.size))
  clear hb
  go_wp2
  go_ret2
  exact ⟨rfl, HB1.out⟩
/-- snapshots come back, in memory that the call has made -/
def RetS (w : World) (xs : List Sn) (e : Ending) (w' : World) : Prop := ∃ v, e = .returned v ∧ OwS w' v xs ∧ (∀ b, v.ownBlock = some b → w.heap.size ≤ b) ∧ Below w.heap.size w w'
def ClP (w : World) (xs : List Sn) (v' : Value) (w' : World) : Prop := OwS w' v' xs ∧ (∀ b, v'.ownBlock = some b → w.heap.size ≤ b) ∧ Below w.heap.size w w'
theorem cloneS_any {xs : List Sn} (h : OwS w sl xs) : Calls Try.prog 37 #[sl] w (RetS w xs) := by
  have hwf := h.1
  have hxl := h.2.1
  rcases h.2.2 with ⟨rfl, rfl⟩ | ⟨g, cap, cur, rfl, hb, hc, hm, hs, ht, hor⟩
  · have heq : ∀ w : World, (binOp BinOp.eql 70 (.slice none 0 0) (.slice none 0 0)).run Try.prog w = .ok (.bool true) w := fun w => Lib.run_eql_slice_nil w 70 74 _ _ _ _ _ Try.underlying70
    have HN := Lib.hid (OwS.nil_ w)
    clear h hwf hxl
    go_enter Try.func37, Try.ntmps37
    go_wp2
    go_ret
    exact ⟨_, rfl, HN.out, (fun b hb => by cases hb), Below.refl _ _⟩
  · have heq : ∀ w : World, (binOp BinOp.eql 70 (.slice (some ⟨g, 0, none⟩) xs.length cap) (.slice none 0 0)).run Try.prog w = .ok (.bool false) w := fun w => Lib.run_eql_slice_nil w 70 74 _ _ _ _ _ Try.underlying70
    obtain ⟨i, hi, hz0, hz1, hz2⟩ := info_parts snap_info
    have hb0 := (Below.refl w.heap.size w).alloc (Nat.le_refl _) (Obj.cells #[] 74)
    have hown := own_new w w.heap.size 74 #[] 11 0 rfl (Nat.le_refl _) (by decide)
    have hb1 := hb.alloc (Obj.cells #[] 74)
    have hap := run_append_own_at (P := Try.prog) (w.alloc (Obj.cells #[] 74)) w.heap.size 70 70 74 i _ 11 152 Try.underlying70 hi hz0 hz1 hz2 rfl (by decide) _ 0 _ hown ⟨g, 0, none⟩ xs.length cap (snsL xs) (snsL_length hwf) (fun j u hu => by
      rw [← ht, List.getElem?_take] at hu
      split at hu
      · rw [addr_add, hb1.cell, ← hu]
        simp
      · cases hu) (snsL_one xs) (by unfold maxLen; omega) (by omega) (by simp)
    have happ : ∃ v' w', (Builtin.append_ #[70, 70] 70 #[.slice (some ⟨w.heap.size, 0, none⟩) 0 0, .slice (some ⟨g, 0, none⟩) xs.length cap]).run Try.prog (w.alloc (Obj.cells #[] 74)) = .ok v' w' ∧ ClP w xs v' w' := by
      obtain ⟨v', w', hr, h1, h2, -, h4⟩ := hap
      refine ⟨v', w', hr, OwS.of_own (base := w.heap.size) (by simpa using h1) hwf hxl, fun b hb => (h1.lt b hb).1, hb0.trans (below_grown h2 (by simp) (fun k hk => ?_))⟩
      simp only [Value.ownBlock, Option.some.injEq] at hk
      omega
    have HA := Lib.hid happ
    clear h hwf hxl hap hown hb1 hb0 hb ht hs hor hc hm happ
    go_enter Try.func37, Try.ntmps37
    go_wp2_with (at_builtin; refine wpList_append_run rfl _ _ 70 rfl _ _ rfl rfl (ClP w xs) HA.out ?_)
    refine Later.mk fun _ _ v' w' hp => ?_
    have HP := Lib.hid hp
    clear hp
    go_wp2
    go_ret
    exact ⟨v', rfl, HP.out.1, HP.out.2.1, HP.out.2.2⟩
def CopT (w : World) (C : Ch) (e : Ending) (w' : World) : Prop := ∃ bd sl', e = .returned (.pointer (some ⟨bd, 0, none⟩)) ∧ Cm w' bd sl' C ∧ w.heap.size ≤ bd ∧ (∀ b, sl'.ownBlock = some b → w.heap.size ≤ b) ∧ Below w.heap.size w w'
theorem copy_nil : Calls Try.prog 20 #[.pointer none] w fun e w' => e = .returned (.pointer none) ∧ w = w' := by
  go_enter Try.func20, Try.ntmps20
  go_wp2_with fail
  refine (none_nil _).mono ?_
  rintro e w1 ⟨rfl, rfl⟩
  go_wp2
  go_ret
  exact ⟨rfl, rfl⟩
set_option maxRecDepth 100000 in
theorem copy_any (h : Cm w bc sl C) : Calls Try.prog 20 #[.pointer (some ⟨bc, 0, none⟩)] w (CopT w C) := by
  have HNO := Lib.hid (none_no h)
  have HC := Lib.hid h
  have hlen := chL_length h.live sl
  have hrg : w.rangeAt bc 0 (chL C sl) := fun j u hu => by
    rw [h.obj.cell, Nat.zero_add]
    simpa using hu
  have hone : ∀ u ∈ chL C sl, u.oneCell' = true := by
    obtain ⟨a, c, rfl, -⟩ := h.snaps.open_
    intro u hu
    simp only [chL, List.mem_append, List.mem_cons, List.not_mem_nil, or_false] at hu
    rcases hu with hu | rfl | rfl
    · exact voL_one _ u hu
    all_goals rfl
  have HS1 := Lib.hid (show (Try.prog.info? 72).map (fun i => i.size) = some (chL C sl).length by rw [hlen]; exact chain_size)
  have HS2 := Lib.hid (show (Try.prog.info? 72).map (fun i => i.size) = some (chL C sl).toArray.size by rw [List.size_toArray, hlen]; exact chain_size)
  have HS3 := Lib.hid (show (10 : Nat) = (chL C sl).toArray.size by rw [List.size_toArray, hlen])
  have HRG := Lib.hid hrg
  have HONE := Lib.hid (all_oneCell_toArray hone)
  clear h hlen hrg hone
  go_enter Try.func20, Try.ntmps20
  go_wp2_with fail
  refine HNO.out.mono ?_
  rintro e w1 ⟨rfl, rfl⟩
  go_wp2_with (first | refine wpList_load_mid rfl 72 _ rfl bc 0 rfl (chL C sl) _ HRG.out Try.underlying72 rfl HS1.out ?_ | refine wpList_store_then rfl 72 _ _ rfl w.heap.size (chL C sl).toArray rfl rfl 72 _ (Blk.new _ _ _) HS2.out HS3.out HONE.out ?_)
  refine Later.mk fun w3 hw3 => ?_
  have H3 := Lib.hid (show Below w.heap.size w w3 ∧ Blk w3 w.heap.size 72 (chL C sl).toArray by rw [hw3]; exact ⟨Below.setRow ((Below.refl _ _).alloc (Nat.le_refl _) _) (Nat.le_refl _) _, (Blk.new _ _ _).row _⟩)
  clear hw3
  have c9 := (HC.out.keep H3.out.1).c9
  go_wp2_with fail
  refine (cloneS_any (HC.out.keep H3.out.1).snaps).mono ?_
  rintro e w4 ⟨v, rfl, ho, hf, hb⟩
  obtain ⟨va, vc, rfl, -⟩ := ho.open_
  have hbk := H3.out.2.keep hb
  have hset := hbk.set 9 (.slice va C.snaps.length vc)
  rw [chL_re C _ _ HC.out.live C.snaps] at hset
  have hfz := hbk.frozen 9
  have hlt : w.heap.size < w4.heap.size := hbk.lt
  have hkp : Kp (· = w.heap.size) w4 (w4.setCell ⟨w.heap.size, 9, none⟩ (.slice va C.snaps.length vc)) := ⟨(Below.refl 0 w4).setCell (Nat.zero_le _) _, fun b _ hn => Below.heap_setCell w4 _ _ b hn⟩
  have hne : ∀ b, (Value.slice va C.snaps.length vc).ownBlock = some b → b ≠ w.heap.size := fun b hb1 e => by
    have h1 := hf b hb1
    have h2 := H3.out.2.lt
    omega
  have HFIN := Lib.hid (show Cm (w4.setCell ⟨w.heap.size, 9, none⟩ (.slice va C.snaps.length vc)) w.heap.size (.slice va C.snaps.length vc) C from ⟨hset, ho.kp hkp (fun b hb1 e => hne b hb1 e), HC.out.n, HC.out.live⟩)
  have HBF := Lib.hid ((H3.out.1.trans (hb.mono H3.out.1.size)).setCell (p := ⟨w.heap.size, 9, none⟩) (Nat.le_refl _) (.slice va C.snaps.length vc))
  have HFR := Lib.hid (show ∀ b, (Value.slice va C.snaps.length vc).ownBlock = some b → w.heap.size ≤ b from fun b hb1 => Nat.le_trans H3.out.1.size (hf b hb1))
  have c9b : w4.cell? ⟨w.heap.size, 9, none⟩ = some sl := by
    have h9 := HC.out.c9
    rw [HC.out.obj.cell] at h9
    rw [hbk.cell]
    exact h9
  clear hbk hset hkp hne hf ho hb c9 hlt
  go_wp2
  go_ret
  exact ⟨w.heap.size, _, rfl, HFIN.out, Nat.le_refl _, HFR.out, HBF.out⟩
end
end Go.Proofs.Ytjeebpklinpmfaa
