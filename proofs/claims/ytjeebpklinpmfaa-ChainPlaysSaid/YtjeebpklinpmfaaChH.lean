/-
  CHAINS: Rollback, List, Copy.
-/
import Derived.Test.YtjeebpklinpmfaaChG
namespace Go.Proofs.Ytjeebpklinpmfaa
open Go.RowKit Reg Go.WideShapes Go.ChangeShapes

def Ch.cut (C : Ch) (n : Nat) : Ch := { C with snaps := C.snaps.take n }
def Ch.rollE (C : Ch) (n : Int) : Int := if n < 0 ∨ (C.snaps.length : Int) < n then 2 else 0
def Ch.roll (C : Ch) (n : Int) : Ch := if n < 0 ∨ (C.snaps.length : Int) < n then C else { C.cut n.toNat with live := (C.cut n.toNat).last.vol }
theorem chL_re (C : Ch) (sl u : Value) (hv : wfV C.live) (l : List Sn) : (chL C sl).toArray.setIfInBounds 9 u = (chL { C with snaps := l } u).toArray := by
  have hl := voL_length hv
  simp only [chL, List.setIfInBounds_toArray]
  rw [List.set_append_right _ _ (by omega), hl]
  rfl
section
variable {w : World} {bc : Nat} {sl : Value} {C : Ch}
theorem OwS.cut {a : Option Addr} {c : Nat} {xs : List Sn} (h : OwS w (.slice a xs.length c) xs) {n : Nat} (hn : n ≤ xs.length) : OwS w (.slice a n n) (xs.take n) := by
  have hl : (xs.take n).length = n := by simp; omega
  have hw : ∀ s ∈ xs.take n, wfS s := fun s hs => h.1 s (List.mem_of_mem_take hs)
  refine ⟨hw, by rw [hl]; have := h.2.1; omega, ?_⟩
  rcases h.2.2 with ⟨h1, h2⟩ | ⟨g, cap, cur, h1, hb, hc, hm, hs, ht, _⟩
  · subst h2
    simp only [List.length_nil, Value.slice.injEq] at h1 hn
    obtain rfl : n = 0 := by omega
    exact .inl ⟨by rw [h1.1], by simp⟩
  · simp only [Value.slice.injEq] at h1
    refine .inr ⟨g, n, cur, by rw [hl, h1.1], hb, by rw [hl]; exact Nat.le_refl _, Nat.le_trans (Nat.le_trans hn hc) hm, by rw [hl]; exact Nat.le_trans (Nat.mul_le_mul_right _ hn) hs, ?_, .inl hl.symm⟩
    rw [hl, ← snsL_take h.1 n, ← ht, List.take_take, Nat.min_eq_left (Nat.mul_le_mul_right _ hn)]
theorem roll_bad (h : Cm w bc sl C) (n : Int) (hn : n < 0 ∨ (C.snaps.length : Int) < n) : Calls Try.prog 17 #[.pointer (some ⟨bc, 0, none⟩), .int .i64 n] w (StT w bc sl (C.rollE n) (C.roll n)) := by
  have HR := Lib.hid (show C.rollE n = 2 ∧ C.roll n = C from ⟨by unfold Ch.rollE; rw [if_pos hn], by unfold Ch.roll; rw [if_pos hn]⟩)
  have HNO := Lib.hid (none_no h)
  have HC := Lib.hid h
  have c9 := h.c9
  obtain ⟨a, c, rfl, hc, hm, -⟩ := h.snaps.open_
  clear h hc hm
  generalize hL : C.snaps.length = L at *
  have hs : n < 0 ∨ (0 ≤ n ∧ (L : Int) < n) := by omega
  clear hn hL
  rcases hs with h1 | ⟨h1, h2⟩
  all_goals
    go_enter Try.func17, Try.ntmps17
    go_wp2_with fail
    refine HNO.out.mono ?_
    rintro e w2 ⟨rfl, rfl⟩
    go_wp2
    go_ret
    exact ⟨by rw [HR.out.1]; rfl, _, by rw [HR.out.2]; exact HC.out, Kp.refl _ _, fun b hb => .inl hb⟩
theorem roll_good (h : Cm w bc sl C) (n : Nat) (hn : n ≤ C.snaps.length) : Calls Try.prog 17 #[.pointer (some ⟨bc, 0, none⟩), .int .i64 n] w (StT w bc sl (C.rollE n) (C.roll n)) := by
  have hnn : ¬ ((n : Int) < 0 ∨ (C.snaps.length : Int) < (n : Int)) := by omega
  have HR := Lib.hid (show C.rollE n = 0 ∧ C.roll n = { C.cut n with live := (C.cut n).last.vol } from ⟨by unfold Ch.rollE; rw [if_neg hnn], by unfold Ch.roll; rw [if_neg hnn]; rfl⟩)
  have HNO := Lib.hid (none_no h)
  have c9 := h.c9
  have hsn := h.snaps
  obtain ⟨a, c, rfl, hc, hm, -⟩ := hsn.open_
  have hf9 := h.obj.frozen 9
  have hset := h.obj.set 9 (.slice a n n)
  rw [chL_re C _ _ h.live (C.snaps.take n)] at hset
  have hkp : Kp (· = bc) w (w.setCell ⟨bc, 9, none⟩ (.slice a n n)) := ⟨(Below.refl 0 w).setCell (Nat.zero_le _) _, fun b _ hn => Below.heap_setCell w _ _ b hn⟩
  have hc1 : Cm (w.setCell ⟨bc, 9, none⟩ (.slice a n n)) bc (.slice a n n) (C.cut n) := ⟨hset, (hsn.cut hn).kp hkp (fun b hb => h.ne_own (by cases a <;> simp [Value.ownBlock] at hb ⊢; exact hb)), h.n, h.live⟩
  have hsl : ∀ b, (Value.slice a n n).ownBlock = some b → (Value.slice a C.snaps.length c).ownBlock = some b := fun b hb => by cases a <;> simp [Value.ownBlock] at hb ⊢; exact hb
  have HSL := Lib.hid hsl
  have HKP := Lib.hid hkp
  have HC1 := Lib.hid hc1
  have hlw := last_wf hc1
  have HFI := Lib.hid (fun w => snap_field0 w hlw)
  have HLW := Lib.hid hlw
  clear h hsn hset hkp hc1 hsl hlw hm hnn
  generalize hL : C.snaps.length = L at *
  have i1 : ¬ ((n : Int) < 0) := by omega
  have i2 : ¬ ((L : Int) < (n : Int)) := by omega
  have hnc : n ≤ c := by omega
  clear hL hc
  go_enter Try.func17, Try.ntmps17
  go_wp2_with fail
  refine HNO.out.mono ?_
  rintro e w2 ⟨rfl, rfl⟩
  go_wp2_with fail
  refine (last_any HC1.out).mono ?_
  rintro e w2 ⟨rfl, hb⟩
  have HB := Lib.hid hb
  have HC2 := Lib.hid (HC1.out.keep hb)
  have HRL := Lib.hid (HC2.out.relive HLW.out.vol)
  have HS2 := Lib.hid (show (Try.prog.info? 68).map (fun i => i.size) = some (voL (C.cut n).last.vol).toArray.size by rw [List.size_toArray, voL_length HLW.out.vol]; exact vol_size)
  clear hb
  go_wp2_with (first | refine wpList_value_run rfl _ (exec_field 74 (.tmp 30) 0 rfl (.agg (snL (C.cut n).last).toArray) _ rfl (HFI.out _)) ?_ | refine wpList_store_mid rfl 68 _ _ rfl bc 0 (voL (C.cut n).last.vol).toArray rfl rfl HRL.out.1 HS2.out (all_oneCell_toArray (voL_one _)) ?_)
  go_ret
  refine ⟨by rw [HR.out.1]; rfl, .slice a n n, by rw [HR.out.2]; exact HRL.out.2.1, ?_, fun b hb => .inl (HSL.out b hb)⟩
  exact ((HKP.out.mono fun b hb => (.inl hb : fpC bc _ b)).trans (Kp.of_below HB.out)).trans (HRL.out.2.2.mono fun b hb => .inl hb)
theorem roll_any (h : Cm w bc sl C) (n : Int) : Calls Try.prog 17 #[.pointer (some ⟨bc, 0, none⟩), .int .i64 n] w (StT w bc sl (C.rollE n) (C.roll n)) := by
  by_cases hn : n < 0 ∨ (C.snaps.length : Int) < n
  · exact roll_bad h n hn
  · obtain ⟨k, rfl⟩ : ∃ k : Nat, n = k := ⟨n.toNat, by omega⟩
    exact roll_good h k (by omega)
theorem roll_nil (n : Int) : Calls Try.prog 17 #[.pointer none, .int .i64 n] w fun e w' => e = .returned (.int .i64 1) ∧ w = w' := by
  go_enter Try.func17, Try.ntmps17
  go_wp2_with fail
  refine (none_nil _).mono ?_
  rintro e w1 ⟨rfl, rfl⟩
  go_wp2
  go_ret
  exact ⟨rfl, rfl⟩
theorem list_nil : Calls Try.prog 18 #[.pointer none] w fun e w' => e = .returned (.slice none 0 0) ∧ w = w' := by
  go_enter Try.func18, Try.ntmps18
  go_wp2_with fail
  refine (none_nil _).mono ?_
  rintro e w1 ⟨rfl, rfl⟩
  go_wp2
  go_ret
  exact ⟨rfl, rfl⟩
/-- guids come back, in memory that the call has made -/
def RetG (w : World) (gs : List Gd) (e : Ending) (w' : World) : Prop := ∃ v, e = .returned v ∧ OwG w' w.heap.size v gs ∧ Below w.heap.size w w'
theorem snL_g (s : Sn) (hs : wfS s) (w : World) (g : Nat) (hb : Blk w g 74 (snL s).toArray) : w.cell? ⟨g, 8, none⟩ = some (.int .u64 s.g.1) ∧ w.cell? ⟨g, 9, none⟩ = some (.int .u64 s.g.2) := by
  have hl := voL_length hs.vol
  rw [hb.cell, hb.cell]
  constructor <;> simp [snL, hl]
set_option maxRecDepth 100000 in
theorem listG_any (h : Cm w bc sl C) : Calls Try.prog 18 #[.pointer (some ⟨bc, 0, none⟩)] w (RetG w (C.snaps.map (·.g))) := by
  have HNO := Lib.hid (none_no h)
  have c9 := h.c9
  have hxs := h.snaps.2.1
  have hwf := fun j => wf_getD h.snaps.1 j
  obtain ⟨a, c, rfl, hc, hm, hx⟩ := h.snaps.open_
  obtain ⟨G, hG⟩ : ∃ G : Nat → List Gd, ∀ k, G k = (C.snaps.map (·.g)).take k := ⟨_, fun _ => rfl⟩
  have hG0 : G 0 = [] := by rw [hG]; rfl
  have hGn : G C.snaps.length = C.snaps.map (·.g) := (hG _).trans (List.take_of_length_le (by simp))
  have hGs : ∀ k, k < C.snaps.length → G (k + 1) = G k ++ [(C.snaps.getD k nosn).g] := fun k hk => by
    rw [hG, hG, List.take_add_one]
    simp [hk]
  have hGl : ∀ k, (G k).length ≤ 20 := fun k => by rw [hG]; simp; omega
  have HGN := Lib.hid hGn
  have hnl : C.snaps.length ≤ maxLen := by unfold maxLen; omega
  generalize hZ : (fun j => C.snaps.getD j nosn) = Z
  have hZj : ∀ j, C.snaps.getD j nosn = Z j := fun j => by rw [← hZ]
  simp only [hZj] at hx hwf hGs
  generalize hL : C.snaps.length = n at *
  have HX := Lib.hid hx
  have HGS := Lib.hid hGs
  have HGL := Lib.hid hGl
  have HG0 := Lib.hid hG0
  have HW := Lib.hid hwf
  have HNL := Lib.hid hnl
  clear h hZ hZj hL hG hG0 hGn hGs hGl hx hwf hc hm hxs hnl
  go_enter Try.func18, Try.ntmps18
  go_wp2_with fail
  refine HNO.out.mono ?_
  rintro e w2 ⟨rfl, rfl⟩
  go_wp2_with fail
  go_loopw [3, 14] (fun l0 i wr => ∃ (k : Nat) (l : Value), k ≤ n ∧ i = .int .i64 k ∧ l = l0 ∧ Below w.heap.size w wr ∧ OwG wr w.heap.size l (G k)) (fun _ i _ => n - (intOf i).toNat)
  case atStart => exact ⟨0, _, Nat.zero_le _, rfl, rfl, Below.refl _ _, by rw [HG0.out]; exact OwG.nil_ _ _⟩
  case round =>
    obtain ⟨k, l, hk, rfl, rfl, hb, ho⟩ := hrel
    have HB := Lib.hid hb
    have HO := Lib.hid ho
    clear hb ho
    by_cases hkn : k < n
    · obtain ⟨g, rfl, -, hr⟩ := HX.out k hkn
      have HR := Lib.hid (show wr.rangeAt g (k * 11) (snL (Z k)) from fun j u hu => cell_later HB.out (hr j u hu))
      have HWK := Lib.hid (HW.out k)
      have HS1 := Lib.hid (show (Try.prog.info? 74).map (fun i => i.size) = some (snL (Z k)).length by rw [snL_length HWK.out]; exact snap_size)
      have HS2 := Lib.hid (show (Try.prog.info? 74).map (fun i => i.size) = some (snL (Z k)).toArray.size by rw [List.size_toArray, snL_length HWK.out]; exact snap_size)
      have HS3 := Lib.hid (show (11 : Nat) = (snL (Z k)).toArray.size by rw [List.size_toArray, snL_length HWK.out])
      have i1 : (k : Int) < (n : Int) := by omega
      have I9 := Lib.hid (wrap_succ hkn HNL.out)
      have HKN := Lib.hid hkn
      clear hr hkn hk
      go_wp2_with (first | refine wpList_load_mid rfl 74 _ rfl g (k * 11) rfl (snL (Z k)) _ HR.out Try.underlying74 rfl HS1.out ?_ | refine wpList_store_then rfl 74 _ _ rfl wr.heap.size (snL (Z k)).toArray rfl rfl 74 _ (Blk.new _ _ _) HS2.out HS3.out (all_oneCell_toArray (snL_one _)) ?_)
      refine Later.mk fun w6 hw6 => ?_
      have H6 := Lib.hid (show Below wr.heap.size wr w6 ∧ Blk w6 wr.heap.size 74 (snL (Z k)).toArray by rw [hw6]; exact ⟨Below.setRow ((Below.refl _ _).alloc (Nat.le_refl _) _) (Nat.le_refl _) _, (Blk.new _ _ _).row _⟩)
      clear hw6
      obtain ⟨y8, y9⟩ := snL_g _ HWK.out w6 _ H6.out.2
      have hap : ∃ v' w', (Builtin.append_ #[45, 45] 45 #[l, .slice (some ⟨w6.heap.size, 0, none⟩) 1 1]).run Try.prog (w6.alloc (.cells #[.int .u64 (Z k).g.1, .int .u64 (Z k).g.2] 33)) = .ok v' w' ∧ AppG (w6.alloc (.cells #[.int .u64 (Z k).g.1, .int .u64 (Z k).g.2] 33)) w.heap.size l (G k ++ [(Z k).g]) v' w' := by
        have hs6 := H6.out.1.size
        have hs0 := HB.out.size
        refine app_guids _ ((HO.out.keep H6.out.1).keep ((Below.refl _ _).alloc (Nat.le_refl _) _)) (InG.litAt w6 [(Z k).g] _ _ rfl rfl (by simp) (by simpa using HWK.out.g)) (by have := HGL.out k; simp; omega) ?_
        simp
        omega
      have HA := Lib.hid hap
      have HO2 := Lib.hid ((HO.out.keep H6.out.1).keep ((Below.refl _ _).alloc (Nat.le_refl _) (Obj.cells #[.int .u64 (Z k).g.1, .int .u64 (Z k).g.2] 33)))
      have HB2 := Lib.hid ((HB.out.trans (H6.out.1.mono HB.out.size)).alloc (Nat.le_trans HB.out.size H6.out.1.size) (Obj.cells #[.int .u64 (Z k).g.1, .int .u64 (Z k).g.2] 33))
      clear hap
      go_wp2_with (at_builtin; refine wpList_append_run rfl _ _ 45 rfl _ _ rfl rfl _ HA.out ?_)
      refine Later.mk fun _ _ v' w' hp => ?_
      have HN := Lib.hid (And.intro (HB2.out.trans (hp.below HO2.out HB2.out.size)) hp.1)
      clear hp
      have i9 := I9.out
      go_wp2
      rw [I9.out]
      clear i9 i1
      exact ⟨⟨k + 1, v', HKN.out, rfl, rfl, HN.out.1, by rw [HGS.out k HKN.out]; exact HN.out.2⟩, meas_succ HKN.out⟩
    · obtain rfl : k = n := by omega
      have i1 : ¬ ((k : Int) < (k : Int)) := by omega
      clear hkn hk
      go_wp2
      go_ret
      exact ⟨_, rfl, by rw [← HGN.out]; exact HO.out, HB.out⟩
end
end Go.Proofs.Ytjeebpklinpmfaa
