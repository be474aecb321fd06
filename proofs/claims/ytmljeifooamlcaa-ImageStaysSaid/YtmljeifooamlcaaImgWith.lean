/-
  AN IMAGE WITH ANOTHER PLACE, the program's way and the reference's.
-/
import Derived.Test.YtmljeifooamlcaaImgWalks
namespace Go.Proofs.Ytmljeifooamlcaa
open Go.RowKit Reg

theorem clone_any (v : Value) (zs : List Int) (w : World) (hv : InI w v zs) (hn : 0 < zs.length) (h1 : zs.length ≤ 1000) :
    Calls Try.prog 23 #[v] w fun e w' => ∃ u, e = .returned u ∧ OwI w' w.heap.size u zs ∧ Below w.heap.size w w' := by
  obtain ⟨a, c, rfl, -, hx⟩ := hv.open_
  obtain ⟨g, off, rfl, -⟩ := hx 0 hn
  have h0 : OwI (w.alloc (.cells #[] 3)) w.heap.size (.slice (some ⟨w.heap.size, 0, none⟩) 0 0) [] := ⟨own_new w w.heap.size 3 #[] 1 0 rfl (Nat.le_refl _) (by decide), by simp, by simp⟩
  have hA := app_ints 22 h0 (hv.keep ((Below.refl _ _).alloc (Nat.le_refl _) _)) (by simp; omega) (by simp)
  have HA := Lib.hid hA
  have H0 := Lib.hid h0
  have heq : ∀ w : World, (binOp BinOp.eql 22 (.slice (some ⟨g, off, none⟩) zs.length c) (.slice none 0 0)).run Try.prog w = .ok (.bool false) w := fun w => Lib.run_eql_slice_nil w 22 3 _ _ _ _ _ Try.underlying22
  clear hA h0 hx hv h1 hn
  go_enter Try.func23, Try.ntmps23
  go_wp2_with (at_builtin; refine wpList_append_run rfl _ _ 22 rfl _ _ rfl rfl _ HA.out ?_)
  refine Later.mk fun _ _ v' w' hp => ?_
  have HO := Lib.hid hp.1
  have HB := Lib.hid (((Below.refl w.heap.size w).alloc (Nat.le_refl _) _).trans (hp.below H0.out (by simp)))
  clear hp HA H0
  go_wp2
  go_ret
  exact ⟨_, rfl, HO.out, HB.out⟩

theorem with_bad (v : Value) (zs : List Int) (b s : Int) (w : World) (hv : InI w v zs) (hb : b < 0 ∨ (zs.length : Int) ≤ b ∨ s < 0) :
    Calls Try.prog 16 #[v, .int .i64 b, .int .i64 s] w fun e w' => e = .returned (.tuple #[.slice none 0 0, .int .i64 2]) ∧ w = w' := by
  obtain ⟨a, c, rfl, -, -⟩ := hv.open_
  have hs : b < 0 ∨ (0 ≤ b ∧ (zs.length : Int) ≤ b) ∨ (0 ≤ b ∧ b < (zs.length : Int) ∧ s < 0) := by omega
  clear hv hb
  generalize zs.length = n at *
  rcases hs with i1 | ⟨i1, i2⟩ | ⟨i1, i2, i3⟩
  all_goals
    go_enter Try.func16, Try.ntmps16
    go_wp2
    go_ret2
    exact ⟨rfl, rfl⟩

theorem withR_bad (v : Value) (zs : List Int) (b s : Int) (w : World) (hv : InI w v zs) (hb : b < 0 ∨ (zs.length : Int) ≤ b ∨ s < 0) :
    Calls Try.prog 17 #[v, .int .i64 b, .int .i64 s] w fun e w' => e = .returned (.tuple #[.slice none 0 0, .int .i64 2]) ∧ w = w' := by
  obtain ⟨a, c, rfl, -, -⟩ := hv.open_
  have hs : b < 0 ∨ (0 ≤ b ∧ (zs.length : Int) ≤ b) ∨ (0 ≤ b ∧ b < (zs.length : Int) ∧ s < 0) := by omega
  clear hv hb
  generalize zs.length = n at *
  rcases hs with i1 | ⟨i1, i2⟩ | ⟨i1, i2, i3⟩
  all_goals
    go_enter Try.func17, Try.ntmps17
    go_wp2
    go_ret2
    exact ⟨rfl, rfl⟩

theorem with_ok (v : Value) (zs : List Int) (b : Nat) (s : Int) (w : World) (hv : InI w v zs) (hb : b < zs.length) (hs : 0 ≤ s) (hw : (Lit.int .i64 s).wf = true) (h1 : zs.length ≤ 1000) :
    Calls Try.prog 16 #[v, .int .i64 (b : Int), .int .i64 s] w fun e w' => ∃ u, e = .returned (.tuple #[u, .int .i64 0]) ∧ OwI w' w.heap.size u (zs.set b s) ∧ Below w.heap.size w w' := by
  have hc := clone_any v zs w hv (by omega) h1
  obtain ⟨a, c, rfl, -, -⟩ := hv.open_
  have i1 : (b : Int) < (zs.length : Int) := by omega
  have HC := Lib.hid hc
  have HW := Lib.hid hw
  have HBL := Lib.hid hb
  clear hv hc hw h1 hb
  obtain ⟨n, hn⟩ : ∃ n, n = zs.length := ⟨_, rfl⟩
  rw [← hn] at i1 HC
  rw [← hn]
  have HN := Lib.hid hn
  clear hn
  go_enter Try.func16, Try.ntmps16
  go_wp2_with fail
  refine HC.out.mono ?_
  rintro e w1 ⟨u, rfl, ho, hb⟩
  obtain ⟨g, cap, rfl, hg, -, hf, hc⟩ := ho.block (by have := HBL.out; omega)
  have HO := Lib.hid ho
  have HB := Lib.hid hb
  have hc1 := hc b HBL.out
  have hf1 := hf b
  have HG := Lib.hid hg
  clear ho hb hc hf hg HC
  rw [← HN.out] at *
  have hfin : OwI (w1.setCell ⟨g, b, none⟩ (.int .i64 s)) w.heap.size (.slice (some ⟨g, 0, none⟩) n cap) (zs.set b s) := HO.out.set b s HW.out
  have hbel : Below w.heap.size w (w1.setCell ⟨g, b, none⟩ (.int .i64 s)) := HB.out.setCell HG.out _
  have HF := Lib.hid hfin
  have HBL := Lib.hid hbel
  clear hfin hbel
  go_wp2
  go_ret2
  exact ⟨_, rfl, HF.out, HBL.out⟩

theorem take_step (ys : List Int) (k : Nat) (h : k < ys.length) : ys.take (k + 1) = ys.take k ++ [ys.getD k 0] := by
  rw [List.take_succ_eq_append_getElem h]
  simp [h]
set_option maxRecDepth 100000 in
theorem withR_ok (v : Value) (zs : List Int) (b : Nat) (s : Int) (w : World) (hv : InI w v zs) (hb : b < zs.length) (hs : 0 ≤ s) (hw : (Lit.int .i64 s).wf = true) (h1 : zs.length ≤ 1000) :
    Calls Try.prog 17 #[v, .int .i64 (b : Int), .int .i64 s] w fun e w' => ∃ u, e = .returned (.tuple #[u, .int .i64 0]) ∧ OwI w' w.heap.size u (zs.set b s) ∧ Below w.heap.size w w' := by
  obtain ⟨a, c, rfl, -, hx⟩ := hv.open_
  have i1 : (b : Int) < (zs.length : Int) := by omega
  have hstep : ∀ k, k < zs.length → (zs.set b s).take (k + 1) = (zs.set b s).take k ++ [(zs.set b s).getD k 0] := fun k hk => take_step _ k (by simpa using hk)
  have hat : ∀ k, k < zs.length → (zs.set b s).getD k 0 = if k = b then s else zs.getD k 0 := by
    intro k hk
    simp [List.getElem?_set]
    by_cases h : b = k
    · subst h; simp [hb]
    · simp [h, Ne.symm h]
  have hlen : (zs.set b s).take zs.length = zs.set b s := List.take_of_length_le (by simp)
  have hwz := hv.wf
  generalize zs.set b s = ys at *
  generalize hZ : (fun j => zs.getD j 0) = Z at *
  have hg : ∀ k, zs.getD k 0 = Z k := fun k => by subst hZ; rfl
  simp only [hg] at hx hat hwz
  have hle : zs.length ≤ 1000 := h1
  clear hv hZ hg h1 hb
  generalize zs.length = n at *
  have HX := Lib.hid hx
  have HS := Lib.hid hstep
  have HAT := Lib.hid hat
  have HL := Lib.hid hlen
  have HW := Lib.hid hw
  have HWZ := Lib.hid hwz
  clear hx hstep hat hlen hw hwz
  have d1 : decide ((b : Int) < 0) = false := by simp
  have d2 : decide (s < 0) = false := by simp; omega
  have d3 : decide (n ≤ b) = false := by simp; omega
  go_enter Try.func17, Try.ntmps17
  go_wp2
  go_loopw [8, 9] (fun v i wr => ∃ k : Nat, k ≤ n ∧ i = .int .i64 k ∧ Below w.heap.size w wr ∧ OwI wr w.heap.size v (ys.take k)) (fun _ i _ => n - (intOf i).toNat)
  case atStart => exact ⟨0, Nat.zero_le _, rfl, Below.refl _ _, OwI.nil_ _ _⟩
  case round =>
    obtain ⟨k, hk, rfl, hb, ho⟩ := hrel
    have HB := Lib.hid hb
    have HO := Lib.hid ho
    clear hb ho
    by_cases hkn : k < n
    · have i2 : (k : Int) < (n : Int) := by omega
      have k2 : (k : Int) < 1000 := by omega
      obtain ⟨g, off, rfl, hc⟩ := HX.out k hkn
      have hc1 := cell_later HB.out hc
      have e1 := HS.out k hkn
      rw [HAT.out k hkn] at e1
      clear hc
      by_cases hkb : k = b
      · rw [if_pos hkb] at e1
        have hA := app_int 22 s HO.out HW.out (by rw [List.length_take]; omega) HB.out.size
        rw [← e1] at hA
        have HA := Lib.hid hA
        clear hA e1
        subst hkb
        go_wp2_with (at_builtin; refine wpList_append_run rfl _ _ 22 rfl _ _ rfl rfl _ HA.out ?_)
        refine Later.mk fun _ _ v' w' hp => ?_
        have HB1 := Lib.hid (HB.out.trans (hp.below HO.out HB.out.size))
        have HO1 := Lib.hid hp.1
        clear hp HA
        go_wp2
        refine ⟨⟨k + 1, by omega, by go_num, HB1.out, HO1.out⟩, by simp [intOf]; omega⟩
      · rw [if_neg hkb] at e1
        have hA := app_int 22 (Z k) HO.out (HWZ.out k) (by rw [List.length_take]; omega) HB.out.size
        rw [← e1] at hA
        have HA := Lib.hid hA
        have i3 : ¬ (k : Int) = (b : Int) := by omega
        clear hA e1 hkb
        go_wp2_with (at_builtin; refine wpList_append_run rfl _ _ 22 rfl _ _ rfl rfl _ HA.out ?_)
        refine Later.mk fun _ _ v' w' hp => ?_
        have HB1 := Lib.hid (HB.out.trans (hp.below HO.out HB.out.size))
        have HO1 := Lib.hid hp.1
        clear hp HA
        go_wp2
        refine ⟨⟨k + 1, by omega, by go_num, HB1.out, HO1.out⟩, by simp [intOf]; omega⟩
    · obtain rfl : k = n := by omega
      have ho := HO.out
      rw [HL.out] at ho
      have HO2 := Lib.hid ho
      clear ho HO
      go_wp2
      go_ret2
      exact ⟨_, rfl, HO2.out, HB.out⟩
end Go.Proofs.Ytmljeifooamlcaa
