/-
  IN WHICH BLOCKS TWO IMAGES DIFFER, the program's way.
-/
import Derived.Test.YtmljeifooamlcaaImgDiff
import Derived.ChangeKeysEq
namespace Go.Proofs.Ytmljeifooamlcaa
open Go.RowKit Reg

theorem eq_items (zs zs' : List Int) (d : Nat) (w : World) : ∀ is : List Nat, (∀ i ∈ is, i < 8) →
    (Op.eqItems (d + 1) 3 1 (shortOf zs).toArray (shortOf zs').toArray is).run Try.prog w = .ok (is.all fun i => zs.getD i 0 == zs'.getD i 0) w := by
  intro is
  induction is with
  | nil => intro _; rfl
  | cons i is ih =>
    intro h
    have hi := h i (by simp)
    have hx : ∀ l : List Int, (shortOf l).toArray[i * 1]? = some (.int .i64 (l.getD i 0)) := fun l => by simp [shortOf, hi]
    have e := run_equalIn_int w (P := Try.prog) d 3 .i64 .i64 (zs.getD i 0) (zs'.getD i 0) Try.underlying3
    rw [Op.eqItems]
    simp only [Sem.run_bind, run_part_plain w (P := Try.prog) (e := 3) (by kernel_rfl) (hx zs), run_part_plain w (P := Try.prog) (e := 3) (by kernel_rfl) (hx zs'), Result.andThen_ok, e, List.all_cons]
    cases hz : zs.getD i 0 == zs'.getD i 0 with
    | false => rfl
    | true =>
      exact ih (fun j hj => h j (by simp [hj]))
def eq8 (zs zs' : List Int) : Bool := (List.range 8).all fun i => zs.getD i 0 == zs'.getD i 0
theorem eq_short (zs zs' : List Int) (w : World) :
    (Op.equalIn 10000 39 (.agg (shortOf zs).toArray) (.agg (shortOf zs').toArray)).run Try.prog w = .ok (eq8 zs zs') w := by
  obtain ⟨i, hi, _, _, _⟩ := info_parts int_info
  rw [run_equalIn_array w (P := Try.prog) 9999 _ _ Try.underlying39 hi, show Try.prog.cellsOf 3 = 1 from by kernel_rfl, eq_items zs zs' 9998 w _ (fun i hi => by simpa using hi)]
  rfl
theorem eq8_true {zs zs' : List Int} (h : eq8 zs zs' = true) : ∀ j, j < 8 → zs.getD j 0 = zs'.getD j 0 := by
  unfold eq8 at h
  rw [List.all_eq_true] at h
  intro j hj
  exact eq_of_beq (h j (List.mem_range.2 hj))
set_option maxRecDepth 100000 in
set_option maxHeartbeats 2000000 in
theorem diff_any (v v' : Value) (zs zs' : List Int) (w : World) (hv : InI w v zs) (hv' : InI w v' zs') (h1 : zs.length ≤ 1000) (h1' : zs'.length ≤ 1000) :
    Calls Try.prog 14 #[v, v'] w fun e w' => ∃ u, e = .returned u ∧ OwI w' w.heap.size u (diffOf zs zs') ∧ Below w.heap.size w w' := by
  have hs1 := short_any v zs w hv
  have hs2 : ∀ w1, Below w.heap.size w w1 → zs'.length ≤ 8 → Calls Try.prog 20 #[v'] w1 fun e w' => e = .returned (.agg (shortOf zs').toArray) ∧ Below w1.heap.size w1 w' := fun w1 hb => short_any v' zs' w1 (hv'.keep hb)
  have heq := fun w1 => eq_short zs zs' w1
  obtain ⟨a, c, rfl, -, -⟩ := hv.open_
  obtain ⟨a', c', rfl, -, -⟩ := hv'.open_
  have hp : ∀ (w1 : World) (k : Nat), Below w.heap.size w w1 → Calls Try.prog 21 #[.slice a zs.length c, .int .i64 (k : Int)] w1 fun e w' => e = .returned (.int .i64 (zs.getD k 0)) ∧ w1 = w' :=
    fun w1 k hb => at_any _ zs k w1 (hv.keep hb)
  have hp' : ∀ (w1 : World) (k : Nat), Below w.heap.size w w1 → Calls Try.prog 21 #[.slice a' zs'.length c', .int .i64 (k : Int)] w1 fun e w' => e = .returned (.int .i64 (zs'.getD k 0)) ∧ w1 = w' :=
    fun w1 k hb => at_any _ zs' k w1 (hv'.keep hb)
  have HP := Lib.hid hp
  have HP' := Lib.hid hp'
  clear hp hp'
  have HS1 := Lib.hid hs1
  have HS2 := Lib.hid hs2
  clear hs1 hs2
  by_cases hq : (zs.length ≤ 8 ∧ zs'.length ≤ 8) ∧ eq8 zs zs' = true
  · obtain ⟨⟨h8, h8'⟩, hq⟩ := hq
    simp only [hq] at heq
    have i1 : (zs.length : Int) ≤ 8 := by omega
    have i2 : (zs'.length : Int) ≤ 8 := by omega
    have hnil := diffOf_same zs zs' (fun j hj => eq8_true hq j (by omega))
    have HNIL := Lib.hid hnil
    have HS1 := Lib.hid (HS1.out h8)
    have HS2 := Lib.hid (fun w1 hb => HS2.out w1 hb h8')
    clear hv hv' h1 h1' h8 h8' hq hnil HP HP'
    go_enter Try.func14, Try.ntmps14
    go_wp2_with fail
    refine HS1.out.mono ?_
    rintro e w1 ⟨rfl, hb⟩
    have HB1 := Lib.hid hb
    clear hb
    go_wp2_with fail
    refine (HS2.out _ HB1.out).mono ?_
    rintro e w2 ⟨rfl, hb⟩
    have HB2 := Lib.hid (HB1.out.trans (hb.mono HB1.out.size))
    clear hb HB1 HS1 HS2
    go_wp2
    go_ret
    refine ⟨_, rfl, ?_, HB2.out⟩
    rw [HNIL.out]
    exact OwI.nil_ _ _
  · unfold diffOf
    have hs : (eq8 zs zs' = false ∧ (zs.length : Int) ≤ 8 ∧ (zs'.length : Int) ≤ 8) ∨ (8 : Int) < (zs.length : Int) ∨ ((zs.length : Int) ≤ 8 ∧ (8 : Int) < (zs'.length : Int)) := by
      rcases Nat.lt_or_ge 8 zs.length with q | q
      · exact .inr (.inl (by omega))
      · rcases Nat.lt_or_ge 8 zs'.length with q' | q'
        · exact .inr (.inr (by omega))
        · exact .inl ⟨by simpa [q, q'] using hq, by omega, by omega⟩
    have hMM : ∃ M, max zs.length zs'.length = M ∧ M ≤ 1000 ∧ (((zs.length : Int) < (zs'.length : Int) ∧ M = zs'.length) ∨ ((zs'.length : Int) ≤ (zs.length : Int) ∧ M = zs.length)) := ⟨_, rfl, by omega, by omega⟩
    obtain ⟨M, hM, hM1, hM2⟩ := hMM
    rw [hM]
    have HM1 := Lib.hid hM1
    clear hv hv' h1 h1' hq hM hM1
    generalize eq8 zs zs' = q8 at *
    generalize hZ : (fun j => zs.getD j 0) = Z at *
    generalize hZ' : (fun j => zs'.getD j 0) = Z' at *
    have hg : ∀ k, zs.getD k 0 = Z k := fun k => by subst hZ; rfl
    have hg' : ∀ k, zs'.getD k 0 = Z' k := fun k => by subst hZ'; rfl
    simp only [hg] at HP
    simp only [hg'] at HP'
    generalize (shortOf zs).toArray = S at *
    generalize (shortOf zs').toArray = S' at *
    clear hZ hZ' hg hg'
    generalize zs.length = n at *
    generalize zs'.length = n' at *
    rcases hs with ⟨rfl, i1, i2⟩ | i1 | ⟨i1, i2⟩
    focus
      have HS1 := Lib.hid (HS1.out (by omega))
      have HS2 := Lib.hid (fun w1 hb => HS2.out w1 hb (by omega))
      go_enter Try.func14, Try.ntmps14
      go_wp2_with fail
      refine HS1.out.mono ?_
      rintro e w1 ⟨rfl, hb⟩
      have HB1 := Lib.hid hb
      clear hb
      go_wp2_with fail
      refine (HS2.out _ HB1.out).mono ?_
      rintro e w2 ⟨rfl, hb⟩
      have HBW := Lib.hid (HB1.out.trans (hb.mono HB1.out.size))
      clear hb HB1
    rotate_left
    focus
      have HBW := Lib.hid (Below.refl w.heap.size w)
      go_enter Try.func14, Try.ntmps14
    rotate_left
    focus
      have HBW := Lib.hid (Below.refl w.heap.size w)
      go_enter Try.func14, Try.ntmps14
    rotate_left
    all_goals
      clear HS1 HS2
      rcases hM2 with ⟨i3, rfl⟩ | ⟨i3, rfl⟩
    all_goals first | (exfalso; omega) | skip
    all_goals
      have k1 := HM1.out
      go_wp2_with fail
      go_loopw [6, 28] (fun v i wr => ∃ k : Nat, k ≤ M ∧ i = .int .i64 k ∧ Below w.heap.size w wr ∧ OwI wr w.heap.size v (diffTo Z Z' k)) (fun _ i _ => M - (intOf i).toNat)
      case atStart => exact ⟨0, Nat.zero_le _, rfl, HBW.out, OwI.nil_ _ _⟩
      case round =>
        clear HBW
        obtain ⟨k, hk, rfl, hb, ho⟩ := hrel
        have HB := Lib.hid hb
        have HO := Lib.hid ho
        clear hb ho
        by_cases hkM : k < M
        · have i1 : (k : Int) < (M : Int) := by omega
          have k2 : (k : Int) < 1000 := by omega
          clear heq i3
          go_wp2_with fail
          refine (HP.out _ k HB.out).mono ?_
          rintro e w4 ⟨rfl, rfl⟩
          go_wp2_with fail
          refine (HP'.out _ k HB.out).mono ?_
          rintro e w4 ⟨rfl, rfl⟩
          by_cases hz : Z k = Z' k
          · have e1 := diffTo_eq Z Z' k hz
            have E1 := Lib.hid e1
            clear e1
            go_wp2
            refine ⟨⟨k + 1, by omega, by go_num, HB.out, by rw [E1.out]; exact HO.out⟩, by simp [intOf]; omega⟩
          · have e1 := diffTo_ne Z Z' k hz
            have hA := app_int 22 (k : Int) HO.out (WalkArith.wf_i64 (by omega)) (by have := diffTo_length Z Z' k; omega) HB.out.size
            rw [← e1] at hA
            have HA := Lib.hid hA
            clear hA e1
            go_wp2_with (at_builtin; refine wpList_append_run rfl _ _ 22 rfl _ _ rfl rfl _ HA.out ?_)
            refine Later.mk fun _ _ v' w' hp => ?_
            have HB1 := Lib.hid (HB.out.trans (hp.below HO.out HB.out.size))
            have HO1 := Lib.hid hp.1
            clear hp HA
            go_wp2
            refine ⟨⟨k + 1, by omega, by go_num, HB1.out, HO1.out⟩, by simp [intOf]; omega⟩
        · obtain rfl : k = M := by omega
          go_wp2
          go_ret
          exact ⟨_, rfl, HO.out, HB.out⟩
end Go.Proofs.Ytmljeifooamlcaa
