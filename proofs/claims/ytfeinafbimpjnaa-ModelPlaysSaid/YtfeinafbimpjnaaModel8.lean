/-
  A MODEL: what is asked of none; lists compared by the statements.
-/
import Derived.Test.YtfeinafbimpjnaaModel7
namespace Go.Proofs.Ytfeinafbimpjnaa
open Go.RowKit Reg Go.WideShapes Go.ChangeShapes

theorem refBegins_eq (v v' : Value) (gs hs : List Gd) (w : World) (hv : InG w v gs) (hv' : InG w v' hs) (hl : gs.length = hs.length) :
    Calls Try.prog 31 #[v, v'] w fun e w' => e = .returned (.bool (decide (gs = hs))) ∧ Below w.heap.size w w' := by
  obtain ⟨a, c, rfl, -, hx⟩ := hv.open_
  obtain ⟨a', c', rfl, -, hx'⟩ := hv'.open_
  have hneq := run_neq_guid
  rw [← hl] at hx' ⊢
  have hres : ∀ b, (b = true ↔ ∀ j, j < gs.length → gs.getD j (0, 0) = hs.getD j (0, 0)) → decide (gs = hs) = b := by
    intro b hb
    rw [Bool.eq_iff_iff, hb, decide_eq_true_iff]
    exact ⟨fun h => h ▸ fun _ _ => rfl, eqG_of_getD hl⟩
  generalize decide (gs = hs) = b at *
  generalize hZ : (fun j => gs.getD j (0, 0)) = Z at *
  generalize hZ' : (fun j => hs.getD j (0, 0)) = Z' at *
  have g1 : ∀ j, gs.getD j (0, 0) = Z j := fun j => by subst hZ; rfl
  have g2 : ∀ j, hs.getD j (0, 0) = Z' j := fun j => by subst hZ'; rfl
  simp only [g1] at hx hres
  simp only [g2] at hx' hres
  have hn := hv.2.1
  clear hZ hZ' hv hv' hl g1 g2
  generalize gs.length = n at *
  have HX := Lib.hid hx
  have HX' := Lib.hid hx'
  have HR := Lib.hid hres
  have HN := Lib.hid hn
  clear hx hx' hres hn
  go_enter Try.func31, Try.ntmps31
  go_wp2_with fail
  go_loopw [5] (fun i wr => ∃ k : Nat, k ≤ n ∧ (∀ j, j < k → Z j = Z' j) ∧ i = .int .i64 k ∧ Below w.heap.size w wr) (fun i _ => n - (intOf i).toNat)
  case atStart => exact ⟨0, Nat.zero_le _, fun j hj => by omega, rfl, Below.refl _ _⟩
  case round =>
    obtain ⟨k, hk, hq, rfl, hb⟩ := hrel
    have HB := Lib.hid hb
    have HQ := Lib.hid hq
    clear hb hq
    by_cases hkn : k < n
    · obtain ⟨g, off, rfl, hc, hd⟩ := HX.out k hkn
      obtain ⟨g', off', rfl, hc', hd'⟩ := HX'.out k hkn
      have hc1 := cell_later HB.out hc
      have hc2 := cell_later HB.out hd
      have hc3 := cell_later HB.out hc'
      have hc4 := cell_later HB.out hd'
      have i1 : (k : Int) < (n : Int) := by omega
      have hn := HN.out
      unfold maxLen at hn
      have k9 : (k : Int) < 9223372036854775807 := by omega
      have HKN := Lib.hid hkn
      clear hc hd hc' hd' hkn hn
      by_cases hz : sameG (Z k) (Z' k) = true
      · have hzz := sameG_iff.1 hz
        unfold sameG at hz
        have HZ := Lib.hid hzz
        clear hzz
        go_wp2_with fail
        go_quiet (fail)
        have HB1 := Lib.hid (below_drewN HB.out nq)
        clear HB
        have hkn := HKN.out
        go_wp2
        refine ⟨⟨k + 1, by omega, ?_, by go_num, HB1.out⟩, by simp [intOf]; omega⟩
        intro j hj
        rcases Nat.lt_succ_iff_lt_or_eq.1 hj with h | rfl
        · exact HQ.out j h
        · exact HZ.out
      · have hb : b = false := HR.out false ⟨(fun h => by cases h), fun h => absurd (sameG_iff.2 (h k HKN.out)) hz⟩
        have hz2 : sameG (Z k) (Z' k) = false := by simpa using hz
        unfold sameG at hz2
        have HBB := Lib.hid hb
        clear hb hz
        go_wp2_with fail
        go_quiet (fail)
        have HB1 := Lib.hid (below_drewN HB.out nq)
        clear HB
        go_wp2
        go_ret
        exact ⟨by rw [HBB.out]; rfl, HB1.out⟩
    · obtain rfl : k = n := by omega
      have hb : b = true := HR.out true ⟨fun _ => HQ.out, fun _ => rfl⟩
      have HBB := Lib.hid hb
      clear hb
      go_wp2
      go_ret
      exact ⟨by rw [HBB.out]; rfl, HB.out⟩
theorem guids_any (v v' : Value) (gs hs : List Gd) (w : World) (hv : InG w v gs) (hv' : InG w v' hs) :
    Calls Try.prog 22 #[v, v'] w fun e w' => e = .returned (.bool (decide (gs = hs))) ∧ Below w.heap.size w w' := by
  have hb := fun hl => refBegins_eq v v' gs hs w hv hv' hl
  obtain ⟨a, c, rfl, -, -⟩ := hv.open_
  obtain ⟨a', c', rfl, -, -⟩ := hv'.open_
  by_cases hl : gs.length = hs.length
  · have hb1 := hb hl
    have HB1 := Lib.hid hb1
    generalize decide (gs = hs) = r at *
    clear hb hb1 hv hv'
    rw [← hl] at HB1 ⊢
    generalize gs.length = n at *
    clear hl
    go_enter Try.func22, Try.ntmps22
    go_wp2_with fail
    refine HB1.out.mono ?_
    rintro e w1 ⟨rfl, hb⟩
    have HB := Lib.hid hb
    clear hb HB1
    go_wp2
    go_ret
    exact ⟨rfl, HB.out⟩
  · have hd : decide (gs = hs) = false := by
      rw [decide_eq_false_iff_not]
      rintro rfl
      exact hl rfl
    have i1 : ((gs.length : Int) == (hs.length : Int)) = false := by simp; omega
    rw [hd]
    clear hv hv' hd hb hl
    generalize gs.length = n at *
    generalize hs.length = n' at *
    go_enter Try.func22, Try.ntmps22
    go_wp2
    go_ret
    exact ⟨rfl, Below.refl _ _⟩
theorem begin_none (e : Int) (g : Gd) (w : World) : Calls Try.prog 10 #[.pointer none, .int .u64 e, .agg #[.int .u64 g.1, .int .u64 g.2]] w fun e' w' => e' = .returned (.tuple #[]) ∧ Below w.heap.size w w' := by
  go_enter Try.func10, Try.ntmps10
  go_wp2
  refine bodyPost_ret (results_none rfl _ _ _) rfl ?_
  exact ⟨rfl, (Below.refl _ _).alloc (Nat.le_refl _) _⟩
theorem write_none (e b : Int) (d : ByteArray) (w : World) : Calls Try.prog 12 #[.pointer none, .int .u64 e, .int .i64 b, .string d] w fun e' w' => e' = .returned (.tuple #[]) ∧ Below w.heap.size w w' := by
  go_enter Try.func12, Try.ntmps12
  go_wp2
  refine bodyPost_ret (results_none rfl _ _ _) rfl ?_
  exact ⟨rfl, Below.refl _ _⟩
theorem snap_none (g : Gd) (w : World) : Calls Try.prog 15 #[.pointer none, .agg #[.int .u64 g.1, .int .u64 g.2]] w fun e' w' => e' = .returned (.tuple #[]) ∧ Below w.heap.size w w' := by
  go_enter Try.func15, Try.ntmps15
  go_wp2
  refine bodyPost_ret (results_none rfl _ _ _) rfl ?_
  exact ⟨rfl, (Below.refl _ _).alloc (Nat.le_refl _) _⟩
theorem image_none (g : Gd) (w : World) : Calls Try.prog 19 #[.pointer none, .agg #[.int .u64 g.1, .int .u64 g.2]] w fun e' w' => e' = .returned (.tuple #[.slice none 0 0, .bool false]) ∧ Below w.heap.size w w' := by
  go_enter Try.func19, Try.ntmps19
  go_wp2
  go_ret2
  exact ⟨rfl, (Below.refl _ _).alloc (Nat.le_refl _) _⟩
theorem commit_none (v : Value) (w : World) : Calls Try.prog 17 #[.pointer none, v] w fun e' w' => e' = .returned (.bool false) ∧ Below w.heap.size w w' := by
  go_enter Try.func17, Try.ntmps17
  go_wp2
  go_ret
  exact ⟨rfl, Below.refl _ _⟩
theorem list_none (w : World) : Calls Try.prog 23 #[.pointer none] w fun e' w' => e' = .returned (.slice none 0 0) ∧ Below w.heap.size w w' := by
  go_enter Try.func23, Try.ntmps23
  go_wp2
  go_ret
  exact ⟨rfl, Below.refl _ _⟩
end Go.Proofs.Ytfeinafbimpjnaa
