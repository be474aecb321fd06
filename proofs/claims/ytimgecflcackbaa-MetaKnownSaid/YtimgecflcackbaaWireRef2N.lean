/-
  THE REFERENCE's READER: Num where there is a first byte.
-/
import Derived.Test.YtimgecflcackbaaWireRefN
namespace Go.Proofs.Ytimgecflcackbaa
open Go.RowKit Reg
set_option maxHeartbeats 1000000 in
theorem refNum_bad (r : Nat) (k : UInt8) (l : List UInt8) (w : World) (h : RdR w r (some (k :: l))) (hk : 8 < k.toNat ∨ l.length < k.toNat ∨ (0 < k.toNat ∧ l[0]? = some 0)) : Calls Try.prog 73 #[.pointer (some ⟨r, 0, none⟩)] w (NumPostR w r (some (k :: l))) := by
  have hnum : Wire.num (some (k :: l)) = (0, none) := by unfold Wire.num; dsimp only; rw [if_pos hk]
  have b := h.2
  have hlen := h.1
  have c0 : w.cell? ⟨r, 0, none⟩ = some (.string (strOf (k :: l))) := b.cell 0
  have c1 : w.cell? ⟨r, 1, none⟩ = some (.bool false) := b.cell 1
  have hsz : (strOf (k :: l)).size = l.length + 1 := by rw [size_strOf]; rfl
  have hz : (((strOf (k :: l)).size : Int) == 0) = false := by rw [hsz]; rw [beq_eq_false_iff_ne]; omega
  have hp : 0 < (strOf (k :: l)).size := by omega
  have h0 := str_at (strOf (k :: l)) (k :: l) (strOf_list _) 0 hp (by simp)
  have h0' : (strOf (k :: l))[0].toNat = k.toNat := by rw [h0]; rfl
  have HB := Lib.hid b
  have HNUM := Lib.hid hnum
  have hk256 := k.toNat_lt
  have hw1 : IntKind.i64.wrap (k.toNat : Int) = (k.toNat : Int) := IntWalk.i64_in _ (by omega)
  have hw2 : IntKind.i64.wrap (1 + (k.toNat : Int)) = 1 + (k.toNat : Int) := IntWalk.i64_in _ (by omega)
  clear b h hnum h0
  have fin : ∀ w1, RdR w1 r none → w.grownBy w1 (some r) → NumPostR w r (some (k :: l)) (.returned (.int .u64 0)) w1 := fun w1 h1 h2 => ⟨by rw [HNUM.out]; rfl, by rw [HNUM.out]; exact h1, h2⟩
  have FIN := Lib.hid fin
  clear fin HNUM
  have hszI : ((strOf (k :: l)).size : Int) = (l.length : Int) + 1 := by omega
  have main : (decide ((8 : Int) < (k.toNat : Int)) = true) ∨ (decide ((8 : Int) < (k.toNat : Int)) = false ∧ decide (((strOf (k :: l)).size : Int) < 1 + (k.toNat : Int)) = true) ∨
      (decide ((8 : Int) < (k.toNat : Int)) = false ∧ decide (((strOf (k :: l)).size : Int) < 1 + (k.toNat : Int)) = false ∧ decide (0 < k.toNat) = true ∧ ∃ hp1 : 1 < (strOf (k :: l)).size, (strOf (k :: l))[1].toNat = 0) := by
    by_cases q1 : 8 < k.toNat
    · left; rw [decide_eq_true_eq]; omega
    · by_cases q2 : l.length < k.toNat
      · right; left; constructor
        · rw [decide_eq_false_iff_not]; omega
        · rw [decide_eq_true_eq]; omega
      · rcases hk with hk | hk | ⟨hk1, hk2⟩
        · omega
        · omega
        · right; right
          refine ⟨by rw [decide_eq_false_iff_not]; omega, by rw [decide_eq_false_iff_not]; omega, by rw [decide_eq_true_eq]; omega, ?_⟩
          cases l with
          | nil => simp at hk2
          | cons b l =>
            refine ⟨by rw [size_strOf]; simp, ?_⟩
            rw [str_at (strOf (k :: b :: l)) (k :: b :: l) (strOf_list _) 1 (by rw [size_strOf]; simp) (by simp)]
            simp at hk2
            simp [hk2]
  clear hk hsz hlen hszI
  rcases main with d1 | ⟨d1, d2⟩ | ⟨d1, d2, d3, hp1, h1'⟩
  all_goals
    go_enter Try.func73, Try.ntmps73
    go_wp2_with fail
    go_quiet (fail)
    go_wp2_with fail
    refine (fail_any r _ false _ (HB.out.drewN nq)).mono ?_
    rintro e w1 ⟨rfl, h1, h2⟩
    have H1 := Lib.hid h1
    have H2 := Lib.hid (grownBy_drewN nq h2)
    clear h1 h2
    go_wp2
    go_ret
    exact FIN.out _ H1.out H2.out
end Go.Proofs.Ytimgecflcackbaa
