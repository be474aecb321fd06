/-
  THE REFERENCE's READER: Num where all is well; Text, OK, End.
-/
import Derived.Test.YtimgecflcackbaaWireRef2N
namespace Go.Proofs.Ytimgecflcackbaa
open Go.RowKit Reg
theorem wrap_n (y x : Nat) (h : y * 256 + x < 256 ^ 8) : IntKind.u64.wrap (IntKind.u64.wrap ((y : Int) * 256) + IntKind.u64.wrap (x : Int)) = ((y * 256 + x : Nat) : Int) := by
  have e : ((y : Int) * 256) = ((y * 256 : Nat) : Int) := (Int.natCast_mul y 256).symm
  have h1 : y * 256 < 256 ^ 8 := Nat.lt_of_le_of_lt (Nat.le_add_right _ _) h
  rw [e, wrap_u64 _ h1, wrap_u64 _ (Nat.lt_of_le_of_lt (Nat.le_add_left _ _) h), ← Int.natCast_add, wrap_u64 _ h]
set_option maxHeartbeats 1000000 in
theorem refNum_good (r : Nat) (k : UInt8) (l : List UInt8) (w : World) (h : RdR w r (some (k :: l))) (hk : ¬ (8 < k.toNat ∨ l.length < k.toNat ∨ (0 < k.toNat ∧ l[0]? = some 0))) : Calls Try.prog 73 #[.pointer (some ⟨r, 0, none⟩)] w (NumPostR w r (some (k :: l))) := by
  have hnum : Wire.num (some (k :: l)) = (Wire.be (l.take k.toNat), some (l.drop k.toNat)) := by unfold Wire.num; dsimp only; rw [if_neg hk]
  have b := h.2
  have hlen := h.1
  have c0 : w.cell? ⟨r, 0, none⟩ = some (.string (strOf (k :: l))) := b.cell 0
  have c1 : w.cell? ⟨r, 1, none⟩ = some (.bool false) := b.cell 1
  have hsz : (strOf (k :: l)).size = l.length + 1 := by rw [size_strOf]; rfl
  have hz : (((strOf (k :: l)).size : Int) == 0) = false := by rw [hsz]; rw [beq_eq_false_iff_ne]; omega
  have hp : 0 < (strOf (k :: l)).size := by omega
  have h0 := str_at (strOf (k :: l)) (k :: l) (strOf_list _) 0 hp (by simp)
  have h0' : (strOf (k :: l))[0].toNat = k.toNat := by rw [h0]; rfl
  have HB := Lib.hid b
  have f0 := b.frozen 0
  have HNUM := Lib.hid hnum
  have hk256 := k.toNat_lt
  have hk8 : k.toNat ≤ 8 := Nat.le_of_not_lt fun q => hk (.inl q)
  have hkl : k.toNat ≤ l.length := Nat.le_of_not_lt fun q => hk (.inr (.inl q))
  have hw1 : IntKind.i64.wrap (k.toNat : Int) = (k.toNat : Int) := IntWalk.i64_in _ (by omega)
  have hw2 : IntKind.i64.wrap (1 + (k.toNat : Int)) = 1 + (k.toNat : Int) := IntWalk.i64_in _ (by omega)
  clear b h hnum h0
  have fin : ∀ w1, RdR w1 r (some (l.drop k.toNat)) → w.grownBy w1 (some r) → NumPostR w r (some (k :: l)) (.returned (.int .u64 ((Wire.be (l.take k.toNat) : Nat) : Int))) w1 := fun w1 h1 h2 => ⟨by rw [HNUM.out], by rw [HNUM.out]; exact h1, h2⟩
  have FIN := Lib.hid fin
  clear fin HNUM
  have d1 : decide ((8 : Int) < (k.toNat : Int)) = false := by rw [decide_eq_false_iff_not]; omega
  have d2 : decide (((strOf (k :: l)).size : Int) < 1 + (k.toNat : Int)) = false := by rw [decide_eq_false_iff_not]; omega
  have main : decide (0 < k.toNat) = false ∨ (decide (0 < k.toNat) = true ∧ ∃ hp1 : 1 < (strOf (k :: l)).size, ∃ x : Nat, (strOf (k :: l))[1].toNat = x ∧ (((x : Nat) : Int) == 0) = false) := by
    by_cases q : 0 < k.toNat
    · right
      refine ⟨by rw [decide_eq_true_eq]; omega, by omega, _, rfl, ?_⟩
      cases l with
      | nil => simp at hkl; omega
      | cons b l =>
        rw [str_at (strOf (k :: b :: l)) (k :: b :: l) (strOf_list _) 1 (by rw [size_strOf]; simp) (by simp)]
        rw [beq_eq_false_iff_ne]
        intro e
        apply hk
        refine .inr (.inr ⟨q, ?_⟩)
        simp at e ⊢
        exact UInt8.toNat.inj (by simpa using e)
    · left; rw [decide_eq_false_iff_not]; omega
  have HK8 := Lib.hid hk8
  have HKL := Lib.hid hkl
  have HSZ := Lib.hid hsz
  have HLEN := Lib.hid hlen
  clear hk hk8 hkl hsz hlen
  rcases main with d3 | ⟨d3, hp1, x1, h1', h1z⟩
  all_goals
    go_enter Try.func73, Try.ntmps73
    go_wp2_with fail
    go_quiet (fail)
    go_wp2
    go_loopw [3, 5] (fun n i wr => ∃ j : Nat, j ≤ k.toNat ∧ i = .int .i64 ((j : Int) + 1) ∧ n = .int .u64 ((Wire.be (l.take j) : Nat) : Int) ∧ w.drewN nq = wr) (fun _ i _ => k.toNat + 1 - (intOf i).toNat)
    case atStart => exact ⟨0, Nat.zero_le _, rfl, rfl, rfl⟩
    case round =>
      obtain ⟨j, hj, rfl, rfl, rfl⟩ := hrel
      by_cases hlt : j < k.toNat
      · have hp2 : j + 1 < (strOf (k :: l)).size := by have := HSZ.out; have := HKL.out; omega
        have hlj : j < l.length := by have := HKL.out; omega
        have hb : Wire.be (l.take (j + 1)) = Wire.be (l.take j) * 256 + l[j].toNat := by
          rw [List.take_succ_eq_append_getElem hlj, Wire.be_append]
        have hlim : Wire.be (l.take (j + 1)) < 256 ^ 8 := by
          refine Nat.lt_of_lt_of_le (Wire.be_lt _) (Nat.pow_le_pow_right (by omega) ?_)
          rw [List.length_take]; have := HK8.out; omega
        rw [hb] at hlim
        have ho := wrap_n _ _ hlim
        rw [← hb] at ho
        have HO := Lib.hid ho
        have hs := str_at (strOf (k :: l)) (k :: l) (strOf_list _) (j + 1) hp2 (by simp; omega)
        have hs' : (strOf (k :: l))[j + 1].toNat = l[j].toNat := by rw [hs]; simp
        have hi : ((j : Int) + 1).toNat = j + 1 := by omega
        have hip : ((j : Int) + 1) < ((strOf (k :: l)).size : Int) := by omega
        have hjk : (j : Int) + 1 ≤ (k.toNat : Int) := by omega
        clear hb hlim ho hs
        generalize l[j].toNat = x at *
        generalize Wire.be (l.take j) = y at *
        go_wp2
        refine ⟨⟨j + 1, by omega, by go_num, ?_⟩, by simp [intOf]; omega⟩
        first | exact ⟨by rw [HO.out], trivial⟩ | exact ⟨by rw [HO.out], rfl⟩
      · obtain rfl : j = k.toNat := by omega
        have hjk : ¬ ((k.toNat : Int) + 1 ≤ (k.toNat : Int)) := by omega
        have hsl : (0 : Int) ≤ 1 + (k.toNat : Int) ∧ 1 + (k.toNat : Int) ≤ ((strOf (k :: l)).size : Int) := by have := HSZ.out; have := HKL.out; omega
        go_wp2
        go_ret
        have he : (strOf (k :: l)).extract (1 + k.toNat) (strOf (k :: l)).size = strOf (l.drop k.toNat) := by
          rw [← strOf_data ((strOf (k :: l)).extract (1 + k.toNat) (strOf (k :: l)).size), extract_from, strOf_list, Nat.add_comm, List.drop_succ_cons]
        rw [he]
        refine FIN.out _ ⟨?_, (HB.out.drewN nq).set 0 _⟩ (grownBy_drewN nq (grownBy_set _ _ _ _))
        have := HLEN.out
        simp at this ⊢
        omega
end Go.Proofs.Ytimgecflcackbaa
