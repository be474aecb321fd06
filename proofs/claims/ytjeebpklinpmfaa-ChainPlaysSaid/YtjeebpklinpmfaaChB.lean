/-
  CHAINS: none, may, zeros, the clone of a list of texts, list, New, Write, Live.
-/
import Derived.Test.YtjeebpklinpmfaaChA
namespace Go.Proofs.Ytjeebpklinpmfaa
open Go.RowKit Reg Go.WideShapes Go.ChangeShapes

section
variable {w : World} {bc : Nat} {sl : Value} {C : Ch}
theorem none_no (h : Cm w bc sl C) : Calls Try.prog 31 #[.pointer (some ⟨bc, 0, none⟩)] w fun e w' => e = .returned (.bool false) ∧ w = w' := by
  have c8 := h.c8
  have hn := h.n.1
  have e0 : ((C.n : Int) == 0) = false := by simp; omega
  have e1 : decide ((C.n : Int) = 0) = false := decide_eq_false (by omega)
  have e2 : decide (C.n = 0) = false := decide_eq_false (by omega)
  clear h hn
  go_enter Try.func31, Try.ntmps31
  go_wp2
  go_ret
  exact ⟨rfl, rfl⟩
theorem none_nil (w : World) : Calls Try.prog 31 #[.pointer none] w fun e w' => e = .returned (.bool true) ∧ w = w' := by
  go_enter Try.func31, Try.ntmps31
  go_wp2
  go_ret
  exact ⟨rfl, rfl⟩
def mayB (n : Nat) (b : Int) (d : ByteArray) : Bool := decide (0 ≤ b ∧ b < n ∧ d.size = 32)
theorem may_any (h : Cm w bc sl C) (b : Int) (d : ByteArray) : Calls Try.prog 34 #[.pointer (some ⟨bc, 0, none⟩), .int .i64 b, .string d] w fun e w' => e = .returned (.bool (mayB C.n b d)) ∧ w = w' := by
  have c8 := h.c8
  have hn := h.n
  by_cases h1 : 0 ≤ b
  · by_cases h2 : b < C.n
    · by_cases h3 : d.size = 32
      · have hm : mayB C.n b d = true := by unfold mayB; exact decide_eq_true ⟨h1, h2, h3⟩
        rw [hm]
        have h3i : ((d.size : Nat) : Int) = 32 := by omega
        clear h hn hm
        go_enter Try.func34, Try.ntmps34
        go_wp2
        go_ret
        exact ⟨rfl, rfl⟩
      · have hm : mayB C.n b d = false := by unfold mayB; exact decide_eq_false (fun h => h3 h.2.2)
        rw [hm]
        have e0 : (((d.size : Nat) : Int) == 32) = false := by simp; omega
        have e1 : decide (((d.size : Nat) : Int) = 32) = false := decide_eq_false (by omega)
        have e2 : decide (d.size = 32) = false := decide_eq_false h3
        clear h hn hm
        go_enter Try.func34, Try.ntmps34
        go_wp2
        go_ret
        exact ⟨rfl, rfl⟩
    · have hm : mayB C.n b d = false := by unfold mayB; exact decide_eq_false (fun h => h2 h.2.1)
      rw [hm]
      clear h hn hm
      go_enter Try.func34, Try.ntmps34
      go_wp2
      go_ret
      exact ⟨rfl, rfl⟩
  · have hm : mayB C.n b d = false := by unfold mayB; exact decide_eq_false (fun h => h1 h.1)
    rw [hm]
    clear h hn hm
    go_enter Try.func34, Try.ntmps34
    go_wp2
    go_ret
    exact ⟨rfl, rfl⟩
end
end Go.Proofs.Ytjeebpklinpmfaa
