/-
  THE REFERENCE's READER: Num, Text, OK, End, whatever the state.
-/
import Derived.Test.YtimgecflcackbaaWireRef3N
namespace Go.Proofs.Ytimgecflcackbaa
open Go.RowKit Reg
theorem refNum_any (r : Nat) (st : Wire.St) (w : World) (h : RdR w r st) : Calls Try.prog 73 #[.pointer (some ⟨r, 0, none⟩)] w (NumPostR w r st) := by
  cases st with
  | none => exact refNum_none r w h
  | some l =>
    cases l with
    | nil => exact refNum_nil r w h
    | cons k l =>
      by_cases hk : 8 < k.toNat ∨ l.length < k.toNat ∨ (0 < k.toNat ∧ l[0]? = some 0)
      · exact refNum_bad r k l w h hk
      · exact refNum_good r k l w h hk
end Go.Proofs.Ytimgecflcackbaa
