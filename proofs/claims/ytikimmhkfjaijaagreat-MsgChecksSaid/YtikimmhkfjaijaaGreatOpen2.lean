/-
  ARRAYS THAT COME IN, OPENED.
-/
import Derived.Test.YtikimmhkfjaijaaGreatOpen
import Derived.OpenShut
namespace Go.Proofs.YtikimmhkfjaijaaGreat
open Go.ChangeShapes Go.WideShapes Go.RowKit

section
variable {H : Type} {enc : TypeId × Value → H} {P : Program} {w : World} {base : Nat} {spare : Nat → Bool} {held : Bool} {r : Reach} {b0 : Nat}
theorem okWide_array {t e : TypeId} {n : Nat} {v : Value} (ht : P.underlying t = some (.array n e)) (h : Value.okWide P w r b0 t v) : ∃ cs, v = .agg cs ∧ cs.size = P.cellsOf t := by
  simp only [Value.okWide, ht] at h
  obtain ⟨cs, h1, h2, _⟩ := h
  exact ⟨cs, h1, h2⟩
theorem take_one {α : Type} {l : List α} {i : Nat} {x : α} (h : (l.drop i).take 1 = [x]) : l[i]? = some x := by
  have := congrArg (fun y => y[0]?) h
  simpa using this
/-- an array of numbers -/
theorem open_array_nums {t e : TypeId} {k : IntKind} {n : Nat} {v : Value} {d : DataW H} {ps : List MemPlace} (ht : P.underlying t = some (.array n e)) (hn : P.cellsOf t = n) (hc : P.cellsOf e = 1) (he : P.underlying e = some (.int k))
    (hval : Value.okWide P w r b0 t v) (hd : DataW.Trod enc P w base spare held t v d ps) :
    ∃ l : List Int, l.length = n ∧ v = .agg (l.map (Value.int k)).toArray ∧ ∀ x ∈ l, (Lit.int k x).wf = true := by
  obtain ⟨cs, rfl, hs⟩ := okWide_array ht hval
  obtain ⟨fuel, hf⟩ := hd
  obtain ⟨xs, m, _, _, _, hl, hx⟩ := DataW.trod_array ht hf
  have each : ∀ i, i < n → ∃ z, cs[i]? = some (.int k z) ∧ (Lit.int k z).wf = true := by
    intro i hi
    have h1 := hx i hi
    rw [List.getElem?_eq_getElem (by omega)] at h1
    obtain ⟨z, hz, _, hw⟩ := DataW.trod_int he h1
    rw [hc, Nat.mul_one] at hz
    refine ⟨z, ?_, hw⟩
    have := take_one hz
    simpa [Value.cells] using this
  have hall : ∀ u ∈ cs.toList, ∃ z, u = Value.int k z ∧ (Lit.int k z).wf = true := by
    intro u hu
    obtain ⟨i, hi, e⟩ := List.mem_iff_getElem.1 hu
    obtain ⟨z, h1, h2⟩ := each i (by rw [← hn, ← hs]; simpa using hi)
    refine ⟨z, ?_, h2⟩
    rw [← e]
    have : cs[i]? = some cs.toList[i] := by simp
    rw [this] at h1
    exact Option.some.inj h1
  obtain ⟨l, h1, h2⟩ := all_map (Value.int k) cs.toList (fun z => (Lit.int k z).wf = true) hall
  refine ⟨l, ?_, ?_, h2⟩
  · have := congrArg List.length h1
    rw [List.length_map, Array.length_toList, hs, hn] at this
    exact this.symm
  · rw [← h1]
end
end Go.Proofs.YtikimmhkfjaijaaGreat
