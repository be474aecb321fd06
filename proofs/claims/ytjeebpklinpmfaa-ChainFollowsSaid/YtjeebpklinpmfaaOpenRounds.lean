/-
  ROUNDS OF PUTS THAT COME IN, OPENED.
-/
import Derived.Test.YtjeebpklinpmfaaOpenChain
import Derived.Test.YtjeebpklinpmfaaChBackP
namespace Go.Proofs.Ytjeebpklinpmfaa
open Go.ChangeShapes Go.WideShapes Go.RowKit

section
variable {H : Type} {enc : TypeId × Value → H} {w : World} {base : Nat} {spare : Nat → Bool} {held : Bool} {r : Reach} {b0 : Nat} {v : Value} {d : DataW H} {ps : List MemPlace}
set_option maxRecDepth 100000 in
theorem open_rounds (hval : Value.okWide Try.prog w r b0 22 v) (hd : DataW.Trod enc Try.prog w base spare held 22 v d ps) (_ : ∀ n ∈ d.weights Try.prog 22, n ≤ reachBytes) :
    ∃ xs : List (List Pt), InPP w v xs ∧ True := by
  obtain ⟨a0, n0, c0, rfl⟩ := okWide_slice Try.underlying22 hval
  obtain ⟨fuel, hf⟩ := hd
  rcases DataW.trod_slice Try.underlying22 hf with ⟨h0, _⟩ | ⟨a, len, cap, elems, rest, n, _, h0, hx, hb, hl, hm, hlen, hel, _, _⟩
  · simp [Value.cells] at h0
    obtain ⟨rfl, rfl, rfl⟩ := h0
    exact ⟨[], ⟨none, 0, rfl, Nat.zero_le _, fun j hj => by simp at hj⟩, trivial⟩
  · simp [Value.cells] at h0
    obtain ⟨rfl, rfl, rfl⟩ := h0
    rw [show Try.prog.cellsOf 28 = 1 from by kernel_rfl] at hel
    rcases Nat.eq_zero_or_pos n0 with rfl | hp
    · exact ⟨[], ⟨_, c0, rfl, Nat.zero_le _, fun j hj => by simp at hj⟩, trivial⟩
    · have each : ∀ i, i < n0 → ∃ u l, w.cell? (a.add (i * 1)) = some u ∧ InP w u l := by
        intro i hi
        have h1 := hel i hi
        rw [List.getElem?_eq_getElem (by omega), Option.bind_eq_some_iff] at h1
        obtain ⟨ds, hds, hy⟩ := h1
        obtain ⟨u, l, rfl, hl⟩ := open_puts_at hy
        obtain ⟨-, hdl, hdc⟩ := World.cells?_some hds
        have := hdc 0 (by omega)
        exact ⟨u, l, by simpa [Addr.add] using this, hl⟩
      obtain ⟨b, off, spot⟩ := a
      have hspot : spot = none := by
        obtain ⟨u, l, hu, -⟩ := each 0 hp
        simpa [Addr.add] using World.cell?_spot hu
      subst hspot
      have ch : ∀ i : Nat, ∃ p : Value × List Pt, i < n0 → w.cell? ⟨b, off + i, none⟩ = some p.1 ∧ InP w p.1 p.2 := by
        intro i
        by_cases hi : i < n0
        · obtain ⟨u, l, h1, h2⟩ := each i hi
          rw [addr_add, Nat.mul_one] at h1
          exact ⟨(u, l), fun _ => ⟨h1, h2⟩⟩
        · exact ⟨(undef, []), fun h => absurd h hi⟩
      let f : Nat → Value × List Pt := fun i => Classical.choose (ch i)
      have hf : ∀ i, i < n0 → w.cell? ⟨b, off + i, none⟩ = some (f i).1 ∧ InP w (f i).1 (f i).2 := fun i => Classical.choose_spec (ch i)
      have hlen2 : ((List.range n0).map fun i => (f i).2).length = n0 := by simp
      refine ⟨(List.range n0).map fun i => (f i).2, ⟨_, c0, by rw [hlen2], by rw [hlen2]; omega, fun j hj => ?_⟩, trivial⟩
      rw [hlen2] at hj
      have hget : ((List.range n0).map fun i => (f i).2).getD j [] = (f j).2 := by simp [hj]
      rw [hget]
      exact ⟨b, off, (f j).1, rfl, (hf j hj).1, (hf j hj).2⟩
end
end Go.Proofs.Ytjeebpklinpmfaa
