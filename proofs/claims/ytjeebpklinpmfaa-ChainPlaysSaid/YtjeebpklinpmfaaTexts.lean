/-
  SLICES OF TEXTS: read; owned; appended to.
-/
import Derived.Test.YtjeebpklinpmfaaRows
import Derived.Test.YtjeebpklinpmfaaOpen
import Derived.Lib.Hide
namespace Go.Proofs.Ytjeebpklinpmfaa
open Go.RowKit

/-- v is read as the ints zs -/
def InT (w : World) (v : Value) (zs : List ByteArray) : Prop := RdIn w v zs.length (zs.map Value.string) ∧ zs.length ≤ maxLen ∧ ∀ z ∈ zs, z.size ≤ maxLen
/-- v owns the ints zs, in a row from block 'base' on -/
def OwT (w : World) (base : Nat) (v : Value) (zs : List ByteArray) : Prop := w.ownsRow base 9 1 v zs.length (zs.map Value.string) ∧ zs.length ≤ maxLen ∧ ∀ z ∈ zs, z.size ≤ maxLen

section
variable {w w' : World} {base : Nat} {v : Value} {zs : List ByteArray}
theorem RdIn.of_rd {n : Nat} {xs : List Value} (h : Rd w 1 v n xs) : RdIn w v n xs := by
  rcases Nat.eq_zero_or_pos n with rfl | hp
  · have hx : xs = [] := by simpa using h.1
    subst hx
    rcases h.2 with ⟨rfl, _⟩ | ⟨g, off, c, rfl, _, _⟩
    · exact .inl ⟨_, _, rfl, rfl, rfl⟩
    · exact .inl ⟨_, _, rfl, rfl, rfl⟩
  · exact .inr ⟨hp, h⟩
theorem OwT.rd (h : OwT w base v zs) : InT w v zs := ⟨.of_rd (Rd.of_own h.1), h.2⟩
theorem RdIn.keep' {n : Nat} {xs : List Value} (h : RdIn w v n xs) (hb : Below w.heap.size w w') : RdIn w' v n xs := by
  rcases h with h | ⟨hp, h⟩
  · exact .inl h
  · exact .inr ⟨hp, h.keep hb⟩
theorem InT.keep (h : InT w v zs) (hb : Below w.heap.size w w') : InT w' v zs := ⟨h.1.keep' hb, h.2⟩
theorem OwT.keep (h : OwT w base v zs) (hb : Below w.heap.size w w') : OwT w' base v zs := by
  refine ⟨⟨h.1.1, ?_⟩, h.2⟩
  rcases h.1.2 with hn | ⟨g, cap, cur, rfl, hg, hh, rest⟩
  · exact .inl hn
  · exact .inr ⟨g, cap, cur, rfl, hg, (hb.block g (lt_of_block hh)).trans hh, rest⟩
theorem OwT.grown {row : Option Nat} (h : OwT w base v zs) (hg : w.grownBy w' row) (hr : v.ownBlock = none ∨ v.ownBlock ≠ row) : OwT w' base v zs := ⟨h.1.kept hg hr, h.2⟩
theorem OwT.nil_ (w : World) (base : Nat) : OwT w base (.slice none 0 0) [] := ⟨World.ownsRow_nil _ _ _ _, by simp, by simp⟩
theorem OwT.mono {base' : Nat} (h : OwT w base v zs) (hb : base' ≤ base) : OwT w base' v zs := by
  refine ⟨⟨h.1.1, ?_⟩, h.2⟩
  rcases h.1.2 with hn | ⟨g, cap, cur, rfl, hg, rest⟩
  · exact .inl hn
  · exact .inr ⟨g, cap, cur, rfl, Nat.le_trans hb hg, rest⟩
/-- its address and room, and its cells -/
theorem InT.open_ (h : InT w v zs) : ∃ a c, v = .slice a zs.length c ∧ (zs.length = 0 ∨ zs.length ≤ c) ∧ ∀ j, j < zs.length → ∃ g off, a = some ⟨g, off, none⟩ ∧ w.cell? ⟨g, off + j, none⟩ = some (.string (zs.getD j ByteArray.empty)) := by
  have each : ∀ j, j < zs.length → (zs.map (Value.string))[j]? = some (.string (zs.getD j ByteArray.empty)) := fun j hj => by simp [hj]
  rcases h.1 with ⟨a, c, rfl, h0, hx⟩ | ⟨hp, _, ⟨rfl, h0⟩ | ⟨g, off, c, rfl, hc, hx⟩⟩
  · exact ⟨a, c, by rw [h0], .inl h0, fun j hj => by omega⟩
  · omega
  · exact ⟨_, c, rfl, .inr hc, fun j hj => ⟨g, off, rfl, hx j _ (each j hj)⟩⟩
end
theorem texts_one (l : List ByteArray) : ∀ v ∈ l.map Value.string, v.oneCell' = true := by
  intro v hv
  obtain ⟨y, _, rfl⟩ := List.mem_map.1 hv
  rfl
/-- the element type's row of the table -/
theorem text_info : (Try.prog.info? 9).map (fun i => (i.zero, i.size, i.bytes)) = some (some (.string ByteArray.empty), 1, 16) := by kernel_rfl
/-- what an append leaves -/
def AppT (w : World) (base : Nat) (v : Value) (zs : List ByteArray) (v' : Value) (w' : World) : Prop := OwT w' base v' zs ∧ w.grownBy w' v.ownBlock ∧ (v'.ownBlock = v.ownBlock ∨ ∃ g, v'.ownBlock = some g ∧ w.heap.size ≤ g)
theorem AppT.below {w w' : World} {base : Nat} {v v' : Value} {xs zs : List ByteArray} (h : AppT w base v zs v' w') (ho : OwT w base v xs) (hb : base ≤ w.heap.size) : Below base w w' := below_grown h.2.1 hb (own_block ho.1)
/-- append, onto what is owned, of what is read -/
theorem app_texts {w : World} {base : Nat} {v u : Value} {xs ys : List ByteArray} (ty : TypeId) (ho : OwT w base v xs) (hu : InT w u ys) (hn : xs.length + ys.length ≤ 2 ^ 40) (hbase : base ≤ w.heap.size) :
    ∃ v' w', (Builtin.append_ #[35, 35] ty #[v, u]).run Try.prog w = .ok v' w' ∧ AppT w base v (xs ++ ys) v' w' := by
  obtain ⟨i, hi, hz0, hz1, hz2⟩ := info_parts text_info
  have hwf : ∀ z ∈ xs ++ ys, z.size ≤ maxLen := fun z hz => by
    rcases List.mem_append.1 hz with hz | hz
    · exact ho.2.2 z hz
    · exact hu.2.2 z hz
  have hml : (xs ++ ys).length ≤ maxLen := by rw [List.length_append]; unfold maxLen; omega
  have fin : ∀ {m : Nat} {zs : List Value} {v' : Value} {w' : World}, m = ys.length → zs = ys.map Value.string → Appended w base 9 1 v (xs.length + m) (xs.map Value.string ++ zs) v' w' →
      AppT w base v (xs ++ ys) v' w' := by
    rintro m zs v' w' rfl rfl ⟨h1, h2, h3⟩
    exact ⟨⟨by simpa using h1, hml, hwf⟩, h2, h3.imp id fun h => ⟨_, h, Nat.le_refl _⟩⟩
  rcases hu.1 with ⟨a, c, rfl, h0, hx⟩ | ⟨hp, hr⟩
  · obtain rfl : ys = [] := List.length_eq_zero_iff.1 h0
    have hr : (Builtin.append_ #[35, 35] ty #[v, .slice a 0 c]).run Try.prog w = .ok v w := by
      rcases ho.1.2 with ⟨rfl, _⟩ | ⟨g, cap, cur, rfl, _, _, hcap, _, _, _⟩
      · cases a <;> simp [Builtin.append_, run_underlying Try.underlying35, sizeOf, typeInfo, hi, Builtin.lenOf, Builtin.firstCells, loadCells, loadCellsFrom]
      · cases a <;> simp [Builtin.append_, run_underlying Try.underlying35, sizeOf, typeInfo, hi, Builtin.lenOf, Builtin.firstCells, loadCells, loadCellsFrom, hcap, storeCells]
    exact ⟨v, w, hr, by simpa using ho, grownBy_refl _ _, .inl rfl⟩
  · obtain ⟨v', w', h1, h2⟩ := app_own w base 35 ty 9 i (.string ByteArray.empty) 1 16 Try.underlying35 hi hz0 hz1 hz2 rfl (by decide) ho.1 hr (texts_one ys) (by unfold maxLen; omega) (by omega) hbase
    exact ⟨v', w', h1, fin rfl rfl h2⟩
/-- .. of one more -/
theorem app_text {w : World} {base : Nat} {v : Value} {xs : List ByteArray} (ty : TypeId) (x : ByteArray) (ho : OwT w base v xs) (hx : x.size ≤ maxLen) (hn : xs.length + 1 ≤ 2 ^ 40) (hbase : base ≤ w.heap.size) :
    ∃ v' w', (Builtin.append_ #[35, 35] ty #[v, .slice (some ⟨w.heap.size, 0, none⟩) 1 1]).run Try.prog (w.alloc (.cells #[.string x] 9)) = .ok v' w' ∧ AppT w base v (xs ++ [x]) v' w' := by
  have ho' : OwT (w.alloc (.cells #[.string x] 9)) base v xs := ⟨ho.1.alloc _, ho.2⟩
  have hu : InT (w.alloc (.cells #[.string x] 9)) (.slice (some ⟨w.heap.size, 0, none⟩) 1 1) [x] := by
    have := own_new w w.heap.size 9 #[.string x] 1 1 rfl (Nat.le_refl _) (by decide)
    exact ⟨.of_rd (Rd.of_own this), by unfold maxLen; simp, by simpa using hx⟩
  obtain ⟨v', w', h1, h2, h3, h4⟩ := app_texts ty ho' hu (by simpa using hn) (by simp; omega)
  refine ⟨v', w', h1, h2, (World.grownBy_alloc w _ _).trans h3, ?_⟩
  rcases h4 with h4 | h4
  · exact .inl h4
  · obtain ⟨g, h5, h6⟩ := h4
    exact .inr ⟨g, h5, Nat.le_trans (by simp) h6⟩
/-- an owned slice that has elements: its block -/
theorem OwT.block {w : World} {base : Nat} {v : Value} {zs : List ByteArray} (h : OwT w base v zs) (hn : 0 < zs.length) :
    ∃ g cap, v = .slice (some ⟨g, 0, none⟩) zs.length cap ∧ base ≤ g ∧ g < w.heap.size ∧ (∀ j, w.frozen? ⟨g, j, none⟩ = false) ∧ ∀ j, j < zs.length → w.cell? ⟨g, j, none⟩ = some (.string (zs.getD j ByteArray.empty)) := by
  rcases h.1.2 with ⟨rfl, h0⟩ | ⟨g, cap, cur, rfl, hg, hh, _⟩
  · omega
  · refine ⟨g, cap, rfl, hg, lt_of_block hh, fun j => h.1.frozenAt j, fun j hj => ?_⟩
    rw [h.1.cellAt j (by omega)]
    simp [hj]
theorem OwT.set {w : World} {base g cap : Nat} {zs : List ByteArray} {n : Nat} (h : OwT w base (.slice (some ⟨g, 0, none⟩) n cap) zs) (j : Nat) (x : ByteArray) (hx : x.size ≤ maxLen) :
    OwT (w.setCell ⟨g, j, none⟩ (.string x)) base (.slice (some ⟨g, 0, none⟩) n cap) (zs.set j x) := by
  have hn : n = zs.length := by
    rcases h.1.2 with ⟨h1, _⟩ | ⟨_, _, _, h1, _⟩
    · cases h1
    · simp only [Value.slice.injEq] at h1
      exact h1.2.1
  subst hn
  refine ⟨?_, by rw [List.length_set]; exact h.2.1, fun z hz => ?_⟩
  · have := (h.1.stored j (.string x)).1
    rw [List.length_set, List.map_set]
    exact this
  · rcases List.mem_or_eq_of_mem_set hz with hz | rfl
    · exact h.2.2 z hz
    · exact hx
end Go.Proofs.Ytjeebpklinpmfaa
