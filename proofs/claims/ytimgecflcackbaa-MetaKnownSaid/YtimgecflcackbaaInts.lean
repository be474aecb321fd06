/-
  SLICES OF INTS: read; owned; appended to.
-/
import Derived.Test.YtimgecflcackbaaRows
import Derived.Test.YtimgecflcackbaaOpen
import Derived.Lib.Hide
namespace Go.Proofs.Ytimgecflcackbaa
open Go.RowKit

/-- v is read as the ints zs -/
def InI (w : World) (v : Value) (zs : List Int) : Prop := RdIn w v zs.length (zs.map (.int .i64)) ∧ zs.length ≤ maxLen ∧ ∀ z ∈ zs, (Lit.int .i64 z).wf = true
/-- v owns the ints zs, in a row from block 'base' on -/
def OwI (w : World) (base : Nat) (v : Value) (zs : List Int) : Prop := w.ownsRow base 3 1 v zs.length (zs.map (.int .i64)) ∧ zs.length ≤ maxLen ∧ ∀ z ∈ zs, (Lit.int .i64 z).wf = true

section
variable {w w' : World} {base : Nat} {v : Value} {zs : List Int}
theorem RdIn.of_rd {n : Nat} {xs : List Value} (h : Rd w 1 v n xs) : RdIn w v n xs := by
  rcases Nat.eq_zero_or_pos n with rfl | hp
  · have hx : xs = [] := by simpa using h.1
    subst hx
    rcases h.2 with ⟨rfl, _⟩ | ⟨g, off, c, rfl, _, _⟩
    · exact .inl ⟨_, _, rfl, rfl, rfl⟩
    · exact .inl ⟨_, _, rfl, rfl, rfl⟩
  · exact .inr ⟨hp, h⟩
theorem OwI.rd (h : OwI w base v zs) : InI w v zs := ⟨.of_rd (Rd.of_own h.1), h.2⟩
theorem RdIn.keep' {n : Nat} {xs : List Value} (h : RdIn w v n xs) (hb : Below w.heap.size w w') : RdIn w' v n xs := by
  rcases h with h | ⟨hp, h⟩
  · exact .inl h
  · exact .inr ⟨hp, h.keep hb⟩
theorem InI.keep (h : InI w v zs) (hb : Below w.heap.size w w') : InI w' v zs := ⟨h.1.keep' hb, h.2⟩
theorem OwI.keep (h : OwI w base v zs) (hb : Below w.heap.size w w') : OwI w' base v zs := by
  refine ⟨⟨h.1.1, ?_⟩, h.2⟩
  rcases h.1.2 with hn | ⟨g, cap, cur, rfl, hg, hh, rest⟩
  · exact .inl hn
  · exact .inr ⟨g, cap, cur, rfl, hg, (hb.block g (lt_of_block hh)).trans hh, rest⟩
theorem OwI.grown {row : Option Nat} (h : OwI w base v zs) (hg : w.grownBy w' row) (hr : v.ownBlock = none ∨ v.ownBlock ≠ row) : OwI w' base v zs := ⟨h.1.kept hg hr, h.2⟩
theorem OwI.nil_ (w : World) (base : Nat) : OwI w base (.slice none 0 0) [] := ⟨World.ownsRow_nil _ _ _ _, by simp, by simp⟩
theorem OwI.mono {base' : Nat} (h : OwI w base v zs) (hb : base' ≤ base) : OwI w base' v zs := by
  refine ⟨⟨h.1.1, ?_⟩, h.2⟩
  rcases h.1.2 with hn | ⟨g, cap, cur, rfl, hg, rest⟩
  · exact .inl hn
  · exact .inr ⟨g, cap, cur, rfl, Nat.le_trans hb hg, rest⟩
/-- its address and room, and its cells -/
theorem InI.open_ (h : InI w v zs) : ∃ a c, v = .slice a zs.length c ∧ (zs.length = 0 ∨ zs.length ≤ c) ∧ ∀ j, j < zs.length → ∃ g off, a = some ⟨g, off, none⟩ ∧ w.cell? ⟨g, off + j, none⟩ = some (.int .i64 (zs.getD j 0)) := by
  have each : ∀ j, j < zs.length → (zs.map (Value.int .i64))[j]? = some (.int .i64 (zs.getD j 0)) := fun j hj => by simp [hj]
  rcases h.1 with ⟨a, c, rfl, h0, hx⟩ | ⟨hp, _, ⟨rfl, h0⟩ | ⟨g, off, c, rfl, hc, hx⟩⟩
  · exact ⟨a, c, by rw [h0], .inl h0, fun j hj => by omega⟩
  · omega
  · exact ⟨_, c, rfl, .inr hc, fun j hj => ⟨g, off, rfl, hx j _ (each j hj)⟩⟩
theorem InI.wf (h : InI w v zs) (j : Nat) : (Lit.int .i64 (zs.getD j 0)).wf = true := by
  rcases Nat.lt_or_ge j zs.length with q | q
  · simp [q]; exact h.2.2 _ (List.getElem_mem q)
  · rw [show zs.getD j 0 = 0 from by simp [List.getElem?_eq_none q]]; rfl
theorem wf_range {z : Int} (h : (Lit.int .i64 z).wf = true) : -9223372036854775808 ≤ z ∧ z ≤ 9223372036854775807 := by
  simp [Lit.wf] at h
  have e1 : IntKind.i64.min = -9223372036854775808 := by decide
  have e2 : IntKind.i64.max = 9223372036854775807 := by decide
  omega
end
theorem eq_of_getD {xs ys : List Int} (hl : xs.length = ys.length) (h : ∀ j, j < xs.length → xs.getD j 0 = ys.getD j 0) : xs = ys := by
  apply List.ext_getElem hl
  intro i h1 h2
  have := h i h1
  simpa [h1, h2] using this

/-- the element type's row of the table -/
theorem int_info : (Try.prog.info? 3).map (fun i => (i.zero, i.size, i.bytes)) = some (some (.int .i64 0), 1, 8) := by kernel_rfl
/-- what an append leaves -/
def AppI (w : World) (base : Nat) (v : Value) (zs : List Int) (v' : Value) (w' : World) : Prop := OwI w' base v' zs ∧ w.grownBy w' v.ownBlock ∧ (v'.ownBlock = v.ownBlock ∨ ∃ g, v'.ownBlock = some g ∧ w.heap.size ≤ g)
theorem AppI.below {w w' : World} {base : Nat} {v v' : Value} {xs zs : List Int} (h : AppI w base v zs v' w') (ho : OwI w base v xs) (hb : base ≤ w.heap.size) : Below base w w' := below_grown h.2.1 hb (own_block ho.1)
/-- append, onto what is owned, of what is read -/
theorem app_ints {w : World} {base : Nat} {v u : Value} {xs ys : List Int} (ty : TypeId) (ho : OwI w base v xs) (hu : InI w u ys) (hn : xs.length + ys.length ≤ 2 ^ 40) (hbase : base ≤ w.heap.size) :
    ∃ v' w', (Builtin.append_ #[22, 22] ty #[v, u]).run Try.prog w = .ok v' w' ∧ AppI w base v (xs ++ ys) v' w' := by
  obtain ⟨i, hi, hz0, hz1, hz2⟩ := info_parts int_info
  have hwf : ∀ z ∈ xs ++ ys, (Lit.int .i64 z).wf = true := fun z hz => by
    rcases List.mem_append.1 hz with hz | hz
    · exact ho.2.2 z hz
    · exact hu.2.2 z hz
  have hml : (xs ++ ys).length ≤ maxLen := by rw [List.length_append]; unfold maxLen; omega
  have fin : ∀ {m : Nat} {zs : List Value} {v' : Value} {w' : World}, m = ys.length → zs = ys.map (.int .i64) → Appended w base 3 1 v (xs.length + m) (xs.map (.int .i64) ++ zs) v' w' →
      AppI w base v (xs ++ ys) v' w' := by
    rintro m zs v' w' rfl rfl ⟨h1, h2, h3⟩
    exact ⟨⟨by simpa using h1, hml, hwf⟩, h2, h3.imp id fun h => ⟨_, h, Nat.le_refl _⟩⟩
  rcases hu.1 with ⟨a, c, rfl, h0, hx⟩ | ⟨hp, hr⟩
  · obtain rfl : ys = [] := List.length_eq_zero_iff.1 h0
    have hr : (Builtin.append_ #[22, 22] ty #[v, .slice a 0 c]).run Try.prog w = .ok v w := by
      rcases ho.1.2 with ⟨rfl, _⟩ | ⟨g, cap, cur, rfl, _, _, hcap, _, _, _⟩
      · cases a <;> simp [Builtin.append_, run_underlying Try.underlying22, sizeOf, typeInfo, hi, Builtin.lenOf, Builtin.firstCells, loadCells, loadCellsFrom]
      · cases a <;> simp [Builtin.append_, run_underlying Try.underlying22, sizeOf, typeInfo, hi, Builtin.lenOf, Builtin.firstCells, loadCells, loadCellsFrom, hcap, storeCells]
    exact ⟨v, w, hr, by simpa using ho, grownBy_refl _ _, .inl rfl⟩
  · obtain ⟨v', w', h1, h2⟩ := app_own w base 22 ty 3 i (.int .i64 0) 1 8 Try.underlying22 hi hz0 hz1 hz2 rfl (by decide) ho.1 hr (ints_oneCell .i64 ys) (by unfold maxLen; omega) (by omega) hbase
    exact ⟨v', w', h1, fin rfl rfl h2⟩
/-- .. of one more -/
theorem app_int {w : World} {base : Nat} {v : Value} {xs : List Int} (ty : TypeId) (x : Int) (ho : OwI w base v xs) (hx : (Lit.int .i64 x).wf = true) (hn : xs.length + 1 ≤ 2 ^ 40) (hbase : base ≤ w.heap.size) :
    ∃ v' w', (Builtin.append_ #[22, 22] ty #[v, .slice (some ⟨w.heap.size, 0, none⟩) 1 1]).run Try.prog (w.alloc (.cells #[.int .i64 x] 3)) = .ok v' w' ∧ AppI w base v (xs ++ [x]) v' w' := by
  have ho' : OwI (w.alloc (.cells #[.int .i64 x] 3)) base v xs := ⟨ho.1.alloc _, ho.2⟩
  have hu : InI (w.alloc (.cells #[.int .i64 x] 3)) (.slice (some ⟨w.heap.size, 0, none⟩) 1 1) [x] := by
    have := own_new w w.heap.size 3 #[.int .i64 x] 1 1 rfl (Nat.le_refl _) (by decide)
    exact ⟨.of_rd (Rd.of_own this), by unfold maxLen; simp, by simpa using hx⟩
  obtain ⟨v', w', h1, h2, h3, h4⟩ := app_ints ty ho' hu (by simpa using hn) (by simp; omega)
  refine ⟨v', w', h1, h2, (World.grownBy_alloc w _ _).trans h3, ?_⟩
  rcases h4 with h4 | h4
  · exact .inl h4
  · obtain ⟨g, h5, h6⟩ := h4
    exact .inr ⟨g, h5, Nat.le_trans (by simp) h6⟩
/-- an owned slice that has elements: its block -/
theorem OwI.block {w : World} {base : Nat} {v : Value} {zs : List Int} (h : OwI w base v zs) (hn : 0 < zs.length) :
    ∃ g cap, v = .slice (some ⟨g, 0, none⟩) zs.length cap ∧ base ≤ g ∧ g < w.heap.size ∧ (∀ j, w.frozen? ⟨g, j, none⟩ = false) ∧ ∀ j, j < zs.length → w.cell? ⟨g, j, none⟩ = some (.int .i64 (zs.getD j 0)) := by
  rcases h.1.2 with ⟨rfl, h0⟩ | ⟨g, cap, cur, rfl, hg, hh, _⟩
  · omega
  · refine ⟨g, cap, rfl, hg, lt_of_block hh, fun j => h.1.frozenAt j, fun j hj => ?_⟩
    rw [h.1.cellAt j (by omega)]
    simp [hj]
theorem OwI.set {w : World} {base g cap : Nat} {zs : List Int} {n : Nat} (h : OwI w base (.slice (some ⟨g, 0, none⟩) n cap) zs) (j : Nat) (x : Int) (hx : (Lit.int .i64 x).wf = true) :
    OwI (w.setCell ⟨g, j, none⟩ (.int .i64 x)) base (.slice (some ⟨g, 0, none⟩) n cap) (zs.set j x) := by
  have hn : n = zs.length := by
    rcases h.1.2 with ⟨h1, _⟩ | ⟨_, _, _, h1, _⟩
    · cases h1
    · simp only [Value.slice.injEq] at h1
      exact h1.2.1
  subst hn
  refine ⟨?_, by rw [List.length_set]; exact h.2.1, fun z hz => ?_⟩
  · have := (h.1.stored j (.int .i64 x)).1
    rw [List.length_set, List.map_set]
    exact this
  · rcases List.mem_or_eq_of_mem_set hz with hz | rfl
    · exact h.2.2 z hz
    · exact hx
end Go.Proofs.Ytimgecflcackbaa
