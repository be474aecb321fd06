/-
  GUIDS, AND SLICES OF THEM: read; owned; appended to; compared.
-/
import Derived.Test.YtikimmhkfjaijaaRows
import Derived.Test.YtikimmhkfjaijaaSlice
import Derived.Lib.Hide
import Derived.Laws.StructEq
namespace Go.Proofs.Ytikimmhkfjaijaa
open Go.RowKit

/-- a guid: its epoch, its count -/
abbrev Gd := Int × Int
def wfG (g : Gd) : Prop := (Lit.int .u64 g.1).wf = true ∧ (Lit.int .u64 g.2).wf = true
def cellsG (gs : List Gd) : List Value := gs.flatMap fun g => [.int .u64 g.1, .int .u64 g.2]
def aggG (g : Gd) : Value := .agg #[.int .u64 g.1, .int .u64 g.2]
theorem cellsG_length (gs : List Gd) : (cellsG gs).length = gs.length * 2 := by
  induction gs with
  | nil => rfl
  | cons g gs ih => simp only [cellsG, List.flatMap_cons, List.length_append, List.length_cons, List.length_nil] at ih ⊢; omega
theorem cellsG_append (gs hs : List Gd) : cellsG (gs ++ hs) = cellsG gs ++ cellsG hs := by simp [cellsG]
theorem cellsG_at (gs : List Gd) : ∀ j, j < gs.length → (cellsG gs)[j * 2]? = some (.int .u64 (gs.getD j (0, 0)).1) ∧ (cellsG gs)[j * 2 + 1]? = some (.int .u64 (gs.getD j (0, 0)).2) := by
  induction gs with
  | nil => intro j hj; simp at hj
  | cons g gs ih =>
    intro j hj
    have e : cellsG (g :: gs) = .int .u64 g.1 :: .int .u64 g.2 :: cellsG gs := rfl
    rw [e]
    cases j with
    | zero => exact ⟨rfl, rfl⟩
    | succ j =>
      have h1 := ih j (by simpa using hj)
      have e1 : (j + 1) * 2 = j * 2 + 2 := by omega
      rw [e1]
      exact h1
theorem cellsG_one (gs : List Gd) : ∀ u ∈ cellsG gs, u.oneCell' = true := by
  intro u hu
  simp only [cellsG, List.mem_flatMap] at hu
  obtain ⟨g, _, hu⟩ := hu
  simp at hu
  rcases hu with rfl | rfl <;> rfl
theorem cellsG_take (gs : List Gd) (m : Nat) : (cellsG gs).take (m * 2) = cellsG (gs.take m) := by
  induction gs generalizing m with
  | nil => simp [cellsG]
  | cons g gs ih =>
    cases m with
    | zero => simp [cellsG]
    | succ m =>
      have e : (m + 1) * 2 = m * 2 + 2 := by omega
      have e1 : ∀ l, cellsG (g :: l) = .int .u64 g.1 :: .int .u64 g.2 :: cellsG l := fun _ => rfl
      rw [e, List.take_succ_cons, e1, e1, List.take_succ_cons, List.take_succ_cons, ih]
theorem cellsG_drop (gs : List Gd) (m : Nat) : (cellsG gs).drop (m * 2) = cellsG (gs.drop m) := by
  induction gs generalizing m with
  | nil => simp [cellsG]
  | cons g gs ih =>
    cases m with
    | zero => simp
    | succ m =>
      have e : (m + 1) * 2 = m * 2 + 2 := by omega
      have e1 : ∀ l, cellsG (g :: l) = .int .u64 g.1 :: .int .u64 g.2 :: cellsG l := fun _ => rfl
      rw [e, List.drop_succ_cons, e1, List.drop_succ_cons, List.drop_succ_cons, ih]

/-- v is read as the guids gs -/
def InG (w : World) (v : Value) (gs : List Gd) : Prop :=
  (∃ a c, v = .slice a gs.length c ∧ (gs = [] ∨ (gs.length ≤ c ∧ ∃ g off, a = some ⟨g, off, none⟩ ∧ ∀ j u, (cellsG gs)[j]? = some u → w.cell? ⟨g, off + j, none⟩ = some u))) ∧ gs.length ≤ maxLen ∧ ∀ g ∈ gs, wfG g
/-- v owns them, from block 'base' on -/
def OwG (w : World) (base : Nat) (v : Value) (gs : List Gd) : Prop := w.ownsRow base 28 2 v gs.length (cellsG gs) ∧ gs.length ≤ maxLen ∧ ∀ g ∈ gs, wfG g
section
variable {w w' : World} {base : Nat} {v : Value} {gs : List Gd}
theorem InG.of_rd (h : Rd w 2 v gs.length (cellsG gs)) (h1 : gs.length ≤ maxLen) (h2 : ∀ g ∈ gs, wfG g) : InG w v gs := by
  refine ⟨?_, h1, h2⟩
  rcases h.2 with ⟨rfl, h0⟩ | ⟨g, off, c, rfl, hc, hx⟩
  · exact ⟨none, 0, by rw [h0], .inl (List.length_eq_zero_iff.1 h0)⟩
  · exact ⟨_, c, rfl, .inr ⟨hc, g, off, rfl, hx⟩⟩
theorem InG.rd (h : InG w v gs) (hp : 0 < gs.length) : Rd w 2 v gs.length (cellsG gs) := by
  obtain ⟨⟨a, c, rfl, h0 | ⟨hc, g, off, rfl, hx⟩⟩, _⟩ := h
  · subst h0; simp at hp
  · exact ⟨cellsG_length _, .inr ⟨g, off, c, rfl, hc, hx⟩⟩
theorem OwG.rd (h : OwG w base v gs) : InG w v gs := .of_rd (Rd.of_own h.1) h.2.1 h.2.2
theorem InG.keep (h : InG w v gs) (hb : Below w.heap.size w w') : InG w' v gs := by
  obtain ⟨⟨a, c, rfl, h0 | ⟨hc, g, off, rfl, hx⟩⟩, h1, h2⟩ := h
  · exact ⟨⟨a, c, rfl, .inl h0⟩, h1, h2⟩
  · exact ⟨⟨_, c, rfl, .inr ⟨hc, g, off, rfl, fun j u hu => cell_later hb (hx j u hu)⟩⟩, h1, h2⟩
theorem InG.nil_ (w : World) : InG w (.slice none 0 0) [] := ⟨⟨none, 0, rfl, .inl rfl⟩, by simp, by simp⟩
theorem OwG.nil_ (w : World) (base : Nat) : OwG w base (.slice none 0 0) [] := ⟨World.ownsRow_nil _ _ _ _, by simp, by simp⟩
theorem OwG.keep (h : OwG w base v gs) (hb : Below w.heap.size w w') : OwG w' base v gs := by
  refine ⟨⟨h.1.1, ?_⟩, h.2⟩
  rcases h.1.2 with hn | ⟨g, cap, cur, rfl, hg, hh, rest⟩
  · exact .inl hn
  · exact .inr ⟨g, cap, cur, rfl, hg, (hb.block g (lt_of_block hh)).trans hh, rest⟩
/-- its address and room, and its cells -/
theorem InG.open_ (h : InG w v gs) : ∃ a c, v = .slice a gs.length c ∧ (gs.length = 0 ∨ gs.length ≤ c) ∧
    ∀ j, j < gs.length → ∃ g off, a = some ⟨g, off, none⟩ ∧ w.cell? ⟨g, off + j * 2, none⟩ = some (.int .u64 (gs.getD j (0, 0)).1) ∧ w.cell? ⟨g, off + j * 2 + 1, none⟩ = some (.int .u64 (gs.getD j (0, 0)).2) := by
  obtain ⟨⟨a, c, rfl, h0 | ⟨hc, g, off, rfl, hx⟩⟩, _⟩ := h
  · subst h0; exact ⟨a, c, rfl, .inl rfl, fun j hj => by simp at hj⟩
  · exact ⟨_, c, rfl, .inr hc, fun j hj => ⟨g, off, rfl, hx _ _ (cellsG_at gs j hj).1, by rw [Nat.add_assoc]; exact hx _ _ (cellsG_at gs j hj).2⟩⟩
theorem InG.wf (h : InG w v gs) (j : Nat) : wfG (gs.getD j (0, 0)) := by
  rcases Nat.lt_or_ge j gs.length with q | q
  · simp [q]; exact h.2.2 _ (List.getElem_mem q)
  · rw [show gs.getD j (0, 0) = (0, 0) from by simp [List.getElem?_eq_none q]]; exact ⟨rfl, rfl⟩
/-- a slice that has just been laid -/
theorem InG.litAt (w : World) (gs : List Gd) (cs : Array Value) (g : Nat) (hg : w.heap.size = g) (hc : cs = (cellsG gs).toArray) (h1 : gs.length ≤ 1000) (hw : ∀ g ∈ gs, wfG g) :
    InG (w.alloc (.cells cs 28)) (.slice (some ⟨g, 0, none⟩) gs.length gs.length) gs := by
  subst hg
  subst hc
  refine .of_rd (Rd.of_own (own_new w w.heap.size 28 (cellsG gs).toArray 2 gs.length (by simpa using cellsG_length gs) (Nat.le_refl _) (by unfold maxLen; omega))) (by unfold maxLen; omega) hw
end
theorem eqG_of_getD {xs ys : List Gd} (hl : xs.length = ys.length) (h : ∀ j, j < xs.length → xs.getD j (0, 0) = ys.getD j (0, 0)) : xs = ys := by
  apply List.ext_getElem hl
  intro i h1 h2
  have := h i h1
  simpa [h1, h2] using this
theorem guid_info : (Try.prog.info? 28).map (fun i => (i.zero, i.size, i.bytes)) = some (some (.agg #[.int .u64 0, .int .u64 0]), 2, 16) := by kernel_rfl
/-- what an append leaves -/
def AppG (w : World) (base : Nat) (v : Value) (gs : List Gd) (v' : Value) (w' : World) : Prop := OwG w' base v' gs ∧ w.grownBy w' v.ownBlock ∧ (v'.ownBlock = v.ownBlock ∨ ∃ g, v'.ownBlock = some g ∧ w.heap.size ≤ g)
theorem AppG.below {w w' : World} {base : Nat} {v v' : Value} {xs gs : List Gd} (h : AppG w base v gs v' w') (ho : OwG w base v xs) (hb : base ≤ w.heap.size) : Below base w w' := below_grown h.2.1 hb (own_block ho.1)
theorem app_guids {w : World} {base : Nat} {v u : Value} {xs ys : List Gd} (ty : TypeId) (ho : OwG w base v xs) (hu : InG w u ys) (hn : xs.length + ys.length ≤ 2 ^ 43) (hbase : base ≤ w.heap.size) :
    ∃ v' w', (Builtin.append_ #[24, 24] ty #[v, u]).run Try.prog w = .ok v' w' ∧ AppG w base v (xs ++ ys) v' w' := by
  obtain ⟨i, hi, hz0, hz1, hz2⟩ := info_parts guid_info
  have hwf : ∀ z ∈ xs ++ ys, wfG z := fun z hz => by
    rcases List.mem_append.1 hz with hz | hz
    · exact ho.2.2 z hz
    · exact hu.2.2 z hz
  have hml : (xs ++ ys).length ≤ maxLen := by rw [List.length_append]; unfold maxLen; omega
  rcases Nat.eq_zero_or_pos ys.length with h0 | hp
  · obtain rfl : ys = [] := List.length_eq_zero_iff.1 h0
    obtain ⟨a, c, rfl, _, _⟩ := hu.open_
    have hr : (Builtin.append_ #[24, 24] ty #[v, .slice a 0 c]).run Try.prog w = .ok v w := by
      rcases ho.1.2 with ⟨rfl, _⟩ | ⟨g, cap, cur, rfl, _, _, hcap, _, _, _⟩
      · cases a <;> simp [Builtin.append_, run_underlying Try.underlying24, sizeOf, typeInfo, hi, Builtin.lenOf, Builtin.firstCells, loadCells, loadCellsFrom]
      · cases a <;> simp [Builtin.append_, run_underlying Try.underlying24, sizeOf, typeInfo, hi, Builtin.lenOf, Builtin.firstCells, loadCells, loadCellsFrom, hcap, storeCells]
    exact ⟨v, w, hr, by simpa using ho, grownBy_refl _ _, .inl rfl⟩
  · obtain ⟨v', w', h1, h2, h3, h4⟩ := app_own w base 24 ty 28 i (.agg #[.int .u64 0, .int .u64 0]) 2 16 Try.underlying24 hi hz0 hz1 hz2 rfl (by decide) ho.1 (hu.rd hp) (cellsG_one ys) (by unfold maxLen; omega) (by omega) hbase
    refine ⟨v', w', h1, ⟨?_, hml, hwf⟩, h3, h4.imp id fun h => ⟨_, h, Nat.le_refl _⟩⟩
    rw [List.length_append, cellsG_append]
    exact h2
end Go.Proofs.Ytikimmhkfjaijaa
