/-
  SLICES THAT COME IN, READ.
-/
import Derived.Test.YtikimmhkfjaijaaGreatSlice
import Derived.SliceStrings
import Derived.ChangeOld
import Derived.WideShapes
namespace Go.Proofs.YtikimmhkfjaijaaGreat
open Go.ChangeShapes Go.WideShapes Go.RowKit

/-- What the walk is told of a slice whose elements are one cell each: it is empty, or it has n elements, the cells xs. -/
def RdIn (w : World) (v : Value) (n : Nat) (xs : List Value) : Prop :=
  (∃ a c, v = .slice a 0 c ∧ n = 0 ∧ xs = []) ∨ (0 < n ∧ Rd w 1 v n xs)

section
variable {H : Type} {enc : TypeId × Value → H} {P : Program} {w : World} {base : Nat} {spare : Nat → Bool} {held : Bool} {r : Reach} {b0 : Nat}
theorem open_cells {t e : TypeId} {v : Value} {d : DataW H} {ps : List MemPlace} (ok : Value → Prop) (ht : P.underlying t = some (.slice e)) (hc : P.cellsOf e = 1)
    (he : ∀ n cs y, DataW.trod enc P w base spare held n e cs = some y → ∃ u, cs = [u] ∧ ok u) (hval : Value.okWide P w r b0 t v) (hd : DataW.Trod enc P w base spare held t v d ps) :
    ∃ n xs, RdIn w v n xs ∧ n ≤ maxLen ∧ xs.length = n ∧ ∀ u ∈ xs, ok u := by
  obtain ⟨a0, len0, cap0, rfl⟩ := okWide_slice ht hval
  obtain ⟨fuel, hf⟩ := hd
  rcases DataW.trod_slice ht hf with ⟨h0, _⟩ | ⟨a, len, cap, elems, rest, n, _, h0, _, hb, hl, hm, hlen, hel, _, _⟩
  · simp [Value.cells] at h0
    obtain ⟨rfl, rfl, rfl⟩ := h0
    exact ⟨0, [], .inl ⟨_, _, rfl, rfl, rfl⟩, Nat.zero_le _, rfl, fun u hu => by cases hu⟩
  · simp [Value.cells] at h0
    obtain ⟨rfl, rfl, rfl⟩ := h0
    have each : ∀ i, i < len0 → ∃ u, w.cell? (a.add i) = some u ∧ ok u := by
      intro i hi
      have h1 := hel i hi
      rw [hc, Nat.mul_one, List.getElem?_eq_getElem (by omega), Option.bind_eq_some_iff] at h1
      obtain ⟨cs, hcs, hy⟩ := h1
      obtain ⟨u, rfl, hu⟩ := he _ _ _ hy
      exact ⟨u, cell_of_cells?_one hcs, hu⟩
    rcases Nat.eq_zero_or_pos len0 with rfl | hp
    · exact ⟨0, [], .inl ⟨_, _, rfl, rfl, rfl⟩, Nat.zero_le _, rfl, fun u hu => by cases hu⟩
    · obtain ⟨u0, hu0, _⟩ := each 0 hp
      obtain ⟨b, off, spot⟩ := a
      have hspot : spot = none := by simpa [Addr.add] using World.cell?_spot hu0
      subst hspot
      refine ⟨len0, (List.range len0).map fun i => (w.cell? ⟨b, off + i, none⟩).getD undef, .inr ⟨hp, by simp, .inr ⟨b, off, cap0, rfl, hl, ?_⟩⟩, Nat.le_trans hl hm, by simp, ?_⟩
      · intro j u hu
        rw [List.getElem?_map] at hu
        have hj : j < len0 := by
          rcases Nat.lt_or_ge j len0 with q | q
          · exact q
          · rw [List.getElem?_eq_none (by simpa using q)] at hu; cases hu
        rw [List.getElem?_range hj] at hu
        obtain ⟨u', hu', _⟩ := each j hj
        rw [addr_add] at hu'
        simp only [Option.map_some, hu', Option.getD_some] at hu
        rw [hu', hu]
      · intro u hu
        obtain ⟨j, hj, rfl⟩ := List.mem_map.1 hu
        rw [List.mem_range] at hj
        obtain ⟨u', hu', ho⟩ := each j hj
        rw [addr_add] at hu'
        simp only [hu', Option.getD_some]
        exact ho
/-- the elements, by what they are made of -/
theorem all_map {α : Type} (f : α → Value) (xs : List Value) (ok : α → Prop) (h : ∀ u ∈ xs, ∃ x, u = f x ∧ ok x) : ∃ l : List α, xs = l.map f ∧ ∀ x ∈ l, ok x := by
  induction xs with
  | nil => exact ⟨[], rfl, fun x hx => by cases hx⟩
  | cons u xs ih =>
    obtain ⟨x, rfl, hx⟩ := h u (by simp)
    obtain ⟨l, rfl, hl⟩ := ih (fun u hu => h u (by simp [hu]))
    refine ⟨x :: l, rfl, fun y hy => ?_⟩
    rcases List.mem_cons.1 hy with rfl | hy
    · exact hx
    · exact hl y hy
theorem open_bools {t e : TypeId} {v : Value} {d : DataW H} {ps : List MemPlace} (ht : P.underlying t = some (.slice e)) (hc : P.cellsOf e = 1) (he : P.underlying e = some .bool)
    (hval : Value.okWide P w r b0 t v) (hd : DataW.Trod enc P w base spare held t v d ps) :
    ∃ l : List Bool, RdIn w v l.length (l.map .bool) ∧ l.length ≤ maxLen := by
  obtain ⟨n, xs, h1, h2, h3, h4⟩ := open_cells (fun u => ∃ b, u = .bool b ∧ True) ht hc (fun n cs y hy => by obtain ⟨b, rfl, _⟩ := DataW.trod_bool he hy; exact ⟨_, rfl, b, rfl, trivial⟩) hval hd
  obtain ⟨l, rfl, _⟩ := all_map _ _ _ h4
  rw [List.length_map] at h3
  subst h3
  exact ⟨l, h1, h2⟩
theorem open_nums {t e : TypeId} {k : IntKind} {v : Value} {d : DataW H} {ps : List MemPlace} (ht : P.underlying t = some (.slice e)) (hc : P.cellsOf e = 1) (he : P.underlying e = some (.int k))
    (hval : Value.okWide P w r b0 t v) (hd : DataW.Trod enc P w base spare held t v d ps) :
    ∃ l : List Int, RdIn w v l.length (l.map (.int k)) ∧ l.length ≤ maxLen ∧ ∀ x ∈ l, (Lit.int k x).wf = true := by
  obtain ⟨n, xs, h1, h2, h3, h4⟩ := open_cells (fun u => ∃ x, u = .int k x ∧ (Lit.int k x).wf = true) ht hc (fun n cs y hy => by obtain ⟨b, rfl, _, hw⟩ := DataW.trod_int he hy; exact ⟨_, rfl, b, rfl, hw⟩) hval hd
  obtain ⟨l, rfl, hl⟩ := all_map _ _ _ h4
  rw [List.length_map] at h3
  subst h3
  exact ⟨l, h1, h2, hl⟩
theorem open_texts {t e : TypeId} {v : Value} {d : DataW H} {ps : List MemPlace} (ht : P.underlying t = some (.slice e)) (hc : P.cellsOf e = 1) (he : P.underlying e = some .string)
    (hval : Value.okWide P w r b0 t v) (hd : DataW.Trod enc P w base spare held t v d ps) :
    ∃ l : List ByteArray, RdIn w v l.length (l.map .string) ∧ l.length ≤ maxLen ∧ ∀ s ∈ l, s.size ≤ maxLen := by
  obtain ⟨n, xs, h1, h2, h3, h4⟩ := open_cells (fun u => ∃ x, u = .string x ∧ x.size ≤ maxLen) ht hc (fun n cs y hy => by obtain ⟨b, rfl, _, hw⟩ := DataW.trod_string he hy; exact ⟨_, rfl, b, rfl, hw⟩) hval hd
  obtain ⟨l, rfl, hl⟩ := all_map _ _ _ h4
  rw [List.length_map] at h3
  subst h3
  exact ⟨l, h1, h2, hl⟩
end
end Go.Proofs.YtikimmhkfjaijaaGreat
