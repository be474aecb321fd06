/-
  LINES AND LISTS OF GUIDS THAT COME IN, OPENED, WHERE WHAT COMES IN IS OF BOUNDED BULK.
-/
import Derived.Test.YtfkgidljgbhccaaOpenLine
import Derived.Test.YtfkgidljgbhccaaRows
namespace Go.Proofs.Ytfkgidljgbhccaa
open Go.ChangeShapes Go.WideShapes Go.RowKit

theorem bulk_one {H : Type} (d : DataW H) : 1 ≤ Rows.uptoBulk d := by
  cases d with
  | lit l => cases l <;> simp [Rows.uptoBulk]
  | nil => simp [Rows.uptoBulk]
  | ptr d => simp [Rows.uptoBulk]
  | slice elems spare => simp [Rows.uptoBulk]
  | agg parts => simp [Rows.uptoBulk]
  | iface t d => simp [Rows.uptoBulk]
  | map entries => simp [Rows.uptoBulk]
  | held h => simp [Rows.uptoBulk]
theorem bulk_len {H : Type} (l : List (DataW H)) : l.length ≤ Rows.uptoBulkAll l := by
  induction l with
  | nil => simp [Rows.uptoBulkAll]
  | cons x r ih => have := bulk_one x; simp only [Rows.uptoBulkAll, List.length_cons]; omega
theorem bulk_mem {H : Type} {d : DataW H} {l : List (DataW H)} (h : d ∈ l) : Rows.uptoBulk d ≤ Rows.uptoBulkAll l := by
  induction l with
  | nil => cases h
  | cons x r ih =>
    simp only [Rows.uptoBulkAll]
    cases List.mem_cons.1 h with
    | inl e => subst e; omega
    | inr e => have := ih e; omega
theorem bulk_at {H : Type} {l : List (DataW H)} (hk : Rows.uptoSmall H l = true) {d : DataW H} (h : d ∈ l) : Rows.uptoBulk d ≤ 1048576 :=
  Nat.le_trans (bulk_mem h) (of_decide_eq_true hk)
section
variable {H : Type} {enc : TypeId × Value → H} {w : World} {base : Nat} {spare : Nat → Bool} {held : Bool} {fuel : Nat} {cs : List Value} {x : DataW H × List MemPlace}
theorem open_guids_up (h : DataW.trod enc Try.prog w base spare held fuel 23 cs = some x) : ∃ u gs, cs = [u] ∧ InG w u gs ∧ gs.length ≤ Rows.uptoBulk x.1 := by
  obtain ⟨u, gs, rfl, hg, _⟩ := open_guids_at h
  obtain ⟨a, c, rfl, -, -⟩ := hg.open_
  refine ⟨_, gs, rfl, hg, ?_⟩
  rcases DataW.trod_slice Try.underlying23 h with ⟨h0, _⟩ | ⟨a', len, cap, elems, rest, n, _, h0, hx, _, _, _, hlen, _, _, _⟩
  · simp only [List.cons.injEq, Value.slice.injEq, and_true] at h0
    rw [h0.2.1]
    exact Nat.zero_le _
  · simp only [List.cons.injEq, Value.slice.injEq, and_true] at h0
    rw [h0.2.1, hx]
    have := bulk_len (elems.map (·.1))
    rw [List.length_map] at this
    simp only [Rows.uptoBulk]
    omega
end
section
variable {H : Type} {enc : TypeId × Value → H} {w : World} {base : Nat} {spare : Nat → Bool} {held : Bool} {r : Reach} {b0 : Nat} {v : Value} {d : DataW H} {ps : List MemPlace}
theorem open_list_up (hval : Value.okWide Try.prog w r b0 23 v) (hd : DataW.Trod enc Try.prog w base spare held 23 v d ps) (hw : Rows.uptoBulk d ≤ 1048576) :
    ∃ gs : List Gd, InG w v gs ∧ gs.length ≤ 2 ^ 20 := by
  obtain ⟨a, n, c, rfl⟩ := okWide_slice Try.underlying23 hval
  obtain ⟨fuel, hf⟩ := hd
  obtain ⟨u, gs, hu, hg, hl⟩ := open_guids_up hf
  have hu' : Value.slice a n c = u := by simpa [Value.cells] using hu
  rw [← hu'] at hg
  exact ⟨gs, hg, by simp only at hl; omega⟩
theorem open_line_up (hval : Value.okWide Try.prog w r b0 25 v) (hd : DataW.Trod enc Try.prog w base spare held 25 v d ps) (hw : Rows.uptoBulk d ≤ 1048576) :
    ∃ x : Ln, InL w v x ∧ x.l.length ≤ 2 ^ 20 := by
  have hu : Try.prog.underlying 25 = some (.struct (Try.prog.fieldsOf 25)) := by kernel_rfl
  obtain ⟨cs, rfl, hsz⟩ := okWide_struct hu hval
  obtain ⟨fuel, hf⟩ := hd
  obtain ⟨xs, n, _, hx0, hlen, hxs, hx⟩ := DataW.trod_struct hu hf
  obtain ⟨f0, h0, t0, o0⟩ := field_at line_shape 0 _ _ rfl
  obtain ⟨f1, h1, t1, o1⟩ := field_at line_shape 1 _ _ rfl
  obtain ⟨f2, h2, t2, o2⟩ := field_at line_shape 2 _ _ rfl
  obtain ⟨f3, h3, t3, o3⟩ := field_at line_shape 3 _ _ rfl
  have hs : (Try.prog.fieldsOf 25).size = 4 := by kernel_rfl
  have e0 := hx 0 f0 h0
  have e1 := hx 1 f1 h1
  have e2 := hx 2 f2 h2
  have e3 := hx 3 f3 h3
  rw [t0, o0, show Try.prog.cellsOf 22 = 1 from by kernel_rfl, List.getElem?_eq_getElem (by omega)] at e0
  rw [t1, o1, show Try.prog.cellsOf 3 = 1 from by kernel_rfl, List.getElem?_eq_getElem (by omega)] at e1
  rw [t2, o2, show Try.prog.cellsOf 4 = 1 from by kernel_rfl, List.getElem?_eq_getElem (by omega)] at e2
  rw [t3, o3, show Try.prog.cellsOf 23 = 1 from by kernel_rfl, List.getElem?_eq_getElem (by omega)] at e3
  obtain ⟨z0, c0, _, w0⟩ := DataW.trod_int Try.underlying22 e0
  obtain ⟨z1, c1, _, w1⟩ := DataW.trod_int Try.underlying3 e1
  obtain ⟨z2, c2, _⟩ := DataW.trod_bool Try.underlying4 e2
  obtain ⟨u, gs, c3, hg, hl⟩ := open_guids_up e3
  have i0 := take_one c0
  have i1 := take_one c1
  have i2 := take_one c2
  have i3 := take_one c3
  rw [show Try.prog.cellsOf 25 = 4 from by kernel_rfl] at hsz
  have hcs : cs = #[.int .u64 z0, .int .i64 z1, .bool z2, u] := by
    apply Array.ext
    · simpa using hsz
    · intro i hi _
      have hi4 : i < 4 := by omega
      have get : ∀ (j : Nat) (y : Value), cs.toList[j]? = some y → (hj : j < cs.size) → cs[j] = y := by
        intro j y hy hj
        have : cs[j]? = some y := by simpa using hy
        rw [Array.getElem?_eq_getElem hj] at this
        exact Option.some.inj this
      simp only [Value.cells] at i0 i1 i2 i3
      match i, hi4 with
      | 0, _ => exact get 0 _ i0 hi
      | 1, _ => exact get 1 _ i1 hi
      | 2, _ => exact get 2 _ i2 hi
      | 3, _ => exact get 3 _ i3 hi
  refine ⟨⟨z0, z1, z2, gs⟩, ⟨u, by rw [hcs], hg, w0, w1⟩, ?_⟩
  have hd0 : d = .agg (xs.map (·.1)) := by
    have := congrArg Prod.fst hx0
    simpa using this
  have hm : (xs[3]'(by omega)).1 ∈ xs.map (·.1) := List.mem_map.2 ⟨_, List.getElem_mem _, rfl⟩
  have := bulk_mem hm
  rw [hd0] at hw
  simp only [Rows.uptoBulk] at hw
  show gs.length ≤ 2 ^ 20
  omega
end
end Go.Proofs.Ytfkgidljgbhccaa
