/-
  SHAPES THAT COME IN, OPENED; shapes in a row of one's own.
-/
import Derived.Test.YteplcpiamocclaaBuiltA
import Derived.Test.YteplcpiamocclaaOpenG
namespace Go.Proofs.Yteplcpiamocclaa
open Go.ChangeShapes Go.WideShapes Go.RowKit

theorem lit_u8 {z : Int} : (Lit.int .u8 z).wf = true ↔ 0 ≤ z ∧ z ≤ 255 := by
  simp [Lit.wf, show IntKind.u8.min = 0 from by decide, show IntKind.u8.max = 255 from by decide]
theorem shape_shape : (Try.prog.fieldsOf 26).toList.map (fun f => (f.type, f.offset)) = [(5, 0), (5, 1), (5, 2), (4, 3), (4, 4)] := by kernel_rfl
section
variable {H : Type} {enc : TypeId × Value → H} {w : World} {base : Nat} {spare : Nat → Bool} {held : Bool} {fuel : Nat} {cs : List Value} {x : DataW H × List MemPlace}
theorem open_shape_at (g o : Nat) (h : DataW.trod enc Try.prog w base spare held fuel 26 cs = some x) (hc : ∀ i, i < 5 → w.cell? ⟨g, o + i, none⟩ = cs[i]?) : ∃ z : Shp, ShAt w g o z ∧ z.wf := by
  obtain ⟨xs, n, _, _, hlen, hxs, hx⟩ := DataW.trod_struct (show Try.prog.underlying 26 = some (.struct (Try.prog.fieldsOf 26)) from by kernel_rfl) h
  obtain ⟨f0, h0, t0, o0⟩ := field_at shape_shape 0 _ _ rfl
  obtain ⟨f1, h1, t1, o1⟩ := field_at shape_shape 1 _ _ rfl
  obtain ⟨f2, h2, t2, o2⟩ := field_at shape_shape 2 _ _ rfl
  obtain ⟨f3, h3, t3, o3⟩ := field_at shape_shape 3 _ _ rfl
  obtain ⟨f4, h4, t4, o4⟩ := field_at shape_shape 4 _ _ rfl
  have hs : (Try.prog.fieldsOf 26).size = 5 := by kernel_rfl
  have e0 := hx 0 f0 h0
  have e1 := hx 1 f1 h1
  have e2 := hx 2 f2 h2
  have e3 := hx 3 f3 h3
  have e4 := hx 4 f4 h4
  rw [t0, o0, show Try.prog.cellsOf 5 = 1 from by kernel_rfl, List.getElem?_eq_getElem (by omega)] at e0
  rw [t1, o1, show Try.prog.cellsOf 5 = 1 from by kernel_rfl, List.getElem?_eq_getElem (by omega)] at e1
  rw [t2, o2, show Try.prog.cellsOf 5 = 1 from by kernel_rfl, List.getElem?_eq_getElem (by omega)] at e2
  rw [t3, o3, show Try.prog.cellsOf 4 = 1 from by kernel_rfl, List.getElem?_eq_getElem (by omega)] at e3
  rw [t4, o4, show Try.prog.cellsOf 4 = 1 from by kernel_rfl, List.getElem?_eq_getElem (by omega)] at e4
  obtain ⟨z0, c0, _, w0⟩ := DataW.trod_int Try.underlying5 e0
  obtain ⟨z1, c1, _, w1⟩ := DataW.trod_int Try.underlying5 e1
  obtain ⟨z2, c2, _, w2⟩ := DataW.trod_int Try.underlying5 e2
  obtain ⟨z3, c3, _⟩ := DataW.trod_bool Try.underlying4 e3
  obtain ⟨z4, c4, _⟩ := DataW.trod_bool Try.underlying4 e4
  have i0 := take_one c0
  have i1 := take_one c1
  have i2 := take_one c2
  have i3 := take_one c3
  have i4 := take_one c4
  have v0 := lit_u8.1 w0
  have v1 := lit_u8.1 w1
  have v2 := lit_u8.1 w2
  refine ⟨⟨z0, z1, z2, z3, z4⟩, ⟨(hc 0 (by omega)).trans i0, (hc 1 (by omega)).trans i1, (hc 2 (by omega)).trans i2, (hc 3 (by omega)).trans i3, (hc 4 (by omega)).trans i4⟩, ?_⟩
  unfold Shp.wf
  simp only
  omega
end
section
variable {H : Type} {enc : TypeId × Value → H} {w : World} {base : Nat} {spare : Nat → Bool} {held : Bool} {r : Reach} {b0 : Nat} {v : Value} {d : DataW H} {ps : List MemPlace}
theorem open_shapes (hval : Value.okWide Try.prog w r b0 22 v) (hd : DataW.Trod enc Try.prog w base spare held 22 v d ps) (_ : ∀ n ∈ d.weights Try.prog 22, n ≤ reachBytes) :
    ∃ xs : List Shp, InH w v xs ∧ True := by
  obtain ⟨a0, n0, c0, rfl⟩ := okWide_slice Try.underlying22 hval
  obtain ⟨fuel, hf⟩ := hd
  rcases DataW.trod_slice Try.underlying22 hf with ⟨h0, _⟩ | ⟨a, len, cap, elems, rest, n, _, h0, hx, hb, hl, hm, hlen, hel, _, _⟩
  · simp [Value.cells] at h0
    obtain ⟨rfl, rfl, rfl⟩ := h0
    exact ⟨[], ⟨none, 0, rfl, Nat.zero_le _, fun j hj => by simp at hj⟩, trivial⟩
  · simp [Value.cells] at h0
    obtain ⟨rfl, rfl, rfl⟩ := h0
    rw [show Try.prog.cellsOf 26 = 5 from by kernel_rfl] at hel
    rcases Nat.eq_zero_or_pos n0 with rfl | hp
    · exact ⟨[], ⟨_, c0, rfl, Nat.zero_le _, fun j hj => by simp at hj⟩, trivial⟩
    · obtain ⟨b, off, spot⟩ := a
      have hspot : spot = none := by
        have h1 := hel 0 hp
        rw [List.getElem?_eq_getElem (by omega), Option.bind_eq_some_iff] at h1
        obtain ⟨ds, hds, hy⟩ := h1
        obtain ⟨-, hdl, hdc⟩ := World.cells?_some hds
        have hd0 : w.cell? ((Addr.add ⟨b, off, spot⟩ (0 * 5)).add 0) = some (ds[0]'(by omega)) := (hdc 0 (by omega)).trans (List.getElem?_eq_getElem (by omega))
        simpa [Addr.add] using World.cell?_spot hd0
      subst hspot
      have each : ∀ i, i < n0 → ∃ z : Shp, ShAt w b (off + i * 5) z ∧ z.wf := by
        intro i hi
        have h1 := hel i hi
        rw [List.getElem?_eq_getElem (by omega), Option.bind_eq_some_iff] at h1
        obtain ⟨ds, hds, hy⟩ := h1
        obtain ⟨-, hdl, hdc⟩ := World.cells?_some hds
        have hc : ∀ j, j < 5 → w.cell? ⟨b, off + i * 5 + j, none⟩ = ds[j]? := fun j hj => by
          have := hdc j hj
          rwa [Go.Proofs.Yteplcpiamocclaa.addr_add, Go.Proofs.Yteplcpiamocclaa.addr_add] at this
        exact open_shape_at b (off + i * 5) hy hc
      have ch : ∀ i : Nat, ∃ z : Shp, i < n0 → ShAt w b (off + i * 5) z ∧ z.wf := by
        intro i
        by_cases hi : i < n0
        · obtain ⟨z, hz⟩ := each i hi
          exact ⟨z, fun _ => hz⟩
        · exact ⟨shp0, fun h => absurd h hi⟩
      let f : Nat → Shp := fun i => Classical.choose (ch i)
      have hf2 : ∀ i, i < n0 → ShAt w b (off + i * 5) (f i) ∧ (f i).wf := fun i => Classical.choose_spec (ch i)
      have hlen2 : ((List.range n0).map f).length = n0 := by simp
      refine ⟨(List.range n0).map f, ⟨_, c0, by rw [hlen2], by rw [hlen2]; omega, fun j hj => ?_⟩, trivial⟩
      rw [hlen2] at hj
      have hget : ((List.range n0).map f).getD j shp0 = f j := by simp [hj]
      rw [hget]
      exact ⟨⟨b, off, rfl, (hf2 j hj).1⟩, (hf2 j hj).2⟩
end
def cellsH (xs : List Shp) : List Value := xs.flatMap fun x => x.cells.toList
theorem cellsH_snoc (xs : List Shp) (x : Shp) : cellsH (xs ++ [x]) = cellsH xs ++ x.cells.toList := by simp [cellsH]
theorem cellsH_at : ∀ (xs : List Shp) (j i : Nat), j < xs.length → i < 5 → (cellsH xs)[j * 5 + i]? = (xs.getD j shp0).cells[i]?
  | e :: es, j, i, hj, hi => by
    cases j with
    | zero =>
      have h9 : e.cells.toList.length = 5 := rfl
      unfold cellsH
      rw [List.flatMap_cons, List.getElem?_append_left (by rw [h9]; omega)]
      simp
    | succ j =>
      have := cellsH_at es j i (by simpa using hj) hi
      have h9 : e.cells.toList.length = 5 := rfl
      unfold cellsH at this ⊢
      rw [List.flatMap_cons, List.getElem?_append_right (by rw [h9]; omega), h9, show (j + 1) * 5 + i - 5 = j * 5 + i by omega, this]
      simp
def OwH (w : World) (base : Nat) (v : Value) (xs : List Shp) : Prop := w.ownsRow base 26 5 v xs.length (cellsH xs)
theorem shape_info : (Try.prog.info? 26).map (fun i => (i.zero, i.size, i.bytes)) = some (some (.agg shp0.cells), 5, 5) := by kernel_rfl
section
variable {w w' : World} {base : Nat} {v : Value} {xs : List Shp} {x : Shp}
theorem OwH.nil_ (w : World) (base : Nat) : OwH w base (.slice none 0 0) [] := World.ownsRow_nil _ _ _ _
theorem app_shape (ty : TypeId) (ho : OwH w base v xs) (hn : xs.length + 1 ≤ 2 ^ 30) (hbase : base ≤ w.heap.size) :
    ∃ v' w', (Builtin.append_ #[22, 22] ty #[v, .slice (some ⟨w.heap.size, 0, none⟩) 1 1]).run Try.prog (w.alloc (.cells x.cells 26)) = .ok v' w' ∧
      OwH w' base v' (xs ++ [x]) ∧ (w.alloc (.cells x.cells 26)).grownBy w' v.ownBlock := by
  obtain ⟨i, hi, hz0, hz1, hz2⟩ := info_parts shape_info
  have hu := own_new w w.heap.size 26 x.cells 5 1 rfl (Nat.le_refl _) (by decide)
  have hb := (Below.refl w.heap.size w).alloc (Nat.le_refl _) (Obj.cells x.cells 26)
  obtain ⟨v', w', h1, h2⟩ := app_own _ base 22 ty 26 i (.agg shp0.cells) 5 5 Try.underlying22 hi hz0 hz1 hz2 rfl (by decide) (own_kp (A := fun _ => False) (.of_below hb) ho fun _ _ h => h) (Rd.of_own hu) (by simp [Shp.cells, Value.oneCell']) (by unfold maxLen; omega) (by omega) (by simp; omega)
  refine ⟨v', w', h1, ?_, h2.2.1⟩
  unfold OwH
  rw [cellsH_snoc, List.length_append]
  exact h2.1
theorem OwH.inh (h : OwH w base v xs) (hwf : ∀ x ∈ xs, x.wf) (hl : xs.length ≤ maxLen) : InH w v xs := by
  rcases h.2 with ⟨rfl, h0⟩ | ⟨g, cap, cur, rfl, hg, hh, hc, rest⟩
  · exact ⟨none, 0, by rw [h0], hl, fun j hj => by omega⟩
  · refine ⟨_, cap, rfl, hl, fun j hj => ⟨⟨g, 0, rfl, ?_⟩, ?_⟩⟩
    · have hcell : ∀ i, i < 5 → w.cell? ⟨g, 0 + j * 5 + i, none⟩ = (xs.getD j shp0).cells[i]? := fun i hi => by
        rw [Nat.zero_add, ← cellsH_at xs j i hj hi]
        exact h.cellAt (j * 5 + i) (by omega)
      exact ⟨hcell 0 (by omega), hcell 1 (by omega), hcell 2 (by omega), hcell 3 (by omega), hcell 4 (by omega)⟩
    · have hm : xs.getD j shp0 ∈ xs := by
        have : xs.getD j shp0 = xs[j] := by simp [hj]
        rw [this]
        exact List.getElem_mem hj
      exact hwf _ hm
end
end Go.Proofs.Yteplcpiamocclaa
