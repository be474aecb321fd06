/-
  MESSAGES THAT COME IN, OPENED (printed by wip/gen-openmsg.py).
-/
import Derived.Test.YtikimmhkfjaijaaGreatGE
import Derived.Test.YtikimmhkfjaijaaGreatOpen2
import Derived.SizedLaws
namespace Go.Proofs.YtikimmhkfjaijaaGreat
open Go.ChangeShapes Go.WideShapes Go.RowKit

theorem list_eq {l l' : List Value} (h : l.length = l'.length) (h2 : ∀ i, i < l'.length → l[i]? = l'[i]?) : l = l' := by
  refine List.ext_getElem? fun i => ?_
  by_cases hi : i < l'.length
  · exact h2 i hi
  · rw [List.getElem?_eq_none (by omega), List.getElem?_eq_none (by omega)]
theorem field_at {fs : Array Field} {l : List (TypeId × Nat)} (h : fs.toList.map (fun f => (f.type, f.offset)) = l) (i : Nat) (t : TypeId) (o : Nat) (hl : l[i]? = some (t, o)) : ∃ f, fs[i]? = some f ∧ f.type = t ∧ f.offset = o := by
  rw [← h, List.getElem?_map, Option.map_eq_some_iff] at hl
  obtain ⟨f, hf, e⟩ := hl
  simp only [Prod.mk.injEq] at e
  exact ⟨f, by simpa using hf, e.1, e.2⟩
theorem take_at {l m : List Value} {o n : Nat} (h : (l.drop o).take n = m) (i : Nat) (x : Value) (hx : m[i]? = some x) : l[o + i]? = some x := by
  rw [← h] at hx
  rcases Nat.lt_or_ge i n with q | q
  · rwa [List.getElem?_take_of_lt q, List.getElem?_drop] at hx
  · rw [List.getElem?_eq_none (by rw [List.length_take]; omega)] at hx
    cases hx
section
variable {H : Type} {enc : TypeId × Value → H} {w : World} {base : Nat} {spare : Nat → Bool} {held : Bool}
/-- a slice whose elements take k cells each -/
theorem open_rows {α : Type} {t e : TypeId} {k : Nat} (ht : Tryz.prog.underlying t = some (.slice e)) (hk : Tryz.prog.cellsOf e = k) (k0 : 0 < k) (Q : List Value → α → Prop) (inh : α)
    (hQ : ∀ fuel cs y, DataW.trod enc Tryz.prog w base spare held fuel e cs = some y → ∃ z, Q cs z) {fuel : Nat} {cs : List Value} {x : DataW H × List MemPlace} (h : DataW.trod enc Tryz.prog w base spare held fuel t cs = some x) :
    ∃ (a : Option Addr) (n c : Nat) (f : Nat → α), cs = [.slice a n c] ∧ (n = 0 ∨ n ≤ c) ∧ n ≤ maxLen ∧ ∀ j, j < n → ∃ g off ds, a = some ⟨g, off, none⟩ ∧ Q ds (f j) ∧ ∀ i, i < k → w.cell? ⟨g, off + j * k + i, none⟩ = ds[i]? := by
  rcases DataW.trod_slice ht h with ⟨rfl, _⟩ | ⟨a, len, cap, elems, rest, n, _, rfl, hx, hb, hl, hm, hlen, hel, _, _⟩
  · exact ⟨none, 0, 0, fun _ => inh, rfl, .inl rfl, Nat.zero_le _, fun j hj => by omega⟩
  · rw [hk] at hel
    rcases Nat.eq_zero_or_pos len with rfl | hp
    · exact ⟨_, _, cap, fun _ => inh, rfl, .inl rfl, Nat.zero_le _, fun j hj => by omega⟩
    · obtain ⟨b, off, spot⟩ := a
      have hspot : spot = none := by
        have h1 := hel 0 hp
        rw [List.getElem?_eq_getElem (by omega), Option.bind_eq_some_iff] at h1
        obtain ⟨ds, hds, hy⟩ := h1
        obtain ⟨-, hdl, hdc⟩ := World.cells?_some hds
        have hd0 : w.cell? ((Addr.add ⟨b, off, spot⟩ (0 * k)).add 0) = some (ds[0]'(by omega)) := (hdc 0 (by omega)).trans (List.getElem?_eq_getElem (by omega))
        simpa [Addr.add] using World.cell?_spot hd0
      subst hspot
      have each : ∀ i, i < len → ∃ z ds, Q ds z ∧ ∀ j, j < k → w.cell? ⟨b, off + i * k + j, none⟩ = ds[j]? := by
        intro i hi
        have h1 := hel i hi
        rw [List.getElem?_eq_getElem (by omega), Option.bind_eq_some_iff] at h1
        obtain ⟨ds, hds, hy⟩ := h1
        obtain ⟨-, hdl, hdc⟩ := World.cells?_some hds
        obtain ⟨z, hz⟩ := hQ _ _ _ hy
        refine ⟨z, ds, hz, fun j hj => ?_⟩
        have := hdc j hj
        rwa [addr_add, addr_add] at this
      have ch : ∀ i : Nat, ∃ z, i < len → ∃ ds, Q ds z ∧ ∀ j, j < k → w.cell? ⟨b, off + i * k + j, none⟩ = ds[j]? := by
        intro i
        by_cases hi : i < len
        · obtain ⟨z, hz⟩ := each i hi
          exact ⟨z, fun _ => hz⟩
        · exact ⟨inh, fun h => absurd h hi⟩
      refine ⟨_, len, cap, fun i => Classical.choose (ch i), rfl, .inr hl, by omega, fun j hj => ?_⟩
      obtain ⟨ds, h1, h2⟩ := Classical.choose_spec (ch j) hj
      exact ⟨b, off, ds, rfl, h1, h2⟩
end
theorem guid_shape : (Tryz.prog.fieldsOf 28).toList.map (fun f => (f.type, f.offset)) = [(22, 0), (22, 1)] := by kernel_rfl
section
variable {H : Type} {enc : TypeId × Value → H} {w : World} {base : Nat} {spare : Nat → Bool} {held : Bool} {fuel : Nat} {cs : List Value} {x : DataW H × List MemPlace}
set_option maxRecDepth 100000 in
theorem open_guid_at (h : DataW.trod enc Tryz.prog w base spare held fuel 28 cs = some x) : ∃ (z0 : Int) (z1 : Int), cs = [.int .u64 z0, .int .u64 z1] ∧ (Lit.int .u64 z0).wf = true ∧ (Lit.int .u64 z1).wf = true := by
  obtain ⟨xs, n, _, _, hlen, hxs, hx⟩ := DataW.trod_struct (show Tryz.prog.underlying 28 = some (.struct (Tryz.prog.fieldsOf 28)) from by kernel_rfl) h
  have hs : (Tryz.prog.fieldsOf 28).size = 2 := by kernel_rfl
  rw [show Tryz.prog.cellsOf 28 = 2 from by kernel_rfl] at hlen
  obtain ⟨f0, h0, t0, o0⟩ := field_at guid_shape 0 _ _ rfl
  have e0 := hx 0 f0 h0
  rw [t0, o0, show Tryz.prog.cellsOf 22 = 1 from by kernel_rfl, List.getElem?_eq_getElem (by omega)] at e0
  obtain ⟨z0, c0, _, w0⟩ := DataW.trod_int Tryz.underlying22 e0
  obtain ⟨f1, h1, t1, o1⟩ := field_at guid_shape 1 _ _ rfl
  have e1 := hx 1 f1 h1
  rw [t1, o1, show Tryz.prog.cellsOf 22 = 1 from by kernel_rfl, List.getElem?_eq_getElem (by omega)] at e1
  obtain ⟨z1, c1, _, w1⟩ := DataW.trod_int Tryz.underlying22 e1
  refine ⟨z0, z1, list_eq hlen fun i hi => ?_, w0, w1⟩
  have hi2 : i = 0 ∨ i = 1 := by
    have : i < 2 := hi
    omega
  clear hi
  rcases hi2 with rfl | rfl
  · exact take_at c0 0 _ rfl
  · exact take_at c1 0 _ rfl
end

section
variable {H : Type} {enc : TypeId × Value → H} {w : World} {base : Nat} {spare : Nat → Bool} {held : Bool} {fuel : Nat} {cs : List Value} {x : DataW H × List MemPlace}
theorem open_gd_at (h : DataW.trod enc Tryz.prog w base spare held fuel 28 cs = some x) : ∃ g : Gd, cs = [.int .u64 g.1, .int .u64 g.2] ∧ wfG g := by
  obtain ⟨a, b, rfl, h1, h2⟩ := open_guid_at h
  exact ⟨(a, b), rfl, h1, h2⟩
end
section
variable {H : Type} {enc : TypeId × Value → H} {w : World} {base : Nat} {spare : Nat → Bool} {held : Bool}
/-- a slice whose elements take k cells each -/
theorem open_rowsF {α : Type} {t e : TypeId} {k : Nat} (ht : Tryz.prog.underlying t = some (.slice e)) (hk : Tryz.prog.cellsOf e = k) (k0 : 0 < k) (Q : List Value → α → Prop) (inh : α)
    (hQ : ∀ fuel cs y, DataW.trod enc Tryz.prog w base spare held fuel e cs = some y → ∃ z, Q cs z) {fuel : Nat} {cs : List Value} {x : DataW H × List MemPlace} (h : DataW.trod enc Tryz.prog w base spare held fuel t cs = some x) (hfz : w.noneFrozen x.2) :
    ∃ (a : Option Addr) (n c : Nat) (f : Nat → α), cs = [.slice a n c] ∧ (n = 0 ∨ n ≤ c) ∧ n ≤ maxLen ∧ ∀ j, j < n → ∃ g off ds, a = some ⟨g, off, none⟩ ∧ Q ds (f j) ∧ ∀ i, i < k → (w.cell? ⟨g, off + j * k + i, none⟩ = ds[i]? ∧ w.frozen? ⟨g, off + j * k + i, none⟩ = false) := by
  rcases DataW.trod_slice ht h with ⟨rfl, _⟩ | ⟨a, len, cap, elems, rest, n, _, rfl, hx, hb, hl, hm, hlen, hel, _, _⟩
  · exact ⟨none, 0, 0, fun _ => inh, rfl, .inl rfl, Nat.zero_le _, fun j hj => by omega⟩
  · rw [hk] at hel
    rcases Nat.eq_zero_or_pos len with rfl | hp
    · exact ⟨_, _, cap, fun _ => inh, rfl, .inl rfl, Nat.zero_le _, fun j hj => by omega⟩
    · obtain ⟨b, off, spot⟩ := a
      have hspot : spot = none := by
        have h1 := hel 0 hp
        rw [List.getElem?_eq_getElem (by omega), Option.bind_eq_some_iff] at h1
        obtain ⟨ds, hds, hy⟩ := h1
        obtain ⟨-, hdl, hdc⟩ := World.cells?_some hds
        have hd0 : w.cell? ((Addr.add ⟨b, off, spot⟩ (0 * k)).add 0) = some (ds[0]'(by omega)) := (hdc 0 (by omega)).trans (List.getElem?_eq_getElem (by omega))
        simpa [Addr.add] using World.cell?_spot hd0
      subst hspot
      have each : ∀ i, i < len → ∃ z ds, Q ds z ∧ ∀ j, j < k → w.cell? ⟨b, off + i * k + j, none⟩ = ds[j]? := by
        intro i hi
        have h1 := hel i hi
        rw [List.getElem?_eq_getElem (by omega), Option.bind_eq_some_iff] at h1
        obtain ⟨ds, hds, hy⟩ := h1
        obtain ⟨-, hdl, hdc⟩ := World.cells?_some hds
        obtain ⟨z, hz⟩ := hQ _ _ _ hy
        refine ⟨z, ds, hz, fun j hj => ?_⟩
        have := hdc j hj
        rwa [addr_add, addr_add] at this
      have ch : ∀ i : Nat, ∃ z, i < len → ∃ ds, Q ds z ∧ ∀ j, j < k → w.cell? ⟨b, off + i * k + j, none⟩ = ds[j]? := by
        intro i
        by_cases hi : i < len
        · obtain ⟨z, hz⟩ := each i hi
          exact ⟨z, fun _ => hz⟩
        · exact ⟨inh, fun h => absurd h hi⟩
      have hfr : ∀ j i, j < len → i < k → w.frozen? ⟨b, off + j * k + i, none⟩ = false := fun j i hj hi => by
        refine hfz b _ ?_
        rw [hx, hk]
        refine List.mem_append_left _ ?_
        unfold MemPlace.row
        have hlt : j * k + i < (elems.length + rest.length) * k := by
          have h1 := Nat.mul_le_mul_right k (show j + 1 ≤ elems.length + rest.length by omega)
          rw [Nat.succ_mul] at h1
          omega
        exact List.mem_map.2 ⟨j * k + i, List.mem_range.2 hlt, by rw [Nat.add_assoc]⟩
      refine ⟨_, len, cap, fun i => Classical.choose (ch i), rfl, .inr hl, by omega, fun j hj => ?_⟩
      obtain ⟨ds, h1, h2⟩ := Classical.choose_spec (ch j) hj
      exact ⟨b, off, ds, rfl, h1, fun i hi => ⟨h2 i hi, hfr j i hj hi⟩⟩
end
theorem chg_shape : (Tryz.prog.fieldsOf 83).toList.map (fun f => (f.type, f.offset)) = [(3, 0), (9, 1)] := by kernel_rfl
section
variable {H : Type} {enc : TypeId × Value → H} {w : World} {base : Nat} {spare : Nat → Bool} {held : Bool} {fuel : Nat} {cs : List Value} {x : DataW H × List MemPlace}
set_option maxRecDepth 100000 in
theorem open_chg_at (h : DataW.trod enc Tryz.prog w base spare held fuel 83 cs = some x) : ∃ (z0 : Int) (z1 : ByteArray), cs = [.int .i64 z0, .string z1] ∧ (Lit.int .i64 z0).wf = true ∧ z1.size ≤ maxLen := by
  obtain ⟨xs, n, _, _, hlen, hxs, hx⟩ := DataW.trod_struct (show Tryz.prog.underlying 83 = some (.struct (Tryz.prog.fieldsOf 83)) from by kernel_rfl) h
  have hs : (Tryz.prog.fieldsOf 83).size = 2 := by kernel_rfl
  rw [show Tryz.prog.cellsOf 83 = 2 from by kernel_rfl] at hlen
  obtain ⟨f0, h0, t0, o0⟩ := field_at chg_shape 0 _ _ rfl
  have e0 := hx 0 f0 h0
  rw [t0, o0, show Tryz.prog.cellsOf 3 = 1 from by kernel_rfl, List.getElem?_eq_getElem (by omega)] at e0
  obtain ⟨z0, c0, _, w0⟩ := DataW.trod_int Tryz.underlying3 e0
  obtain ⟨f1, h1, t1, o1⟩ := field_at chg_shape 1 _ _ rfl
  have e1 := hx 1 f1 h1
  rw [t1, o1, show Tryz.prog.cellsOf 9 = 1 from by kernel_rfl, List.getElem?_eq_getElem (by omega)] at e1
  obtain ⟨z1, c1, _, w1⟩ := DataW.trod_string Tryz.underlying9 e1
  refine ⟨z0, z1, list_eq hlen fun i hi => ?_, w0, w1⟩
  have hi2 : i = 0 ∨ i = 1 := by
    have : i < 2 := hi
    omega
  clear hi
  rcases hi2 with rfl | rfl
  · exact take_at c0 0 _ rfl
  · exact take_at c1 0 _ rfl
end
section
variable {H : Type} {enc : TypeId × Value → H} {w : World} {base : Nat} {spare : Nat → Bool} {held : Bool} {fuel : Nat} {cs : List Value} {x : DataW H × List MemPlace}
theorem open_chgs_at (h : DataW.trod enc Tryz.prog w base spare held fuel 29 cs = some x) : ∃ z : Value × List Cg, cs = [z.1] ∧ InC w z.1 z.2 := by
  obtain ⟨a, n, c, f, rfl, hc, hm, hx⟩ := open_rows Tryz.underlying29 (k := 2) (by kernel_rfl) (by omega) (fun ds (z : Cg) => ds = [.int .i64 z.1, .string z.2]) (0, ByteArray.empty) (fun fuel cs y hy => by
    obtain ⟨z0, z1, rfl, -⟩ := open_chg_at hy
    exact ⟨(z0, z1), rfl⟩) h
  have hlen : ((List.range n).map f).length = n := by simp
  refine ⟨(.slice a n c, (List.range n).map f), rfl, a, c, by rw [hlen], by rw [hlen]; exact hm, fun j hj => ?_⟩
  rw [hlen] at hj
  obtain ⟨g, off, ds, h1, h2, h3⟩ := hx j hj
  have hget : ((List.range n).map f).getD j (0, ByteArray.empty) = f j := by simp [hj]
  rw [hget]
  exact ⟨g, off, h1, by rw [h2] at h3; exact h3 0 (by omega), by rw [h2] at h3; exact h3 1 (by omega)⟩
end
theorem part_shape : (Tryz.prog.fieldsOf 31).toList.map (fun f => (f.type, f.offset)) = [(28, 0), (28, 2), (3, 4), (3, 5), (29, 6)] := by kernel_rfl
section
variable {H : Type} {enc : TypeId × Value → H} {w : World} {base : Nat} {spare : Nat → Bool} {held : Bool} {fuel : Nat} {cs : List Value} {x : DataW H × List MemPlace}
set_option maxRecDepth 100000 in
theorem open_part_at (h : DataW.trod enc Tryz.prog w base spare held fuel 31 cs = some x) : ∃ (z0 : Gd) (z1 : Gd) (z2 : Int) (z3 : Int) (z4 : Value × List Cg), cs = [.int .u64 z0.1, .int .u64 z0.2, .int .u64 z1.1, .int .u64 z1.2, .int .i64 z2, .int .i64 z3, z4.1] ∧ wfG z0 ∧ wfG z1 ∧ (Lit.int .i64 z2).wf = true ∧ (Lit.int .i64 z3).wf = true ∧ InC w z4.1 z4.2 := by
  obtain ⟨xs, n, _, _, hlen, hxs, hx⟩ := DataW.trod_struct (show Tryz.prog.underlying 31 = some (.struct (Tryz.prog.fieldsOf 31)) from by kernel_rfl) h
  have hs : (Tryz.prog.fieldsOf 31).size = 5 := by kernel_rfl
  rw [show Tryz.prog.cellsOf 31 = 7 from by kernel_rfl] at hlen
  obtain ⟨f0, h0, t0, o0⟩ := field_at part_shape 0 _ _ rfl
  have e0 := hx 0 f0 h0
  rw [t0, o0, show Tryz.prog.cellsOf 28 = 2 from by kernel_rfl, List.getElem?_eq_getElem (by omega)] at e0
  obtain ⟨z0, c0, w0⟩ := open_gd_at e0
  obtain ⟨f1, h1, t1, o1⟩ := field_at part_shape 1 _ _ rfl
  have e1 := hx 1 f1 h1
  rw [t1, o1, show Tryz.prog.cellsOf 28 = 2 from by kernel_rfl, List.getElem?_eq_getElem (by omega)] at e1
  obtain ⟨z1, c1, w1⟩ := open_gd_at e1
  obtain ⟨f2, h2, t2, o2⟩ := field_at part_shape 2 _ _ rfl
  have e2 := hx 2 f2 h2
  rw [t2, o2, show Tryz.prog.cellsOf 3 = 1 from by kernel_rfl, List.getElem?_eq_getElem (by omega)] at e2
  obtain ⟨z2, c2, _, w2⟩ := DataW.trod_int Tryz.underlying3 e2
  obtain ⟨f3, h3, t3, o3⟩ := field_at part_shape 3 _ _ rfl
  have e3 := hx 3 f3 h3
  rw [t3, o3, show Tryz.prog.cellsOf 3 = 1 from by kernel_rfl, List.getElem?_eq_getElem (by omega)] at e3
  obtain ⟨z3, c3, _, w3⟩ := DataW.trod_int Tryz.underlying3 e3
  obtain ⟨f4, h4, t4, o4⟩ := field_at part_shape 4 _ _ rfl
  have e4 := hx 4 f4 h4
  rw [t4, o4, show Tryz.prog.cellsOf 29 = 1 from by kernel_rfl, List.getElem?_eq_getElem (by omega)] at e4
  obtain ⟨z4, c4, w4⟩ := open_chgs_at e4
  refine ⟨z0, z1, z2, z3, z4, list_eq hlen fun i hi => ?_, w0, w1, w2, w3, w4⟩
  have hi2 : i = 0 ∨ i = 1 ∨ i = 2 ∨ i = 3 ∨ i = 4 ∨ i = 5 ∨ i = 6 := by
    have : i < 7 := hi
    omega
  clear hi
  rcases hi2 with rfl | rfl | rfl | rfl | rfl | rfl | rfl
  · exact take_at c0 0 _ rfl
  · exact take_at c0 1 _ rfl
  · exact take_at c1 0 _ rfl
  · exact take_at c1 1 _ rfl
  · exact take_at c2 0 _ rfl
  · exact take_at c3 0 _ rfl
  · exact take_at c4 0 _ rfl
end
theorem ent_shape : (Tryz.prog.fieldsOf 53).toList.map (fun f => (f.type, f.offset)) = [(22, 0), (3, 1), (28, 2)] := by kernel_rfl
section
variable {H : Type} {enc : TypeId × Value → H} {w : World} {base : Nat} {spare : Nat → Bool} {held : Bool} {fuel : Nat} {cs : List Value} {x : DataW H × List MemPlace}
set_option maxRecDepth 100000 in
theorem open_ent_at (h : DataW.trod enc Tryz.prog w base spare held fuel 53 cs = some x) : ∃ (z0 : Int) (z1 : Int) (z2 : Gd), cs = [.int .u64 z0, .int .i64 z1, .int .u64 z2.1, .int .u64 z2.2] ∧ (Lit.int .u64 z0).wf = true ∧ (Lit.int .i64 z1).wf = true ∧ wfG z2 := by
  obtain ⟨xs, n, _, _, hlen, hxs, hx⟩ := DataW.trod_struct (show Tryz.prog.underlying 53 = some (.struct (Tryz.prog.fieldsOf 53)) from by kernel_rfl) h
  have hs : (Tryz.prog.fieldsOf 53).size = 3 := by kernel_rfl
  rw [show Tryz.prog.cellsOf 53 = 4 from by kernel_rfl] at hlen
  obtain ⟨f0, h0, t0, o0⟩ := field_at ent_shape 0 _ _ rfl
  have e0 := hx 0 f0 h0
  rw [t0, o0, show Tryz.prog.cellsOf 22 = 1 from by kernel_rfl, List.getElem?_eq_getElem (by omega)] at e0
  obtain ⟨z0, c0, _, w0⟩ := DataW.trod_int Tryz.underlying22 e0
  obtain ⟨f1, h1, t1, o1⟩ := field_at ent_shape 1 _ _ rfl
  have e1 := hx 1 f1 h1
  rw [t1, o1, show Tryz.prog.cellsOf 3 = 1 from by kernel_rfl, List.getElem?_eq_getElem (by omega)] at e1
  obtain ⟨z1, c1, _, w1⟩ := DataW.trod_int Tryz.underlying3 e1
  obtain ⟨f2, h2, t2, o2⟩ := field_at ent_shape 2 _ _ rfl
  have e2 := hx 2 f2 h2
  rw [t2, o2, show Tryz.prog.cellsOf 28 = 2 from by kernel_rfl, List.getElem?_eq_getElem (by omega)] at e2
  obtain ⟨z2, c2, w2⟩ := open_gd_at e2
  refine ⟨z0, z1, z2, list_eq hlen fun i hi => ?_, w0, w1, w2⟩
  have hi2 : i = 0 ∨ i = 1 ∨ i = 2 ∨ i = 3 := by
    have : i < 4 := hi
    omega
  clear hi
  rcases hi2 with rfl | rfl | rfl | rfl
  · exact take_at c0 0 _ rfl
  · exact take_at c1 0 _ rfl
  · exact take_at c2 0 _ rfl
  · exact take_at c2 1 _ rfl
end
section
variable {H : Type} {enc : TypeId × Value → H} {w : World} {base : Nat} {spare : Nat → Bool} {held : Bool} {fuel : Nat} {cs : List Value} {x : DataW H × List MemPlace}
theorem open_gds_at (h : DataW.trod enc Tryz.prog w base spare held fuel 24 cs = some x) : ∃ z : Value × List Gd, cs = [z.1] ∧ InG w z.1 z.2 := by
  obtain ⟨a, n, c, f, rfl, hc, hm, hx⟩ := open_rows Tryz.underlying24 (k := 2) (by kernel_rfl) (by omega) (fun ds (z : Gd) => ds = [.int .u64 z.1, .int .u64 z.2] ∧ wfG z) (0, 0) (fun fuel cs y hy => open_gd_at hy) h
  have hlen : ((List.range n).map f).length = n := by simp
  refine ⟨(.slice a n c, (List.range n).map f), rfl, ⟨a, c, by rw [hlen], ?_⟩, by rw [hlen]; exact hm, fun g hg => ?_⟩
  · rcases Nat.eq_zero_or_pos n with rfl | hp
    · exact .inl rfl
    · obtain ⟨g, off, ds, rfl, -, -⟩ := hx 0 hp
      refine .inr ⟨by rw [hlen]; omega, g, off, rfl, fun j u hu => ?_⟩
      have hj : j < (cellsG ((List.range n).map f)).length := by
        rcases Nat.lt_or_ge j (cellsG ((List.range n).map f)).length with q | q
        · exact q
        · rw [List.getElem?_eq_none q] at hu; cases hu
      rw [cellsG_get _ hj] at hu
      rw [cellsG_length, hlen] at hj
      obtain ⟨g', off', ds', e, ⟨h2, -⟩, h3⟩ := hx (j / 2) (by omega)
      simp only [Option.some.injEq, Addr.mk.injEq, and_true] at e
      obtain ⟨rfl, rfl⟩ := e
      have hget : ((List.range n).map f).getD (j / 2) (0, 0) = f (j / 2) := by
        have : j / 2 < n := by omega
        simp [this]
      rw [hget] at hu
      have h4 := h3 (j % 2) (by omega)
      rw [h2] at h4
      have e2 : off + j / 2 * 2 + j % 2 = off + j := by omega
      rw [e2] at h4
      rw [h4]
      exact hu
  · obtain ⟨j, hj, rfl⟩ := List.mem_map.1 hg
    obtain ⟨-, -, -, -, ⟨-, h2⟩, -⟩ := hx j (List.mem_range.1 hj)
    exact h2
theorem open_ents_at (h : DataW.trod enc Tryz.prog w base spare held fuel 23 cs = some x) (hfz : w.noneFrozen x.2) : ∃ z : Value × List En, cs = [z.1] ∧ InE w z.1 z.2 := by
  obtain ⟨a, n, c, f, rfl, hc, hm, hx⟩ := open_rowsF Tryz.underlying23 (k := 4) (by kernel_rfl) (by omega) (fun ds (z : En) => ds = enL z ∧ wfE z) en0 (fun fuel cs y hy => by
    obtain ⟨z0, z1, z2, rfl, h0, h1, h2⟩ := open_ent_at hy
    exact ⟨⟨z0, z1, z2⟩, rfl, h0, h1, h2⟩) h hfz
  have hlen : ((List.range n).map f).length = n := by simp
  refine ⟨(.slice a n c, (List.range n).map f), rfl, a, c, by rw [hlen], by rw [hlen]; exact hc, by rw [hlen]; exact hm, fun e he => ?_, fun j hj => ?_⟩
  · obtain ⟨j, hj, rfl⟩ := List.mem_map.1 he
    obtain ⟨-, -, -, -, ⟨-, h2⟩, -⟩ := hx j (List.mem_range.1 hj)
    exact h2
  · rw [hlen] at hj
    obtain ⟨g, off, ds, h1, ⟨h2, -⟩, h3⟩ := hx j hj
    have hget : ((List.range n).map f).getD j en0 = f j := by simp [hj]
    rw [hget]
    rw [h2] at h3
    exact ⟨g, off, h1, fun i hi => (h3 i hi).1, (h3 1 (by decide)).2⟩
end
theorem line_shape : (Tryz.prog.fieldsOf 26).toList.map (fun f => (f.type, f.offset)) = [(22, 0), (3, 1), (4, 2), (24, 3)] := by kernel_rfl
section
variable {H : Type} {enc : TypeId × Value → H} {w : World} {base : Nat} {spare : Nat → Bool} {held : Bool} {fuel : Nat} {cs : List Value} {x : DataW H × List MemPlace}
set_option maxRecDepth 100000 in
theorem open_line_at (h : DataW.trod enc Tryz.prog w base spare held fuel 26 cs = some x) : ∃ (z0 : Int) (z1 : Int) (z2 : Bool) (z3 : Value × List Gd), cs = [.int .u64 z0, .int .i64 z1, .bool z2, z3.1] ∧ (Lit.int .u64 z0).wf = true ∧ (Lit.int .i64 z1).wf = true ∧ InG w z3.1 z3.2 := by
  obtain ⟨xs, n, _, _, hlen, hxs, hx⟩ := DataW.trod_struct (show Tryz.prog.underlying 26 = some (.struct (Tryz.prog.fieldsOf 26)) from by kernel_rfl) h
  have hs : (Tryz.prog.fieldsOf 26).size = 4 := by kernel_rfl
  rw [show Tryz.prog.cellsOf 26 = 4 from by kernel_rfl] at hlen
  obtain ⟨f0, h0, t0, o0⟩ := field_at line_shape 0 _ _ rfl
  have e0 := hx 0 f0 h0
  rw [t0, o0, show Tryz.prog.cellsOf 22 = 1 from by kernel_rfl, List.getElem?_eq_getElem (by omega)] at e0
  obtain ⟨z0, c0, _, w0⟩ := DataW.trod_int Tryz.underlying22 e0
  obtain ⟨f1, h1, t1, o1⟩ := field_at line_shape 1 _ _ rfl
  have e1 := hx 1 f1 h1
  rw [t1, o1, show Tryz.prog.cellsOf 3 = 1 from by kernel_rfl, List.getElem?_eq_getElem (by omega)] at e1
  obtain ⟨z1, c1, _, w1⟩ := DataW.trod_int Tryz.underlying3 e1
  obtain ⟨f2, h2, t2, o2⟩ := field_at line_shape 2 _ _ rfl
  have e2 := hx 2 f2 h2
  rw [t2, o2, show Tryz.prog.cellsOf 4 = 1 from by kernel_rfl, List.getElem?_eq_getElem (by omega)] at e2
  obtain ⟨z2, c2, _⟩ := DataW.trod_bool Tryz.underlying4 e2
  obtain ⟨f3, h3, t3, o3⟩ := field_at line_shape 3 _ _ rfl
  have e3 := hx 3 f3 h3
  rw [t3, o3, show Tryz.prog.cellsOf 24 = 1 from by kernel_rfl, List.getElem?_eq_getElem (by omega)] at e3
  obtain ⟨z3, c3, w3⟩ := open_gds_at e3
  refine ⟨z0, z1, z2, z3, list_eq hlen fun i hi => ?_, w0, w1, w3⟩
  have hi2 : i = 0 ∨ i = 1 ∨ i = 2 ∨ i = 3 := by
    have : i < 4 := hi
    omega
  clear hi
  rcases hi2 with rfl | rfl | rfl | rfl
  · exact take_at c0 0 _ rfl
  · exact take_at c1 0 _ rfl
  · exact take_at c2 0 _ rfl
  · exact take_at c3 0 _ rfl
end
section
variable {H : Type} {enc : TypeId × Value → H} {w : World} {base : Nat} {spare : Nat → Bool} {held : Bool} {fuel : Nat} {cs : List Value} {x : DataW H × List MemPlace}
theorem open_ln_at (h : DataW.trod enc Tryz.prog w base spare held fuel 26 cs = some x) : ∃ z : Value × Ln, cs = [.int .u64 z.2.E, .int .i64 z.2.B, .bool z.2.L, z.1] ∧ (InG w z.1 z.2.l ∧ u64 z.2.E ∧ i64 z.2.B) := by
  obtain ⟨z0, z1, z2, z3, rfl, h0, h1, h2⟩ := open_line_at h
  exact ⟨(z3.1, ⟨z0, z1, z2, z3.2⟩), rfl, h2, h0, h1⟩
theorem open_prt_at (h : DataW.trod enc Tryz.prog w base spare held fuel 31 cs = some x) : ∃ z : Value × Prt, cs = [.int .u64 z.2.b.1, .int .u64 z.2.b.2, .int .u64 z.2.t.1, .int .u64 z.2.t.2, .int .i64 z.2.f, .int .i64 z.2.a, z.1] ∧ (InC w z.1 z.2.cs ∧ wfPr z.2) := by
  obtain ⟨b, t, f, a, z, rfl, hb, ht, hfw, haw, hz⟩ := open_part_at h
  exact ⟨(z.1, ⟨b, t, f, a, z.2⟩), rfl, hz, hb, ht, hfw, haw⟩
end
theorem msg_shape : (Tryz.prog.fieldsOf 33).toList.map (fun f => (f.type, f.offset)) = [(3, 0), (22, 1), (3, 2), (22, 3), (23, 4), (3, 5), (4, 6), (3, 7), (2, 8), (26, 9), (3, 13), (28, 14), (28, 16), (3, 18), (31, 19)] := by kernel_rfl
section
variable {H : Type} {enc : TypeId × Value → H} {w : World} {base : Nat} {spare : Nat → Bool} {held : Bool} {fuel : Nat} {cs : List Value} {x : DataW H × List MemPlace}
set_option maxRecDepth 100000 in
theorem open_msg_at (h : DataW.trod enc Tryz.prog w base spare held fuel 33 cs = some x) (hfz : w.noneFrozen x.2) : ∃ (z0 : Int) (z1 : Int) (z2 : Int) (z3 : Int) (z4 : Value × List En) (z5 : Int) (z6 : Bool) (z7 : Int) (z8 : Int) (z9 : Value × Ln) (z10 : Int) (z11 : Gd) (z12 : Gd) (z13 : Int) (z14 : Value × Prt), cs = [.int .i64 z0, .int .u64 z1, .int .i64 z2, .int .u64 z3, z4.1, .int .i64 z5, .bool z6, .int .i64 z7, .int .i64 z8, .int .u64 z9.2.E, .int .i64 z9.2.B, .bool z9.2.L, z9.1, .int .i64 z10, .int .u64 z11.1, .int .u64 z11.2, .int .u64 z12.1, .int .u64 z12.2, .int .i64 z13, .int .u64 z14.2.b.1, .int .u64 z14.2.b.2, .int .u64 z14.2.t.1, .int .u64 z14.2.t.2, .int .i64 z14.2.f, .int .i64 z14.2.a, z14.1] ∧ (Lit.int .i64 z0).wf = true ∧ (Lit.int .u64 z1).wf = true ∧ (Lit.int .i64 z2).wf = true ∧ (Lit.int .u64 z3).wf = true ∧ InE w z4.1 z4.2 ∧ (Lit.int .i64 z5).wf = true ∧ (Lit.int .i64 z7).wf = true ∧ (Lit.int .i64 z8).wf = true ∧ (InG w z9.1 z9.2.l ∧ u64 z9.2.E ∧ i64 z9.2.B) ∧ (Lit.int .i64 z10).wf = true ∧ wfG z11 ∧ wfG z12 ∧ (Lit.int .i64 z13).wf = true ∧ (InC w z14.1 z14.2.cs ∧ wfPr z14.2) := by
  obtain ⟨xs, n, _, hx2, hlen, hxs, hx⟩ := DataW.trod_struct (show Tryz.prog.underlying 33 = some (.struct (Tryz.prog.fieldsOf 33)) from by kernel_rfl) h
  have hs : (Tryz.prog.fieldsOf 33).size = 15 := by kernel_rfl
  rw [show Tryz.prog.cellsOf 33 = 26 from by kernel_rfl] at hlen
  obtain ⟨f0, h0, t0, o0⟩ := field_at msg_shape 0 _ _ rfl
  have e0 := hx 0 f0 h0
  rw [t0, o0, show Tryz.prog.cellsOf 3 = 1 from by kernel_rfl, List.getElem?_eq_getElem (by omega)] at e0
  obtain ⟨z0, c0, _, w0⟩ := DataW.trod_int Tryz.underlying3 e0
  obtain ⟨f1, h1, t1, o1⟩ := field_at msg_shape 1 _ _ rfl
  have e1 := hx 1 f1 h1
  rw [t1, o1, show Tryz.prog.cellsOf 22 = 1 from by kernel_rfl, List.getElem?_eq_getElem (by omega)] at e1
  obtain ⟨z1, c1, _, w1⟩ := DataW.trod_int Tryz.underlying22 e1
  obtain ⟨f2, h2, t2, o2⟩ := field_at msg_shape 2 _ _ rfl
  have e2 := hx 2 f2 h2
  rw [t2, o2, show Tryz.prog.cellsOf 3 = 1 from by kernel_rfl, List.getElem?_eq_getElem (by omega)] at e2
  obtain ⟨z2, c2, _, w2⟩ := DataW.trod_int Tryz.underlying3 e2
  obtain ⟨f3, h3, t3, o3⟩ := field_at msg_shape 3 _ _ rfl
  have e3 := hx 3 f3 h3
  rw [t3, o3, show Tryz.prog.cellsOf 22 = 1 from by kernel_rfl, List.getElem?_eq_getElem (by omega)] at e3
  obtain ⟨z3, c3, _, w3⟩ := DataW.trod_int Tryz.underlying22 e3
  obtain ⟨f4, h4, t4, o4⟩ := field_at msg_shape 4 _ _ rfl
  have e4 := hx 4 f4 h4
  rw [t4, o4, show Tryz.prog.cellsOf 23 = 1 from by kernel_rfl, List.getElem?_eq_getElem (by omega)] at e4
  obtain ⟨z4, c4, w4⟩ := open_ents_at e4 (fun b off h => hfz b off (by rw [hx2]; exact List.mem_flatMap.2 ⟨_, List.getElem_mem _, h⟩))
  obtain ⟨f5, h5, t5, o5⟩ := field_at msg_shape 5 _ _ rfl
  have e5 := hx 5 f5 h5
  rw [t5, o5, show Tryz.prog.cellsOf 3 = 1 from by kernel_rfl, List.getElem?_eq_getElem (by omega)] at e5
  obtain ⟨z5, c5, _, w5⟩ := DataW.trod_int Tryz.underlying3 e5
  obtain ⟨f6, h6, t6, o6⟩ := field_at msg_shape 6 _ _ rfl
  have e6 := hx 6 f6 h6
  rw [t6, o6, show Tryz.prog.cellsOf 4 = 1 from by kernel_rfl, List.getElem?_eq_getElem (by omega)] at e6
  obtain ⟨z6, c6, _⟩ := DataW.trod_bool Tryz.underlying4 e6
  obtain ⟨f7, h7, t7, o7⟩ := field_at msg_shape 7 _ _ rfl
  have e7 := hx 7 f7 h7
  rw [t7, o7, show Tryz.prog.cellsOf 3 = 1 from by kernel_rfl, List.getElem?_eq_getElem (by omega)] at e7
  obtain ⟨z7, c7, _, w7⟩ := DataW.trod_int Tryz.underlying3 e7
  obtain ⟨f8, h8, t8, o8⟩ := field_at msg_shape 8 _ _ rfl
  have e8 := hx 8 f8 h8
  rw [t8, o8, show Tryz.prog.cellsOf 2 = 1 from by kernel_rfl, List.getElem?_eq_getElem (by omega)] at e8
  obtain ⟨z8, c8, _, w8⟩ := DataW.trod_int Tryz.underlying2 e8
  obtain ⟨f9, h9, t9, o9⟩ := field_at msg_shape 9 _ _ rfl
  have e9 := hx 9 f9 h9
  rw [t9, o9, show Tryz.prog.cellsOf 26 = 4 from by kernel_rfl, List.getElem?_eq_getElem (by omega)] at e9
  obtain ⟨z9, c9, w9⟩ := open_ln_at e9
  obtain ⟨f10, h10, t10, o10⟩ := field_at msg_shape 10 _ _ rfl
  have e10 := hx 10 f10 h10
  rw [t10, o10, show Tryz.prog.cellsOf 3 = 1 from by kernel_rfl, List.getElem?_eq_getElem (by omega)] at e10
  obtain ⟨z10, c10, _, w10⟩ := DataW.trod_int Tryz.underlying3 e10
  obtain ⟨f11, h11, t11, o11⟩ := field_at msg_shape 11 _ _ rfl
  have e11 := hx 11 f11 h11
  rw [t11, o11, show Tryz.prog.cellsOf 28 = 2 from by kernel_rfl, List.getElem?_eq_getElem (by omega)] at e11
  obtain ⟨z11, c11, w11⟩ := open_gd_at e11
  obtain ⟨f12, h12, t12, o12⟩ := field_at msg_shape 12 _ _ rfl
  have e12 := hx 12 f12 h12
  rw [t12, o12, show Tryz.prog.cellsOf 28 = 2 from by kernel_rfl, List.getElem?_eq_getElem (by omega)] at e12
  obtain ⟨z12, c12, w12⟩ := open_gd_at e12
  obtain ⟨f13, h13, t13, o13⟩ := field_at msg_shape 13 _ _ rfl
  have e13 := hx 13 f13 h13
  rw [t13, o13, show Tryz.prog.cellsOf 3 = 1 from by kernel_rfl, List.getElem?_eq_getElem (by omega)] at e13
  obtain ⟨z13, c13, _, w13⟩ := DataW.trod_int Tryz.underlying3 e13
  obtain ⟨f14, h14, t14, o14⟩ := field_at msg_shape 14 _ _ rfl
  have e14 := hx 14 f14 h14
  rw [t14, o14, show Tryz.prog.cellsOf 31 = 7 from by kernel_rfl, List.getElem?_eq_getElem (by omega)] at e14
  obtain ⟨z14, c14, w14⟩ := open_prt_at e14
  refine ⟨z0, z1, z2, z3, z4, z5, z6, z7, z8, z9, z10, z11, z12, z13, z14, list_eq hlen fun i hi => ?_, w0, w1, w2, w3, w4, w5, w7, w8, w9, w10, w11, w12, w13, w14⟩
  have hi2 : i = 0 ∨ i = 1 ∨ i = 2 ∨ i = 3 ∨ i = 4 ∨ i = 5 ∨ i = 6 ∨ i = 7 ∨ i = 8 ∨ i = 9 ∨ i = 10 ∨ i = 11 ∨ i = 12 ∨ i = 13 ∨ i = 14 ∨ i = 15 ∨ i = 16 ∨ i = 17 ∨ i = 18 ∨ i = 19 ∨ i = 20 ∨ i = 21 ∨ i = 22 ∨ i = 23 ∨ i = 24 ∨ i = 25 := by
    have : i < 26 := hi
    omega
  clear hi
  rcases hi2 with rfl | rfl | rfl | rfl | rfl | rfl | rfl | rfl | rfl | rfl | rfl | rfl | rfl | rfl | rfl | rfl | rfl | rfl | rfl | rfl | rfl | rfl | rfl | rfl | rfl | rfl
  · exact take_at c0 0 _ rfl
  · exact take_at c1 0 _ rfl
  · exact take_at c2 0 _ rfl
  · exact take_at c3 0 _ rfl
  · exact take_at c4 0 _ rfl
  · exact take_at c5 0 _ rfl
  · exact take_at c6 0 _ rfl
  · exact take_at c7 0 _ rfl
  · exact take_at c8 0 _ rfl
  · exact take_at c9 0 _ rfl
  · exact take_at c9 1 _ rfl
  · exact take_at c9 2 _ rfl
  · exact take_at c9 3 _ rfl
  · exact take_at c10 0 _ rfl
  · exact take_at c11 0 _ rfl
  · exact take_at c11 1 _ rfl
  · exact take_at c12 0 _ rfl
  · exact take_at c12 1 _ rfl
  · exact take_at c13 0 _ rfl
  · exact take_at c14 0 _ rfl
  · exact take_at c14 1 _ rfl
  · exact take_at c14 2 _ rfl
  · exact take_at c14 3 _ rfl
  · exact take_at c14 4 _ rfl
  · exact take_at c14 5 _ rfl
  · exact take_at c14 6 _ rfl
end
section
variable {H : Type} {enc : TypeId × Value → H} {w : World} {base : Nat} {spare : Nat → Bool} {held : Bool} {r : Reach} {b0 : Nat} {v : Value} {d : DataW H} {ps : List MemPlace}
set_option maxRecDepth 100000 in
theorem open_msg (hval : Value.okWide Tryz.prog w r b0 33 v) (hd : DataW.Trod enc Tryz.prog w base spare held 33 v d ps) (hfz : w.noneFrozen ps) :
    ∃ m : Ms, InMs w v m ∧ True := by
  have hu : Tryz.prog.underlying 33 = some (.struct (Tryz.prog.fieldsOf 33)) := by kernel_rfl
  obtain ⟨cs, rfl, hsz⟩ := okWide_struct hu hval
  obtain ⟨fuel, hf⟩ := hd
  obtain ⟨z0, z1, z2, z3, z4, z5, z6, z7, z8, z9, z10, z11, z12, z13, z14, hcs, h0, h1, h2, h3, h4, h5, h7, h8, h9, h10, h11, h12, h13, h14⟩ := open_msg_at hf hfz
  refine ⟨⟨z0, z1, z2, z3, z4.2, z5, z6, z7, z8, z9.2, z10, z11, z12, z13, z14.2⟩, ⟨z4.1, z9.1, z14.1, ?_, h4, h9.1, h14.1, ⟨h0, h1, h2, h3, h5, h7, h8, h9.2.1, h9.2.2, h10, h11, h12, h13, h14.2⟩⟩, trivial⟩
  congr 1
  apply Array.ext'
  simpa [Value.cells, msA] using hcs
end
end Go.Proofs.YtikimmhkfjaijaaGreat
