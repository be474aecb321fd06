/-
  TABLES THAT COME IN, OPENED (printed by wip/gen-openmet.py).
-/
import Derived.Test.YtimgecflcackbaaMetN
import Derived.Test.YtimgecflcackbaaOpen2
import Derived.SizedLaws
namespace Go.Proofs.Ytimgecflcackbaa
open Go.ChangeShapes Go.WideShapes Go.RowKit

theorem list_eq {l l' : List Value} (h : l.length = l'.length) (h2 : ∀ i, i < l'.length → l[i]? = l'[i]?) : l = l' := by
  refine List.ext_getElem? fun i => ?_
  by_cases hi : i < l'.length
  · exact h2 i hi
  · rw [List.getElem?_eq_none (by omega), List.getElem?_eq_none (by omega)]
theorem field_at {fs : Array Field} {l : List (TypeId × Nat)} (h : fs.toList.map (fun f => (f.type, f.offset)) = l) (i : Nat) (t : TypeId) (o : Nat) (hl : l[i]? = some (t, o)) : ∃ f, fs[i]? = some f ∧ f.type = t ∧ f.offset = o := by
  rw [← h, List.getElem?_map, Option.map_eq_some_iff] at hl
  obtain ⟨f, hf, e⟩ := hl
  simp only [Prod.mk.injEq] at e
  exact ⟨f, by simpa using hf, e.1, e.2⟩
theorem take_at {l m : List Value} {o n : Nat} (h : (l.drop o).take n = m) (i : Nat) (x : Value) (hx : m[i]? = some x) : l[o + i]? = some x := by
  rw [← h] at hx
  rcases Nat.lt_or_ge i n with q | q
  · rwa [List.getElem?_take_of_lt q, List.getElem?_drop] at hx
  · rw [List.getElem?_eq_none (by rw [List.length_take]; omega)] at hx
    cases hx
section
variable {H : Type} {enc : TypeId × Value → H} {w : World} {base : Nat} {spare : Nat → Bool} {held : Bool}
/-- a slice whose elements take k cells each -/
theorem open_rows {α : Type} {t e : TypeId} {k : Nat} (ht : Try.prog.underlying t = some (.slice e)) (hk : Try.prog.cellsOf e = k) (k0 : 0 < k) (Q : List Value → α → Prop) (inh : α)
    (hQ : ∀ fuel cs y, DataW.trod enc Try.prog w base spare held fuel e cs = some y → ∃ z, Q cs z) {fuel : Nat} {cs : List Value} {x : DataW H × List MemPlace} (h : DataW.trod enc Try.prog w base spare held fuel t cs = some x) :
    ∃ (a : Option Addr) (n c : Nat) (f : Nat → α), cs = [.slice a n c] ∧ (n = 0 ∨ n ≤ c) ∧ n ≤ maxLen ∧ ∀ j, j < n → ∃ g off ds, a = some ⟨g, off, none⟩ ∧ Q ds (f j) ∧ ∀ i, i < k → w.cell? ⟨g, off + j * k + i, none⟩ = ds[i]? := by
  rcases DataW.trod_slice ht h with ⟨rfl, _⟩ | ⟨a, len, cap, elems, rest, n, _, rfl, hx, hb, hl, hm, hlen, hel, _, _⟩
  · exact ⟨none, 0, 0, fun _ => inh, rfl, .inl rfl, Nat.zero_le _, fun j hj => by omega⟩
  · rw [hk] at hel
    rcases Nat.eq_zero_or_pos len with rfl | hp
    · exact ⟨_, _, cap, fun _ => inh, rfl, .inl rfl, Nat.zero_le _, fun j hj => by omega⟩
    · obtain ⟨b, off, spot⟩ := a
      have hspot : spot = none := by
        have h1 := hel 0 hp
        rw [List.getElem?_eq_getElem (by omega), Option.bind_eq_some_iff] at h1
        obtain ⟨ds, hds, hy⟩ := h1
        obtain ⟨-, hdl, hdc⟩ := World.cells?_some hds
        have hd0 : w.cell? ((Addr.add ⟨b, off, spot⟩ (0 * k)).add 0) = some (ds[0]'(by omega)) := (hdc 0 (by omega)).trans (List.getElem?_eq_getElem (by omega))
        simpa [Addr.add] using World.cell?_spot hd0
      subst hspot
      have each : ∀ i, i < len → ∃ z ds, Q ds z ∧ ∀ j, j < k → w.cell? ⟨b, off + i * k + j, none⟩ = ds[j]? := by
        intro i hi
        have h1 := hel i hi
        rw [List.getElem?_eq_getElem (by omega), Option.bind_eq_some_iff] at h1
        obtain ⟨ds, hds, hy⟩ := h1
        obtain ⟨-, hdl, hdc⟩ := World.cells?_some hds
        obtain ⟨z, hz⟩ := hQ _ _ _ hy
        refine ⟨z, ds, hz, fun j hj => ?_⟩
        have := hdc j hj
        rwa [addr_add, addr_add] at this
      have ch : ∀ i : Nat, ∃ z, i < len → ∃ ds, Q ds z ∧ ∀ j, j < k → w.cell? ⟨b, off + i * k + j, none⟩ = ds[j]? := by
        intro i
        by_cases hi : i < len
        · obtain ⟨z, hz⟩ := each i hi
          exact ⟨z, fun _ => hz⟩
        · exact ⟨inh, fun h => absurd h hi⟩
      refine ⟨_, len, cap, fun i => Classical.choose (ch i), rfl, .inr hl, by omega, fun j hj => ?_⟩
      obtain ⟨ds, h1, h2⟩ := Classical.choose_spec (ch j) hj
      exact ⟨b, off, ds, rfl, h1, h2⟩
end
theorem guid_shape : (Try.prog.fieldsOf 26).toList.map (fun f => (f.type, f.offset)) = [(24, 0), (24, 1)] := by kernel_rfl
section
variable {H : Type} {enc : TypeId × Value → H} {w : World} {base : Nat} {spare : Nat → Bool} {held : Bool} {fuel : Nat} {cs : List Value} {x : DataW H × List MemPlace}
set_option maxRecDepth 100000 in
theorem open_guid_at (h : DataW.trod enc Try.prog w base spare held fuel 26 cs = some x) : ∃ (z0 : Int) (z1 : Int), cs = [.int .u64 z0, .int .u64 z1] ∧ (Lit.int .u64 z0).wf = true ∧ (Lit.int .u64 z1).wf = true := by
  obtain ⟨xs, n, _, _, hlen, hxs, hx⟩ := DataW.trod_struct (show Try.prog.underlying 26 = some (.struct (Try.prog.fieldsOf 26)) from by kernel_rfl) h
  have hs : (Try.prog.fieldsOf 26).size = 2 := by kernel_rfl
  rw [show Try.prog.cellsOf 26 = 2 from by kernel_rfl] at hlen
  obtain ⟨f0, h0, t0, o0⟩ := field_at guid_shape 0 _ _ rfl
  have e0 := hx 0 f0 h0
  rw [t0, o0, show Try.prog.cellsOf 24 = 1 from by kernel_rfl, List.getElem?_eq_getElem (by omega)] at e0
  obtain ⟨z0, c0, _, w0⟩ := DataW.trod_int Try.underlying24 e0
  obtain ⟨f1, h1, t1, o1⟩ := field_at guid_shape 1 _ _ rfl
  have e1 := hx 1 f1 h1
  rw [t1, o1, show Try.prog.cellsOf 24 = 1 from by kernel_rfl, List.getElem?_eq_getElem (by omega)] at e1
  obtain ⟨z1, c1, _, w1⟩ := DataW.trod_int Try.underlying24 e1
  refine ⟨z0, z1, list_eq hlen fun i hi => ?_, w0, w1⟩
  have hi2 : i = 0 ∨ i = 1 := by
    have : i < 2 := hi
    omega
  clear hi
  rcases hi2 with rfl | rfl
  · exact take_at c0 0 _ rfl
  · exact take_at c1 0 _ rfl
end

section
variable {H : Type} {enc : TypeId × Value → H} {w : World} {base : Nat} {spare : Nat → Bool} {held : Bool} {fuel : Nat} {cs : List Value} {x : DataW H × List MemPlace}
theorem open_gd_at (h : DataW.trod enc Try.prog w base spare held fuel 26 cs = some x) : ∃ g : Gd, cs = [.int .u64 g.1, .int .u64 g.2] ∧ wfG g := by
  obtain ⟨a, b, rfl, h1, h2⟩ := open_guid_at h
  exact ⟨(a, b), rfl, h1, h2⟩
end

theorem InI.ofCells {w : World} {a : Option Addr} {n c : Nat} {f : Nat → Int} (hc : n = 0 ∨ n ≤ c) (hm : n ≤ maxLen) (hx : ∀ j, j < n → (∃ g off, a = some ⟨g, off, none⟩ ∧ w.cell? ⟨g, off + j, none⟩ = some (.int .i64 (f j))) ∧ (Lit.int .i64 (f j)).wf = true) : InI w (.slice a n c) ((List.range n).map f) := by
  have hlen : ((List.range n).map f).length = n := by simp
  refine ⟨?_, by rw [hlen]; exact hm, fun z hz => ?_⟩
  · rw [hlen]
    rcases Nat.eq_zero_or_pos n with rfl | hp
    · exact .inl ⟨a, c, rfl, rfl, rfl⟩
    · obtain ⟨⟨g, off, rfl, -⟩, -⟩ := hx 0 hp
      refine .inr ⟨hp, by simp, .inr ⟨g, off, c, rfl, by omega, fun j u hu => ?_⟩⟩
      have hj : j < n := by
        rcases Nat.lt_or_ge j n with q | q
        · exact q
        · rw [List.getElem?_eq_none (by simpa using q)] at hu; cases hu
      obtain ⟨⟨g', off', e, h1⟩, -⟩ := hx j hj
      simp only [Option.some.injEq, Addr.mk.injEq, and_true] at e
      obtain ⟨rfl, rfl⟩ := e
      rw [h1]
      simp [hj] at hu
      rw [hu]
  · obtain ⟨j, hj, rfl⟩ := List.mem_map.1 hz
    exact (hx j (List.mem_range.1 hj)).2
section
variable {H : Type} {enc : TypeId × Value → H} {w : World} {base : Nat} {spare : Nat → Bool} {held : Bool} {fuel : Nat} {cs : List Value} {x : DataW H × List MemPlace}
theorem open_ints_at (h : DataW.trod enc Try.prog w base spare held fuel 22 cs = some x) : ∃ z : Value × List Int, cs = [z.1] ∧ InI w z.1 z.2 := by
  obtain ⟨a, n, c, f, rfl, hc, hm, hx⟩ := open_rows Try.underlying22 (k := 1) (by kernel_rfl) (by omega) (fun ds (z : Int) => ds = [.int .i64 z] ∧ (Lit.int .i64 z).wf = true) 0 (fun fuel cs y hy => by
    obtain ⟨z, rfl, _, hw⟩ := DataW.trod_int Try.underlying3 hy
    exact ⟨z, rfl, hw⟩) h
  refine ⟨(.slice a n c, (List.range n).map f), rfl, InI.ofCells hc hm fun j hj => ?_⟩
  obtain ⟨g, off, ds, h1, ⟨h2, hw⟩, h3⟩ := hx j hj
  have := h3 0 (by omega)
  rw [h2] at this
  exact ⟨⟨g, off, h1, by simpa using this⟩, hw⟩
end
theorem snap_shape : (Try.prog.fieldsOf 48).toList.map (fun f => (f.type, f.offset)) = [(26, 0), (22, 2), (4, 3)] := by kernel_rfl
section
variable {H : Type} {enc : TypeId × Value → H} {w : World} {base : Nat} {spare : Nat → Bool} {held : Bool} {fuel : Nat} {cs : List Value} {x : DataW H × List MemPlace}
set_option maxRecDepth 100000 in
theorem open_snap_at (h : DataW.trod enc Try.prog w base spare held fuel 48 cs = some x) : ∃ (z0 : Gd) (z1 : Value × List Int) (z2 : Bool), cs = [.int .u64 z0.1, .int .u64 z0.2, z1.1, .bool z2] ∧ wfG z0 ∧ InI w z1.1 z1.2 := by
  obtain ⟨xs, n, _, _, hlen, hxs, hx⟩ := DataW.trod_struct (show Try.prog.underlying 48 = some (.struct (Try.prog.fieldsOf 48)) from by kernel_rfl) h
  have hs : (Try.prog.fieldsOf 48).size = 3 := by kernel_rfl
  rw [show Try.prog.cellsOf 48 = 4 from by kernel_rfl] at hlen
  obtain ⟨f0, h0, t0, o0⟩ := field_at snap_shape 0 _ _ rfl
  have e0 := hx 0 f0 h0
  rw [t0, o0, show Try.prog.cellsOf 26 = 2 from by kernel_rfl, List.getElem?_eq_getElem (by omega)] at e0
  obtain ⟨z0, c0, w0⟩ := open_gd_at e0
  obtain ⟨f1, h1, t1, o1⟩ := field_at snap_shape 1 _ _ rfl
  have e1 := hx 1 f1 h1
  rw [t1, o1, show Try.prog.cellsOf 22 = 1 from by kernel_rfl, List.getElem?_eq_getElem (by omega)] at e1
  obtain ⟨z1, c1, w1⟩ := open_ints_at e1
  obtain ⟨f2, h2, t2, o2⟩ := field_at snap_shape 2 _ _ rfl
  have e2 := hx 2 f2 h2
  rw [t2, o2, show Try.prog.cellsOf 4 = 1 from by kernel_rfl, List.getElem?_eq_getElem (by omega)] at e2
  obtain ⟨z2, c2, _⟩ := DataW.trod_bool Try.underlying4 e2
  refine ⟨z0, z1, z2, list_eq hlen fun i hi => ?_, w0, w1⟩
  have hi2 : i = 0 ∨ i = 1 ∨ i = 2 ∨ i = 3 := by
    have : i < 4 := hi
    omega
  clear hi
  rcases hi2 with rfl | rfl | rfl | rfl
  · exact take_at c0 0 _ rfl
  · exact take_at c0 1 _ rfl
  · exact take_at c1 0 _ rfl
  · exact take_at c2 0 _ rfl
end
section
variable {H : Type} {enc : TypeId × Value → H} {w : World} {base : Nat} {spare : Nat → Bool} {held : Bool} {fuel : Nat} {cs : List Value} {x : DataW H × List MemPlace}
theorem open_snaps_at (h : DataW.trod enc Try.prog w base spare held fuel 23 cs = some x) : ∃ z : Value × List Sn, cs = [z.1] ∧ InS w z.1 z.2 := by
  obtain ⟨a, n, c, f, rfl, hc, hm, hx⟩ := open_rows Try.underlying23 (k := 4) (by kernel_rfl) (by omega) (fun ds (z : Gd × (Value × List Int) × Bool) => ds = [.int .u64 z.1.1, .int .u64 z.1.2, z.2.1.1, .bool z.2.2] ∧ wfG z.1 ∧ InI w z.2.1.1 z.2.1.2) ((0, 0), (.slice none 0 0, []), false) (fun fuel cs y hy => by
    obtain ⟨z0, z1, z2, rfl, h0, h1⟩ := open_snap_at hy
    exact ⟨(z0, z1, z2), rfl, h0, h1⟩) h
  have hlen : ((List.range n).map fun j => (⟨(f j).1, (f j).2.1.2, (f j).2.2⟩ : Sn)).length = n := by simp
  refine ⟨(.slice a n c, (List.range n).map fun j => ⟨(f j).1, (f j).2.1.2, (f j).2.2⟩), rfl, a, c, by rw [hlen], by rw [hlen]; exact hm, fun j hj => ?_⟩
  rw [hlen] at hj
  obtain ⟨g, off, ds, h1, ⟨h2, hw, hi⟩, h3⟩ := hx j hj
  have hget : ((List.range n).map fun j => (⟨(f j).1, (f j).2.1.2, (f j).2.2⟩ : Sn)).getD j snap0 = ⟨(f j).1, (f j).2.1.2, (f j).2.2⟩ := by simp [hj]
  rw [hget]
  rw [h2] at h3
  exact ⟨g, off, (f j).2.1.1, h1, h3 0 (by omega), h3 1 (by omega), h3 2 (by omega), hi, h3 3 (by omega), hw⟩
end
theorem tok_shape : (Try.prog.fieldsOf 28).toList.map (fun f => (f.type, f.offset)) = [(26, 0), (26, 2), (3, 4), (3, 5), (22, 6)] := by kernel_rfl
section
variable {H : Type} {enc : TypeId × Value → H} {w : World} {base : Nat} {spare : Nat → Bool} {held : Bool} {fuel : Nat} {cs : List Value} {x : DataW H × List MemPlace}
set_option maxRecDepth 100000 in
theorem open_tok_at (h : DataW.trod enc Try.prog w base spare held fuel 28 cs = some x) : ∃ (z0 : Gd) (z1 : Gd) (z2 : Int) (z3 : Int) (z4 : Value × List Int), cs = [.int .u64 z0.1, .int .u64 z0.2, .int .u64 z1.1, .int .u64 z1.2, .int .i64 z2, .int .i64 z3, z4.1] ∧ wfG z0 ∧ wfG z1 ∧ (Lit.int .i64 z2).wf = true ∧ (Lit.int .i64 z3).wf = true ∧ InI w z4.1 z4.2 := by
  obtain ⟨xs, n, _, _, hlen, hxs, hx⟩ := DataW.trod_struct (show Try.prog.underlying 28 = some (.struct (Try.prog.fieldsOf 28)) from by kernel_rfl) h
  have hs : (Try.prog.fieldsOf 28).size = 5 := by kernel_rfl
  rw [show Try.prog.cellsOf 28 = 7 from by kernel_rfl] at hlen
  obtain ⟨f0, h0, t0, o0⟩ := field_at tok_shape 0 _ _ rfl
  have e0 := hx 0 f0 h0
  rw [t0, o0, show Try.prog.cellsOf 26 = 2 from by kernel_rfl, List.getElem?_eq_getElem (by omega)] at e0
  obtain ⟨z0, c0, w0⟩ := open_gd_at e0
  obtain ⟨f1, h1, t1, o1⟩ := field_at tok_shape 1 _ _ rfl
  have e1 := hx 1 f1 h1
  rw [t1, o1, show Try.prog.cellsOf 26 = 2 from by kernel_rfl, List.getElem?_eq_getElem (by omega)] at e1
  obtain ⟨z1, c1, w1⟩ := open_gd_at e1
  obtain ⟨f2, h2, t2, o2⟩ := field_at tok_shape 2 _ _ rfl
  have e2 := hx 2 f2 h2
  rw [t2, o2, show Try.prog.cellsOf 3 = 1 from by kernel_rfl, List.getElem?_eq_getElem (by omega)] at e2
  obtain ⟨z2, c2, _, w2⟩ := DataW.trod_int Try.underlying3 e2
  obtain ⟨f3, h3, t3, o3⟩ := field_at tok_shape 3 _ _ rfl
  have e3 := hx 3 f3 h3
  rw [t3, o3, show Try.prog.cellsOf 3 = 1 from by kernel_rfl, List.getElem?_eq_getElem (by omega)] at e3
  obtain ⟨z3, c3, _, w3⟩ := DataW.trod_int Try.underlying3 e3
  obtain ⟨f4, h4, t4, o4⟩ := field_at tok_shape 4 _ _ rfl
  have e4 := hx 4 f4 h4
  rw [t4, o4, show Try.prog.cellsOf 22 = 1 from by kernel_rfl, List.getElem?_eq_getElem (by omega)] at e4
  obtain ⟨z4, c4, w4⟩ := open_ints_at e4
  refine ⟨z0, z1, z2, z3, z4, list_eq hlen fun i hi => ?_, w0, w1, w2, w3, w4⟩
  have hi2 : i = 0 ∨ i = 1 ∨ i = 2 ∨ i = 3 ∨ i = 4 ∨ i = 5 ∨ i = 6 := by
    have : i < 7 := hi
    omega
  clear hi
  rcases hi2 with rfl | rfl | rfl | rfl | rfl | rfl | rfl
  · exact take_at c0 0 _ rfl
  · exact take_at c0 1 _ rfl
  · exact take_at c1 0 _ rfl
  · exact take_at c1 1 _ rfl
  · exact take_at c2 0 _ rfl
  · exact take_at c3 0 _ rfl
  · exact take_at c4 0 _ rfl
end
section
variable {H : Type} {enc : TypeId × Value → H} {w : World} {base : Nat} {spare : Nat → Bool} {held : Bool} {fuel : Nat} {cs : List Value} {x : DataW H × List MemPlace}
theorem open_tk_at (h : DataW.trod enc Try.prog w base spare held fuel 28 cs = some x) : ∃ z : Value × Tk, cs = [.int .u64 z.2.base.1, .int .u64 z.2.base.2, .int .u64 z.2.target.1, .int .u64 z.2.target.2, .int .i64 z.2.next, .int .i64 z.2.all, z.1] ∧ InI w z.1 z.2.image ∧ wfTk z.2 := by
  obtain ⟨b, t, n, a, i, rfl, h1, h2, h3, h4, h5⟩ := open_tok_at h
  exact ⟨(i.1, ⟨b, t, n, a, i.2⟩), rfl, h5, h1, h2, h3, h4⟩
end
theorem mt_shape : (Try.prog.fieldsOf 30).toList.map (fun f => (f.type, f.offset)) = [(22, 0), (23, 1), (28, 2)] := by kernel_rfl
section
variable {H : Type} {enc : TypeId × Value → H} {w : World} {base : Nat} {spare : Nat → Bool} {held : Bool} {fuel : Nat} {cs : List Value} {x : DataW H × List MemPlace}
set_option maxRecDepth 100000 in
theorem open_mt_at (h : DataW.trod enc Try.prog w base spare held fuel 30 cs = some x) : ∃ (z0 : Value × List Int) (z1 : Value × List Sn) (z2 : Value × Tk), cs = [z0.1, z1.1, .int .u64 z2.2.base.1, .int .u64 z2.2.base.2, .int .u64 z2.2.target.1, .int .u64 z2.2.target.2, .int .i64 z2.2.next, .int .i64 z2.2.all, z2.1] ∧ InI w z0.1 z0.2 ∧ InS w z1.1 z1.2 ∧ (InI w z2.1 z2.2.image ∧ wfTk z2.2) := by
  obtain ⟨xs, n, _, _, hlen, hxs, hx⟩ := DataW.trod_struct (show Try.prog.underlying 30 = some (.struct (Try.prog.fieldsOf 30)) from by kernel_rfl) h
  have hs : (Try.prog.fieldsOf 30).size = 3 := by kernel_rfl
  rw [show Try.prog.cellsOf 30 = 9 from by kernel_rfl] at hlen
  obtain ⟨f0, h0, t0, o0⟩ := field_at mt_shape 0 _ _ rfl
  have e0 := hx 0 f0 h0
  rw [t0, o0, show Try.prog.cellsOf 22 = 1 from by kernel_rfl, List.getElem?_eq_getElem (by omega)] at e0
  obtain ⟨z0, c0, w0⟩ := open_ints_at e0
  obtain ⟨f1, h1, t1, o1⟩ := field_at mt_shape 1 _ _ rfl
  have e1 := hx 1 f1 h1
  rw [t1, o1, show Try.prog.cellsOf 23 = 1 from by kernel_rfl, List.getElem?_eq_getElem (by omega)] at e1
  obtain ⟨z1, c1, w1⟩ := open_snaps_at e1
  obtain ⟨f2, h2, t2, o2⟩ := field_at mt_shape 2 _ _ rfl
  have e2 := hx 2 f2 h2
  rw [t2, o2, show Try.prog.cellsOf 28 = 7 from by kernel_rfl, List.getElem?_eq_getElem (by omega)] at e2
  obtain ⟨z2, c2, w2⟩ := open_tk_at e2
  refine ⟨z0, z1, z2, list_eq hlen fun i hi => ?_, w0, w1, w2⟩
  have hi2 : i = 0 ∨ i = 1 ∨ i = 2 ∨ i = 3 ∨ i = 4 ∨ i = 5 ∨ i = 6 ∨ i = 7 ∨ i = 8 := by
    have : i < 9 := hi
    omega
  clear hi
  rcases hi2 with rfl | rfl | rfl | rfl | rfl | rfl | rfl | rfl | rfl
  · exact take_at c0 0 _ rfl
  · exact take_at c1 0 _ rfl
  · exact take_at c2 0 _ rfl
  · exact take_at c2 1 _ rfl
  · exact take_at c2 2 _ rfl
  · exact take_at c2 3 _ rfl
  · exact take_at c2 4 _ rfl
  · exact take_at c2 5 _ rfl
  · exact take_at c2 6 _ rfl
end
section
variable {H : Type} {enc : TypeId × Value → H} {w : World} {base : Nat} {spare : Nat → Bool} {held : Bool} {r : Reach} {b0 : Nat} {v : Value} {d : DataW H} {ps : List MemPlace}
theorem open_meta (hval : Value.okWide Try.prog w r b0 30 v) (hd : DataW.Trod enc Try.prog w base spare held 30 v d ps) (_ : ∀ n ∈ d.weights Try.prog 30, n ≤ reachBytes) :
    ∃ m : Mt, InMt w v m ∧ True := by
  have hu : Try.prog.underlying 30 = some (.struct (Try.prog.fieldsOf 30)) := by kernel_rfl
  obtain ⟨cs, rfl, hsz⟩ := okWide_struct hu hval
  obtain ⟨fuel, hf⟩ := hd
  obtain ⟨l, s, t, hcs, hl, hs, ht, hw⟩ := open_mt_at hf
  refine ⟨⟨l.2, s.2, t.2⟩, ⟨l.1, s.1, t.1, ?_, hl, hs, ht, hw⟩, trivial⟩
  unfold mtV
  congr 1
  apply Array.ext'
  simpa [Value.cells] using hcs
end
end Go.Proofs.Ytimgecflcackbaa
