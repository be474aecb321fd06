/-
  PARTS, MARKS, PAIRS OF GUIDS THAT COME IN, OPENED (printed by wip/gen-openstm.py).
-/
import Derived.Test.YtpfdpodelkleiaaStmK
import Derived.Test.YtpfdpodelkleiaaOpen2
import Derived.SizedLaws
namespace Go.Proofs.Ytpfdpodelkleiaa
open Go.ChangeShapes Go.WideShapes Go.RowKit

theorem list_eq {l l' : List Value} (h : l.length = l'.length) (h2 : ∀ i, i < l'.length → l[i]? = l'[i]?) : l = l' := by
  refine List.ext_getElem? fun i => ?_
  by_cases hi : i < l'.length
  · exact h2 i hi
  · rw [List.getElem?_eq_none (by omega), List.getElem?_eq_none (by omega)]
theorem field_at {fs : Array Field} {l : List (TypeId × Nat)} (h : fs.toList.map (fun f => (f.type, f.offset)) = l) (i : Nat) (t : TypeId) (o : Nat) (hl : l[i]? = some (t, o)) : ∃ f, fs[i]? = some f ∧ f.type = t ∧ f.offset = o := by
  rw [← h, List.getElem?_map, Option.map_eq_some_iff] at hl
  obtain ⟨f, hf, e⟩ := hl
  simp only [Prod.mk.injEq] at e
  exact ⟨f, by simpa using hf, e.1, e.2⟩
theorem take_at {l m : List Value} {o n : Nat} (h : (l.drop o).take n = m) (i : Nat) (x : Value) (hx : m[i]? = some x) : l[o + i]? = some x := by
  rw [← h] at hx
  rcases Nat.lt_or_ge i n with q | q
  · rwa [List.getElem?_take_of_lt q, List.getElem?_drop] at hx
  · rw [List.getElem?_eq_none (by rw [List.length_take]; omega)] at hx
    cases hx
section
variable {H : Type} {enc : TypeId × Value → H} {w : World} {base : Nat} {spare : Nat → Bool} {held : Bool}
/-- a slice whose elements take k cells each -/
theorem open_rows {α : Type} {t e : TypeId} {k : Nat} (ht : Try.prog.underlying t = some (.slice e)) (hk : Try.prog.cellsOf e = k) (k0 : 0 < k) (Q : List Value → α → Prop) (inh : α)
    (hQ : ∀ fuel cs y, DataW.trod enc Try.prog w base spare held fuel e cs = some y → ∃ z, Q cs z) {fuel : Nat} {cs : List Value} {x : DataW H × List MemPlace} (h : DataW.trod enc Try.prog w base spare held fuel t cs = some x) :
    ∃ (a : Option Addr) (n c : Nat) (f : Nat → α), cs = [.slice a n c] ∧ (n = 0 ∨ n ≤ c) ∧ n ≤ maxLen ∧ ∀ j, j < n → ∃ g off ds, a = some ⟨g, off, none⟩ ∧ Q ds (f j) ∧ ∀ i, i < k → w.cell? ⟨g, off + j * k + i, none⟩ = ds[i]? := by
  rcases DataW.trod_slice ht h with ⟨rfl, _⟩ | ⟨a, len, cap, elems, rest, n, _, rfl, hx, hb, hl, hm, hlen, hel, _, _⟩
  · exact ⟨none, 0, 0, fun _ => inh, rfl, .inl rfl, Nat.zero_le _, fun j hj => by omega⟩
  · rw [hk] at hel
    rcases Nat.eq_zero_or_pos len with rfl | hp
    · exact ⟨_, _, cap, fun _ => inh, rfl, .inl rfl, Nat.zero_le _, fun j hj => by omega⟩
    · obtain ⟨b, off, spot⟩ := a
      have hspot : spot = none := by
        have h1 := hel 0 hp
        rw [List.getElem?_eq_getElem (by omega), Option.bind_eq_some_iff] at h1
        obtain ⟨ds, hds, hy⟩ := h1
        obtain ⟨-, hdl, hdc⟩ := World.cells?_some hds
        have hd0 : w.cell? ((Addr.add ⟨b, off, spot⟩ (0 * k)).add 0) = some (ds[0]'(by omega)) := (hdc 0 (by omega)).trans (List.getElem?_eq_getElem (by omega))
        simpa [Addr.add] using World.cell?_spot hd0
      subst hspot
      have each : ∀ i, i < len → ∃ z ds, Q ds z ∧ ∀ j, j < k → w.cell? ⟨b, off + i * k + j, none⟩ = ds[j]? := by
        intro i hi
        have h1 := hel i hi
        rw [List.getElem?_eq_getElem (by omega), Option.bind_eq_some_iff] at h1
        obtain ⟨ds, hds, hy⟩ := h1
        obtain ⟨-, hdl, hdc⟩ := World.cells?_some hds
        obtain ⟨z, hz⟩ := hQ _ _ _ hy
        refine ⟨z, ds, hz, fun j hj => ?_⟩
        have := hdc j hj
        rwa [addr_add, addr_add] at this
      have ch : ∀ i : Nat, ∃ z, i < len → ∃ ds, Q ds z ∧ ∀ j, j < k → w.cell? ⟨b, off + i * k + j, none⟩ = ds[j]? := by
        intro i
        by_cases hi : i < len
        · obtain ⟨z, hz⟩ := each i hi
          exact ⟨z, fun _ => hz⟩
        · exact ⟨inh, fun h => absurd h hi⟩
      refine ⟨_, len, cap, fun i => Classical.choose (ch i), rfl, .inr hl, by omega, fun j hj => ?_⟩
      obtain ⟨ds, h1, h2⟩ := Classical.choose_spec (ch j) hj
      exact ⟨b, off, ds, rfl, h1, h2⟩
end
theorem guid_shape : (Try.prog.fieldsOf 24).toList.map (fun f => (f.type, f.offset)) = [(22, 0), (22, 1)] := by kernel_rfl
section
variable {H : Type} {enc : TypeId × Value → H} {w : World} {base : Nat} {spare : Nat → Bool} {held : Bool} {fuel : Nat} {cs : List Value} {x : DataW H × List MemPlace}
set_option maxRecDepth 100000 in
theorem open_guid_at (h : DataW.trod enc Try.prog w base spare held fuel 24 cs = some x) : ∃ (z0 : Int) (z1 : Int), cs = [.int .u64 z0, .int .u64 z1] ∧ (Lit.int .u64 z0).wf = true ∧ (Lit.int .u64 z1).wf = true := by
  obtain ⟨xs, n, _, _, hlen, hxs, hx⟩ := DataW.trod_struct (show Try.prog.underlying 24 = some (.struct (Try.prog.fieldsOf 24)) from by kernel_rfl) h
  have hs : (Try.prog.fieldsOf 24).size = 2 := by kernel_rfl
  rw [show Try.prog.cellsOf 24 = 2 from by kernel_rfl] at hlen
  obtain ⟨f0, h0, t0, o0⟩ := field_at guid_shape 0 _ _ rfl
  have e0 := hx 0 f0 h0
  rw [t0, o0, show Try.prog.cellsOf 22 = 1 from by kernel_rfl, List.getElem?_eq_getElem (by omega)] at e0
  obtain ⟨z0, c0, _, w0⟩ := DataW.trod_int Try.underlying22 e0
  obtain ⟨f1, h1, t1, o1⟩ := field_at guid_shape 1 _ _ rfl
  have e1 := hx 1 f1 h1
  rw [t1, o1, show Try.prog.cellsOf 22 = 1 from by kernel_rfl, List.getElem?_eq_getElem (by omega)] at e1
  obtain ⟨z1, c1, _, w1⟩ := DataW.trod_int Try.underlying22 e1
  refine ⟨z0, z1, list_eq hlen fun i hi => ?_, w0, w1⟩
  have hi2 : i = 0 ∨ i = 1 := by
    have : i < 2 := hi
    omega
  clear hi
  rcases hi2 with rfl | rfl
  · exact take_at c0 0 _ rfl
  · exact take_at c1 0 _ rfl
end

section
variable {H : Type} {enc : TypeId × Value → H} {w : World} {base : Nat} {spare : Nat → Bool} {held : Bool} {fuel : Nat} {cs : List Value} {x : DataW H × List MemPlace}
theorem open_gd_at (h : DataW.trod enc Try.prog w base spare held fuel 24 cs = some x) : ∃ g : Gd, cs = [.int .u64 g.1, .int .u64 g.2] ∧ wfG g := by
  obtain ⟨a, b, rfl, h1, h2⟩ := open_guid_at h
  exact ⟨(a, b), rfl, h1, h2⟩
end
theorem chg_shape : (Try.prog.fieldsOf 36).toList.map (fun f => (f.type, f.offset)) = [(3, 0), (9, 1)] := by kernel_rfl
section
variable {H : Type} {enc : TypeId × Value → H} {w : World} {base : Nat} {spare : Nat → Bool} {held : Bool} {fuel : Nat} {cs : List Value} {x : DataW H × List MemPlace}
set_option maxRecDepth 100000 in
theorem open_chg_at (h : DataW.trod enc Try.prog w base spare held fuel 36 cs = some x) : ∃ (z0 : Int) (z1 : ByteArray), cs = [.int .i64 z0, .string z1] ∧ (Lit.int .i64 z0).wf = true ∧ z1.size ≤ maxLen := by
  obtain ⟨xs, n, _, _, hlen, hxs, hx⟩ := DataW.trod_struct (show Try.prog.underlying 36 = some (.struct (Try.prog.fieldsOf 36)) from by kernel_rfl) h
  have hs : (Try.prog.fieldsOf 36).size = 2 := by kernel_rfl
  rw [show Try.prog.cellsOf 36 = 2 from by kernel_rfl] at hlen
  obtain ⟨f0, h0, t0, o0⟩ := field_at chg_shape 0 _ _ rfl
  have e0 := hx 0 f0 h0
  rw [t0, o0, show Try.prog.cellsOf 3 = 1 from by kernel_rfl, List.getElem?_eq_getElem (by omega)] at e0
  obtain ⟨z0, c0, _, w0⟩ := DataW.trod_int Try.underlying3 e0
  obtain ⟨f1, h1, t1, o1⟩ := field_at chg_shape 1 _ _ rfl
  have e1 := hx 1 f1 h1
  rw [t1, o1, show Try.prog.cellsOf 9 = 1 from by kernel_rfl, List.getElem?_eq_getElem (by omega)] at e1
  obtain ⟨z1, c1, _, w1⟩ := DataW.trod_string Try.underlying9 e1
  refine ⟨z0, z1, list_eq hlen fun i hi => ?_, w0, w1⟩
  have hi2 : i = 0 ∨ i = 1 := by
    have : i < 2 := hi
    omega
  clear hi
  rcases hi2 with rfl | rfl
  · exact take_at c0 0 _ rfl
  · exact take_at c1 0 _ rfl
end
theorem mark_shape : (Try.prog.fieldsOf 51).toList.map (fun f => (f.type, f.offset)) = [(3, 0), (5, 1), (4, 2)] := by kernel_rfl
section
variable {H : Type} {enc : TypeId × Value → H} {w : World} {base : Nat} {spare : Nat → Bool} {held : Bool} {fuel : Nat} {cs : List Value} {x : DataW H × List MemPlace}
set_option maxRecDepth 100000 in
theorem open_mark_at (h : DataW.trod enc Try.prog w base spare held fuel 51 cs = some x) : ∃ (z0 : Int) (z1 : Int) (z2 : Bool), cs = [.int .i64 z0, .int .u8 z1, .bool z2] ∧ (Lit.int .i64 z0).wf = true ∧ (Lit.int .u8 z1).wf = true := by
  obtain ⟨xs, n, _, _, hlen, hxs, hx⟩ := DataW.trod_struct (show Try.prog.underlying 51 = some (.struct (Try.prog.fieldsOf 51)) from by kernel_rfl) h
  have hs : (Try.prog.fieldsOf 51).size = 3 := by kernel_rfl
  rw [show Try.prog.cellsOf 51 = 3 from by kernel_rfl] at hlen
  obtain ⟨f0, h0, t0, o0⟩ := field_at mark_shape 0 _ _ rfl
  have e0 := hx 0 f0 h0
  rw [t0, o0, show Try.prog.cellsOf 3 = 1 from by kernel_rfl, List.getElem?_eq_getElem (by omega)] at e0
  obtain ⟨z0, c0, _, w0⟩ := DataW.trod_int Try.underlying3 e0
  obtain ⟨f1, h1, t1, o1⟩ := field_at mark_shape 1 _ _ rfl
  have e1 := hx 1 f1 h1
  rw [t1, o1, show Try.prog.cellsOf 5 = 1 from by kernel_rfl, List.getElem?_eq_getElem (by omega)] at e1
  obtain ⟨z1, c1, _, w1⟩ := DataW.trod_int Try.underlying5 e1
  obtain ⟨f2, h2, t2, o2⟩ := field_at mark_shape 2 _ _ rfl
  have e2 := hx 2 f2 h2
  rw [t2, o2, show Try.prog.cellsOf 4 = 1 from by kernel_rfl, List.getElem?_eq_getElem (by omega)] at e2
  obtain ⟨z2, c2, _⟩ := DataW.trod_bool Try.underlying4 e2
  refine ⟨z0, z1, z2, list_eq hlen fun i hi => ?_, w0, w1⟩
  have hi2 : i = 0 ∨ i = 1 ∨ i = 2 := by
    have : i < 3 := hi
    omega
  clear hi
  rcases hi2 with rfl | rfl | rfl
  · exact take_at c0 0 _ rfl
  · exact take_at c1 0 _ rfl
  · exact take_at c2 0 _ rfl
end
theorem lit_u8 {z : Int} : (Lit.int .u8 z).wf = true ↔ 0 ≤ z ∧ z ≤ 255 := by
  simp [Lit.wf, show IntKind.u8.min = 0 from by decide, show IntKind.u8.max = 255 from by decide]
section
variable {H : Type} {enc : TypeId × Value → H} {w : World} {base : Nat} {spare : Nat → Bool} {held : Bool} {fuel : Nat} {cs : List Value} {x : DataW H × List MemPlace}
theorem open_chgs_at (h : DataW.trod enc Try.prog w base spare held fuel 27 cs = some x) : ∃ z : Value × List Cg, cs = [z.1] ∧ InC w z.1 z.2 := by
  obtain ⟨a, n, c, f, rfl, hc, hm, hx⟩ := open_rows Try.underlying27 (k := 2) (by kernel_rfl) (by omega) (fun ds (z : Cg) => ds = [.int .i64 z.1, .string z.2]) (0, ByteArray.empty) (fun fuel cs y hy => by
    obtain ⟨z0, z1, rfl, -⟩ := open_chg_at hy
    exact ⟨(z0, z1), rfl⟩) h
  have hlen : ((List.range n).map f).length = n := by simp
  refine ⟨(.slice a n c, (List.range n).map f), rfl, a, c, by rw [hlen], by rw [hlen]; exact hm, fun j hj => ?_⟩
  rw [hlen] at hj
  obtain ⟨g, off, ds, h1, h2, h3⟩ := hx j hj
  have hget : ((List.range n).map f).getD j (0, ByteArray.empty) = f j := by simp [hj]
  rw [hget]
  exact ⟨g, off, h1, by rw [h2] at h3; exact h3 0 (by omega), by rw [h2] at h3; exact h3 1 (by omega)⟩
end
theorem part_shape : (Try.prog.fieldsOf 30).toList.map (fun f => (f.type, f.offset)) = [(24, 0), (24, 2), (3, 4), (3, 5), (27, 6)] := by kernel_rfl
section
variable {H : Type} {enc : TypeId × Value → H} {w : World} {base : Nat} {spare : Nat → Bool} {held : Bool} {fuel : Nat} {cs : List Value} {x : DataW H × List MemPlace}
set_option maxRecDepth 100000 in
theorem open_part_at (h : DataW.trod enc Try.prog w base spare held fuel 30 cs = some x) : ∃ (z0 : Gd) (z1 : Gd) (z2 : Int) (z3 : Int) (z4 : Value × List Cg), cs = [.int .u64 z0.1, .int .u64 z0.2, .int .u64 z1.1, .int .u64 z1.2, .int .i64 z2, .int .i64 z3, z4.1] ∧ wfG z0 ∧ wfG z1 ∧ (Lit.int .i64 z2).wf = true ∧ (Lit.int .i64 z3).wf = true ∧ InC w z4.1 z4.2 := by
  obtain ⟨xs, n, _, _, hlen, hxs, hx⟩ := DataW.trod_struct (show Try.prog.underlying 30 = some (.struct (Try.prog.fieldsOf 30)) from by kernel_rfl) h
  have hs : (Try.prog.fieldsOf 30).size = 5 := by kernel_rfl
  rw [show Try.prog.cellsOf 30 = 7 from by kernel_rfl] at hlen
  obtain ⟨f0, h0, t0, o0⟩ := field_at part_shape 0 _ _ rfl
  have e0 := hx 0 f0 h0
  rw [t0, o0, show Try.prog.cellsOf 24 = 2 from by kernel_rfl, List.getElem?_eq_getElem (by omega)] at e0
  obtain ⟨z0, c0, w0⟩ := open_gd_at e0
  obtain ⟨f1, h1, t1, o1⟩ := field_at part_shape 1 _ _ rfl
  have e1 := hx 1 f1 h1
  rw [t1, o1, show Try.prog.cellsOf 24 = 2 from by kernel_rfl, List.getElem?_eq_getElem (by omega)] at e1
  obtain ⟨z1, c1, w1⟩ := open_gd_at e1
  obtain ⟨f2, h2, t2, o2⟩ := field_at part_shape 2 _ _ rfl
  have e2 := hx 2 f2 h2
  rw [t2, o2, show Try.prog.cellsOf 3 = 1 from by kernel_rfl, List.getElem?_eq_getElem (by omega)] at e2
  obtain ⟨z2, c2, _, w2⟩ := DataW.trod_int Try.underlying3 e2
  obtain ⟨f3, h3, t3, o3⟩ := field_at part_shape 3 _ _ rfl
  have e3 := hx 3 f3 h3
  rw [t3, o3, show Try.prog.cellsOf 3 = 1 from by kernel_rfl, List.getElem?_eq_getElem (by omega)] at e3
  obtain ⟨z3, c3, _, w3⟩ := DataW.trod_int Try.underlying3 e3
  obtain ⟨f4, h4, t4, o4⟩ := field_at part_shape 4 _ _ rfl
  have e4 := hx 4 f4 h4
  rw [t4, o4, show Try.prog.cellsOf 27 = 1 from by kernel_rfl, List.getElem?_eq_getElem (by omega)] at e4
  obtain ⟨z4, c4, w4⟩ := open_chgs_at e4
  refine ⟨z0, z1, z2, z3, z4, list_eq hlen fun i hi => ?_, w0, w1, w2, w3, w4⟩
  have hi2 : i = 0 ∨ i = 1 ∨ i = 2 ∨ i = 3 ∨ i = 4 ∨ i = 5 ∨ i = 6 := by
    have : i < 7 := hi
    omega
  clear hi
  rcases hi2 with rfl | rfl | rfl | rfl | rfl | rfl | rfl
  · exact take_at c0 0 _ rfl
  · exact take_at c0 1 _ rfl
  · exact take_at c1 0 _ rfl
  · exact take_at c1 1 _ rfl
  · exact take_at c2 0 _ rfl
  · exact take_at c3 0 _ rfl
  · exact take_at c4 0 _ rfl
end
section
variable {H : Type} {enc : TypeId × Value → H} {w : World} {base : Nat} {spare : Nat → Bool} {held : Bool} {r : Reach} {b0 : Nat} {v : Value} {d : DataW H} {ps : List MemPlace}
theorem open_part (hval : Value.okWide Try.prog w r b0 30 v) (hd : DataW.Trod enc Try.prog w base spare held 30 v d ps) (_ : ∀ n ∈ d.weights Try.prog 30, n ≤ reachBytes) :
    ∃ p : Prt, InPr w v p ∧ True := by
  have hu : Try.prog.underlying 30 = some (.struct (Try.prog.fieldsOf 30)) := by kernel_rfl
  obtain ⟨cs, rfl, hsz⟩ := okWide_struct hu hval
  obtain ⟨fuel, hf⟩ := hd
  obtain ⟨b, t, f, a, z, hcs, hb, ht, hfw, haw, hz⟩ := open_part_at hf
  refine ⟨⟨b, t, f, a, z.2⟩, ⟨z.1, ?_, hz, ⟨hb, ht, hfw, haw⟩⟩, trivial⟩
  unfold prV
  congr 1
  apply Array.ext'
  simpa [Value.cells] using hcs
theorem open_marks (hval : Value.okWide Try.prog w r b0 26 v) (hd : DataW.Trod enc Try.prog w base spare held 26 v d ps) (_ : ∀ n ∈ d.weights Try.prog 26, n ≤ reachBytes) :
    ∃ ms : List Mk, InM w v ms ∧ True := by
  obtain ⟨a0, n0, c0, rfl⟩ := okWide_slice Try.underlying26 hval
  obtain ⟨fuel, hf⟩ := hd
  obtain ⟨a, n, c, f, hcs, hc, hm, hx⟩ := open_rows Try.underlying26 (k := 3) (by kernel_rfl) (by omega) (fun ds (z : Mk) => ds = [.int .i64 z.b, .int .u8 z.c, .bool z.s] ∧ wfM z) mk0 (fun fuel cs y hy => by
    obtain ⟨z0, z1, z2, rfl, h0, h1⟩ := open_mark_at hy
    have := lit_u8.1 h1
    exact ⟨⟨z0, z1, z2⟩, rfl, h0, by dsimp only; omega, by dsimp only; omega⟩) hf
  simp [Value.cells] at hcs
  obtain ⟨rfl, rfl, rfl⟩ := hcs
  have hlen : ((List.range n0).map f).length = n0 := by simp
  refine ⟨(List.range n0).map f, ⟨a0, c0, by rw [hlen], by rw [hlen]; exact hm, fun j hj => ?_⟩, trivial⟩
  rw [hlen] at hj
  obtain ⟨g, off, ds, h1, ⟨h2, hw⟩, h3⟩ := hx j hj
  have hget : ((List.range n0).map f).getD j mk0 = f j := by simp [hj]
  rw [hget]
  rw [h2] at h3
  exact ⟨g, off, h1, ⟨h3 0 (by omega), h3 1 (by omega), h3 2 (by omega)⟩, hw⟩
theorem open_two (hval : Value.okWide Try.prog w r b0 25 v) (hd : DataW.Trod enc Try.prog w base spare held 25 v d ps) (_ : ∀ n ∈ d.weights Try.prog 25, n ≤ reachBytes) :
    ∃ gg : Gd × Gd, v = .agg #[.int .u64 gg.1.1, .int .u64 gg.1.2, .int .u64 gg.2.1, .int .u64 gg.2.2] ∧ wfG gg.1 ∧ wfG gg.2 := by
  have hu : Try.prog.underlying 25 = some (.array 2 24) := by kernel_rfl
  obtain ⟨cs, rfl, hs⟩ := okWide_array hu hval
  obtain ⟨fuel, hf⟩ := hd
  obtain ⟨xs, m, _, _, _, hl, hx⟩ := DataW.trod_array hu hf
  rw [show Try.prog.cellsOf 24 = 2 from by kernel_rfl] at hx
  rw [show Try.prog.cellsOf 25 = 4 from by kernel_rfl] at hs
  have e0 := hx 0 (by omega)
  have e1 := hx 1 (by omega)
  rw [List.getElem?_eq_getElem (by omega)] at e0 e1
  obtain ⟨g0, c0, w0⟩ := open_gd_at e0
  obtain ⟨g1, c1, w1⟩ := open_gd_at e1
  refine ⟨(g0, g1), ?_, w0, w1⟩
  congr 1
  apply Array.ext'
  refine list_eq (by simpa [Value.cells] using hs) fun i hi => ?_
  have hi2 : i = 0 ∨ i = 1 ∨ i = 2 ∨ i = 3 := by
    have : i < 4 := hi
    omega
  clear hi
  simp only [Value.cells] at c0 c1
  rcases hi2 with rfl | rfl | rfl | rfl
  · exact take_at c0 0 _ rfl
  · exact take_at c0 1 _ rfl
  · exact take_at c1 0 _ rfl
  · exact take_at c1 1 _ rfl
end
end Go.Proofs.Ytpfdpodelkleiaa
