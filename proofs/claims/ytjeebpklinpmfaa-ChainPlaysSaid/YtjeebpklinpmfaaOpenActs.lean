/-
  ACTS THAT COME IN, OPENED (printed by wip/gen-openacts.py).
-/
import Derived.Test.YtjeebpklinpmfaaRcJ
import Derived.Test.YtjeebpklinpmfaaOpenChain
namespace Go.Proofs.Ytjeebpklinpmfaa
open Go.ChangeShapes Go.WideShapes Go.RowKit

theorem list_eq {l l' : List Value} (h : l.length = l'.length) (h2 : ∀ i, i < l'.length → l[i]? = l'[i]?) : l = l' := by
  refine List.ext_getElem? fun i => ?_
  by_cases hi : i < l'.length
  · exact h2 i hi
  · rw [List.getElem?_eq_none (by omega), List.getElem?_eq_none (by omega)]
theorem take_at {l m : List Value} {o n : Nat} (h : (l.drop o).take n = m) (i : Nat) (x : Value) (hx : m[i]? = some x) : l[o + i]? = some x := by
  rw [← h] at hx
  rcases Nat.lt_or_ge i n with q | q
  · rwa [List.getElem?_take_of_lt q, List.getElem?_drop] at hx
  · rw [List.getElem?_eq_none (by rw [List.length_take]; omega)] at hx
    cases hx
section
variable {H : Type} {enc : TypeId × Value → H} {w : World} {base : Nat} {spare : Nat → Bool} {held : Bool}
/-- a slice whose elements take k cells each -/
theorem open_rows {α : Type} {t e : TypeId} {k : Nat} (ht : Try.prog.underlying t = some (.slice e)) (hk : Try.prog.cellsOf e = k) (k0 : 0 < k) (Q : List Value → α → Prop) (inh : α)
    (hQ : ∀ fuel cs y, DataW.trod enc Try.prog w base spare held fuel e cs = some y → ∃ z, Q cs z) {fuel : Nat} {cs : List Value} {x : DataW H × List MemPlace} (h : DataW.trod enc Try.prog w base spare held fuel t cs = some x) :
    ∃ (a : Option Addr) (n c : Nat) (f : Nat → α), cs = [.slice a n c] ∧ (n = 0 ∨ n ≤ c) ∧ n ≤ maxLen ∧ ∀ j, j < n → ∃ g off ds, a = some ⟨g, off, none⟩ ∧ Q ds (f j) ∧ ∀ i, i < k → w.cell? ⟨g, off + j * k + i, none⟩ = ds[i]? := by
  rcases DataW.trod_slice ht h with ⟨rfl, _⟩ | ⟨a, len, cap, elems, rest, n, _, rfl, hx, hb, hl, hm, hlen, hel, _, _⟩
  · exact ⟨none, 0, 0, fun _ => inh, rfl, .inl rfl, Nat.zero_le _, fun j hj => by omega⟩
  · rw [hk] at hel
    rcases Nat.eq_zero_or_pos len with rfl | hp
    · exact ⟨_, _, cap, fun _ => inh, rfl, .inl rfl, Nat.zero_le _, fun j hj => by omega⟩
    · obtain ⟨b, off, spot⟩ := a
      have hspot : spot = none := by
        have h1 := hel 0 hp
        rw [List.getElem?_eq_getElem (by omega), Option.bind_eq_some_iff] at h1
        obtain ⟨ds, hds, hy⟩ := h1
        obtain ⟨-, hdl, hdc⟩ := World.cells?_some hds
        have hd0 : w.cell? ((Addr.add ⟨b, off, spot⟩ (0 * k)).add 0) = some (ds[0]'(by omega)) := (hdc 0 (by omega)).trans (List.getElem?_eq_getElem (by omega))
        simpa [Addr.add] using World.cell?_spot hd0
      subst hspot
      have each : ∀ i, i < len → ∃ z ds, Q ds z ∧ ∀ j, j < k → w.cell? ⟨b, off + i * k + j, none⟩ = ds[j]? := by
        intro i hi
        have h1 := hel i hi
        rw [List.getElem?_eq_getElem (by omega), Option.bind_eq_some_iff] at h1
        obtain ⟨ds, hds, hy⟩ := h1
        obtain ⟨-, hdl, hdc⟩ := World.cells?_some hds
        obtain ⟨z, hz⟩ := hQ _ _ _ hy
        refine ⟨z, ds, hz, fun j hj => ?_⟩
        have := hdc j hj
        rwa [addr_add, addr_add] at this
      have ch : ∀ i : Nat, ∃ z, i < len → ∃ ds, Q ds z ∧ ∀ j, j < k → w.cell? ⟨b, off + i * k + j, none⟩ = ds[j]? := by
        intro i
        by_cases hi : i < len
        · obtain ⟨z, hz⟩ := each i hi
          exact ⟨z, fun _ => hz⟩
        · exact ⟨inh, fun h => absurd h hi⟩
      refine ⟨_, len, cap, fun i => Classical.choose (ch i), rfl, .inr hl, by omega, fun j hj => ?_⟩
      obtain ⟨ds, h1, h2⟩ := Classical.choose_spec (ch j) hj
      exact ⟨b, off, ds, rfl, h1, h2⟩
end

section
variable {H : Type} {enc : TypeId × Value → H} {w : World} {base : Nat} {spare : Nat → Bool} {held : Bool} {fuel : Nat} {cs : List Value} {x : DataW H × List MemPlace}
theorem open_puts2_at (h : DataW.trod enc Try.prog w base spare held fuel 28 cs = some x) : ∃ z : Value × List Pt, cs = [z.1] ∧ InP w z.1 z.2 := by
  obtain ⟨u, ps, h1, h2⟩ := open_puts_at h
  exact ⟨(u, ps), h1, h2⟩
end
theorem act_shape : (Try.prog.fieldsOf 60).toList.map (fun f => (f.type, f.offset)) = [(3, 0), (3, 1), (5, 2), (33, 3), (28, 5)] := by kernel_rfl
section
variable {H : Type} {enc : TypeId × Value → H} {w : World} {base : Nat} {spare : Nat → Bool} {held : Bool} {fuel : Nat} {cs : List Value} {x : DataW H × List MemPlace}
set_option maxRecDepth 100000 in
theorem open_act_at (h : DataW.trod enc Try.prog w base spare held fuel 60 cs = some x) : ∃ (z0 : Int) (z1 : Int) (z2 : Int) (z3 : Gd) (z4 : Value × List Pt), cs = [.int .i64 z0, .int .i64 z1, .int .u8 z2, .int .u64 z3.1, .int .u64 z3.2, z4.1] ∧ (Lit.int .i64 z0).wf = true ∧ (Lit.int .i64 z1).wf = true ∧ (Lit.int .u8 z2).wf = true ∧ wfG z3 ∧ InP w z4.1 z4.2 := by
  obtain ⟨xs, n, _, _, hlen, hxs, hx⟩ := DataW.trod_struct (show Try.prog.underlying 60 = some (.struct (Try.prog.fieldsOf 60)) from by kernel_rfl) h
  have hs : (Try.prog.fieldsOf 60).size = 5 := by kernel_rfl
  rw [show Try.prog.cellsOf 60 = 6 from by kernel_rfl] at hlen
  obtain ⟨f0, h0, t0, o0⟩ := field_at act_shape 0 _ _ rfl
  have e0 := hx 0 f0 h0
  rw [t0, o0, show Try.prog.cellsOf 3 = 1 from by kernel_rfl, List.getElem?_eq_getElem (by omega)] at e0
  obtain ⟨z0, c0, _, w0⟩ := DataW.trod_int Try.underlying3 e0
  obtain ⟨f1, h1, t1, o1⟩ := field_at act_shape 1 _ _ rfl
  have e1 := hx 1 f1 h1
  rw [t1, o1, show Try.prog.cellsOf 3 = 1 from by kernel_rfl, List.getElem?_eq_getElem (by omega)] at e1
  obtain ⟨z1, c1, _, w1⟩ := DataW.trod_int Try.underlying3 e1
  obtain ⟨f2, h2, t2, o2⟩ := field_at act_shape 2 _ _ rfl
  have e2 := hx 2 f2 h2
  rw [t2, o2, show Try.prog.cellsOf 5 = 1 from by kernel_rfl, List.getElem?_eq_getElem (by omega)] at e2
  obtain ⟨z2, c2, _, w2⟩ := DataW.trod_int Try.underlying5 e2
  obtain ⟨f3, h3, t3, o3⟩ := field_at act_shape 3 _ _ rfl
  have e3 := hx 3 f3 h3
  rw [t3, o3, show Try.prog.cellsOf 33 = 2 from by kernel_rfl, List.getElem?_eq_getElem (by omega)] at e3
  obtain ⟨z3, c3, w3⟩ := open_guid_at e3
  obtain ⟨f4, h4, t4, o4⟩ := field_at act_shape 4 _ _ rfl
  have e4 := hx 4 f4 h4
  rw [t4, o4, show Try.prog.cellsOf 28 = 1 from by kernel_rfl, List.getElem?_eq_getElem (by omega)] at e4
  obtain ⟨z4, c4, w4⟩ := open_puts2_at e4
  refine ⟨z0, z1, z2, z3, z4, list_eq hlen fun i hi => ?_, w0, w1, w2, w3, w4⟩
  have hi2 : i = 0 ∨ i = 1 ∨ i = 2 ∨ i = 3 ∨ i = 4 ∨ i = 5 := by
    have : i < 6 := hi
    omega
  clear hi
  rcases hi2 with rfl | rfl | rfl | rfl | rfl | rfl
  · exact take_at c0 0 _ rfl
  · exact take_at c1 0 _ rfl
  · exact take_at c2 0 _ rfl
  · exact take_at c3 0 _ rfl
  · exact take_at c3 1 _ rfl
  · exact take_at c4 0 _ rfl
end

section
variable {H : Type} {enc : TypeId × Value → H} {w : World} {base : Nat} {spare : Nat → Bool} {held : Bool} {r : Reach} {b0 : Nat} {v : Value} {d : DataW H} {ps : List MemPlace}
theorem open_acts (hval : Value.okWide Try.prog w r b0 51 v) (hd : DataW.Trod enc Try.prog w base spare held 51 v d ps) (_ : ∀ n ∈ d.weights Try.prog 51, n ≤ reachBytes) :
    ∃ l : List Ac, InAs w v l ∧ True := by
  obtain ⟨a0, n0, c0, rfl⟩ := okWide_slice Try.underlying51 hval
  obtain ⟨fuel, hf⟩ := hd
  obtain ⟨a, n, c, f, e, hc, hm, hx⟩ := open_rows Try.underlying51 (k := 6) (by kernel_rfl) (by omega) (fun ds (z : Ac × Value) => ds = [.int .i64 z.1.wh, .int .i64 z.1.n, .int .u8 z.1.c, .int .u64 z.1.g.1, .int .u64 z.1.g.2, z.2] ∧ InP w z.2 z.1.ps ∧ wfA z.1) (ac0, undef) (fun fuel cs y hy => by
    obtain ⟨z0, z1, z2, z3, z4, rfl, h0, h1, h2, h3, h4⟩ := open_act_at hy
    have h5 := lit_u8y.1 h2
    exact ⟨(⟨z0, z1, z2, z3, z4.2⟩, z4.1), rfl, h4, h5.1, by show z2 < 256; omega, h3⟩) hf
  simp [Value.cells] at e
  obtain ⟨rfl, rfl, rfl⟩ := e
  have hlen : ((List.range n0).map fun j => (f j).1).length = n0 := by simp
  refine ⟨(List.range n0).map fun j => (f j).1, ⟨_, c0, by rw [hlen], by rw [hlen]; exact hm, fun j hj => ?_⟩, trivial⟩
  rw [hlen] at hj
  obtain ⟨g, off, ds, h1, ⟨h2, hp, hw⟩, h3⟩ := hx j hj
  have hget : ((List.range n0).map fun j => (f j).1).getD j ac0 = (f j).1 := by simp [hj]
  rw [hget]
  rw [h2] at h3
  exact ⟨g, off, (f j).2, h1, ⟨h3 0 (by omega), h3 1 (by omega), h3 2 (by omega), h3 3 (by omega), h3 4 (by omega), h3 5 (by omega)⟩, hp, hw⟩
end
end Go.Proofs.Ytjeebpklinpmfaa
