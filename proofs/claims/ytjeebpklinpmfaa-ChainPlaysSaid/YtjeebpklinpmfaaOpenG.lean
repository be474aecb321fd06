/-
  GUIDS AND LISTS OF THEM THAT COME IN, OPENED.
-/
import Derived.Test.YtjeebpklinpmfaaGuids
import Derived.Test.YtjeebpklinpmfaaOpen2
import Derived.SizedLaws
namespace Go.Proofs.Ytjeebpklinpmfaa
open Go.ChangeShapes Go.WideShapes Go.RowKit

theorem two_cells {l : List Value} {x y : Value} (h : l.length = 2) (h0 : l[0]? = some x) (h1 : l[1]? = some y) : l = [x, y] := by
  match l, h with
  | [a, b], _ =>
    simp at h0 h1
    rw [h0, h1]
theorem guid_shape : (Try.prog.fieldsOf 33).toList.map (fun f => (f.type, f.offset)) = [(31, 0), (31, 1)] := by kernel_rfl
theorem field_at {fs : Array Field} {l : List (TypeId × Nat)} (h : fs.toList.map (fun f => (f.type, f.offset)) = l) (i : Nat) (t : TypeId) (o : Nat) (hl : l[i]? = some (t, o)) : ∃ f, fs[i]? = some f ∧ f.type = t ∧ f.offset = o := by
  rw [← h, List.getElem?_map, Option.map_eq_some_iff] at hl
  obtain ⟨f, hf, e⟩ := hl
  simp only [Prod.mk.injEq] at e
  exact ⟨f, by simpa using hf, e.1, e.2⟩
section
variable {H : Type} {enc : TypeId × Value → H} {w : World} {base : Nat} {spare : Nat → Bool} {held : Bool} {fuel : Nat} {cs : List Value} {x : DataW H × List MemPlace}
theorem open_guid_at (h : DataW.trod enc Try.prog w base spare held fuel 33 cs = some x) : ∃ g : Gd, cs = [.int .u64 g.1, .int .u64 g.2] ∧ wfG g := by
  obtain ⟨xs, n, _, _, hlen, hxs, hx⟩ := DataW.trod_struct (show Try.prog.underlying 33 = some (.struct (Try.prog.fieldsOf 33)) from by kernel_rfl) h
  obtain ⟨f0, h0, t0, o0⟩ := field_at guid_shape 0 _ _ rfl
  obtain ⟨f1, h1, t1, o1⟩ := field_at guid_shape 1 _ _ rfl
  have hs : (Try.prog.fieldsOf 33).size = 2 := by kernel_rfl
  have e0 := hx 0 f0 h0
  have e1 := hx 1 f1 h1
  rw [t0, o0, show Try.prog.cellsOf 31 = 1 from by kernel_rfl, List.getElem?_eq_getElem (by omega)] at e0
  rw [t1, o1, show Try.prog.cellsOf 31 = 1 from by kernel_rfl, List.getElem?_eq_getElem (by omega)] at e1
  obtain ⟨z0, c0, _, w0⟩ := DataW.trod_int Try.underlying31 e0
  obtain ⟨z1, c1, _, w1⟩ := DataW.trod_int Try.underlying31 e1
  have i0 := take_one c0
  have i1 := take_one c1
  rw [show Try.prog.cellsOf 33 = 2 from by kernel_rfl] at hlen
  refine ⟨(z0, z1), ?_, w0, w1⟩
  exact two_cells hlen i0 i1
set_option maxRecDepth 100000 in
theorem open_guids_at (h : DataW.trod enc Try.prog w base spare held fuel 45 cs = some x) :
    ∃ u gs, cs = [u] ∧ InG w u gs ∧ (gs = [] ∨ ∃ r, (gs.length + r) * 16 ∈ x.1.weights Try.prog 45) := by
  rcases DataW.trod_slice Try.underlying45 h with ⟨rfl, _⟩ | ⟨a, len, cap, elems, rest, n, _, rfl, hx, hb, hl, hm, hlen, hel, _, _⟩
  · exact ⟨_, [], rfl, InG.nil_ _, .inl rfl⟩
  · rw [show Try.prog.cellsOf 33 = 2 from by kernel_rfl] at hel
    have each : ∀ i, i < len → ∃ g : Gd, w.cell? (a.add (i * 2)) = some (.int .u64 g.1) ∧ w.cell? ((a.add (i * 2)).add 1) = some (.int .u64 g.2) ∧ wfG g := by
      intro i hi
      have h1 := hel i hi
      rw [List.getElem?_eq_getElem (by omega), Option.bind_eq_some_iff] at h1
      obtain ⟨ds, hds, hy⟩ := h1
      obtain ⟨g, rfl, hg⟩ := open_guid_at hy
      refine ⟨g, ?_, ?_, hg⟩
      all_goals
        unfold World.cells? at hds
        split at hds
        · simp only [List.range_succ, List.range_zero, List.nil_append, List.cons_append, List.mapM_cons, List.mapM_nil, bind, Option.bind_eq_some_iff, pure, Option.some.injEq] at hds
          obtain ⟨u0, hu0, vs, ⟨u1, hu1, ws, hws, hv⟩, he⟩ := hds
          subst hws
          subst hv
          simp only [List.cons.injEq, and_true] at he
          first
          | (rw [← he.1]; simpa [Addr.add] using hu0)
          | (rw [← he.2]; exact hu1)
        · cases hds
    have hw : (len + rest.length) * 16 ∈ x.1.weights Try.prog 45 := by
      rw [hx]
      unfold DataW.weights
      rw [Try.underlying45]
      simp only [List.length_map, hlen, show Try.prog.bytesOf 33 = 16 from by kernel_rfl]
      exact List.mem_cons_self
    rcases Nat.eq_zero_or_pos len with rfl | hp
    · exact ⟨_, [], rfl, ⟨⟨_, cap, rfl, .inl rfl⟩, by simp, by simp⟩, .inl rfl⟩
    · obtain ⟨g0, hg0, _, _⟩ := each 0 hp
      obtain ⟨b, off, spot⟩ := a
      have hspot : spot = none := by simpa [Addr.add] using World.cell?_spot hg0
      subst hspot
      have ch : ∀ i : Nat, ∃ g : Gd, i < len → w.cell? ⟨b, off + i * 2, none⟩ = some (.int .u64 g.1) ∧ w.cell? ⟨b, off + i * 2 + 1, none⟩ = some (.int .u64 g.2) ∧ wfG g := by
        intro i
        by_cases hi : i < len
        · obtain ⟨g, h1, h2, h3⟩ := each i hi
          rw [addr_add] at h1 h2
          rw [addr_add] at h2
          exact ⟨g, fun _ => ⟨h1, h2, h3⟩⟩
        · exact ⟨(0, 0), fun h => absurd h hi⟩
      let f : Nat → Gd := fun i => Classical.choose (ch i)
      have hf : ∀ i, i < len → w.cell? ⟨b, off + i * 2, none⟩ = some (.int .u64 (f i).1) ∧ w.cell? ⟨b, off + i * 2 + 1, none⟩ = some (.int .u64 (f i).2) ∧ wfG (f i) := fun i => Classical.choose_spec (ch i)
      have hlen2 : ((List.range len).map f).length = len := by simp
      refine ⟨_, (List.range len).map f, rfl, ⟨⟨_, cap, by rw [hlen2], .inr ⟨by rw [hlen2]; exact hl, b, off, rfl, fun j u hj => ?_⟩⟩, by rw [hlen2]; omega, fun g hg => ?_⟩, .inr ⟨rest.length, by rw [hlen2]; exact hw⟩⟩
      · have hjl : j < len * 2 := by
          have := (List.getElem?_eq_some_iff.1 hj).1
          rw [cellsG_length, hlen2] at this
          exact this
        have h2 := cellsG_at ((List.range len).map f) (j / 2) (by rw [hlen2]; omega)
        have hget : ((List.range len).map f).getD (j / 2) (0, 0) = f (j / 2) := by simp [show j / 2 < len by omega]
        rw [hget] at h2
        have h3 := hf (j / 2) (by omega)
        rcases Nat.mod_two_eq_zero_or_one j with q | q
        · have e : j / 2 * 2 = j := by omega
          rw [e] at h2 h3
          rw [h3.1, ← hj, h2.1]
        · have e : j / 2 * 2 + 1 = j := by omega
          have e2 : off + j / 2 * 2 + 1 = off + j := by omega
          rw [e] at h2
          rw [e2] at h3
          rw [h3.2.1, ← hj, h2.2]
      · obtain ⟨i, hi, rfl⟩ := List.mem_map.1 hg
        exact (hf i (List.mem_range.1 hi)).2.2
end
end Go.Proofs.Ytjeebpklinpmfaa
