/-
  GUIDS AND PUTS THAT COME IN, OPENED.
-/
import Derived.Test.YtjeebpklinpmfaaOpenG
import Derived.Test.YtjeebpklinpmfaaChL
namespace Go.Proofs.Ytjeebpklinpmfaa
open Go.ChangeShapes Go.WideShapes Go.RowKit

theorem put_shape : (Try.prog.fieldsOf 65).toList.map (fun f => (f.type, f.offset)) = [(3, 0), (5, 1)] := by kernel_rfl
theorem lit_u8 {z : Int} : (Lit.int .u8 z).wf = true ↔ 0 ≤ z ∧ z ≤ 255 := by
  simp [Lit.wf, show IntKind.u8.min = 0 from by decide, show IntKind.u8.max = 255 from by decide]
section
variable {H : Type} {enc : TypeId × Value → H} {w : World} {base : Nat} {spare : Nat → Bool} {held : Bool} {fuel : Nat} {cs : List Value} {x : DataW H × List MemPlace}
theorem open_put_at (h : DataW.trod enc Try.prog w base spare held fuel 65 cs = some x) : ∃ g : Pt, cs = [.int .i64 g.1, .int .u8 g.2] ∧ wfP g := by
  obtain ⟨xs, n, _, _, hlen, hxs, hx⟩ := DataW.trod_struct (show Try.prog.underlying 65 = some (.struct (Try.prog.fieldsOf 65)) from by kernel_rfl) h
  obtain ⟨f0, h0, t0, o0⟩ := field_at put_shape 0 _ _ rfl
  obtain ⟨f1, h1, t1, o1⟩ := field_at put_shape 1 _ _ rfl
  have hs : (Try.prog.fieldsOf 65).size = 2 := by kernel_rfl
  have e0 := hx 0 f0 h0
  have e1 := hx 1 f1 h1
  rw [t0, o0, show Try.prog.cellsOf 3 = 1 from by kernel_rfl, List.getElem?_eq_getElem (by omega)] at e0
  rw [t1, o1, show Try.prog.cellsOf 5 = 1 from by kernel_rfl, List.getElem?_eq_getElem (by omega)] at e1
  obtain ⟨z0, c0, _, w0⟩ := DataW.trod_int Try.underlying3 e0
  obtain ⟨z1, c1, _, w1⟩ := DataW.trod_int Try.underlying5 e1
  have i0 := take_one c0
  have i1 := take_one c1
  have v1 := lit_u8.1 w1
  rw [show Try.prog.cellsOf 65 = 2 from by kernel_rfl] at hlen
  refine ⟨(z0, z1), ?_, w0, by omega, by simp only; omega⟩
  exact two_cells hlen i0 i1
set_option maxRecDepth 100000 in
theorem open_puts_at (h : DataW.trod enc Try.prog w base spare held fuel 28 cs = some x) : ∃ u ps, cs = [u] ∧ InP w u ps := by
  rcases DataW.trod_slice Try.underlying28 h with ⟨rfl, _⟩ | ⟨a, len, cap, elems, rest, n, _, rfl, hx, hb, hl, hm, hlen, hel, _, _⟩
  · exact ⟨_, [], rfl, none, 0, rfl, Nat.zero_le _, by simp, fun j hj => by simp at hj⟩
  · rw [show Try.prog.cellsOf 65 = 2 from by kernel_rfl] at hel
    have each : ∀ i, i < len → ∃ g : Pt, w.cell? (a.add (i * 2)) = some (.int .i64 g.1) ∧ w.cell? ((a.add (i * 2)).add 1) = some (.int .u8 g.2) ∧ wfP g := by
      intro i hi
      have h1 := hel i hi
      rw [List.getElem?_eq_getElem (by omega), Option.bind_eq_some_iff] at h1
      obtain ⟨ds, hds, hy⟩ := h1
      obtain ⟨g, rfl, hg⟩ := open_put_at hy
      refine ⟨g, ?_, ?_, hg⟩
      all_goals
        unfold World.cells? at hds
        split at hds
        · simp only [List.range_succ, List.range_zero, List.nil_append, List.cons_append, List.mapM_cons, List.mapM_nil, bind, Option.bind_eq_some_iff, pure, Option.some.injEq] at hds
          obtain ⟨u0, hu0, vs, ⟨u1, hu1, ws, hws, hv⟩, he⟩ := hds
          subst hws
          subst hv
          simp only [List.cons.injEq, and_true] at he
          first
          | (rw [← he.1]; simpa [Addr.add] using hu0)
          | (rw [← he.2]; exact hu1)
        · cases hds
    rcases Nat.eq_zero_or_pos len with rfl | hp
    · exact ⟨_, [], rfl, _, cap, rfl, Nat.zero_le _, by simp, fun j hj => by simp at hj⟩
    · obtain ⟨g0, hg0, _, _⟩ := each 0 hp
      obtain ⟨b, off, spot⟩ := a
      have hspot : spot = none := by simpa [Addr.add] using World.cell?_spot hg0
      subst hspot
      have ch : ∀ i : Nat, ∃ g : Pt, i < len → w.cell? ⟨b, off + i * 2, none⟩ = some (.int .i64 g.1) ∧ w.cell? ⟨b, off + i * 2 + 1, none⟩ = some (.int .u8 g.2) ∧ wfP g := by
        intro i
        by_cases hi : i < len
        · obtain ⟨g, h1, h2, h3⟩ := each i hi
          rw [addr_add] at h1 h2
          rw [addr_add] at h2
          exact ⟨g, fun _ => ⟨h1, h2, h3⟩⟩
        · exact ⟨(0, 0), fun h => absurd h hi⟩
      let f : Nat → Pt := fun i => Classical.choose (ch i)
      have hf : ∀ i, i < len → w.cell? ⟨b, off + i * 2, none⟩ = some (.int .i64 (f i).1) ∧ w.cell? ⟨b, off + i * 2 + 1, none⟩ = some (.int .u8 (f i).2) ∧ wfP (f i) := fun i => Classical.choose_spec (ch i)
      have hlen2 : ((List.range len).map f).length = len := by simp
      refine ⟨_, (List.range len).map f, rfl, _, cap, by rw [hlen2], by rw [hlen2]; omega, fun g hg => ?_, fun j hj => ?_⟩
      · obtain ⟨i, hi, rfl⟩ := List.mem_map.1 hg
        exact (hf i (List.mem_range.1 hi)).2.2
      · rw [hlen2] at hj
        have hget : ((List.range len).map f).getD j (0, 0) = f j := by simp [hj]
        rw [hget]
        exact ⟨b, off, rfl, (hf j hj).1, (hf j hj).2.1⟩
end
section
variable {H : Type} {enc : TypeId × Value → H} {w : World} {base : Nat} {spare : Nat → Bool} {held : Bool} {r : Reach} {b0 : Nat} {v : Value} {d : DataW H} {ps : List MemPlace}
theorem reach_len {n q : Nat} (h : (n + q) * 16 ≤ reachBytes) : n ≤ 2 ^ 43 := by
  unfold reachBytes at h
  omega
theorem open_list (hval : Value.okWide Try.prog w r b0 45 v) (hd : DataW.Trod enc Try.prog w base spare held 45 v d ps) (hw : ∀ n ∈ d.weights Try.prog 45, n ≤ reachBytes) :
    ∃ gs : List Gd, InG w v gs ∧ gs.length ≤ 2 ^ 43 := by
  obtain ⟨a, n, c, rfl⟩ := okWide_slice Try.underlying45 hval
  obtain ⟨fuel, hf⟩ := hd
  obtain ⟨u, gs, hu, hg, hl⟩ := open_guids_at hf
  simp only [Value.cells, List.cons.injEq, and_true] at hu
  have hu' : Value.slice a n c = u := by simpa [Value.cells] using hu
  rw [← hu'] at hg
  refine ⟨gs, hg, ?_⟩
  rcases hl with rfl | ⟨q, hq⟩
  · simp
  · exact reach_len (hw _ hq)
end
end Go.Proofs.Ytjeebpklinpmfaa
