/-
  LINES AND LISTS OF GUIDS THAT COME IN, OPENED.
-/
import Derived.Test.YtfkgidljgbhccaaLineRank
import Derived.Test.YtfkgidljgbhccaaOpen2
import Derived.SizedLaws
namespace Go.Proofs.Ytfkgidljgbhccaa
open Go.ChangeShapes Go.WideShapes Go.RowKit

theorem guid_shape : (Try.prog.fieldsOf 32).toList.map (fun f => (f.type, f.offset)) = [(22, 0), (22, 1)] := by kernel_rfl
theorem line_shape : (Try.prog.fieldsOf 25).toList.map (fun f => (f.type, f.offset)) = [(22, 0), (3, 1), (4, 2), (23, 3)] := by kernel_rfl
theorem field_at {fs : Array Field} {l : List (TypeId × Nat)} (h : fs.toList.map (fun f => (f.type, f.offset)) = l) (i : Nat) (t : TypeId) (o : Nat) (hl : l[i]? = some (t, o)) : ∃ f, fs[i]? = some f ∧ f.type = t ∧ f.offset = o := by
  rw [← h, List.getElem?_map, Option.map_eq_some_iff] at hl
  obtain ⟨f, hf, e⟩ := hl
  simp only [Prod.mk.injEq] at e
  exact ⟨f, by simpa using hf, e.1, e.2⟩
section
variable {H : Type} {enc : TypeId × Value → H} {w : World} {base : Nat} {spare : Nat → Bool} {held : Bool} {fuel : Nat} {cs : List Value} {x : DataW H × List MemPlace}
theorem open_guid_at (h : DataW.trod enc Try.prog w base spare held fuel 32 cs = some x) : ∃ g : Gd, cs = [.int .u64 g.1, .int .u64 g.2] ∧ wfG g := by
  obtain ⟨xs, n, _, _, hlen, hxs, hx⟩ := DataW.trod_struct (show Try.prog.underlying 32 = some (.struct (Try.prog.fieldsOf 32)) from by kernel_rfl) h
  obtain ⟨f0, h0, t0, o0⟩ := field_at guid_shape 0 _ _ rfl
  obtain ⟨f1, h1, t1, o1⟩ := field_at guid_shape 1 _ _ rfl
  have hs : (Try.prog.fieldsOf 32).size = 2 := by kernel_rfl
  have e0 := hx 0 f0 h0
  have e1 := hx 1 f1 h1
  rw [t0, o0, show Try.prog.cellsOf 22 = 1 from by kernel_rfl, List.getElem?_eq_getElem (by omega)] at e0
  rw [t1, o1, show Try.prog.cellsOf 22 = 1 from by kernel_rfl, List.getElem?_eq_getElem (by omega)] at e1
  obtain ⟨z0, c0, _, w0⟩ := DataW.trod_int Try.underlying22 e0
  obtain ⟨z1, c1, _, w1⟩ := DataW.trod_int Try.underlying22 e1
  have i0 := take_one c0
  have i1 := take_one c1
  rw [show Try.prog.cellsOf 32 = 2 from by kernel_rfl] at hlen
  refine ⟨(z0, z1), ?_, w0, w1⟩
  match cs, hlen with
  | [a, b], _ =>
    simp at i0 i1
    rw [i0, i1]
theorem open_guids_at (h : DataW.trod enc Try.prog w base spare held fuel 23 cs = some x) :
    ∃ u gs, cs = [u] ∧ InG w u gs ∧ (gs = [] ∨ ∃ r, (gs.length + r) * 16 ∈ x.1.weights Try.prog 23) := by
  rcases DataW.trod_slice Try.underlying23 h with ⟨rfl, _⟩ | ⟨a, len, cap, elems, rest, n, _, rfl, hx, hb, hl, hm, hlen, hel, _, _⟩
  · exact ⟨_, [], rfl, InG.nil_ _, .inl rfl⟩
  · rw [show Try.prog.cellsOf 32 = 2 from by kernel_rfl] at hel
    have each : ∀ i, i < len → ∃ g : Gd, w.cell? (a.add (i * 2)) = some (.int .u64 g.1) ∧ w.cell? ((a.add (i * 2)).add 1) = some (.int .u64 g.2) ∧ wfG g := by
      intro i hi
      have h1 := hel i hi
      rw [List.getElem?_eq_getElem (by omega), Option.bind_eq_some_iff] at h1
      obtain ⟨ds, hds, hy⟩ := h1
      obtain ⟨g, rfl, hg⟩ := open_guid_at hy
      refine ⟨g, ?_, ?_, hg⟩
      all_goals
        unfold World.cells? at hds
        split at hds
        · simp only [List.range_succ, List.range_zero, List.nil_append, List.cons_append, List.mapM_cons, List.mapM_nil, bind, Option.bind_eq_some_iff, pure, Option.some.injEq] at hds
          obtain ⟨u0, hu0, vs, ⟨u1, hu1, ws, hws, hv⟩, he⟩ := hds
          subst hws
          subst hv
          simp only [List.cons.injEq, and_true] at he
          first
          | (rw [← he.1]; simpa [Addr.add] using hu0)
          | (rw [← he.2]; exact hu1)
        · cases hds
    have hw : (len + rest.length) * 16 ∈ x.1.weights Try.prog 23 := by
      rw [hx]
      unfold DataW.weights
      rw [Try.underlying23]
      simp only [List.length_map, hlen, show Try.prog.bytesOf 32 = 16 from by kernel_rfl]
      exact List.mem_cons_self
    rcases Nat.eq_zero_or_pos len with rfl | hp
    · exact ⟨_, [], rfl, ⟨⟨_, cap, rfl, .inl rfl⟩, by simp, by simp⟩, .inl rfl⟩
    · obtain ⟨g0, hg0, _, _⟩ := each 0 hp
      obtain ⟨b, off, spot⟩ := a
      have hspot : spot = none := by simpa [Addr.add] using World.cell?_spot hg0
      subst hspot
      have ch : ∀ i : Nat, ∃ g : Gd, i < len → w.cell? ⟨b, off + i * 2, none⟩ = some (.int .u64 g.1) ∧ w.cell? ⟨b, off + i * 2 + 1, none⟩ = some (.int .u64 g.2) ∧ wfG g := by
        intro i
        by_cases hi : i < len
        · obtain ⟨g, h1, h2, h3⟩ := each i hi
          rw [addr_add] at h1 h2
          rw [addr_add] at h2
          exact ⟨g, fun _ => ⟨h1, h2, h3⟩⟩
        · exact ⟨(0, 0), fun h => absurd h hi⟩
      let f : Nat → Gd := fun i => Classical.choose (ch i)
      have hf : ∀ i, i < len → w.cell? ⟨b, off + i * 2, none⟩ = some (.int .u64 (f i).1) ∧ w.cell? ⟨b, off + i * 2 + 1, none⟩ = some (.int .u64 (f i).2) ∧ wfG (f i) := fun i => Classical.choose_spec (ch i)
      have hlen2 : ((List.range len).map f).length = len := by simp
      refine ⟨_, (List.range len).map f, rfl, ⟨⟨_, cap, by rw [hlen2], .inr ⟨by rw [hlen2]; exact hl, b, off, rfl, fun j u hj => ?_⟩⟩, by rw [hlen2]; omega, fun g hg => ?_⟩, .inr ⟨rest.length, by rw [hlen2]; exact hw⟩⟩
      · have hjl : j < len * 2 := by
          have := (List.getElem?_eq_some_iff.1 hj).1
          rw [cellsG_length, hlen2] at this
          exact this
        have h2 := cellsG_at ((List.range len).map f) (j / 2) (by rw [hlen2]; omega)
        have hget : ((List.range len).map f).getD (j / 2) (0, 0) = f (j / 2) := by simp [show j / 2 < len by omega]
        rw [hget] at h2
        have h3 := hf (j / 2) (by omega)
        rcases Nat.mod_two_eq_zero_or_one j with q | q
        · have e : j / 2 * 2 = j := by omega
          rw [e] at h2 h3
          rw [h3.1, ← hj, h2.1]
        · have e : j / 2 * 2 + 1 = j := by omega
          have e2 : off + j / 2 * 2 + 1 = off + j := by omega
          rw [e] at h2
          rw [e2] at h3
          rw [h3.2.1, ← hj, h2.2]
      · obtain ⟨i, hi, rfl⟩ := List.mem_map.1 hg
        exact (hf i (List.mem_range.1 hi)).2.2
end
section
variable {H : Type} {enc : TypeId × Value → H} {w : World} {base : Nat} {spare : Nat → Bool} {held : Bool} {r : Reach} {b0 : Nat} {v : Value} {d : DataW H} {ps : List MemPlace}
theorem reach_len {n r : Nat} (h : (n + r) * 16 ≤ reachBytes) : n ≤ 2 ^ 43 := by
  unfold reachBytes at h
  omega
theorem open_list (hval : Value.okWide Try.prog w r b0 23 v) (hd : DataW.Trod enc Try.prog w base spare held 23 v d ps) (hw : ∀ n ∈ d.weights Try.prog 23, n ≤ reachBytes) :
    ∃ gs : List Gd, InG w v gs ∧ gs.length ≤ 2 ^ 43 := by
  obtain ⟨a, n, c, rfl⟩ := okWide_slice Try.underlying23 hval
  obtain ⟨fuel, hf⟩ := hd
  obtain ⟨u, gs, hu, hg, hl⟩ := open_guids_at hf
  simp only [Value.cells, List.cons.injEq, and_true] at hu
  have hu' : Value.slice a n c = u := by simpa [Value.cells] using hu
  rw [← hu'] at hg
  refine ⟨gs, hg, ?_⟩
  rcases hl with rfl | ⟨q, hq⟩
  · simp
  · exact reach_len (hw _ hq)
theorem open_line (hval : Value.okWide Try.prog w r b0 25 v) (hd : DataW.Trod enc Try.prog w base spare held 25 v d ps) (hw : ∀ n ∈ d.weights Try.prog 25, n ≤ reachBytes) :
    ∃ x : Ln, InL w v x ∧ x.l.length ≤ 2 ^ 43 := by
  have hu : Try.prog.underlying 25 = some (.struct (Try.prog.fieldsOf 25)) := by kernel_rfl
  obtain ⟨cs, rfl, hsz⟩ := okWide_struct hu hval
  obtain ⟨fuel, hf⟩ := hd
  obtain ⟨xs, n, _, hx0, hlen, hxs, hx⟩ := DataW.trod_struct hu hf
  obtain ⟨f0, h0, t0, o0⟩ := field_at line_shape 0 _ _ rfl
  obtain ⟨f1, h1, t1, o1⟩ := field_at line_shape 1 _ _ rfl
  obtain ⟨f2, h2, t2, o2⟩ := field_at line_shape 2 _ _ rfl
  obtain ⟨f3, h3, t3, o3⟩ := field_at line_shape 3 _ _ rfl
  have hs : (Try.prog.fieldsOf 25).size = 4 := by kernel_rfl
  have e0 := hx 0 f0 h0
  have e1 := hx 1 f1 h1
  have e2 := hx 2 f2 h2
  have e3 := hx 3 f3 h3
  rw [t0, o0, show Try.prog.cellsOf 22 = 1 from by kernel_rfl, List.getElem?_eq_getElem (by omega)] at e0
  rw [t1, o1, show Try.prog.cellsOf 3 = 1 from by kernel_rfl, List.getElem?_eq_getElem (by omega)] at e1
  rw [t2, o2, show Try.prog.cellsOf 4 = 1 from by kernel_rfl, List.getElem?_eq_getElem (by omega)] at e2
  rw [t3, o3, show Try.prog.cellsOf 23 = 1 from by kernel_rfl, List.getElem?_eq_getElem (by omega)] at e3
  obtain ⟨z0, c0, _, w0⟩ := DataW.trod_int Try.underlying22 e0
  obtain ⟨z1, c1, _, w1⟩ := DataW.trod_int Try.underlying3 e1
  obtain ⟨z2, c2, _⟩ := DataW.trod_bool Try.underlying4 e2
  obtain ⟨u, gs, c3, hg, hl⟩ := open_guids_at e3
  have i0 := take_one c0
  have i1 := take_one c1
  have i2 := take_one c2
  have i3 := take_one c3
  rw [show Try.prog.cellsOf 25 = 4 from by kernel_rfl] at hsz
  have hcs : cs = #[.int .u64 z0, .int .i64 z1, .bool z2, u] := by
    apply Array.ext
    · simpa using hsz
    · intro i hi _
      have hi4 : i < 4 := by omega
      have get : ∀ (j : Nat) (y : Value), cs.toList[j]? = some y → (hj : j < cs.size) → cs[j] = y := by
        intro j y hy hj
        have : cs[j]? = some y := by simpa using hy
        rw [Array.getElem?_eq_getElem hj] at this
        exact Option.some.inj this
      simp only [Value.cells] at i0 i1 i2 i3
      match i, hi4 with
      | 0, _ => exact get 0 _ i0 hi
      | 1, _ => exact get 1 _ i1 hi
      | 2, _ => exact get 2 _ i2 hi
      | 3, _ => exact get 3 _ i3 hi
  refine ⟨⟨z0, z1, z2, gs⟩, ⟨u, by rw [hcs], hg, w0, w1⟩, ?_⟩
  rcases hl with rfl | ⟨q, hq⟩
  · simp
  · refine reach_len (r := q) (hw _ ?_)
    have hd0 : d = .agg (xs.map (·.1)) := by
      have := congrArg Prod.fst hx0
      simpa using this
    rw [hd0]
    unfold DataW.weights
    rw [hu]
    simp only
    have hts : ((Try.prog.fieldsOf 25).toList.map (·.type))[3]? = some 23 := by
      rw [List.getElem?_map, show (Try.prog.fieldsOf 25).toList[3]? = some f3 from by simpa using h3]
      simp [t3]
    have hds : (xs.map (·.1))[3]? = some (xs[3]'(by omega)).1 := by
      rw [List.getElem?_map, List.getElem?_eq_getElem (by omega)]
      rfl
    exact DataW.weights_mem_each hts hds _ hq
end
end Go.Proofs.Ytfkgidljgbhccaa
