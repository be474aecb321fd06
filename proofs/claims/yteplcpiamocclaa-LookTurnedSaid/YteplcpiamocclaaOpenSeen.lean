/-
  WHAT IS SEEN THAT COMES IN, OPENED.
-/
import Derived.Test.YteplcpiamocclaaSeen
import Derived.Test.YteplcpiamocclaaOpenG
import Derived.Test.YteplcpiamocclaaLook1
namespace Go.Proofs.Yteplcpiamocclaa
open Go.ChangeShapes Go.WideShapes Go.RowKit

theorem seen_shape : (Try.prog.fieldsOf 40).toList.map (fun f => (f.type, f.offset)) = [(4, 0), (4, 1), (37, 2), (35, 6), (35, 7), (38, 8)] := by kernel_rfl
theorem lineS_shape : (Try.prog.fieldsOf 37).toList.map (fun f => (f.type, f.offset)) = [(32, 0), (3, 1), (4, 2), (35, 3)] := by kernel_rfl
theorem take_in {cs : List Value} {d n k : Nat} {v : Value} (hk : k < n) (h : ((cs.drop d).take n)[k]? = some v) : cs[d + k]? = some v := by
  rw [List.getElem?_take_of_lt hk, List.getElem?_drop] at h
  exact h
section
variable {H : Type} {enc : TypeId × Value → H} {w : World} {base : Nat} {spare : Nat → Bool} {held : Bool} {fuel : Nat} {cs : List Value} {x : DataW H × List MemPlace}
theorem open_lineS_at (h : DataW.trod enc Try.prog w base spare held fuel 37 cs = some x) :
    ∃ E B L u gs, cs[0]? = some (.int .u64 E) ∧ cs[1]? = some (.int .i64 B) ∧ cs[2]? = some (.bool L) ∧ cs[3]? = some u ∧ InG w u gs := by
  obtain ⟨xs, n, _, _, hlen, hxs, hx⟩ := DataW.trod_struct (show Try.prog.underlying 37 = some (.struct (Try.prog.fieldsOf 37)) from by kernel_rfl) h
  obtain ⟨f0, h0, t0, o0⟩ := field_at lineS_shape 0 _ _ rfl
  obtain ⟨f1, h1, t1, o1⟩ := field_at lineS_shape 1 _ _ rfl
  obtain ⟨f2, h2, t2, o2⟩ := field_at lineS_shape 2 _ _ rfl
  obtain ⟨f3, h3, t3, o3⟩ := field_at lineS_shape 3 _ _ rfl
  have hs : (Try.prog.fieldsOf 37).size = 4 := by kernel_rfl
  have e0 := hx 0 f0 h0
  have e1 := hx 1 f1 h1
  have e2 := hx 2 f2 h2
  have e3 := hx 3 f3 h3
  rw [t0, o0, show Try.prog.cellsOf 32 = 1 from by kernel_rfl, List.getElem?_eq_getElem (by omega)] at e0
  rw [t1, o1, show Try.prog.cellsOf 3 = 1 from by kernel_rfl, List.getElem?_eq_getElem (by omega)] at e1
  rw [t2, o2, show Try.prog.cellsOf 4 = 1 from by kernel_rfl, List.getElem?_eq_getElem (by omega)] at e2
  rw [t3, o3, show Try.prog.cellsOf 35 = 1 from by kernel_rfl, List.getElem?_eq_getElem (by omega)] at e3
  obtain ⟨z0, c0, _, _⟩ := DataW.trod_int Try.underlying32 e0
  obtain ⟨z1, c1, _, _⟩ := DataW.trod_int Try.underlying3 e1
  obtain ⟨z2, c2, _⟩ := DataW.trod_bool Try.underlying4 e2
  obtain ⟨u, gs, c3, hg, _⟩ := open_guids_at e3
  exact ⟨z0, z1, z2, u, gs, take_one c0, take_one c1, take_one c2, take_one c3, hg⟩
theorem open_imgs_at (h : DataW.trod enc Try.prog w base spare held fuel 38 cs = some x) : ∃ a n c, cs = [.slice a n c] := by
  rcases DataW.trod_slice Try.underlying38 h with ⟨rfl, _⟩ | ⟨a, len, cap, elems, rest, n, _, rfl, _⟩
  · exact ⟨_, _, _, rfl⟩
  · exact ⟨_, _, _, rfl⟩
theorem open_seen_at (g o : Nat) (h : DataW.trod enc Try.prog w base spare held fuel 40 cs = some x) (hc : ∀ i, i < 9 → w.cell? ⟨g, o + i, none⟩ = cs[i]?) : ∃ z : El, SeenAt w g o z ∧ ElOK w z := by
  obtain ⟨xs, n, _, _, hlen, hxs, hx⟩ := DataW.trod_struct (show Try.prog.underlying 40 = some (.struct (Try.prog.fieldsOf 40)) from by kernel_rfl) h
  obtain ⟨f0, h0, t0, o0⟩ := field_at seen_shape 0 _ _ rfl
  obtain ⟨f1, h1, t1, o1⟩ := field_at seen_shape 1 _ _ rfl
  obtain ⟨f2, h2, t2, o2⟩ := field_at seen_shape 2 _ _ rfl
  obtain ⟨f3, h3, t3, o3⟩ := field_at seen_shape 3 _ _ rfl
  obtain ⟨f4, h4, t4, o4⟩ := field_at seen_shape 4 _ _ rfl
  obtain ⟨f5, h5, t5, o5⟩ := field_at seen_shape 5 _ _ rfl
  have hs : (Try.prog.fieldsOf 40).size = 6 := by kernel_rfl
  have e0 := hx 0 f0 h0
  have e1 := hx 1 f1 h1
  have e2 := hx 2 f2 h2
  have e3 := hx 3 f3 h3
  have e4 := hx 4 f4 h4
  have e5 := hx 5 f5 h5
  rw [t0, o0, show Try.prog.cellsOf 4 = 1 from by kernel_rfl, List.getElem?_eq_getElem (by omega)] at e0
  rw [t1, o1, show Try.prog.cellsOf 4 = 1 from by kernel_rfl, List.getElem?_eq_getElem (by omega)] at e1
  rw [t2, o2, show Try.prog.cellsOf 37 = 4 from by kernel_rfl, List.getElem?_eq_getElem (by omega)] at e2
  rw [t3, o3, show Try.prog.cellsOf 35 = 1 from by kernel_rfl, List.getElem?_eq_getElem (by omega)] at e3
  rw [t4, o4, show Try.prog.cellsOf 35 = 1 from by kernel_rfl, List.getElem?_eq_getElem (by omega)] at e4
  rw [t5, o5, show Try.prog.cellsOf 38 = 1 from by kernel_rfl, List.getElem?_eq_getElem (by omega)] at e5
  obtain ⟨z0, c0, _⟩ := DataW.trod_bool Try.underlying4 e0
  obtain ⟨z1, c1, _⟩ := DataW.trod_bool Try.underlying4 e1
  obtain ⟨E, B, L, ul, gl, l0, l1, l2, l3, hgl⟩ := open_lineS_at e2
  obtain ⟨us, gs, c3, hgs, _⟩ := open_guids_at e3
  obtain ⟨ut, gt, c4, hgt, _⟩ := open_guids_at e4
  obtain ⟨ia, il, ic, c5⟩ := open_imgs_at e5
  obtain ⟨la, lc, rfl⟩ := hgl.slice_
  obtain ⟨sa, sc, rfl⟩ := hgs.slice_
  obtain ⟨ta, tc, rfl⟩ := hgt.slice_
  have i0 := take_one c0
  have i1 := take_one c1
  have i2 := take_in (by omega) l0
  have i3 := take_in (by omega) l1
  have i4 := take_in (by omega) l2
  have i5 := take_in (by omega) l3
  have i6 := take_one c3
  have i7 := take_one c4
  have i8 := take_one c5
  exact ⟨⟨z0, z1, E, B, L, gl, gs, gt, la, lc, sa, sc, ta, tc, ia, il, ic⟩, ⟨(hc 0 (by omega)).trans i0, (hc 1 (by omega)).trans i1, (hc 2 (by omega)).trans i2, (hc 3 (by omega)).trans i3, (hc 4 (by omega)).trans i4, (hc 5 (by omega)).trans i5, (hc 6 (by omega)).trans i6, (hc 7 (by omega)).trans i7, (hc 8 (by omega)).trans i8⟩, hgl, hgs, hgt⟩
end
section
variable {H : Type} {enc : TypeId × Value → H} {w : World} {base : Nat} {spare : Nat → Bool} {held : Bool} {r : Reach} {b0 : Nat} {v : Value} {d : DataW H} {ps : List MemPlace}
theorem open_seens (hval : Value.okWide Try.prog w r b0 23 v) (hd : DataW.Trod enc Try.prog w base spare held 23 v d ps) (_ : ∀ n ∈ d.weights Try.prog 23, n ≤ reachBytes) :
    ∃ es : List El, InS w v es ∧ True := by
  obtain ⟨a0, n0, c0, rfl⟩ := okWide_slice Try.underlying23 hval
  obtain ⟨fuel, hf⟩ := hd
  rcases DataW.trod_slice Try.underlying23 hf with ⟨h0, _⟩ | ⟨a, len, cap, elems, rest, n, _, h0, hx, hb, hl, hm, hlen, hel, _, _⟩
  · simp [Value.cells] at h0
    obtain ⟨rfl, rfl, rfl⟩ := h0
    exact ⟨[], ⟨none, 0, rfl, .inl rfl, Nat.zero_le _, fun j hj => by simp at hj⟩, trivial⟩
  · simp [Value.cells] at h0
    obtain ⟨rfl, rfl, rfl⟩ := h0
    rw [show Try.prog.cellsOf 40 = 9 from by kernel_rfl] at hel
    rcases Nat.eq_zero_or_pos n0 with rfl | hp
    · exact ⟨[], ⟨_, c0, rfl, .inl rfl, Nat.zero_le _, fun j hj => by simp at hj⟩, trivial⟩
    · obtain ⟨b, off, spot⟩ := a
      have hspot : spot = none := by
        have h1 := hel 0 hp
        rw [List.getElem?_eq_getElem (by omega), Option.bind_eq_some_iff] at h1
        obtain ⟨ds, hds, hy⟩ := h1
        obtain ⟨-, hdl, hdc⟩ := World.cells?_some hds
        have hd0 : w.cell? ((Addr.add ⟨b, off, spot⟩ (0 * 9)).add 0) = some (ds[0]'(by omega)) := (hdc 0 (by omega)).trans (List.getElem?_eq_getElem (by omega))
        simpa [Addr.add] using World.cell?_spot hd0
      subst hspot
      have each : ∀ i, i < n0 → ∃ z : El, SeenAt w b (off + i * 9) z ∧ ElOK w z := by
        intro i hi
        have h1 := hel i hi
        rw [List.getElem?_eq_getElem (by omega), Option.bind_eq_some_iff] at h1
        obtain ⟨ds, hds, hy⟩ := h1
        obtain ⟨-, hdl, hdc⟩ := World.cells?_some hds
        have hc : ∀ j, j < 9 → w.cell? ⟨b, off + i * 9 + j, none⟩ = ds[j]? := fun j hj => by
          have := hdc j hj
          rwa [Go.Proofs.Yteplcpiamocclaa.addr_add, Go.Proofs.Yteplcpiamocclaa.addr_add] at this
        exact open_seen_at b (off + i * 9) hy hc
      have ch : ∀ i : Nat, ∃ z : El, i < n0 → SeenAt w b (off + i * 9) z ∧ ElOK w z := by
        intro i
        by_cases hi : i < n0
        · obtain ⟨z, hz⟩ := each i hi
          exact ⟨z, fun _ => hz⟩
        · exact ⟨el0, fun h => absurd h hi⟩
      let f : Nat → El := fun i => Classical.choose (ch i)
      have hf2 : ∀ i, i < n0 → SeenAt w b (off + i * 9) (f i) ∧ ElOK w (f i) := fun i => Classical.choose_spec (ch i)
      have hlen2 : ((List.range n0).map f).length = n0 := by simp
      refine ⟨(List.range n0).map f, ⟨_, c0, by rw [hlen2], by rw [hlen2]; exact .inr hl, by rw [hlen2]; omega, fun j hj => ?_⟩, trivial⟩
      rw [hlen2] at hj
      have hget : ((List.range n0).map f).getD j el0 = f j := by simp [hj]
      rw [hget]
      exact ⟨⟨b, off, rfl, (hf2 j hj).1⟩, (hf2 j hj).2⟩
end
end Go.Proofs.Yteplcpiamocclaa
