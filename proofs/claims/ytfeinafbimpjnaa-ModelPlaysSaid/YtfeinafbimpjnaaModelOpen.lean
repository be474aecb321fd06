/-
  WHAT IS DONE TO A MODEL (acts), AS IT COMES IN: opened.
-/
import Derived.Test.YtfeinafbimpjnaaOpenG
namespace Go.Proofs.Ytfeinafbimpjnaa
open Go.ChangeShapes Go.WideShapes Go.RowKit

structure Ac where
  what : Int
  block : Int
  epoch : Int
  g : Gd
  letter : Int
  short : Bool
  l : List Gd
def acs0 : Ac := ⟨0, 0, 0, (0, 0), 0, false, []⟩
/-- an act's cells at a place -/
def ActAt (w : World) (g o : Nat) (x : Ac) : Prop := ∃ sl, w.cell? ⟨g, o, none⟩ = some (.int .i64 x.what) ∧ w.cell? ⟨g, o + 1, none⟩ = some (.int .i64 x.block) ∧ w.cell? ⟨g, o + 2, none⟩ = some (.int .u64 x.epoch) ∧
  w.cell? ⟨g, o + 3, none⟩ = some (.int .u64 x.g.1) ∧ w.cell? ⟨g, o + 4, none⟩ = some (.int .u64 x.g.2) ∧ w.cell? ⟨g, o + 5, none⟩ = some (.int .u8 x.letter) ∧ w.cell? ⟨g, o + 6, none⟩ = some (.bool x.short) ∧
  w.cell? ⟨g, o + 7, none⟩ = some sl ∧ InG w sl x.l ∧ (Lit.int .i64 x.what).wf = true ∧ (Lit.int .i64 x.block).wf = true ∧ (Lit.int .u64 x.epoch).wf = true ∧ wfG x.g ∧ (Lit.int .u8 x.letter).wf = true
/-- v is read as the acts xs -/
def InA (w : World) (v : Value) (xs : List Ac) : Prop := ∃ a c, v = .slice a xs.length c ∧ (xs.length = 0 ∨ xs.length ≤ c) ∧ xs.length ≤ maxLen ∧ ∀ j, j < xs.length → ∃ g off, a = some ⟨g, off, none⟩ ∧ ActAt w g (off + j * 8) (xs.getD j acs0)
theorem ActAt.keep {w w' : World} {g o : Nat} {x : Ac} (h : ActAt w g o x) (hb : Below w.heap.size w w') : ActAt w' g o x := by
  obtain ⟨sl, h0, h1, h2, h3, h4, h5, h6, h7, h8, h9⟩ := h
  exact ⟨sl, cell_later hb h0, cell_later hb h1, cell_later hb h2, cell_later hb h3, cell_later hb h4, cell_later hb h5, cell_later hb h6, cell_later hb h7, h8.keep hb, h9⟩
theorem act_shape : (Try.prog.fieldsOf 36).toList.map (fun f => (f.type, f.offset)) = [(3, 0), (3, 1), (32, 2), (34, 3), (5, 5), (4, 6), (29, 7)] := by kernel_rfl
section
variable {H : Type} {enc : TypeId × Value → H} {w : World} {base : Nat} {spare : Nat → Bool} {held : Bool} {fuel : Nat} {cs : List Value} {x : DataW H × List MemPlace}
theorem open_act_at (g o : Nat) (h : DataW.trod enc Try.prog w base spare held fuel 36 cs = some x) (hc : ∀ i, i < 8 → w.cell? ⟨g, o + i, none⟩ = cs[i]?) : ∃ z : Ac, ActAt w g o z := by
  obtain ⟨xs, n, _, _, hlen, hxs, hx⟩ := DataW.trod_struct (show Try.prog.underlying 36 = some (.struct (Try.prog.fieldsOf 36)) from by kernel_rfl) h
  obtain ⟨f0, h0, t0, o0⟩ := field_at act_shape 0 _ _ rfl
  obtain ⟨f1, h1, t1, o1⟩ := field_at act_shape 1 _ _ rfl
  obtain ⟨f2, h2, t2, o2⟩ := field_at act_shape 2 _ _ rfl
  obtain ⟨f3, h3, t3, o3⟩ := field_at act_shape 3 _ _ rfl
  obtain ⟨f4, h4, t4, o4⟩ := field_at act_shape 4 _ _ rfl
  obtain ⟨f5, h5, t5, o5⟩ := field_at act_shape 5 _ _ rfl
  obtain ⟨f6, h6, t6, o6⟩ := field_at act_shape 6 _ _ rfl
  have hs : (Try.prog.fieldsOf 36).size = 7 := by kernel_rfl
  have e0 := hx 0 f0 h0
  have e1 := hx 1 f1 h1
  have e2 := hx 2 f2 h2
  have e3 := hx 3 f3 h3
  have e4 := hx 4 f4 h4
  have e5 := hx 5 f5 h5
  have e6 := hx 6 f6 h6
  rw [t0, o0, show Try.prog.cellsOf 3 = 1 from by kernel_rfl, List.getElem?_eq_getElem (by omega)] at e0
  rw [t1, o1, show Try.prog.cellsOf 3 = 1 from by kernel_rfl, List.getElem?_eq_getElem (by omega)] at e1
  rw [t2, o2, show Try.prog.cellsOf 32 = 1 from by kernel_rfl, List.getElem?_eq_getElem (by omega)] at e2
  rw [t3, o3, show Try.prog.cellsOf 34 = 2 from by kernel_rfl, List.getElem?_eq_getElem (by omega)] at e3
  rw [t4, o4, show Try.prog.cellsOf 5 = 1 from by kernel_rfl, List.getElem?_eq_getElem (by omega)] at e4
  rw [t5, o5, show Try.prog.cellsOf 4 = 1 from by kernel_rfl, List.getElem?_eq_getElem (by omega)] at e5
  rw [t6, o6, show Try.prog.cellsOf 29 = 1 from by kernel_rfl, List.getElem?_eq_getElem (by omega)] at e6
  obtain ⟨z0, c0, _, w0⟩ := DataW.trod_int Try.underlying3 e0
  obtain ⟨z1, c1, _, w1⟩ := DataW.trod_int Try.underlying3 e1
  obtain ⟨z2, c2, _, w2⟩ := DataW.trod_int Try.underlying32 e2
  obtain ⟨z3, c3, w3⟩ := open_guid_at e3
  obtain ⟨z4, c4, _, w4⟩ := DataW.trod_int Try.underlying5 e4
  obtain ⟨z5, c5, _⟩ := DataW.trod_bool Try.underlying4 e5
  obtain ⟨u, gs, c6, hg, _⟩ := open_guids_at e6
  have i0 := take_one c0
  have i1 := take_one c1
  have i2 := take_one c2
  have i4 := take_one c4
  have i5 := take_one c5
  have i6 := take_one c6
  have i3 : cs[3]? = some (.int .u64 z3.1) := by
    have := congrArg (fun y => y[0]?) c3
    simpa using this
  have i3' : cs[4]? = some (.int .u64 z3.2) := by
    have := congrArg (fun y => y[1]?) c3
    simpa using this
  exact ⟨⟨z0, z1, z2, z3, z4, z5, gs⟩, u, (hc 0 (by omega)).trans i0, (hc 1 (by omega)).trans i1, (hc 2 (by omega)).trans i2, (hc 3 (by omega)).trans i3, (hc 4 (by omega)).trans i3', (hc 5 (by omega)).trans i4, (hc 6 (by omega)).trans i5, (hc 7 (by omega)).trans i6, hg, w0, w1, w2, w3, w4⟩
end
section
variable {H : Type} {enc : TypeId × Value → H} {w : World} {base : Nat} {spare : Nat → Bool} {held : Bool} {r : Reach} {b0 : Nat} {v : Value} {d : DataW H} {ps : List MemPlace}
theorem open_acts (hval : Value.okWide Try.prog w r b0 22 v) (hd : DataW.Trod enc Try.prog w base spare held 22 v d ps) (_ : ∀ n ∈ d.weights Try.prog 22, n ≤ reachBytes) :
    ∃ xs : List Ac, InA w v xs ∧ True := by
  obtain ⟨a0, n0, c0, rfl⟩ := okWide_slice Try.underlying22 hval
  obtain ⟨fuel, hf⟩ := hd
  rcases DataW.trod_slice Try.underlying22 hf with ⟨h0, _⟩ | ⟨a, len, cap, elems, rest, n, _, h0, hx, hb, hl, hm, hlen, hel, _, _⟩
  · simp [Value.cells] at h0
    obtain ⟨rfl, rfl, rfl⟩ := h0
    exact ⟨[], ⟨none, 0, rfl, .inl rfl, Nat.zero_le _, fun j hj => by simp at hj⟩, trivial⟩
  · simp [Value.cells] at h0
    obtain ⟨rfl, rfl, rfl⟩ := h0
    rw [show Try.prog.cellsOf 36 = 8 from by kernel_rfl] at hel
    rcases Nat.eq_zero_or_pos n0 with rfl | hp
    · exact ⟨[], ⟨_, c0, rfl, .inl rfl, Nat.zero_le _, fun j hj => by simp at hj⟩, trivial⟩
    · obtain ⟨b, off, spot⟩ := a
      have hspot : spot = none := by
        have h1 := hel 0 hp
        rw [List.getElem?_eq_getElem (by omega), Option.bind_eq_some_iff] at h1
        obtain ⟨ds, hds, hy⟩ := h1
        obtain ⟨-, hdl, hdc⟩ := World.cells?_some hds
        have hd0 : w.cell? ((Addr.add ⟨b, off, spot⟩ (0 * 8)).add 0) = some (ds[0]'(by omega)) := (hdc 0 (by omega)).trans (List.getElem?_eq_getElem (by omega))
        simpa [Addr.add] using World.cell?_spot hd0
      subst hspot
      have each : ∀ i, i < n0 → ∃ z : Ac, ActAt w b (off + i * 8) z := by
        intro i hi
        have h1 := hel i hi
        rw [List.getElem?_eq_getElem (by omega), Option.bind_eq_some_iff] at h1
        obtain ⟨ds, hds, hy⟩ := h1
        obtain ⟨-, hdl, hdc⟩ := World.cells?_some hds
        have hc : ∀ j, j < 8 → w.cell? ⟨b, off + i * 8 + j, none⟩ = ds[j]? := fun j hj => by
          have := hdc j hj
          rwa [addr_add, addr_add] at this
        exact open_act_at b (off + i * 8) hy hc
      have ch : ∀ i : Nat, ∃ z : Ac, i < n0 → ActAt w b (off + i * 8) z := by
        intro i
        by_cases hi : i < n0
        · obtain ⟨z, hz⟩ := each i hi
          exact ⟨z, fun _ => hz⟩
        · exact ⟨acs0, fun h => absurd h hi⟩
      let f : Nat → Ac := fun i => Classical.choose (ch i)
      have hf2 : ∀ i, i < n0 → ActAt w b (off + i * 8) (f i) := fun i => Classical.choose_spec (ch i)
      have hlen2 : ((List.range n0).map f).length = n0 := by simp
      refine ⟨(List.range n0).map f, ⟨_, c0, by rw [hlen2], .inr (by rw [hlen2]; exact hl), by rw [hlen2]; omega, fun j hj => ?_⟩, trivial⟩
      rw [hlen2] at hj
      refine ⟨b, off, rfl, ?_⟩
      have hget : ((List.range n0).map f).getD j acs0 = f j := by simp [hj]
      rw [hget]
      exact hf2 j hj
end
end Go.Proofs.Ytfeinafbimpjnaa
