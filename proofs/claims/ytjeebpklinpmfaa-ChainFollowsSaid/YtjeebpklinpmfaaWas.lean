/-
  A ROW OF ROWS OF TEXTS that the call owns; what stays of it beside chains.
-/
import Derived.Test.YtjeebpklinpmfaaChR
namespace Go.Proofs.Ytjeebpklinpmfaa
open Go.RowKit Reg Go.WideShapes Go.ChangeShapes

theorem own_oth {w w' : World} {base size n : Nat} {e : TypeId} {v : Value} {xs : List Value} (h : w.ownsRow base e size v n xs) (ho : Oth w w') (h1 : e ≠ 72) (h2 : e ≠ 74) : w'.ownsRow base e size v n xs := by
  refine ⟨h.1, ?_⟩
  rcases h.2 with hn | ⟨g, cap, cur, rfl, hg, hh, rest⟩
  · exact .inl hn
  · exact .inr ⟨g, cap, cur, rfl, hg, ho g e cur h1 h2 hh, rest⟩
theorem OwT.oth {w w' : World} {base : Nat} {v : Value} {zs : List ByteArray} (h : OwT w base v zs) (ho : Oth w w') : OwT w' base v zs := ⟨own_oth h.1 ho (by decide) (by decide), h.2⟩
theorem OwC.oth {w w' : World} {base : Nat} {v : Value} {cs : List Cg} (h : OwC w base v cs) (ho : Oth w w') : OwC w' base v cs := ⟨own_oth h.1 ho (by decide) (by decide), h.2⟩
theorem row_info : (Try.prog.info? 35).map (fun i => (i.zero, i.size, i.bytes)) = some (some (.slice none 0 0), 1, 24) := by kernel_rfl
/-- v owns the rows xs, from block B on -/
def Ws (B : Nat) (w : World) (v : Value) (xs : List (List ByteArray)) : Prop :=
  ∃ us : List Value, us.length = xs.length ∧ w.ownsRow B 35 1 v us.length us ∧ (∀ u ∈ us, u.oneCell' = true) ∧ ∀ j, j < xs.length → OwT w B (us.getD j undef) (xs.getD j [])
section
variable {B : Nat} {w w' : World} {v : Value} {xs : List (List ByteArray)}
theorem Ws.nil_ (B : Nat) (w : World) : Ws B w (.slice none 0 0) [] := ⟨[], rfl, World.ownsRow_nil _ _ _ _, by simp, fun j hj => by simp at hj⟩
theorem Ws.oth (h : Ws B w v xs) (ho : Oth w w') : Ws B w' v xs := by
  obtain ⟨us, h1, h2, h3, h4⟩ := h
  exact ⟨us, h1, own_oth h2 ho (by decide) (by decide), h3, fun j hj => (h4 j hj).oth ho⟩
theorem Oth.of_below (h : Below w.heap.size w w') : Oth w w' := fun _ _ _ _ _ hb => hb.keep h
theorem Ws.keep (h : Ws B w v xs) (hb : Below w.heap.size w w') : Ws B w' v xs := h.oth (.of_below hb)
theorem Ws.lt (h : Ws B w v xs) {b : Nat} (hb : v.ownBlock = some b) : ∃ cs, Blk w b 35 cs ∧ B ≤ b := by
  obtain ⟨us, h1, h2, h3, h4⟩ := h
  rcases h2.2 with ⟨rfl, _⟩ | ⟨g, cap, cur, rfl, hg, hh, _⟩
  · cases hb
  · obtain rfl : g = b := by simpa [Value.ownBlock] using hb
    exact ⟨cur, hh, hg⟩
theorem Ws.at (h : Ws B w v xs) : ∃ a c, v = .slice a xs.length c ∧ ∀ j, j < xs.length → ∃ g u, a = some ⟨g, 0, none⟩ ∧ w.cell? ⟨g, j, none⟩ = some u ∧ InT w u (xs.getD j []) := by
  obtain ⟨us, h1, h2, h3, h4⟩ := h
  rcases h2.2 with ⟨rfl, h0⟩ | ⟨g, cap, cur, rfl, hg, hh, rest⟩
  · exact ⟨none, 0, by rw [← h1, h0], fun j hj => by omega⟩
  · refine ⟨_, cap, by rw [h1], fun j hj => ⟨g, us.getD j undef, rfl, ?_, (h4 j hj).rd⟩⟩
    have h5 : us[j]? = some (us.getD j undef) := by simp [show j < us.length by omega]
    have := h2.cells (g := g) rfl j _ h5
    rwa [addr_add, Nat.zero_add] at this
theorem Ws.at2 {a : Option Addr} {n c : Nat} (h : Ws B w (.slice a n c) xs) : ∀ j, j < xs.length → ∃ g u, a = some ⟨g, 0, none⟩ ∧ w.cell? ⟨g, j, none⟩ = some u ∧ InT w u (xs.getD j []) := by
  obtain ⟨a', c', e, hx⟩ := h.at
  simp only [Value.slice.injEq] at e
  rw [e.1]
  exact hx
/-- what an append leaves -/
theorem Ws.app {u : Value} {zs : List ByteArray} (h : Ws B w v xs) (ty : TypeId) (w0 : World) (cc : Array Value) (hw : w = w0.alloc (.cells cc 35)) (hcc : cc = #[u]) (hu : OwT w B u zs) (hu1 : u.oneCell' = true) (hn : xs.length ≤ 1000) (hB : B ≤ w.heap.size) :
    ∃ v' w', (Builtin.append_ #[26, 26] ty #[v, .slice (some ⟨w0.heap.size, 0, none⟩) 1 1]).run Try.prog w = .ok v' w' ∧ Ws B w' v' (xs ++ [zs]) ∧ Kp (fun b => v.ownBlock = some b) w w' := by
  obtain ⟨i, hi, hz0, hz1, hz2⟩ := info_parts row_info
  have hws := h
  obtain ⟨us, h1, h2, h3, h4⟩ := h
  have hb : Blk w w0.heap.size 35 #[u] := by rw [hw, hcc]; exact Blk.new _ _ _
  obtain ⟨v', w', r1, r2, r3, _⟩ := app_own (P := Try.prog) w B 26 ty 35 i _ 1 24 Try.underlying26 hi hz0 hz1 hz2 rfl (by decide) h2 (Rd.of_blk hb (n := 1) (size := 1) rfl 1 (Nat.le_refl _)) (by simpa using hu1) (by unfold maxLen; omega) (by omega) hB
  have hk : Kp (fun b => v.ownBlock = some b) w w' := Kp.of_grown r3
  have hrow : ∀ z zs', OwT w B z zs' → OwT w' B z zs' := fun z zs' hz => by
    refine ⟨⟨hz.1.1, ?_⟩, hz.2⟩
    rcases hz.1.2 with hn | ⟨g, cap, cur, rfl, hg, hh, rest⟩
    · exact .inl hn
    · refine .inr ⟨g, cap, cur, rfl, hg, hk.blk (show Blk w g 9 cur from hh) (fun e => ?_), rest⟩
      obtain ⟨cs, hc, _⟩ := hws.lt e
      unfold Blk at hc
      rw [hc] at hh
      simp only [Option.some.injEq, Obj.cells.injEq] at hh
      exact absurd hh.2.1 (by decide)
  refine ⟨v', w', r1, ⟨us ++ [u], by simp [h1], by rw [List.length_append]; exact r2, ?_, fun j hj => ?_⟩, hk⟩
  · intro x hx
    rcases List.mem_append.1 hx with hx | hx
    · exact h3 x hx
    · rw [List.mem_singleton] at hx
      rw [hx]
      exact hu1
  · rw [List.length_append, List.length_singleton] at hj
    by_cases hj2 : j < xs.length
    · have e1 : (us ++ [u]).getD j undef = us.getD j undef := by
        rw [List.getD_eq_getElem?_getD, List.getD_eq_getElem?_getD, List.getElem?_append_left (by omega)]
      have e2 : (xs ++ [zs]).getD j [] = xs.getD j [] := by
        rw [List.getD_eq_getElem?_getD, List.getD_eq_getElem?_getD, List.getElem?_append_left hj2]
      rw [e1, e2]
      exact hrow _ _ (h4 j hj2)
    · obtain rfl : j = xs.length := by omega
      have e1 : (us ++ [u]).getD xs.length undef = u := by
        rw [List.getD_eq_getElem?_getD, List.getElem?_append_right (by omega), h1, Nat.sub_self]
        rfl
      have e2 : (xs ++ [zs]).getD xs.length [] = zs := by
        rw [List.getD_eq_getElem?_getD, List.getElem?_append_right (Nat.le_refl _), Nat.sub_self]
        rfl
      rw [e1, e2]
      exact hrow _ _ hu
end
theorem Hp.turn {B : Nat} {w0 w w' : World} {ba bb : Nat} {A D : Ch} {row : Option Nat} (h : Hp B w0 w ba A bb D) (hk : Kp (fun b => row = some b) w w') (hr : ∀ b, row = some b → ∃ cs, Blk w b 35 cs ∧ B ≤ b) : Hp B w0 w' ba A bb D := by
  obtain ⟨sa, sb, h1, h2, h3, h4, h5⟩ := h.ex
  have no1 : ∀ {b : Nat} {t : TypeId} {cs : Array Value}, Blk w b t cs → t ≠ 35 → ¬ row = some b := fun hb ht e => by
    obtain ⟨cs', hc, _⟩ := hr _ e
    unfold Blk at hb hc
    rw [hc] at hb
    simp only [Option.some.injEq, Obj.cells.injEq] at hb
    exact ht hb.2.1.symm
  refine ⟨⟨sa, sb, h1.kp hk (no1 h1.obj (by decide)) ?_, h2.kp hk (no1 h2.obj (by decide)) ?_, h3, h4, h5⟩, h.ne, h.ba, h.bb, h.below.trans (hk.below (fun b hb => (hr b hb).choose_spec.2) h.size), Nat.le_trans h.size hk.size⟩
  · intro b hb
    obtain ⟨cs, hc⟩ := h1.snaps.blk hb
    exact no1 hc (by decide)
  · intro b hb
    obtain ⟨cs, hc⟩ := h2.snaps.blk hb
    exact no1 hc (by decide)
end Go.Proofs.Ytjeebpklinpmfaa
