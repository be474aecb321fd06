/-
  LineKnown, WALKED (printed by wip/gen-lineknown.py).
-/
import Derived.Test.YtfkgidljgbhccaaLineChecks
import Derived.Test.YtfkgidljgbhccaaLineOrder
import Derived.Test.YtfkgidljgbhccaaAppF
namespace Go.Proofs.Ytfkgidljgbhccaa
open Go.RowKit Reg

section
variable {ops : Array Oper} {md : Region.Mode} {i s m : Nat}
theorem dep_at (n : Nat) (h : directB ops md i s = true) : depB ops md (n + 1) i s = true := by
  unfold directB at h
  cases ho : ops[i]? with
  | none => rw [ho] at h; cases h
  | some o =>
    rw [ho] at h
    simp only [Array.any_eq_true, Bool.and_eq_true] at h
    obtain ⟨k, hk, hb, he⟩ := h
    simp only [depB, ho, Array.any_eq_true, Bool.and_eq_true, Bool.or_eq_true]
    exact ⟨k, hk, hb, .inl he⟩
theorem dep_two (n : Nat) (h1 : directB ops md i m = true) (h2 : directB ops md m s = true) : depB ops md (n + 2) i s = true := by
  have h3 := dep_at n h2
  unfold directB at h1
  cases ho : ops[i]? with
  | none => rw [ho] at h1; cases h1
  | some o =>
    rw [ho] at h1
    simp only [Array.any_eq_true, Bool.and_eq_true] at h1
    obtain ⟨k, hk, hb, he⟩ := h1
    rw [depB, ho]
    simp only [Array.any_eq_true, Bool.and_eq_true, Bool.or_eq_true]
    refine ⟨k, hk, hb, .inr ?_⟩
    have : o.after[k].on = m := by simpa using he
    rw [this]
    exact h3
theorem got2 {σ : Nat → Option Value} {ν : Nat → Value} {sp : Nat → Bool} (hA : Agree σ ν) (hD : Deps ops md sp i σ) (s m : Nat) (hs : sp s = true) (h1 : directB ops md i m = true) (h2 : directB ops md m s = true) (hz : 2 ≤ ops.size) : σ s = some (ν s) := by
  obtain ⟨n, hn⟩ : ∃ n, ops.size = n + 2 := ⟨ops.size - 2, by omega⟩
  exact got hA hD s hs (by rw [hn]; exact dep_two n h1 h2)
end
/-- a slice of lines, element by element -/
def InLs (w : World) (g n : Nat) (xs : Nat → Ln) : Prop := ∀ k, k < n → ∃ E B L a m c, w.cell? ⟨g, k * 4, none⟩ = some (.int .u64 E) ∧ w.cell? ⟨g, k * 4 + 1, none⟩ = some (.int .i64 B) ∧ w.cell? ⟨g, k * 4 + 2, none⟩ = some (.bool L) ∧ w.cell? ⟨g, k * 4 + 3, none⟩ = some (.slice a m c) ∧
  InL w (.agg #[.int .u64 E, .int .i64 B, .bool L, .slice a m c]) (xs k)
theorem InLs.keep {w w' : World} {g n : Nat} {xs : Nat → Ln} (h : InLs w g n xs) (hb : Below w.heap.size w w') : InLs w' g n xs := by
  intro k hk
  obtain ⟨E, B, L, a, m, c, h0, h1, h2, h3, h4⟩ := h k hk
  exact ⟨E, B, L, a, m, c, cell_later hb h0, cell_later hb h1, cell_later hb h2, cell_later hb h3, h4.keep hb⟩
def goodL (k : Nat) : Ln := match k with
  | 0 => ⟨0, 0, false, []⟩
  | 1 => ⟨5, 0, false, []⟩
  | 2 => ⟨2, 2, true, [(0, 1), (2, 0)]⟩
  | 3 => ⟨9223372036854775808, 0, false, [(1, 1), (1, 2), (2, 1)]⟩
  | _ => ⟨0, 0, false, []⟩
def badL (k : Nat) : Ln := match k with
  | 0 => ⟨1, 0, false, [(0, 0)]⟩
  | 1 => ⟨1, 0, false, [(1, 1), (1, 1)]⟩
  | 2 => ⟨2, 0, false, [(2, 1), (1, 2)]⟩
  | 3 => ⟨1, 0, false, [(2, 1)]⟩
  | 4 => ⟨0, (-1), false, []⟩
  | 5 => ⟨0, 1, false, []⟩
  | 6 => ⟨1, 2, false, [(1, 1)]⟩
  | _ => ⟨0, 0, false, []⟩
def csL (sv : Value) : Array Value := #[.int .u64 1, .int .i64 (-1), .bool false, sv]
/-- while a guid is stored into the slice that was shared -/
structure SI (w15 w17 : World) (base : Nat) (gc : Array Value) (w : World) : Prop where
  below : Below w15.heap.size w15 w
  high : ∀ b, base ≤ b → b < w17.heap.size → w.heap[b]? = w17.heap[b]?
  size : w17.heap.size ≤ w.heap.size
  one : ∃ x y : Int, Blk w w15.heap.size 32 #[.int .u64 x, .int .u64 y]
  nine : Blk w (w15.heap.size + 1) 25 gc
  hb : w15.heap.size + 1 < base
theorem SI.keep {w15 w17 w w' : World} {base : Nat} {gc : Array Value} (h : SI w15 w17 base gc w) (hb : Below w.heap.size w w') : SI w15 w17 base gc w' := by
  obtain ⟨x, y, hxy⟩ := h.one
  exact ⟨h.below.trans (hb.mono h.below.size), fun b h1 h2 => (hb.block b (Nat.lt_of_lt_of_le h2 h.size)).trans (h.high b h1 h2), Nat.le_trans h.size hb.size, ⟨x, y, hxy.keep hb⟩, h.nine.keep hb, h.hb⟩
theorem SI.put {w15 w17 w : World} {base : Nat} {gc : Array Value} (h : SI w15 w17 base gc w) (x y : Int) : SI w15 w17 base gc (w.setRow w15.heap.size #[.int .u64 x, .int .u64 y]) := by
  obtain ⟨x0, y0, hxy⟩ := h.one
  refine ⟨Below.setRow h.below (Nat.le_refl _) _, fun b h1 h2 => ?_, by simpa [World.setRow] using h.size, ⟨x, y, hxy.row _⟩, h.nine.farRow (by omega) _, h.hb⟩
  rw [← h.high b h1 h2]
  have := h.hb
  simp only [World.setRow, Array.getElem?_modify]
  rw [if_neg (by omega)]
theorem SI.start {w15 w16 : World} {base : Nat} {o : Obj} {gc : Array Value} {x y : Int} (hb : Below w15.heap.size w15 w16) (h9 : Blk w16 (w15.heap.size + 1) 25 gc) (h1 : Blk w16 w15.heap.size 32 #[.int .u64 x, .int .u64 y]) (h : w15.heap.size + 1 < base) : SI w15 (w16.alloc o) base gc (w16.alloc o) :=
  ⟨hb.alloc hb.size o, fun _ _ _ => rfl, Nat.le_refl _, ⟨x, y, h1.alloc o⟩, h9.alloc o, h⟩
def SHC (g : Nat) : Array Value := #[.int .u64 1, .int .i64 0, .bool false, .slice (some ⟨g, 0, none⟩) 1 1]
/-- so many guids of the epoch 1 -/
def gsN (n : Nat) : List Gd := (List.range n).map fun (i : Nat) => ((1 : Int), ((i : Int) + 1))
theorem gsN_succ (n : Nat) : gsN (n + 1) = gsN n ++ [(1, (n : Int) + 1)] := by simp [gsN, List.range_succ]
theorem gsN_len (n : Nat) : (gsN n).length = n := by simp [gsN]
theorem chk21 : checkL ⟨1, -1, false, gsN 21⟩ = 3 := by decide
theorem chk20 : checkL ⟨1, 20, false, gsN 20⟩ = 0 := by decide
theorem good_ok : ∀ k, k < 4 → checkL (goodL k) = 0 := by decide
theorem bad_ok : ∀ k, k < 7 → checkL (badL k) = 2 := by decide

set_option maxRecDepth 100000 in
set_option maxHeartbeats 4000000 in
theorem law_LineKnown (w : World) : Calls Try.prog 9 #[] w fun e w' => e = .returned (.bool true) ∧ Below w.heap.size w w' := by
  go_enter Try.func9, Try.ntmps9
  have HB := Lib.hid (Below.refl w.heap.size w)
  go_wp2_with fail
  refine (guid_any 0 1 _).mono ?_
  rintro e w1 ⟨rfl, hb⟩
  replace HB := Lib.hid (HB.out.trans (hb.mono HB.out.size))
  clear hb
  go_wp2_with fail
  refine (guid_any 2 0 _).mono ?_
  rintro e w2 ⟨rfl, hb⟩
  replace HB := Lib.hid (HB.out.trans (hb.mono HB.out.size))
  clear hb
  go_wp2_with fail
  refine (guid_any 1 1 _).mono ?_
  rintro e w3 ⟨rfl, hb⟩
  have hz := ((Below.refl w2.heap.size w2).alloc (by first | (simp; done) | (simp; omega)) (Obj.cells #[.int .u64 0, .int .u64 1, .int .u64 2, .int .u64 0] 32))
  have i1 := InG.litAt w2 [(0, 1), (2, 0)] #[.int .u64 0, .int .u64 1, .int .u64 2, .int .u64 0] (w2.heap.size) (by simp) rfl (by decide) (by decide)
  replace HB := Lib.hid (HB.out.trans (hz.mono HB.out.size))
  clear hz
  replace HB := Lib.hid (HB.out.trans (hb.mono HB.out.size))
  have I1 := Lib.hid (i1.keep hb)
  clear i1 hb
  generalize w2.heap.size = g1 at *
  go_wp2_with fail
  refine (guid_any 1 2 _).mono ?_
  rintro e w4 ⟨rfl, hb⟩
  replace HB := Lib.hid (HB.out.trans (hb.mono HB.out.size))
  replace I1 := Lib.hid (I1.out.keep hb)
  clear hb
  go_wp2_with fail
  refine (guid_any 2 1 _).mono ?_
  rintro e w5 ⟨rfl, hb⟩
  replace HB := Lib.hid (HB.out.trans (hb.mono HB.out.size))
  replace I1 := Lib.hid (I1.out.keep hb)
  clear hb
  go_wp2_with fail
  refine (guid_any 1 1 _).mono ?_
  rintro e w6 ⟨rfl, hb⟩
  have hz := ((((Below.refl w5.heap.size w5).alloc (by first | (simp; done) | (simp; omega)) (Obj.cells #[.int .u64 1, .int .u64 1, .int .u64 1, .int .u64 2, .int .u64 2, .int .u64 1] 32)).alloc (by first | (simp; done) | (simp; omega)) (Obj.cells #[.int .u64 0, .int .i64 0, .bool false, .slice none 0 0, .int .u64 5, .int .i64 0, .bool false, .slice none 0 0, .int .u64 2, .int .i64 2, .bool true, .slice (some ⟨g1, 0, none⟩) 2 2, .int .u64 9223372036854775808, .int .i64 0, .bool false, .slice (some ⟨w5.heap.size, 0, none⟩) 3 3] 25)).alloc (by first | (simp; done) | (simp; omega)) (Obj.cells #[.int .u64 0, .int .u64 0] 32))
  have i2 := InG.litAt w5 [(1, 1), (1, 2), (2, 1)] #[.int .u64 1, .int .u64 1, .int .u64 1, .int .u64 2, .int .u64 2, .int .u64 1] (w5.heap.size) (by simp) rfl (by decide) (by decide)
  replace i2 := i2.keep (((Below.refl (w5.alloc (Obj.cells #[.int .u64 1, .int .u64 1, .int .u64 1, .int .u64 2, .int .u64 2, .int .u64 1] 32)).heap.size (w5.alloc (Obj.cells #[.int .u64 1, .int .u64 1, .int .u64 1, .int .u64 2, .int .u64 2, .int .u64 1] 32))).alloc (by first | (simp; done) | (simp; omega)) (Obj.cells #[.int .u64 0, .int .i64 0, .bool false, .slice none 0 0, .int .u64 5, .int .i64 0, .bool false, .slice none 0 0, .int .u64 2, .int .i64 2, .bool true, .slice (some ⟨g1, 0, none⟩) 2 2, .int .u64 9223372036854775808, .int .i64 0, .bool false, .slice (some ⟨w5.heap.size, 0, none⟩) 3 3] 25)).alloc (by first | (simp; done) | (simp; omega)) (Obj.cells #[.int .u64 0, .int .u64 0] 32))
  have bG := Blk.newAt (w := (w5.alloc (Obj.cells #[.int .u64 1, .int .u64 1, .int .u64 1, .int .u64 2, .int .u64 2, .int .u64 1] 32))) 25 #[.int .u64 0, .int .i64 0, .bool false, .slice none 0 0, .int .u64 5, .int .i64 0, .bool false, .slice none 0 0, .int .u64 2, .int .i64 2, .bool true, .slice (some ⟨g1, 0, none⟩) 2 2, .int .u64 9223372036854775808, .int .i64 0, .bool false, .slice (some ⟨w5.heap.size, 0, none⟩) 3 3] (g := w5.heap.size + 1) (by simp)
  replace bG := bG.alloc (Obj.cells #[.int .u64 0, .int .u64 0] 32)
  have i3 := InG.litAt ((w5.alloc (Obj.cells #[.int .u64 1, .int .u64 1, .int .u64 1, .int .u64 2, .int .u64 2, .int .u64 1] 32)).alloc (Obj.cells #[.int .u64 0, .int .i64 0, .bool false, .slice none 0 0, .int .u64 5, .int .i64 0, .bool false, .slice none 0 0, .int .u64 2, .int .i64 2, .bool true, .slice (some ⟨g1, 0, none⟩) 2 2, .int .u64 9223372036854775808, .int .i64 0, .bool false, .slice (some ⟨w5.heap.size, 0, none⟩) 3 3] 25)) [(0, 0)] #[.int .u64 0, .int .u64 0] (w5.heap.size + 1 + 1) (by simp) rfl (by decide) (by decide)
  replace I1 := Lib.hid (I1.out.keep hz)
  replace HB := Lib.hid (HB.out.trans (hz.mono HB.out.size))
  clear hz
  replace HB := Lib.hid (HB.out.trans (hb.mono HB.out.size))
  replace I1 := Lib.hid (I1.out.keep hb)
  have I2 := Lib.hid (i2.keep hb)
  have KG := Lib.hid (bG.keep hb)
  have I3 := Lib.hid (i3.keep hb)
  clear i2 bG i3 hb
  generalize w5.heap.size + 1 + 1 = g3 at *
  generalize w5.heap.size + 1 = gG at *
  generalize w5.heap.size = g2 at *
  go_wp2_with fail
  refine (guid_any 1 1 _).mono ?_
  rintro e w7 ⟨rfl, hb⟩
  replace HB := Lib.hid (HB.out.trans (hb.mono HB.out.size))
  replace I1 := Lib.hid (I1.out.keep hb)
  replace I2 := Lib.hid (I2.out.keep hb)
  replace KG := Lib.hid (KG.out.keep hb)
  replace I3 := Lib.hid (I3.out.keep hb)
  clear hb
  go_wp2_with fail
  refine (guid_any 2 1 _).mono ?_
  rintro e w8 ⟨rfl, hb⟩
  have hz := ((Below.refl w7.heap.size w7).alloc (by first | (simp; done) | (simp; omega)) (Obj.cells #[.int .u64 1, .int .u64 1, .int .u64 1, .int .u64 1] 32))
  have i4 := InG.litAt w7 [(1, 1), (1, 1)] #[.int .u64 1, .int .u64 1, .int .u64 1, .int .u64 1] (w7.heap.size) (by simp) rfl (by decide) (by decide)
  replace I1 := Lib.hid (I1.out.keep hz)
  replace I2 := Lib.hid (I2.out.keep hz)
  replace KG := Lib.hid (KG.out.keep hz)
  replace I3 := Lib.hid (I3.out.keep hz)
  replace HB := Lib.hid (HB.out.trans (hz.mono HB.out.size))
  clear hz
  replace HB := Lib.hid (HB.out.trans (hb.mono HB.out.size))
  replace I1 := Lib.hid (I1.out.keep hb)
  replace I2 := Lib.hid (I2.out.keep hb)
  replace KG := Lib.hid (KG.out.keep hb)
  replace I3 := Lib.hid (I3.out.keep hb)
  have I4 := Lib.hid (i4.keep hb)
  clear i4 hb
  generalize w7.heap.size = g4 at *
  go_wp2_with fail
  refine (guid_any 1 2 _).mono ?_
  rintro e w9 ⟨rfl, hb⟩
  replace HB := Lib.hid (HB.out.trans (hb.mono HB.out.size))
  replace I1 := Lib.hid (I1.out.keep hb)
  replace I2 := Lib.hid (I2.out.keep hb)
  replace KG := Lib.hid (KG.out.keep hb)
  replace I3 := Lib.hid (I3.out.keep hb)
  replace I4 := Lib.hid (I4.out.keep hb)
  clear hb
  go_wp2_with fail
  refine (guid_any 2 1 _).mono ?_
  rintro e w10 ⟨rfl, hb⟩
  have hz := ((Below.refl w9.heap.size w9).alloc (by first | (simp; done) | (simp; omega)) (Obj.cells #[.int .u64 2, .int .u64 1, .int .u64 1, .int .u64 2] 32))
  have i5 := InG.litAt w9 [(2, 1), (1, 2)] #[.int .u64 2, .int .u64 1, .int .u64 1, .int .u64 2] (w9.heap.size) (by simp) rfl (by decide) (by decide)
  replace I1 := Lib.hid (I1.out.keep hz)
  replace I2 := Lib.hid (I2.out.keep hz)
  replace KG := Lib.hid (KG.out.keep hz)
  replace I3 := Lib.hid (I3.out.keep hz)
  replace I4 := Lib.hid (I4.out.keep hz)
  replace HB := Lib.hid (HB.out.trans (hz.mono HB.out.size))
  clear hz
  replace HB := Lib.hid (HB.out.trans (hb.mono HB.out.size))
  replace I1 := Lib.hid (I1.out.keep hb)
  replace I2 := Lib.hid (I2.out.keep hb)
  replace KG := Lib.hid (KG.out.keep hb)
  replace I3 := Lib.hid (I3.out.keep hb)
  replace I4 := Lib.hid (I4.out.keep hb)
  have I5 := Lib.hid (i5.keep hb)
  clear i5 hb
  generalize w9.heap.size = g5 at *
  go_wp2_with fail
  refine (guid_any 1 1 _).mono ?_
  rintro e w11 ⟨rfl, hb⟩
  have hz := ((Below.refl w10.heap.size w10).alloc (by first | (simp; done) | (simp; omega)) (Obj.cells #[.int .u64 2, .int .u64 1] 32))
  have i6 := InG.litAt w10 [(2, 1)] #[.int .u64 2, .int .u64 1] (w10.heap.size) (by simp) rfl (by decide) (by decide)
  replace I1 := Lib.hid (I1.out.keep hz)
  replace I2 := Lib.hid (I2.out.keep hz)
  replace KG := Lib.hid (KG.out.keep hz)
  replace I3 := Lib.hid (I3.out.keep hz)
  replace I4 := Lib.hid (I4.out.keep hz)
  replace I5 := Lib.hid (I5.out.keep hz)
  replace HB := Lib.hid (HB.out.trans (hz.mono HB.out.size))
  clear hz
  replace HB := Lib.hid (HB.out.trans (hb.mono HB.out.size))
  replace I1 := Lib.hid (I1.out.keep hb)
  replace I2 := Lib.hid (I2.out.keep hb)
  replace KG := Lib.hid (KG.out.keep hb)
  replace I3 := Lib.hid (I3.out.keep hb)
  replace I4 := Lib.hid (I4.out.keep hb)
  replace I5 := Lib.hid (I5.out.keep hb)
  have I6 := Lib.hid (i6.keep hb)
  clear i6 hb
  generalize w10.heap.size = g6 at *
  go_wp2_with fail
  have hz := (((Below.refl w11.heap.size w11).alloc (by first | (simp; done) | (simp; omega)) (Obj.cells #[.int .u64 1, .int .u64 1] 32)).alloc (by first | (simp; done) | (simp; omega)) (Obj.cells #[.int .u64 1, .int .i64 0, .bool false, .slice (some ⟨g3, 0, none⟩) 1 1, .int .u64 1, .int .i64 0, .bool false, .slice (some ⟨g4, 0, none⟩) 2 2, .int .u64 2, .int .i64 0, .bool false, .slice (some ⟨g5, 0, none⟩) 2 2, .int .u64 1, .int .i64 0, .bool false, .slice (some ⟨g6, 0, none⟩) 1 1, .int .u64 0, .int .i64 (-1), .bool false, .slice none 0 0, .int .u64 0, .int .i64 1, .bool false, .slice none 0 0, .int .u64 1, .int .i64 2, .bool false, .slice (some ⟨w11.heap.size, 0, none⟩) 1 1] 25))
  have i7 := InG.litAt w11 [(1, 1)] #[.int .u64 1, .int .u64 1] (w11.heap.size) (by simp) rfl (by decide) (by decide)
  replace i7 := i7.keep ((Below.refl (w11.alloc (Obj.cells #[.int .u64 1, .int .u64 1] 32)).heap.size (w11.alloc (Obj.cells #[.int .u64 1, .int .u64 1] 32))).alloc (by first | (simp; done) | (simp; omega)) (Obj.cells #[.int .u64 1, .int .i64 0, .bool false, .slice (some ⟨g3, 0, none⟩) 1 1, .int .u64 1, .int .i64 0, .bool false, .slice (some ⟨g4, 0, none⟩) 2 2, .int .u64 2, .int .i64 0, .bool false, .slice (some ⟨g5, 0, none⟩) 2 2, .int .u64 1, .int .i64 0, .bool false, .slice (some ⟨g6, 0, none⟩) 1 1, .int .u64 0, .int .i64 (-1), .bool false, .slice none 0 0, .int .u64 0, .int .i64 1, .bool false, .slice none 0 0, .int .u64 1, .int .i64 2, .bool false, .slice (some ⟨w11.heap.size, 0, none⟩) 1 1] 25))
  have bB := Blk.newAt (w := (w11.alloc (Obj.cells #[.int .u64 1, .int .u64 1] 32))) 25 #[.int .u64 1, .int .i64 0, .bool false, .slice (some ⟨g3, 0, none⟩) 1 1, .int .u64 1, .int .i64 0, .bool false, .slice (some ⟨g4, 0, none⟩) 2 2, .int .u64 2, .int .i64 0, .bool false, .slice (some ⟨g5, 0, none⟩) 2 2, .int .u64 1, .int .i64 0, .bool false, .slice (some ⟨g6, 0, none⟩) 1 1, .int .u64 0, .int .i64 (-1), .bool false, .slice none 0 0, .int .u64 0, .int .i64 1, .bool false, .slice none 0 0, .int .u64 1, .int .i64 2, .bool false, .slice (some ⟨w11.heap.size, 0, none⟩) 1 1] (g := w11.heap.size + 1) (by simp)
  replace I1 := Lib.hid (I1.out.keep hz)
  replace I2 := Lib.hid (I2.out.keep hz)
  replace KG := Lib.hid (KG.out.keep hz)
  replace I3 := Lib.hid (I3.out.keep hz)
  replace I4 := Lib.hid (I4.out.keep hz)
  replace I5 := Lib.hid (I5.out.keep hz)
  replace I6 := Lib.hid (I6.out.keep hz)
  replace HB := Lib.hid (HB.out.trans (hz.mono HB.out.size))
  clear hz
  have I7 := Lib.hid i7
  have KB := Lib.hid bB
  clear i7 bB
  generalize w11.heap.size + 1 = gB at *
  generalize w11.heap.size = g7 at *
  generalize ((w11.alloc (Obj.cells #[.int .u64 1, .int .u64 1] 32)).alloc (Obj.cells #[.int .u64 1, .int .i64 0, .bool false, .slice (some ⟨g3, 0, none⟩) 1 1, .int .u64 1, .int .i64 0, .bool false, .slice (some ⟨g4, 0, none⟩) 2 2, .int .u64 2, .int .i64 0, .bool false, .slice (some ⟨g5, 0, none⟩) 2 2, .int .u64 1, .int .i64 0, .bool false, .slice (some ⟨g6, 0, none⟩) 1 1, .int .u64 0, .int .i64 (-1), .bool false, .slice none 0 0, .int .u64 0, .int .i64 1, .bool false, .slice none 0 0, .int .u64 1, .int .i64 2, .bool false, .slice (some ⟨g7, 0, none⟩) 1 1] 25)) = wl at *
  have hgl : InLs wl gG 4 goodL := by
    intro k hk
    match k, hk with
    | 0, _ => exact ⟨0, 0, false, none, 0, 0, by rw [KG.out.cell]; rfl, by rw [KG.out.cell]; rfl, by rw [KG.out.cell]; rfl, by rw [KG.out.cell]; rfl, ⟨_, rfl, (InG.nil_ wl), by decide, by decide⟩⟩
    | 1, _ => exact ⟨5, 0, false, none, 0, 0, by rw [KG.out.cell]; rfl, by rw [KG.out.cell]; rfl, by rw [KG.out.cell]; rfl, by rw [KG.out.cell]; rfl, ⟨_, rfl, (InG.nil_ wl), by decide, by decide⟩⟩
    | 2, _ => exact ⟨2, 2, true, (some ⟨g1, 0, none⟩), 2, 2, by rw [KG.out.cell]; rfl, by rw [KG.out.cell]; rfl, by rw [KG.out.cell]; rfl, by rw [KG.out.cell]; rfl, ⟨_, rfl, I1.out, by decide, by decide⟩⟩
    | 3, _ => exact ⟨9223372036854775808, 0, false, (some ⟨g2, 0, none⟩), 3, 3, by rw [KG.out.cell]; rfl, by rw [KG.out.cell]; rfl, by rw [KG.out.cell]; rfl, by rw [KG.out.cell]; rfl, ⟨_, rfl, I2.out, by decide, by decide⟩⟩
  have hbl : InLs wl gB 7 badL := by
    intro k hk
    match k, hk with
    | 0, _ => exact ⟨1, 0, false, (some ⟨g3, 0, none⟩), 1, 1, by rw [KB.out.cell]; rfl, by rw [KB.out.cell]; rfl, by rw [KB.out.cell]; rfl, by rw [KB.out.cell]; rfl, ⟨_, rfl, I3.out, by decide, by decide⟩⟩
    | 1, _ => exact ⟨1, 0, false, (some ⟨g4, 0, none⟩), 2, 2, by rw [KB.out.cell]; rfl, by rw [KB.out.cell]; rfl, by rw [KB.out.cell]; rfl, by rw [KB.out.cell]; rfl, ⟨_, rfl, I4.out, by decide, by decide⟩⟩
    | 2, _ => exact ⟨2, 0, false, (some ⟨g5, 0, none⟩), 2, 2, by rw [KB.out.cell]; rfl, by rw [KB.out.cell]; rfl, by rw [KB.out.cell]; rfl, by rw [KB.out.cell]; rfl, ⟨_, rfl, I5.out, by decide, by decide⟩⟩
    | 3, _ => exact ⟨1, 0, false, (some ⟨g6, 0, none⟩), 1, 1, by rw [KB.out.cell]; rfl, by rw [KB.out.cell]; rfl, by rw [KB.out.cell]; rfl, by rw [KB.out.cell]; rfl, ⟨_, rfl, I6.out, by decide, by decide⟩⟩
    | 4, _ => exact ⟨0, (-1), false, none, 0, 0, by rw [KB.out.cell]; rfl, by rw [KB.out.cell]; rfl, by rw [KB.out.cell]; rfl, by rw [KB.out.cell]; rfl, ⟨_, rfl, (InG.nil_ wl), by decide, by decide⟩⟩
    | 5, _ => exact ⟨0, 1, false, none, 0, 0, by rw [KB.out.cell]; rfl, by rw [KB.out.cell]; rfl, by rw [KB.out.cell]; rfl, by rw [KB.out.cell]; rfl, ⟨_, rfl, (InG.nil_ wl), by decide, by decide⟩⟩
    | 6, _ => exact ⟨1, 2, false, (some ⟨g7, 0, none⟩), 1, 1, by rw [KB.out.cell]; rfl, by rw [KB.out.cell]; rfl, by rw [KB.out.cell]; rfl, by rw [KB.out.cell]; rfl, ⟨_, rfl, I7.out, by decide, by decide⟩⟩
  have HGL := Lib.hid hgl
  have HBL := Lib.hid hbl
  clear hgl hbl I1 I2 KG I3 I4 I5 I6 I7 KB
  go_loopw [3] (fun i wr => ∃ k : Nat, k ≤ 4 ∧ i = .int .i64 k ∧ Below wl.heap.size wl wr) (fun i _ => 4 - (intOf i).toNat)
  case atStart => exact ⟨0, by omega, rfl, Below.refl _ _⟩
  case round =>
    obtain ⟨k, hk, rfl, hb⟩ := hrel
    have HBW := Lib.hid hb
    clear hb
    by_cases hkn : k < 4
    · obtain ⟨E, B, L, a, m, c, h0, h1, h2, h3, h4⟩ := HGL.out k hkn
      have hok := good_ok k hkn
      have hin := h4.keep HBW.out
      have i1 : (k : Int) < 4 := by omega
      have k9 : (k : Int) < 9223372036854775807 := by omega
      have e0 : ∀ q : Bw wr, q.w.cell? ⟨gG, k * 4, none⟩ = some (.int .u64 E) := fun q => q.cell (cell_later HBW.out h0)
      have e1 : ∀ q : Bw wr, q.w.cell? ⟨gG, k * 4 + 1, none⟩ = some (.int .i64 B) := fun q => q.cell (cell_later HBW.out h1)
      have e2 : ∀ q : Bw wr, q.w.cell? ⟨gG, k * 4 + 2, none⟩ = some (.bool L) := fun q => q.cell (cell_later HBW.out h2)
      have e3 : ∀ q : Bw wr, q.w.cell? ⟨gG, k * 4 + 3, none⟩ = some (.slice a m c) := fun q => q.cell (cell_later HBW.out h3)
      have c1 : ∀ q : Bw wr, Calls Try.prog 19 #[.agg #[.int .u64 E, .int .i64 B, .bool L, .slice a m c]] q.w fun e w' => e = .returned (.int .i64 0) ∧ Below q.w.heap.size q.w w' := fun q => by
        have h := check_any _ _ q.w (hin.keep q.below)
        rw [hok] at h
        exact h
      have c2 : ∀ q : Bw wr, Calls Try.prog 18 #[.agg #[.int .u64 E, .int .i64 B, .bool L, .slice a m c], .agg #[.int .u64 E, .int .i64 B, .bool L, .slice a m c]] q.w fun e w' => e = .returned (.bool true) ∧ Below q.w.heap.size q.w w' := fun q => same_lit _ _ _ _ true q.w (hin.keep q.below) (hin.keep q.below) (sameL_iff.2 rfl)
      have C1 := Lib.hid c1
      have C2 := Lib.hid c2
      have HKN := Lib.hid hkn
      clear h0 h1 h2 h3 h4 hok hin c1 c2 hkn
      go_wp2_with fail
      refine wp_region_below (by kernel_rfl) (by kernel_rfl) ?_
      repeat (go_big_quiet_step (first | (go_at_call 19; exact below_call (C1.out _)) | (go_at_call 18; exact below_call (C2.out _))))
      refine wpQuiet_nil ?_
      intro w12 hb
      have HB12 := Lib.hid (HBW.out.trans (hb.mono HBW.out.size))
      clear hb e0 e1 e2 e3 C1 C2
      go_wp2
      have hkn := HKN.out
      refine ⟨⟨k + 1, by omega, by go_num, HB12.out⟩, by simp [intOf]; omega⟩
    · have hk4 : (k : Int) = 4 := by omega
      rw [hk4]
      clear hk hkn hk4
      go_wp2_with fail
      have HG7 := Lib.hid (HBL.out.keep HBW.out)
      have HB := Lib.hid (HB.out.trans (HBW.out.mono HB.out.size))
      clear HGL HBL HBW
      obtain ⟨wq, hwq⟩ : ∃ x, x = wr := ⟨_, rfl⟩
      subst hwq
      go_loopw [4] (fun i wr => ∃ k : Nat, k ≤ 7 ∧ i = .int .i64 k ∧ Below wq.heap.size wq wr) (fun i _ => 7 - (intOf i).toNat)
      case atStart => exact ⟨0, by omega, rfl, Below.refl _ _⟩
      case round =>
        obtain ⟨k, hk, rfl, hb⟩ := hrel
        have HBW := Lib.hid hb
        clear hb
        by_cases hkn : k < 7
        · obtain ⟨E, B, L, a, m, c, h0, h1, h2, h3, h4⟩ := HG7.out k hkn
          have hok := bad_ok k hkn
          have hin := h4.keep HBW.out
          have i1 : (k : Int) < 7 := by omega
          have k9 : (k : Int) < 9223372036854775807 := by omega
          have e0 := cell_later HBW.out h0
          have e1 := cell_later HBW.out h1
          have e2 := cell_later HBW.out h2
          have e3 := cell_later HBW.out h3
          have c1 : Calls Try.prog 19 #[.agg #[.int .u64 E, .int .i64 B, .bool L, .slice a m c]] wr fun e w' => e = .returned (.int .i64 2) ∧ Below wr.heap.size wr w' := by
            have h := check_any _ _ wr hin
            rw [hok] at h
            exact h
          have C1 := Lib.hid c1
          have HKN := Lib.hid hkn
          clear h0 h1 h2 h3 h4 hok hin c1 hkn
          go_wp2_with fail
          refine C1.out.mono ?_
          rintro e w12 ⟨rfl, hb⟩
          have HB12 := Lib.hid (HBW.out.trans (hb.mono HBW.out.size))
          clear hb e0 e1 e2 e3 C1
          go_wp2
          have hkn := HKN.out
          refine ⟨⟨k + 1, by omega, by go_num, HB12.out⟩, by simp [intOf]; omega⟩
        · have hk7 : (k : Int) = 7 := by omega
          rw [hk7]
          have HB := Lib.hid (HB.out.trans (HBW.out.mono HB.out.size))
          clear hk hkn HG7 HBW hk7
          go_wp2_with fail
          obtain ⟨q5, hq5⟩ : ∃ z, z = wr.heap.size := ⟨_, rfl⟩
          have hz := (Below.refl wr.heap.size wr).alloc (Nat.le_refl _) (Obj.cells #[.int .u64 1, .int .i64 (-1), .bool false, .slice none 0 0] 25)
          have b5 := Blk.newAt (w := wr) 25 #[.int .u64 1, .int .i64 (-1), .bool false, .slice none 0 0] hq5.symm
          have hle : w.heap.size ≤ q5 := by rw [hq5]; exact HB.out.size
          have HLE := Lib.hid hle
          have HB3 := Lib.hid (HB.out.trans (hz.mono HB.out.size))
          have B5 := Lib.hid b5
          rw [← hq5]
          generalize wr.alloc (Obj.cells #[.int .u64 1, .int .i64 (-1), .bool false, .slice none 0 0] 25) = ws at *
          clear hz b5 HB hle hq5
          go_loopw [6] (fun i wr => ∃ (k j : Nat) (a : Option Addr) (c : Nat), k = j + 1 ∧ k ≤ 22 ∧ i = .int .i64 k ∧ Below q5 ws wr ∧ Blk wr q5 25 (csL (.slice a j c)) ∧ OwG wr (q5 + 1) (.slice a j c) (gsN j)) (fun i _ => 22 - (intOf i).toNat)
          case atStart => exact ⟨1, 0, none, 0, rfl, by omega, rfl, Below.refl _ _, B5.out, OwG.nil_ _ _⟩
          case round =>
            obtain ⟨k, j, a, c, hkj, hk2, rfl, hb, hbk, ho⟩ := hrel
            have hlt := hbk.lt
            have HBW := Lib.hid hb
            have HBK := Lib.hid hbk
            have HO := Lib.hid ho
            have HKJ := Lib.hid hkj
            clear hb hbk ho
            by_cases hkn : k < 22
            · have i1 : (k : Int) < 22 := by omega
              have k9 : (k : Int) < 9223372036854775807 := by omega
              have k0 : (0 : Int) ≤ (k : Int) := by omega
              have k8 : (k : Int) < 18446744073709551616 := by omega
              have hgs : gsN (j + 1) = gsN j ++ [(1, (k : Int))] := by rw [gsN_succ, hkj]; push_cast; rfl
              have hwf : wfG (1, (k : Int)) := by
                unfold wfG
                simp [Lit.wf, IntKind.min, IntKind.max, IntKind.signed, IntKind.bits]
                omega
              have hj : j < 22 := by omega
              have HKN := Lib.hid hkn
              have HGS := Lib.hid hgs
              have HWF := Lib.hid hwf
              have hwr : IntKind.u64.wrap (k : Int) = k := by simp [IntKind.wrap, IntKind.bits, IntKind.signed]; omega
              have HWR := Lib.hid hwr
              clear hwr
              have HJ := Lib.hid hj
              clear hk2 hkn hkj hgs hwf hj
              go_wp2_with fail
              refine wp_region_spec (fun i => i == 1 || i == 4 || i == 5 || i == 6 || i == 8) (kindsS [(1, .is (.slice a j c)), (4, .is (.agg #[.int .u64 1, .int .u64 k])), (5, .sl 1), (8, .is undef)] 6 (j + 1)) (AF wr q5 (q5 + 1) csL (.slice a j c) (gsN j) (1, (k : Int))) (by kernel_rfl) (by kernel_rfl) (kindsS_inh _ _ _) (AF.start HBK.out HO.out (Nat.lt_succ_self _) hlt) ?_
              intro ν hν
              have n1 : ν 1 = .slice a j c := kindsS_off (hν 1) (by decide)
              have n4 : ν 4 = .agg #[.int .u64 1, .int .u64 k] := kindsS_off (hν 4) (by decide)
              obtain ⟨g5, n5⟩ : ∃ g, ν 5 = .slice (some ⟨g, 0, none⟩) 1 1 := kindsS_off (hν 5) (by decide)
              obtain ⟨a6, c6, n6⟩ := kindsS_at (hν 6)
              have n8 : ν 8 = undef := kindsS_off (hν 8) (by decide)
              clear hν
              refine lex_plain (by rfl) rfl ?_
              apply Exists.intro
              refine ⟨fun σ w2 hA hD hC => ?_, ?_⟩
              · clear hA hD hC
                go_simp
                exact And.intro rfl rfl
              simp only [Act.put, List.setIfInBounds_toArray, List.set_cons_succ, List.set_cons_zero, Nat.reduceAdd]
              refine lex_special (by rfl) rfl (fun σ w2 hA hD hn hC => ?_) ?_
              · have hc3 := (hC.at1 hn).cell 3
                simp [csL] at hc3
                go_simp
                exact hC.load rfl
              rw [n1]
              simp only [Act.put, List.setIfInBounds_toArray, List.set_cons_succ, List.set_cons_zero, Nat.reduceAdd]
              refine lex_plain (by rfl) rfl ?_
              apply Exists.intro
              refine ⟨fun σ w2 hA hD hC => ?_, ?_⟩
              · clear hA hD hC
                go_simp
                exact And.intro rfl rfl
              simp only [Act.put, List.setIfInBounds_toArray, List.set_cons_succ, List.set_cons_zero, Nat.reduceAdd]
              refine lex_plain (by rfl) rfl ?_
              apply Exists.intro
              refine ⟨fun σ w2 hA hD hC => ?_, ?_⟩
              · clear hA hD hC
                go_simp
                exact And.intro rfl rfl
              simp only [Act.put, List.setIfInBounds_toArray, List.set_cons_succ, List.set_cons_zero, Nat.reduceAdd]
              refine lex_special (by rfl) rfl (fun σ w2 hA hD hn hC => ?_) ?_
              · go_simp
                rw [HWR.out]
                exact hC.guid 1 k rfl
              rw [n4]
              simp only [Act.put, List.setIfInBounds_toArray, List.set_cons_succ, List.set_cons_zero, Nat.reduceAdd]
              refine lex_special (by rfl) rfl (fun σ w2 hA hD hn hC => ?_) ?_
              · go_simp
                exact hC.one _ rfl HWF.out (fun b => ⟨b, rfl⟩)
              rw [n5]
              simp only [Act.put, List.setIfInBounds_toArray, List.set_cons_succ, List.set_cons_zero, Nat.reduceAdd]
              refine lex_special (by rfl) rfl (fun σ w2 hA hD hn hC => ?_) ?_
              · have e1 := got1 hA hD 1 rfl (by kernel_rfl)
                rw [n1] at e1
                have e5 := got1 hA hD 5 rfl (by kernel_rfl)
                rw [n5] at e5
                obtain ⟨v', w', hr, hs⟩ := hC.app (p := fun u => ∃ a c, u = .slice a (j + 1) c) hn e1 _ e5 (by rw [gsN_len]; have := HJ.out; omega) 23 (fun a c => ⟨a, c, by rw [gsN_len]⟩)
                rw [exec_append (.tmp 85) (.tmp 89) 23 rfl _ _ rfl rfl _ hr]
                exact hs
              rw [n6]
              simp only [Act.put, List.setIfInBounds_toArray, List.set_cons_succ, List.set_cons_zero, Nat.reduceAdd]
              refine lex_plain (by rfl) rfl ?_
              apply Exists.intro
              refine ⟨fun σ w2 hA hD hC => ?_, ?_⟩
              · clear hA hD hC
                go_simp
                exact And.intro rfl rfl
              simp only [Act.put, List.setIfInBounds_toArray, List.set_cons_succ, List.set_cons_zero, Nat.reduceAdd]
              refine lex_special (by rfl) rfl (fun σ w2 hA hD hn hC => ?_) ?_
              · have e6 := got1 hA hD 6 rfl (by kernel_rfl)
                rw [n6] at e6
                have hb := hC.var hn
                have hf3 := hb.frozen 3
                have hc3 := hb.cell 3
                simp [csL] at hc3
                go_simp
                exact hC.store _ e6 hn 3 rfl rfl
              rw [n8]
              simp only [Act.put, Nat.reduceAdd]
              refine lex_nil (fun σ w3 hA hall hC => ?_)
              have s6 := hall 6 rfl (by decide)
              have s8 := hall 8 rfl (by decide)
              rw [n6] at s6
              rw [n8] at s8
              have hbk := hC.fin _ s6 (by rw [s8]; simp)
              have ho := hC.lst _ s6
              rw [← HGS.out] at ho
              have HBK3 := Lib.hid hbk
              have HO3 := Lib.hid ho
              have HBW3 := Lib.hid (HBW.out.trans hC.below)
              clear hA hall hC s6 s8 hbk ho n1 n4 n5 n6 n8
              go_wp2
              have hkn := HKN.out
              have hkj := HKJ.out
              refine ⟨⟨k + 1, j + 1, a6, c6, by omega, by omega, by go_num, HBW3.out, HBK3.out, HO3.out⟩, by simp [intOf]; omega⟩
            · have hk22 : (k : Int) = 22 := by omega
              obtain rfl : j = 21 := by omega
              rw [hk22]
              clear hk2 hkn hkj hk22 HKJ
              have HBK : Hid (Blk wr q5 25 #[.int .u64 1, .int .i64 (-1), .bool false, .slice a 21 c]) := HBK
              have HB := Lib.hid (HB3.out.trans (HBW.out.mono HLE.out))
              clear HBW HB3 hlt
              go_wp2_with (refine wpList_load_row rfl 25 _ rfl q5 rfl 25 #[.int .u64 1, .int .i64 (-1), .bool false, .slice a 21 c] (0, 0) _ HBK.out Try.underlying25 rfl (by kernel_rfl) ?_)
              refine (check_any _ ⟨1, -1, false, gsN 21⟩ wr ⟨_, rfl, HO.out.rd, by decide, by decide⟩).mono ?_
              rintro e w13 ⟨rfl, hb⟩
              rw [chk21]
              have HBK := Lib.hid (HBK.out.keep hb)
              have HO := Lib.hid (HO.out.keep hb)
              have HB := Lib.hid (HB.out.trans (hb.mono HB.out.size))
              clear hb
              have hc20 : 21 ≤ c := by
                obtain ⟨a', c', e, h, -⟩ := HO.out.rd.open_
                simp only [Value.slice.injEq] at e
                rw [gsN_len] at h
                omega
              have i20 : 20 ≤ c := by omega
              have c3 := HBK.out.cell 3
              have f3 := HBK.out.frozen 3
              simp at c3
              obtain ⟨wx, hwx⟩ : ∃ x, x = (w13.setCell ⟨q5, 3, none⟩ (.slice a 20 c)).setCell ⟨q5, 1, none⟩ (.int .i64 20) := ⟨_, rfl⟩
              have hbk2 : Blk wx q5 25 #[.int .u64 1, .int .i64 20, .bool false, .slice a 20 c] := by rw [hwx]; exact (HBK.out.set 3 (.slice a 20 c)).set 1 (.int .i64 20)
              have hbx : Below w.heap.size w wx := by rw [hwx]; exact (HB.out.setCell (p := ⟨q5, 3, none⟩) HLE.out _).setCell (p := ⟨q5, 1, none⟩) HLE.out _
              have hox : OwG wx (q5 + 1) (.slice a 21 c) (gsN 21) := HO.out.above fun b hbb => by
                rw [hwx]
                simp only [World.setCell, Array.getElem?_modify]
                rw [if_neg (by omega), if_neg (by omega)]
              have hin : InG wx (.slice a 20 c) (gsN 20) := by
                have h := InG.take (m := 20) hox.rd (by decide)
                exact h
              have HBK2 := Lib.hid hbk2
              have HBX := Lib.hid hbx
              have HIN := Lib.hid hin
              clear hbk2 hbx hox hin hc20 HO HB
              have f1 := HBK.out.frozen 1
              have c1 := HBK.out.cell 1
              simp at c1
              rw [hwx] at HBK2
              go_wp2_with (refine wpList_load_row rfl 25 _ rfl q5 rfl 25 #[.int .u64 1, .int .i64 20, .bool false, .slice a 20 c] (0, 0) _ HBK2.out Try.underlying25 rfl (by kernel_rfl) ?_)
              rw [← hwx] at HBK2
              rw [← hwx]
              refine (check_any _ ⟨1, 20, false, gsN 20⟩ wx ⟨_, rfl, HIN.out, by decide, by decide⟩).mono ?_
              rintro e w14 ⟨rfl, hb⟩
              rw [chk20]
              have HK5 := Lib.hid (HBK2.out.keep hb)
              have HIN := Lib.hid (HIN.out.keep hb)
              have HB := Lib.hid (HBX.out.trans (hb.mono HBX.out.size))
              clear hb HBK2 HBX c1 f1 c3 f3 i20 HBK hwx
              go_wp2_with fail
              refine (guid_any 1 1 _).mono ?_
              rintro e w15 ⟨rfl, hb⟩
              have HK5 := Lib.hid (HK5.out.keep hb)
              have HIN := Lib.hid (HIN.out.keep hb)
              have HB := Lib.hid (HB.out.trans (hb.mono HB.out.size))
              have HK5a := Lib.hid HK5.out
              have HINa := Lib.hid HIN.out
              have HBa := Lib.hid HB.out
              clear hb
              have hz := ((Below.refl w15.heap.size w15).alloc (Nat.le_refl _) (Obj.cells #[.int .u64 1, .int .u64 1] 32)).alloc (by simp) (Obj.cells (SHC w15.heap.size) 25)
              have bS := (Blk.new w15 32 #[.int .u64 1, .int .u64 1]).alloc (Obj.cells (SHC w15.heap.size) 25)
              have b9 := Blk.newAt (w := w15.alloc (Obj.cells #[.int .u64 1, .int .u64 1] 32)) 25 (SHC w15.heap.size) (g := w15.heap.size + 1) (by simp)
              have iS := (InG.litAt w15 [(1, 1)] #[.int .u64 1, .int .u64 1] _ rfl rfl (by decide) (by decide)).keep ((Below.refl _ _).alloc (Nat.le_refl _) (Obj.cells (SHC w15.heap.size) 25))
              have HK9 := Lib.hid b9
              have HKS := Lib.hid bS
              have HIS := Lib.hid iS
              have HZ := Lib.hid hz
              clear hz bS b9 iS
              unfold SHC at HK9 HKS HIS HZ
              go_wp2_with (refine wpList_load_row rfl 25 _ rfl (w15.heap.size + 1) rfl 25 #[.int .u64 1, .int .i64 0, .bool false, .slice (some ⟨w15.heap.size, 0, none⟩) 1 1] (0, 0) _ HK9.out Try.underlying25 rfl (by kernel_rfl) ?_)
              have HK5 := Lib.hid (HK5.out.keep HZ.out)
              have HIN := Lib.hid (HIN.out.keep HZ.out)
              have HB := Lib.hid (HB.out.trans (HZ.out.mono HB.out.size))
              have hwy : w15.heap.size + 1 < ((w15.alloc (Obj.cells #[.int .u64 1, .int .u64 1] 32)).alloc (Obj.cells #[.int .u64 1, .int .i64 0, .bool false, .slice (some ⟨w15.heap.size, 0, none⟩) 1 1] 25)).heap.size := HK9.out.lt
              have HWY := Lib.hid hwy
              clear hwy
              generalize ((w15.alloc (Obj.cells #[.int .u64 1, .int .u64 1] 32)).alloc (Obj.cells #[.int .u64 1, .int .i64 0, .bool false, .slice (some ⟨w15.heap.size, 0, none⟩) 1 1] 25)) = wy at *
              refine (merge_any _ _ ⟨1, 0, false, [(1, 1)]⟩ ⟨0, 0, false, []⟩ wy ⟨_, rfl, HIS.out, by decide, by decide⟩ ⟨_, rfl, InG.nil_ _, by decide, by decide⟩ (by decide) (by decide)).mono ?_
              rintro e w16 ⟨u, rfl, hu, hb⟩
              have hz2 : OwL w16 wy.heap.size u ⟨1, 0, false, [(1, 1)]⟩ := hu
              obtain ⟨su, rfl, hsu, -, -⟩ := hz2
              obtain ⟨ua, uc, rfl, -, -⟩ := hsu.rd.open_
              have HK5 := Lib.hid (HK5.out.keep hb)
              have HK9 := Lib.hid (HK9.out.keep hb)
              have HKS := Lib.hid (HKS.out.keep hb)
              have HIN := Lib.hid (HIN.out.keep hb)
              have HB := Lib.hid (HB.out.trans (hb.mono HB.out.size))
              have hsu2 := hsu
              have HSI0 := Lib.hid (HZ.out.trans (hb.mono HZ.out.size))
              have HSZ := Lib.hid hb.size
              clear hb hu hsu HZ HIS
              have HOU := Lib.hid hsu2
              have b10 := Blk.new w16 25 #[.int .u64 1, .int .i64 0, .bool false, .slice ua 1 uc]
              have ou := HOU.out.keep ((Below.refl _ _).alloc (Nat.le_refl _) (Obj.cells #[.int .u64 1, .int .i64 0, .bool false, .slice ua 1 uc] 25))
              have hsi : SI w15 (w16.alloc (Obj.cells #[.int .u64 1, .int .i64 0, .bool false, .slice ua 1 uc] 25)) wy.heap.size (SHC w15.heap.size) (w16.alloc (Obj.cells #[.int .u64 1, .int .i64 0, .bool false, .slice ua 1 uc] 25)) := SI.start HSI0.out HK9.out HKS.out HWY.out
              have HK10 := Lib.hid b10
              have HOU := Lib.hid ou
              have HSI := Lib.hid hsi
              clear b10 ou hsi HKS HSI0
              go_wp2_with fail
              generalize w16.alloc (Obj.cells #[.int .u64 1, .int .i64 0, .bool false, .slice ua 1 uc] 25) = w17 at *
              refine wp_region_spec (fun i => i == 2 || i == 4) (kinds [(2, .is (.agg #[.int .u64 9, .int .u64 9])), (4, .is undef)]) (fun _ => SI w15 w17 wy.heap.size (SHC w15.heap.size)) (by kernel_rfl) (by kernel_rfl) (kinds_inh _) (HSI.out.keep (Below.refl _ _).drew) ?_
              intro ν hν
              have n2 : ν 2 = .agg #[.int .u64 9, .int .u64 9] := hν 2
              have n4 : ν 4 = undef := hν 4
              clear hν
              refine lex_plain (by rfl) rfl ?_
              apply Exists.intro
              refine ⟨fun σ w2 hA hD hC => ?_, ?_⟩
              · clear hA hD hC
                go_simp
                exact And.intro rfl rfl
              simp only [Act.put, List.setIfInBounds_toArray, List.set_cons_succ, List.set_cons_zero, Nat.reduceAdd]
              refine lex_plain (by rfl) rfl ?_
              apply Exists.intro
              refine ⟨fun σ w2 hA hD hC => ?_, ?_⟩
              · have hc3 := hC.nine.cell 3
                simp [SHC] at hc3
                clear hA hD hC
                go_simp
                exact And.intro rfl rfl
              simp only [Act.put, List.setIfInBounds_toArray, List.set_cons_succ, List.set_cons_zero, Nat.reduceAdd]
              refine lex_special (by rfl) rfl (fun σ w2 hA hD hn hC => ?_) ?_
              · go_simp
                refine (guid_any 9 9 w2).mono ?_
                rintro e w' ⟨rfl, hb⟩
                exact ⟨_, rfl, rfl, hC.keep hb⟩
              rw [n2]
              simp only [Act.put, List.setIfInBounds_toArray, List.set_cons_succ, List.set_cons_zero, Nat.reduceAdd]
              refine lex_plain (by rfl) rfl ?_
              apply Exists.intro
              refine ⟨fun σ w2 hA hD hC => ?_, ?_⟩
              · clear hA hD hC
                go_simp
                exact And.intro rfl rfl
              simp only [Act.put, List.setIfInBounds_toArray, List.set_cons_succ, List.set_cons_zero, Nat.reduceAdd]
              refine lex_special (by rfl) rfl (fun σ w2 hA hD hn hC => ?_) ?_
              · obtain ⟨x, y, hxy⟩ := hC.one
                rw [exec_store 32 (.tmp 110) (.tmp 109) rfl w15.heap.size #[.int .u64 9, .int .u64 9] rfl rfl 32 _ hxy (by kernel_rfl) rfl (gcells_one _ _)]
                exact ⟨rfl, hC.put 9 9⟩
              rw [n4]
              simp only [Act.put, Nat.reduceAdd]
              refine lex_nil (fun σ w18 hA hall hC => ?_)
              have hout : ∀ b, wy.heap.size ≤ b → b < w17.heap.size → w18.heap[b]? = w17.heap[b]? := hC.high
              have ou := InG.out HOU.out hout
              have b10 : Blk w18 w16.heap.size 25 #[.int .u64 1, .int .i64 0, .bool false, .slice ua 1 uc] := (hout _ HSZ.out HK10.out.lt).trans HK10.out
              have HIU := Lib.hid ou.rd
              have HK10 := Lib.hid b10
              have HK5 := Lib.hid (HK5a.out.keep hC.below)
              have HIN := Lib.hid (HINa.out.keep hC.below)
              have HB := Lib.hid (HBa.out.trans (hC.below.mono HBa.out.size))
              clear hA hall hC n2 n4 ou b10 hout HOU HSI
              obtain ⟨pu, cu, eu, -, hcu⟩ := HIU.out.open_
              obtain ⟨gu, ou, eu2, hu1, hu2⟩ := hcu 0 (by decide)
              simp only [Value.slice.injEq] at eu
              obtain ⟨rfl, -, rfl⟩ := eu
              subst eu2
              simp at hu1 hu2
              have HU1 := Lib.hid hu1
              have HU2 := Lib.hid hu2
              clear hcu hu1 hu2
              generalize w16.heap.size = g10 at *
              have heqg := run_eq_guid
              go_wp2_with fail
              refine wp_region_spec (fun i => i == 1 || i == 22 || i == 27 || i == 32 || i == 36 || i == 37 || i == 39 || i == 43 || i == 44 || i == 46 || i == 52 || i == 58 || i == 62 || i == 63 || i == 64 || i == 65 || i == 66 || i == 67 || i == 68 || i == 72 || i == 75) (kinds [(1, .is (.bool true)), (22, .is (.agg #[.int .u64 1, .int .u64 1])), (27, .is (.int .i64 0)), (32, .is (.int .i64 0)), (36, .is (.agg #[.int .u64 1, .int .u64 1])), (37, .sl 1), (39, .is (.int .i64 1)), (43, .is (.agg #[.int .u64 0, .int .u64 1])), (44, .sl 1), (46, .is (.int .i64 0)), (52, .is (.bool false)), (58, .is (.bool false)), (62, .is (.agg #[.int .u64 1, .int .u64 1])), (63, .sl 1), (64, .ln 1 0 false 1), (65, .is (.agg #[.int .u64 1, .int .u64 2])), (66, .sl 1), (67, .ln 1 0 false 1), (68, .is (.bool false)), (72, .sl 0), (75, .is (.bool true))]) (CG w18 [] (Fof w18.heap.size [(37, .g [(1, 1)]), (44, .g [(0, 1)]), (63, .g [(1, 1)]), (64, .l ⟨1, 0, false, [(1, 1)]⟩), (66, .g [(1, 2)]), (67, .l ⟨1, 0, false, [(1, 2)]⟩), (72, .g [])])) (by as_aux_lemma => kernel_rfl) (by as_aux_lemma => kernel_rfl) (kinds_inh _) CG.start ?_
              intro ν hν
              have n1 : ν 1 = .bool true := hν 1
              have n22 : ν 22 = .agg #[.int .u64 1, .int .u64 1] := hν 22
              have n27 : ν 27 = .int .i64 0 := hν 27
              have n32 : ν 32 = .int .i64 0 := hν 32
              have n36 : ν 36 = .agg #[.int .u64 1, .int .u64 1] := hν 36
              obtain ⟨g37, n37⟩ : ∃ g, ν 37 = .slice (some ⟨g, 0, none⟩) 1 1 := hν 37
              have n39 : ν 39 = .int .i64 1 := hν 39
              have n43 : ν 43 = .agg #[.int .u64 0, .int .u64 1] := hν 43
              obtain ⟨g44, n44⟩ : ∃ g, ν 44 = .slice (some ⟨g, 0, none⟩) 1 1 := hν 44
              have n46 : ν 46 = .int .i64 0 := hν 46
              have n52 : ν 52 = .bool false := hν 52
              have n58 : ν 58 = .bool false := hν 58
              have n62 : ν 62 = .agg #[.int .u64 1, .int .u64 1] := hν 62
              obtain ⟨g63, n63⟩ : ∃ g, ν 63 = .slice (some ⟨g, 0, none⟩) 1 1 := hν 63
              obtain ⟨a64, c64, n64⟩ : ∃ a c, ν 64 = .agg #[.int .u64 1, .int .i64 0, .bool false, .slice a 1 c] := hν 64
              have n65 : ν 65 = .agg #[.int .u64 1, .int .u64 2] := hν 65
              obtain ⟨g66, n66⟩ : ∃ g, ν 66 = .slice (some ⟨g, 0, none⟩) 1 1 := hν 66
              obtain ⟨a67, c67, n67⟩ : ∃ a c, ν 67 = .agg #[.int .u64 1, .int .i64 0, .bool false, .slice a 1 c] := hν 67
              have n68 : ν 68 = .bool false := hν 68
              obtain ⟨g72, n72⟩ : ∃ g, ν 72 = .slice (some ⟨g, 0, none⟩) 0 0 := hν 72
              have n75 : ν 75 = .bool true := hν 75
              clear hν
              refine lex_plain (by rfl) rfl ?_
              apply Exists.intro
              refine ⟨fun σ w2 hA hD hC => ?_, ?_⟩
              · clear hA hD hC
                go_simp
                exact And.intro rfl rfl
              simp only [Act.put, List.setIfInBounds_toArray, List.set_cons_succ, List.set_cons_zero, Nat.reduceAdd]
              refine lex_special (by rfl) rfl (fun σ w2 hA hD hn hC => ?_) ?_
              · go_simp
                exact num_ok hC hn (by simp) _ (works_any _) (fun _ _ => trivial) rfl
              rw [n1]
              simp only [Act.put, List.setIfInBounds_toArray, List.set_cons_succ, List.set_cons_zero, Nat.reduceAdd]
              refine lex_plain (by rfl) rfl ?_
              apply Exists.intro
              refine ⟨fun σ w2 hA hD hC => ?_, ?_⟩
              · clear hA hD hC
                go_simp
                exact And.intro rfl rfl
              simp only [Act.put, List.setIfInBounds_toArray, List.set_cons_succ, List.set_cons_zero, Nat.reduceAdd]
              refine lex_plain (by rfl) rfl ?_
              apply Exists.intro
              refine ⟨fun σ w2 hA hD hC => ?_, ?_⟩
              · clear hA hD hC
                go_simp
                exact And.intro rfl rfl
              simp only [Act.put, List.setIfInBounds_toArray, List.set_cons_succ, List.set_cons_zero, Nat.reduceAdd]
              refine lex_plain (by rfl) rfl ?_
              apply Exists.intro
              refine ⟨fun σ w2 hA hD hC => ?_, ?_⟩
              · clear hA hD hC
                go_simp
                exact And.intro rfl rfl
              simp only [Act.put, List.setIfInBounds_toArray, List.set_cons_succ, List.set_cons_zero, Nat.reduceAdd]
              refine lex_plain (by rfl) rfl ?_
              apply Exists.intro
              refine ⟨fun σ w2 hA hD hC => ?_, ?_⟩
              · clear hA hD hC
                go_simp
                exact And.intro rfl rfl
              simp only [Act.put, List.setIfInBounds_toArray, List.set_cons_succ, List.set_cons_zero, Nat.reduceAdd]
              refine lex_plain (by rfl) rfl ?_
              apply Exists.intro
              refine ⟨fun σ w2 hA hD hC => ?_, ?_⟩
              · clear hA hD hC
                go_simp
                exact And.intro rfl rfl
              simp only [Act.put, List.setIfInBounds_toArray, List.set_cons_succ, List.set_cons_zero, Nat.reduceAdd]
              refine lex_plain (by rfl) rfl ?_
              apply Exists.intro
              refine ⟨fun σ w2 hA hD hC => ?_, ?_⟩
              · clear hA hD hC
                go_simp
                exact And.intro rfl rfl
              simp only [Act.put, List.setIfInBounds_toArray, List.set_cons_succ, List.set_cons_zero, Nat.reduceAdd]
              refine lex_plain (by rfl) rfl ?_
              apply Exists.intro
              refine ⟨fun σ w2 hA hD hC => ?_, ?_⟩
              · clear hA hD hC
                go_simp
                exact And.intro rfl rfl
              simp only [Act.put, List.setIfInBounds_toArray, List.set_cons_succ, List.set_cons_zero, Nat.reduceAdd]
              refine lex_plain (by rfl) rfl ?_
              apply Exists.intro
              refine ⟨fun σ w2 hA hD hC => ?_, ?_⟩
              · clear hA hD hC
                go_simp
                exact And.intro rfl rfl
              simp only [Act.put, List.setIfInBounds_toArray, List.set_cons_succ, List.set_cons_zero, Nat.reduceAdd]
              refine lex_plain (by rfl) rfl ?_
              apply Exists.intro
              refine ⟨fun σ w2 hA hD hC => ?_, ?_⟩
              · clear hA hD hC
                go_simp
                exact And.intro rfl rfl
              simp only [Act.put, List.setIfInBounds_toArray, List.set_cons_succ, List.set_cons_zero, Nat.reduceAdd]
              refine lex_plain (by rfl) rfl ?_
              apply Exists.intro
              refine ⟨fun σ w2 hA hD hC => ?_, ?_⟩
              · clear hA hD hC
                go_simp
                exact And.intro rfl rfl
              simp only [Act.put, List.setIfInBounds_toArray, List.set_cons_succ, List.set_cons_zero, Nat.reduceAdd]
              refine lex_plain (by rfl) rfl ?_
              apply Exists.intro
              refine ⟨fun σ w2 hA hD hC => ?_, ?_⟩
              · clear hA hD hC
                go_simp
                exact And.intro rfl rfl
              simp only [Act.put, List.setIfInBounds_toArray, List.set_cons_succ, List.set_cons_zero, Nat.reduceAdd]
              refine lex_plain (by rfl) rfl ?_
              apply Exists.intro
              refine ⟨fun σ w2 hA hD hC => ?_, ?_⟩
              · have hx := (HK10.out.keep hC.below).cell 3
                simp at hx
                clear hA hD hC
                go_simp
                exact And.intro rfl rfl
              simp only [Act.put, List.setIfInBounds_toArray, List.set_cons_succ, List.set_cons_zero, Nat.reduceAdd]
              refine lex_plain (by rfl) rfl ?_
              apply Exists.intro
              refine ⟨fun σ w2 hA hD hC => ?_, ?_⟩
              · clear hA hD hC
                go_simp
                exact And.intro rfl rfl
              simp only [Act.put, List.setIfInBounds_toArray, List.set_cons_succ, List.set_cons_zero, Nat.reduceAdd]
              refine lex_plain (by rfl) rfl ?_
              apply Exists.intro
              refine ⟨fun σ w2 hA hD hC => ?_, ?_⟩
              · clear hA hD hC
                go_simp
                exact And.intro rfl rfl
              simp only [Act.put, List.setIfInBounds_toArray, List.set_cons_succ, List.set_cons_zero, Nat.reduceAdd]
              refine lex_plain (by rfl) rfl ?_
              apply Exists.intro
              refine ⟨fun σ w2 hA hD hC => ?_, ?_⟩
              · clear hA hD hC
                go_simp
                exact And.intro rfl rfl
              simp only [Act.put, List.setIfInBounds_toArray, List.set_cons_succ, List.set_cons_zero, Nat.reduceAdd]
              refine lex_plain (by rfl) rfl ?_
              apply Exists.intro
              refine ⟨fun σ w2 hA hD hC => ?_, ?_⟩
              · clear hA hD hC
                go_simp
                exact And.intro rfl rfl
              simp only [Act.put, List.setIfInBounds_toArray, List.set_cons_succ, List.set_cons_zero, Nat.reduceAdd]
              refine lex_plain (by rfl) rfl ?_
              apply Exists.intro
              refine ⟨fun σ w2 hA hD hC => ?_, ?_⟩
              · clear hA hD hC
                go_simp
                exact And.intro rfl rfl
              simp only [Act.put, List.setIfInBounds_toArray, List.set_cons_succ, List.set_cons_zero, Nat.reduceAdd]
              refine lex_plain (by rfl) rfl ?_
              apply Exists.intro
              refine ⟨fun σ w2 hA hD hC => ?_, ?_⟩
              · have hx := (HK10.out.keep hC.below).cell 3
                simp at hx
                clear hA hD hC
                go_simp
                exact And.intro rfl rfl
              simp only [Act.put, List.setIfInBounds_toArray, List.set_cons_succ, List.set_cons_zero, Nat.reduceAdd]
              refine lex_plain (by rfl) rfl ?_
              apply Exists.intro
              refine ⟨fun σ w2 hA hD hC => ?_, ?_⟩
              · clear hA hD hC
                go_simp
                exact And.intro rfl rfl
              simp only [Act.put, List.setIfInBounds_toArray, List.set_cons_succ, List.set_cons_zero, Nat.reduceAdd]
              refine lex_plain (by rfl) rfl ?_
              apply Exists.intro
              refine ⟨fun σ w2 hA hD hC => ?_, ?_⟩
              · have hx := cell_later hC.below HU1.out
                have hy := cell_later hC.below HU2.out
                clear hA hD hC
                go_simp
                exact And.intro rfl rfl
              simp only [Act.put, List.setIfInBounds_toArray, List.set_cons_succ, List.set_cons_zero, Nat.reduceAdd]
              refine lex_special (by rfl) rfl (fun σ w2 hA hD hn hC => ?_) ?_
              · go_simp
                exact guid_ok hC hn (by simp) 1 1 (fun _ _ => trivial) rfl
              rw [n22]
              simp only [Act.put, List.setIfInBounds_toArray, List.set_cons_succ, List.set_cons_zero, Nat.reduceAdd]
              refine lex_plain (by rfl) rfl ?_
              apply Exists.intro
              refine ⟨fun σ w2 hA hD hC => ?_, ?_⟩
              · clear hA hD hC
                go_simp
                exact And.intro rfl rfl
              simp only [Act.put, List.setIfInBounds_toArray, List.set_cons_succ, List.set_cons_zero, Nat.reduceAdd]
              refine lex_plain (by rfl) rfl ?_
              apply Exists.intro
              refine ⟨fun σ w2 hA hD hC => ?_, ?_⟩
              · clear hA hD hC
                go_simp
                exact And.intro rfl rfl
              simp only [Act.put, List.setIfInBounds_toArray, List.set_cons_succ, List.set_cons_zero, Nat.reduceAdd]
              refine lex_plain (by rfl) rfl ?_
              apply Exists.intro
              refine ⟨fun σ w2 hA hD hC => ?_, ?_⟩
              · clear hA hD hC
                go_simp
                exact And.intro rfl rfl
              simp only [Act.put, List.setIfInBounds_toArray, List.set_cons_succ, List.set_cons_zero, Nat.reduceAdd]
              refine lex_plain (by rfl) rfl ⟨.agg #[.int .u64 1, .int .i64 20, .bool false, .slice a 20 c], fun σ w2 hA hD hC => ?_, ?_⟩
              · rw [exec_load 25 (.tmp 5) rfl q5 rfl 25 _ _ (HK5.out.keep hC.below) Try.underlying25 rfl (by kernel_rfl)]
                exact ⟨rfl, rfl⟩
              simp only [Act.put, List.setIfInBounds_toArray, List.set_cons_succ, List.set_cons_zero, Nat.reduceAdd]
              refine lex_special (by rfl) rfl (fun σ w2 hA hD hn hC => ?_) ?_
              · go_simp
                exact num_ok hC hn (by simp) _ ((show ((comm [] (gsN 20) : Nat) : Int) = 0 from by decide) ▸ common_any (.slice none 0 0) [] 1 20 false _ (gsN 20) _ (InG.nil_ _) (HIN.out.keep hC.below)) (fun _ _ => trivial) rfl
              rw [n27]
              simp only [Act.put, List.setIfInBounds_toArray, List.set_cons_succ, List.set_cons_zero, Nat.reduceAdd]
              refine lex_plain (by rfl) rfl ?_
              apply Exists.intro
              refine ⟨fun σ w2 hA hD hC => ?_, ?_⟩
              · clear hA hD hC
                go_simp
                exact And.intro rfl rfl
              simp only [Act.put, List.setIfInBounds_toArray, List.set_cons_succ, List.set_cons_zero, Nat.reduceAdd]
              refine lex_plain (by rfl) rfl ?_
              apply Exists.intro
              refine ⟨fun σ w2 hA hD hC => ?_, ?_⟩
              · clear hA hD hC
                go_simp
                exact And.intro rfl rfl
              simp only [Act.put, List.setIfInBounds_toArray, List.set_cons_succ, List.set_cons_zero, Nat.reduceAdd]
              refine lex_plain (by rfl) rfl ?_
              apply Exists.intro
              refine ⟨fun σ w2 hA hD hC => ?_, ?_⟩
              · clear hA hD hC
                go_simp
                exact And.intro rfl rfl
              simp only [Act.put, List.setIfInBounds_toArray, List.set_cons_succ, List.set_cons_zero, Nat.reduceAdd]
              refine lex_plain (by rfl) rfl ⟨.agg #[.int .u64 1, .int .i64 20, .bool false, .slice a 20 c], fun σ w2 hA hD hC => ?_, ?_⟩
              · rw [exec_load 25 (.tmp 5) rfl q5 rfl 25 _ _ (HK5.out.keep hC.below) Try.underlying25 rfl (by kernel_rfl)]
                exact ⟨rfl, rfl⟩
              simp only [Act.put, List.setIfInBounds_toArray, List.set_cons_succ, List.set_cons_zero, Nat.reduceAdd]
              refine lex_special (by rfl) rfl (fun σ w2 hA hD hn hC => ?_) ?_
              · go_simp
                exact num_ok hC hn (by simp) _ ((show ((stays [] 1 (gsN 20) : Nat) : Int) = 0 from by decide) ▸ stays_any (.slice none 0 0) [] 1 20 false _ (gsN 20) _ (InG.nil_ _) (HIN.out.keep hC.below)) (fun _ _ => trivial) rfl
              rw [n32]
              simp only [Act.put, List.setIfInBounds_toArray, List.set_cons_succ, List.set_cons_zero, Nat.reduceAdd]
              refine lex_plain (by rfl) rfl ?_
              apply Exists.intro
              refine ⟨fun σ w2 hA hD hC => ?_, ?_⟩
              · clear hA hD hC
                go_simp
                exact And.intro rfl rfl
              simp only [Act.put, List.setIfInBounds_toArray, List.set_cons_succ, List.set_cons_zero, Nat.reduceAdd]
              refine lex_plain (by rfl) rfl ?_
              apply Exists.intro
              refine ⟨fun σ w2 hA hD hC => ?_, ?_⟩
              · clear hA hD hC
                go_simp
                exact And.intro rfl rfl
              simp only [Act.put, List.setIfInBounds_toArray, List.set_cons_succ, List.set_cons_zero, Nat.reduceAdd]
              refine lex_plain (by rfl) rfl ?_
              apply Exists.intro
              refine ⟨fun σ w2 hA hD hC => ?_, ?_⟩
              · clear hA hD hC
                go_simp
                exact And.intro rfl rfl
              simp only [Act.put, List.setIfInBounds_toArray, List.set_cons_succ, List.set_cons_zero, Nat.reduceAdd]
              refine lex_special (by rfl) rfl (fun σ w2 hA hD hn hC => ?_) ?_
              · go_simp
                exact guid_ok hC hn (by simp) 1 1 (fun _ _ => trivial) rfl
              rw [n36]
              simp only [Act.put, List.setIfInBounds_toArray, List.set_cons_succ, List.set_cons_zero, Nat.reduceAdd]
              refine lex_special (by rfl) rfl (fun σ w2 hA hD hn hC => ?_) ?_
              · go_simp
                exact lit_ok hC hn (by simp) [(1, 1)] 1 _ rfl rfl (by decide) (by decide) (fun _ _ h => h) (fun g => ⟨g, rfl⟩)
              rw [n37]
              simp only [Act.put, List.setIfInBounds_toArray, List.set_cons_succ, List.set_cons_zero, Nat.reduceAdd]
              refine lex_plain (by rfl) rfl ?_
              apply Exists.intro
              refine ⟨fun σ w2 hA hD hC => ?_, ?_⟩
              · clear hA hD hC
                go_simp
                exact And.intro rfl rfl
              simp only [Act.put, List.setIfInBounds_toArray, List.set_cons_succ, List.set_cons_zero, Nat.reduceAdd]
              refine lex_special (by rfl) rfl (fun σ w2 hA hD hn hC => ?_) ?_
              · have e37 := got1 hA hD 37 rfl (by kernel_rfl)
                rw [n37] at e37
                have f37 : OwG w2 w18.heap.size _ [(1, 1)] := hC.fact e37 (by simp)
                go_simp
                exact num_ok hC hn (by simp) _ ((show ((stays [(1, 1)] 0 [] : Nat) : Int) = 1 from by decide) ▸ stays_any _ [(1, 1)] 0 0 false _ [] _ f37.rd (InG.nil_ _)) (fun _ _ => trivial) rfl
              rw [n39]
              simp only [Act.put, List.setIfInBounds_toArray, List.set_cons_succ, List.set_cons_zero, Nat.reduceAdd]
              refine lex_plain (by rfl) rfl ?_
              apply Exists.intro
              refine ⟨fun σ w2 hA hD hC => ?_, ?_⟩
              · clear hA hD hC
                go_simp
                exact And.intro rfl rfl
              simp only [Act.put, List.setIfInBounds_toArray, List.set_cons_succ, List.set_cons_zero, Nat.reduceAdd]
              refine lex_plain (by rfl) rfl ?_
              apply Exists.intro
              refine ⟨fun σ w2 hA hD hC => ?_, ?_⟩
              · clear hA hD hC
                go_simp
                exact And.intro rfl rfl
              simp only [Act.put, List.setIfInBounds_toArray, List.set_cons_succ, List.set_cons_zero, Nat.reduceAdd]
              refine lex_plain (by rfl) rfl ?_
              apply Exists.intro
              refine ⟨fun σ w2 hA hD hC => ?_, ?_⟩
              · clear hA hD hC
                go_simp
                exact And.intro rfl rfl
              simp only [Act.put, List.setIfInBounds_toArray, List.set_cons_succ, List.set_cons_zero, Nat.reduceAdd]
              refine lex_special (by rfl) rfl (fun σ w2 hA hD hn hC => ?_) ?_
              · go_simp
                exact guid_ok hC hn (by simp) 0 1 (fun _ _ => trivial) rfl
              rw [n43]
              simp only [Act.put, List.setIfInBounds_toArray, List.set_cons_succ, List.set_cons_zero, Nat.reduceAdd]
              refine lex_special (by rfl) rfl (fun σ w2 hA hD hn hC => ?_) ?_
              · go_simp
                exact lit_ok hC hn (by simp) [(0, 1)] 1 _ rfl rfl (by decide) (by decide) (fun _ _ h => h) (fun g => ⟨g, rfl⟩)
              rw [n44]
              simp only [Act.put, List.setIfInBounds_toArray, List.set_cons_succ, List.set_cons_zero, Nat.reduceAdd]
              refine lex_plain (by rfl) rfl ?_
              apply Exists.intro
              refine ⟨fun σ w2 hA hD hC => ?_, ?_⟩
              · clear hA hD hC
                go_simp
                exact And.intro rfl rfl
              simp only [Act.put, List.setIfInBounds_toArray, List.set_cons_succ, List.set_cons_zero, Nat.reduceAdd]
              refine lex_special (by rfl) rfl (fun σ w2 hA hD hn hC => ?_) ?_
              · have e44 := got1 hA hD 44 rfl (by kernel_rfl)
                rw [n44] at e44
                have f44 : OwG w2 w18.heap.size _ [(0, 1)] := hC.fact e44 (by simp)
                go_simp
                exact num_ok hC hn (by simp) _ ((show ((stays [(0, 1)] 1 [] : Nat) : Int) = 0 from by decide) ▸ stays_any _ [(0, 1)] 1 0 false _ [] _ f44.rd (InG.nil_ _)) (fun _ _ => trivial) rfl
              rw [n46]
              simp only [Act.put, List.setIfInBounds_toArray, List.set_cons_succ, List.set_cons_zero, Nat.reduceAdd]
              refine lex_plain (by rfl) rfl ?_
              apply Exists.intro
              refine ⟨fun σ w2 hA hD hC => ?_, ?_⟩
              · clear hA hD hC
                go_simp
                exact And.intro rfl rfl
              simp only [Act.put, List.setIfInBounds_toArray, List.set_cons_succ, List.set_cons_zero, Nat.reduceAdd]
              refine lex_plain (by rfl) rfl ?_
              apply Exists.intro
              refine ⟨fun σ w2 hA hD hC => ?_, ?_⟩
              · clear hA hD hC
                go_simp
                exact And.intro rfl rfl
              simp only [Act.put, List.setIfInBounds_toArray, List.set_cons_succ, List.set_cons_zero, Nat.reduceAdd]
              refine lex_plain (by rfl) rfl ?_
              apply Exists.intro
              refine ⟨fun σ w2 hA hD hC => ?_, ?_⟩
              · clear hA hD hC
                go_simp
                exact And.intro rfl rfl
              simp only [Act.put, List.setIfInBounds_toArray, List.set_cons_succ, List.set_cons_zero, Nat.reduceAdd]
              refine lex_plain (by rfl) rfl ?_
              apply Exists.intro
              refine ⟨fun σ w2 hA hD hC => ?_, ?_⟩
              · clear hA hD hC
                go_simp
                exact And.intro rfl rfl
              simp only [Act.put, List.setIfInBounds_toArray, List.set_cons_succ, List.set_cons_zero, Nat.reduceAdd]
              refine lex_plain (by rfl) rfl ?_
              apply Exists.intro
              refine ⟨fun σ w2 hA hD hC => ?_, ?_⟩
              · clear hA hD hC
                go_simp
                exact And.intro rfl rfl
              simp only [Act.put, List.setIfInBounds_toArray, List.set_cons_succ, List.set_cons_zero, Nat.reduceAdd]
              refine lex_special (by rfl) rfl (fun σ w2 hA hD hn hC => ?_) ?_
              · go_simp
                exact num_ok hC hn (by simp) _ (same_lit _ _ ⟨0, 1, false, []⟩ ⟨0, 0, false, []⟩ false _ ⟨_, rfl, InG.nil_ _, by decide, by decide⟩ ⟨_, rfl, InG.nil_ _, by decide, by decide⟩ (by decide)) (fun _ _ => trivial) rfl
              rw [n52]
              simp only [Act.put, List.setIfInBounds_toArray, List.set_cons_succ, List.set_cons_zero, Nat.reduceAdd]
              refine lex_plain (by rfl) rfl ?_
              apply Exists.intro
              refine ⟨fun σ w2 hA hD hC => ?_, ?_⟩
              · clear hA hD hC
                go_simp
                exact And.intro rfl rfl
              simp only [Act.put, List.setIfInBounds_toArray, List.set_cons_succ, List.set_cons_zero, Nat.reduceAdd]
              refine lex_plain (by rfl) rfl ?_
              apply Exists.intro
              refine ⟨fun σ w2 hA hD hC => ?_, ?_⟩
              · clear hA hD hC
                go_simp
                exact And.intro rfl rfl
              simp only [Act.put, List.setIfInBounds_toArray, List.set_cons_succ, List.set_cons_zero, Nat.reduceAdd]
              refine lex_plain (by rfl) rfl ?_
              apply Exists.intro
              refine ⟨fun σ w2 hA hD hC => ?_, ?_⟩
              · clear hA hD hC
                go_simp
                exact And.intro rfl rfl
              simp only [Act.put, List.setIfInBounds_toArray, List.set_cons_succ, List.set_cons_zero, Nat.reduceAdd]
              refine lex_plain (by rfl) rfl ?_
              apply Exists.intro
              refine ⟨fun σ w2 hA hD hC => ?_, ?_⟩
              · clear hA hD hC
                go_simp
                exact And.intro rfl rfl
              simp only [Act.put, List.setIfInBounds_toArray, List.set_cons_succ, List.set_cons_zero, Nat.reduceAdd]
              refine lex_plain (by rfl) rfl ?_
              apply Exists.intro
              refine ⟨fun σ w2 hA hD hC => ?_, ?_⟩
              · clear hA hD hC
                go_simp
                exact And.intro rfl rfl
              simp only [Act.put, List.setIfInBounds_toArray, List.set_cons_succ, List.set_cons_zero, Nat.reduceAdd]
              refine lex_special (by rfl) rfl (fun σ w2 hA hD hn hC => ?_) ?_
              · go_simp
                exact num_ok hC hn (by simp) _ (same_lit _ _ ⟨0, 0, true, []⟩ ⟨0, 0, false, []⟩ false _ ⟨_, rfl, InG.nil_ _, by decide, by decide⟩ ⟨_, rfl, InG.nil_ _, by decide, by decide⟩ (by decide)) (fun _ _ => trivial) rfl
              rw [n58]
              simp only [Act.put, List.setIfInBounds_toArray, List.set_cons_succ, List.set_cons_zero, Nat.reduceAdd]
              refine lex_plain (by rfl) rfl ?_
              apply Exists.intro
              refine ⟨fun σ w2 hA hD hC => ?_, ?_⟩
              · clear hA hD hC
                go_simp
                exact And.intro rfl rfl
              simp only [Act.put, List.setIfInBounds_toArray, List.set_cons_succ, List.set_cons_zero, Nat.reduceAdd]
              refine lex_plain (by rfl) rfl ?_
              apply Exists.intro
              refine ⟨fun σ w2 hA hD hC => ?_, ?_⟩
              · clear hA hD hC
                go_simp
                exact And.intro rfl rfl
              simp only [Act.put, List.setIfInBounds_toArray, List.set_cons_succ, List.set_cons_zero, Nat.reduceAdd]
              refine lex_plain (by rfl) rfl ?_
              apply Exists.intro
              refine ⟨fun σ w2 hA hD hC => ?_, ?_⟩
              · clear hA hD hC
                go_simp
                exact And.intro rfl rfl
              simp only [Act.put, List.setIfInBounds_toArray, List.set_cons_succ, List.set_cons_zero, Nat.reduceAdd]
              refine lex_special (by rfl) rfl (fun σ w2 hA hD hn hC => ?_) ?_
              · go_simp
                exact guid_ok hC hn (by simp) 1 1 (fun _ _ => trivial) rfl
              rw [n62]
              simp only [Act.put, List.setIfInBounds_toArray, List.set_cons_succ, List.set_cons_zero, Nat.reduceAdd]
              refine lex_special (by rfl) rfl (fun σ w2 hA hD hn hC => ?_) ?_
              · go_simp
                exact lit_ok hC hn (by simp) [(1, 1)] 1 _ rfl rfl (by decide) (by decide) (fun _ _ h => h) (fun g => ⟨g, rfl⟩)
              rw [n63]
              simp only [Act.put, List.setIfInBounds_toArray, List.set_cons_succ, List.set_cons_zero, Nat.reduceAdd]
              refine lex_special (by rfl) rfl (fun σ w2 hA hD hn hC => ?_) ?_
              · have e63 := got1 hA hD 63 rfl (by kernel_rfl)
                rw [n63] at e63
                go_simp
                exact of_ok hC hn (by simp) 63 (by simp) 1 false _ 1 _ e63 [(1, 1)] (by decide) (fun _ _ h => h) (fun _ _ h => h) ⟨_, _, rfl⟩
              rw [n64]
              simp only [Act.put, List.setIfInBounds_toArray, List.set_cons_succ, List.set_cons_zero, Nat.reduceAdd]
              refine lex_special (by rfl) rfl (fun σ w2 hA hD hn hC => ?_) ?_
              · go_simp
                exact guid_ok hC hn (by simp) 1 2 (fun _ _ => trivial) rfl
              rw [n65]
              simp only [Act.put, List.setIfInBounds_toArray, List.set_cons_succ, List.set_cons_zero, Nat.reduceAdd]
              refine lex_special (by rfl) rfl (fun σ w2 hA hD hn hC => ?_) ?_
              · go_simp
                exact lit_ok hC hn (by simp) [(1, 2)] 1 _ rfl rfl (by decide) (by decide) (fun _ _ h => h) (fun g => ⟨g, rfl⟩)
              rw [n66]
              simp only [Act.put, List.setIfInBounds_toArray, List.set_cons_succ, List.set_cons_zero, Nat.reduceAdd]
              refine lex_special (by rfl) rfl (fun σ w2 hA hD hn hC => ?_) ?_
              · have e66 := got1 hA hD 66 rfl (by kernel_rfl)
                rw [n66] at e66
                go_simp
                exact of_ok hC hn (by simp) 66 (by simp) 1 false _ 1 _ e66 [(1, 2)] (by decide) (fun _ _ h => h) (fun _ _ h => h) ⟨_, _, rfl⟩
              rw [n67]
              simp only [Act.put, List.setIfInBounds_toArray, List.set_cons_succ, List.set_cons_zero, Nat.reduceAdd]
              refine lex_special (by rfl) rfl (fun σ w2 hA hD hn hC => ?_) ?_
              · have e64 := got1 hA hD 64 rfl (by kernel_rfl)
                rw [n64] at e64
                have f64 : OwL w2 w18.heap.size _ ⟨1, 0, false, [(1, 1)]⟩ := hC.fact e64 (by simp)
                have e67 := got1 hA hD 67 rfl (by kernel_rfl)
                rw [n67] at e67
                have f67 : OwL w2 w18.heap.size _ ⟨1, 0, false, [(1, 2)]⟩ := hC.fact e67 (by simp)
                go_simp
                exact num_ok hC hn (by simp) _ (same_lit _ _ ⟨1, 0, false, [(1, 1)]⟩ ⟨1, 0, false, [(1, 2)]⟩ false _ f64.rd f67.rd (by decide)) (fun _ _ => trivial) rfl
              rw [n68]
              simp only [Act.put, List.setIfInBounds_toArray, List.set_cons_succ, List.set_cons_zero, Nat.reduceAdd]
              refine lex_plain (by rfl) rfl ?_
              apply Exists.intro
              refine ⟨fun σ w2 hA hD hC => ?_, ?_⟩
              · clear hA hD hC
                go_simp
                exact And.intro rfl rfl
              simp only [Act.put, List.setIfInBounds_toArray, List.set_cons_succ, List.set_cons_zero, Nat.reduceAdd]
              refine lex_plain (by rfl) rfl ?_
              apply Exists.intro
              refine ⟨fun σ w2 hA hD hC => ?_, ?_⟩
              · clear hA hD hC
                go_simp
                exact And.intro rfl rfl
              simp only [Act.put, List.setIfInBounds_toArray, List.set_cons_succ, List.set_cons_zero, Nat.reduceAdd]
              refine lex_plain (by rfl) rfl ?_
              apply Exists.intro
              refine ⟨fun σ w2 hA hD hC => ?_, ?_⟩
              · clear hA hD hC
                go_simp
                exact And.intro rfl rfl
              simp only [Act.put, List.setIfInBounds_toArray, List.set_cons_succ, List.set_cons_zero, Nat.reduceAdd]
              refine lex_special (by rfl) rfl (fun σ w2 hA hD hn hC => ?_) ?_
              · go_simp
                exact lit_ok hC hn (by simp) [] 0 _ rfl rfl (by decide) (by decide) (fun _ _ h => h) (fun g => ⟨g, rfl⟩)
              rw [n72]
              simp only [Act.put, List.setIfInBounds_toArray, List.set_cons_succ, List.set_cons_zero, Nat.reduceAdd]
              refine lex_plain (by rfl) rfl ?_
              apply Exists.intro
              refine ⟨fun σ w2 hA hD hC => ?_, ?_⟩
              · clear hA hD hC
                go_simp
                exact And.intro rfl rfl
              simp only [Act.put, List.setIfInBounds_toArray, List.set_cons_succ, List.set_cons_zero, Nat.reduceAdd]
              refine lex_plain (by rfl) rfl ?_
              apply Exists.intro
              refine ⟨fun σ w2 hA hD hC => ?_, ?_⟩
              · clear hA hD hC
                go_simp
                exact And.intro rfl rfl
              simp only [Act.put, List.setIfInBounds_toArray, List.set_cons_succ, List.set_cons_zero, Nat.reduceAdd]
              refine lex_special (by rfl) rfl (fun σ w2 hA hD hn hC => ?_) ?_
              · have e72 := got2 hA hD 72 73 rfl (by kernel_rfl) (by kernel_rfl) (by simp)
                rw [n72] at e72
                have f72 : OwG w2 w18.heap.size _ [] := hC.fact e72 (by simp)
                go_simp
                exact num_ok hC hn (by simp) _ (same_lit _ _ ⟨0, 0, false, []⟩ ⟨0, 0, false, []⟩ true _ ⟨_, rfl, f72.rd, by decide, by decide⟩ ⟨_, rfl, InG.nil_ _, by decide, by decide⟩ (by decide)) (fun _ _ => trivial) rfl
              rw [n75]
              simp only [Act.put, List.setIfInBounds_toArray, List.set_cons_succ, List.set_cons_zero, Nat.reduceAdd]
              refine lex_plain (by rfl) rfl ?_
              apply Exists.intro
              refine ⟨fun σ w2 hA hD hC => ?_, ?_⟩
              · clear hA hD hC
                go_simp
                exact And.intro rfl rfl
              simp only [Act.put, List.setIfInBounds_toArray, List.set_cons_succ, List.set_cons_zero, Nat.reduceAdd]
              refine lex_plain (by rfl) rfl ?_
              apply Exists.intro
              refine ⟨fun σ w2 hA hD hC => ?_, ?_⟩
              · clear hA hD hC
                go_simp
                exact And.intro rfl rfl
              simp only [Act.put, List.setIfInBounds_toArray, List.set_cons_zero, Nat.reduceAdd]
              refine lex_nil (fun σ w9 hA hall hC => ?_)
              have HB := Lib.hid (HB.out.trans (hC.below.mono HB.out.size))
              clear hA hall hC
              go_wp2
              go_ret
              exact ⟨rfl, HB.out⟩
end Go.Proofs.Ytfkgidljgbhccaa
