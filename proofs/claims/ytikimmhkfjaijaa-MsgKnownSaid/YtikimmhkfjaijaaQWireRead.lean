/-
  READING NUMBERS AND TEXTS, THE PROGRAM's READER.
-/
import Derived.Test.YtikimmhkfjaijaaQWireWalks
namespace Go.Proofs.Ytikimmhkfjaijaa
open Go.RowKit Reg

/-- The program's reader in block r has what is left; or it is bad. -/
def Rdr (w : World) (r : Nat) : Wire.St → Prop
  | none => ∃ v, Blk w r 90 #[v, .bool true]
  | some l => ∃ g off c, Blk w r 90 #[.slice (some ⟨g, off, none⟩) l.length c, .bool false] ∧ g + 1 = r ∧ l.length ≤ c ∧ l.length ≤ 1152921504606846976 ∧ ∀ j u, (l.map vb)[j]? = some u → w.cell? ⟨g, off + j, none⟩ = some u
theorem Rdr.keep {w w' : World} {r : Nat} {st : Wire.St} (h : Rdr w r st) (hb : Below w.heap.size w w') : Rdr w' r st := by
  cases st with
  | none => obtain ⟨v, b⟩ := h; exact ⟨v, b.keep hb⟩
  | some l =>
    obtain ⟨g, off, c, b, h1, h2, h3, hx⟩ := h
    exact ⟨g, off, c, b.keep hb, h1, h2, h3, fun j u hu => cell_later hb (hx j u hu)⟩
theorem Rdr.lt {w : World} {r : Nat} {st : Wire.St} (h : Rdr w r st) : r < w.heap.size := by
  cases st with
  | none => obtain ⟨v, b⟩ := h; exact b.lt
  | some l => obtain ⟨g, off, c, b, _⟩ := h; exact b.lt
theorem Rdr.far {w w' : World} {r : Nat} {st : Wire.St} {row : Option Nat} (h : Rdr w r st) (hg : w.grownBy w' row) (hr : some r ≠ row) (hd : ∀ g, some g = row → ∀ j, (w.cell? ⟨g, j, none⟩ = none)) : Rdr w' r st := by
  cases st with
  | none => obtain ⟨v, b⟩ := h; exact ⟨v, (hg.block r b.lt hr).trans b⟩
  | some l =>
    obtain ⟨g, off, c, b, h1, h2, h3, hx⟩ := h
    refine ⟨g, off, c, (hg.block r b.lt hr).trans b, h1, h2, h3, fun j u hu => ?_⟩
    have hc := hx j u hu
    by_cases e : some g = row
    · rw [hd g e] at hc; cases hc
    · rw [World.cell?_of_block (w := w)]
      · exact hc
      · refine hg.block g ?_ e
        rcases Nat.lt_or_ge g w.heap.size with q | q
        · exact q
        · simp [World.cell?, Array.getElem?_eq_none q] at hc
/-- what is above the reader's blocks may turn -/
theorem Rdr.below {w w' : World} {r B : Nat} {st : Wire.St} (h : Rdr w r st) (hb : Below B w w') (hB : r < B) : Rdr w' r st := by
  cases st with
  | none => obtain ⟨v, b⟩ := h; exact ⟨v, b.below hb hB⟩
  | some l =>
    obtain ⟨g, off, c, b, h1, h2, h3, hx⟩ := h
    exact ⟨g, off, c, b.below hb hB, h1, h2, h3, fun j u hu => (hb.cell (p := ⟨g, off + j, none⟩) (by show g < B; omega)).trans (hx j u hu)⟩
/-- a store into a block -/
theorem grownBy_set (w : World) (r i : Nat) (u : Value) : w.grownBy (w.setCell ⟨r, i, none⟩ u) (some r) :=
  ⟨rfl, rfl, rfl, by simp [World.setCell], fun k _ hk => Below.heap_setCell _ _ _ _ (fun e => hk (by rw [e]))⟩
theorem grownBy_trans {a b c : World} {row : Option Nat} (h : a.grownBy b row) (k : b.grownBy c row) : a.grownBy c row :=
  ⟨k.os.trans h.os, k.tape.trans h.tape, k.output.trans h.output, Nat.le_trans h.size k.size, fun i hi hr => (k.block i (Nat.lt_of_lt_of_le hi h.size) hr).trans (h.block i hi hr)⟩
theorem grownBy_below {a b : World} {row : Option Nat} (h : Below a.heap.size a b) : a.grownBy b row := ⟨h.os, h.tape, h.output, h.size, fun i hi _ => h.block i hi⟩

set_option maxHeartbeats 400000 in
theorem newReader_any (s : ByteArray) (w : World) (hs : s.size ≤ 1152921504606846976) :
    Calls Try.prog 24 #[.string s] w fun e w' => ∃ r, e = .returned (.pointer (some ⟨r, 0, none⟩)) ∧ w.heap.size ≤ r ∧ Rdr w' r (some s.data.toList) ∧ Below w.heap.size w w' := by
  obtain ⟨cap, w1, hcv, hcap, hsz, hb, hcell, hfr⟩ := bytes_of_list (P := Try.prog) w 9 47 5 s s.data.toList rfl Try.underlying9 Try.underlying47 Try.underlying5
  have HC := Lib.hid hcell
  have HB := Lib.hid hb
  have HS : Hid (s.data.toList.length ≤ 1152921504606846976) := by rw [len_data]; exact hs
  have HCAP := Lib.hid hcap
  have HSZ := Lib.hid hsz
  clear hcell hfr hb hs hcap
  generalize s.data.toList = l at *
  go_enter Try.func24, Try.ntmps24
  go_wp2
  go_ret
  refine ⟨w.heap.size + 1, rfl, by omega, ⟨w.heap.size, 0, cap, Blk.newAt _ _ HSZ.out, by omega, HCAP.out, HS.out, fun j u hu => ?_⟩, HB.out.alloc HB.out.size _⟩
  have hj : j < l.length := by
    rcases Nat.lt_or_ge j l.length with q | q
    · exact q
    · rw [List.getElem?_eq_none (by simpa using q)] at hu; cases hu
  have h1 := HC.out j hj
  rw [Nat.zero_add, World.cell?_alloc_lt _ _ _ (by have := HSZ.out; simp; omega), h1]
  simp [hj, vb] at hu ⊢
  exact hu

set_option maxHeartbeats 400000 in
theorem take_bad (r : Nat) (n : Int) (w : World) (h : Rdr w r none) :
    Calls Try.prog 67 #[.pointer (some ⟨r, 0, none⟩), .int .u64 n] w fun e w' => e = .returned (.slice none 0 0) ∧ Rdr w' r none ∧ w.grownBy w' (some r) := by
  obtain ⟨v, b⟩ := h
  have c1 : w.cell? ⟨r, 1, none⟩ = some (.bool true) := b.cell 1
  have c2 := b.frozen 1
  have HB := Lib.hid b
  clear b
  go_enter Try.func67, Try.ntmps67
  go_wp2
  go_ret
  exact ⟨rfl, ⟨v, HB.out.set 1 _⟩, grownBy_set _ _ _ _⟩

set_option maxHeartbeats 400000 in
theorem take_over (r : Nat) (n : Nat) (l : List UInt8) (w : World) (h : Rdr w r (some l)) (hn : l.length < n) :
    Calls Try.prog 67 #[.pointer (some ⟨r, 0, none⟩), .int .u64 (n : Int)] w fun e w' => e = .returned (.slice none 0 0) ∧ Rdr w' r none ∧ w.grownBy w' (some r) := by
  obtain ⟨g, off, c, b, h1, h2, h3, hx⟩ := h
  have c1 : w.cell? ⟨r, 1, none⟩ = some (.bool false) := b.cell 1
  have c0 : w.cell? ⟨r, 0, none⟩ = some (.slice (some ⟨g, off, none⟩) l.length c) := b.cell 0
  have c2 := b.frozen 1
  have HB := Lib.hid b
  have hw : IntKind.u64.wrap (l.length : Int) = (l.length : Int) := wrap_u64 _ (by omega)
  have hlt : (l.length : Int) < (n : Int) := by omega
  clear b hx h1 h2 h3 hn
  generalize l.length = k at *
  go_enter Try.func67, Try.ntmps67
  go_wp2
  go_ret
  exact ⟨rfl, ⟨_, HB.out.set 1 _⟩, grownBy_set _ _ _ _⟩

theorem take_fin {w : World} {r n k g off c off' c' : Nat} {l : List UInt8} (HB : Blk w r 90 #[.slice (some ⟨g, off, none⟩) k c, .bool false]) (HX : ∀ (j : Nat) (u : Value), (l.map vb)[j]? = some u → w.cell? ⟨g, off + j, none⟩ = some u)
    (HH : g + 1 = r ∧ k ≤ c ∧ k ≤ 1152921504606846976) (HK : l.length = k) (HN : n ≤ k) (hc' : k - n ≤ c') (ho : off' = off + n ∨ k = n) :
    g ≠ r ∧ RdB (w.setCell ⟨r, 0, none⟩ (.slice (some ⟨g, off', none⟩) (k - n) c')) (.slice (some ⟨g, off, none⟩) n n) (l.take n) ∧ Rdr (w.setCell ⟨r, 0, none⟩ (.slice (some ⟨g, off', none⟩) (k - n) c')) r (some (l.drop n)) ∧
      w.grownBy (w.setCell ⟨r, 0, none⟩ (.slice (some ⟨g, off', none⟩) (k - n) c')) (some r) := by
  subst HK
  have far : ∀ j, (w.setCell ⟨r, 0, none⟩ (.slice (some ⟨g, off', none⟩) (l.length - n) c')).cell? ⟨g, j, none⟩ = w.cell? ⟨g, j, none⟩ := fun j =>
    World.cell?_setCell_other _ _ _ _ (fun e => by have h1 := HH.1; have h2 := (Addr.mk.inj e).1; omega)
  have hl : (l.take n).length = n := by rw [List.length_take]; omega
  refine ⟨by have h1 := HH.1; omega, ⟨by rw [hl]; simp; omega, .inr ⟨g, off, n, by rw [hl], by rw [hl]; exact Nat.le_refl _, fun j u hu => ?_⟩⟩, ⟨g, off', c', ?_, HH.1, ?_, ?_, fun j u hu => ?_⟩, grownBy_set _ _ _ _⟩
  · rw [far]
    have hj : j < n := by
      rcases Nat.lt_or_ge j n with q | q
      · exact q
      · rw [List.getElem?_eq_none (by simp; omega)] at hu; cases hu
    refine HX j u ?_
    rw [List.map_take, List.getElem?_take_of_lt hj] at hu
    exact hu
  · have := HB.set 0 (.slice (some ⟨g, off', none⟩) (l.length - n) c')
    rw [List.length_drop]
    exact this
  · rw [List.length_drop]; omega
  · rw [List.length_drop]; omega
  · rw [far]
    rcases ho with rfl | ho
    · rw [Nat.add_assoc]
      refine HX _ u ?_
      rw [List.map_drop, List.getElem?_drop] at hu
      exact hu
    · rw [List.drop_of_length_le (by omega)] at hu
      cases hu
set_option maxHeartbeats 400000 in
theorem take_ok (r : Nat) (n : Nat) (l : List UInt8) (w : World) (h : Rdr w r (some l)) (hn : n ≤ l.length) :
    Calls Try.prog 67 #[.pointer (some ⟨r, 0, none⟩), .int .u64 (n : Int)] w fun e w' => ∃ g off, e = .returned (.slice (some ⟨g, off, none⟩) n n) ∧ g ≠ r ∧ RdB w' (.slice (some ⟨g, off, none⟩) n n) (l.take n) ∧ Rdr w' r (some (l.drop n)) ∧ w.grownBy w' (some r) := by
  obtain ⟨g, off, c, b, h1, h2, h3, hx⟩ := h
  have c1 : w.cell? ⟨r, 1, none⟩ = some (.bool false) := b.cell 1
  have c0 : w.cell? ⟨r, 0, none⟩ = some (.slice (some ⟨g, off, none⟩) l.length c) := b.cell 0
  have c2 := b.frozen 0
  have HB := Lib.hid b
  have hw : IntKind.u64.wrap (l.length : Int) = (l.length : Int) := wrap_u64 _ (by omega)
  have hle : (n : Int) ≤ (l.length : Int) := by omega
  have hlc : (l.length : Int) ≤ (c : Int) := by omega
  have hn0 : (0 : Int) ≤ (n : Int) := by omega
  have HX := Lib.hid hx
  have HH := Lib.hid (And.intro h1 (And.intro h2 h3))
  clear b hx h1 h2 h3
  generalize hk : l.length = k at *
  have HK := Lib.hid hk
  have HN := Lib.hid hn
  clear hk hn
  go_enter Try.func67, Try.ntmps67
  go_wp2
  · go_ret
    have h := ‹c = n›
    exact ⟨g, off, rfl, take_fin HB.out HX.out HH.out HK.out HN.out (by have := HH.out; omega) (.inr (by have := HH.out; have := HN.out; omega))⟩
  · go_ret
    exact ⟨g, off, rfl, take_fin HB.out HX.out HH.out HK.out HN.out (by have := HH.out; omega) (.inl rfl)⟩
end Go.Proofs.Ytikimmhkfjaijaa
