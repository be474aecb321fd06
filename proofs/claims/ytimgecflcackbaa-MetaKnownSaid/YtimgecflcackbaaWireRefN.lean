/-
  THE REFERENCE's READER.
-/
import Derived.Test.YtimgecflcackbaaWireNumN
namespace Go.Proofs.Ytimgecflcackbaa
open Go.RowKit Reg

def RdR (w : World) (r : Nat) : Wire.St → Prop
  | none => ∃ s : ByteArray, Blk w r 81 #[.string s, .bool true]
  | some l => l.length ≤ 1152921504606846976 ∧ Blk w r 81 #[.string (strOf l), .bool false]
theorem RdR.keep {w w' : World} {r : Nat} {st : Wire.St} (h : RdR w r st) (hb : Below w.heap.size w w') : RdR w' r st := by
  cases st with
  | none => obtain ⟨s, b⟩ := h; exact ⟨s, b.keep hb⟩
  | some l => exact ⟨h.1, h.2.keep hb⟩
theorem RdR.lt {w : World} {r : Nat} {st : Wire.St} (h : RdR w r st) : r < w.heap.size := by
  cases st with
  | none => obtain ⟨s, b⟩ := h; exact b.lt
  | some l => exact h.2.lt
theorem RdR.far {w w' : World} {r : Nat} {st : Wire.St} {row : Option Nat} (h : RdR w r st) (hg : w.grownBy w' row) (hr : some r ≠ row) : RdR w' r st := by
  cases st with
  | none => obtain ⟨s, b⟩ := h; exact ⟨s, (hg.block r b.lt hr).trans b⟩
  | some l => exact ⟨h.1, (hg.block r h.2.lt hr).trans h.2⟩
theorem Rdr.far_ {w w' : World} {r r' : Nat} {st st' : Wire.St} (h : Rdr w r st) (hr : RdR w r' st') (hg : w.grownBy w' (some r')) (hne : r ≠ r') : Rdr w' r st := by
  cases st with
  | none => obtain ⟨v, b⟩ := h; exact ⟨v, (hg.block r b.lt (by simpa using hne)).trans b⟩
  | some l =>
    obtain ⟨g, off, c, b, h1, h2, h3, hx⟩ := h
    refine ⟨g, off, c, (hg.block r b.lt (by simpa using hne)).trans b, h1, h2, h3, fun j u hu => ?_⟩
    have hc := hx j u hu
    have hgr : g ≠ r' := by
      intro e
      subst e
      have hj : ∃ x : UInt8, u = vb x := by
        rw [List.getElem?_map] at hu
        cases hq : l[j]? with
        | none => rw [hq] at hu; cases hu
        | some x => rw [hq] at hu; exact ⟨x, (Option.some.inj hu).symm⟩
      obtain ⟨x, rfl⟩ := hj
      cases st' with
      | none =>
        obtain ⟨s, b'⟩ := hr
        rw [b'.cell] at hc
        match off + j, hc with
        | 0, hc => simp [vb] at hc
        | 1, hc => simp [vb] at hc
        | n + 2, hc => simp at hc
      | some l' =>
        have b' := hr.2
        rw [b'.cell] at hc
        match off + j, hc with
        | 0, hc => simp [vb] at hc
        | 1, hc => simp [vb] at hc
        | n + 2, hc => simp at hc
    rw [World.cell?_of_block (w := w)]
    · exact hc
    · refine hg.block g ?_ (by simpa using hgr)
      rcases Nat.lt_or_ge g w.heap.size with q | q
      · exact q
      · simp [World.cell?, Array.getElem?_eq_none q] at hc

set_option maxHeartbeats 400000 in
theorem fail_any (r : Nat) (s : ByteArray) (b : Bool) (w : World) (h : Blk w r 81 #[.string s, .bool b]) :
    Calls Try.prog 76 #[.pointer (some ⟨r, 0, none⟩)] w fun e w' => e = .returned (.tuple #[]) ∧ RdR w' r none ∧ w.grownBy w' (some r) := by
  have c0 : w.cell? ⟨r, 0, none⟩ = some (.string s) := h.cell 0
  have c1 : w.cell? ⟨r, 1, none⟩ = some (.bool b) := h.cell 1
  have f0 := h.frozen 0
  have f1 := h.frozen 1
  have H := Lib.hid h
  clear h
  go_enter Try.func76, Try.ntmps76
  go_wp2
  go_end0
  exact ⟨rfl, ⟨_, (H.out.set 0 _).set 1 _⟩, grownBy_trans (grownBy_set _ _ _ _) (grownBy_set _ _ _ _)⟩

def NumPostR (w : World) (r : Nat) (st : Wire.St) (e : Ending) (w' : World) : Prop := e = .returned (.int .u64 ((Wire.num st).1 : Int)) ∧ RdR w' r (Wire.num st).2 ∧ w.grownBy w' (some r)
theorem grownBy_drewN {a b : World} {row : Option Nat} (n : Nat) (h : (a.drewN n).grownBy b row) : a.grownBy b row := ⟨h.os, h.tape, h.output, h.size, h.block⟩
set_option maxHeartbeats 400000 in
theorem refNum_none (r : Nat) (w : World) (h : RdR w r none) : Calls Try.prog 73 #[.pointer (some ⟨r, 0, none⟩)] w (NumPostR w r none) := by
  obtain ⟨s, b⟩ := h
  have c1 : w.cell? ⟨r, 1, none⟩ = some (.bool true) := b.cell 1
  have HB := Lib.hid b
  clear b
  go_enter Try.func73, Try.ntmps73
  go_wp2_with fail
  go_quiet (fail)
  go_wp2_with fail
  refine (fail_any r s true _ (HB.out.drewN nq)).mono ?_
  rintro e w1 ⟨rfl, h1, h2⟩
  have H1 := Lib.hid h1
  have H2 := Lib.hid (grownBy_drewN nq h2)
  clear h1 h2
  go_wp2
  go_ret
  exact ⟨rfl, H1.out, H2.out⟩
set_option maxHeartbeats 400000 in
theorem refNum_nil (r : Nat) (w : World) (h : RdR w r (some [])) : Calls Try.prog 73 #[.pointer (some ⟨r, 0, none⟩)] w (NumPostR w r (some [])) := by
  have b := h.2
  have c0 : w.cell? ⟨r, 0, none⟩ = some (.string (strOf [])) := b.cell 0
  have c1 : w.cell? ⟨r, 1, none⟩ = some (.bool false) := b.cell 1
  have HB := Lib.hid b
  have hz : (((strOf []).size : Int) == 0) = true := by rw [size_strOf]; rfl
  clear b h
  go_enter Try.func73, Try.ntmps73
  go_wp2_with fail
  go_quiet (fail)
  go_wp2_with fail
  refine (fail_any r (strOf []) false _ (HB.out.drewN nq)).mono ?_
  rintro e w1 ⟨rfl, h1, h2⟩
  have H1 := Lib.hid h1
  have H2 := Lib.hid (grownBy_drewN nq h2)
  clear h1 h2
  go_wp2
  go_ret
  exact ⟨rfl, H1.out, H2.out⟩
theorem str_at (s : ByteArray) (l : List UInt8) (hs : s.data.toList = l) (j : Nat) (h : j < s.size) (hj : j < l.length) : s[j]'h = l[j] := by
  subst hs
  rfl
end Go.Proofs.Ytimgecflcackbaa
