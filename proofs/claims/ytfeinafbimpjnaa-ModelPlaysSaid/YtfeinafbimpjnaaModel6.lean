/-
  A MODEL: is an image as it should be; works.
-/
import Derived.Test.YtfeinafbimpjnaaModelImg
namespace Go.Proofs.Ytfeinafbimpjnaa
open Go.RowKit Reg Go.WideShapes Go.ChangeShapes

def cN (b : UInt8) : Int := if (b.toNat : Int) = 48 then 0 else (b.toNat : Int)
set_option maxRecDepth 100000 in
theorem is_true (l : ByteArray) (w : World) (bm bl bi : Nat) (S : Mdl) (g : Gd) (h : Md w bm bl bi S) (hg : wfG g) (hl : l.size ≤ 8) (hs : (S.img g).isSome = true) (hlen : (S.image g).length = l.size)
    (hall : ∀ k (h : k < l.size), (S.image g).getD k ByteArray.empty = letS (cN l[k]) false) :
    Calls Try.prog 25 #[.pointer (some ⟨bm, 0, none⟩), aggG g, .string l] w fun e w' => e = .returned (.bool true) ∧ Below w.heap.size w w' := by
  have hb0 := (Below.refl w.heap.size w).alloc (Nat.le_refl _) (Obj.cells #[.int .u64 g.1, .int .u64 g.2] 34)
  have him := image_any (w.alloc (Obj.cells #[.int .u64 g.1, .int .u64 g.2] 34)) bm bl bi S g (h.keep hb0) hg
  rw [hs] at him
  generalize S.image g = im at *
  unfold aggG at him ⊢
  have HIM := Lib.hid him
  have HB := Lib.hid hb0
  have HLEN := Lib.hid hlen
  have HALL := Lib.hid hall
  clear him hb0 hlen hall h hg hs
  obtain ⟨a, b⟩ := g
  simp only at HIM HB ⊢
  have hlm : l.size ≤ 9223372036854775807 := by omega
  have HL8 := Lib.hid hl
  clear hl
  go_enter Try.func25, Try.ntmps25
  go_wp2_with fail
  generalize w.alloc (Obj.cells #[.int .u64 a, .int .u64 b] 34) = w1 at *
  refine HIM.out.mono ?_
  rintro e w2 ⟨u, rfl, ho, hb⟩
  have hin := ho.rd
  obtain ⟨ua, uc, rfl, -, hcell⟩ := hin.open_
  have HB := Lib.hid (HB.out.trans (hb.mono HB.out.size))
  have HC := Lib.hid hcell
  have e1 := HLEN.out
  have e2 : ((im.length : Nat) : Int) = (l.size : Int) := by rw [e1]
  rw [e1]
  clear ho hb hin hcell e1 e2 HIM
  go_wp2_with fail
  go_loopw [9] (fun i wr => ∃ k : Nat, k ≤ l.size ∧ i = .int .i64 k ∧ Below w2.heap.size w2 wr) (fun i _ => l.size - (intOf i).toNat)
  case atStart => exact ⟨0, Nat.zero_le _, rfl, Below.refl _ _⟩
  case round =>
    obtain ⟨k, hk, rfl, hb⟩ := hrel
    have HBW := Lib.hid hb
    clear hb
    by_cases hlt : k < l.size
    · obtain ⟨gu, off, rfl, hc⟩ := HC.out k (by rw [HLEN.out]; exact hlt)
      rw [HALL.out k hlt] at hc
      have hc1 := cell_later HBW.out hc
      have HLT := Lib.hid hlt
      have hk2 : (k : Int) < (l.size : Int) := by omega
      have e0 : ∀ q : Bw wr, q.w.cell? ⟨gu, off + k, none⟩ = some (.string (letS (cN l[k]) false)) := fun q => q.cell hc1
      have hlet := fun (q : Bw wr) => letters_any (cN l[k]) false q.w
      have HLET := Lib.hid hlet
      have HE0 := Lib.hid e0
      clear hc hc1 hlet hk e0
      cases h48 : ((l[k].toNat : Int) == 48)
      rotate_left
      · have hz : cN l[k] = 0 := by unfold cN; rw [if_pos (by simpa using h48)]
        rw [hz] at HE0 HLET
        clear hz
        go_wp2_with fail
        have e0 := HE0.out
        refine wp_region_below (by kernel_rfl) (by kernel_rfl) ?_
        repeat (go_big_quiet_step (first | (go_at_call 13; exact below_call (HLET.out _))))
        refine wpQuiet_nil ?_
        intro w7 hb7
        have HB7 := Lib.hid (HBW.out.trans (hb7.mono HBW.out.size))
        clear hb7 e0 HLET
        have hk9 : (k : Int) < 9223372036854775807 := by have := HL8.out; have := HLT.out; omega
        go_wp2
        have hlt := HLT.out
        refine ⟨⟨k + 1, by omega, by go_num, HB7.out⟩, by simp [intOf]; omega⟩
      · have hz : cN l[k] = (l[k].toNat : Int) := by unfold cN; rw [if_neg (by simpa using h48)]
        rw [hz] at HE0 HLET
        clear hz
        go_wp2_with fail
        have e0 := HE0.out
        refine wp_region_below (by kernel_rfl) (by kernel_rfl) ?_
        repeat (go_big_quiet_step (first | (go_at_call 13; exact below_call (HLET.out _))))
        refine wpQuiet_nil ?_
        intro w7 hb7
        have HB7 := Lib.hid (HBW.out.trans (hb7.mono HBW.out.size))
        clear hb7 e0 HLET
        have hk9 : (k : Int) < 9223372036854775807 := by have := HL8.out; have := HLT.out; omega
        go_wp2
        have hlt := HLT.out
        refine ⟨⟨k + 1, by omega, by go_num, HB7.out⟩, by simp [intOf]; omega⟩
    · obtain rfl : k = l.size := by omega
      have HB2 := Lib.hid (HB.out.trans (HBW.out.mono HB.out.size))
      clear hlt hk
      go_wp2
      go_ret
      exact ⟨rfl, HB2.out⟩
end Go.Proofs.Ytfeinafbimpjnaa
