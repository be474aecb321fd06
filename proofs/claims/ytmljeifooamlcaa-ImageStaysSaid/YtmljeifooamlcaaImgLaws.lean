/-
  IMAGES: the contracts at lists that are known; works.
-/
import Derived.Test.YtmljeifooamlcaaImgCheckR
import Derived.Test.YtmljeifooamlcaaImgDiff2
import Derived.Test.YtmljeifooamlcaaImgWith
namespace Go.Proofs.Ytmljeifooamlcaa
open Go.RowKit Reg

/-- a slice that has just been laid -/
theorem InI.lit (w : World) (zs : List Int) (cs : Array Value) (hc : cs = (zs.map (Value.int .i64)).toArray) (h1 : zs.length ≤ 1000) (hw : ∀ z ∈ zs, (Lit.int .i64 z).wf = true) :
    InI (w.alloc (.cells cs 3)) (.slice (some ⟨w.heap.size, 0, none⟩) zs.length zs.length) zs := by
  subst hc
  have := own_new w w.heap.size 3 (zs.map (Value.int .i64)).toArray 1 zs.length (by simp) (Nat.le_refl _) (by unfold maxLen; omega)
  exact ⟨.of_rd (Rd.of_own this), by unfold maxLen; omega, hw⟩
theorem InI.nil_ (w : World) : InI w (.slice none 0 0) [] := ⟨.inl ⟨_, _, rfl, rfl, rfl⟩, by simp, by simp⟩
theorem is_lit (v v' : Value) (zs zs' : List Int) (b : Bool) (w : World) (hv : InI w v zs) (hv' : InI w v' zs') (h : decide (zs = zs') = b) :
    Calls Try.prog 18 #[v, v'] w fun e w' => e = .returned (.bool b) ∧ Below w.heap.size w w' := h ▸ is_any v v' zs zs' w hv hv'
theorem ints_lit (v v' : Value) (zs zs' : List Int) (b : Bool) (w : World) (hv : InI w v zs) (hv' : InI w v' zs') (h : decide (zs = zs') = b) :
    Calls Try.prog 13 #[v, v'] w fun e w' => e = .returned (.bool b) ∧ Below w.heap.size w w' := h ▸ ints_any v v' zs zs' w hv hv'
theorem check_lit (v : Value) (zs : List Int) (blocks n r : Int) (w : World) (hv : InI w v zs) (h : chkOf zs blocks n = r) :
    Calls Try.prog 10 #[v, .int .i64 blocks, .int .i64 n] w fun e w' => e = .returned (.int .i64 r) ∧ Below w.heap.size w w' := h ▸ check_any v zs blocks n w hv
theorem diff_lit (v v' : Value) (zs zs' ds : List Int) (w : World) (hv : InI w v zs) (hv' : InI w v' zs') (h1 : zs.length ≤ 1000) (h1' : zs'.length ≤ 1000) (h : diffOf zs zs' = ds) :
    Calls Try.prog 14 #[v, v'] w fun e w' => ∃ u, e = .returned u ∧ OwI w' w.heap.size u ds ∧ Below w.heap.size w w' := h ▸ diff_any v v' zs zs' w hv hv' h1 h1'
theorem with_lit (v : Value) (zs ys : List Int) (b : Nat) (bi s : Int) (w : World) (hv : InI w v zs) (hb : b < zs.length) (hs : 0 ≤ s) (hw : (Lit.int .i64 s).wf = true) (h1 : zs.length ≤ 1000) (hbi : bi = (b : Int)) (h : zs.set b s = ys) :
    Calls Try.prog 16 #[v, .int .i64 bi, .int .i64 s] w fun e w' => ∃ u, e = .returned (.tuple #[u, .int .i64 0]) ∧ OwI w' w.heap.size u ys ∧ Below w.heap.size w w' := by
  subst hbi
  exact h ▸ with_ok v zs b s w hv hb hs hw h1

set_option maxRecDepth 100000 in
theorem works_any (w : World) : Calls Try.prog 12 #[] w fun e w' => e = .returned (.bool true) ∧ Below w.heap.size w w' := by
  go_enter Try.func12, Try.ntmps12
  go_wp2_with fail
  refine (with_lit _ [0, 200] [201, 200] 0 _ _ _ (InI.lit w [0, 200] _ rfl (by decide) (by decide)) (by decide) (by decide) (by decide) (by decide) rfl rfl).mono ?_
  rintro e w1 ⟨u, rfl, ho, hb⟩
  have HB := Lib.hid (((Below.refl w.heap.size w).alloc (Nat.le_refl _) _).trans (hb.mono (by simp)))
  have HL := Lib.hid ho.rd
  clear ho hb
  go_wp2_with fail
  refine (is_lit _ _ [201, 200] [201, 200] true _ (HL.out.keep ((Below.refl _ _).alloc (Nat.le_refl _) _)) (InI.lit w1 [201, 200] _ rfl (by decide) (by decide)) (by decide)).mono ?_
  rintro e w2 ⟨rfl, hb⟩
  have hb2 := ((Below.refl w1.heap.size w1).alloc (Nat.le_refl _) (Obj.cells #[Value.int .i64 201, .int .i64 200] 3)).trans (hb.mono (by simp))
  have HB2 := Lib.hid (HB.out.trans (hb2.mono HB.out.size))
  have HL2 := Lib.hid (HL.out.keep hb2)
  clear hb hb2 HB HL
  go_wp2_with fail
  refine (diff_lit _ _ [201, 200] [0, 200] [0] _ (HL2.out.keep ((Below.refl _ _).alloc (Nat.le_refl _) _)) (InI.lit w2 [0, 200] _ rfl (by decide) (by decide)) (by decide) (by decide) (by decide)).mono ?_
  rintro e w3 ⟨d, rfl, ho, hb⟩
  have hb2 := ((Below.refl w2.heap.size w2).alloc (Nat.le_refl _) (Obj.cells #[Value.int .i64 0, .int .i64 200] 3)).trans (hb.mono (by simp))
  have HB3 := Lib.hid (HB2.out.trans (hb2.mono HB2.out.size))
  have HL3 := Lib.hid (HL2.out.keep hb2)
  have HD := Lib.hid ho.rd
  clear hb hb2 HB2 HL2 ho
  go_wp2_with fail
  refine (is_lit _ _ [0] [0] true _ (HD.out.keep ((Below.refl _ _).alloc (Nat.le_refl _) _)) (InI.lit w3 [0] _ rfl (by decide) (by decide)) (by decide)).mono ?_
  rintro e w4 ⟨rfl, hb⟩
  have hb2 := ((Below.refl w3.heap.size w3).alloc (Nat.le_refl _) (Obj.cells #[Value.int .i64 0] 3)).trans (hb.mono (by simp))
  have HB4 := Lib.hid (HB3.out.trans (hb2.mono HB3.out.size))
  have HL4 := Lib.hid (HL3.out.keep hb2)
  clear hb hb2 HB3 HL3 HD
  go_wp2_with fail
  refine (check_lit _ [201, 200] _ _ 0 _ HL4.out (by decide)).mono ?_
  rintro e w5 ⟨rfl, hb⟩
  have HB5 := Lib.hid (HB4.out.trans (hb.mono HB4.out.size))
  have HL5 := Lib.hid (HL4.out.keep hb)
  clear hb HB4 HL4
  go_wp2_with fail
  refine (check_lit _ [201, 200] _ _ 2 _ HL5.out (by decide)).mono ?_
  rintro e w6 ⟨rfl, hb⟩
  have HB6 := Lib.hid (HB5.out.trans (hb.mono HB5.out.size))
  clear hb HB5 HL5
  go_wp2
  go_ret
  exact ⟨rfl, HB6.out⟩
end Go.Proofs.Ytmljeifooamlcaa
