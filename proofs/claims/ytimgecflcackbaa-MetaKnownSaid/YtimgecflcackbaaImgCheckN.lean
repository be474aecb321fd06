/-
  WHETHER AN IMAGE MAY BE, the program's way and the reference's.
-/
import Derived.Test.YtimgecflcackbaaImgWalksN
import Derived.Maps.OwnOps
import Derived.Maps.Views
import Derived.Maps.OwnSet
namespace Go.Proofs.Ytimgecflcackbaa
open Go.RowKit Reg Go.Maps

/-! ### plain -/
def badPl (n z : Int) : Bool := z != 0 && (decide (z < 193) || decide (n ≤ z))
def badTo (Z : Nat → Int) (n : Int) (k : Nat) : Bool := (List.range k).any fun i => badPl n (Z i)
def dupAt (Z : Nat → Int) (k : Nat) : Bool := Z k != 0 && (List.range k).any fun j => Z j == Z k
def dupTo (Z : Nat → Int) (k : Nat) : Bool := (List.range k).any fun i => dupAt Z i
def chkZ (Z : Nat → Int) (len : Nat) (blocks n : Int) : Int :=
  if blocks < 1 ∨ 8 < blocks ∨ ¬ (len : Int) = blocks then 2 else if badTo Z n len = true then 2 else if dupTo Z len = true then 16 else 0
def chkOf (zs : List Int) (blocks n : Int) : Int := chkZ (fun j => zs.getD j 0) zs.length blocks n
theorem badTo_step (Z : Nat → Int) (n : Int) (k : Nat) : badTo Z n (k + 1) = (badTo Z n k || badPl n (Z k)) := by
  unfold badTo
  rw [List.range_succ, List.any_append]
  simp
theorem dupTo_step (Z : Nat → Int) (k : Nat) : dupTo Z (k + 1) = (dupTo Z k || dupAt Z k) := by
  unfold dupTo
  rw [List.range_succ, List.any_append]
  simp
theorem badTo_of {Z : Nat → Int} {n : Int} {k m : Nat} (h : badPl n (Z k) = true) (hk : k < m) : badTo Z n m = true := by
  unfold badTo
  rw [List.any_eq_true]
  exact ⟨k, List.mem_range.2 hk, h⟩
theorem dupTo_of {Z : Nat → Int} {k m : Nat} (h : dupAt Z k = true) (hk : k < m) : dupTo Z m = true := by
  unfold dupTo
  rw [List.any_eq_true]
  exact ⟨k, List.mem_range.2 hk, h⟩
theorem chk_off (zs : List Int) (blocks n : Int) (h : blocks < 1 ∨ 8 < blocks ∨ ¬ (zs.length : Int) = blocks) : chkOf zs blocks n = 2 := if_pos h

/-- the set of places that have been seen -/
def SeenIs (D : DataW Unit) (Z : Nat → Int) (k : Nat) : Prop :=
  ∀ z : Int, D.atKey (.int .i64 z) (.lit (.int .i64 0)) = .lit (.int .i64 (if z != 0 && (List.range k).any fun j => Z j == z then 1 else 0))
theorem SeenIs.start (Z : Nat → Int) : SeenIs (.map []) Z 0 := fun z => by simp; rfl
theorem SeenIs.skip {D : DataW Unit} {Z : Nat → Int} {k : Nat} (h : SeenIs D Z k) (h0 : Z k = 0) : SeenIs D Z (k + 1) := by
  intro z
  rw [h z]
  congr 3
  rw [List.range_succ, List.any_append]
  by_cases hz : z = 0
  · simp [hz]
  · simp [hz, h0]
    intro h; exact absurd h.symm hz
theorem SeenIs.put {D : DataW Unit} {Z : Nat → Int} {k : Nat} (h : SeenIs D Z k) (hD : IsMap D) (hw : WideAt.IsKeyLit (.int .i64 (Z k))) (h0 : ¬ Z k = 0) : SeenIs (D.put (.int .i64 (Z k)) (.lit (.int .i64 1))) Z (k + 1) := by
  intro z
  by_cases hz : z = Z k
  · subst hz
    rw [atKey_put_same hD hw]
    rw [List.range_succ, List.any_append]
    simp [h0]
  · rw [atKey_put_other (by intro e; cases e; exact hz rfl), h z]
    congr 3
    rw [List.range_succ, List.any_append]
    simp [Ne.symm hz]
theorem keyI : Keyed Try.prog 3 := int_keyed Try.underlying3
theorem zeroI (w : World) : (zeroValue 3).run Try.prog w = .ok (.int .i64 0) w := by kernel_rfl

set_option maxRecDepth 100000 in
set_option maxHeartbeats 1000000 in
theorem check_any (v : Value) (zs : List Int) (blocks n : Int) (w : World) (hv : InI w v zs) :
    Calls Try.prog 40 #[v, .int .i64 blocks, .int .i64 n] w fun e w' => e = .returned (.int .i64 (chkOf zs blocks n)) ∧ Below w.heap.size w w' := by
  obtain ⟨a, c, rfl, -, hx⟩ := hv.open_
  by_cases hoff : blocks < 1 ∨ 8 < blocks ∨ ¬ (zs.length : Int) = blocks
  · rw [chk_off _ _ _ hoff]
    have hs : blocks < 1 ∨ (1 ≤ blocks ∧ 8 < blocks) ∨ (1 ≤ blocks ∧ blocks ≤ 8 ∧ ((zs.length : Int) != blocks) = true) := by
      rw [bne_iff_ne]; omega
    clear hv hx hoff
    generalize zs.length = m at *
    rcases hs with i1 | ⟨i1, i2⟩ | ⟨i1, i2, i3⟩
    all_goals
      go_enter Try.func40, Try.ntmps40
      go_wp2
      go_ret
      exact ⟨rfl, Below.refl _ _⟩
  · obtain rfl : (zs.length : Int) = blocks := by omega
    have h8 : zs.length ≤ 8 := by omega
    have h1 : 1 ≤ zs.length := by omega
    unfold chkOf
    have hwz := hv.wf
    generalize hZ : (fun j => zs.getD j 0) = Z at *
    have hg : ∀ k, zs.getD k 0 = Z k := fun k => by subst hZ; rfl
    simp only [hg] at hx hwz
    clear hv hZ hg
    generalize zs.length = m at *
    have hres : ∀ r, r = (if badTo Z n m = true then 2 else if dupTo Z m = true then 16 else 0) → chkZ Z m (m : Int) n = r := by
      rintro r rfl
      unfold chkZ
      rw [if_neg (by omega)]
    generalize chkZ Z m (m : Int) n = res at *
    have HR := Lib.hid hres
    have HX := Lib.hid hx
    have HW := Lib.hid hwz
    have i1 : (1 : Int) ≤ (m : Int) := by omega
    have i2 : (m : Int) ≤ (8 : Int) := by omega
    clear hres hx hwz h8 h1 hoff
    have d1 : decide ((m : Int) < 1) = false := by simp; omega
    have d2 : decide ((8 : Int) < (m : Int)) = false := by simp; omega
    have d3 : decide (8 < m) = false := by simp; omega
    have hmm := @run_makeMap Try.prog
    go_enter Try.func40, Try.ntmps40
    go_wp2_with fail
    go_loopw [8, 26] (fun t i wr => ∃ (k : Nat) (D : DataW Unit), k ≤ m ∧ badTo Z n k = false ∧ t = .bool (dupTo Z k) ∧ i = .int .i64 k ∧ wr.ownsMap Try.prog 3 (plainElem Try.prog 3) w.heap.size k D ∧ SeenIs D Z k ∧ Below w.heap.size w wr)
      (fun _ i _ => m - (intOf i).toNat)
    case atStart => exact ⟨0, .map [], Nat.zero_le _, rfl, rfl, rfl, World.ownsMap_made _ _ _ _, SeenIs.start Z, (Below.refl _ _).alloc (Nat.le_refl _) _⟩
    case round =>
      obtain ⟨k, D, hk, hbad, rfl, rfl, hown, hseen, hb⟩ := hrel
      have HB := Lib.hid hb
      have HBAD := Lib.hid hbad
      have HOWN := Lib.hid hown
      have HSEEN := Lib.hid hseen
      clear hb hbad hown hseen
      by_cases hkm : k < m
      · obtain ⟨g, off, rfl, hc⟩ := HX.out k hkm
        have hc1 := cell_later HB.out hc
        have i3 : (k : Int) < (m : Int) := by omega
        clear hc
        have hd := dupTo_step Z k
        have hbs := badTo_step Z n k
        rw [HBAD.out, Bool.false_or] at hbs
        have HKM := Lib.hid hkm
        by_cases hz : Z k = 0
        · have e1 : dupTo Z (k + 1) = dupTo Z k := by rw [hd]; simp [dupAt, hz]
          have e2 : badTo Z n (k + 1) = false := by rw [hbs]; simp [badPl, hz]
          have hs := HSEEN.out.skip hz
          have E1 := Lib.hid e1
          have E2 := Lib.hid e2
          have HS := Lib.hid hs
          clear hd hbs e1 e2 hs hkm
          generalize dupTo Z k = tw at *
          go_wp2
          refine ⟨⟨k + 1, D, by omega, E2.out, by rw [E1.out], by go_num, HOWN.out.mono (Nat.le_succ _), HS.out, HB.out⟩, by simp [intOf]; omega⟩
        · cases hbp : badPl n (Z k) with
          | true =>
            have hr : res = 2 := HR.out 2 (by rw [if_pos (badTo_of hbp hkm)])
            have HRR := Lib.hid hr
            simp only [badPl, Bool.and_eq_true, bne_iff_ne, Bool.or_eq_true, decide_eq_true_eq] at hbp
            obtain ⟨-, hbp⟩ := hbp
            have hbq : Z k < 193 ∨ (193 ≤ Z k ∧ n ≤ Z k) := by omega
            clear hr hd hbs hbp hkm
            generalize dupTo Z k = tw at *
            rcases hbq with j1 | ⟨j1, j2⟩
            all_goals
              go_wp2
              go_ret
              exact ⟨by rw [HRR.out]; rfl, HB.out⟩
          | false =>
            have hw := HW.out k
            have hkey : keyOf Try.prog 3 (.int .i64 (Z k)) = some (.int .i64 (Z k)) := keyOf_int_mk Try.underlying3 hw
            have hs := fun hD => HSEEN.out.put hD trivial hz
            have hat := HSEEN.out (Z k)
            have e3 : (Z k != 0 && (List.range k).any fun j => Z j == Z k) = dupAt Z k := rfl
            rw [e3] at hat
            rw [hbp] at hbs
            have HS := Lib.hid hs
            have HAT := Lib.hid hat
            have HBS := Lib.hid hbs
            have HD := Lib.hid hd
            have HKEY := Lib.hid hkey
            simp only [badPl, Bool.and_eq_false_iff, bne_eq_false_iff_eq, Bool.or_eq_false_iff, decide_eq_false_iff_not] at hbp
            have hbq : 193 ≤ Z k ∧ Z k < n := by omega
            obtain ⟨j1, j2⟩ := hbq
            clear hs hat e3 hbs hd hw hbp hkm hkey
            generalize dupTo Z k = tw at *
            have hmap := HOWN.out.isMap
            have HMAP := Lib.hid hmap
            clear hmap
            cases tw with
            | true =>
              go_wp2_with (at_mapUpdate; refine wpList_mapUpdate_own _ rfl _ _ _ 84 rfl 3 3 keyI Try.underlying84 _ w.heap.size k _ rfl HOWN.out (by unfold maxLen; omega) _ _ _ rfl rfl HKEY.out _ [] (plainElem_int Try.underlying3 (by decide)) ?_)
              intro w1 hown1 hgrow1
              have HOWN1 := Lib.hid hown1
              have HB1 := Lib.hid (HB.out.grown hgrow1 HB.out.size (fun j hj => by cases hj; exact Nat.le_refl _))
              clear hown1 hgrow1
              go_wp2
              refine ⟨⟨k + 1, _, by omega, HBS.out, by rw [HD.out]; rfl, by go_num, HOWN1.out, HS.out HMAP.out, HB1.out⟩, by simp [intOf]; omega⟩
            | false =>
              obtain ⟨c, hrun, hat2, -⟩ := HOWN.out.lookup_int keyI Try.underlying84 Try.underlying3 (zeroI _) HKEY.out
              rw [HAT.out] at hat2
              have hc2 : c = if dupAt Z k = true then 1 else 0 := by
                simp only [DataW.lit.injEq, Lit.int.injEq, true_and] at hat2
                exact hat2.symm
              rw [hc2] at hrun
              clear hat2 hc2 HAT
              generalize dupAt Z k = da at *
              cases da
              all_goals
                simp only [if_true, if_false, Bool.false_eq_true] at hrun
                go_wp2_with (at_mapUpdate; refine wpList_mapUpdate_own _ rfl _ _ _ 84 rfl 3 3 keyI Try.underlying84 _ w.heap.size k _ rfl HOWN.out (by unfold maxLen; omega) _ _ _ rfl rfl HKEY.out _ [] (plainElem_int Try.underlying3 (by decide)) ?_)
                intro w1 hown1 hgrow1
                have HOWN1 := Lib.hid hown1
                have HB1 := Lib.hid (HB.out.grown hgrow1 HB.out.size (fun j hj => by cases hj; exact Nat.le_refl _))
                clear hown1 hgrow1 hrun
                go_wp2
                refine ⟨⟨k + 1, _, by omega, HBS.out, by rw [HD.out]; rfl, by go_num, HOWN1.out, HS.out HMAP.out, HB1.out⟩, by simp [intOf]; omega⟩
      · obtain rfl : k = m := by omega
        have hr := HR.out
        rw [HBAD.out] at hr
        cases hd : dupTo Z k
        all_goals
          rw [hd] at hr
          have hr2 := hr _ rfl
          have HRR := Lib.hid hr2
          clear hr hr2 hd
          go_wp2
          go_ret
          exact ⟨by rw [HRR.out]; rfl, HB.out⟩
end Go.Proofs.Ytimgecflcackbaa
