/-
  MESSAGES: yes, stamp and guid, laying or reading (printed by wip/gen-msgc.py).
-/
import Derived.Test.YtikimmhkfjaijaaMsB
namespace Go.Proofs.Ytikimmhkfjaijaa
open Go.RowKit Reg Go.ChangeShapes

def b01 (b : Bool) : Nat := if b = true then 1 else 0
/-- a yes or no, as it is laid or read -/
def yesF (S : Sf) (b : Bool) : Sf × Bool := (⟨(intF S (b01 b : Nat)).1.m, (intF S (b01 b : Nat)).1.bad || decide (1 < (intF S (b01 b : Nat)).2)⟩, (intF S (b01 b : Nat)).2 == 1)
theorem intF_near (S : Sf) (n : Int) : (intF S n).1.m.near = S.m.near := numF_near _ _
/-- what follows a call that turns a block of the call's own, then a store into fields' bad, then one where it was asked -/
theorem bad_then {w w2 w3 : World} {fb mb p o x : Nat} {S S' : Sf} {u v : Value} (h2 : Below w.heap.size w w2) (hx : w.heap.size ≤ x) (h3 : Kp (Zf fb S.m) (w2.setCell ⟨x, 0, none⟩ u) w3) (hf : Fd w3 fb mb S') (hp : PtOk w fb S.m p o) (hn : S'.m.near = S.m.near) (hfn : ¬ S.m.near fb) (b : Bool) :
    Kp (Zf fb S.m) (w.setCell ⟨p, o, none⟩ v) ((w3.setCell ⟨fb, 3, none⟩ (.bool b)).setCell ⟨p, o, none⟩ v) ∧ Fd ((w3.setCell ⟨fb, 3, none⟩ (.bool b)).setCell ⟨p, o, none⟩ v) fb mb ⟨S'.m, b⟩ := by
  have hk : Kp (Zf fb S.m) w w3 := ((Kp.of_below h2).fresh (p := ⟨x, 0, none⟩) hx _).trans h3
  refine ⟨(hk.set (A := Zf fb S.m) (p := ⟨fb, 3, none⟩) (.inl rfl) _).both _ _, ?_⟩
  obtain ⟨g1, g2, g3⟩ := hf
  refine ⟨((g1.set 3 _).far (by exact hp.ne.symm) _), ?_, g3⟩
  refine Md.ok_kp (A := fun b => b = p) (Md.ok_kp (A := fun b => b = fb) g2 (Kp.at _ _ _) (fun b hb e => ?_)) (Kp.at _ _ _) (fun b hb e => ?_)
  · rw [hn] at hb
    exact hfn (e ▸ hb)
  · have hb : S'.m.near b := hb
    rw [hn] at hb
    exact hp.far (e ▸ hb)
theorem fyes_any (w : World) (fb mb : Nat) (S : Sf) (p o : Nat) (b : Bool) (hF : Fd w fb mb S) (hc : w.cell? ⟨p, o, none⟩ = some (.bool b)) (hp : PtOk w fb S.m p o) (hfz : w.frozen? ⟨p, o, none⟩ = false) (hsz : S.m.sz ≤ 900000) :
    Calls Try.prog 54 #[.pointer (some ⟨fb, 0, none⟩), .pointer (some ⟨p, o, none⟩)] w fun e w' =>
      e = .returned (.tuple #[]) ∧ Kp (Zf fb S.m) (w.setCell ⟨p, o, none⟩ (.bool (yesF S b).2)) w' ∧ Fd w' fb mb (yesF S b).1 := by
  obtain ⟨R, hR⟩ : ∃ R : World → Prop, R = fun w' => Kp (Zf fb S.m) (w.setCell ⟨p, o, none⟩ (.bool (yesF S b).2)) w' ∧ Fd w' fb mb (yesF S b).1 := ⟨_, rfl⟩
  have hgoal : (fun (e : Ending) (w' : World) => e = .returned (.tuple #[]) ∧ Kp (Zf fb S.m) (w.setCell ⟨p, o, none⟩ (.bool (yesF S b).2)) w' ∧ Fd w' fb mb (yesF S b).1) = fun e w' => e = .returned (.tuple #[]) ∧ R w' := by rw [hR]
  rw [hgoal]
  have hlt : p < w.heap.size := World.block_lt_of_cell? w _ hc
  have hne := hp.ne
  have hlf := hF.lt
  -- behind ints
  have HFIN : Hid (∀ w2, Below w.heap.size w w2 → Blk w2 w.heap.size 3 #[.int .i64 ((b01 b : Nat) : Int)] → w2.heap.size = w.heap.size + 1 →
      Calls Try.prog 22 #[.pointer (some ⟨fb, 0, none⟩), .slice (some ⟨w.heap.size + 1, 0, none⟩) 1 1] (w2.alloc (.cells #[.pointer (some ⟨w.heap.size, 0, none⟩)] 70)) fun e w3 =>
        e = .returned (.tuple #[]) ∧ Blk w3 w.heap.size 3 #[.int .i64 (intF S (b01 b : Nat)).2] ∧ w3.cell? ⟨p, o, none⟩ = some (.bool b) ∧ w3.frozen? ⟨p, o, none⟩ = false ∧ w3.cell? ⟨fb, 3, none⟩ = some (.bool (intF S (b01 b : Nat)).1.bad) ∧ w3.frozen? ⟨fb, 3, none⟩ = false ∧
        R ((w3.setCell ⟨fb, 3, none⟩ (.bool ((intF S (b01 b : Nat)).1.bad || decide (1 < (intF S (b01 b : Nat)).2)))).setCell ⟨p, o, none⟩ (.bool ((intF S (b01 b : Nat)).2 == 1)))) := Lib.hid fun w2 h2 hx2 hs2 => by
    have hF2 := hF.keep h2
    have hb1 : b01 b ≤ 8192 := by unfold b01; split <;> omega
    rw [← hs2]
    refine (fints_any w2 fb mb S w.heap.size 0 (b01 b) hF2 (by rw [hx2.cell]; rfl) hb1 (pt_of hx2 (Nat.ne_of_gt hlf) (fun h => Nat.lt_irrefl _ (hF.near_lt h))) (hx2.frozen 0) hsz).mono ?_
    rintro e w3 ⟨rfl, h3, hf3⟩
    have hzx : ¬ Zf fb S.m w.heap.size := fun h => Nat.lt_irrefl _ (Zf_lt hF h)
    have hz := hp.nz
    refine ⟨rfl, blk_after h3 hx2 hzx, cells_other h3 hz (cell_later h2 hc) (.inl (Nat.ne_of_gt hlt)), ?_, by rw [hf3.1.cell]; rfl, hf3.1.frozen 3, ?_⟩
    · rw [frozen_after h3 hz (Nat.lt_of_lt_of_le hlt h2.size)]
      exact (World.frozen?_of_block (a := ⟨p, o, none⟩) (h2.block p hlt)).trans hfz
    · rw [hR]
      exact bad_then h2 (Nat.le_refl _) h3 hf3 hp (intF_near _ _) hF.2.2 _
  have hne2 : p ≠ w.heap.size := Nat.ne_of_lt hlt
  have HB1 := Lib.hid ((Below.refl w.heap.size w).alloc (Nat.le_refl _) (Obj.cells #[.int .i64 0] 3))
  have HB2 := Lib.hid ((Below.refl w.heap.size w).alloc (Nat.le_refl _) (Obj.cells #[.int .i64 1] 3))
  have HX1 := Lib.hid (Blk.new w 3 #[.int .i64 0])
  have HX2 := Lib.hid (Blk.new w 3 #[.int .i64 1])
  have hc2 := cell_later HB1.out hc
  clear hF hp hfz hsz hlt hlf hgoal hR
  generalize hq : (intF S (b01 b : Nat)).2 = q at *
  generalize hsb : (intF S (b01 b : Nat)).1.bad = sb at *
  clear hq hsb
  cases b with
  | true =>
    have HC := Lib.hid (HFIN.out _ HB2.out HX2.out (by simp))
    clear HFIN
    go_enter Try.func54, Try.ntmps54
    go_wp2_with fail
    refine HC.out.mono ?_
    rintro e w3 ⟨rfl, x3, y3, f3, b3, b3f, hr⟩
    have HR := Lib.hid hr
    have x3 := x3.cell 0
    simp at x3
    clear hr hc hc2
    cases sb with
    | true =>
      have HR2 : Hid (R ((w3.setCell ⟨fb, 3, none⟩ (.bool true)).setCell ⟨p, o, none⟩ (.bool (q == 1)))) := HR
      clear HR
      go_wp2
      refine bodyPost_end (results_none rfl _ _ _) rfl ?_
      exact ⟨rfl, HR2.out⟩
    | false =>
      by_cases hq8 : 1 < q
      · have HR2 : Hid (R ((w3.setCell ⟨fb, 3, none⟩ (.bool true)).setCell ⟨p, o, none⟩ (.bool (q == 1)))) := by
          rw [decide_eq_true hq8] at HR
          exact HR
        clear HR
        go_wp2
        refine bodyPost_end (results_none rfl _ _ _) rfl ?_
        exact ⟨rfl, HR2.out⟩
      · have HR2 : Hid (R ((w3.setCell ⟨fb, 3, none⟩ (.bool false)).setCell ⟨p, o, none⟩ (.bool (q == 1)))) := by
          rw [decide_eq_false hq8] at HR
          exact HR
        have e8 : decide (1 < q) = false := decide_eq_false hq8
        clear HR hq8
        go_wp2
        refine bodyPost_end (results_none rfl _ _ _) rfl ?_
        exact ⟨rfl, HR2.out⟩
  | false =>
    have HC := Lib.hid (HFIN.out _ HB1.out HX1.out (by simp))
    clear HFIN
    go_enter Try.func54, Try.ntmps54
    go_wp2_with fail
    refine HC.out.mono ?_
    rintro e w3 ⟨rfl, x3, y3, f3, b3, b3f, hr⟩
    have HR := Lib.hid hr
    have x3 := x3.cell 0
    simp at x3
    clear hr hc hc2
    cases sb with
    | true =>
      have HR2 : Hid (R ((w3.setCell ⟨fb, 3, none⟩ (.bool true)).setCell ⟨p, o, none⟩ (.bool (q == 1)))) := HR
      clear HR
      go_wp2
      refine bodyPost_end (results_none rfl _ _ _) rfl ?_
      exact ⟨rfl, HR2.out⟩
    | false =>
      by_cases hq8 : 1 < q
      · have HR2 : Hid (R ((w3.setCell ⟨fb, 3, none⟩ (.bool true)).setCell ⟨p, o, none⟩ (.bool (q == 1)))) := by
          rw [decide_eq_true hq8] at HR
          exact HR
        clear HR
        go_wp2
        refine bodyPost_end (results_none rfl _ _ _) rfl ?_
        exact ⟨rfl, HR2.out⟩
      · have HR2 : Hid (R ((w3.setCell ⟨fb, 3, none⟩ (.bool false)).setCell ⟨p, o, none⟩ (.bool (q == 1)))) := by
          rw [decide_eq_false hq8] at HR
          exact HR
        have e8 : decide (1 < q) = false := decide_eq_false hq8
        clear HR hq8
        go_wp2
        refine bodyPost_end (results_none rfl _ _ _) rfl ?_
        exact ⟨rfl, HR2.out⟩
end Go.Proofs.Ytikimmhkfjaijaa
