/-
  META: the reference's Above and Size; the plain table.
-/
import Derived.Test.YtimgecflcackbaaMetA
namespace Go.Proofs.Ytimgecflcackbaa
open Go.RowKit Reg

set_option maxRecDepth 100000 in
theorem aboveR_any (g l : Gd) (w : World) : Calls Try.prog 44 #[aggG g, aggG l] w fun e w' => e = .returned (.bool (upG l g)) ∧ Below w.heap.size w w' := by
  obtain ⟨ge, gc⟩ := g
  obtain ⟨le, lc⟩ := l
  have hup : upG (le, lc) (ge, gc) = decide (le < ge ∨ (le = ge ∧ lc < gc)) := rfl
  generalize upG (le, lc) (ge, gc) = up at *
  have HUP := Lib.hid hup
  unfold aggG
  have HB := Lib.hid (((Below.refl w.heap.size w).alloc (Nat.le_refl _) (Obj.cells #[.int .u64 ge, .int .u64 gc] 26)).alloc (by simp) (Obj.cells #[.int .u64 le, .int .u64 lc] 26))
  clear hup
  by_cases h1 : le < ge
  · have HR := Lib.hid (show up = true by rw [HUP.out]; simp [h1])
    go_enter Try.func44, Try.ntmps44
    go_wp2
    go_ret
    exact ⟨by rw [HR.out]; rfl, HB.out⟩
  · by_cases h2 : le = ge
    · subst h2
      by_cases h3 : lc < gc
      · have HR := Lib.hid (show up = true by rw [HUP.out]; simp [h3])
        go_enter Try.func44, Try.ntmps44
        go_wp2
        go_ret
        exact ⟨by rw [HR.out]; rfl, HB.out⟩
      · have HR := Lib.hid (show up = false by rw [HUP.out]; simp [h3])
        have h3' : gc ≤ lc := by omega
        go_enter Try.func44, Try.ntmps44
        go_wp2
        go_ret
        exact ⟨by rw [HR.out]; rfl, HB.out⟩
    · have HR := Lib.hid (show up = decide (le < ge) by rw [HUP.out]; simp [h2])
      have h1' : ge ≤ le := by omega
      have h2' : (ge == le) = false := by simp; omega
      clear h1 h2
      go_enter Try.func44, Try.ntmps44
      go_wp2
      go_ret
      exact ⟨by rw [HR.out]; rfl, HB.out⟩
theorem ordG_pos (g l : Gd) : decide (ordG g l ≤ 0) = !upG l g := or2_le l g
set_option maxRecDepth 100000 in
theorem sizeR_any (s : ByteArray) (w : World) (hs : s.size ≤ 1152921504606846976) : Calls Try.prog 52 #[.string s] w fun e w' => e = .returned (.int .i64 ((sizeS s.size : Nat) : Int)) ∧ w = w' := by
  obtain ⟨n, hn⟩ : ∃ n, s.size = n := ⟨_, rfl⟩
  obtain ⟨r, hr⟩ : ∃ r, sizeS n = r := ⟨_, rfl⟩
  obtain ⟨q, hq⟩ : ∃ q, (n + 6) / 32 = q := ⟨_, rfl⟩
  have HR := Lib.hid hr
  rw [hn, hr]
  rw [hn] at hs
  have e1 : (6 + (n : Int)) / 32 = (q : Int) := by omega
  have HA : (q : Int) * 32 < 6 + (n : Int) → (q : Int) + 1 = (r : Int) := fun h => by rw [← hr]; unfold sizeS; omega
  have HC : ¬ (q : Int) * 32 < 6 + (n : Int) → (q : Int) = (r : Int) := fun h => by rw [← hr]; unfold sizeS; omega
  have i0 : (0 : Int) ≤ (n : Int) := by omega
  have w1 : wrap64 (6 + (n : Int)) = 6 + (n : Int) := IntWalk.wrap64_in _ (by omega)
  have w4 : (6 + (n : Int)).tdiv 32 = (q : Int) := by rw [Int.tdiv_eq_ediv_of_nonneg (by omega)]; exact e1
  have w5 : wrap64 (q : Int) = (q : Int) := IntWalk.wrap64_in _ (by omega)
  have w6 : wrap64 ((q : Int) * 32) = (q : Int) * 32 := IntWalk.wrap64_in _ (by omega)
  have w7 : wrap64 ((q : Int) + 1) = (q : Int) + 1 := IntWalk.wrap64_in _ (by omega)
  by_cases hlt : (q : Int) * 32 < 6 + (n : Int)
  · have H := Lib.hid (HA hlt)
    have W7 := Lib.hid w7
    have W5 := Lib.hid w5
    clear hr e1 hs w7 hq HA HC
    go_enter Try.func52, Try.ntmps52
    go_wp2
    go_ret
    exact ⟨by rw [← H.out]; show Ending.returned (.int .i64 (wrap64 ((q:Int)+1))) = _; rw [W7.out], rfl⟩
  · have H := Lib.hid (HC hlt)
    have hge : 6 + (n : Int) ≤ (q : Int) * 32 := Int.not_lt.1 hlt
    have W5 := Lib.hid w5
    clear hr e1 hs w7 hq hlt HA HC
    go_enter Try.func52, Try.ntmps52
    go_wp2
    go_ret
    exact ⟨by rw [← H.out]; show Ending.returned (.int .i64 (wrap64 (q:Int))) = _; rw [W5.out], rfl⟩

/-- a token -/
structure Tk where
  base : Gd
  target : Gd
  next : Int
  all : Int
  image : List Int
/-- a snapshot of a table -/
structure Sn where
  guid : Gd
  image : List Int
  hidden : Bool
/-- a table -/
structure Mt where
  live : List Int
  snaps : List Sn
  token : Tk
/-- whether a token may be, behind a guid -/
def tokOf (t : Tk) (last : Gd) (blocks n : Int) : Int :=
  if t.target = (0, 0) then
    if t.base ≠ (0, 0) ∨ t.next ≠ 0 ∨ t.all ≠ 0 ∨ t.image ≠ [] then 2 else 0
  else if t.base ≠ last ∨ upG last t.target = false ∨ t.next < 1 ∨ t.all ≤ t.next ∨ blocks < t.all then 2
  else chkOf t.image blocks n
/-- whether snapshots may be, behind a guid; the last one's guid -/
def snOf : List Sn → Gd → Int → Int → Int × Gd
  | [], last, _, _ => (0, last)
  | s :: l, last, blocks, n =>
    if upG last s.guid = false then (2, last)
    else if chkOf s.image blocks n ≠ 0 then (chkOf s.image blocks n, last)
    else snOf l s.guid blocks n
/-- whether a table may be -/
def mtOf (m : Mt) (blocks n : Int) : Int :=
  if chkOf m.live blocks n ≠ 0 then chkOf m.live blocks n
  else if 20 < m.snaps.length then 3
  else if (snOf m.snaps (0, 0) blocks n).1 ≠ 0 then (snOf m.snaps (0, 0) blocks n).1
  else tokOf m.token (snOf m.snaps (0, 0) blocks n).2 blocks n
end Go.Proofs.Ytimgecflcackbaa
