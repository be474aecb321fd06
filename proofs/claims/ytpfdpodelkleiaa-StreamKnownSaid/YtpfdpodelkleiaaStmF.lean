/-
  STREAM's REFERENCE: above, changes.
-/
import Derived.Test.YtpfdpodelkleiaaStmE
namespace Go.Proofs.Ytpfdpodelkleiaa
open Go.RowKit Reg Go.ChangeShapes

set_option maxRecDepth 100000 in
theorem aboveR_any (g l : Gd) (w : World) : Calls Try.prog 41 #[aggG g, aggG l] w fun e w' => e = .returned (.bool (upG l g)) ∧ Below w.heap.size w w' := by
  obtain ⟨ge, gc⟩ := g
  obtain ⟨le, lc⟩ := l
  have hup : upG (le, lc) (ge, gc) = decide (le < ge ∨ (le = ge ∧ lc < gc)) := rfl
  generalize upG (le, lc) (ge, gc) = up at *
  have HUP := Lib.hid hup
  unfold aggG
  have HB := Lib.hid (((Below.refl w.heap.size w).alloc (Nat.le_refl _) (Obj.cells #[.int .u64 ge, .int .u64 gc] 24)).alloc (by simp) (Obj.cells #[.int .u64 le, .int .u64 lc] 24))
  clear hup
  by_cases h1 : le < ge
  · have HR := Lib.hid (show up = true by rw [HUP.out]; simp [h1])
    go_enter Try.func41, Try.ntmps41
    go_wp2
    go_ret
    exact ⟨by rw [HR.out]; rfl, HB.out⟩
  · by_cases h2 : le = ge
    · subst h2
      by_cases h3 : lc < gc
      · have HR := Lib.hid (show up = true by rw [HUP.out]; simp [h3])
        go_enter Try.func41, Try.ntmps41
        go_wp2
        go_ret
        exact ⟨by rw [HR.out]; rfl, HB.out⟩
      · have HR := Lib.hid (show up = false by rw [HUP.out]; simp [h3])
        have h3' : gc ≤ lc := by omega
        go_enter Try.func41, Try.ntmps41
        go_wp2
        go_ret
        exact ⟨by rw [HR.out]; rfl, HB.out⟩
    · have HR := Lib.hid (show up = decide (le < ge) by rw [HUP.out]; simp [h2])
      have h1' : ge ≤ le := by omega
      have h2' : (ge == le) = false := by simp; omega
      clear h1 h2
      go_enter Try.func41, Try.ntmps41
      go_wp2
      go_ret
      exact ⟨by rw [HR.out]; rfl, HB.out⟩
set_option maxRecDepth 100000 in
set_option maxHeartbeats 1000000 in
theorem changesR_any (w : World) (cv : Value) (cs : List Cg) (hcv : InC w cv cs) : Calls Try.prog 42 #[cv] w fun e w' => e = .returned (.bool (mayC (-1) cs)) ∧ Below w.heap.size w w' := by
  obtain ⟨ca, cc, rfl, hcm, hcx⟩ := hcv
  have HCX := Lib.hid hcx
  have HCM := Lib.hid hcm
  have HST := Lib.hid (fun (k : Nat) (hk : k < cs.length) ab => @mayC_step ab cs k hk)
  have HEND := Lib.hid (show ∀ ab, mayC ab (cs.drop cs.length) = true from fun ab => by rw [List.drop_length]; rfl)
  generalize hZ : (fun j => cs.getD j (0, ByteArray.empty)) = Z
  have hZj : ∀ j, cs.getD j (0, ByteArray.empty) = Z j := fun j => by rw [← hZ]
  simp only [hZj] at HCX HST
  clear hZ hZj
  obtain ⟨D, hD0, hDn⟩ : ∃ D : Nat → List Cg, D 0 = cs ∧ ∀ k, D k = cs.drop k := ⟨fun k => cs.drop k, rfl, fun _ => rfl⟩
  simp only [← hDn] at HST HEND
  obtain ⟨X0, hX0⟩ : ∃ X, X = mayC (-1) cs := ⟨_, rfl⟩
  rw [← hX0]
  rw [← hD0] at hX0
  generalize hm : cs.length = m at *
  have HD0 := Lib.hid hX0
  clear hD0 hDn hm hX0 hcx hcm
  go_enter Try.func42, Try.ntmps42
  go_wp2_with fail
  go_loopw [3] (fun i wr => ∃ (k : Nat) (z : Int), k ≤ m ∧ i = .int .i64 k ∧ Below w.heap.size w wr ∧ X0 = mayC z (D k) ∧ ((k = 0 ∧ z = -1) ∨ (∃ j, k = j + 1 ∧ z = (Z j).1 ∧ 0 ≤ z))) (fun i _ => m - (intOf i).toNat)
  case atStart => exact ⟨0, -1, Nat.zero_le _, rfl, Below.refl _ _, HD0.out, .inl ⟨rfl, rfl⟩⟩
  case round =>
    obtain ⟨k, z, hk, rfl, hb, hre, hkz⟩ := hrel
    have HB := Lib.hid hb
    have HRE := Lib.hid hre
    clear hb hre
    by_cases hkm : k < m
    · obtain ⟨cg, co, rfl, hc0, hc1⟩ := HCX.out k hkm
      have hst := HST.out k hkm z
      replace hc0 := cell_later HB.out hc0
      replace hc1 := cell_later HB.out hc1
      have I9 := Lib.hid (wrap_succ hkm HCM.out)
      have HKM := Lib.hid hkm
      have l1 : (k : Int) < (m : Int) := by omega
      obtain ⟨xb, hxb⟩ : ∃ xb, xb = (Z k).1 := ⟨_, rfl⟩
      obtain ⟨xd, hxd⟩ : ∃ xd, xd = (Z k).2 := ⟨_, rfl⟩
      rw [← hxb] at hc0 hst
      rw [← hxd] at hc1
      unfold badC at hst
      rw [← hxb, ← hxd] at hst
      have HXB := Lib.hid hxb
      have HST2 := Lib.hid hst
      have HBN := Lib.hid (HB.out.alloc HB.out.size (Obj.cells #[.int .i64 xb, .string xd] 36))
      have HBX := Lib.hid (Blk.new wr 36 #[.int .i64 xb, .string xd])
      have HKZ := Lib.hid hkz
      have hz : -1 ≤ z := by omega
      have HBAD := Lib.hid (fun (h : xb ≤ z ∨ 8 ≤ xb ∨ xd.size ≠ 32) => show X0 = false by rw [HRE.out, HST2.out, if_pos (decide_eq_true h)])
      have HGOOD := Lib.hid (fun (h : ¬ (xb ≤ z ∨ 8 ≤ xb ∨ xd.size ≠ 32)) => show X0 = mayC xb (D (k + 1)) by rw [HRE.out, HST2.out, if_neg (by simpa using h)])
      clear hkm hk hst hxb hxd hkz
      by_cases h1 : xb < 0
      · have HR := Lib.hid (HBAD.out (.inl (by omega)))
        have b1 : decide (xb < 0) = true := decide_eq_true h1
        clear hz h1 HKZ
        go_wp2_with fail
        generalize hwx : wr.alloc (Obj.cells #[.int .i64 xb, .string xd] 36) = wx at *
        have x0 := HBX.out.cell 0
        have x1 := HBX.out.cell 1
        simp at x0 x1
        clear hwx
        clear hc0 hc1 HBX HB
        go_quiet (fail)
        have HBQ := Lib.hid (below_drewN HBN.out nq)
        go_wp2
        go_ret
        exact ⟨by rw [HR.out]; rfl, HBQ.out⟩
      · have b1 : decide (xb < 0) = false := decide_eq_false h1
        by_cases h2 : 8 ≤ xb
        · have HR := Lib.hid (HBAD.out (.inr (.inl h2)))
          have b2 : decide (8 ≤ xb) = true := decide_eq_true h2
          clear hz h1 h2 HKZ
          go_wp2_with fail
          generalize hwx : wr.alloc (Obj.cells #[.int .i64 xb, .string xd] 36) = wx at *
          have x0 := HBX.out.cell 0
          have x1 := HBX.out.cell 1
          simp at x0 x1
          clear hwx
          clear hc0 hc1 HBX HB
          go_quiet (fail)
          have HBQ := Lib.hid (below_drewN HBN.out nq)
          go_wp2
          go_ret
          exact ⟨by rw [HR.out]; rfl, HBQ.out⟩
        · have b2 : decide (8 ≤ xb) = false := decide_eq_false h2
          by_cases h3 : xd.size = 32
          case neg =>
            have HR := Lib.hid (HBAD.out (.inr (.inr h3)))
            have b3 : (((xd.size : Nat) : Int) != 32) = true := by simp; omega
            clear hz h1 h2 h3 HKZ
            go_wp2_with fail
            generalize hwx : wr.alloc (Obj.cells #[.int .i64 xb, .string xd] 36) = wx at *
            have x0 := HBX.out.cell 0
            have x1 := HBX.out.cell 1
            simp at x0 x1
            clear hwx
            clear hc0 hc1 HBX HB
            go_quiet (fail)
            have HBQ := Lib.hid (below_drewN HBN.out nq)
            go_wp2
            go_ret
            exact ⟨by rw [HR.out]; rfl, HBQ.out⟩
          case pos =>
          have b3 : (((xd.size : Nat) : Int) != 32) = false := by simp; omega
          have HNN := Lib.hid (show 0 ≤ xb by omega)
          rcases HKZ.out with ⟨rfl, rfl⟩ | ⟨j, rfl, rfl, hz0⟩
          · have HG := Lib.hid (HGOOD.out (by omega))
            simp only [Nat.zero_mul, Nat.add_zero] at hc0 hc1
            clear hz h1 h2 h3 HKZ
            go_wp2_with fail
            generalize hwx : wr.alloc (Obj.cells #[.int .i64 xb, .string xd] 36) = wx at *
            have x0 := HBX.out.cell 0
            have x1 := HBX.out.cell 1
            simp at x0 x1
            clear hwx
            clear hc0 hc1 HBX HB
            go_quiet (fail)
            have HBQ := Lib.hid (below_drewN HBN.out nq)
            go_wp2
            clear l1
            exact ⟨⟨0 + 1, xb, HKM.out, rfl, HBQ.out, HG.out, .inr ⟨0, rfl, HXB.out, HNN.out⟩⟩, (meas_succ HKM.out : m - (intOf (Value.int .i64 (((0 : Nat) : Int) + 1))).toNat < _)⟩
          · obtain ⟨g', o', he, hp0, -⟩ := HCX.out j (by have := HKM.out; omega)
            simp only [Option.some.injEq, Addr.mk.injEq, and_true] at he
            obtain ⟨rfl, rfl⟩ := he
            have hp1 := cell_later HBN.out hp0
            have b4 : decide (0 < (((j + 1 : Nat)) : Int)) = true := decide_eq_true (by omega)
            replace I9 : Hid (wrap64 ((j : Int) + 1 + 1) = (((j + 1 : Nat)) : Int) + 1) := Lib.hid (by simpa using I9.out)
            have l2 : (j : Int) < (m : Int) := by omega
            have w1 : wrap64 ((j : Int)) = (j : Int) := IntWalk.wrap64_in _ (by have := HCM.out; unfold maxLen at this; omega)
            have w2 : IntKind.i64.wrap ((j : Int)) = (j : Int) := IntWalk.i64_in _ (by have := HCM.out; unfold maxLen at this; omega)
            clear hp0
            by_cases h5 : xb ≤ (Z j).1
            · have HR := Lib.hid (HBAD.out (.inl h5))
              have b5 : decide (xb ≤ (Z j).1) = true := decide_eq_true h5
              clear hz hz0 h1 h2 h3 h5 HKZ
              go_wp2_with fail
              generalize hwx : wr.alloc (Obj.cells #[.int .i64 xb, .string xd] 36) = wx at *
              have x0 := HBX.out.cell 0
              have x1 := HBX.out.cell 1
              simp at x0 x1
              clear hwx
              clear hc0 hc1 HBX HB
              go_quiet (fail)
              have HBQ := Lib.hid (below_drewN HBN.out nq)
              go_wp2
              go_ret
              exact ⟨by rw [HR.out]; rfl, HBQ.out⟩
            · have HG := Lib.hid (HGOOD.out (by omega))
              have b5 : decide (xb ≤ (Z j).1) = false := decide_eq_false h5
              clear hz hz0 h1 h2 h3 h5 HKZ
              go_wp2_with fail
              generalize hwx : wr.alloc (Obj.cells #[.int .i64 xb, .string xd] 36) = wx at *
              have x0 := HBX.out.cell 0
              have x1 := HBX.out.cell 1
              simp at x0 x1
              clear hwx
              clear hc0 hc1 HBX HB
              go_quiet (fail)
              have HBQ := Lib.hid (below_drewN HBN.out nq)
              go_wp2
              rw [I9.out]
              clear l1 
              exact ⟨⟨(j + 1) + 1, xb, HKM.out, rfl, HBQ.out, HG.out, .inr ⟨(j + 1), rfl, HXB.out, HNN.out⟩⟩, meas_succ HKM.out⟩
    · obtain rfl : k = m := by omega
      have HR := Lib.hid (show X0 = true by rw [HRE.out, HEND.out])
      have l1 : ¬ ((k : Int) < (k : Int)) := by omega
      clear hk hkm
      go_wp2
      go_ret
      exact ⟨by rw [HR.out]; rfl, HB.out⟩
end Go.Proofs.Ytpfdpodelkleiaa
