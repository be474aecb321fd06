/-
  STREAM: the reference (printed by wip/gen-msgbase.py).
-/
import Derived.Test.YtikimmhkfjaijaaGreatGF
import Derived.Test.YtikimmhkfjaijaaGreatQStmM
import Derived.Test.YtikimmhkfjaijaaGreatQStmE
namespace Go.Proofs.YtikimmhkfjaijaaGreat
open Go.RowKit Reg Go.ChangeShapes

set_option maxRecDepth 100000 in
set_option maxHeartbeats 1000000 in
theorem sameR_any (w : World) (u v : Value) (p q : Prt) (hu : InPr w u p) (hv : InPr w v q) : Calls Tryz.prog 36 #[u, v] w fun e w' => e = .returned (.bool (sameP p q)) ∧ Below w.heap.size w w' := by
  obtain ⟨su, rfl, hu, -⟩ := hu
  obtain ⟨sv, rfl, hv, -⟩ := hv
  obtain ⟨a, c, rfl, hml, hx⟩ := hu
  obtain ⟨a', c', rfl, hml', hx'⟩ := hv
  have HML := Lib.hid hml
  obtain ⟨X, hX⟩ : ∃ X, X = sameP p q := ⟨_, rfl⟩
  rw [← hX]
  unfold sameP at hX
  unfold prV
  obtain ⟨⟨b1, b2⟩, ⟨t1, t2⟩, f, al, cs⟩ := p
  obtain ⟨⟨b1', b2'⟩, ⟨t1', t2'⟩, f', al', cs'⟩ := q
  dsimp only at *
  have hE1 := run_neq_guid b1 b2 b1' b2'
  have hE2 := run_neq_guid t1 t2 t1' t2'
  generalize (b1 == b1' && b2 == b2') = s1 at *
  generalize (t1 == t1' && t2 == t2') = s2 at *
  generalize hZ : (fun j => cs.getD j (0, ByteArray.empty)) = Z
  generalize hZ' : (fun j => cs'.getD j (0, ByteArray.empty)) = Z'
  have hZj : ∀ j, cs.getD j (0, ByteArray.empty) = Z j := fun j => by rw [← hZ]
  have hZj' : ∀ j, cs'.getD j (0, ByteArray.empty) = Z' j := fun j => by rw [← hZ']
  simp only [hZj, hZj'] at hX hx hx'
  generalize cs.length = n at *
  generalize cs'.length = n' at *
  have HX := Lib.hid hX
  have HC := Lib.hid hx
  have HC' := Lib.hid hx'
  have hbl := ((Below.refl w.heap.size w).alloc (Nat.le_refl _) (Obj.cells #[.int .u64 b1, .int .u64 b2, .int .u64 t1, .int .u64 t2, .int .i64 f, .int .i64 al, .slice a n c] 31)).alloc (by simp) (Obj.cells #[.int .u64 b1', .int .u64 b2', .int .u64 t1', .int .u64 t2', .int .i64 f', .int .i64 al', .slice a' n' c'] 31)
  have hb1 := (Blk.new w 31 #[.int .u64 b1, .int .u64 b2, .int .u64 t1, .int .u64 t2, .int .i64 f, .int .i64 al, .slice a n c]).alloc (Obj.cells #[.int .u64 b1', .int .u64 b2', .int .u64 t1', .int .u64 t2', .int .i64 f', .int .i64 al', .slice a' n' c'] 31)
  have hb2 := Blk.newAt (w := w.alloc (Obj.cells #[.int .u64 b1, .int .u64 b2, .int .u64 t1, .int .u64 t2, .int .i64 f, .int .i64 al, .slice a n c] 31)) 31 #[.int .u64 b1', .int .u64 b2', .int .u64 t1', .int .u64 t2', .int .i64 f', .int .i64 al', .slice a' n' c'] (g := w.heap.size + 1) (by simp)
  have HB0 := Lib.hid hbl
  have HP := Lib.hid hb1
  have HQ := Lib.hid hb2
  clear hX hx hx' hbl hb1 hb2 hZ hZ' hZj hZj' hml hml'
  cases s1 with
  | false =>
    have HN := Lib.hid (show X = false by rw [HX.out]; simp)
    go_enter Tryz.func36, Tryz.ntmps36
    go_wp2
    go_ret
    exact ⟨by rw [HN.out]; rfl, HB0.out⟩
  | true =>
  cases s2 with
  | false =>
    have HN := Lib.hid (show X = false by rw [HX.out]; simp)
    go_enter Tryz.func36, Tryz.ntmps36
    go_wp2
    go_ret
    exact ⟨by rw [HN.out]; rfl, HB0.out⟩
  | true =>
  by_cases hf : f = f'
  case neg =>
    have hfi : (f != f') = true := by simp [hf]
    have HN := Lib.hid (show X = false by rw [HX.out]; simp [hf])
    go_enter Tryz.func36, Tryz.ntmps36
    go_wp2
    go_ret
    exact ⟨by rw [HN.out]; rfl, HB0.out⟩
  case pos =>
  subst hf
  have hfi : (f != f) = false := by simp
  by_cases ha : al = al'
  case neg =>
    have hai : (al != al') = true := by simp [ha]
    have HN := Lib.hid (show X = false by rw [HX.out]; simp [ha])
    go_enter Tryz.func36, Tryz.ntmps36
    go_wp2
    go_ret
    exact ⟨by rw [HN.out]; rfl, HB0.out⟩
  case pos =>
  subst ha
  have hai : (al != al) = false := by simp
  by_cases hn : n = n'
  case neg =>
    have hni : (((n : Nat) : Int) != (n' : Int)) = true := by simp; omega
    have HN := Lib.hid (show X = false by rw [HX.out]; simp [hn])
    go_enter Tryz.func36, Tryz.ntmps36
    go_wp2
    go_ret
    exact ⟨by rw [HN.out]; rfl, HB0.out⟩
  case pos =>
  subst hn
  have hni : (((n : Nat) : Int) != (n : Int)) = false := by simp
  go_enter Tryz.func36, Tryz.ntmps36
  go_wp2_with fail
  clear hni hfi hai hE1 hE2
  generalize (w.alloc (Obj.cells #[.int .u64 b1, .int .u64 b2, .int .u64 t1, .int .u64 t2, .int .i64 f, .int .i64 al, .slice a n c] 31)).alloc (Obj.cells #[.int .u64 b1', .int .u64 b2', .int .u64 t1', .int .u64 t2', .int .i64 f, .int .i64 al, .slice a' n c'] 31) = W0 at *
  go_loopw [5] (fun i wr => ∃ k : Nat, k ≤ n ∧ i = .int .i64 k ∧ Below w.heap.size w wr ∧ Below W0.heap.size W0 wr ∧ ∀ j, j < k → eqC (Z j) (Z' j) = true) (fun i _ => n - (intOf i).toNat)
  case atStart => exact ⟨0, Nat.zero_le _, rfl, HB0.out, Below.refl _ _, fun j hj => absurd hj (Nat.not_lt_zero _)⟩
  case round =>
    obtain ⟨k, hk, rfl, hb, hb0, hall⟩ := hrel
    have HB := Lib.hid hb
    have HBW := Lib.hid hb0
    have HALL := Lib.hid hall
    have x6 := (HP.out.keep hb0).cell 6
    have y6 := (HQ.out.keep hb0).cell 6
    simp at x6 y6
    clear hb hb0 hall
    by_cases hkn : k < n
    · obtain ⟨g, o, rfl, c0, c1⟩ := HC.out k hkn
      obtain ⟨g', o', rfl, d0, d1⟩ := HC'.out k hkn
      replace c0 := cell_later HB.out c0
      replace c1 := cell_later HB.out c1
      replace d0 := cell_later HB.out d0
      replace d1 := cell_later HB.out d1
      have l1 : (k : Int) < (n : Int) := by omega
      have l0 : (0 : Int) ≤ (k : Int) := by omega
      have HKN := Lib.hid hkn
      have HEQ := Lib.hid (show eqC (Z k) (Z' k) = eqC (Z k) (Z' k) from rfl)
      have HST := Lib.hid (fun h : eqC (Z k) (Z' k) = true => show ∀ j, j < k + 1 → eqC (Z j) (Z' j) = true from fun j hj => by
        by_cases e : j = k
        · rw [e]; exact h
        · exact HALL.out j (by omega))
      have HNO := Lib.hid (fun h : eqC (Z k) (Z' k) = false => show X = false by
        rw [HX.out]
        refine decide_eq_false fun hh => ?_
        have := hh.2.1 k HKN.out
        rw [h] at this
        cases this)
      have hne := run_neq_chg (Z k).1 (Z' k).1 (Z k).2 (Z' k).2
      have he : ((Z k).1 == (Z' k).1 && (Z k).2.toList == (Z' k).2.toList) = eqC (Z k) (Z' k) := rfl
      rw [he] at hne
      have I9 := Lib.hid (wrap_succ hkn HML.out)
      clear he HEQ hkn hk
      generalize eqC (Z k) (Z' k) = s at *
      generalize (Z k).1 = zi at *
      generalize (Z k).2 = zs at *
      generalize (Z' k).1 = zi' at *
      generalize (Z' k).2 = zs' at *
      cases s with
      | false =>
        replace HNO := Lib.hid (HNO.out rfl)
        have hne2 : ∀ w, (binOp .neq 83 (.agg #[.int .i64 zi, .string zs]) (.agg #[.int .i64 zi', .string zs'])).run Tryz.prog w = .ok (.bool true) w := hne
        clear hne
        go_wp2_with fail
        go_quiet (fail)
        have HB1 := Lib.hid (below_drewN HB.out nq)
        go_wp2
        go_ret
        exact ⟨by rw [HNO.out]; rfl, HB1.out⟩
      | true =>
        replace HST := Lib.hid (HST.out rfl)
        have hne2 : ∀ w, (binOp .neq 83 (.agg #[.int .i64 zi, .string zs]) (.agg #[.int .i64 zi', .string zs'])).run Tryz.prog w = .ok (.bool false) w := hne
        clear hne
        go_wp2_with fail
        go_quiet (fail)
        have HB1 := Lib.hid (And.intro (below_drewN HB.out nq) (below_drewN HBW.out nq))
        go_wp2
        rw [I9.out]
        clear l0 l1
        exact ⟨⟨k + 1, HKN.out, rfl, HB1.out.1, HB1.out.2, HST.out⟩, meas_succ HKN.out⟩
    · obtain rfl : k = n := by omega
      have l1 : ¬ ((k : Int) < (k : Int)) := by omega
      clear hk hkn
      have HN := Lib.hid (show X = true by rw [HX.out]; exact decide_eq_true (by simpa using HALL.out))
      go_wp2
      go_ret
      exact ⟨by rw [HN.out]; rfl, HB.out⟩

set_option maxRecDepth 100000 in
theorem aboveR_any (g l : Gd) (w : World) : Calls Tryz.prog 56 #[aggG g, aggG l] w fun e w' => e = .returned (.bool (upG l g)) ∧ Below w.heap.size w w' := by
  obtain ⟨ge, gc⟩ := g
  obtain ⟨le, lc⟩ := l
  have hup : upG (le, lc) (ge, gc) = decide (le < ge ∨ (le = ge ∧ lc < gc)) := rfl
  generalize upG (le, lc) (ge, gc) = up at *
  have HUP := Lib.hid hup
  unfold aggG
  have HB := Lib.hid (((Below.refl w.heap.size w).alloc (Nat.le_refl _) (Obj.cells #[.int .u64 ge, .int .u64 gc] 28)).alloc (by simp) (Obj.cells #[.int .u64 le, .int .u64 lc] 28))
  clear hup
  by_cases h1 : le < ge
  · have HR := Lib.hid (show up = true by rw [HUP.out]; simp [h1])
    go_enter Tryz.func56, Tryz.ntmps56
    go_wp2
    go_ret
    exact ⟨by rw [HR.out]; rfl, HB.out⟩
  · by_cases h2 : le = ge
    · subst h2
      by_cases h3 : lc < gc
      · have HR := Lib.hid (show up = true by rw [HUP.out]; simp [h3])
        go_enter Tryz.func56, Tryz.ntmps56
        go_wp2
        go_ret
        exact ⟨by rw [HR.out]; rfl, HB.out⟩
      · have HR := Lib.hid (show up = false by rw [HUP.out]; simp [h3])
        have h3' : gc ≤ lc := by omega
        go_enter Tryz.func56, Tryz.ntmps56
        go_wp2
        go_ret
        exact ⟨by rw [HR.out]; rfl, HB.out⟩
    · have HR := Lib.hid (show up = decide (le < ge) by rw [HUP.out]; simp [h2])
      have h1' : ge ≤ le := by omega
      have h2' : (ge == le) = false := by simp; omega
      clear h1 h2
      go_enter Tryz.func56, Tryz.ntmps56
      go_wp2
      go_ret
      exact ⟨by rw [HR.out]; rfl, HB.out⟩
set_option maxRecDepth 100000 in
set_option maxHeartbeats 1000000 in
theorem changesR_any (w : World) (cv : Value) (cs : List Cg) (hcv : InC w cv cs) : Calls Tryz.prog 57 #[cv] w fun e w' => e = .returned (.bool (mayC (-1) cs)) ∧ Below w.heap.size w w' := by
  obtain ⟨ca, cc, rfl, hcm, hcx⟩ := hcv
  have HCX := Lib.hid hcx
  have HCM := Lib.hid hcm
  have HST := Lib.hid (fun (k : Nat) (hk : k < cs.length) ab => @mayC_step ab cs k hk)
  have HEND := Lib.hid (show ∀ ab, mayC ab (cs.drop cs.length) = true from fun ab => by rw [List.drop_length]; rfl)
  generalize hZ : (fun j => cs.getD j (0, ByteArray.empty)) = Z
  have hZj : ∀ j, cs.getD j (0, ByteArray.empty) = Z j := fun j => by rw [← hZ]
  simp only [hZj] at HCX HST
  clear hZ hZj
  obtain ⟨D, hD0, hDn⟩ : ∃ D : Nat → List Cg, D 0 = cs ∧ ∀ k, D k = cs.drop k := ⟨fun k => cs.drop k, rfl, fun _ => rfl⟩
  simp only [← hDn] at HST HEND
  obtain ⟨X0, hX0⟩ : ∃ X, X = mayC (-1) cs := ⟨_, rfl⟩
  rw [← hX0]
  rw [← hD0] at hX0
  generalize hm : cs.length = m at *
  have HD0 := Lib.hid hX0
  clear hD0 hDn hm hX0 hcx hcm
  go_enter Tryz.func57, Tryz.ntmps57
  go_wp2_with fail
  go_loopw [3] (fun i wr => ∃ (k : Nat) (z : Int), k ≤ m ∧ i = .int .i64 k ∧ Below w.heap.size w wr ∧ X0 = mayC z (D k) ∧ ((k = 0 ∧ z = -1) ∨ (∃ j, k = j + 1 ∧ z = (Z j).1 ∧ 0 ≤ z))) (fun i _ => m - (intOf i).toNat)
  case atStart => exact ⟨0, -1, Nat.zero_le _, rfl, Below.refl _ _, HD0.out, .inl ⟨rfl, rfl⟩⟩
  case round =>
    obtain ⟨k, z, hk, rfl, hb, hre, hkz⟩ := hrel
    have HB := Lib.hid hb
    have HRE := Lib.hid hre
    clear hb hre
    by_cases hkm : k < m
    · obtain ⟨cg, co, rfl, hc0, hc1⟩ := HCX.out k hkm
      have hst := HST.out k hkm z
      replace hc0 := cell_later HB.out hc0
      replace hc1 := cell_later HB.out hc1
      have I9 := Lib.hid (wrap_succ hkm HCM.out)
      have HKM := Lib.hid hkm
      have l1 : (k : Int) < (m : Int) := by omega
      obtain ⟨xb, hxb⟩ : ∃ xb, xb = (Z k).1 := ⟨_, rfl⟩
      obtain ⟨xd, hxd⟩ : ∃ xd, xd = (Z k).2 := ⟨_, rfl⟩
      rw [← hxb] at hc0 hst
      rw [← hxd] at hc1
      unfold badC at hst
      rw [← hxb, ← hxd] at hst
      have HXB := Lib.hid hxb
      have HST2 := Lib.hid hst
      have HBN := Lib.hid (HB.out.alloc HB.out.size (Obj.cells #[.int .i64 xb, .string xd] 83))
      have HBX := Lib.hid (Blk.new wr 83 #[.int .i64 xb, .string xd])
      have HKZ := Lib.hid hkz
      have hz : -1 ≤ z := by omega
      have HBAD := Lib.hid (fun (h : xb ≤ z ∨ 8 ≤ xb ∨ xd.size ≠ 32) => show X0 = false by rw [HRE.out, HST2.out, if_pos (decide_eq_true h)])
      have HGOOD := Lib.hid (fun (h : ¬ (xb ≤ z ∨ 8 ≤ xb ∨ xd.size ≠ 32)) => show X0 = mayC xb (D (k + 1)) by rw [HRE.out, HST2.out, if_neg (by simpa using h)])
      clear hkm hk hst hxb hxd hkz
      by_cases h1 : xb < 0
      · have HR := Lib.hid (HBAD.out (.inl (by omega)))
        have b1 : decide (xb < 0) = true := decide_eq_true h1
        clear hz h1 HKZ
        go_wp2_with fail
        generalize hwx : wr.alloc (Obj.cells #[.int .i64 xb, .string xd] 83) = wx at *
        have x0 := HBX.out.cell 0
        have x1 := HBX.out.cell 1
        simp at x0 x1
        clear hwx
        clear hc0 hc1 HBX HB
        go_quiet (fail)
        have HBQ := Lib.hid (below_drewN HBN.out nq)
        go_wp2
        go_ret
        exact ⟨by rw [HR.out]; rfl, HBQ.out⟩
      · have b1 : decide (xb < 0) = false := decide_eq_false h1
        by_cases h2 : 8 ≤ xb
        · have HR := Lib.hid (HBAD.out (.inr (.inl h2)))
          have b2 : decide (8 ≤ xb) = true := decide_eq_true h2
          clear hz h1 h2 HKZ
          go_wp2_with fail
          generalize hwx : wr.alloc (Obj.cells #[.int .i64 xb, .string xd] 83) = wx at *
          have x0 := HBX.out.cell 0
          have x1 := HBX.out.cell 1
          simp at x0 x1
          clear hwx
          clear hc0 hc1 HBX HB
          go_quiet (fail)
          have HBQ := Lib.hid (below_drewN HBN.out nq)
          go_wp2
          go_ret
          exact ⟨by rw [HR.out]; rfl, HBQ.out⟩
        · have b2 : decide (8 ≤ xb) = false := decide_eq_false h2
          by_cases h3 : xd.size = 32
          case neg =>
            have HR := Lib.hid (HBAD.out (.inr (.inr h3)))
            have b3 : (((xd.size : Nat) : Int) != 32) = true := by simp; omega
            clear hz h1 h2 h3 HKZ
            go_wp2_with fail
            generalize hwx : wr.alloc (Obj.cells #[.int .i64 xb, .string xd] 83) = wx at *
            have x0 := HBX.out.cell 0
            have x1 := HBX.out.cell 1
            simp at x0 x1
            clear hwx
            clear hc0 hc1 HBX HB
            go_quiet (fail)
            have HBQ := Lib.hid (below_drewN HBN.out nq)
            go_wp2
            go_ret
            exact ⟨by rw [HR.out]; rfl, HBQ.out⟩
          case pos =>
          have b3 : (((xd.size : Nat) : Int) != 32) = false := by simp; omega
          have HNN := Lib.hid (show 0 ≤ xb by omega)
          rcases HKZ.out with ⟨rfl, rfl⟩ | ⟨j, rfl, rfl, hz0⟩
          · have HG := Lib.hid (HGOOD.out (by omega))
            simp only [Nat.zero_mul, Nat.add_zero] at hc0 hc1
            clear hz h1 h2 h3 HKZ
            go_wp2_with fail
            generalize hwx : wr.alloc (Obj.cells #[.int .i64 xb, .string xd] 83) = wx at *
            have x0 := HBX.out.cell 0
            have x1 := HBX.out.cell 1
            simp at x0 x1
            clear hwx
            clear hc0 hc1 HBX HB
            go_quiet (fail)
            have HBQ := Lib.hid (below_drewN HBN.out nq)
            go_wp2
            clear l1
            exact ⟨⟨0 + 1, xb, HKM.out, rfl, HBQ.out, HG.out, .inr ⟨0, rfl, HXB.out, HNN.out⟩⟩, (meas_succ HKM.out : m - (intOf (Value.int .i64 (((0 : Nat) : Int) + 1))).toNat < _)⟩
          · obtain ⟨g', o', he, hp0, -⟩ := HCX.out j (by have := HKM.out; omega)
            simp only [Option.some.injEq, Addr.mk.injEq, and_true] at he
            obtain ⟨rfl, rfl⟩ := he
            have hp1 := cell_later HBN.out hp0
            have b4 : decide (0 < (((j + 1 : Nat)) : Int)) = true := decide_eq_true (by omega)
            replace I9 : Hid (wrap64 ((j : Int) + 1 + 1) = (((j + 1 : Nat)) : Int) + 1) := Lib.hid (by simpa using I9.out)
            have l2 : (j : Int) < (m : Int) := by omega
            have w1 : wrap64 ((j : Int)) = (j : Int) := IntWalk.wrap64_in _ (by have := HCM.out; unfold maxLen at this; omega)
            have w2 : IntKind.i64.wrap ((j : Int)) = (j : Int) := IntWalk.i64_in _ (by have := HCM.out; unfold maxLen at this; omega)
            clear hp0
            by_cases h5 : xb ≤ (Z j).1
            · have HR := Lib.hid (HBAD.out (.inl h5))
              have b5 : decide (xb ≤ (Z j).1) = true := decide_eq_true h5
              clear hz hz0 h1 h2 h3 h5 HKZ
              go_wp2_with fail
              generalize hwx : wr.alloc (Obj.cells #[.int .i64 xb, .string xd] 83) = wx at *
              have x0 := HBX.out.cell 0
              have x1 := HBX.out.cell 1
              simp at x0 x1
              clear hwx
              clear hc0 hc1 HBX HB
              go_quiet (fail)
              have HBQ := Lib.hid (below_drewN HBN.out nq)
              go_wp2
              go_ret
              exact ⟨by rw [HR.out]; rfl, HBQ.out⟩
            · have HG := Lib.hid (HGOOD.out (by omega))
              have b5 : decide (xb ≤ (Z j).1) = false := decide_eq_false h5
              clear hz hz0 h1 h2 h3 h5 HKZ
              go_wp2_with fail
              generalize hwx : wr.alloc (Obj.cells #[.int .i64 xb, .string xd] 83) = wx at *
              have x0 := HBX.out.cell 0
              have x1 := HBX.out.cell 1
              simp at x0 x1
              clear hwx
              clear hc0 hc1 HBX HB
              go_quiet (fail)
              have HBQ := Lib.hid (below_drewN HBN.out nq)
              go_wp2
              rw [I9.out]
              clear l1 
              exact ⟨⟨(j + 1) + 1, xb, HKM.out, rfl, HBQ.out, HG.out, .inr ⟨(j + 1), rfl, HXB.out, HNN.out⟩⟩, meas_succ HKM.out⟩
    · obtain rfl : k = m := by omega
      have HR := Lib.hid (show X0 = true by rw [HRE.out, HEND.out])
      have l1 : ¬ ((k : Int) < (k : Int)) := by omega
      clear hk hkm
      go_wp2
      go_ret
      exact ⟨by rw [HR.out]; rfl, HB.out⟩

set_option maxRecDepth 100000 in
set_option maxHeartbeats 1000000 in
theorem checkR_any (w : World) (v : Value) (p : Prt) (hv : InPr w v p) : Calls Tryz.prog 30 #[v] w fun e w' => e = .returned (.int .i64 (checkP p)) ∧ Below w.heap.size w w' := by
  obtain ⟨sv, rfl, hc, -⟩ := hv
  have hgood := fun h : okP p => show checkP p = 0 from if_pos h
  have hbad := fun h : ¬ okP p => show checkP p = 2 from if_neg h
  unfold okP at hgood hbad
  generalize checkP p = res at *
  have HMAY := Lib.hid (fun w2 (h : Below w.heap.size w w2) => changesR_any w2 sv p.cs (hc.keep h))
  obtain ⟨a, c, rfl, hml, -⟩ := hc
  unfold prV
  obtain ⟨⟨be, bc⟩, ⟨te, tc⟩, f, al, cs⟩ := p
  dsimp only at *
  have HBO := Lib.hid ((Below.refl w.heap.size w).alloc (Nat.le_refl _) (Obj.cells #[.int .u64 be, .int .u64 bc, .int .u64 te, .int .u64 tc, .int .i64 f, .int .i64 al, .slice a cs.length c] 31))
  have HBX := Lib.hid (Blk.new w 31 #[.int .u64 be, .int .u64 bc, .int .u64 te, .int .u64 tc, .int .i64 f, .int .i64 al, .slice a cs.length c])
  have HAB := Lib.hid (fun w => aboveR_any (te, tc) (be, bc) w)
  generalize hmc : mayC (-1) cs = mc at *
  generalize upG (be, bc) (te, tc) = up at *
  generalize hn : cs.length = n at *
  clear hmc
  have HML := Lib.hid hml
  have HG := Lib.hid hgood
  have HBD := Lib.hid hbad
  clear hgood hbad hn hml
  go_enter Tryz.func30, Tryz.ntmps30
  go_wp2_with fail
  generalize w.alloc (Obj.cells #[.int .u64 be, .int .u64 bc, .int .u64 te, .int .u64 tc, .int .i64 f, .int .i64 al, .slice a n c] 31) = w1 at *
  refine (HAB.out _).mono ?_
  rintro e w2 ⟨rfl, hb⟩
  have HB2 := Lib.hid (HBO.out.trans (hb.mono HBO.out.size))
  have hbk := HBX.out.keep hb
  have x4 := hbk.cell 4
  have x5 := hbk.cell 5
  have x6 := hbk.cell 6
  simp at x4 x5 x6
  clear hb hbk HAB HBX HBO
  cases up with
  | false =>
    have HR := Lib.hid (HBD.out (fun h => by obtain ⟨h1, ⟨h2, h3⟩, ⟨h4, h5⟩, h6, h7, h8⟩ := h; cases h1))
    clear HG HBD HMAY
    go_wp2
    go_ret
    exact ⟨by rw [HR.out]; rfl, HB2.out⟩
  | true =>
  by_cases g1 : al < 0
  case pos =>
    have b1 : decide (al < 0) = true := decide_eq_true g1
    have HR := Lib.hid (HBD.out (fun h => by obtain ⟨h1, ⟨h2, h3⟩, ⟨h4, h5⟩, h6, h7, h8⟩ := h; omega))
    clear HG HBD HMAY g1
    go_wp2
    go_ret
    exact ⟨by rw [HR.out]; rfl, HB2.out⟩
  case neg =>
  have b1 : decide (al < 0) = false := decide_eq_false g1
  by_cases g2 : 8 < al
  case pos =>
    have b2 : decide (8 < al) = true := decide_eq_true g2
    have HR := Lib.hid (HBD.out (fun h => by obtain ⟨h1, ⟨h2, h3⟩, ⟨h4, h5⟩, h6, h7, h8⟩ := h; omega))
    clear HG HBD HMAY g1 g2
    go_wp2
    go_ret
    exact ⟨by rw [HR.out]; rfl, HB2.out⟩
  case neg =>
  have b2 : decide (8 < al) = false := decide_eq_false g2
  by_cases g3 : f < 0
  case pos =>
    have b3 : decide (f < 0) = true := decide_eq_true g3
    have HR := Lib.hid (HBD.out (fun h => by obtain ⟨h1, ⟨h2, h3⟩, ⟨h4, h5⟩, h6, h7, h8⟩ := h; omega))
    clear HG HBD HMAY g1 g2 g3
    go_wp2
    go_ret
    exact ⟨by rw [HR.out]; rfl, HB2.out⟩
  case neg =>
  have b3 : decide (f < 0) = false := decide_eq_false g3
  by_cases g4 : al < f
  case pos =>
    have b4 : decide (al < f) = true := decide_eq_true g4
    have HR := Lib.hid (HBD.out (fun h => by obtain ⟨h1, ⟨h2, h3⟩, ⟨h4, h5⟩, h6, h7, h8⟩ := h; omega))
    clear HG HBD HMAY g1 g2 g3 g4
    go_wp2
    go_ret
    exact ⟨by rw [HR.out]; rfl, HB2.out⟩
  case neg =>
  have b4 : decide (al < f) = false := decide_eq_false g4
  have w0 : wrap64 f = f := IntWalk.wrap64_in _ (by omega)
  by_cases g6 : 2 < n
  case pos =>
    have b6 : decide (2 < (n : Int)) = true := decide_eq_true (by omega)
    have b6' : decide (2 < n) = true := decide_eq_true g6
    obtain ⟨wf, hwf⟩ : ∃ wf, wrap64 (f + (n : Int)) = wf := ⟨_, rfl⟩
    by_cases g5 : al < wf
    · have b5 : decide (al < wf) = true := decide_eq_true g5
      have HR := Lib.hid (HBD.out (fun h => by obtain ⟨h1, ⟨h2, h3⟩, ⟨h4, h5⟩, h6, h7, h8⟩ := h; omega))
      clear HG HBD HMAY g1 g2 g3 g4 g5 g6
      go_wp2
      go_ret
      exact ⟨by rw [HR.out]; rfl, HB2.out⟩
    · have b5 : decide (al < wf) = false := decide_eq_false g5
      have HR := Lib.hid (HBD.out (fun h => by obtain ⟨h1, ⟨h2, h3⟩, ⟨h4, h5⟩, h6, h7, h8⟩ := h; omega))
      clear HG HBD HMAY g1 g2 g3 g4 g5 g6
      go_wp2
      go_ret
      exact ⟨by rw [HR.out]; rfl, HB2.out⟩
  case neg =>
  have b6 : decide (2 < (n : Int)) = false := decide_eq_false (by omega)
  have b6' : decide (2 < n) = false := decide_eq_false g6
  have w1 : wrap64 (f + (n : Int)) = f + (n : Int) := IntWalk.wrap64_in _ (by omega)
  by_cases g5 : al < f + n
  case pos =>
    have b5 : decide (al < f + n) = true := decide_eq_true g5
    have HR := Lib.hid (HBD.out (fun h => by obtain ⟨h1, ⟨h2, h3⟩, ⟨h4, h5⟩, h6, h7, h8⟩ := h; omega))
    clear HG HBD HMAY g1 g2 g3 g4 g5 g6
    go_wp2
    go_ret
    exact ⟨by rw [HR.out]; rfl, HB2.out⟩
  case neg =>
  have b5 : decide (al < f + n) = false := decide_eq_false g5
  by_cases g7 : n = 0 ∧ 0 < al
  case pos =>
    obtain ⟨rfl, g8⟩ := g7
    have b7 : (al != 0) = true := by simp; omega
    have HR := Lib.hid (HBD.out (fun h => by obtain ⟨h1, ⟨h2, h3⟩, ⟨h4, h5⟩, h6, h7, h8⟩ := h; exact h7 ⟨rfl, g8⟩))
    clear HG HBD HMAY g1 g2 g3 g4 g5 g6 g8
    go_wp2
    go_ret
    exact ⟨by rw [HR.out]; rfl, HB2.out⟩
  case neg =>
  have HMAY2 := Lib.hid (HMAY.out w2 HB2.out)
  have HOKS := Lib.hid (show (0 ≤ al ∧ al ≤ 8) ∧ (0 ≤ f ∧ f ≤ al) ∧ (n : Int) ≤ min 2 (al - f) from ⟨by omega, by omega, by omega⟩)
  have HRES := Lib.hid (show mc = true → res = 0 from fun h => HG.out ⟨rfl, HOKS.out.1, HOKS.out.2.1, HOKS.out.2.2, g7, h⟩)
  have HRES2 := Lib.hid (show mc = false → res = 2 from fun h => HBD.out fun hh => by rw [h] at hh; cases hh.2.2.2.2.2)
  have hcase : (n ≠ 0) ∨ (n = 0 ∧ al = 0) := by omega
  clear HG HBD HMAY HOKS g1 g2 g3 g4 g5 g6 g7
  rcases hcase with h6 | ⟨rfl, rfl⟩
  · have e1 : ((n : Int) == 0) = false := by simp; omega
    have e2 : decide (n = 0) = false := decide_eq_false h6
    clear h6
    go_wp2_with fail
    refine HMAY2.out.mono ?_
    rintro e w4 ⟨rfl, hb⟩
    have HB4 := Lib.hid (HB2.out.trans (hb.mono HB2.out.size))
    clear hb
    cases mc with
    | true =>
      have HR := Lib.hid (HRES.out rfl)
      go_wp2
      go_ret
      exact ⟨by rw [HR.out]; rfl, HB4.out⟩
    | false =>
      have HR := Lib.hid (HRES2.out rfl)
      go_wp2
      go_ret
      exact ⟨by rw [HR.out]; rfl, HB4.out⟩
  · go_wp2_with fail
    refine HMAY2.out.mono ?_
    rintro e w4 ⟨rfl, hb⟩
    have HB4 := Lib.hid (HB2.out.trans (hb.mono HB2.out.size))
    clear hb
    cases mc with
    | true =>
      have HR := Lib.hid (HRES.out rfl)
      go_wp2
      go_ret
      exact ⟨by rw [HR.out]; rfl, HB4.out⟩
    | false =>
      have HR := Lib.hid (HRES2.out rfl)
      go_wp2
      go_ret
      exact ⟨by rw [HR.out]; rfl, HB4.out⟩

def FT (_ : Nat) (_ : World) (_ : Value) : Prop := True
theorem FT.stable : Stable FT := fun _ _ _ _ _ _ => trivial
theorem encR_bad (w : World) (v : Value) (p : Prt) (hv : InPr w v p) (hno : ¬ okP p) : Calls Tryz.prog 20 #[v] w fun e w' => e = .returned (.tuple #[.string (encS p), .int .i64 (checkP p)]) ∧ Below w.heap.size w w' := by
  have h1 : checkP p = 2 := if_neg hno
  have h2 : encS p = ByteArray.empty := if_neg hno
  have hb0 := fun o => (Below.refl w.heap.size w).alloc (Nat.le_refl _) o
  have HCK := Lib.hid (fun o => checkR_any _ v p (hv.keep (hb0 o)))
  have HBO := Lib.hid hb0
  rw [h2]
  obtain ⟨sv, rfl, hc, -⟩ := hv
  obtain ⟨a, c, rfl, -⟩ := hc
  rw [h1] at HCK ⊢
  unfold prV at HCK ⊢
  clear hb0 h1 h2 hno
  go_enter Tryz.func20, Tryz.ntmps20
  go_wp2_with fail
  refine (HCK.out _).mono ?_
  rintro e w2 ⟨rfl, hb⟩
  have HB := Lib.hid ((HBO.out _).trans (hb.mono (HBO.out _).size))
  clear hb
  go_wp2
  go_ret2
  exact ⟨rfl, HB.out⟩
set_option maxRecDepth 100000 in
set_option maxHeartbeats 2000000 in
theorem encR_good (w : World) (v : Value) (p : Prt) (hv : InPr w v p) (hok : okP p) : Calls Tryz.prog 20 #[v] w fun e w' => e = .returned (.tuple #[.string (encS p), .int .i64 0]) ∧ Below w.heap.size w w' := by
  have h1 : checkP p = 0 := if_pos hok
  have h2 : encS p = strOf (Crc.sealed (encB p)) := if_pos hok
  have hb0 := (Below.refl w.heap.size w).alloc (Nat.le_refl _)
  have HIN := Lib.hid hv
  obtain ⟨sv, rfl, hc, hw⟩ := hv
  obtain ⟨a, c, rfl, hml, hx⟩ := hc
  have HCK := Lib.hid (fun w' (h : Below w.heap.size w w') => checkR_any _ _ p (HIN.out.keep h))
  rw [h1] at HCK
  have HE := Lib.hid h2
  have HX := Lib.hid hx
  have HOK := Lib.hid hok
  have HBO := Lib.hid hb0
  have hbx := Blk.new w 31 (prA p (.slice a p.cs.length c))
  have HBX := Lib.hid hbx
  have HNR := Lib.hid (fun x => numP_range hw hok x)
  have hcf : IntKind.u64.wrap p.f = p.f := IntWalk.u64_in _ (by have := hok.2.1; have := hok.2.2.1; omega)
  have hca : IntKind.u64.wrap p.a = p.a := IntWalk.u64_in _ (by have := hok.2.1; omega)
  have hcl : p.cs.length ≤ 8 := by have := hok.2.1; have := hok.2.2.1; have := hok.2.2.2.1; omega
  have hcn : IntKind.u64.wrap (p.cs.length : Int) = (p.cs.length : Int) := IntWalk.u64_in _ (by omega)
  unfold prA at HBX
  unfold prV at HCK ⊢
  clear hb0 h1 h2 hx hw hok hbx
  go_enter Tryz.func20, Tryz.ntmps20
  go_wp2_with fail
  refine (HCK.out _ (HBO.out _)).mono ?_
  rintro e w2 ⟨rfl, hb⟩
  have HB2 := Lib.hid ((HBO.out _).trans (hb.mono (HBO.out _).size))
  have hbx2 := HBX.out.keep hb
  have x0 := hbx2.cell 0
  have x1 := hbx2.cell 1
  have x2 := hbx2.cell 2
  have x3 := hbx2.cell 3
  have x4 := hbx2.cell 4
  have x5 := hbx2.cell 5
  have x6 := hbx2.cell 6
  simp only [List.getElem?_toArray, List.getElem?_cons_zero, List.getElem?_cons_succ] at x0 x1 x2 x3 x4 x5 x6
  have HBX2 := Lib.hid hbx2
  clear hb hbx2
  go_wp2_with fail
  have hnc : Blk (w2.alloc (Obj.cells (numC p) 22)) w2.heap.size 22 (numC p) := Blk.new _ _ _
  have hbl := HB2.out.alloc HB2.out.size (Obj.cells (numC p) 22)
  have hbx3 := HBX2.out.alloc (Obj.cells (numC p) 22)
  have HAT := Lib.hid (fun k (hk : k < 7) => numC_at p hk)
  obtain ⟨A, hA⟩ : ∃ A, A = numC p := ⟨_, rfl⟩
  rw [← hA] at hnc hbl hbx3 HAT
  unfold numC at hA
  rw [← hA]
  clear hA x0 x1 x2 x3 x4 x5 x6 HBX2
  generalize w2.alloc (Obj.cells A 22) = W0 at *
  generalize w2.heap.size = ql at *
  have HNC := Lib.hid hnc
  have HB0 := Lib.hid hbl
  have HBP := Lib.hid hbx3
  clear hnc hbl hbx3 hcf hca hcn
  go_loopw [6, 7] (fun s i wr => ∃ k : Nat, k ≤ 7 ∧ s = .string (strOf (numB p (List.range k))) ∧ i = .int .i64 k ∧ Below w.heap.size w wr ∧ Below W0.heap.size W0 wr) (fun _ i _ => 7 - (intOf i).toNat)
  case atStart => exact ⟨0, by omega, rfl, rfl, HB0.out, Below.refl _ _⟩
  case round =>
    obtain ⟨k, hk, rfl, rfl, hb, hb0⟩ := hrel
    have HB := Lib.hid hb
    have HW := Lib.hid hb0
    have HBK := Lib.hid (HBP.out.keep hb0)
    clear hb hb0
    by_cases hkn : k < 7
    · have c0 : wr.cell? ⟨ql, k, none⟩ = some (.int .u64 (numP p k)) := ((HNC.out.keep HW.out).cell k).trans (HAT.out k hkn)
      have hnr := HNR.out k
      have hle := numB_le p (List.range k)
      rw [List.length_range] at hle
      have hsn : numB p (List.range (k + 1)) = numB p (List.range k) ++ Wire.putNum (numP p k).toNat := by rw [List.range_succ, numB_snoc]
      obtain ⟨nn, hnn⟩ : ∃ nn, nn = (numP p k).toNat := ⟨_, rfl⟩
      have hnx : numP p k = (nn : Int) := by omega
      rw [← hnn] at hsn
      rw [hnx] at c0
      have HSN := Lib.hid hsn
      have hsz : (strOf (numB p (List.range k))).size + 100 ≤ maxLen := by rw [strOf_size]; unfold maxLen; omega
      have HPN := Lib.hid (fun w => refPutNum_any (strOf (numB p (List.range k))) nn w (by omega) hsz)
      have HKN := Lib.hid hkn
      have l1 : (k : Int) < 7 := by omega
      have I9 := Lib.hid (wrap_succ hkn (by unfold maxLen; omega))
      clear hnr hle hsn hnn hnx hsz hkn hk
      go_wp2_with fail
      refine (HPN.out _).mono ?_
      rintro e w9 ⟨rfl, hb⟩
      have HB9 := Lib.hid (And.intro (HB.out.trans (hb.mono HB.out.size)) (HW.out.trans (hb.mono HW.out.size)))
      clear hb
      go_wp2
      clear l1
      exact ⟨⟨k + 1, HKN.out, by rw [HSN.out]; rfl, rfl, HB9.out.1, HB9.out.2⟩, meas_succ HKN.out⟩
    · obtain rfl : k = 7 := by omega
      have x6 := HBK.out.cell 6
      simp at x6
      clear hk hkn
      go_wp2_with fail
      have HI := Lib.hid HBK.out
      clear x6
      have hxs := HX.out
      generalize hZ : (fun j => p.cs.getD j (0, ByteArray.empty)) = Z
      have hZj : ∀ j, p.cs.getD j (0, ByteArray.empty) = Z j := fun j => by rw [← hZ]
      obtain ⟨G, hG⟩ : ∃ G : Nat → List UInt8, ∀ k, G k = numB p (List.range 7) ++ (p.cs.take k).flatMap chgB := ⟨_, fun _ => rfl⟩
      have HG0 := Lib.hid (show G 0 = numB p (List.range 7) by rw [hG]; simp)
      have HGS := Lib.hid (fun k (hk : k < p.cs.length) => show G (k + 1) = G k ++ chgB (Z k) by
        rw [hG, hG, List.take_add_one, List.flatMap_append, ← hZj]
        simp [hk])
      have HGN := Lib.hid (show G p.cs.length = encB p by rw [hG, List.take_of_length_le (Nat.le_refl _)]; rfl)
      have HGL := Lib.hid (fun k (hk : k ≤ p.cs.length) => gB_le p hZj HOK.out hG hk)
      have HCR := Lib.hid (fun k (hk : k < p.cs.length) => cg_range p hZj HOK.out hk)
      simp only [hZj] at hxs
      have HXS := Lib.hid hxs
      generalize hpc : p.cs.length = n at *
      clear hxs hZ hZj hG
      generalize wr = W1 at *
      go_loopw [6, 8] (fun s i wr => ∃ k : Nat, k ≤ n ∧ s = .string (strOf (G k)) ∧ i = .int .i64 k ∧ Below w.heap.size w wr ∧ Below W1.heap.size W1 wr) (fun _ i _ => n - (intOf i).toNat)
      case atStart => exact ⟨0, Nat.zero_le _, by rw [HG0.out], rfl, HB.out, Below.refl _ _⟩
      case round =>
      obtain ⟨k, hk, rfl, rfl, hb, hb0⟩ := hrel
      have HBV := Lib.hid (And.intro hb hb0)
      have HPB := Lib.hid (HI.out.keep hb0)
      have y6 := HPB.out.cell 6
      simp at y6
      clear hb hb0
      by_cases hkn : k < n
      · obtain ⟨g, off, rfl, hc0, hc1⟩ := HXS.out k hkn
        have c0 := cell_later HBV.out.1 hc0
        have c1 := cell_later HBV.out.1 hc1
        have hcr := HCR.out k hkn
        have hgs := HGS.out k hkn
        have hgl := HGL.out k (Nat.le_of_lt hkn)
        generalize Z k = zk at *
        obtain ⟨xb, xd⟩ := zk
        unfold chgB at hgs
        dsimp only at c0 c1 hcr hgs
        obtain ⟨⟨r0, r1⟩, r2⟩ := hcr
        obtain ⟨xn, rfl⟩ : ∃ xn : Nat, xb = xn := ⟨xb.toNat, by omega⟩
        rw [Int.toNat_natCast] at hgs
        have i1 : (k : Int) < (n : Int) := by omega
        have HKN := Lib.hid hkn
        have HGK := Lib.hid hgs
        have hpn : xn < 256 ^ 8 := by omega
        have hs1 : (strOf (G k)).size + 100 ≤ maxLen := by rw [strOf_size]; unfold maxLen; omega
        have HPN := Lib.hid (fun w => refPutNum_any (strOf (G k)) xn w hpn hs1)
        have hpl := Wire.putNum_length xn
        have HPT := Lib.hid (fun w => refPutText_any (strOf ((strOf (G k)).data.toList ++ Wire.putNum xn)) xd w (by omega) (by rw [strOf_size, List.length_append]; show (G k).length + _ ≤ _; omega))
        have HCV := Lib.hid (show IntKind.u64.wrap (xn : Int) = (xn : Int) ∧ True from ⟨IntWalk.u64_in _ (by omega), trivial⟩)
        have HC0 := Lib.hid c0
        have HC1 := Lib.hid c1
        have I9 := Lib.hid (wrap_succ hkn (by unfold maxLen; omega))
        clear hc0 hc1 c0 c1 hgs hgl r0 r1 r2 hkn hk hpn hs1 hpl
        go_wp2_with fail
        refine wp_region_spec (fun i => i == 8 || i == 15) (kinds [(8, .is (.string (strOf ((strOf (G k)).data.toList ++ Wire.putNum xn)))), (15, .is (.string (strOf ((strOf ((strOf (G k)).data.toList ++ Wire.putNum xn)).data.toList ++ Wire.putText xd.data.toList))))]) (CF wr FT) (by kernel_rfl) (by kernel_rfl) (kinds_inh _) CF.start ?_
        intro ν hν
        have n8 : ν 8 = .string (strOf ((strOf (G k)).data.toList ++ Wire.putNum xn)) := hν 8
        have n15 : ν 15 = .string (strOf ((strOf ((strOf (G k)).data.toList ++ Wire.putNum xn)).data.toList ++ Wire.putText xd.data.toList)) := hν 15
        clear hν
        refine lex_plain (by rfl) rfl ?_
        apply Exists.intro
        refine ⟨fun σ w2 hA hD hC => ?_, ?_⟩
        · clear hA hD hC
          go_simp
          exact And.intro rfl rfl
        simp only [Act.put, List.setIfInBounds_toArray, List.set_cons_succ, List.set_cons_zero, Nat.reduceAdd]
        refine lex_plain (by rfl) rfl ?_
        apply Exists.intro
        refine ⟨fun σ w2 hA hD hC => ?_, ?_⟩
        · clear hA hD hC
          go_simp
          exact And.intro rfl rfl
        simp only [Act.put, List.setIfInBounds_toArray, List.set_cons_succ, List.set_cons_zero, Nat.reduceAdd]
        refine lex_plain (by rfl) rfl ?_
        apply Exists.intro
        refine ⟨fun σ w2 hA hD hC => ?_, ?_⟩
        · have hx := (HPB.out.keep hC.1).cell 6
          simp at hx
          clear hA hD hC
          go_simp
          exact And.intro rfl rfl
        simp only [Act.put, List.setIfInBounds_toArray, List.set_cons_succ, List.set_cons_zero, Nat.reduceAdd]
        refine lex_plain (by rfl) rfl ?_
        apply Exists.intro
        refine ⟨fun σ w2 hA hD hC => ?_, ?_⟩
        · clear hA hD hC
          go_simp
          exact And.intro rfl rfl
        simp only [Act.put, List.setIfInBounds_toArray, List.set_cons_succ, List.set_cons_zero, Nat.reduceAdd]
        refine lex_plain (by rfl) rfl ?_
        apply Exists.intro
        refine ⟨fun σ w2 hA hD hC => ?_, ?_⟩
        · clear hA hD hC
          go_simp
          exact And.intro rfl rfl
        simp only [Act.put, List.setIfInBounds_toArray, List.set_cons_succ, List.set_cons_zero, Nat.reduceAdd]
        refine lex_plain (by rfl) rfl ?_
        apply Exists.intro
        refine ⟨fun σ w2 hA hD hC => ?_, ?_⟩
        · clear hA hD hC
          go_simp
          exact And.intro rfl rfl
        simp only [Act.put, List.setIfInBounds_toArray, List.set_cons_succ, List.set_cons_zero, Nat.reduceAdd]
        refine lex_plain (by rfl) rfl ?_
        apply Exists.intro
        refine ⟨fun σ w2 hA hD hC => ?_, ?_⟩
        · have hx := cell_later hC.1 HC0.out
          clear hA hD hC
          go_simp
          exact And.intro rfl rfl
        simp only [Act.put, List.setIfInBounds_toArray, List.set_cons_succ, List.set_cons_zero, Nat.reduceAdd]
        refine lex_plain (by rfl) rfl ?_
        apply Exists.intro
        refine ⟨fun σ w2 hA hD hC => ?_, ?_⟩
        · have hx := HCV.out.1
          clear hA hD hC
          go_simp
          exact And.intro rfl rfl
        simp only [Act.put, List.setIfInBounds_toArray, List.set_cons_succ, List.set_cons_zero, Nat.reduceAdd]
        refine lex_special (by rfl) rfl (fun σ w2 hA hD hn hC => ?_) ?_
        · go_simp
          refine call_ok FT.stable hC ((HPN.out _).mono ?_)
          rintro e' w' ⟨rfl, hb⟩
          exact ⟨_, rfl, rfl, trivial, hb⟩
        rw [n8]
        simp only [Act.put, List.setIfInBounds_toArray, List.set_cons_succ, List.set_cons_zero, Nat.reduceAdd]
        refine lex_plain (by rfl) rfl ?_
        apply Exists.intro
        refine ⟨fun σ w2 hA hD hC => ?_, ?_⟩
        · clear hA hD hC
          go_simp
          exact And.intro rfl rfl
        simp only [Act.put, List.setIfInBounds_toArray, List.set_cons_succ, List.set_cons_zero, Nat.reduceAdd]
        refine lex_plain (by rfl) rfl ?_
        apply Exists.intro
        refine ⟨fun σ w2 hA hD hC => ?_, ?_⟩
        · have hx := (HPB.out.keep hC.1).cell 6
          simp at hx
          clear hA hD hC
          go_simp
          exact And.intro rfl rfl
        simp only [Act.put, List.setIfInBounds_toArray, List.set_cons_succ, List.set_cons_zero, Nat.reduceAdd]
        refine lex_plain (by rfl) rfl ?_
        apply Exists.intro
        refine ⟨fun σ w2 hA hD hC => ?_, ?_⟩
        · clear hA hD hC
          go_simp
          exact And.intro rfl rfl
        simp only [Act.put, List.setIfInBounds_toArray, List.set_cons_succ, List.set_cons_zero, Nat.reduceAdd]
        refine lex_plain (by rfl) rfl ?_
        apply Exists.intro
        refine ⟨fun σ w2 hA hD hC => ?_, ?_⟩
        · clear hA hD hC
          go_simp
          exact And.intro rfl rfl
        simp only [Act.put, List.setIfInBounds_toArray, List.set_cons_succ, List.set_cons_zero, Nat.reduceAdd]
        refine lex_plain (by rfl) rfl ?_
        apply Exists.intro
        refine ⟨fun σ w2 hA hD hC => ?_, ?_⟩
        · clear hA hD hC
          go_simp
          exact And.intro rfl rfl
        simp only [Act.put, List.setIfInBounds_toArray, List.set_cons_succ, List.set_cons_zero, Nat.reduceAdd]
        refine lex_plain (by rfl) rfl ?_
        apply Exists.intro
        refine ⟨fun σ w2 hA hD hC => ?_, ?_⟩
        · have hx := cell_later hC.1 HC1.out
          clear hA hD hC
          go_simp
          exact And.intro rfl rfl
        simp only [Act.put, List.setIfInBounds_toArray, List.set_cons_succ, List.set_cons_zero, Nat.reduceAdd]
        refine lex_special (by rfl) rfl (fun σ w2 hA hD hn hC => ?_) ?_
        · have e8 := got1 hA hD 8 rfl (by kernel_rfl)
          go_simp
          refine call_ok FT.stable hC ((HPT.out _).mono ?_)
          rintro e' w' ⟨rfl, hb⟩
          exact ⟨_, rfl, rfl, trivial, hb⟩
        rw [n15]
        simp only [Act.put, List.setIfInBounds_toArray, List.set_cons_succ, List.set_cons_zero, Nat.reduceAdd]
        refine lex_plain (by rfl) rfl ?_
        apply Exists.intro
        refine ⟨fun σ w2 hA hD hC => ?_, ?_⟩
        · clear hA hD hC
          go_simp
          exact And.intro rfl rfl
        simp only [Act.put, List.setIfInBounds_toArray, List.set_cons_succ, List.set_cons_zero, Nat.reduceAdd]
        refine lex_nil (fun σ w9 hA hall hC => ?_)
        have HF := Lib.hid hC.1
        clear hA hall hC n8 n15
        go_wp2
        clear i1
        exact ⟨⟨k + 1, HKN.out, by rw [HGK.out, ← List.append_assoc]; rfl, rfl, HBV.out.1.trans (HF.out.mono HBV.out.1.size), HBV.out.2.trans (HF.out.mono HBV.out.2.size)⟩, meas_succ HKN.out⟩
      · obtain rfl : k = n := by omega
        have i1 : ¬ ((k : Int) < (k : Int)) := by omega
        have hsl : (strOf (G k)).size + 4 ≤ maxLen := by rw [strOf_size]; have := HGL.out k (Nat.le_refl _); unfold maxLen; omega
        have HSL := Lib.hid (fun w => refSeal_any (strOf (G k)) w hsl)
        have HS := Lib.hid (show strOf (Crc.sealed (strOf (G k)).data.toList) = encS p by rw [HE.out, ← HGN.out]; rfl)
        clear hsl hk hkn
        go_wp2_with fail
        refine (HSL.out _).mono ?_
        rintro e w9 ⟨rfl, hb⟩
        have hbb := HBV.out.1.trans (hb.mono HBV.out.1.size)
        go_wp2
        go_ret2
        rw [HS.out]
        exact ⟨rfl, hbb⟩
theorem encR_any (w : World) (v : Value) (p : Prt) (hv : InPr w v p) : Calls Tryz.prog 20 #[v] w fun e w' => e = .returned (.tuple #[.string (encS p), .int .i64 (checkP p)]) ∧ Below w.heap.size w w' := by
  by_cases h : okP p
  · have e : checkP p = 0 := if_pos h
    rw [e]
    exact encR_good w v p hv h
  · exact encR_bad w v p hv h

theorem RdR.below {w w' : World} {r B : Nat} {st : Wire.St} (h : RdR w r st) (hb : Below B w w') (hr : r < B) : RdR w' r st := by
  cases st with
  | none => obtain ⟨s, b⟩ := h; exact ⟨s, b.below hb hr⟩
  | some l => exact ⟨h.1, h.2.below hb hr⟩
theorem RdR.set {w : World} {r g : Nat} {st : Wire.St} (h : RdR w r st) (hg : r ≠ g) (i : Nat) (u : Value) : RdR (w.setCell ⟨g, i, none⟩ u) r st := by
  cases st with
  | none => obtain ⟨s, b⟩ := h; exact ⟨s, b.far (p := ⟨g, i, none⟩) hg u⟩
  | some l => exact ⟨h.1, h.2.far (p := ⟨g, i, none⟩) hg u⟩
def numArr (n : Nat → Nat) (k : Nat) : Array Value := ((List.range k).map (fun j => Value.int .u64 (n j : Int)) ++ List.replicate (7 - k) (Value.int .u64 0)).toArray
theorem numArr_set (n : Nat → Nat) (k : Nat) (h : k < 7) : (numArr n k).setIfInBounds k (.int .u64 (n k : Int)) = numArr n (k + 1) := by
  unfold numArr
  rw [List.setIfInBounds_toArray, List.set_append_right _ _ (by simp), List.length_map, List.length_range, Nat.sub_self, show 7 - k = (7 - (k + 1)) + 1 from by omega, List.replicate_succ, List.set_cons_zero, List.range_succ, List.map_append, List.append_assoc]
  rfl
theorem numArr_old (n : Nat → Nat) (k : Nat) (h : k < 7) : (numArr n k)[k]? = some (.int .u64 0) := by
  unfold numArr
  rw [List.getElem?_toArray, List.getElem?_append_right (by simp), List.length_map, List.length_range, Nat.sub_self, List.getElem?_replicate, if_pos (by omega)]
theorem numArr_7 (n : Nat → Nat) : numArr n 7 = #[.int .u64 (n 0 : Int), .int .u64 (n 1 : Int), .int .u64 (n 2 : Int), .int .u64 (n 3 : Int), .int .u64 (n 4 : Int), .int .u64 (n 5 : Int), .int .u64 (n 6 : Int)] := rfl
/-- while a part is read: the reader r, its numbers (A), the part (P) -/
structure DR (W : World) (r A P : Nat) (st : Wire.St) (ar cs : Array Value) (w : World) : Prop where
  rd : RdR w r st
  ba : Blk w A 115 ar
  bp : Blk w P 31 cs
  kp : Kp (fun b => b = r ∨ b = P) W w
  o1 : r < A
  o2 : A < P
  o3 : P < W.heap.size
section
variable {W w w' : World} {r A P : Nat} {st st' : Wire.St} {ar cs : Array Value}
theorem DR.read (h : DR W r A P st ar cs w) (hg : w.grownBy w' (some r)) (hr : RdR w' r st') : DR W r A P st' ar cs w' := by
  have h1 := h.o1
  have h2 := h.o2
  have hk := Kp.of_row hg
  exact ⟨hr, hk.blk h.ba (A := (· = r)) (by omega), hk.blk h.bp (A := (· = r)) (by omega), h.kp.trans (hk.mono fun b hb => .inl hb), h1, h2, h.o3⟩
theorem DR.set (h : DR W r A P st ar cs w) (i : Nat) (u : Value) : DR W r A P st ar (cs.setIfInBounds i u) (w.setCell ⟨P, i, none⟩ u) := by
  have h1 := h.o1
  have h2 := h.o2
  exact ⟨h.rd.set (by omega) _ _, h.ba.far (p := ⟨P, i, none⟩) (by show A ≠ P; omega) u, h.bp.set i u, h.kp.set (p := ⟨P, i, none⟩) (.inr rfl) u, h1, h2, h.o3⟩
theorem DR.keep (h : DR W r A P st ar cs w) (hb : Below w.heap.size w w') : DR W r A P st ar cs w' :=
  ⟨h.rd.keep hb, h.ba.keep hb, h.bp.keep hb, h.kp.ext (hb.mono h.kp.size), h.o1, h.o2, h.o3⟩
theorem DR.above (h : DR W r A P st ar cs w) (hb : Below W.heap.size w w') : DR W r A P st ar cs w' := by
  have h1 := h.o1
  have h2 := h.o2
  have h3 := h.o3
  exact ⟨h.rd.below hb (by omega), h.ba.below hb (by omega), h.bp.below hb h3, h.kp.ext hb, h1, h2, h3⟩
end
theorem numR_lit {r : Nat} {st st' : Wire.St} {w : World} {m : Nat} (h : RdR w r st) (hm : (Wire.num st).1 = m) (hs : nx st = st') :
    Calls Tryz.prog 63 #[.pointer (some ⟨r, 0, none⟩)] w fun e w' => e = .returned (.int .u64 (m : Int)) ∧ RdR w' r st' ∧ w.grownBy w' (some r) := by
  subst hm hs
  exact refNum_any r st w h
theorem textR_lit {r : Nat} {st st' : Wire.St} {w : World} {t : ByteArray} (h : RdR w r st) (ht : strOf (Wire.text st).1 = t) (hs : (Wire.text st).2 = st') :
    Calls Tryz.prog 68 #[.pointer (some ⟨r, 0, none⟩)] w fun e w' => e = .returned (.string t) ∧ RdR w' r st' ∧ w.grownBy w' (some r) := by
  subst ht hs
  exact refText_any r st w h
theorem meas_succ_u {k m : Nat} (h : k < m) : m - (intOf (Value.int .u64 ((k : Int) + 1))).toNat < m - (intOf (Value.int .u64 (k : Int))).toNat := by
  simp [intOf]
  omega
def JR (W : World) (r A P : Nat) (st1 st2 : Wire.St) (ar : Array Value) (c0 : Value → Array Value) (sl : Value) (cs : List Cg) (x : Cg) : List Value → World → Prop
  | [], w => DR W r A P st1 ar (c0 sl) w ∧ OwC w W.heap.size sl cs
  | [_], w => DR W r A P st2 ar (c0 sl) w ∧ OwC w W.heap.size sl cs
  | [_, u], w => DR W r A P st2 ar (c0 sl) w ∧ OwC w W.heap.size sl cs ∧ (∃ g c, u = .slice (some ⟨g, 0, none⟩) 1 c ∧ 1 ≤ c ∧ w.rangeAt g 0 (cgL x))
  | [_, _, u], w => DR W r A P st2 ar (c0 sl) w ∧ OwC w W.heap.size u (cs ++ [x])
  | [_, _, u, _], w => DR W r A P st2 ar (c0 u) w ∧ OwC w W.heap.size u (cs ++ [x])
  | _, _ => False
set_option maxRecDepth 100000 in
set_option maxHeartbeats 1000000 in
theorem decR_shut (w : World) (s : ByteArray) (hs : s.size ≤ maxLen) (ho : Crc.opens s.data.toList = false) : Calls Tryz.prog 67 #[.string s] w (DecT w zeroP 4) := by
  unfold DecT
  have HOP := Lib.hid (fun w => refOpen_any s w hs)
  rw [openV, if_neg (by rw [ho]; exact Bool.false_ne_true)] at HOP
  have hb0 := (Below.refl w.heap.size w).alloc (Nat.le_refl _) (Obj.cells #[.int .u64 0, .int .u64 0, .int .u64 0, .int .u64 0, .int .i64 0, .int .i64 0, .slice none 0 0] 31)
  have hz0 := Blk.new w 31 #[.int .u64 0, .int .u64 0, .int .u64 0, .int .u64 0, .int .i64 0, .int .i64 0, .slice none 0 0]
  clear ho hs
  go_enter Tryz.func67, Tryz.ntmps67
  go_wp2_with fail
  generalize w.alloc (Obj.cells #[.int .u64 0, .int .u64 0, .int .u64 0, .int .u64 0, .int .i64 0, .int .i64 0, .slice none 0 0] 31) = w1 at *
  have HB0 := Lib.hid hb0
  have HZ0 := Lib.hid hz0
  clear hb0 hz0
  refine (HOP.out w1).mono ?_
  rintro e w2 ⟨rfl, hb⟩
  have HB2 := Lib.hid (HB0.out.trans (hb.mono HB0.out.size))
  have HZ2 := Lib.hid (HZ0.out.keep hb)
  clear hb
  go_wp2_with (refine wpList_store_then rfl 31 _ _ rfl w.heap.size #[.int .u64 0, .int .u64 0, .int .u64 0, .int .u64 0, .int .i64 0, .int .i64 0, .slice none 0 0] rfl rfl 31 _ HZ2.out part_size rfl (part_one _ _ _ _ _ _ _ _ _) ?_)
  refine Later.mk fun w9 hw9 => ?_
  have H9 := Lib.hid (show Below w.heap.size w w9 ∧ Blk w9 w.heap.size 31 #[.int .u64 0, .int .u64 0, .int .u64 0, .int .u64 0, .int .i64 0, .int .i64 0, .slice none 0 0] by
    rw [hw9]
    exact ⟨Below.setRow HB2.out (Nat.le_refl _) _, HZ2.out.row _⟩)
  clear hw9
  go_wp2
  refine bodyPost_ret (results_cell2 (ty := 31) (g := w.heap.size) (k := 2) (m := 3) rfl rfl rfl H9.out.2 Tryz.underlying31 rfl part_size) rfl ⟨_, rfl, ⟨_, rfl, OwC.nil_ _ _, zero_wf⟩, H9.out.1⟩
set_option maxRecDepth 100000 in
set_option maxHeartbeats 4000000 in
theorem decR_open (w : World) (s : ByteArray) (hs : s.size ≤ maxLen) (hs2 : s.size ≤ 1152921504606846976) (ho : Crc.opens s.data.toList = true) : Calls Tryz.prog 67 #[.string s] w (DecT w (decP 99 9 s) (decE 99 9 s)) := by
  unfold DecT
  have HOP := Lib.hid (fun w => refOpen_any s w hs)
  rw [openV, if_pos ho] at HOP
  have HLN := Lib.hid (show (s.data.toList.take (s.size - 4)).length ≤ 1152921504606846976 by
    rw [List.length_take, Array.length_toList]
    show min (s.size - 4) s.size ≤ _
    omega)
  have hgood := fun h : okP (readP 99 9 (txt s)) ∧ encS (readP 99 9 (txt s)) = s => show decP 99 9 s = readP 99 9 (txt s) ∧ decE 99 9 s = 0 from ⟨if_pos ⟨ho, h⟩, if_pos ⟨ho, h⟩⟩
  have hbad := fun h : ¬ (okP (readP 99 9 (txt s)) ∧ encS (readP 99 9 (txt s)) = s) => show decP 99 9 s = zeroP ∧ decE 99 9 s = 4 from ⟨if_neg (fun q => h q.2), if_neg (fun q => h q.2)⟩
  generalize decP 99 9 s = dp at *
  generalize decE 99 9 s = de at *
  obtain ⟨p, hp⟩ : ∃ p, p = readP 99 9 (txt s) := ⟨_, rfl⟩
  rw [← hp] at hgood hbad
  have HGOOD := Lib.hid hgood
  have HBAD := Lib.hid hbad
  have HWF := Lib.hid (show wfPr p by rw [hp]; exact read_wf 99 9 _ (by omega))
  obtain ⟨SS, hSS⟩ : ∃ SS : Nat → Wire.St, ∀ k, SS k = nSt (txt s) k := ⟨_, fun _ => rfl⟩
  obtain ⟨n, hn⟩ : ∃ n : Nat → Nat, ∀ k, (Wire.num (SS k)).1 = n k := ⟨_, fun _ => rfl⟩
  have hnx : ∀ k, nx (SS k) = SS (k + 1) := fun k => by rw [hSS, hSS]; rfl
  have hat : ∀ k, nAt (txt s) k = n k := fun k => by rw [← hn, hSS]; rfl
  obtain ⟨m4, hm4⟩ : ∃ m, min (n 4) 99 = m := ⟨_, rfl⟩
  obtain ⟨m5, hm5⟩ : ∃ m, min (n 5) 99 = m := ⟨_, rfl⟩
  obtain ⟨cnt, hcnt⟩ : ∃ m, min (n 6) 9 = m := ⟨_, rfl⟩
  have hpp : p = ⟨((n 0 : Nat), (n 1 : Nat)), ((n 2 : Nat), (n 3 : Nat)), (m4 : Nat), (m5 : Nat), chgL 99 (SS 7) cnt⟩ := by
    rw [hp]
    unfold readP
    rw [hat, hat, hat, hat, hat, hat, hat, hm4, hm5, hcnt, ← hSS]
  have HP := Lib.hid hpp
  have HSS0 := Lib.hid (show SS 0 = txt s from hSS 0)
  have HN := Lib.hid hn
  have HNX := Lib.hid hnx
  have HM := Lib.hid (show min ((n 4 : Nat) : Int) 99 = (m4 : Int) ∧ min ((n 5 : Nat) : Int) 99 = (m5 : Int) ∧ IntKind.i64.wrap (m4 : Int) = (m4 : Int) ∧ IntKind.i64.wrap (m5 : Int) = (m5 : Int) ∧ wrap64 (m4 : Int) = (m4 : Int) ∧ wrap64 (m5 : Int) = (m5 : Int) from
    ⟨by omega, by omega, IntWalk.i64_in _ (by omega), IntWalk.i64_in _ (by omega), IntWalk.wrap64_in _ (by omega), IntWalk.wrap64_in _ (by omega)⟩)
  have HC2 := Lib.hid (show cnt ≤ 9 ∧ cnt ≤ n 6 ∧ (cnt < 9 → n 6 = cnt) from by omega)
  obtain ⟨CS, hCS⟩ : ∃ CS : Nat → Wire.St, ∀ k, CS k = cSt (SS 7) k := ⟨_, fun _ => rfl⟩
  obtain ⟨X, hX⟩ : ∃ X : Nat → Cg, ∀ k, X k = rChg 99 (CS k) := ⟨_, fun _ => rfl⟩
  obtain ⟨S, hS⟩ : ∃ S : Nat → List Cg, ∀ k, S k = chgL 99 (SS 7) k := ⟨_, fun _ => rfl⟩
  have HS0 := Lib.hid (show S 0 = [] ∧ CS 0 = SS 7 from ⟨by rw [hS]; rfl, by rw [hCS]; rfl⟩)
  have HSN := Lib.hid (fun k => show S (k + 1) = S k ++ [X k] by rw [hS, hS, hX, hCS, chgL_succ])
  have HSL := Lib.hid (fun k => show (S k).length = k by rw [hS, chgL_length])
  have HCS := Lib.hid (fun k => show (Wire.text (nx (CS k))).2 = CS (k + 1) by rw [hCS, hCS]; rfl)
  have HX := Lib.hid hX
  have HSE := Lib.hid (show p.cs = S cnt by rw [hpp, hS])
  have hb0 := (Below.refl w.heap.size w).alloc (Nat.le_refl _) (Obj.cells #[.int .u64 0, .int .u64 0, .int .u64 0, .int .u64 0, .int .i64 0, .int .i64 0, .slice none 0 0] 31)
  have hz0 := Blk.new w 31 #[.int .u64 0, .int .u64 0, .int .u64 0, .int .u64 0, .int .i64 0, .int .i64 0, .slice none 0 0]
  clear ho hs hs2 hgood hbad hp hpp hSS hn hnx hat hm4 hm5 hcnt hCS hX hS
  go_enter Tryz.func67, Tryz.ntmps67
  go_wp2_with fail
  generalize w.alloc (Obj.cells #[.int .u64 0, .int .u64 0, .int .u64 0, .int .u64 0, .int .i64 0, .int .i64 0, .slice none 0 0] 31) = w1 at *
  have HB0 := Lib.hid hb0
  have HZ0 := Lib.hid hz0
  clear hb0 hz0
  refine (HOP.out w1).mono ?_
  rintro e w2 ⟨rfl, hb⟩
  have HB2 := Lib.hid (HB0.out.trans (hb.mono HB0.out.size))
  have HZ2 := Lib.hid (HZ0.out.keep hb)
  clear hb HZ0 HB0 HOP
  go_wp2_with fail
  obtain ⟨arr, harr⟩ : ∃ ar : Array Value, ar = #[.int .u64 0, .int .u64 0, .int .u64 0, .int .u64 0, .int .u64 0, .int .u64 0, .int .u64 0] := ⟨_, rfl⟩
  have hb3 := ((Below.refl w2.heap.size w2).alloc (Nat.le_refl _) (Obj.cells #[.string (strOf (s.data.toList.take (s.size - 4))), .bool false] 68)).alloc (by simp) (Obj.cells #[.int .u64 0, .int .u64 0, .int .u64 0, .int .u64 0, .int .u64 0, .int .u64 0, .int .u64 0] 115)
  have hr3 := (Blk.new w2 68 #[.string (strOf (s.data.toList.take (s.size - 4))), .bool false]).alloc (Obj.cells #[.int .u64 0, .int .u64 0, .int .u64 0, .int .u64 0, .int .u64 0, .int .u64 0, .int .u64 0] 115)
  have ha3 := Blk.newAt (w := w2.alloc (Obj.cells #[.string (strOf (s.data.toList.take (s.size - 4))), .bool false] 68)) 115 #[.int .u64 0, .int .u64 0, .int .u64 0, .int .u64 0, .int .u64 0, .int .u64 0, .int .u64 0] (g := w2.heap.size + 1) (by simp)
  generalize hW1 : (w2.alloc (Obj.cells #[.string (strOf (s.data.toList.take (s.size - 4))), .bool false] 68)).alloc (Obj.cells #[.int .u64 0, .int .u64 0, .int .u64 0, .int .u64 0, .int .u64 0, .int .u64 0, .int .u64 0] 115) = W1 at *
  have HR3 := Lib.hid (show RdR W1 w2.heap.size (SS 0) from by rw [HSS0.out]; exact ⟨HLN.out, hr3⟩)
  have HA3 := Lib.hid (show Blk W1 (w2.heap.size + 1) 115 (numArr n 0) from ha3)
  have HB3 := Lib.hid (HB2.out.trans (hb3.mono HB2.out.size))
  have HZ3 := Lib.hid (And.intro (HZ2.out.keep hb3) HZ2.out.lt)
  have HR0 := Lib.hid HB2.out.size
  clear hb3 hr3 ha3 hW1 harr arr HZ2 HB2 HLN
  generalize w2.heap.size = r at *
  go_loopw [8] (fun i wr => ∃ k : Nat, k ≤ 7 ∧ i = .int .i64 k ∧ RdR wr r (SS k) ∧ Blk wr (r + 1) 115 (numArr n k) ∧ Kp (fun b => b = r ∨ b = r + 1) W1 wr) (fun i _ => 7 - (intOf i).toNat)
  case atStart => exact ⟨0, Nat.zero_le _, rfl, HR3.out, HA3.out, Kp.refl _ _⟩
  case round =>
    obtain ⟨k, hk, rfl, hrd, hba, hkp⟩ := hrel
    have HRD := Lib.hid hrd
    have HBA := Lib.hid hba
    have HKP := Lib.hid hkp
    clear hrd hba hkp
    by_cases hlt : k < 7
    · have i1 : (k : Int) < 7 := by omega
      have i0 : (0 : Int) ≤ (k : Int) := by omega
      have HLT := Lib.hid hlt
      clear hlt hk
      go_wp2_with fail
      refine (numR_lit HRD.out (HN.out k) (HNX.out k)).mono ?_
      rintro e wx ⟨rfl, h1, h2⟩
      have hbx := (Kp.of_row h2).blk HBA.out (A := (· = r)) (by omega)
      have c1 := (hbx.cell k).trans (numArr_old n k HLT.out)
      have f1 := hbx.frozen k
      have hbs := hbx.set k (.int .u64 (n k : Int))
      rw [numArr_set n k HLT.out] at hbs
      have HF := Lib.hid (And.intro (RdR.set h1 (show r ≠ r + 1 by omega) k (.int .u64 (n k : Int))) (And.intro hbs ((HKP.out.trans ((Kp.of_row h2).mono (fun b hb => .inl hb))).set (A := fun b => b = r ∨ b = r + 1) (p := ⟨r + 1, k, none⟩) (.inr rfl) (.int .u64 (n k : Int)))))
      clear hbx hbs h1 h2
      go_wp2
      exact ⟨⟨k + 1, HLT.out, rfl, HF.out.1, HF.out.2.1, HF.out.2.2⟩, meas_succ HLT.out⟩
    · obtain rfl : k = 7 := by omega
      rw [show ((7 : Nat) : Int) = 7 from rfl]
      have ha := HBA.out
      rw [numArr_7] at ha
      have a0 := ha.cell 0
      have a1 := ha.cell 1
      have a2 := ha.cell 2
      have a3 := ha.cell 3
      have a4 := ha.cell 4
      have a5 := ha.cell 5
      simp at a0 a1 a2 a3 a4 a5
      obtain ⟨q1, q2, q3, q4, q5, q6⟩ := HM.out
      have HBR := Lib.hid (show Below w.heap.size w wr from HB3.out.trans (HKP.out.below (fun b hb => by have := HR0.out; omega) HB3.out.size))
      have HZR := Lib.hid (show Blk wr w.heap.size 31 #[.int .u64 0, .int .u64 0, .int .u64 0, .int .u64 0, .int .i64 0, .int .i64 0, .slice none 0 0] from HKP.out.blk HZ3.out.1 (by have := HZ3.out.2; omega))
      have HRZ := Lib.hid (show w.heap.size < r from HZ3.out.2)
      have HSZ := Lib.hid HBA.out.lt
      clear hlt hk ha
      go_wp2_with fail
      clear a0 a1 a2 a3 a4 a5 q1 q2 q3 q4 q5 q6
      have hbb := (Below.refl wr.heap.size wr).alloc (Nat.le_refl _) (Obj.cells #[.int .u64 (n 0 : Int), .int .u64 (n 1 : Int), .int .u64 (n 2 : Int), .int .u64 (n 3 : Int), .int .i64 (m4 : Int), .int .i64 (m5 : Int), .slice none 0 0] 31)
      have hdr : DR (wr.alloc (Obj.cells #[.int .u64 (n 0 : Int), .int .u64 (n 1 : Int), .int .u64 (n 2 : Int), .int .u64 (n 3 : Int), .int .i64 (m4 : Int), .int .i64 (m5 : Int), .slice none 0 0] 31)) r (r + 1) wr.heap.size (SS 7) (numArr n 7) #[.int .u64 (n 0 : Int), .int .u64 (n 1 : Int), .int .u64 (n 2 : Int), .int .u64 (n 3 : Int), .int .i64 (m4 : Int), .int .i64 (m5 : Int), .slice none 0 0] (wr.alloc (Obj.cells #[.int .u64 (n 0 : Int), .int .u64 (n 1 : Int), .int .u64 (n 2 : Int), .int .u64 (n 3 : Int), .int .i64 (m4 : Int), .int .i64 (m5 : Int), .slice none 0 0] 31)) :=
        ⟨HRD.out.keep hbb, HBA.out.keep hbb, Blk.new _ _ _, Kp.refl _ _, by omega, HSZ.out, by simp⟩
      have hz6 := HZR.out.keep hbb
      have hb6 := HBR.out.trans (hbb.mono HBR.out.size)
      generalize hPn : wr.heap.size = P at *
      generalize wr.alloc (Obj.cells #[.int .u64 (n 0 : Int), .int .u64 (n 1 : Int), .int .u64 (n 2 : Int), .int .u64 (n 3 : Int), .int .i64 (m4 : Int), .int .i64 (m5 : Int), .slice none 0 0] 31) = W at *
      obtain ⟨c0, hc0⟩ : ∃ c0 : Value → Array Value, ∀ sl, c0 sl = #[.int .u64 (n 0 : Int), .int .u64 (n 1 : Int), .int .u64 (n 2 : Int), .int .u64 (n 3 : Int), .int .i64 (m4 : Int), .int .i64 (m5 : Int), sl] := ⟨_, fun _ => rfl⟩
      rw [← hc0] at hdr
      have HD13 := Lib.hid hdr
      have HC0 := Lib.hid hc0
      have HZW := Lib.hid hz6
      have HBW := Lib.hid hb6
      clear hbb hdr hz6 hb6 hPn hc0 HRD HBA HKP HBR HZR HSZ
      go_loopw [10] (fun i wr => ∃ (k : Nat) (sl : Value), k ≤ cnt ∧ i = .int .u64 k ∧ DR W r (r + 1) P (CS k) (numArr n 7) (c0 sl) wr ∧ OwC wr W.heap.size sl (S k)) (fun i _ => cnt - (intOf i).toNat)
      case atStart => exact ⟨0, _, Nat.zero_le _, rfl, by rw [HS0.out.2]; exact HD13.out, by rw [HS0.out.1]; exact OwC.nil_ _ _⟩
      case round =>
        obtain ⟨k, sl, hk, rfl, hd, hown⟩ := hrel
        have HDR := Lib.hid hd
        have HOR := Lib.hid hown
        have a6 := hd.ba.cell 6
        rw [numArr_7] at a6
        simp at a6
        clear hd hown
        by_cases hkc : k < cnt
        · have hcx := HX.out k
          have hsn := HSN.out k
          have hcs := HCS.out k
          obtain ⟨hc2, hc3, hc4⟩ := HC2.out
          generalize hXk : X k = x at *
          obtain ⟨xb, xd⟩ := x
          unfold rChg at hcx
          simp only [Prod.mk.injEq] at hcx
          obtain ⟨hxb, hxd⟩ := hcx
          obtain ⟨nb, hnb⟩ : ∃ b, (Wire.num (CS k)).1 = b := ⟨_, rfl⟩
          obtain ⟨b, hb⟩ : ∃ b, min (Wire.num (CS k)).1 99 = b := ⟨_, rfl⟩
          rw [hb] at hxb
          subst hxb
          rw [hnb] at hb
          have hmb : min (nb : Int) 99 = (b : Int) := by omega
          have hwb : IntKind.i64.wrap (b : Int) = (b : Int) ∧ wrap64 (b : Int) = (b : Int) := ⟨IntWalk.i64_in _ (by omega), IntWalk.wrap64_in _ (by omega)⟩
          have HMB := Lib.hid (And.intro hmb hwb)
          have HXX := Lib.hid (And.intro hnb (And.intro hxd.symm (And.intro hsn hcs)))
          have HKC := Lib.hid hkc
          have HLE := Lib.hid (show (S k).length + 1 ≤ 2 ^ 40 from by rw [HSL.out]; omega)
          have i1 : k < n 6 := by omega
          have i2 : (k : Int) < (n 6 : Int) := by omega
          have i3 : (k : Int) < 9 := by omega
          clear hb hxd hsn hcs hk hkc hXk hc2 hc3 hc4 hmb hwb hnb
          go_wp2_with fail
          clear i1 i2 i3 a6
          refine (numR_lit HDR.out.rd HXX.out.1 rfl).mono ?_
          rintro e wx ⟨rfl, h1, h2⟩
          have HDX := Lib.hid (HDR.out.read h2 h1)
          have HOX := Lib.hid (HOR.out.row h2 (by have h3 := HDR.out.o1; have h4 := HDR.out.o2; have h5 := HDR.out.o3; omega))
          obtain ⟨q1, q2, q3⟩ := HMB.out
          clear h1 h2
          go_wp2_with fail
          clear q1 q2 q3
          refine wp_region_chain [4, 6, 7, 9] (kv [(4, .is (.string xd)), (6, .sl 1), (7, .sla ((S k).length + 1)), (9, .is undef)]) (JR W r (r + 1) P (nx (CS k)) (CS (k + 1)) (numArr n 7) c0 sl (S k) ((b : Int), xd)) (by kernel_rfl) (by kernel_rfl) (by kernel_rfl) (kv_inh _) (⟨HDX.out.keep (Below.drew (Below.refl _ _)), HOX.out.keep (Below.drew (Below.refl _ _))⟩) ?_
          intro ν hν
          have n4 : ν 4 = .string xd := hν 4
          obtain ⟨g6, n6⟩ : ∃ g, ν 6 = .slice (some ⟨g, 0, none⟩) 1 1 := hν 6
          obtain ⟨a7, c7, n7⟩ : ∃ a c, ν 7 = .slice a ((S k).length + 1) c := hν 7
          have n9 : ν 9 = undef := hν 9
          clear hν
          refine ch_plain 0 4 1 (by rfl) rfl (by kernel_rfl) (by kernel_rfl) ?_
          apply Exists.intro
          refine ⟨fun st w2 hlo hhi hJ => ?_, ?_⟩
          · clear hlo hhi hJ
            go_simp
            exact And.intro rfl rfl
          simp only [Act.put, List.setIfInBounds_toArray, List.set_cons_succ, List.set_cons_zero, Nat.reduceAdd]
          refine ch_plain 0 2 1 (by rfl) rfl (by kernel_rfl) (by kernel_rfl) ?_
          apply Exists.intro
          refine ⟨fun st w2 hlo hhi hJ => ?_, ?_⟩
          · have hj : Blk w2 P 31 (c0 sl) := by
              have h1 : st = 0 ∨ st = 1 ∨ st = 2 := by omega
              rcases h1 with rfl | rfl | rfl
              · have hj : DR W r (r + 1) P _ _ (c0 sl) w2 ∧ _ := hJ
                exact hj.1.bp
              · have hj : DR W r (r + 1) P _ _ (c0 sl) w2 ∧ _ := hJ
                exact hj.1.bp
              · have hj : DR W r (r + 1) P _ _ (c0 sl) w2 ∧ _ := hJ
                exact hj.1.bp
            rw [HC0.out] at hj
            have hx := hj.cell 6
            simp at hx
            clear hj
            clear hlo hhi hJ
            go_simp
            exact And.intro rfl rfl
          simp only [Act.put, List.setIfInBounds_toArray, List.set_cons_succ, List.set_cons_zero, Nat.reduceAdd]
          refine ch_plain 0 4 1 (by rfl) rfl (by kernel_rfl) (by kernel_rfl) ?_
          apply Exists.intro
          refine ⟨fun st w2 hlo hhi hJ => ?_, ?_⟩
          · clear hlo hhi hJ
            go_simp
            exact And.intro rfl rfl
          simp only [Act.put, List.setIfInBounds_toArray, List.set_cons_succ, List.set_cons_zero, Nat.reduceAdd]
          refine ch_plain 0 4 1 (by rfl) rfl (by kernel_rfl) (by kernel_rfl) ?_
          apply Exists.intro
          refine ⟨fun st w2 hlo hhi hJ => ?_, ?_⟩
          · clear hlo hhi hJ
            go_simp
            exact And.intro rfl rfl
          simp only [Act.put, List.setIfInBounds_toArray, List.set_cons_succ, List.set_cons_zero, Nat.reduceAdd]
          refine ch_special 0 1 (by rfl) rfl (by decide) (by kernel_rfl) (fun w2 hJ => ?_) ?_
          · have hj : DR W r (r + 1) P (nx (CS k)) (numArr n 7) (c0 sl) w2 ∧ OwC w2 W.heap.size sl (S k) := hJ
            go_simp
            refine (textR_lit hj.1.rd HXX.out.2.1 HXX.out.2.2.2).mono ?_
            rintro e w3 ⟨rfl, h1, h2⟩
            exact ⟨_, rfl, rfl, hj.1.read h2 h1, hj.2.row h2 (by have h3 := hj.1.o1; have h4 := hj.1.o2; have h5 := hj.1.o3; omega)⟩
          rw [n4]
          simp only [Act.put, List.setIfInBounds_toArray, List.set_cons_succ, List.set_cons_zero, Nat.reduceAdd]
          refine ch_plain 0 4 1 (by rfl) rfl (by kernel_rfl) (by kernel_rfl) ?_
          apply Exists.intro
          refine ⟨fun st w2 hlo hhi hJ => ?_, ?_⟩
          · clear hlo hhi hJ
            go_simp
            exact And.intro rfl rfl
          simp only [Act.put, List.setIfInBounds_toArray, List.set_cons_succ, List.set_cons_zero, Nat.reduceAdd]
          refine ch_special 1 2 (by rfl) rfl (by decide) (by kernel_rfl) (fun w2 hJ => ?_) ?_
          · have hj : DR W r (r + 1) P (CS (k + 1)) (numArr n 7) (c0 sl) w2 ∧ OwC w2 W.heap.size sl (S k) := hJ
            go_simp
            have hbb := (Below.refl w2.heap.size w2).alloc (Nat.le_refl _) (Obj.cells #[.int .i64 (b : Int), .string xd] 83)
            exact ⟨⟨_, rfl⟩, hj.1.keep hbb, hj.2.keep hbb, ⟨_, _, rfl, Nat.le_refl _, lit_chg _ _ _⟩⟩
          rw [n6]
          simp only [Act.put, List.setIfInBounds_toArray, List.set_cons_succ, List.set_cons_zero, Nat.reduceAdd]
          refine ch_special 2 1 (by rfl) rfl (by decide) (by kernel_rfl) (fun w2 hJ => ?_) ?_
          · have hj : DR W r (r + 1) P (CS (k + 1)) (numArr n 7) (c0 sl) w2 ∧ OwC w2 W.heap.size sl (S k) ∧ (∃ g c, ν 6 = .slice (some ⟨g, 0, none⟩) 1 c ∧ 1 ≤ c ∧ w2.rangeAt g 0 (cgL ((b : Int), xd))) := hJ
            have hws := hj.1.kp.size
            obtain ⟨v', w', hr, hp⟩ := app_chg2 (w := w2) 29 ((b : Int), xd) hj.2.2 hj.2.1 HLE.out hws
            rw [n6] at hr
            rw [exec_append (.tmp 67) (.tmp 72) 29 rfl sl (.slice (some ⟨g6, 0, none⟩) 1 1) rfl rfl v' hr]
            obtain ⟨a8, c8, e8, -⟩ := hp.1.rd
            have hbx := hp.below hj.2.1 hws
            exact ⟨⟨a8, c8, by rw [e8, List.length_append]; rfl⟩, hj.1.above hbx, hp.1⟩
          rw [n7]
          simp only [Act.put, List.setIfInBounds_toArray, List.set_cons_succ, List.set_cons_zero, Nat.reduceAdd]
          refine ch_plain 0 4 1 (by rfl) rfl (by kernel_rfl) (by kernel_rfl) ?_
          apply Exists.intro
          refine ⟨fun st w2 hlo hhi hJ => ?_, ?_⟩
          · clear hlo hhi hJ
            go_simp
            exact And.intro rfl rfl
          simp only [Act.put, List.setIfInBounds_toArray, List.set_cons_succ, List.set_cons_zero, Nat.reduceAdd]
          refine ch_special 3 1 (by rfl) rfl (by decide) (by kernel_rfl) (fun w2 hJ => ?_) ?_
          · have hj : DR W r (r + 1) P (CS (k + 1)) (numArr n 7) (c0 sl) w2 ∧ OwC w2 W.heap.size (ν 7) (S k ++ [((b : Int), xd)]) := hJ
            have hbp := hj.1.bp
            rw [HC0.out] at hbp
            have hx := hbp.cell 6
            have hf := hbp.frozen 6
            simp at hx
            have HJ := Lib.hid hj
            clear hj hJ hbp
            go_simp
            refine ⟨rfl, ?_⟩
            show DR W r (r + 1) P (CS (k + 1)) (numArr n 7) (c0 (.slice a7 ((S k).length + 1) c7)) _ ∧ OwC _ W.heap.size (.slice a7 ((S k).length + 1) c7) (S k ++ [((b : Int), xd)])
            rw [← n7]
            have hs := HJ.out.1.set 6 (ν 7)
            rw [HC0.out] at hs
            rw [HC0.out]
            exact ⟨hs, HJ.out.2.far (p := ⟨P, 6, none⟩) HJ.out.1.o3 _⟩
          rw [n9]
          simp only [Act.put, Nat.reduceAdd]
          refine ch_nil (fun w5 hJ => ?_)
          have HF := Lib.hid (show DR W r (r + 1) P (CS (k + 1)) (numArr n 7) (c0 (ν 7)) w5 ∧ OwC w5 W.heap.size (ν 7) (S k ++ [((b : Int), xd)]) from hJ)
          have I3 := Lib.hid (show IntKind.u64.wrap ((k : Int) + 1) = (k : Int) + 1 from by have h2 := HC2.out.1; have h3 := HKC.out; exact IntWalk.u64_in _ (by omega))
          clear hJ n4 n6 n7 n9
          have i3 := I3.out
          go_wp2
          clear i3
          exact ⟨⟨k + 1, ν 7, HKC.out, rfl, HF.out.1, by rw [HXX.out.2.2.1]; exact HF.out.2⟩, meas_succ_u HKC.out⟩
        · obtain rfl : k = cnt := by omega
          obtain ⟨hc2, hc3, hc4⟩ := HC2.out
          obtain ⟨a3, c3, rfl, -⟩ := HOR.out.rd
          have hbp := HDR.out.bp
          rw [HC0.out, HSL.out] at hbp
          have HO2 := Lib.hid (show OwC wr W.heap.size (.slice a3 k c3) (S k) from by have := HOR.out; rwa [HSL.out] at this)
          have y0 := hbp.cell 0
          have y1 := hbp.cell 1
          have y2 := hbp.cell 2
          have y3 := hbp.cell 3
          have y4 := hbp.cell 4
          have y5 := hbp.cell 5
          have y6 := hbp.cell 6
          simp at y0 y1 y2 y3 y4 y5 y6
          have HBE := Lib.hid (show Below w.heap.size w wr from HBW.out.trans (HDR.out.kp.below (fun b hb => by have h3 := HRZ.out; have h4 := HDR.out.o1; have h5 := HDR.out.o2; omega) HBW.out.size))
          have HZE := Lib.hid (HDR.out.kp.blk HZW.out (by have h3 := HRZ.out; have h4 := HDR.out.o1; have h5 := HDR.out.o2; omega))
          have HIN := Lib.hid (show InPr wr (.agg #[.int .u64 (n 0 : Int), .int .u64 (n 1 : Int), .int .u64 (n 2 : Int), .int .u64 (n 3 : Int), .int .i64 (m4 : Int), .int .i64 (m5 : Int), .slice a3 k c3]) p from ⟨.slice a3 k c3, by rw [HP.out]; rfl, by rw [HSE.out]; exact HO2.out.rd, HWF.out⟩)
          have HLT := Lib.hid (show w.heap.size < W.heap.size from by have h3 := HRZ.out; have h4 := HDR.out.o1; have h5 := HDR.out.o2; have h6 := HDR.out.o3; omega)
          by_cases hk9 : k < 9
          · have i1 : ¬ (k < n 6) := by have := hc4 hk9; omega
            have i2 : ¬ ((k : Int) < (n 6 : Int)) := by omega
            clear hkc hk hbp HOR hc2 hc3 hc4 hk9
            go_wp2_with fail
            clear i1 i2
            refine (encR_any _ _ p HIN.out).mono ?_
            rintro e wy ⟨rfl, hb⟩
            have z0 := cell_later hb y0
            have z1 := cell_later hb y1
            have z2 := cell_later hb y2
            have z3 := cell_later hb y3
            have z4 := cell_later hb y4
            have z5 := cell_later hb y5
            have z6 := cell_later hb y6
            have HBY := Lib.hid (HBE.out.trans (hb.mono HBE.out.size))
            have HZY := Lib.hid (HZE.out.keep hb)
            have HOY := Lib.hid (HO2.out.keep hb)
            clear hb y0 y1 y2 y3 y4 y5 y6 HIN HBE HZE
            by_cases hok : okP p
            · have hce : checkP p = 0 := if_pos hok
              rw [hce]
              by_cases heq : encS p = s
              · obtain ⟨hg1, hg2⟩ := HGOOD.out ⟨hok, heq⟩
                have HG := Lib.hid (And.intro hg1 hg2)
                have e1 : (encS p).toList = s.toList := by rw [heq]
                have e2 : ((encS p).toList != s.toList) = false := by rw [e1]; simp
                clear hg1 hg2 hok hce heq
                go_wp2_with (refine wpList_store_then rfl 31 _ _ rfl w.heap.size #[.int .u64 (n 0 : Int), .int .u64 (n 1 : Int), .int .u64 (n 2 : Int), .int .u64 (n 3 : Int), .int .i64 (m4 : Int), .int .i64 (m5 : Int), .slice a3 k c3] rfl rfl 31 _ HZY.out part_size rfl (part_one _ _ _ _ _ _ _ _ _) ?_)
                refine Later.mk fun w20 hw20 => ?_
                have H9 := Lib.hid (show Below w.heap.size w w20 ∧ Blk w20 w.heap.size 31 #[.int .u64 (n 0 : Int), .int .u64 (n 1 : Int), .int .u64 (n 2 : Int), .int .u64 (n 3 : Int), .int .i64 (m4 : Int), .int .i64 (m5 : Int), .slice a3 k c3] ∧ OwC w20 W.heap.size (.slice a3 k c3) p.cs by
                  rw [hw20, HSE.out]
                  exact ⟨Below.setRow HBY.out (Nat.le_refl _) _, HZY.out.row _, HOY.out.farRow HLT.out _⟩)
                clear hw20 e1 e2 z0 z1 z2 z3 z4 z5 z6
                go_wp2
                refine bodyPost_ret (results_cell2 (ty := 31) (g := w.heap.size) (k := 2) (m := 3) rfl rfl rfl H9.out.2.1 Tryz.underlying31 rfl part_size) rfl ⟨.agg #[.int .u64 (n 0 : Int), .int .u64 (n 1 : Int), .int .u64 (n 2 : Int), .int .u64 (n 3 : Int), .int .i64 (m4 : Int), .int .i64 (m5 : Int), .slice a3 k c3], (by rw [HG.out.2] <;> rfl), ⟨.slice a3 k c3, (by rw [HG.out.1, HP.out] <;> rfl), by rw [HG.out.1]; exact H9.out.2.2.mono (Nat.le_of_lt HLT.out), by rw [HG.out.1]; exact HWF.out⟩, H9.out.1⟩
              · obtain ⟨hg1, hg2⟩ := HBAD.out (fun q => heq q.2)
                have HG := Lib.hid (And.intro hg1 hg2)
                have e2 : ((encS p).toList != s.toList) = true := by
                  simp only [bne_iff_ne, ne_eq]
                  intro q
                  exact heq ((str_iff _ _).1 (by simpa using q))
                have e1 : ((encS p).toList == s.toList) = false := by simpa using e2
                have e3 : decide ((encS p).toList = s.toList) = false := by simpa using e2
                clear hg1 hg2 hok hce heq
                go_wp2_with (refine wpList_store_then rfl 31 _ _ rfl w.heap.size #[.int .u64 0, .int .u64 0, .int .u64 0, .int .u64 0, .int .i64 0, .int .i64 0, .slice none 0 0] rfl rfl 31 _ HZY.out part_size rfl (part_one _ _ _ _ _ _ _ _ _) ?_)
                refine Later.mk fun w20 hw20 => ?_
                have H9 := Lib.hid (show Below w.heap.size w w20 ∧ Blk w20 w.heap.size 31 #[.int .u64 0, .int .u64 0, .int .u64 0, .int .u64 0, .int .i64 0, .int .i64 0, .slice none 0 0] by
                  rw [hw20]
                  exact ⟨Below.setRow HBY.out (Nat.le_refl _) _, HZY.out.row _⟩)
                clear hw20 z0 z1 z2 z3 z4 z5 z6
                go_wp2
                refine bodyPost_ret (results_cell2 (ty := 31) (g := w.heap.size) (k := 2) (m := 3) rfl rfl rfl H9.out.2 Tryz.underlying31 rfl part_size) rfl ⟨.agg #[.int .u64 0, .int .u64 0, .int .u64 0, .int .u64 0, .int .i64 0, .int .i64 0, .slice none 0 0], (by rw [HG.out.2] <;> rfl), ⟨.slice none 0 0, (by rw [HG.out.1] <;> rfl), by rw [HG.out.1]; exact OwC.nil_ _ _, by rw [HG.out.1]; exact zero_wf⟩, H9.out.1⟩
            · have hce : checkP p = 2 := if_neg hok
              rw [hce]
              obtain ⟨hg1, hg2⟩ := HBAD.out (fun q => hok q.1)
              have HG := Lib.hid (And.intro hg1 hg2)
              clear hg1 hg2 hok hce
              go_wp2_with (refine wpList_store_then rfl 31 _ _ rfl w.heap.size #[.int .u64 0, .int .u64 0, .int .u64 0, .int .u64 0, .int .i64 0, .int .i64 0, .slice none 0 0] rfl rfl 31 _ HZY.out part_size rfl (part_one _ _ _ _ _ _ _ _ _) ?_)
              refine Later.mk fun w20 hw20 => ?_
              have H9 := Lib.hid (show Below w.heap.size w w20 ∧ Blk w20 w.heap.size 31 #[.int .u64 0, .int .u64 0, .int .u64 0, .int .u64 0, .int .i64 0, .int .i64 0, .slice none 0 0] by
                rw [hw20]
                exact ⟨Below.setRow HBY.out (Nat.le_refl _) _, HZY.out.row _⟩)
              clear hw20 z0 z1 z2 z3 z4 z5 z6
              go_wp2
              refine bodyPost_ret (results_cell2 (ty := 31) (g := w.heap.size) (k := 2) (m := 3) rfl rfl rfl H9.out.2 Tryz.underlying31 rfl part_size) rfl ⟨.agg #[.int .u64 0, .int .u64 0, .int .u64 0, .int .u64 0, .int .i64 0, .int .i64 0, .slice none 0 0], (by rw [HG.out.2] <;> rfl), ⟨.slice none 0 0, (by rw [HG.out.1] <;> rfl), by rw [HG.out.1]; exact OwC.nil_ _ _, by rw [HG.out.1]; exact zero_wf⟩, H9.out.1⟩
          · have e9 : k = 9 := by omega
            by_cases h6 : k < n 6
            · have i1 : (k : Int) < (n 6 : Int) := by omega
              have i2 : ¬ ((k : Int) < 9) := by omega
              clear hkc hk hbp HOR hc2 hc3 hc4 hk9 e9
              go_wp2_with fail
              clear i1 i2 h6
              refine (encR_any _ _ p HIN.out).mono ?_
              rintro e wy ⟨rfl, hb⟩
              have z0 := cell_later hb y0
              have z1 := cell_later hb y1
              have z2 := cell_later hb y2
              have z3 := cell_later hb y3
              have z4 := cell_later hb y4
              have z5 := cell_later hb y5
              have z6 := cell_later hb y6
              have HBY := Lib.hid (HBE.out.trans (hb.mono HBE.out.size))
              have HZY := Lib.hid (HZE.out.keep hb)
              have HOY := Lib.hid (HO2.out.keep hb)
              clear hb y0 y1 y2 y3 y4 y5 y6 HIN HBE HZE
              by_cases hok : okP p
              · have hce : checkP p = 0 := if_pos hok
                rw [hce]
                by_cases heq : encS p = s
                · obtain ⟨hg1, hg2⟩ := HGOOD.out ⟨hok, heq⟩
                  have HG := Lib.hid (And.intro hg1 hg2)
                  have e1 : (encS p).toList = s.toList := by rw [heq]
                  have e2 : ((encS p).toList != s.toList) = false := by rw [e1]; simp
                  clear hg1 hg2 hok hce heq
                  go_wp2_with (refine wpList_store_then rfl 31 _ _ rfl w.heap.size #[.int .u64 (n 0 : Int), .int .u64 (n 1 : Int), .int .u64 (n 2 : Int), .int .u64 (n 3 : Int), .int .i64 (m4 : Int), .int .i64 (m5 : Int), .slice a3 k c3] rfl rfl 31 _ HZY.out part_size rfl (part_one _ _ _ _ _ _ _ _ _) ?_)
                  refine Later.mk fun w20 hw20 => ?_
                  have H9 := Lib.hid (show Below w.heap.size w w20 ∧ Blk w20 w.heap.size 31 #[.int .u64 (n 0 : Int), .int .u64 (n 1 : Int), .int .u64 (n 2 : Int), .int .u64 (n 3 : Int), .int .i64 (m4 : Int), .int .i64 (m5 : Int), .slice a3 k c3] ∧ OwC w20 W.heap.size (.slice a3 k c3) p.cs by
                    rw [hw20, HSE.out]
                    exact ⟨Below.setRow HBY.out (Nat.le_refl _) _, HZY.out.row _, HOY.out.farRow HLT.out _⟩)
                  clear hw20 e1 e2 z0 z1 z2 z3 z4 z5 z6
                  go_wp2
                  refine bodyPost_ret (results_cell2 (ty := 31) (g := w.heap.size) (k := 2) (m := 3) rfl rfl rfl H9.out.2.1 Tryz.underlying31 rfl part_size) rfl ⟨.agg #[.int .u64 (n 0 : Int), .int .u64 (n 1 : Int), .int .u64 (n 2 : Int), .int .u64 (n 3 : Int), .int .i64 (m4 : Int), .int .i64 (m5 : Int), .slice a3 k c3], (by rw [HG.out.2] <;> rfl), ⟨.slice a3 k c3, (by rw [HG.out.1, HP.out] <;> rfl), by rw [HG.out.1]; exact H9.out.2.2.mono (Nat.le_of_lt HLT.out), by rw [HG.out.1]; exact HWF.out⟩, H9.out.1⟩
                · obtain ⟨hg1, hg2⟩ := HBAD.out (fun q => heq q.2)
                  have HG := Lib.hid (And.intro hg1 hg2)
                  have e2 : ((encS p).toList != s.toList) = true := by
                    simp only [bne_iff_ne, ne_eq]
                    intro q
                    exact heq ((str_iff _ _).1 (by simpa using q))
                  have e1 : ((encS p).toList == s.toList) = false := by simpa using e2
                  have e3 : decide ((encS p).toList = s.toList) = false := by simpa using e2
                  clear hg1 hg2 hok hce heq
                  go_wp2_with (refine wpList_store_then rfl 31 _ _ rfl w.heap.size #[.int .u64 0, .int .u64 0, .int .u64 0, .int .u64 0, .int .i64 0, .int .i64 0, .slice none 0 0] rfl rfl 31 _ HZY.out part_size rfl (part_one _ _ _ _ _ _ _ _ _) ?_)
                  refine Later.mk fun w20 hw20 => ?_
                  have H9 := Lib.hid (show Below w.heap.size w w20 ∧ Blk w20 w.heap.size 31 #[.int .u64 0, .int .u64 0, .int .u64 0, .int .u64 0, .int .i64 0, .int .i64 0, .slice none 0 0] by
                    rw [hw20]
                    exact ⟨Below.setRow HBY.out (Nat.le_refl _) _, HZY.out.row _⟩)
                  clear hw20 z0 z1 z2 z3 z4 z5 z6
                  go_wp2
                  refine bodyPost_ret (results_cell2 (ty := 31) (g := w.heap.size) (k := 2) (m := 3) rfl rfl rfl H9.out.2 Tryz.underlying31 rfl part_size) rfl ⟨.agg #[.int .u64 0, .int .u64 0, .int .u64 0, .int .u64 0, .int .i64 0, .int .i64 0, .slice none 0 0], (by rw [HG.out.2] <;> rfl), ⟨.slice none 0 0, (by rw [HG.out.1] <;> rfl), by rw [HG.out.1]; exact OwC.nil_ _ _, by rw [HG.out.1]; exact zero_wf⟩, H9.out.1⟩
              · have hce : checkP p = 2 := if_neg hok
                rw [hce]
                obtain ⟨hg1, hg2⟩ := HBAD.out (fun q => hok q.1)
                have HG := Lib.hid (And.intro hg1 hg2)
                clear hg1 hg2 hok hce
                go_wp2_with (refine wpList_store_then rfl 31 _ _ rfl w.heap.size #[.int .u64 0, .int .u64 0, .int .u64 0, .int .u64 0, .int .i64 0, .int .i64 0, .slice none 0 0] rfl rfl 31 _ HZY.out part_size rfl (part_one _ _ _ _ _ _ _ _ _) ?_)
                refine Later.mk fun w20 hw20 => ?_
                have H9 := Lib.hid (show Below w.heap.size w w20 ∧ Blk w20 w.heap.size 31 #[.int .u64 0, .int .u64 0, .int .u64 0, .int .u64 0, .int .i64 0, .int .i64 0, .slice none 0 0] by
                  rw [hw20]
                  exact ⟨Below.setRow HBY.out (Nat.le_refl _) _, HZY.out.row _⟩)
                clear hw20 z0 z1 z2 z3 z4 z5 z6
                go_wp2
                refine bodyPost_ret (results_cell2 (ty := 31) (g := w.heap.size) (k := 2) (m := 3) rfl rfl rfl H9.out.2 Tryz.underlying31 rfl part_size) rfl ⟨.agg #[.int .u64 0, .int .u64 0, .int .u64 0, .int .u64 0, .int .i64 0, .int .i64 0, .slice none 0 0], (by rw [HG.out.2] <;> rfl), ⟨.slice none 0 0, (by rw [HG.out.1] <;> rfl), by rw [HG.out.1]; exact OwC.nil_ _ _, by rw [HG.out.1]; exact zero_wf⟩, H9.out.1⟩
            · have i2 : ¬ ((k : Int) < (n 6 : Int)) := by omega
              clear hkc hk hbp HOR hc2 hc3 hc4 hk9 e9
              go_wp2_with fail
              clear i2 h6
              refine (encR_any _ _ p HIN.out).mono ?_
              rintro e wy ⟨rfl, hb⟩
              have z0 := cell_later hb y0
              have z1 := cell_later hb y1
              have z2 := cell_later hb y2
              have z3 := cell_later hb y3
              have z4 := cell_later hb y4
              have z5 := cell_later hb y5
              have z6 := cell_later hb y6
              have HBY := Lib.hid (HBE.out.trans (hb.mono HBE.out.size))
              have HZY := Lib.hid (HZE.out.keep hb)
              have HOY := Lib.hid (HO2.out.keep hb)
              clear hb y0 y1 y2 y3 y4 y5 y6 HIN HBE HZE
              by_cases hok : okP p
              · have hce : checkP p = 0 := if_pos hok
                rw [hce]
                by_cases heq : encS p = s
                · obtain ⟨hg1, hg2⟩ := HGOOD.out ⟨hok, heq⟩
                  have HG := Lib.hid (And.intro hg1 hg2)
                  have e1 : (encS p).toList = s.toList := by rw [heq]
                  have e2 : ((encS p).toList != s.toList) = false := by rw [e1]; simp
                  clear hg1 hg2 hok hce heq
                  go_wp2_with (refine wpList_store_then rfl 31 _ _ rfl w.heap.size #[.int .u64 (n 0 : Int), .int .u64 (n 1 : Int), .int .u64 (n 2 : Int), .int .u64 (n 3 : Int), .int .i64 (m4 : Int), .int .i64 (m5 : Int), .slice a3 k c3] rfl rfl 31 _ HZY.out part_size rfl (part_one _ _ _ _ _ _ _ _ _) ?_)
                  refine Later.mk fun w20 hw20 => ?_
                  have H9 := Lib.hid (show Below w.heap.size w w20 ∧ Blk w20 w.heap.size 31 #[.int .u64 (n 0 : Int), .int .u64 (n 1 : Int), .int .u64 (n 2 : Int), .int .u64 (n 3 : Int), .int .i64 (m4 : Int), .int .i64 (m5 : Int), .slice a3 k c3] ∧ OwC w20 W.heap.size (.slice a3 k c3) p.cs by
                    rw [hw20, HSE.out]
                    exact ⟨Below.setRow HBY.out (Nat.le_refl _) _, HZY.out.row _, HOY.out.farRow HLT.out _⟩)
                  clear hw20 e1 e2 z0 z1 z2 z3 z4 z5 z6
                  go_wp2
                  refine bodyPost_ret (results_cell2 (ty := 31) (g := w.heap.size) (k := 2) (m := 3) rfl rfl rfl H9.out.2.1 Tryz.underlying31 rfl part_size) rfl ⟨.agg #[.int .u64 (n 0 : Int), .int .u64 (n 1 : Int), .int .u64 (n 2 : Int), .int .u64 (n 3 : Int), .int .i64 (m4 : Int), .int .i64 (m5 : Int), .slice a3 k c3], (by rw [HG.out.2] <;> rfl), ⟨.slice a3 k c3, (by rw [HG.out.1, HP.out] <;> rfl), by rw [HG.out.1]; exact H9.out.2.2.mono (Nat.le_of_lt HLT.out), by rw [HG.out.1]; exact HWF.out⟩, H9.out.1⟩
                · obtain ⟨hg1, hg2⟩ := HBAD.out (fun q => heq q.2)
                  have HG := Lib.hid (And.intro hg1 hg2)
                  have e2 : ((encS p).toList != s.toList) = true := by
                    simp only [bne_iff_ne, ne_eq]
                    intro q
                    exact heq ((str_iff _ _).1 (by simpa using q))
                  have e1 : ((encS p).toList == s.toList) = false := by simpa using e2
                  have e3 : decide ((encS p).toList = s.toList) = false := by simpa using e2
                  clear hg1 hg2 hok hce heq
                  go_wp2_with (refine wpList_store_then rfl 31 _ _ rfl w.heap.size #[.int .u64 0, .int .u64 0, .int .u64 0, .int .u64 0, .int .i64 0, .int .i64 0, .slice none 0 0] rfl rfl 31 _ HZY.out part_size rfl (part_one _ _ _ _ _ _ _ _ _) ?_)
                  refine Later.mk fun w20 hw20 => ?_
                  have H9 := Lib.hid (show Below w.heap.size w w20 ∧ Blk w20 w.heap.size 31 #[.int .u64 0, .int .u64 0, .int .u64 0, .int .u64 0, .int .i64 0, .int .i64 0, .slice none 0 0] by
                    rw [hw20]
                    exact ⟨Below.setRow HBY.out (Nat.le_refl _) _, HZY.out.row _⟩)
                  clear hw20 z0 z1 z2 z3 z4 z5 z6
                  go_wp2
                  refine bodyPost_ret (results_cell2 (ty := 31) (g := w.heap.size) (k := 2) (m := 3) rfl rfl rfl H9.out.2 Tryz.underlying31 rfl part_size) rfl ⟨.agg #[.int .u64 0, .int .u64 0, .int .u64 0, .int .u64 0, .int .i64 0, .int .i64 0, .slice none 0 0], (by rw [HG.out.2] <;> rfl), ⟨.slice none 0 0, (by rw [HG.out.1] <;> rfl), by rw [HG.out.1]; exact OwC.nil_ _ _, by rw [HG.out.1]; exact zero_wf⟩, H9.out.1⟩
              · have hce : checkP p = 2 := if_neg hok
                rw [hce]
                obtain ⟨hg1, hg2⟩ := HBAD.out (fun q => hok q.1)
                have HG := Lib.hid (And.intro hg1 hg2)
                clear hg1 hg2 hok hce
                go_wp2_with (refine wpList_store_then rfl 31 _ _ rfl w.heap.size #[.int .u64 0, .int .u64 0, .int .u64 0, .int .u64 0, .int .i64 0, .int .i64 0, .slice none 0 0] rfl rfl 31 _ HZY.out part_size rfl (part_one _ _ _ _ _ _ _ _ _) ?_)
                refine Later.mk fun w20 hw20 => ?_
                have H9 := Lib.hid (show Below w.heap.size w w20 ∧ Blk w20 w.heap.size 31 #[.int .u64 0, .int .u64 0, .int .u64 0, .int .u64 0, .int .i64 0, .int .i64 0, .slice none 0 0] by
                  rw [hw20]
                  exact ⟨Below.setRow HBY.out (Nat.le_refl _) _, HZY.out.row _⟩)
                clear hw20 z0 z1 z2 z3 z4 z5 z6
                go_wp2
                refine bodyPost_ret (results_cell2 (ty := 31) (g := w.heap.size) (k := 2) (m := 3) rfl rfl rfl H9.out.2 Tryz.underlying31 rfl part_size) rfl ⟨.agg #[.int .u64 0, .int .u64 0, .int .u64 0, .int .u64 0, .int .i64 0, .int .i64 0, .slice none 0 0], (by rw [HG.out.2] <;> rfl), ⟨.slice none 0 0, (by rw [HG.out.1] <;> rfl), by rw [HG.out.1]; exact OwC.nil_ _ _, by rw [HG.out.1]; exact zero_wf⟩, H9.out.1⟩
theorem decR_any (w : World) (s : ByteArray) (hs2 : s.size ≤ 1152921504606846976) : Calls Tryz.prog 67 #[.string s] w (DecT w (decP 99 9 s) (decE 99 9 s)) := by
  have hs : s.size ≤ maxLen := by unfold maxLen; omega
  cases ho : Crc.opens s.data.toList with
  | true => exact decR_open w s hs hs2 ho
  | false =>
    have e1 : decP 99 9 s = zeroP := if_neg (fun h => by have := h.1; rw [ho] at this; cases this)
    have e2 : decE 99 9 s = 4 := if_neg (fun h => by have := h.1; rw [ho] at this; cases this)
    rw [e1, e2]
    exact decR_shut w s hs ho
end Go.Proofs.YtikimmhkfjaijaaGreat
