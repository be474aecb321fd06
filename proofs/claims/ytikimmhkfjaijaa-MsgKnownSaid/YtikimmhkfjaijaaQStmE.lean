/-
  STREAM: Same (printed by wip/gen-msgbase.py).
-/
import Derived.Test.YtikimmhkfjaijaaQStmB
namespace Go.Proofs.Ytikimmhkfjaijaa
open Go.RowKit Reg Go.ChangeShapes


def eqC (x y : Cg) : Bool := x.1 == y.1 && x.2.toList == y.2.toList
def sameP (p q : Prt) : Bool := decide (p.cs.length = q.cs.length ∧ (∀ j, j < p.cs.length → eqC (p.cs.getD j (0, ByteArray.empty)) (q.cs.getD j (0, ByteArray.empty)) = true) ∧ (p.b.1 == q.b.1 && p.b.2 == q.b.2) = true ∧ (p.t.1 == q.t.1 && p.t.2 == q.t.2) = true ∧ p.f = q.f ∧ p.a = q.a)
set_option maxRecDepth 100000 in
set_option maxHeartbeats 1000000 in
theorem same_any (w : World) (u v : Value) (p q : Prt) (hu : InPr w u p) (hv : InPr w v q) : Calls Try.prog 19 #[u, v] w fun e w' => e = .returned (.bool (sameP p q)) ∧ Below w.heap.size w w' := by
  obtain ⟨su, rfl, hu, -⟩ := hu
  obtain ⟨sv, rfl, hv, -⟩ := hv
  obtain ⟨a, c, rfl, hml, hx⟩ := hu
  obtain ⟨a', c', rfl, hml', hx'⟩ := hv
  have HML := Lib.hid hml
  obtain ⟨X, hX⟩ : ∃ X, X = sameP p q := ⟨_, rfl⟩
  rw [← hX]
  unfold sameP at hX
  unfold prV
  obtain ⟨⟨b1, b2⟩, ⟨t1, t2⟩, f, al, cs⟩ := p
  obtain ⟨⟨b1', b2'⟩, ⟨t1', t2'⟩, f', al', cs'⟩ := q
  dsimp only at *
  have hE1 := run_eq_guid b1 b2 b1' b2'
  have hE2 := run_eq_guid t1 t2 t1' t2'
  generalize (b1 == b1' && b2 == b2') = s1 at *
  generalize (t1 == t1' && t2 == t2') = s2 at *
  generalize hZ : (fun j => cs.getD j (0, ByteArray.empty)) = Z
  generalize hZ' : (fun j => cs'.getD j (0, ByteArray.empty)) = Z'
  have hZj : ∀ j, cs.getD j (0, ByteArray.empty) = Z j := fun j => by rw [← hZ]
  have hZj' : ∀ j, cs'.getD j (0, ByteArray.empty) = Z' j := fun j => by rw [← hZ']
  simp only [hZj, hZj'] at hX hx hx'
  generalize cs.length = n at *
  generalize cs'.length = n' at *
  have HX := Lib.hid hX
  have HC := Lib.hid hx
  have HC' := Lib.hid hx'
  have hbl := ((Below.refl w.heap.size w).alloc (Nat.le_refl _) (Obj.cells #[.int .u64 b1, .int .u64 b2, .int .u64 t1, .int .u64 t2, .int .i64 f, .int .i64 al, .slice a n c] 31)).alloc (by simp) (Obj.cells #[.int .u64 b1', .int .u64 b2', .int .u64 t1', .int .u64 t2', .int .i64 f', .int .i64 al', .slice a' n' c'] 31)
  have hb1 := (Blk.new w 31 #[.int .u64 b1, .int .u64 b2, .int .u64 t1, .int .u64 t2, .int .i64 f, .int .i64 al, .slice a n c]).alloc (Obj.cells #[.int .u64 b1', .int .u64 b2', .int .u64 t1', .int .u64 t2', .int .i64 f', .int .i64 al', .slice a' n' c'] 31)
  have hb2 := Blk.newAt (w := w.alloc (Obj.cells #[.int .u64 b1, .int .u64 b2, .int .u64 t1, .int .u64 t2, .int .i64 f, .int .i64 al, .slice a n c] 31)) 31 #[.int .u64 b1', .int .u64 b2', .int .u64 t1', .int .u64 t2', .int .i64 f', .int .i64 al', .slice a' n' c'] (g := w.heap.size + 1) (by simp)
  have HB0 := Lib.hid hbl
  have HP := Lib.hid hb1
  have HQ := Lib.hid hb2
  clear hX hx hx' hbl hb1 hb2 hZ hZ' hZj hZj' hml hml'
  by_cases hn : n = n'
  case neg =>
    have hni : (((n : Nat) : Int) != (n' : Int)) = true := by simp; omega
    have HN := Lib.hid (show X = false by rw [HX.out]; simp [hn])
    clear hn
    go_enter Try.func19, Try.ntmps19
    go_wp2
    go_ret
    exact ⟨by rw [HN.out]; rfl, HB0.out⟩
  case pos =>
  subst hn
  have hni : (((n : Nat) : Int) != (n : Int)) = false := by simp
  go_enter Try.func19, Try.ntmps19
  go_wp2_with fail
  clear hni
  generalize (w.alloc (Obj.cells #[.int .u64 b1, .int .u64 b2, .int .u64 t1, .int .u64 t2, .int .i64 f, .int .i64 al, .slice a n c] 31)).alloc (Obj.cells #[.int .u64 b1', .int .u64 b2', .int .u64 t1', .int .u64 t2', .int .i64 f', .int .i64 al', .slice a' n c'] 31) = W0 at *
  go_loopw [16] (fun i wr => ∃ k : Nat, k ≤ n ∧ i = .int .i64 k ∧ Below w.heap.size w wr ∧ Below W0.heap.size W0 wr ∧ ∀ j, j < k → eqC (Z j) (Z' j) = true) (fun i _ => n - (intOf i).toNat)
  case atStart => exact ⟨0, Nat.zero_le _, rfl, HB0.out, Below.refl _ _, fun j hj => absurd hj (Nat.not_lt_zero _)⟩
  case round =>
    obtain ⟨k, hk, rfl, hb, hb0, hall⟩ := hrel
    have HB := Lib.hid hb
    have HBW := Lib.hid hb0
    have HALL := Lib.hid hall
    have x6 := (HP.out.keep hb0).cell 6
    have y6 := (HQ.out.keep hb0).cell 6
    simp at x6 y6
    clear hb hb0 hall
    by_cases hkn : k < n
    · obtain ⟨g, o, rfl, c0, c1⟩ := HC.out k hkn
      obtain ⟨g', o', rfl, d0, d1⟩ := HC'.out k hkn
      replace c0 := cell_later HB.out c0
      replace c1 := cell_later HB.out c1
      replace d0 := cell_later HB.out d0
      replace d1 := cell_later HB.out d1
      have l1 : (k : Int) < (n : Int) := by omega
      have l0 : (0 : Int) ≤ (k : Int) := by omega
      have HKN := Lib.hid hkn
      have HEQ := Lib.hid (show eqC (Z k) (Z' k) = eqC (Z k) (Z' k) from rfl)
      have HST := Lib.hid (fun h : eqC (Z k) (Z' k) = true => show ∀ j, j < k + 1 → eqC (Z j) (Z' j) = true from fun j hj => by
        by_cases e : j = k
        · rw [e]; exact h
        · exact HALL.out j (by omega))
      have HNO := Lib.hid (fun h : eqC (Z k) (Z' k) = false => show X = false by
        rw [HX.out]
        refine decide_eq_false fun hh => ?_
        have := hh.2.1 k HKN.out
        rw [h] at this
        cases this)
      have hne := run_neq_chg (Z k).1 (Z' k).1 (Z k).2 (Z' k).2
      have he : ((Z k).1 == (Z' k).1 && (Z k).2.toList == (Z' k).2.toList) = eqC (Z k) (Z' k) := rfl
      rw [he] at hne
      have I9 := Lib.hid (wrap_succ hkn HML.out)
      clear he HEQ hkn hk
      generalize eqC (Z k) (Z' k) = s at *
      generalize (Z k).1 = zi at *
      generalize (Z k).2 = zs at *
      generalize (Z' k).1 = zi' at *
      generalize (Z' k).2 = zs' at *
      cases s with
      | false =>
        replace HNO := Lib.hid (HNO.out rfl)
        have hne2 : ∀ w, (binOp .neq 76 (.agg #[.int .i64 zi, .string zs]) (.agg #[.int .i64 zi', .string zs'])).run Try.prog w = .ok (.bool true) w := hne
        clear hne
        go_wp2_with fail
        go_quiet (fail)
        have HB1 := Lib.hid (below_drewN HB.out nq)
        go_wp2
        go_ret
        exact ⟨by rw [HNO.out]; rfl, HB1.out⟩
      | true =>
        replace HST := Lib.hid (HST.out rfl)
        have hne2 : ∀ w, (binOp .neq 76 (.agg #[.int .i64 zi, .string zs]) (.agg #[.int .i64 zi', .string zs'])).run Try.prog w = .ok (.bool false) w := hne
        clear hne
        go_wp2_with fail
        go_quiet (fail)
        have HB1 := Lib.hid (And.intro (below_drewN HB.out nq) (below_drewN HBW.out nq))
        go_wp2
        rw [I9.out]
        clear l0 l1
        exact ⟨⟨k + 1, HKN.out, rfl, HB1.out.1, HB1.out.2, HST.out⟩, meas_succ HKN.out⟩
    · obtain rfl : k = n := by omega
      have l1 : ¬ ((k : Int) < (k : Int)) := by omega
      have x0 := (HP.out.keep HBW.out).cell 0
      have y0 := (HQ.out.keep HBW.out).cell 0
      have x1 := (HP.out.keep HBW.out).cell 1
      have y1 := (HQ.out.keep HBW.out).cell 1
      have x2 := (HP.out.keep HBW.out).cell 2
      have y2 := (HQ.out.keep HBW.out).cell 2
      have x3 := (HP.out.keep HBW.out).cell 3
      have y3 := (HQ.out.keep HBW.out).cell 3
      have x4 := (HP.out.keep HBW.out).cell 4
      have y4 := (HQ.out.keep HBW.out).cell 4
      have x5 := (HP.out.keep HBW.out).cell 5
      have y5 := (HQ.out.keep HBW.out).cell 5
      simp at x0 x1 x2 x3 x4 x5 y0 y1 y2 y3 y4 y5
      clear hk hkn
      cases s1 with
      | false =>
        have HN := Lib.hid (show X = false by rw [HX.out]; simp)
        go_wp2
        go_ret
        exact ⟨by rw [HN.out]; rfl, HB.out⟩
      | true =>
        cases s2 with
        | false =>
          have HN := Lib.hid (show X = false by rw [HX.out]; simp)
          go_wp2
          go_ret
          exact ⟨by rw [HN.out]; rfl, HB.out⟩
        | true =>
          by_cases hf : f = f'
          case neg =>
            have HN := Lib.hid (show X = false by rw [HX.out]; simp [hf])
            go_wp2
            go_ret
            exact ⟨by rw [HN.out]; rfl, HB.out⟩
          case pos =>
          subst hf
          by_cases ha : al = al'
          case neg =>
            have HN := Lib.hid (show X = (al == al') by rw [HX.out]; simp [ha])
            go_wp2
            go_ret
            exact ⟨by rw [HN.out]; rfl, HB.out⟩
          case pos =>
          subst ha
          have HN := Lib.hid (show X = true by rw [HX.out]; exact decide_eq_true (by simpa using HALL.out))
          go_wp2
          go_ret
          exact ⟨by rw [HN.out]; rfl, HB.out⟩
end Go.Proofs.Ytikimmhkfjaijaa
