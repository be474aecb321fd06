/-
  META: slices.Equal of ints, slices.EqualFunc of snapshots, meta.Same (printed by wip/gen-metl.py).
-/
import Derived.Test.YtimgecflcackbaaMetJ
import Derived.Test.YtimgecflcackbaaGrow
namespace Go.Proofs.Ytimgecflcackbaa
open Go.RowKit Reg Go.ChangeShapes

theorem equalI_any (v v' : Value) (zs zs' : List Int) (w : World) (hv : InI w v zs) (hv' : InI w v' zs') :
    Calls Try.prog 55 #[v, v'] w fun e w' => e = .returned (.bool (decide (zs = zs'))) ∧ Below w.heap.size w w' := by
  obtain ⟨a, c, rfl, _, hx⟩ := hv.open_
  obtain ⟨a', c', rfl, _, hx'⟩ := hv'.open_
  by_cases hl : zs.length = zs'.length
  · rw [← hl] at hx' ⊢
    have hres : ∀ b, (b = true ↔ ∀ j, j < zs.length → zs.getD j 0 = zs'.getD j 0) → decide (zs = zs') = b := by
      intro b hb
      rw [Bool.eq_iff_iff, hb, decide_eq_true_iff]
      exact ⟨fun h => h ▸ fun _ _ => rfl, eq_of_getD hl⟩
    generalize decide (zs = zs') = b at *
    generalize hZ : (fun j => zs.getD j 0) = Z at *
    generalize hZ' : (fun j => zs'.getD j 0) = Z' at *
    have hX : ∀ j, j < zs.length → ∃ g off, a = some ⟨g, off, none⟩ ∧ w.cell? ⟨g, off + j, none⟩ = some (.int .i64 (Z j)) := by subst hZ; exact hx
    have hX' : ∀ j, j < zs.length → ∃ g off, a' = some ⟨g, off, none⟩ ∧ w.cell? ⟨g, off + j, none⟩ = some (.int .i64 (Z' j)) := by subst hZ'; exact hx'
    have hR : ∀ b', (b' = true ↔ ∀ j, j < zs.length → Z j = Z' j) → b = b' := by subst hZ; subst hZ'; exact hres
    have hn := hv.2.1
    clear hx hx' hZ hZ' hres hv hv' hl
    generalize zs.length = n at *
    have HX := Lib.hid hX
    have HX' := Lib.hid hX'
    have HR := Lib.hid hR
    have HN := Lib.hid hn
    clear hX hX' hR hn
    go_enter Try.func55, Try.ntmps55
    go_wp2
    go_loopw [13] (fun i wr => ∃ k : Nat, k ≤ n ∧ (∀ j, j < k → Z j = Z' j) ∧ i = .int .i64 k ∧ Below w.heap.size w wr) (fun i _ => n - (intOf i).toNat)
    case atStart => exact ⟨0, Nat.zero_le _, fun j hj => by omega, rfl, Below.refl _ _⟩
    case round =>
      obtain ⟨k, hk, hq, rfl, hb⟩ := hrel
      have HB := Lib.hid hb
      have HQ := Lib.hid hq
      clear hb hq
      by_cases hkn : k < n
      · obtain ⟨g, off, rfl, hc⟩ := HX.out k hkn
        obtain ⟨g', off', rfl, hc'⟩ := HX'.out k hkn
        have hc1 := cell_later HB.out hc
        have hc2 := cell_later HB.out hc'
        have i1 : (k : Int) < (n : Int) := by omega
        have HKN := Lib.hid hkn
        clear hc hc' hkn
        by_cases hz : Z k = Z' k
        · have hz2 : (Z k == Z' k) = true := by simp [hz]
          have HZ := Lib.hid hz
          clear hz
          go_wp2_with fail
          go_quiet (fail)
          have HB1 := Lib.hid (below_drewN HB.out nq)
          clear HB
          have hn := HN.out
          have hkn := HKN.out
          unfold maxLen at hn
          go_wp2
          refine ⟨⟨k + 1, by omega, ?_, by go_num, HB1.out⟩, by simp [intOf]; omega⟩
          intro j hj
          rcases Nat.lt_succ_iff_lt_or_eq.1 hj with h | rfl
          · exact HQ.out j h
          · exact HZ.out
        · have hb : b = false := HR.out false ⟨(fun h => by cases h), fun h => absurd (h k HKN.out) hz⟩
          have hz2 : (Z k == Z' k) = false := by simp [hz]
          have HBB := Lib.hid hb
          have HZ := Lib.hid hz
          clear hb hz
          go_wp2_with fail
          go_quiet (fail)
          have HB1 := Lib.hid (below_drewN HB.out nq)
          clear HB
          go_wp2
          go_ret
          exact ⟨by rw [HBB.out]; rfl, HB1.out⟩
      · obtain rfl : k = n := by omega
        have hb : b = true := HR.out true ⟨fun _ => HQ.out, fun _ => rfl⟩
        have HBB := Lib.hid hb
        clear hb
        go_wp2
        go_ret
        exact ⟨by rw [HBB.out]; rfl, HB.out⟩
  · have hd : decide (zs = zs') = false := by
      rw [decide_eq_false_iff_not]
      rintro rfl
      exact hl rfl
    have i1 : ((zs.length : Int) == (zs'.length : Int)) = false := by simp; omega
    have i2 : ¬ (zs.length : Int) = (zs'.length : Int) := by omega
    rw [hd]
    clear hx hx' hv hv' hd
    generalize zs.length = n at *
    generalize zs'.length = n' at *
    go_enter Try.func55, Try.ntmps55
    go_wp2
    go_ret
    exact ⟨rfl, Below.refl _ _⟩
/-! ### alike, plainly -/
def eqS (x y : Sn) : Bool := (x.guid.1 == y.guid.1 && x.guid.2 == y.guid.2) && ((x.hidden == y.hidden) && decide (x.image = y.image))
def eqSs (l l' : List Sn) : Bool := decide (l.length = l'.length ∧ ∀ j, j < l.length → eqS (l.getD j snap0) (l'.getD j snap0) = true)
def sameM (m q : Mt) : Bool :=
  eqSs m.snaps q.snaps && (decide (m.live = q.live) && ((m.token.base.1 == q.token.base.1 && m.token.base.2 == q.token.base.2) && ((m.token.target.1 == q.token.target.1 && m.token.target.2 == q.token.target.2) &&
    ((m.token.next == q.token.next) && ((m.token.all == q.token.all) && decide (m.token.image = q.token.image))))))
theorem eqS_iff {x y : Sn} : eqS x y = true ↔ x = y := by
  obtain ⟨⟨a, b⟩, i, h⟩ := x
  obtain ⟨⟨a', b'⟩, i', h'⟩ := y
  unfold eqS
  simp only [Bool.and_eq_true, beq_iff_eq, decide_eq_true_eq, Sn.mk.injEq, Prod.mk.injEq]
  constructor
  · rintro ⟨⟨h1, h2⟩, h3, h4⟩; exact ⟨⟨h1, h2⟩, h4, h3⟩
  · rintro ⟨⟨h1, h2⟩, h3, h4⟩; exact ⟨⟨h1, h2⟩, h4, h3⟩
theorem eqSs_iff {l l' : List Sn} : eqSs l l' = true ↔ l = l' := by
  unfold eqSs
  rw [decide_eq_true_iff]
  constructor
  · rintro ⟨h1, h2⟩
    apply List.ext_getElem h1
    intro i hi hi'
    have := eqS_iff.1 (h2 i hi)
    simpa [List.getD, hi, hi'] using this
  · rintro rfl
    exact ⟨rfl, fun j _ => eqS_iff.2 rfl⟩
theorem sameM_iff {m q : Mt} : sameM m q = true ↔ m = q := by
  obtain ⟨l, s, ⟨⟨b1, b2⟩, ⟨t1, t2⟩, nx, al, im⟩⟩ := m
  obtain ⟨l', s', ⟨⟨b1', b2'⟩, ⟨t1', t2'⟩, nx', al', im'⟩⟩ := q
  unfold sameM
  simp only [Bool.and_eq_true, beq_iff_eq, decide_eq_true_eq, eqSs_iff, Mt.mk.injEq, Tk.mk.injEq, Prod.mk.injEq]
  constructor
  · rintro ⟨h1, h2, ⟨h3, h4⟩, ⟨h5, h6⟩, h7, h8, h9⟩; exact ⟨h2, h1, ⟨h3, h4⟩, ⟨h5, h6⟩, h7, h8, h9⟩
  · rintro ⟨h1, h2, ⟨h3, h4⟩, ⟨h5, h6⟩, h7, h8, h9⟩; exact ⟨h2, h1, ⟨h3, h4⟩, ⟨h5, h6⟩, h7, h8, h9⟩
theorem sameM_refl (m : Mt) : sameM m m = true := sameM_iff.2 rfl
/-- v is read as the snapshot s -/
def InSn (w : World) (v : Value) (s : Sn) : Prop := ∃ iv, v = .agg #[.int .u64 s.guid.1, .int .u64 s.guid.2, iv, .bool s.hidden] ∧ InI w iv s.image
theorem InSn.keep {w w' : World} {v : Value} {s : Sn} (h : InSn w v s) (hb : Below w.heap.size w w') : InSn w' v s := by
  obtain ⟨iv, h1, h2⟩ := h
  exact ⟨iv, h1, h2.keep hb⟩

set_option maxRecDepth 100000 in
set_option maxHeartbeats 1000000 in
theorem sameC_any (w : World) (u v : Value) (x y : Sn) (hu : InSn w u x) (hv : InSn w v y) : Calls Try.prog 54 #[u, v] w fun e w' => e = .returned (.bool (eqS x y)) ∧ Below w.heap.size w w' := by
  obtain ⟨iu, rfl, hi⟩ := hu
  obtain ⟨iv, rfl, hi'⟩ := hv
  obtain ⟨⟨ge, gc⟩, zs, hd⟩ := x
  obtain ⟨⟨ge', gc'⟩, zs', hd'⟩ := y
  dsimp only at *
  have HEQ := Lib.hid (fun w2 (h : Below w.heap.size w w2) => equalI_any iu iv zs zs' w2 (hi.keep h) (hi'.keep h))
  obtain ⟨a, c, rfl, -, -⟩ := hi.open_
  obtain ⟨a', c', rfl, -, -⟩ := hi'.open_
  have hE := run_eq_guid ge gc ge' gc'
  obtain ⟨X, hX⟩ : ∃ X, X = eqS ⟨(ge, gc), zs, hd⟩ ⟨(ge', gc'), zs', hd'⟩ := ⟨_, rfl⟩
  rw [← hX]
  unfold eqS at hX
  dsimp only at hX
  generalize (ge == ge' && gc == gc') = s1 at *
  generalize hs2 : (hd == hd') = s2 at *
  generalize decide (zs = zs') = s3 at *
  have HB0 := Lib.hid (((Below.refl w.heap.size w).alloc (Nat.le_refl _) (Obj.cells #[.int .u64 ge, .int .u64 gc, .slice a zs.length c, .bool hd] 48)).alloc (by simp) (Obj.cells #[.int .u64 ge', .int .u64 gc', .slice a' zs'.length c', .bool hd'] 48))
  have HX := Lib.hid hX
  have HQ := Lib.hid (HEQ.out _ HB0.out)
  clear hi hi' hX HEQ
  cases s1 with
  | false =>
    have HR := Lib.hid (show X = false by rw [HX.out]; rfl)
    go_enter Try.func54, Try.ntmps54
    go_wp2
    go_ret
    exact ⟨by rw [HR.out]; rfl, HB0.out⟩
  | true =>
    cases s2 with
    | false =>
      have HR := Lib.hid (show X = false by rw [HX.out]; rfl)
      go_enter Try.func54, Try.ntmps54
      go_wp2
      go_ret
      exact ⟨by rw [HR.out]; rfl, HB0.out⟩
    | true =>
      have HR := Lib.hid (show X = s3 by rw [HX.out]; rfl)
      go_enter Try.func54, Try.ntmps54
      go_wp2_with fail
      refine HQ.out.mono ?_
      rintro e w2 ⟨rfl, hb⟩
      have HB2 := Lib.hid (HB0.out.trans (hb.mono HB0.out.size))
      clear hb HQ HB0
      go_wp2
      go_ret
      exact ⟨by rw [HR.out]; rfl, HB2.out⟩

set_option maxRecDepth 100000 in
set_option maxHeartbeats 1000000 in
theorem equalF_any (w : World) (u v : Value) (l l' : List Sn) (hu : InS w u l) (hv : InS w v l') : Calls Try.prog 53 #[u, v, .func (.func 54) #[] #[]] w fun e w' => e = .returned (.bool (eqSs l l')) ∧ Below w.heap.size w w' := by
  obtain ⟨a, c, rfl, hml, hx⟩ := hu
  obtain ⟨a', c', rfl, hml', hx'⟩ := hv
  obtain ⟨X, hX⟩ : ∃ X, X = eqSs l l' := ⟨_, rfl⟩
  rw [← hX]
  unfold eqSs at hX
  generalize hZ : (fun j => l.getD j snap0) = Z
  generalize hZ' : (fun j => l'.getD j snap0) = Z'
  have hZj : ∀ j, l.getD j snap0 = Z j := fun j => by rw [← hZ]
  have hZj' : ∀ j, l'.getD j snap0 = Z' j := fun j => by rw [← hZ']
  simp only [hZj, hZj'] at hX hx hx'
  generalize l.length = n at *
  generalize l'.length = n' at *
  have HX := Lib.hid hX
  have HC := Lib.hid hx
  have HC' := Lib.hid hx'
  have HML := Lib.hid hml
  clear hX hx hx' hZ hZ' hZj hZj' hml hml'
  by_cases hn : n = n'
  case neg =>
    have hni : (((n : Nat) : Int) != (n' : Int)) = true := by simp; omega
    have HN := Lib.hid (show X = false by rw [HX.out]; simp [hn])
    clear hn
    go_enter Try.func53, Try.ntmps53
    go_wp2
    go_ret
    exact ⟨by rw [HN.out]; rfl, Below.refl _ _⟩
  case pos =>
  subst hn
  have hni : (((n : Nat) : Int) != (n : Int)) = false := by simp
  go_enter Try.func53, Try.ntmps53
  go_wp2_with fail
  clear hni
  go_loopw [17] (fun i wr => ∃ k : Nat, k ≤ n ∧ i = .int .i64 k ∧ Below w.heap.size w wr ∧ ∀ j, j < k → eqS (Z j) (Z' j) = true) (fun i _ => n - (intOf i).toNat)
  case atStart => exact ⟨0, Nat.zero_le _, rfl, Below.refl _ _, fun j hj => absurd hj (Nat.not_lt_zero _)⟩
  case round =>
    obtain ⟨k, hk, rfl, hb, hall⟩ := hrel
    have HB := Lib.hid hb
    have HALL := Lib.hid hall
    clear hb hall
    by_cases hkn : k < n
    · obtain ⟨g, o, iv, rfl, c0, c1, c2, hi, c3, -⟩ := HC.out k hkn
      obtain ⟨g', o', iv', rfl, d0, d1, d2, hi', d3, -⟩ := HC'.out k hkn
      replace c0 := cell_later HB.out c0
      replace c1 := cell_later HB.out c1
      replace c2 := cell_later HB.out c2
      replace c3 := cell_later HB.out c3
      have e0 := fun o => cell_later ((Below.refl wr.heap.size wr).alloc (Nat.le_refl _) o) (cell_later HB.out d0)
      have e1 := fun o => cell_later ((Below.refl wr.heap.size wr).alloc (Nat.le_refl _) o) (cell_later HB.out d1)
      have e2 := fun o => cell_later ((Below.refl wr.heap.size wr).alloc (Nat.le_refl _) o) (cell_later HB.out d2)
      have e3 := fun o => cell_later ((Below.refl wr.heap.size wr).alloc (Nat.le_refl _) o) (cell_later HB.out d3)
      clear d0 d1 d2 d3
      have l1 : (k : Int) < (n : Int) := by omega
      have l0 : (0 : Int) ≤ (k : Int) := by omega
      have HKN := Lib.hid hkn
      have HST := Lib.hid (fun h : eqS (Z k) (Z' k) = true => show ∀ j, j < k + 1 → eqS (Z j) (Z' j) = true from fun j hj => by
        by_cases e : j = k
        · rw [e]; exact h
        · exact HALL.out j (by omega))
      have HNO := Lib.hid (fun h : eqS (Z k) (Z' k) = false => show X = false by
        rw [HX.out]
        refine decide_eq_false fun hh => ?_
        have := hh.2 k HKN.out
        rw [h] at this
        cases this)
      have HSC := Lib.hid (fun w2 (h : Below w.heap.size w w2) => sameC_any w2 _ _ (Z k) (Z' k) ⟨iv, rfl, hi.keep h⟩ ⟨iv', rfl, hi'.keep h⟩)
      have I9 := Lib.hid (wrap_succ hkn HML.out)
      obtain ⟨ai, ci, rfl, -, -⟩ := hi.open_
      obtain ⟨ai', ci', rfl, -, -⟩ := hi'.open_
      clear hkn hk hi hi'
      generalize eqS (Z k) (Z' k) = s at *
      generalize Z k = x at *
      generalize Z' k = y at *
      have HB1 := Lib.hid ((HB.out.alloc HB.out.size (Obj.cells #[.int .u64 x.guid.1, .int .u64 x.guid.2, .slice ai x.image.length ci, .bool x.hidden] 48)).alloc (by have := HB.out.size; simp; omega) (Obj.cells #[.int .u64 y.guid.1, .int .u64 y.guid.2, .slice ai' y.image.length ci', .bool y.hidden] 48))
      go_wp2_with fail
      refine (HSC.out _ HB1.out).mono ?_
      rintro e w2 ⟨rfl, hb⟩
      have HB2 := Lib.hid (HB1.out.trans (hb.mono HB1.out.size))
      clear hb HSC HB1 e0 e1 e2 e3 c0 c1 c2 c3
      cases s with
      | false =>
        replace HNO := Lib.hid (HNO.out rfl)
        go_wp2
        go_ret
        exact ⟨by rw [HNO.out]; rfl, HB2.out⟩
      | true =>
        replace HST := Lib.hid (HST.out rfl)
        clear l1 l0 HNO
        go_wp2
        rw [I9.out]
        clear I9
        exact ⟨⟨k + 1, HKN.out, by simp, HB2.out, HST.out⟩, meas_succ HKN.out⟩
    · obtain rfl : k = n := by omega
      have HR := Lib.hid (show X = true by rw [HX.out]; simp; exact HALL.out)
      clear hkn hk HALL
      go_wp2
      go_ret
      exact ⟨by rw [HR.out]; rfl, HB.out⟩
end Go.Proofs.Ytimgecflcackbaa
