/-
  META: the reference's Same (printed by wip/gen-metl.py).
-/
import Derived.Test.YtimgecflcackbaaMetM
namespace Go.Proofs.Ytimgecflcackbaa
open Go.RowKit Reg Go.ChangeShapes

set_option maxRecDepth 100000 in
set_option maxHeartbeats 4000000 in
theorem sameRM_any (w : World) (u v : Value) (m q : Mt) (hu : InMt w u m) (hv : InMt w v q) : Calls Try.prog 16 #[u, v] w fun e w' => e = .returned (.bool (sameM m q)) ∧ Below w.heap.size w w' := by
  obtain ⟨lu, su, iu, rfl, hl, hs, hi, -⟩ := hu
  obtain ⟨lv, sv, iv, rfl, hl', hs', hi', -⟩ := hv
  have HEL := Lib.hid (fun w2 (h : Below w.heap.size w w2) => ints_any lu lv m.live q.live w2 (hl.keep h) (hl'.keep h))
  have HEI := Lib.hid (fun w2 (h : Below w.heap.size w w2) => ints_any iu iv m.token.image q.token.image w2 (hi.keep h) (hi'.keep h))
  obtain ⟨la, lc, rfl, -, -⟩ := hl.open_
  obtain ⟨la', lc', rfl, -, -⟩ := hl'.open_
  obtain ⟨sa, sc, rfl, hsm, hsx⟩ := hs
  obtain ⟨sa', sc', rfl, hsm', hsx'⟩ := hs'
  obtain ⟨ia, ic, rfl, -, -⟩ := hi.open_
  obtain ⟨ia', ic', rfl, -, -⟩ := hi'.open_
  obtain ⟨X, hX⟩ : ∃ X, X = sameM m q := ⟨_, rfl⟩
  rw [← hX]
  unfold sameM at hX
  have hE1 := run_eq_guid m.token.base.1 m.token.base.2 q.token.base.1 q.token.base.2
  have hE2 := run_eq_guid m.token.target.1 m.token.target.2 q.token.target.1 q.token.target.2
  generalize hsn : eqSs m.snaps q.snaps = ss at *
  generalize decide (m.live = q.live) = sl at *
  generalize (m.token.base.1 == q.token.base.1 && m.token.base.2 == q.token.base.2) = sb at *
  generalize (m.token.target.1 == q.token.target.1 && m.token.target.2 == q.token.target.2) = st at *
  generalize hn1 : (m.token.next == q.token.next) = sn at *
  generalize hn2 : (m.token.all == q.token.all) = sx at *
  generalize decide (m.token.image = q.token.image) = si at *
  have HX := Lib.hid hX
  unfold mtV
  have hbl := ((Below.refl w.heap.size w).alloc (Nat.le_refl _) (Obj.cells #[.slice la m.live.length lc, .slice sa m.snaps.length sc, .int .u64 m.token.base.1, .int .u64 m.token.base.2, .int .u64 m.token.target.1, .int .u64 m.token.target.2, .int .i64 m.token.next, .int .i64 m.token.all, .slice ia m.token.image.length ic] 30)).alloc (by simp) (Obj.cells #[.slice la' q.live.length lc', .slice sa' q.snaps.length sc', .int .u64 q.token.base.1, .int .u64 q.token.base.2, .int .u64 q.token.target.1, .int .u64 q.token.target.2, .int .i64 q.token.next, .int .i64 q.token.all, .slice ia' q.token.image.length ic'] 30)
  have HB0 := Lib.hid hbl
  have HP := Lib.hid ((Blk.new w 30 #[.slice la m.live.length lc, .slice sa m.snaps.length sc, .int .u64 m.token.base.1, .int .u64 m.token.base.2, .int .u64 m.token.target.1, .int .u64 m.token.target.2, .int .i64 m.token.next, .int .i64 m.token.all, .slice ia m.token.image.length ic]).alloc (Obj.cells #[.slice la' q.live.length lc', .slice sa' q.snaps.length sc', .int .u64 q.token.base.1, .int .u64 q.token.base.2, .int .u64 q.token.target.1, .int .u64 q.token.target.2, .int .i64 q.token.next, .int .i64 q.token.all, .slice ia' q.token.image.length ic'] 30))
  have HQ := Lib.hid (Blk.newAt (w := w.alloc (Obj.cells #[.slice la m.live.length lc, .slice sa m.snaps.length sc, .int .u64 m.token.base.1, .int .u64 m.token.base.2, .int .u64 m.token.target.1, .int .u64 m.token.target.2, .int .i64 m.token.next, .int .i64 m.token.all, .slice ia m.token.image.length ic] 30)) 30 #[.slice la' q.live.length lc', .slice sa' q.snaps.length sc', .int .u64 q.token.base.1, .int .u64 q.token.base.2, .int .u64 q.token.target.1, .int .u64 q.token.target.2, .int .i64 q.token.next, .int .i64 q.token.all, .slice ia' q.token.image.length ic'] (g := w.heap.size + 1) (by simp))
  have HSN := Lib.hid hsn
  have HSX := Lib.hid hsx
  have HSX' := Lib.hid hsx'
  clear hX hl hl' hi hi' hbl hsn hsx hsx'
  go_enter Try.func16, Try.ntmps16
  go_wp2_with fail
  generalize (w.alloc (Obj.cells #[.slice la m.live.length lc, .slice sa m.snaps.length sc, .int .u64 m.token.base.1, .int .u64 m.token.base.2, .int .u64 m.token.target.1, .int .u64 m.token.target.2, .int .i64 m.token.next, .int .i64 m.token.all, .slice ia m.token.image.length ic] 30)).alloc (Obj.cells #[.slice la' q.live.length lc', .slice sa' q.snaps.length sc', .int .u64 q.token.base.1, .int .u64 q.token.base.2, .int .u64 q.token.target.1, .int .u64 q.token.target.2, .int .i64 q.token.next, .int .i64 q.token.all, .slice ia' q.token.image.length ic'] 30) = W0 at *
  refine (HEL.out _ HB0.out).mono ?_
  rintro e W1 ⟨rfl, hb⟩
  have HB1 := Lib.hid (HB0.out.trans (hb.mono HB0.out.size))
  have HP1 := Lib.hid (HP.out.keep hb)
  have HQ1 := Lib.hid (HQ.out.keep hb)
  clear hb HEL HP HQ HB0
  have p1 := (HP1.out).cell 1
  simp at p1
  have q1 := (HQ1.out).cell 1
  simp at q1
  cases sl with
  | false =>
    have HR := Lib.hid (show X = false by rw [HX.out]; cases ss <;> rfl)
    go_wp2
    go_ret
    exact ⟨by rw [HR.out]; rfl, HB1.out⟩
  | true =>
  by_cases hnn : m.snaps.length = q.snaps.length
  case neg =>
    have hni : (((m.snaps.length : Nat) : Int) != (q.snaps.length : Int)) = true := by simp; omega
    have hss : ss = false := by rw [← HSN.out]; unfold eqSs; exact decide_eq_false fun h => hnn h.1
    have HR := Lib.hid (show X = false by rw [HX.out, hss]; rfl)
    clear hnn hss
    go_wp2
    go_ret
    exact ⟨by rw [HR.out]; rfl, HB1.out⟩
  case pos =>
  have hni : (((m.snaps.length : Nat) : Int) != (q.snaps.length : Int)) = false := by simp [hnn]
  have HNN := Lib.hid hnn
  clear hnn
  go_wp2_with fail
  clear hni p1 q1
  go_loopw [5] (fun i wr => ∃ k : Nat, k ≤ m.snaps.length ∧ i = .int .i64 k ∧ Below w.heap.size w wr ∧ Below W1.heap.size W1 wr ∧ ∀ j, j < k → eqS (m.snaps.getD j snap0) (q.snaps.getD j snap0) = true) (fun i _ => m.snaps.length - (intOf i).toNat)
  case atStart => exact ⟨0, Nat.zero_le _, rfl, HB1.out, Below.refl _ _, fun j hj => absurd hj (Nat.not_lt_zero _)⟩
  case round =>
    obtain ⟨k, hk, rfl, hb, hb1, hall⟩ := hrel
    have HB := Lib.hid hb
    have HALL := Lib.hid hall
    have HPr := Lib.hid (HP1.out.keep hb1)
    have HQr := Lib.hid (HQ1.out.keep hb1)
    have HBW := Lib.hid hb1
    clear hb hb1 hall HP1 HQ1 HB1
    have p1 := (HPr.out).cell 1
    simp at p1
    by_cases hkm : k < m.snaps.length
    · obtain ⟨g, o, iv, rfl, c0, c1, c2, hi, c3, -⟩ := HSX.out k hkm
      obtain ⟨g', o', iv', rfl, d0, d1, d2, hi', d3, -⟩ := HSX'.out k (by have := HNN.out; omega)
      have C := Lib.hid (And.intro (And.intro c0 c1) (And.intro c2 c3))
      have C' := Lib.hid (And.intro (And.intro d0 d1) (And.intro d2 d3))
      have HEK := Lib.hid (fun w2 (h : Below w.heap.size w w2) => ints_any iv iv' _ _ w2 (hi.keep h) (hi'.keep h))
      obtain ⟨ai, ci, rfl, -, -⟩ := hi.open_
      obtain ⟨ai', ci', rfl, -, -⟩ := hi'.open_
      have l0 : k < m.snaps.length := hkm
      have l1 : (k : Int) < (m.snaps.length : Int) := by omega
      have l2 : k < q.snaps.length := by have := HNN.out; omega
      have l3 : (k : Int) < (q.snaps.length : Int) := by omega
      have HST := Lib.hid (fun h : eqS (m.snaps.getD k snap0) (q.snaps.getD k snap0) = true => show ∀ j, j < k + 1 → eqS (m.snaps.getD j snap0) (q.snaps.getD j snap0) = true from fun j hj => by
        by_cases e : j = k
        · rw [e]; exact h
        · exact HALL.out j (by omega))
      have HNO := Lib.hid (fun h : eqS (m.snaps.getD k snap0) (q.snaps.getD k snap0) = false => show X = false by
        have hss : ss = false := by
          rw [← HSN.out]
          unfold eqSs
          exact decide_eq_false fun hh => by have := hh.2 k hkm; rw [h] at this; cases this
        rw [HX.out, hss]; rfl)
      have I9 := Lib.hid (wrap_succ hkm hsm)
      have HKM := Lib.hid hkm
      clear hi hi' c0 c1 c2 c3 d0 d1 d2 d3 hk hkm
      have hes : eqS (m.snaps.getD k snap0) (q.snaps.getD k snap0) = eqS (m.snaps.getD k snap0) (q.snaps.getD k snap0) := rfl
      generalize m.snaps.getD k snap0 = x at *
      generalize q.snaps.getD k snap0 = y at *
      conv at hes => rhs; unfold eqS
      have hN := run_neq_guid x.guid.1 x.guid.2 y.guid.1 y.guid.2
      generalize eqS x y = s at *
      generalize (x.guid.1 == y.guid.1 && x.guid.2 == y.guid.2) = s1 at *
      generalize hs2 : (x.hidden == y.hidden) = s2 at *
      generalize decide (x.image = y.image) = s3 at *
      have HES := Lib.hid hes
      have HS2 := Lib.hid hs2
      clear hes hs2
      go_wp2_with fail
      clear p1
      have hfine : Fine [⟨10, 12, 48, #[.int .u64 0, .int .u64 0, .slice none 0 0, .bool false], some #[.int .u64 x.guid.1, .int .u64 x.guid.2, .slice ai x.image.length ci, .bool x.hidden], 1000⟩, ⟨11, 13, 48, #[.int .u64 0, .int .u64 0, .slice none 0 0, .bool false], some #[.int .u64 y.guid.1, .int .u64 y.guid.2, .slice ai' y.image.length ci', .bool y.hidden], 1000⟩] := by
        refine ⟨?_, ?_, ?_, ?_⟩
        all_goals
          intro v hv v' hv'
          simp only [List.mem_cons, List.not_mem_nil, or_false] at hv hv'
          rcases hv with rfl | rfl <;> rcases hv' with rfl | rfl <;> simp
      have HFN := Lib.hid hfine
      clear hfine
      refine wp_region_spec (fun i => i == 10 || i == 11 || i == 12 || i == 13) (kinds [(10, .pt), (11, .pt), (12, .is undef), (13, .is undef)]) (CG wr [⟨10, 12, 48, #[.int .u64 0, .int .u64 0, .slice none 0 0, .bool false], some #[.int .u64 x.guid.1, .int .u64 x.guid.2, .slice ai x.image.length ci, .bool x.hidden], 1000⟩, ⟨11, 13, 48, #[.int .u64 0, .int .u64 0, .slice none 0 0, .bool false], some #[.int .u64 y.guid.1, .int .u64 y.guid.2, .slice ai' y.image.length ci', .bool y.hidden], 1000⟩] (fun _ _ _ => True)) (by kernel_rfl) (by kernel_rfl) (kinds_inh _) CG.start ?_
      intro ν hν
      obtain ⟨g10, n10⟩ : ∃ g, ν 10 = ptr g := hν 10
      have n12 : ν 12 = undef := hν 12
      obtain ⟨g11, n11⟩ : ∃ g, ν 11 = ptr g := hν 11
      have n13 : ν 13 = undef := hν 13
      clear hν
      refine lex_plain (by rfl) rfl ?_
      apply Exists.intro
      refine ⟨fun σ w2 hA hD hC => ?_, ?_⟩
      · clear hA hD hC
        go_simp
        exact And.intro rfl rfl
      simp only [Act.put, List.setIfInBounds_toArray, List.set_cons_succ, List.set_cons_zero, Nat.reduceAdd]
      refine lex_plain (by rfl) rfl ?_
      apply Exists.intro
      refine ⟨fun σ w2 hA hD hC => ?_, ?_⟩
      · have hZ := hC.below
        have y1 := (HPr.out.keep hZ).cell 1
        simp at y1
        clear hZ
        clear hA hD hC
        go_simp
        exact And.intro rfl rfl
      simp only [Act.put, List.setIfInBounds_toArray, List.set_cons_succ, List.set_cons_zero, Nat.reduceAdd]
      refine lex_plain (by rfl) rfl ?_
      apply Exists.intro
      refine ⟨fun σ w2 hA hD hC => ?_, ?_⟩
      · clear hA hD hC
        go_simp
        exact And.intro rfl rfl
      simp only [Act.put, List.setIfInBounds_toArray, List.set_cons_succ, List.set_cons_zero, Nat.reduceAdd]
      refine lex_plain (by rfl) rfl ?_
      apply Exists.intro
      refine ⟨fun σ w2 hA hD hC => ?_, ?_⟩
      · clear hA hD hC
        go_simp
        exact And.intro rfl rfl
      simp only [Act.put, List.setIfInBounds_toArray, List.set_cons_succ, List.set_cons_zero, Nat.reduceAdd]
      refine lex_plain (by rfl) rfl ?_
      apply Exists.intro
      refine ⟨fun σ w2 hA hD hC => ?_, ?_⟩
      · have hZ := hC.below
        have y0 := cell_later (HB.out.trans (hZ.mono HB.out.size)) C.out.1.1
        have y1 := cell_later (HB.out.trans (hZ.mono HB.out.size)) C.out.1.2
        have y2 := cell_later (HB.out.trans (hZ.mono HB.out.size)) C.out.2.1
        have y3 := cell_later (HB.out.trans (hZ.mono HB.out.size)) C.out.2.2
        clear hZ
        clear hA hD hC
        go_simp
        exact And.intro rfl rfl
      simp only [Act.put, List.setIfInBounds_toArray, List.set_cons_succ, List.set_cons_zero, Nat.reduceAdd]
      refine lex_plain (by rfl) rfl ?_
      apply Exists.intro
      refine ⟨fun σ w2 hA hD hC => ?_, ?_⟩
      · clear hA hD hC
        go_simp
        exact And.intro rfl rfl
      simp only [Act.put, List.setIfInBounds_toArray, List.set_cons_succ, List.set_cons_zero, Nat.reduceAdd]
      refine lex_plain (by rfl) rfl ?_
      apply Exists.intro
      refine ⟨fun σ w2 hA hD hC => ?_, ?_⟩
      · have hZ := hC.below
        have y1 := (HQr.out.keep hZ).cell 1
        simp at y1
        clear hZ
        clear hA hD hC
        go_simp
        exact And.intro rfl rfl
      simp only [Act.put, List.setIfInBounds_toArray, List.set_cons_succ, List.set_cons_zero, Nat.reduceAdd]
      refine lex_plain (by rfl) rfl ?_
      apply Exists.intro
      refine ⟨fun σ w2 hA hD hC => ?_, ?_⟩
      · clear hA hD hC
        go_simp
        exact And.intro rfl rfl
      simp only [Act.put, List.setIfInBounds_toArray, List.set_cons_succ, List.set_cons_zero, Nat.reduceAdd]
      refine lex_plain (by rfl) rfl ?_
      apply Exists.intro
      refine ⟨fun σ w2 hA hD hC => ?_, ?_⟩
      · clear hA hD hC
        go_simp
        exact And.intro rfl rfl
      simp only [Act.put, List.setIfInBounds_toArray, List.set_cons_succ, List.set_cons_zero, Nat.reduceAdd]
      refine lex_plain (by rfl) rfl ?_
      apply Exists.intro
      refine ⟨fun σ w2 hA hD hC => ?_, ?_⟩
      · have hZ := hC.below
        have y0 := cell_later (HB.out.trans (hZ.mono HB.out.size)) C'.out.1.1
        have y1 := cell_later (HB.out.trans (hZ.mono HB.out.size)) C'.out.1.2
        have y2 := cell_later (HB.out.trans (hZ.mono HB.out.size)) C'.out.2.1
        have y3 := cell_later (HB.out.trans (hZ.mono HB.out.size)) C'.out.2.2
        clear hZ
        clear hA hD hC
        go_simp
        exact And.intro rfl rfl
      simp only [Act.put, List.setIfInBounds_toArray, List.set_cons_succ, List.set_cons_zero, Nat.reduceAdd]
      refine lex_special (by rfl) rfl (fun σ w2 hA hD hn hC => ?_) ?_
      · go_simp
        exact hC.lay_ok HFN.out (v := ⟨10, 12, 48, #[.int .u64 0, .int .u64 0, .slice none 0 0, .bool false], some #[.int .u64 x.guid.1, .int .u64 x.guid.2, .slice ai x.image.length ci, .bool x.hidden], 1000⟩) List.mem_cons_self hn ⟨_, rfl⟩
      rw [n10]
      simp only [Act.put, List.setIfInBounds_toArray, List.set_cons_succ, List.set_cons_zero, Nat.reduceAdd]
      refine lex_special (by rfl) rfl (fun σ w2 hA hD hn hC => ?_) ?_
      · go_simp
        exact hC.lay_ok HFN.out (v := ⟨11, 13, 48, #[.int .u64 0, .int .u64 0, .slice none 0 0, .bool false], some #[.int .u64 y.guid.1, .int .u64 y.guid.2, .slice ai' y.image.length ci', .bool y.hidden], 1000⟩) (List.mem_cons_of_mem _ List.mem_cons_self) hn ⟨_, rfl⟩
      rw [n11]
      simp only [Act.put, List.setIfInBounds_toArray, List.set_cons_succ, List.set_cons_zero, Nat.reduceAdd]
      refine lex_special (by rfl) rfl (fun σ w2 hA hD hn hC => ?_) ?_
      · have ea := got1 hA hD 10 rfl (by kernel_rfl)
        rw [n10] at ea
        exact hC.store_ok HFN.out (v := ⟨10, 12, 48, #[.int .u64 0, .int .u64 0, .slice none 0 0, .bool false], some #[.int .u64 x.guid.1, .int .u64 x.guid.2, .slice ai x.image.length ci, .bool x.hidden], 1000⟩) List.mem_cons_self 48 (.tmp 6) (.tmp 36) rfl g10 #[.int .u64 x.guid.1, .int .u64 x.guid.2, .slice ai x.image.length ci, .bool x.hidden] rfl rfl ea rfl hn (by kernel_rfl) rfl (sn_one _ _ _ _ _ _) rfl
      rw [n12]
      simp only [Act.put, Nat.reduceAdd]
      refine lex_special (by rfl) rfl (fun σ w2 hA hD hn hC => ?_) ?_
      · have ea := got1 hA hD 11 rfl (by kernel_rfl)
        rw [n11] at ea
        exact hC.store_ok HFN.out (v := ⟨11, 13, 48, #[.int .u64 0, .int .u64 0, .slice none 0 0, .bool false], some #[.int .u64 y.guid.1, .int .u64 y.guid.2, .slice ai' y.image.length ci', .bool y.hidden], 1000⟩) (List.mem_cons_of_mem _ List.mem_cons_self) 48 (.tmp 7) (.tmp 41) rfl g11 #[.int .u64 y.guid.1, .int .u64 y.guid.2, .slice ai' y.image.length ci', .bool y.hidden] rfl rfl ea rfl hn (by kernel_rfl) rfl (sn_one _ _ _ _ _ _) rfl
      rw [n13]
      simp only [Act.put, Nat.reduceAdd]
      refine lex_nil (fun σ W2 hA hall hC => ?_)
      obtain ⟨q0, f0, -, B0⟩ := hC.end_ (v := ⟨10, 12, 48, #[.int .u64 0, .int .u64 0, .slice none 0 0, .bool false], some #[.int .u64 x.guid.1, .int .u64 x.guid.2, .slice ai x.image.length ci, .bool x.hidden], 1000⟩) List.mem_cons_self (hall 10 rfl (by decide)) (hall 12 rfl (by decide))
      replace f0 := ptr_inj (n10.symm.trans f0)
      subst f0
      have HV10 := Lib.hid (show Blk W2 g10 48 #[.int .u64 x.guid.1, .int .u64 x.guid.2, .slice ai x.image.length ci, .bool x.hidden] from B0)
      obtain ⟨q1, f1, -, B1⟩ := hC.end_ (v := ⟨11, 13, 48, #[.int .u64 0, .int .u64 0, .slice none 0 0, .bool false], some #[.int .u64 y.guid.1, .int .u64 y.guid.2, .slice ai' y.image.length ci', .bool y.hidden], 1000⟩) (List.mem_cons_of_mem _ List.mem_cons_self) (hall 11 rfl (by decide)) (hall 13 rfl (by decide))
      replace f1 := ptr_inj (n11.symm.trans f1)
      subst f1
      have HV11 := Lib.hid (show Blk W2 g11 48 #[.int .u64 y.guid.1, .int .u64 y.guid.2, .slice ai' y.image.length ci', .bool y.hidden] from B1)
      have hZ := hC.below
      clear hA hall hC HFN n10 n12 B0 n11 n13 B1
      unfold ptr
      have HB2 := Lib.hid (HB.out.trans (hZ.mono HB.out.size))
      have HBW2 := Lib.hid (HBW.out.trans (hZ.mono HBW.out.size))
      clear hZ HPr HQr HB HBW C C'
      have x0 := (HV10.out).cell 0
      have x1 := (HV10.out).cell 1
      have x2 := (HV10.out).cell 2
      have x3 := (HV10.out).cell 3
      simp at x0 x1 x2 x3
      have y0 := (HV11.out).cell 0
      have y1 := (HV11.out).cell 1
      have y2 := (HV11.out).cell 2
      have y3 := (HV11.out).cell 3
      simp at y0 y1 y2 y3
      cases s1 with
      | false =>
        have hN2 : ∀ w, (binOp .neq 26 (.agg #[.int .u64 x.guid.1, .int .u64 x.guid.2]) (.agg #[.int .u64 y.guid.1, .int .u64 y.guid.2])).run Try.prog w = .ok (.bool true) w := hN
        clear hN
        replace HNO := Lib.hid (HNO.out (by rw [HES.out]; rfl))
        go_wp2
        go_ret
        exact ⟨by rw [HNO.out]; rfl, HB2.out⟩
      | true =>
        have hN2 : ∀ w, (binOp .neq 26 (.agg #[.int .u64 x.guid.1, .int .u64 x.guid.2]) (.agg #[.int .u64 y.guid.1, .int .u64 y.guid.2])).run Try.prog w = .ok (.bool false) w := hN
        clear hN
        cases s2 with
        | false =>
          have hh : ¬ x.hidden = y.hidden := fun h => by have := HS2.out; rw [h] at this; simp at this
          replace HNO := Lib.hid (HNO.out (by rw [HES.out]; rfl))
          go_wp2
          go_ret
          exact ⟨by rw [HNO.out]; rfl, HB2.out⟩
        | true =>
          have hh : x.hidden = y.hidden := by have := HS2.out; simpa using this
          go_wp2_with fail
          refine (HEK.out _ HB2.out).mono ?_
          rintro e W3 ⟨rfl, hb⟩
          have HB3 := Lib.hid (HB2.out.trans (hb.mono HB2.out.size))
          have HBW3 := Lib.hid (HBW2.out.trans (hb.mono HBW2.out.size))
          clear hb HEK HB2 HBW2 x0 x1 x2 x3 y0 y1 y2 y3 HV10 HV11
          cases s3 with
          | false =>
            replace HNO := Lib.hid (HNO.out (by rw [HES.out]; rfl))
            go_wp2
            go_ret
            exact ⟨by rw [HNO.out]; rfl, HB3.out⟩
          | true =>
            replace HST := Lib.hid (HST.out (by rw [HES.out]; rfl))
            clear HNO l0 l1 l2 l3
            go_wp2
            rw [I9.out]
            clear I9
            exact ⟨⟨k + 1, HKM.out, by simp, HB3.out, HBW3.out, HST.out⟩, meas_succ HKM.out⟩
    · obtain rfl : k = m.snaps.length := by omega
      have hss : ss = true := by rw [← HSN.out]; unfold eqSs; exact decide_eq_true ⟨HNN.out, HALL.out⟩
      subst hss
      clear hkm hk HALL HSX HSX'
      go_wp2_with fail
      clear p1
      have hfine : Fine [⟨4, 6, 28, #[.int .u64 0, .int .u64 0, .int .u64 0, .int .u64 0, .int .i64 0, .int .i64 0, .slice none 0 0], some #[.int .u64 m.token.base.1, .int .u64 m.token.base.2, .int .u64 m.token.target.1, .int .u64 m.token.target.2, .int .i64 m.token.next, .int .i64 m.token.all, .slice ia m.token.image.length ic], 1000⟩, ⟨5, 7, 28, #[.int .u64 0, .int .u64 0, .int .u64 0, .int .u64 0, .int .i64 0, .int .i64 0, .slice none 0 0], some #[.int .u64 q.token.base.1, .int .u64 q.token.base.2, .int .u64 q.token.target.1, .int .u64 q.token.target.2, .int .i64 q.token.next, .int .i64 q.token.all, .slice ia' q.token.image.length ic'], 1000⟩] := by
        refine ⟨?_, ?_, ?_, ?_⟩
        all_goals
          intro v hv v' hv'
          simp only [List.mem_cons, List.not_mem_nil, or_false] at hv hv'
          rcases hv with rfl | rfl <;> rcases hv' with rfl | rfl <;> simp
      have HFN := Lib.hid hfine
      clear hfine
      refine wp_region_spec (fun i => i == 4 || i == 5 || i == 6 || i == 7) (kinds [(4, .pt), (5, .pt), (6, .is undef), (7, .is undef)]) (CG wr [⟨4, 6, 28, #[.int .u64 0, .int .u64 0, .int .u64 0, .int .u64 0, .int .i64 0, .int .i64 0, .slice none 0 0], some #[.int .u64 m.token.base.1, .int .u64 m.token.base.2, .int .u64 m.token.target.1, .int .u64 m.token.target.2, .int .i64 m.token.next, .int .i64 m.token.all, .slice ia m.token.image.length ic], 1000⟩, ⟨5, 7, 28, #[.int .u64 0, .int .u64 0, .int .u64 0, .int .u64 0, .int .i64 0, .int .i64 0, .slice none 0 0], some #[.int .u64 q.token.base.1, .int .u64 q.token.base.2, .int .u64 q.token.target.1, .int .u64 q.token.target.2, .int .i64 q.token.next, .int .i64 q.token.all, .slice ia' q.token.image.length ic'], 1000⟩] (fun _ _ _ => True)) (by kernel_rfl) (by kernel_rfl) (kinds_inh _) CG.start ?_
      intro ν hν
      obtain ⟨g4, n4⟩ : ∃ g, ν 4 = ptr g := hν 4
      have n6 : ν 6 = undef := hν 6
      obtain ⟨g5, n5⟩ : ∃ g, ν 5 = ptr g := hν 5
      have n7 : ν 7 = undef := hν 7
      clear hν
      refine lex_plain (by rfl) rfl ?_
      apply Exists.intro
      refine ⟨fun σ w2 hA hD hC => ?_, ?_⟩
      · clear hA hD hC
        go_simp
        exact And.intro rfl rfl
      simp only [Act.put, List.setIfInBounds_toArray, List.set_cons_succ, List.set_cons_zero, Nat.reduceAdd]
      refine lex_plain (by rfl) rfl ?_
      apply Exists.intro
      refine ⟨fun σ w2 hA hD hC => ?_, ?_⟩
      · have hZ := hC.below
        have y2 := (HPr.out.keep hZ).cell 2
        have y3 := (HPr.out.keep hZ).cell 3
        have y4 := (HPr.out.keep hZ).cell 4
        have y5 := (HPr.out.keep hZ).cell 5
        have y6 := (HPr.out.keep hZ).cell 6
        have y7 := (HPr.out.keep hZ).cell 7
        have y8 := (HPr.out.keep hZ).cell 8
        simp at y2 y3 y4 y5 y6 y7 y8
        clear hZ
        clear hA hD hC
        go_simp
        exact And.intro rfl rfl
      simp only [Act.put, List.setIfInBounds_toArray, List.set_cons_succ, List.set_cons_zero, Nat.reduceAdd]
      refine lex_plain (by rfl) rfl ?_
      apply Exists.intro
      refine ⟨fun σ w2 hA hD hC => ?_, ?_⟩
      · clear hA hD hC
        go_simp
        exact And.intro rfl rfl
      simp only [Act.put, List.setIfInBounds_toArray, List.set_cons_succ, List.set_cons_zero, Nat.reduceAdd]
      refine lex_plain (by rfl) rfl ?_
      apply Exists.intro
      refine ⟨fun σ w2 hA hD hC => ?_, ?_⟩
      · have hZ := hC.below
        have y2 := (HQr.out.keep hZ).cell 2
        have y3 := (HQr.out.keep hZ).cell 3
        have y4 := (HQr.out.keep hZ).cell 4
        have y5 := (HQr.out.keep hZ).cell 5
        have y6 := (HQr.out.keep hZ).cell 6
        have y7 := (HQr.out.keep hZ).cell 7
        have y8 := (HQr.out.keep hZ).cell 8
        simp at y2 y3 y4 y5 y6 y7 y8
        clear hZ
        clear hA hD hC
        go_simp
        exact And.intro rfl rfl
      simp only [Act.put, List.setIfInBounds_toArray, List.set_cons_succ, List.set_cons_zero, Nat.reduceAdd]
      refine lex_special (by rfl) rfl (fun σ w2 hA hD hn hC => ?_) ?_
      · go_simp
        exact hC.lay_ok HFN.out (v := ⟨4, 6, 28, #[.int .u64 0, .int .u64 0, .int .u64 0, .int .u64 0, .int .i64 0, .int .i64 0, .slice none 0 0], some #[.int .u64 m.token.base.1, .int .u64 m.token.base.2, .int .u64 m.token.target.1, .int .u64 m.token.target.2, .int .i64 m.token.next, .int .i64 m.token.all, .slice ia m.token.image.length ic], 1000⟩) List.mem_cons_self hn ⟨_, rfl⟩
      rw [n4]
      simp only [Act.put, List.setIfInBounds_toArray, List.set_cons_succ, List.set_cons_zero, Nat.reduceAdd]
      refine lex_special (by rfl) rfl (fun σ w2 hA hD hn hC => ?_) ?_
      · go_simp
        exact hC.lay_ok HFN.out (v := ⟨5, 7, 28, #[.int .u64 0, .int .u64 0, .int .u64 0, .int .u64 0, .int .i64 0, .int .i64 0, .slice none 0 0], some #[.int .u64 q.token.base.1, .int .u64 q.token.base.2, .int .u64 q.token.target.1, .int .u64 q.token.target.2, .int .i64 q.token.next, .int .i64 q.token.all, .slice ia' q.token.image.length ic'], 1000⟩) (List.mem_cons_of_mem _ List.mem_cons_self) hn ⟨_, rfl⟩
      rw [n5]
      simp only [Act.put, List.setIfInBounds_toArray, List.set_cons_succ, List.set_cons_zero, Nat.reduceAdd]
      refine lex_special (by rfl) rfl (fun σ w2 hA hD hn hC => ?_) ?_
      · have ea := got1 hA hD 4 rfl (by kernel_rfl)
        rw [n4] at ea
        exact hC.store_ok HFN.out (v := ⟨4, 6, 28, #[.int .u64 0, .int .u64 0, .int .u64 0, .int .u64 0, .int .i64 0, .int .i64 0, .slice none 0 0], some #[.int .u64 m.token.base.1, .int .u64 m.token.base.2, .int .u64 m.token.target.1, .int .u64 m.token.target.2, .int .i64 m.token.next, .int .i64 m.token.all, .slice ia m.token.image.length ic], 1000⟩) List.mem_cons_self 28 (.tmp 8) (.tmp 63) rfl g4 #[.int .u64 m.token.base.1, .int .u64 m.token.base.2, .int .u64 m.token.target.1, .int .u64 m.token.target.2, .int .i64 m.token.next, .int .i64 m.token.all, .slice ia m.token.image.length ic] rfl rfl ea rfl hn (by kernel_rfl) rfl (tk_one _ _ _ _ _ _ _ _ _) rfl
      rw [n6]
      simp only [Act.put, Nat.reduceAdd]
      refine lex_special (by rfl) rfl (fun σ w2 hA hD hn hC => ?_) ?_
      · have ea := got1 hA hD 5 rfl (by kernel_rfl)
        rw [n5] at ea
        exact hC.store_ok HFN.out (v := ⟨5, 7, 28, #[.int .u64 0, .int .u64 0, .int .u64 0, .int .u64 0, .int .i64 0, .int .i64 0, .slice none 0 0], some #[.int .u64 q.token.base.1, .int .u64 q.token.base.2, .int .u64 q.token.target.1, .int .u64 q.token.target.2, .int .i64 q.token.next, .int .i64 q.token.all, .slice ia' q.token.image.length ic'], 1000⟩) (List.mem_cons_of_mem _ List.mem_cons_self) 28 (.tmp 9) (.tmp 65) rfl g5 #[.int .u64 q.token.base.1, .int .u64 q.token.base.2, .int .u64 q.token.target.1, .int .u64 q.token.target.2, .int .i64 q.token.next, .int .i64 q.token.all, .slice ia' q.token.image.length ic'] rfl rfl ea rfl hn (by kernel_rfl) rfl (tk_one _ _ _ _ _ _ _ _ _) rfl
      rw [n7]
      simp only [Act.put, Nat.reduceAdd]
      refine lex_nil (fun σ W2 hA hall hC => ?_)
      obtain ⟨q0, f0, -, B0⟩ := hC.end_ (v := ⟨4, 6, 28, #[.int .u64 0, .int .u64 0, .int .u64 0, .int .u64 0, .int .i64 0, .int .i64 0, .slice none 0 0], some #[.int .u64 m.token.base.1, .int .u64 m.token.base.2, .int .u64 m.token.target.1, .int .u64 m.token.target.2, .int .i64 m.token.next, .int .i64 m.token.all, .slice ia m.token.image.length ic], 1000⟩) List.mem_cons_self (hall 4 rfl (by decide)) (hall 6 rfl (by decide))
      replace f0 := ptr_inj (n4.symm.trans f0)
      subst f0
      have HV4 := Lib.hid (show Blk W2 g4 28 #[.int .u64 m.token.base.1, .int .u64 m.token.base.2, .int .u64 m.token.target.1, .int .u64 m.token.target.2, .int .i64 m.token.next, .int .i64 m.token.all, .slice ia m.token.image.length ic] from B0)
      obtain ⟨q1, f1, -, B1⟩ := hC.end_ (v := ⟨5, 7, 28, #[.int .u64 0, .int .u64 0, .int .u64 0, .int .u64 0, .int .i64 0, .int .i64 0, .slice none 0 0], some #[.int .u64 q.token.base.1, .int .u64 q.token.base.2, .int .u64 q.token.target.1, .int .u64 q.token.target.2, .int .i64 q.token.next, .int .i64 q.token.all, .slice ia' q.token.image.length ic'], 1000⟩) (List.mem_cons_of_mem _ List.mem_cons_self) (hall 5 rfl (by decide)) (hall 7 rfl (by decide))
      replace f1 := ptr_inj (n5.symm.trans f1)
      subst f1
      have HV5 := Lib.hid (show Blk W2 g5 28 #[.int .u64 q.token.base.1, .int .u64 q.token.base.2, .int .u64 q.token.target.1, .int .u64 q.token.target.2, .int .i64 q.token.next, .int .i64 q.token.all, .slice ia' q.token.image.length ic'] from B1)
      have hZ := hC.below
      clear hA hall hC HFN n4 n6 B0 n5 n7 B1
      unfold ptr
      have HB2 := Lib.hid (HB.out.trans (hZ.mono HB.out.size))
      clear hZ HPr HQr HB HBW
      have x0 := (HV4.out).cell 0
      have x1 := (HV4.out).cell 1
      have x2 := (HV4.out).cell 2
      have x3 := (HV4.out).cell 3
      have x4 := (HV4.out).cell 4
      have x5 := (HV4.out).cell 5
      have x6 := (HV4.out).cell 6
      simp at x0 x1 x2 x3 x4 x5 x6
      have y0 := (HV5.out).cell 0
      have y1 := (HV5.out).cell 1
      have y2 := (HV5.out).cell 2
      have y3 := (HV5.out).cell 3
      have y4 := (HV5.out).cell 4
      have y5 := (HV5.out).cell 5
      have y6 := (HV5.out).cell 6
      simp at y0 y1 y2 y3 y4 y5 y6
      cases sb with
      | false =>
        have HR := Lib.hid (show X = false by rw [HX.out]; rfl)
        go_wp2
        go_ret
        exact ⟨by rw [HR.out]; rfl, HB2.out⟩
      | true =>
        cases st with
        | false =>
          have HR := Lib.hid (show X = false by rw [HX.out]; rfl)
          go_wp2
          go_ret
          exact ⟨by rw [HR.out]; rfl, HB2.out⟩
        | true =>
          cases sn with
          | false =>
            have HR := Lib.hid (show X = false by rw [HX.out]; rfl)
            go_wp2
            go_ret
            exact ⟨by rw [HR.out]; rfl, HB2.out⟩
          | true =>
            cases sx with
            | false =>
              have HR := Lib.hid (show X = false by rw [HX.out]; rfl)
              go_wp2
              go_ret
              exact ⟨by rw [HR.out]; rfl, HB2.out⟩
            | true =>
              have HR := Lib.hid (show X = si by rw [HX.out]; rfl)
              go_wp2_with fail
              refine (HEI.out _ HB2.out).mono ?_
              rintro e W4 ⟨rfl, hb⟩
              have HB4 := Lib.hid (HB2.out.trans (hb.mono HB2.out.size))
              clear hb HEI HB2
              go_wp2
              go_ret
              exact ⟨by rw [HR.out]; rfl, HB4.out⟩
end Go.Proofs.Ytimgecflcackbaa
