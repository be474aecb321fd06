/-
  LookSettles, WALKED (printed by wip/gen-looksettles.py).
-/
import Derived.Test.YteplcpiamocclaaSettleP
import Derived.Test.YteplcpiamocclaaOpenShape
namespace Go.Proofs.Yteplcpiamocclaa
open Go.RowKit Reg Go.ChangeShapes

def svs (X Y : El) : List Vr := [⟨7, 9, 40, el0.cells, some X.cells, 0⟩, ⟨8, 10, 40, el0.cells, some Y.cells, 0⟩]
theorem sfine (X Y : El) : Fine (svs X Y) := by
  refine ⟨?_, ?_, ?_, ?_⟩
  all_goals
    intro v hv v' hv'
    simp only [svs, List.mem_cons, List.not_mem_nil, or_false] at hv hv'
    rcases hv with rfl | rfl <;> rcases hv' with rfl | rfl <;> simp
set_option maxRecDepth 100000 in
set_option maxHeartbeats 4000000 in
theorem law_LookSettles (n : Int) (v : Value) (xs : List Shp) (w : World) (hn0 : (Lit.int .u8 n).wf = true) (hv : InH w v xs) (_ : True) :
    Calls Try.prog 5 #[.int .u8 n, v] w fun e w' => e = .returned (.bool true) ∧ Below w.heap.size w w' := by
  have hn := lit_u8.1 hn0
  have hbu := built_any n v xs w (by omega) hv
  obtain ⟨va, vc, rfl, hml, hxs⟩ := hv
  obtain ⟨N, hN⟩ : ∃ z, z = n.toNat % 12 := ⟨_, rfl⟩
  rw [← hN] at hbu
  have hn12 : N < 12 := by omega
  have HX := Lib.hid hxs
  have HML := Lib.hid hml
  have HN12 := Lib.hid hn12
  have HBU := Lib.hid hbu
  clear hxs hml hN hn hn12 hbu hn0
  generalize hxl : xs.length = m at *
  have HXL := Lib.hid hxl
  clear hxl
  go_enter Try.func5, Try.ntmps5
  go_wp2_with fail
  refine HBU.out.mono ?_
  rintro e w1 ⟨u, es, rfl, hin, hst, hb⟩
  have hel : es.length = min m 6 := by
    have := congrArg List.length hst
    rwa [List.length_map, builtB_len] at this
  have hin0 := hin
  obtain ⟨ua, uc, e0, -, hml0, hx0⟩ := hin0
  have hallz : allI es xs 0 = decide (0 < es.length) := by unfold allI; simp
  subst e0
  have hset : settledB es = (allI es xs es.length && decide (prims es = 1)) := by
    have h1 := settled_built (xs := xs) (m := min m 6) HN12.out
    rw [← hst, settledB_strip, allI_strip, prims_strip, ← hel] at h1
    exact h1
  obtain ⟨nl, hnl⟩ : ∃ z, z = es.length := ⟨_, rfl⟩
  have hone := one_any _ es w1 hin
  have HIN := Lib.hid hin
  have HX0 := Lib.hid hx0
  have HB := Lib.hid hb
  have HEL := Lib.hid hel
  have HNL := Lib.hid hnl
  have HSET := Lib.hid hset
  rw [← hnl] at hallz
  rw [← hnl]
  have HAZ := Lib.hid hallz
  have HM0 := Lib.hid hml0
  clear hin hst hb hel HBU hx0 hset hnl hallz hone hml0
  go_wp2_with fail
  go_loopw [6, 7, 8] (fun p b t wr => ∃ i : Nat, i ≤ nl ∧ p = .int .i64 (cntP es (ups es i) : Nat) ∧ b = .bool (allI es xs i) ∧ t = .int .i64 i ∧ Below w1.heap.size w1 wr) (fun _ _ t _ => nl - (intOf t).toNat)
  case atStart => exact ⟨0, Nat.zero_le _, rfl, by rw [HAZ.out], rfl, Below.refl _ _⟩
  case round =>
    obtain ⟨i, hin', rfl, rfl, rfl, hb⟩ := hrel
    have HBL := Lib.hid hb
    clear hb
    by_cases h1 : i < nl
    · have hnl := HNL.out
      obtain ⟨⟨g, off, rfl, hs⟩, hok⟩ := HX0.out i (by omega)
      obtain ⟨⟨g', off', he, hs0⟩, -⟩ := HX0.out 0 (by omega)
      simp only [Option.some.injEq, Addr.mk.injEq, and_true] at he
      obtain ⟨rfl, rfl⟩ := he
      have him : i < m := by have := HEL.out; omega
      obtain ⟨⟨gx, ox, rfl, hsh⟩, hwf⟩ := HX.out i him
      have ho2 := hsh.2.2.1
      have hwo := hwf.2.2
      have hgood : goodB es xs i = ((nth es i).up && (decide ((nth es i).line.length = (nth es 0).line.length) && (decide ((nth es i).list.length = (nth es i).line.length) && decide ((xs.getD i shp0).o.toNat % 4 = 0)))) := rfl
      have hals := allI_succ es xs i
      have hups := ups_succ es i
      have hcnt := cntP_snoc es (ups es i) i
      have hcle : cntP es (ups es i) ≤ i := by
        have h3 := ups_len es i
        have h4 : cntP es (ups es i) ≤ (ups es i).length := List.length_filter_le _ _
        omega
      change SeenAt w1 g (off + i * 9) (nth es i) at hs
      change SeenAt w1 g (off + 0 * 9) (nth es 0) at hs0
      rw [show off + 0 * 9 = off by omega] at hs0
      obtain ⟨X, hX⟩ : ∃ z, z = nth es i := ⟨_, rfl⟩
      obtain ⟨Y, hY⟩ : ∃ z, z = nth es 0 := ⟨_, rfl⟩
      obtain ⟨xo, hxo⟩ : ∃ z, z = (xs.getD i shp0).o := ⟨_, rfl⟩
      rw [← hX, ← hY, ← hxo] at hgood
      rw [← hX] at hs hups hcnt
      rw [← hY] at hs0
      rw [← hxo] at ho2 hwo
      obtain ⟨yo, rfl⟩ : ∃ z : Nat, xo = z := ⟨xo.toNat, by omega⟩
      rw [Int.toNat_natCast] at hgood
      replace ho2 := cell_later (HB.out.trans (HBL.out.mono HB.out.size)) ho2
      have HS := Lib.hid (hs.keep HBL.out)
      have HS0 := Lib.hid (hs0.keep HBL.out)
      have HO2 := Lib.hid ho2
      have i1 : (i : Int) < (nl : Int) := by omega
      have i2 : 0 < nl := by omega
      have HM1 := Lib.hid (show (i : Int) < 9223372036854775807 ∧ ((cntP es (ups es i) : Nat) : Int) < 9223372036854775807 by have := HM0.out; unfold maxLen at this; omega)
      have HG := Lib.hid hgood
      have HALS := Lib.hid hals
      have HUPS := Lib.hid hups
      have HCNT := Lib.hid hcnt
      have H1 := Lib.hid (And.intro h1 him)
      have HYO := Lib.hid (show yo < 256 by omega)
      obtain ⟨A, hA⟩ : ∃ z, z = allI es xs i := ⟨_, rfl⟩
      obtain ⟨C, hC⟩ : ∃ z, z = cntP es (ups es i) := ⟨_, rfl⟩
      rw [← hA] at HALS
      rw [← hC] at HCNT HM1
      rw [← hA, ← hC]
      have HCC := Lib.hid hC
      have HI1 := Lib.hid (show (Try.prog.info? 40).map (·.size) = some el0.cells.size from by kernel_rfl)
      clear h1 him hnl hs hs0 ho2 hwo hgood hals hups hcnt hX hY hxo hin' hok hsh hwf hA hC hcle
      go_wp2_with fail
      refine wp_region_spec (fun i => i == 7 || i == 8 || i == 9 || i == 10) (kinds [(7, .pt), (8, .pt), (9, .is undef), (10, .is undef)]) (CG wr (svs X Y) (fun _ _ _ => True)) (by kernel_rfl) (by kernel_rfl) (kinds_inh _) CG.start ?_
      intro ν hν
      obtain ⟨g7, n7⟩ : ∃ g, ν 7 = ptr g := hν 7
      obtain ⟨g8, n8⟩ : ∃ g, ν 8 = ptr g := hν 8
      have n9 : ν 9 = undef := hν 9
      have n10 : ν 10 = undef := hν 10
      clear hν
      refine lex_plain (by rfl) rfl ?_
      apply Exists.intro
      refine ⟨fun σ w2 hA hD hC => ?_, ?_⟩
      · clear hA hD hC
        go_simp
        exact And.intro rfl rfl
      simp only [Act.put, List.setIfInBounds_toArray, List.set_cons_succ, List.set_cons_zero, Nat.reduceAdd]
      refine lex_plain (by rfl) rfl ?_
      apply Exists.intro
      refine ⟨fun σ w2 hA hD hC => ?_, ?_⟩
      · clear hA hD hC
        go_simp
        exact And.intro rfl rfl
      simp only [Act.put, List.setIfInBounds_toArray, List.set_cons_succ, List.set_cons_zero, Nat.reduceAdd]
      refine lex_plain (by rfl) rfl ?_
      apply Exists.intro
      refine ⟨fun σ w2 hA hD hC => ?_, ?_⟩
      · clear hA hD hC
        go_simp
        exact And.intro rfl rfl
      simp only [Act.put, List.setIfInBounds_toArray, List.set_cons_succ, List.set_cons_zero, Nat.reduceAdd]
      refine lex_plain (by rfl) rfl ?_
      apply Exists.intro
      refine ⟨fun σ w2 hA hD hC => ?_, ?_⟩
      · obtain ⟨q0, q1, q2, q3, q4, q5, q6, q7, q8⟩ := HS.out.keep hC.below
        dsimp only [El.vl, El.vs, El.vt, El.vi] at q5 q6 q7 q8
        clear hA hD hC
        go_simp
        exact And.intro rfl rfl
      simp only [Act.put, List.setIfInBounds_toArray, List.set_cons_succ, List.set_cons_zero, Nat.reduceAdd]
      refine lex_plain (by rfl) rfl ?_
      apply Exists.intro
      refine ⟨fun σ w2 hA hD hC => ?_, ?_⟩
      · clear hA hD hC
        go_simp
        exact And.intro rfl rfl
      simp only [Act.put, List.setIfInBounds_toArray, List.set_cons_succ, List.set_cons_zero, Nat.reduceAdd]
      refine lex_plain (by rfl) rfl ?_
      apply Exists.intro
      refine ⟨fun σ w2 hA hD hC => ?_, ?_⟩
      · clear hA hD hC
        go_simp
        exact And.intro rfl rfl
      simp only [Act.put, List.setIfInBounds_toArray, List.set_cons_succ, List.set_cons_zero, Nat.reduceAdd]
      refine lex_plain (by rfl) rfl ?_
      apply Exists.intro
      refine ⟨fun σ w2 hA hD hC => ?_, ?_⟩
      · obtain ⟨q0, q1, q2, q3, q4, q5, q6, q7, q8⟩ := HS0.out.keep hC.below
        dsimp only [El.vl, El.vs, El.vt, El.vi] at q5 q6 q7 q8
        clear hA hD hC
        go_simp
        exact And.intro rfl rfl
      simp only [Act.put, List.setIfInBounds_toArray, List.set_cons_succ, List.set_cons_zero, Nat.reduceAdd]
      refine lex_special (by rfl) rfl (fun σ w2 hA hD hn hC => ?_) ?_
      · go_simp
        exact hC.lay_ok (sfine X Y) (v := ⟨7, 9, 40, el0.cells, some X.cells, 0⟩) (by simp [svs]) hn ⟨_, rfl⟩
      rw [n7]
      simp only [Act.put, List.setIfInBounds_toArray, List.set_cons_succ, List.set_cons_zero, Nat.reduceAdd]
      refine lex_special (by rfl) rfl (fun σ w2 hA hD hn hC => ?_) ?_
      · go_simp
        exact hC.lay_ok (sfine X Y) (v := ⟨8, 10, 40, el0.cells, some Y.cells, 0⟩) (by simp [svs]) hn ⟨_, rfl⟩
      rw [n8]
      simp only [Act.put, List.setIfInBounds_toArray, List.set_cons_succ, List.set_cons_zero, Nat.reduceAdd]
      refine lex_special (by rfl) rfl (fun σ w2 hA hD hn hC => ?_) ?_
      · have ea := got1 hA hD 7 rfl (by kernel_rfl)
        rw [n7] at ea
        exact hC.store_ok (sfine X Y) (v := ⟨7, 9, 40, el0.cells, some X.cells, 0⟩) (by simp [svs]) 40 (.tmp 9) (.tmp 26) rfl g7 X.cells rfl rfl ea rfl hn HI1.out rfl (by simp [El.cells, Value.oneCell']) rfl
      rw [n9]
      simp only [Act.put, Nat.reduceAdd]
      refine lex_special (by rfl) rfl (fun σ w2 hA hD hn hC => ?_) ?_
      · have ea := got1 hA hD 8 rfl (by kernel_rfl)
        rw [n8] at ea
        exact hC.store_ok (sfine X Y) (v := ⟨8, 10, 40, el0.cells, some Y.cells, 0⟩) (by simp [svs]) 40 (.tmp 10) (.tmp 29) rfl g8 Y.cells rfl rfl ea rfl hn HI1.out rfl (by simp [El.cells, Value.oneCell']) rfl
      rw [n10]
      simp only [Act.put, Nat.reduceAdd]
      refine lex_nil (fun σ w9 hA hall hC => ?_)
      have s7 := hall 7 rfl (by decide)
      have s8 := hall 8 rfl (by decide)
      have s9 := hall 9 rfl (by decide)
      have s10 := hall 10 rfl (by decide)
      obtain ⟨g7', e7, -, hb7⟩ := hC.end_ (v := ⟨7, 9, 40, el0.cells, some X.cells, 0⟩) (by simp [svs]) s7 s9
      obtain ⟨g8', e8, -, hb8⟩ := hC.end_ (v := ⟨8, 10, 40, el0.cells, some Y.cells, 0⟩) (by simp [svs]) s8 s10
      rw [n7] at e7
      rw [n8] at e8
      obtain rfl := ptr_inj e7
      obtain rfl := ptr_inj e8
      unfold ptr at n7 n8
      have HB9 := Lib.hid (HBL.out.trans (hC.below.mono HBL.out.size))
      have x0 := hb7.cell 0
      have x1 := hb7.cell 1
      have x5 := hb7.cell 5
      have x6 := hb7.cell 6
      have y5 := hb8.cell 5
      have ho2 := cell_later hC.below HO2.out
      simp [El.cells] at x0 x1 x5 x6 y5
      clear hA hall hC s7 s8 s9 s10 e7 e8 hb7 hb8 n7 n8 n9 n10 ν σ HS HS0 i2
      unfold ptr
      dsimp only [El.vl, El.vs] at x5 x6 y5
      obtain ⟨bu, hbu⟩ : ∃ z, z = X.up := ⟨_, rfl⟩
      obtain ⟨bp, hbp⟩ : ∃ z, z = X.prim := ⟨_, rfl⟩
      rw [← hbu] at HUPS HG x0
      rw [← hbp] at HCNT x1
      rw [← hbu, ← hbp]
      clear hbu hbp
      generalize X.line.length = nx at *
      generalize Y.line.length = ny at *
      generalize X.list.length = nz at *
      have i1m : (i : Int) < (m : Int) := by have := H1.out; omega
      have hr4 : (yo : Int).tmod 4 = ((yo % 4 : Nat) : Int) := by rw [Int.tmod_eq_emod_of_nonneg (by omega)]; omega
      obtain ⟨o4, ho4⟩ : ∃ z, z = yo % 4 := ⟨_, rfl⟩
      rw [← ho4] at hr4 HG
      have HO4 := Lib.hid ho4
      clear ho4
      cases A with
      | false =>
        cases bu with
        | false =>
          rw [if_neg (by simp)] at HUPS
          have hwi : IntKind.i64.wrap ((i : Int) + 1) = (i : Int) + 1 := IntWalk.i64_in _ (by have := HM1.out; omega)
          have hwc : IntKind.i64.wrap ((C : Int) + 1) = (C : Int) + 1 := IntWalk.i64_in _ (by have := HM1.out; omega)
          go_wp2
          have h1 := H1.out
          refine ⟨⟨i + 1, by omega, by rw [HUPS.out, ← HCC.out], ?_, by go_num, HB9.out⟩, by simp [intOf]; omega⟩
          rw [HALS.out, HG.out]
          try simp_all
        | true =>
          rw [if_pos rfl] at HUPS
          cases bp with
          | false =>
            rw [if_neg (by simp)] at HCNT
            have hwi : IntKind.i64.wrap ((i : Int) + 1) = (i : Int) + 1 := IntWalk.i64_in _ (by have := HM1.out; omega)
            have hwc : IntKind.i64.wrap ((C : Int) + 1) = (C : Int) + 1 := IntWalk.i64_in _ (by have := HM1.out; omega)
            go_wp2
            have h1 := H1.out
            refine ⟨⟨i + 1, by omega, by rw [HUPS.out, HCNT.out], ?_, by go_num, HB9.out⟩, by simp [intOf]; omega⟩
            rw [HALS.out, HG.out]
            try simp_all
          | true =>
            rw [if_pos rfl] at HCNT
            have hwi : IntKind.i64.wrap ((i : Int) + 1) = (i : Int) + 1 := IntWalk.i64_in _ (by have := HM1.out; omega)
            have hwc : IntKind.i64.wrap ((C : Int) + 1) = (C : Int) + 1 := IntWalk.i64_in _ (by have := HM1.out; omega)
            go_wp2
            have h1 := H1.out
            refine ⟨⟨i + 1, by omega, by rw [HUPS.out, HCNT.out]; go_num, ?_, by go_num, HB9.out⟩, by simp [intOf]; omega⟩
            rw [HALS.out, HG.out]
            try simp_all
      | true =>
        cases bu with
        | false =>
          rw [if_neg (by simp)] at HUPS
          have hwi : IntKind.i64.wrap ((i : Int) + 1) = (i : Int) + 1 := IntWalk.i64_in _ (by have := HM1.out; omega)
          have hwc : IntKind.i64.wrap ((C : Int) + 1) = (C : Int) + 1 := IntWalk.i64_in _ (by have := HM1.out; omega)
          go_wp2
          have h1 := H1.out
          refine ⟨⟨i + 1, by omega, by rw [HUPS.out, ← HCC.out], ?_, by go_num, HB9.out⟩, by simp [intOf]; omega⟩
          rw [HALS.out, HG.out]
          try simp_all
        | true =>
          by_cases q1 : nx = ny
          · obtain rfl := q1
            by_cases q2 : nz = nx
            · obtain rfl := q2
              by_cases q3 : o4 = 0
              · obtain rfl := q3
                rw [if_pos rfl] at HUPS
                cases bp with
                | false =>
                  rw [if_neg (by simp)] at HCNT
                  have hwi : IntKind.i64.wrap ((i : Int) + 1) = (i : Int) + 1 := IntWalk.i64_in _ (by have := HM1.out; omega)
                  have hwc : IntKind.i64.wrap ((C : Int) + 1) = (C : Int) + 1 := IntWalk.i64_in _ (by have := HM1.out; omega)
                  go_wp2
                  have h1 := H1.out
                  refine ⟨⟨i + 1, by omega, by rw [HUPS.out, HCNT.out], ?_, by go_num, HB9.out⟩, by simp [intOf]; omega⟩
                  rw [HALS.out, HG.out]
                  try simp_all
                | true =>
                  rw [if_pos rfl] at HCNT
                  have hwi : IntKind.i64.wrap ((i : Int) + 1) = (i : Int) + 1 := IntWalk.i64_in _ (by have := HM1.out; omega)
                  have hwc : IntKind.i64.wrap ((C : Int) + 1) = (C : Int) + 1 := IntWalk.i64_in _ (by have := HM1.out; omega)
                  go_wp2
                  have h1 := H1.out
                  refine ⟨⟨i + 1, by omega, by rw [HUPS.out, HCNT.out]; go_num, ?_, by go_num, HB9.out⟩, by simp [intOf]; omega⟩
                  rw [HALS.out, HG.out]
                  try simp_all
              · have f1 : (o4 == 0) = false := by simpa using q3
                have f2 : ((o4 : Int) == 0) = false := by simp; omega
                rw [if_pos rfl] at HUPS
                cases bp with
                | false =>
                  rw [if_neg (by simp)] at HCNT
                  have hwi : IntKind.i64.wrap ((i : Int) + 1) = (i : Int) + 1 := IntWalk.i64_in _ (by have := HM1.out; omega)
                  have hwc : IntKind.i64.wrap ((C : Int) + 1) = (C : Int) + 1 := IntWalk.i64_in _ (by have := HM1.out; omega)
                  go_wp2
                  have h1 := H1.out
                  refine ⟨⟨i + 1, by omega, by rw [HUPS.out, HCNT.out], ?_, by go_num, HB9.out⟩, by simp [intOf]; omega⟩
                  rw [HALS.out, HG.out]
                  try simp_all
                | true =>
                  rw [if_pos rfl] at HCNT
                  have hwi : IntKind.i64.wrap ((i : Int) + 1) = (i : Int) + 1 := IntWalk.i64_in _ (by have := HM1.out; omega)
                  have hwc : IntKind.i64.wrap ((C : Int) + 1) = (C : Int) + 1 := IntWalk.i64_in _ (by have := HM1.out; omega)
                  go_wp2
                  have h1 := H1.out
                  refine ⟨⟨i + 1, by omega, by rw [HUPS.out, HCNT.out]; go_num, ?_, by go_num, HB9.out⟩, by simp [intOf]; omega⟩
                  rw [HALS.out, HG.out]
                  try simp_all
            · have f1 : (nz == nx) = false := by simpa using q2
              have f2 : ((nz : Int) == (nx : Int)) = false := by simp; omega
              rw [if_pos rfl] at HUPS
              cases bp with
              | false =>
                rw [if_neg (by simp)] at HCNT
                have hwi : IntKind.i64.wrap ((i : Int) + 1) = (i : Int) + 1 := IntWalk.i64_in _ (by have := HM1.out; omega)
                have hwc : IntKind.i64.wrap ((C : Int) + 1) = (C : Int) + 1 := IntWalk.i64_in _ (by have := HM1.out; omega)
                go_wp2
                have h1 := H1.out
                refine ⟨⟨i + 1, by omega, by rw [HUPS.out, HCNT.out], ?_, by go_num, HB9.out⟩, by simp [intOf]; omega⟩
                rw [HALS.out, HG.out]
                try simp_all
              | true =>
                rw [if_pos rfl] at HCNT
                have hwi : IntKind.i64.wrap ((i : Int) + 1) = (i : Int) + 1 := IntWalk.i64_in _ (by have := HM1.out; omega)
                have hwc : IntKind.i64.wrap ((C : Int) + 1) = (C : Int) + 1 := IntWalk.i64_in _ (by have := HM1.out; omega)
                go_wp2
                have h1 := H1.out
                refine ⟨⟨i + 1, by omega, by rw [HUPS.out, HCNT.out]; go_num, ?_, by go_num, HB9.out⟩, by simp [intOf]; omega⟩
                rw [HALS.out, HG.out]
                try simp_all
          · have f1 : (nx == ny) = false := by simpa using q1
            have f2 : ((nx : Int) == (ny : Int)) = false := by simp; omega
            rw [if_pos rfl] at HUPS
            cases bp with
            | false =>
              rw [if_neg (by simp)] at HCNT
              have hwi : IntKind.i64.wrap ((i : Int) + 1) = (i : Int) + 1 := IntWalk.i64_in _ (by have := HM1.out; omega)
              have hwc : IntKind.i64.wrap ((C : Int) + 1) = (C : Int) + 1 := IntWalk.i64_in _ (by have := HM1.out; omega)
              go_wp2
              have h1 := H1.out
              refine ⟨⟨i + 1, by omega, by rw [HUPS.out, HCNT.out], ?_, by go_num, HB9.out⟩, by simp [intOf]; omega⟩
              rw [HALS.out, HG.out]
              try simp_all
            | true =>
              rw [if_pos rfl] at HCNT
              have hwi : IntKind.i64.wrap ((i : Int) + 1) = (i : Int) + 1 := IntWalk.i64_in _ (by have := HM1.out; omega)
              have hwc : IntKind.i64.wrap ((C : Int) + 1) = (C : Int) + 1 := IntWalk.i64_in _ (by have := HM1.out; omega)
              go_wp2
              have h1 := H1.out
              refine ⟨⟨i + 1, by omega, by rw [HUPS.out, HCNT.out]; go_num, ?_, by go_num, HB9.out⟩, by simp [intOf]; omega⟩
              rw [HALS.out, HG.out]
              try simp_all
    · obtain rfl : i = nl := by omega
      have hset := HSET.out
      have hcp : cntP es (ups es i) = prims es := by rw [HNL.out]; rfl
      rw [← HNL.out] at hset
      obtain ⟨A, hA⟩ : ∃ z, z = allI es xs i := ⟨_, rfl⟩
      obtain ⟨P, hP⟩ : ∃ z, z = prims es := ⟨_, rfl⟩
      rw [← hA, ← hP] at hset
      rw [hcp, ← hA, ← hP]
      have hsl := HIN.out
      rw [← HNL.out] at hsl
      have HIN2 := Lib.hid (hsl.keep HBL.out)
      have HB3 := Lib.hid (HB.out.trans (HBL.out.mono HB.out.size))
      have i1 : ¬ ((i : Int) < (i : Int)) := by omega
      clear hA hcp hsl h1 hin'
      by_cases p1 : P = 1
      · subst p1
        have HONE := Lib.hid (show decide (prims es ≤ 1) = true from by rw [← hP]; exact decide_eq_true (by omega))
        have hs1 : decide (1 = 1) = true := decide_eq_true (by omega)
        rw [hs1] at hset
        have HPP := Lib.hid hP
        clear hs1 hP
        cases A with
        | false =>
          have HSE := Lib.hid (show settledB es = false from hset)
          clear hset
          go_wp2_with fail
          refine (one_v HONE.out HIN2.out).mono ?_
          rintro e y1 ⟨rfl, hb⟩
          have HIN2 := Lib.hid (HIN2.out.keep hb)
          have HB3 := Lib.hid (HB3.out.trans (hb.mono HB3.out.size))
          clear hb HONE
          go_wp2_with fail
          refine (settled_v HSE.out HIN2.out).mono ?_
          rintro e y2 ⟨rfl, hb⟩
          have HB3 := Lib.hid (HB3.out.trans (hb.mono HB3.out.size))
          clear hb HSE HIN2
          go_wp2_with fail
          refine (works_any _).mono ?_
          rintro e y9 ⟨rfl, hb⟩
          have HB9 := Lib.hid (HB3.out.trans (hb.mono HB3.out.size))
          clear hb
          go_wp2
          go_ret
          exact ⟨rfl, HB9.out⟩
        | true =>
          have HSE := Lib.hid (show settledB es = true from hset)
          clear hset
          go_wp2_with fail
          refine (one_v HONE.out HIN2.out).mono ?_
          rintro e y1 ⟨rfl, hb⟩
          have HIN2 := Lib.hid (HIN2.out.keep hb)
          have HB3 := Lib.hid (HB3.out.trans (hb.mono HB3.out.size))
          clear hb HONE
          go_wp2_with fail
          refine (settled_v HSE.out HIN2.out).mono ?_
          rintro e y2 ⟨rfl, hb⟩
          have HB3 := Lib.hid (HB3.out.trans (hb.mono HB3.out.size))
          clear hb HSE HIN2
          go_wp2_with fail
          refine (works_any _).mono ?_
          rintro e y9 ⟨rfl, hb⟩
          have HB9 := Lib.hid (HB3.out.trans (hb.mono HB3.out.size))
          clear hb
          go_wp2
          go_ret
          exact ⟨rfl, HB9.out⟩
      · by_cases p0 : P = 0
        · subst p0
          clear p1
          have HONE := Lib.hid (show decide (prims es ≤ 1) = true from by rw [← hP]; exact decide_eq_true (by omega))
          have hs1 : decide (0 = 1) = false := decide_eq_false (by omega)
          rw [hs1] at hset
          have HPP := Lib.hid hP
          clear hs1 hP
          cases A with
          | false =>
            have HSE := Lib.hid (show settledB es = false from hset)
            clear hset
            go_wp2_with fail
            refine (one_v HONE.out HIN2.out).mono ?_
            rintro e y1 ⟨rfl, hb⟩
            have HIN2 := Lib.hid (HIN2.out.keep hb)
            have HB3 := Lib.hid (HB3.out.trans (hb.mono HB3.out.size))
            clear hb HONE
            go_wp2_with fail
            refine (settled_v HSE.out HIN2.out).mono ?_
            rintro e y2 ⟨rfl, hb⟩
            have HB3 := Lib.hid (HB3.out.trans (hb.mono HB3.out.size))
            clear hb HSE HIN2
            go_wp2_with fail
            refine (works_any _).mono ?_
            rintro e y9 ⟨rfl, hb⟩
            have HB9 := Lib.hid (HB3.out.trans (hb.mono HB3.out.size))
            clear hb
            go_wp2
            go_ret
            exact ⟨rfl, HB9.out⟩
          | true =>
            have HSE := Lib.hid (show settledB es = false from hset)
            clear hset
            go_wp2_with fail
            refine (one_v HONE.out HIN2.out).mono ?_
            rintro e y1 ⟨rfl, hb⟩
            have HIN2 := Lib.hid (HIN2.out.keep hb)
            have HB3 := Lib.hid (HB3.out.trans (hb.mono HB3.out.size))
            clear hb HONE
            go_wp2_with fail
            refine (settled_v HSE.out HIN2.out).mono ?_
            rintro e y2 ⟨rfl, hb⟩
            have HB3 := Lib.hid (HB3.out.trans (hb.mono HB3.out.size))
            clear hb HSE HIN2
            go_wp2_with fail
            refine (works_any _).mono ?_
            rintro e y9 ⟨rfl, hb⟩
            have HB9 := Lib.hid (HB3.out.trans (hb.mono HB3.out.size))
            clear hb
            go_wp2
            go_ret
            exact ⟨rfl, HB9.out⟩
        · have g1 : ¬ ((P : Int) ≤ 1) := by omega
          have g2 : ((P : Int) == 1) = false := by simp; omega
          have g3 : (P == 1) = false := by simpa using p1
          have HONE := Lib.hid (show decide (prims es ≤ 1) = false from by rw [← hP]; exact decide_eq_false (by omega))
          have hs1 : decide (P = 1) = false := decide_eq_false (by omega)
          rw [hs1] at hset
          have HPP := Lib.hid hP
          clear hs1 hP
          cases A with
          | false =>
            have HSE := Lib.hid (show settledB es = false from hset)
            clear hset
            go_wp2_with fail
            refine (one_v HONE.out HIN2.out).mono ?_
            rintro e y1 ⟨rfl, hb⟩
            have HIN2 := Lib.hid (HIN2.out.keep hb)
            have HB3 := Lib.hid (HB3.out.trans (hb.mono HB3.out.size))
            clear hb HONE
            go_wp2_with fail
            refine (settled_v HSE.out HIN2.out).mono ?_
            rintro e y2 ⟨rfl, hb⟩
            have HB3 := Lib.hid (HB3.out.trans (hb.mono HB3.out.size))
            clear hb HSE HIN2
            go_wp2_with fail
            refine (works_any _).mono ?_
            rintro e y9 ⟨rfl, hb⟩
            have HB9 := Lib.hid (HB3.out.trans (hb.mono HB3.out.size))
            clear hb
            go_wp2
            go_ret
            exact ⟨by rw [decide_eq_false (show ¬ ((P : Int) ≤ 1) by omega)]; rfl, HB9.out⟩
          | true =>
            have HSE := Lib.hid (show settledB es = false from hset)
            clear hset
            go_wp2_with fail
            refine (one_v HONE.out HIN2.out).mono ?_
            rintro e y1 ⟨rfl, hb⟩
            have HIN2 := Lib.hid (HIN2.out.keep hb)
            have HB3 := Lib.hid (HB3.out.trans (hb.mono HB3.out.size))
            clear hb HONE
            go_wp2_with fail
            refine (settled_v HSE.out HIN2.out).mono ?_
            rintro e y2 ⟨rfl, hb⟩
            have HB3 := Lib.hid (HB3.out.trans (hb.mono HB3.out.size))
            clear hb HSE HIN2
            go_wp2_with fail
            refine (works_any _).mono ?_
            rintro e y9 ⟨rfl, hb⟩
            have HB9 := Lib.hid (HB3.out.trans (hb.mono HB3.out.size))
            clear hb
            go_wp2
            go_ret
            exact ⟨by rw [decide_eq_false (show ¬ ((P : Int) ≤ 1) by omega)]; rfl, HB9.out⟩
end Go.Proofs.Yteplcpiamocclaa
