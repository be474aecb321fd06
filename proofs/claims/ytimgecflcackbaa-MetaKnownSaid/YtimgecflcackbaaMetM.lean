/-
  META: meta.Same (printed by wip/gen-metl.py).
-/
import Derived.Test.YtimgecflcackbaaMetL
namespace Go.Proofs.Ytimgecflcackbaa
open Go.RowKit Reg Go.ChangeShapes

theorem tk_one (a b c d e f : Int) (g : Option Addr) (n k : Nat) : (#[Value.int .u64 a, .int .u64 b, .int .u64 c, .int .u64 d, .int .i64 e, .int .i64 f, .slice g n k].all fun x => x.oneCell') = true := by simp; exact ⟨rfl, rfl, rfl, rfl, rfl, rfl, rfl⟩
theorem sn_one (a b : Int) (g : Option Addr) (n k : Nat) (h : Bool) : (#[Value.int .u64 a, .int .u64 b, .slice g n k, .bool h].all fun x => x.oneCell') = true := by simp; exact ⟨rfl, rfl, rfl, rfl⟩
set_option maxRecDepth 100000 in
set_option maxHeartbeats 4000000 in
theorem sameM_any (w : World) (u v : Value) (m q : Mt) (hu : InMt w u m) (hv : InMt w v q) : Calls Try.prog 15 #[u, v] w fun e w' => e = .returned (.bool (sameM m q)) ∧ Below w.heap.size w w' := by
  obtain ⟨lu, su, iu, rfl, hl, hs, hi, -⟩ := hu
  obtain ⟨lv, sv, iv, rfl, hl', hs', hi', -⟩ := hv
  have HEL := Lib.hid (fun w2 (h : Below w.heap.size w w2) => equalI_any lu lv m.live q.live w2 (hl.keep h) (hl'.keep h))
  have HEI := Lib.hid (fun w2 (h : Below w.heap.size w w2) => equalI_any iu iv m.token.image q.token.image w2 (hi.keep h) (hi'.keep h))
  have HSE := Lib.hid (fun w2 (h : Below w.heap.size w w2) => equalF_any w2 su sv m.snaps q.snaps (hs.keep h) (hs'.keep h))
  obtain ⟨la, lc, rfl, -, -⟩ := hl.open_
  obtain ⟨la', lc', rfl, -, -⟩ := hl'.open_
  obtain ⟨sa, sc, rfl, hsm, hsx⟩ := hs
  obtain ⟨sa', sc', rfl, hsm', hsx'⟩ := hs'
  obtain ⟨ia, ic, rfl, -, -⟩ := hi.open_
  obtain ⟨ia', ic', rfl, -, -⟩ := hi'.open_
  obtain ⟨X, hX⟩ : ∃ X, X = sameM m q := ⟨_, rfl⟩
  rw [← hX]
  unfold sameM at hX
  have hE1 := run_eq_guid m.token.base.1 m.token.base.2 q.token.base.1 q.token.base.2
  have hE2 := run_eq_guid m.token.target.1 m.token.target.2 q.token.target.1 q.token.target.2
  generalize hsn : eqSs m.snaps q.snaps = ss at *
  generalize decide (m.live = q.live) = sl at *
  generalize (m.token.base.1 == q.token.base.1 && m.token.base.2 == q.token.base.2) = sb at *
  generalize (m.token.target.1 == q.token.target.1 && m.token.target.2 == q.token.target.2) = st at *
  generalize hn1 : (m.token.next == q.token.next) = sn at *
  generalize hn2 : (m.token.all == q.token.all) = sx at *
  generalize decide (m.token.image = q.token.image) = si at *
  have HX := Lib.hid hX
  unfold mtV
  have hbl := ((Below.refl w.heap.size w).alloc (Nat.le_refl _) (Obj.cells #[.slice la m.live.length lc, .slice sa m.snaps.length sc, .int .u64 m.token.base.1, .int .u64 m.token.base.2, .int .u64 m.token.target.1, .int .u64 m.token.target.2, .int .i64 m.token.next, .int .i64 m.token.all, .slice ia m.token.image.length ic] 30)).alloc (by simp) (Obj.cells #[.slice la' q.live.length lc', .slice sa' q.snaps.length sc', .int .u64 q.token.base.1, .int .u64 q.token.base.2, .int .u64 q.token.target.1, .int .u64 q.token.target.2, .int .i64 q.token.next, .int .i64 q.token.all, .slice ia' q.token.image.length ic'] 30)
  have HB0 := Lib.hid hbl
  have HP := Lib.hid ((Blk.new w 30 #[.slice la m.live.length lc, .slice sa m.snaps.length sc, .int .u64 m.token.base.1, .int .u64 m.token.base.2, .int .u64 m.token.target.1, .int .u64 m.token.target.2, .int .i64 m.token.next, .int .i64 m.token.all, .slice ia m.token.image.length ic]).alloc (Obj.cells #[.slice la' q.live.length lc', .slice sa' q.snaps.length sc', .int .u64 q.token.base.1, .int .u64 q.token.base.2, .int .u64 q.token.target.1, .int .u64 q.token.target.2, .int .i64 q.token.next, .int .i64 q.token.all, .slice ia' q.token.image.length ic'] 30))
  have HQ := Lib.hid (Blk.newAt (w := w.alloc (Obj.cells #[.slice la m.live.length lc, .slice sa m.snaps.length sc, .int .u64 m.token.base.1, .int .u64 m.token.base.2, .int .u64 m.token.target.1, .int .u64 m.token.target.2, .int .i64 m.token.next, .int .i64 m.token.all, .slice ia m.token.image.length ic] 30)) 30 #[.slice la' q.live.length lc', .slice sa' q.snaps.length sc', .int .u64 q.token.base.1, .int .u64 q.token.base.2, .int .u64 q.token.target.1, .int .u64 q.token.target.2, .int .i64 q.token.next, .int .i64 q.token.all, .slice ia' q.token.image.length ic'] (g := w.heap.size + 1) (by simp))
  have HSN := Lib.hid hsn
  have HSX := Lib.hid hsx
  have HSX' := Lib.hid hsx'
  clear hX hl hl' hi hi' hbl hsn hsx hsx'
  go_enter Try.func15, Try.ntmps15
  go_wp2_with fail
  generalize (w.alloc (Obj.cells #[.slice la m.live.length lc, .slice sa m.snaps.length sc, .int .u64 m.token.base.1, .int .u64 m.token.base.2, .int .u64 m.token.target.1, .int .u64 m.token.target.2, .int .i64 m.token.next, .int .i64 m.token.all, .slice ia m.token.image.length ic] 30)).alloc (Obj.cells #[.slice la' q.live.length lc', .slice sa' q.snaps.length sc', .int .u64 q.token.base.1, .int .u64 q.token.base.2, .int .u64 q.token.target.1, .int .u64 q.token.target.2, .int .i64 q.token.next, .int .i64 q.token.all, .slice ia' q.token.image.length ic'] 30) = W0 at *
  refine (HSE.out _ HB0.out).mono ?_
  rintro e W1 ⟨rfl, hb⟩
  have HB1 := Lib.hid (HB0.out.trans (hb.mono HB0.out.size))
  have HP1 := Lib.hid (HP.out.keep hb)
  have HQ1 := Lib.hid (HQ.out.keep hb)
  clear hb HSE HSX HSX' HSN hsm hsm'
  go_wp2_with fail
  have hfine : Fine [⟨4, 6, 28, #[.int .u64 0, .int .u64 0, .int .u64 0, .int .u64 0, .int .i64 0, .int .i64 0, .slice none 0 0], some #[.int .u64 m.token.base.1, .int .u64 m.token.base.2, .int .u64 m.token.target.1, .int .u64 m.token.target.2, .int .i64 m.token.next, .int .i64 m.token.all, .slice ia m.token.image.length ic], 1000⟩, ⟨5, 7, 28, #[.int .u64 0, .int .u64 0, .int .u64 0, .int .u64 0, .int .i64 0, .int .i64 0, .slice none 0 0], some #[.int .u64 q.token.base.1, .int .u64 q.token.base.2, .int .u64 q.token.target.1, .int .u64 q.token.target.2, .int .i64 q.token.next, .int .i64 q.token.all, .slice ia' q.token.image.length ic'], 1000⟩] := by
    refine ⟨?_, ?_, ?_, ?_⟩
    all_goals
      intro v hv v' hv'
      simp only [List.mem_cons, List.not_mem_nil, or_false] at hv hv'
      rcases hv with rfl | rfl <;> rcases hv' with rfl | rfl <;> simp
  have HFN := Lib.hid hfine
  clear hfine
  refine wp_region_spec (fun i => i == 4 || i == 5 || i == 6 || i == 7) (kinds [(4, .pt), (5, .pt), (6, .is undef), (7, .is undef)]) (CG W1 [⟨4, 6, 28, #[.int .u64 0, .int .u64 0, .int .u64 0, .int .u64 0, .int .i64 0, .int .i64 0, .slice none 0 0], some #[.int .u64 m.token.base.1, .int .u64 m.token.base.2, .int .u64 m.token.target.1, .int .u64 m.token.target.2, .int .i64 m.token.next, .int .i64 m.token.all, .slice ia m.token.image.length ic], 1000⟩, ⟨5, 7, 28, #[.int .u64 0, .int .u64 0, .int .u64 0, .int .u64 0, .int .i64 0, .int .i64 0, .slice none 0 0], some #[.int .u64 q.token.base.1, .int .u64 q.token.base.2, .int .u64 q.token.target.1, .int .u64 q.token.target.2, .int .i64 q.token.next, .int .i64 q.token.all, .slice ia' q.token.image.length ic'], 1000⟩] (fun _ _ _ => True)) (by kernel_rfl) (by kernel_rfl) (kinds_inh _) CG.start ?_
  intro ν hν
  obtain ⟨g4, n4⟩ : ∃ g, ν 4 = ptr g := hν 4
  have n6 : ν 6 = undef := hν 6
  obtain ⟨g5, n5⟩ : ∃ g, ν 5 = ptr g := hν 5
  have n7 : ν 7 = undef := hν 7
  clear hν
  refine lex_plain (by rfl) rfl ?_
  apply Exists.intro
  refine ⟨fun σ w2 hA hD hC => ?_, ?_⟩
  · clear hA hD hC
    go_simp
    exact And.intro rfl rfl
  simp only [Act.put, List.setIfInBounds_toArray, List.set_cons_succ, List.set_cons_zero, Nat.reduceAdd]
  refine lex_plain (by rfl) rfl ?_
  apply Exists.intro
  refine ⟨fun σ w2 hA hD hC => ?_, ?_⟩
  · have hZ := hC.below
    have y2 := (HP1.out.keep hZ).cell 2
    have y3 := (HP1.out.keep hZ).cell 3
    have y4 := (HP1.out.keep hZ).cell 4
    have y5 := (HP1.out.keep hZ).cell 5
    have y6 := (HP1.out.keep hZ).cell 6
    have y7 := (HP1.out.keep hZ).cell 7
    have y8 := (HP1.out.keep hZ).cell 8
    simp at y2 y3 y4 y5 y6 y7 y8
    clear hZ
    clear hA hD hC
    go_simp
    exact And.intro rfl rfl
  simp only [Act.put, List.setIfInBounds_toArray, List.set_cons_succ, List.set_cons_zero, Nat.reduceAdd]
  refine lex_plain (by rfl) rfl ?_
  apply Exists.intro
  refine ⟨fun σ w2 hA hD hC => ?_, ?_⟩
  · clear hA hD hC
    go_simp
    exact And.intro rfl rfl
  simp only [Act.put, List.setIfInBounds_toArray, List.set_cons_succ, List.set_cons_zero, Nat.reduceAdd]
  refine lex_plain (by rfl) rfl ?_
  apply Exists.intro
  refine ⟨fun σ w2 hA hD hC => ?_, ?_⟩
  · have hZ := hC.below
    have y2 := (HQ1.out.keep hZ).cell 2
    have y3 := (HQ1.out.keep hZ).cell 3
    have y4 := (HQ1.out.keep hZ).cell 4
    have y5 := (HQ1.out.keep hZ).cell 5
    have y6 := (HQ1.out.keep hZ).cell 6
    have y7 := (HQ1.out.keep hZ).cell 7
    have y8 := (HQ1.out.keep hZ).cell 8
    simp at y2 y3 y4 y5 y6 y7 y8
    clear hZ
    clear hA hD hC
    go_simp
    exact And.intro rfl rfl
  simp only [Act.put, List.setIfInBounds_toArray, List.set_cons_succ, List.set_cons_zero, Nat.reduceAdd]
  refine lex_special (by rfl) rfl (fun σ w2 hA hD hn hC => ?_) ?_
  · go_simp
    exact hC.lay_ok HFN.out (v := ⟨4, 6, 28, #[.int .u64 0, .int .u64 0, .int .u64 0, .int .u64 0, .int .i64 0, .int .i64 0, .slice none 0 0], some #[.int .u64 m.token.base.1, .int .u64 m.token.base.2, .int .u64 m.token.target.1, .int .u64 m.token.target.2, .int .i64 m.token.next, .int .i64 m.token.all, .slice ia m.token.image.length ic], 1000⟩) List.mem_cons_self hn ⟨_, rfl⟩
  rw [n4]
  simp only [Act.put, List.setIfInBounds_toArray, List.set_cons_succ, List.set_cons_zero, Nat.reduceAdd]
  refine lex_special (by rfl) rfl (fun σ w2 hA hD hn hC => ?_) ?_
  · go_simp
    exact hC.lay_ok HFN.out (v := ⟨5, 7, 28, #[.int .u64 0, .int .u64 0, .int .u64 0, .int .u64 0, .int .i64 0, .int .i64 0, .slice none 0 0], some #[.int .u64 q.token.base.1, .int .u64 q.token.base.2, .int .u64 q.token.target.1, .int .u64 q.token.target.2, .int .i64 q.token.next, .int .i64 q.token.all, .slice ia' q.token.image.length ic'], 1000⟩) (List.mem_cons_of_mem _ List.mem_cons_self) hn ⟨_, rfl⟩
  rw [n5]
  simp only [Act.put, List.setIfInBounds_toArray, List.set_cons_succ, List.set_cons_zero, Nat.reduceAdd]
  refine lex_special (by rfl) rfl (fun σ w2 hA hD hn hC => ?_) ?_
  · have ea := got1 hA hD 4 rfl (by kernel_rfl)
    rw [n4] at ea
    exact hC.store_ok HFN.out (v := ⟨4, 6, 28, #[.int .u64 0, .int .u64 0, .int .u64 0, .int .u64 0, .int .i64 0, .int .i64 0, .slice none 0 0], some #[.int .u64 m.token.base.1, .int .u64 m.token.base.2, .int .u64 m.token.target.1, .int .u64 m.token.target.2, .int .i64 m.token.next, .int .i64 m.token.all, .slice ia m.token.image.length ic], 1000⟩) List.mem_cons_self 28 (.tmp 6) (.tmp 14) rfl g4 #[.int .u64 m.token.base.1, .int .u64 m.token.base.2, .int .u64 m.token.target.1, .int .u64 m.token.target.2, .int .i64 m.token.next, .int .i64 m.token.all, .slice ia m.token.image.length ic] rfl rfl ea rfl hn (by kernel_rfl) rfl (tk_one _ _ _ _ _ _ _ _ _) rfl
  rw [n6]
  simp only [Act.put, Nat.reduceAdd]
  refine lex_special (by rfl) rfl (fun σ w2 hA hD hn hC => ?_) ?_
  · have ea := got1 hA hD 5 rfl (by kernel_rfl)
    rw [n5] at ea
    exact hC.store_ok HFN.out (v := ⟨5, 7, 28, #[.int .u64 0, .int .u64 0, .int .u64 0, .int .u64 0, .int .i64 0, .int .i64 0, .slice none 0 0], some #[.int .u64 q.token.base.1, .int .u64 q.token.base.2, .int .u64 q.token.target.1, .int .u64 q.token.target.2, .int .i64 q.token.next, .int .i64 q.token.all, .slice ia' q.token.image.length ic'], 1000⟩) (List.mem_cons_of_mem _ List.mem_cons_self) 28 (.tmp 7) (.tmp 16) rfl g5 #[.int .u64 q.token.base.1, .int .u64 q.token.base.2, .int .u64 q.token.target.1, .int .u64 q.token.target.2, .int .i64 q.token.next, .int .i64 q.token.all, .slice ia' q.token.image.length ic'] rfl rfl ea rfl hn (by kernel_rfl) rfl (tk_one _ _ _ _ _ _ _ _ _) rfl
  rw [n7]
  simp only [Act.put, Nat.reduceAdd]
  refine lex_nil (fun σ W2 hA hall hC => ?_)
  obtain ⟨q0, f0, -, B0⟩ := hC.end_ (v := ⟨4, 6, 28, #[.int .u64 0, .int .u64 0, .int .u64 0, .int .u64 0, .int .i64 0, .int .i64 0, .slice none 0 0], some #[.int .u64 m.token.base.1, .int .u64 m.token.base.2, .int .u64 m.token.target.1, .int .u64 m.token.target.2, .int .i64 m.token.next, .int .i64 m.token.all, .slice ia m.token.image.length ic], 1000⟩) List.mem_cons_self (hall 4 rfl (by decide)) (hall 6 rfl (by decide))
  replace f0 := ptr_inj (n4.symm.trans f0)
  subst f0
  have HV4 := Lib.hid (show Blk W2 g4 28 #[.int .u64 m.token.base.1, .int .u64 m.token.base.2, .int .u64 m.token.target.1, .int .u64 m.token.target.2, .int .i64 m.token.next, .int .i64 m.token.all, .slice ia m.token.image.length ic] from B0)
  obtain ⟨q1, f1, -, B1⟩ := hC.end_ (v := ⟨5, 7, 28, #[.int .u64 0, .int .u64 0, .int .u64 0, .int .u64 0, .int .i64 0, .int .i64 0, .slice none 0 0], some #[.int .u64 q.token.base.1, .int .u64 q.token.base.2, .int .u64 q.token.target.1, .int .u64 q.token.target.2, .int .i64 q.token.next, .int .i64 q.token.all, .slice ia' q.token.image.length ic'], 1000⟩) (List.mem_cons_of_mem _ List.mem_cons_self) (hall 5 rfl (by decide)) (hall 7 rfl (by decide))
  replace f1 := ptr_inj (n5.symm.trans f1)
  subst f1
  have HV5 := Lib.hid (show Blk W2 g5 28 #[.int .u64 q.token.base.1, .int .u64 q.token.base.2, .int .u64 q.token.target.1, .int .u64 q.token.target.2, .int .i64 q.token.next, .int .i64 q.token.all, .slice ia' q.token.image.length ic'] from B1)
  have hZ := hC.below
  clear hA hall hC HFN n4 n6 B0 n5 n7 B1
  unfold ptr
  have HB2 := Lib.hid (HB1.out.trans (hZ.mono HB1.out.size))
  have HP2 := Lib.hid (HP1.out.keep hZ)
  have HQ2 := Lib.hid (HQ1.out.keep hZ)
  clear hZ HP1 HQ1 HB1 HP HQ HB0
  cases ss with
  | false =>
    have HR := Lib.hid (show X = false by rw [HX.out]; rfl)
    go_wp2
    go_ret
    exact ⟨by rw [HR.out]; rfl, HB2.out⟩
  | true =>
    have p0 := (HP2.out).cell 0
    simp at p0
    have q0 := (HQ2.out).cell 0
    simp at q0
    go_wp2_with fail
    refine (HEL.out _ HB2.out).mono ?_
    rintro e W3 ⟨rfl, hb⟩
    have HB3 := Lib.hid (HB2.out.trans (hb.mono HB2.out.size))
    replace HV4 := Lib.hid (HV4.out.keep hb)
    replace HV5 := Lib.hid (HV5.out.keep hb)
    clear hb HEL p0 q0 HP2 HQ2 HB2
    have x0 := (HV4.out).cell 0
    have x1 := (HV4.out).cell 1
    have x2 := (HV4.out).cell 2
    have x3 := (HV4.out).cell 3
    have x4 := (HV4.out).cell 4
    have x5 := (HV4.out).cell 5
    have x6 := (HV4.out).cell 6
    simp at x0 x1 x2 x3 x4 x5 x6
    have y0 := (HV5.out).cell 0
    have y1 := (HV5.out).cell 1
    have y2 := (HV5.out).cell 2
    have y3 := (HV5.out).cell 3
    have y4 := (HV5.out).cell 4
    have y5 := (HV5.out).cell 5
    have y6 := (HV5.out).cell 6
    simp at y0 y1 y2 y3 y4 y5 y6
    cases sl with
    | false =>
      have HR := Lib.hid (show X = false by rw [HX.out]; rfl)
      go_wp2
      go_ret
      exact ⟨by rw [HR.out]; rfl, HB3.out⟩
    | true =>
      cases sb with
      | false =>
        have HR := Lib.hid (show X = false by rw [HX.out]; rfl)
        go_wp2
        go_ret
        exact ⟨by rw [HR.out]; rfl, HB3.out⟩
      | true =>
        cases st with
        | false =>
          have HR := Lib.hid (show X = false by rw [HX.out]; rfl)
          go_wp2
          go_ret
          exact ⟨by rw [HR.out]; rfl, HB3.out⟩
        | true =>
          cases sn with
          | false =>
            have HR := Lib.hid (show X = false by rw [HX.out]; rfl)
            go_wp2
            go_ret
            exact ⟨by rw [HR.out]; rfl, HB3.out⟩
          | true =>
            cases sx with
            | false =>
              have HR := Lib.hid (show X = false by rw [HX.out]; rfl)
              go_wp2
              go_ret
              exact ⟨by rw [HR.out]; rfl, HB3.out⟩
            | true =>
              have HR := Lib.hid (show X = si by rw [HX.out]; rfl)
              go_wp2_with fail
              refine (HEI.out _ HB3.out).mono ?_
              rintro e W4 ⟨rfl, hb⟩
              have HB4 := Lib.hid (HB3.out.trans (hb.mono HB3.out.size))
              clear hb HEI HB3
              go_wp2
              go_ret
              exact ⟨by rw [HR.out]; rfl, HB4.out⟩
end Go.Proofs.Ytimgecflcackbaa
