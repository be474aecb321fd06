/-
  ModelPlays, WALKED (printed by wip/gen-modelplays.py).
-/
import Derived.Test.YtfeinafbimpjnaaPlaysQ
import Derived.Deep.LoopGhost
import Derived.Deep.CutRange
import Derived.Deep.CutBlock
import Derived.Deep.MidRow
namespace Go.Proofs.Ytfeinafbimpjnaa
open Go.RowKit Reg Go.WideShapes Go.ChangeShapes

set_option maxRecDepth 100000 in
set_option maxHeartbeats 4000000 in
theorem law_ModelPlays (a0 : Int) (v : Value) (xs : List Ac) (w : World) (_ : (Lit.int .i64 a0).wf = true) (hv : InA w v xs) (_ : True) :
    Calls Try.prog 3 #[.int .i64 a0, v] w fun e w' => e = .returned (.bool true) ∧ Below w.heap.size w w' := by
  obtain ⟨va, vc, rfl, hvc, hml, hacts⟩ := hv
  have HACT := Lib.hid hacts
  clear hacts hml hvc
  generalize xs.length = n at *
  by_cases k1 : a0 < 1
  · have d1 : decide (a0 < 1) = true := decide_eq_true k1
    have HN := Lib.hid (new_none a0 w (.inl k1))
    go_enter Try.func3, Try.ntmps3
    go_wp2_with fail
    refine HN.out.mono ?_
    rintro e w1 ⟨rfl, hb⟩
    have HB := Lib.hid hb
    clear hb HN
    go_wp2_with fail
    refine (works_any _).mono ?_
    rintro e y9 ⟨rfl, hb⟩
    have HB9 := Lib.hid (HB.out.trans (hb.mono HB.out.size))
    clear hb
    go_wp2
    go_ret
    exact ⟨rfl, HB9.out⟩
  by_cases k2 : 8 < a0
  · have d1 : decide (a0 < 1) = false := decide_eq_false k1
    have d2 : decide (8 < a0) = true := decide_eq_true k2
    have HN := Lib.hid (new_none a0 w (.inr k2))
    go_enter Try.func3, Try.ntmps3
    go_wp2_with fail
    refine HN.out.mono ?_
    rintro e w1 ⟨rfl, hb⟩
    have HB := Lib.hid hb
    clear hb HN
    go_wp2_with fail
    refine (works_any _).mono ?_
    rintro e y9 ⟨rfl, hb⟩
    have HB9 := Lib.hid (HB.out.trans (hb.mono HB.out.size))
    clear hb
    go_wp2
    go_ret
    exact ⟨rfl, HB9.out⟩
  have d1 : decide (a0 < 1) = false := decide_eq_false k1
  have d2 : decide (8 < a0) = false := decide_eq_false k2
  have HN := Lib.hid (show 1 ≤ a0 ∧ a0 ≤ 8 by omega)
  go_enter Try.func3, Try.ntmps3
  go_wp2_with fail
  refine (new_any a0 _ HN.out.1 HN.out.2).mono ?_
  rintro e w1 ⟨rfl, hm, hb⟩
  obtain ⟨bm, ham⟩ : ∃ z, z = w.heap.size + 1 + 1 := ⟨_, rfl⟩
  obtain ⟨bl, hal⟩ : ∃ z, z = w.heap.size := ⟨_, rfl⟩
  obtain ⟨bi, hai⟩ : ∃ z, z = w.heap.size + 1 := ⟨_, rfl⟩
  have hge : ∀ b, fp bm bl bi b → w.heap.size ≤ b := by
    rintro b (rfl | rfl | rfl) <;> omega
  have hm2 : Md w1 bm bl bi (Mdl.new a0) := by rw [ham, hal, hai]; exact hm
  have hb1 := (Below.refl w1.heap.size w1).alloc (Nat.le_refl _) (Obj.cells #[.int .i64 a0, .slice none 0 0, .slice none 0 0, .slice none 0 0] 31)
  have HS := Lib.hid (show PLI w (w1.alloc (.cells #[.int .i64 a0, .slice none 0 0, .slice none 0 0, .slice none 0 0] 31)) bm bl bi w1.heap.size (Mdl.new a0) (Rf.new a0) from
    ⟨hb.trans (hb1.mono hb.size), hm2.keep hb1, RM.start HN.out hb.size, hge⟩)
  rw [← ham]
  clear hm hm2 hb hge ham hal hai hb1 HN
  go_wp2_with fail
  generalize w1.alloc (.cells #[.int .i64 a0, .slice none 0 0, .slice none 0 0, .slice none 0 0] 31) = w2 at *
  obtain ⟨q, hq⟩ : ∃ z, z = w1.heap.size := ⟨_, rfl⟩
  rw [← hq] at HS
  rw [← hq]
  clear hq k1 k2 d1 d2
  go_loopg [7] 80 (fun gk i wr => ∃ (j : Nat) (S : Mdl) (R : Rf), gk = 80 - j ∧ j ≤ 80 ∧ i = .int .i64 j ∧ R.lk.length ≤ j ∧ R.ik.length ≤ j ∧ Sm S R ∧ PLI w wr bm bl bi q S R)
  case atStart => exact ⟨0, Mdl.new a0, Rf.new a0, rfl, by omega, rfl, Nat.le_refl _, Nat.le_refl _, Sm.new a0, HS.out⟩
  case round =>
    obtain ⟨j, S, R, hgk, hj80, rfl, hlk, hik, hsm, hst⟩ := hrel
    have HST := Lib.hid hst
    have HGK := Lib.hid hgk
    have HSM := Lib.hid hsm
    have HLK := Lib.hid (And.intro hlk hik)
    clear hst hlk hik hsm hgk HS
    by_cases h1 : j < n
    · by_cases h2 : j < 80
      · obtain ⟨x, hx⟩ : ∃ z, z = xs.getD j acs0 := ⟨_, rfl⟩
        obtain ⟨gx, ox, rfl, actx⟩ := HACT.out j h1
        rw [← hx] at actx
        clear hx
        have actx := actx.keep HST.out.below
        obtain ⟨slx, a0', a1, a2, a3, a4, a5, a6, a7, alx, w1x, w2x, w3x, wgx, w5x⟩ := actx
        obtain ⟨la, lc, rfl, hlc, -⟩ := alx.open_
        have ALX := Lib.hid alx
        have HLC := Lib.hid hlc
        clear hlc
        have WX := Lib.hid (And.intro w3x (And.intro wgx w5x))
        have i1 : (j : Int) < (n : Int) := by omega
        have i2 : (j : Int) < 80 := by omega
        have HJ := Lib.hid h2
        clear alx w1x w2x w3x wgx w5x hj80 h1 h2
        obtain ⟨wh, xb, xe, gq, xl, sh, ls⟩ := x
        simp only at ALX WX HLC a0' a1 a2 a3 a4 a5 a6 a7 ⊢
        go_upto_block 2 with fail
        have hb0 := (Below.refl wr.heap.size wr).alloc (Nat.le_refl _) (Obj.cells #[.int .i64 wh, .int .i64 xb, .int .u64 xe, .int .u64 gq.1, .int .u64 gq.2, .int .u8 xl, .bool sh, .slice la ls.length lc] 36)
        have bx := Blk.new wr 36 #[.int .i64 wh, .int .i64 xb, .int .u64 xe, .int .u64 gq.1, .int .u64 gq.2, .int .u8 xl, .bool sh, .slice la ls.length lc]
        have hst := HST.out.keep hb0
        have HNX := Lib.hid (hst.md.apart bx (by decide))
        have HBX := Lib.hid bx
        have HS1 := Lib.hid hst
        have HLL := Lib.hid (ALX.out.keep hb0)
        obtain ⟨S', hS'⟩ : ∃ S', S' = S.act ⟨wh, xb, xe, gq, xl, sh, ls⟩ := ⟨_, rfl⟩
        obtain ⟨R', hR'⟩ : ∃ R', R' = R.act ⟨wh, xb, xe, gq, xl, sh, ls⟩ := ⟨_, rfl⟩
        have HSM' := Lib.hid (show Sm S' R' from by rw [hS', hR']; exact HSM.out.act hst.md.n.2 hst.md.wl _)
        have HLK' := Lib.hid (show R'.lk.length ≤ j + 1 ∧ R'.ik.length ≤ j + 1 from by
          have h1 := R.act_lk ⟨wh, xb, xe, gq, xl, sh, ls⟩
          have h2 := HLK.out
          rw [hR']
          omega)
        unfold Mdl.act at hS'
        unfold Rf.act at hR'
        simp only at hS' hR'
        have HS' := Lib.hid hS'
        have HR' := Lib.hid hR'
        clear hb0 bx hst a0' a1 a2 a3 a4 a5 a6 a7 actx ALX hS' hR'
        generalize hwq : wr.alloc (Obj.cells #[.int .i64 wh, .int .i64 xb, .int .u64 xe, .int .u64 gq.1, .int .u64 gq.2, .int .u8 xl, .bool sh, .slice la ls.length lc] 36) = w1 at *
        obtain ⟨qx, hqx⟩ : ∃ z, z = wr.heap.size := ⟨_, rfl⟩
        rw [← hqx] at HBX HNX
        rw [← hqx]
        clear hwq hqx
        go_cut [] from 34 to 168 (fun wx => PLI w wx bm bl bi q S' R' ∧ Blk wx qx 36 #[.int .i64 wh, .int .i64 xb, .int .u64 xe, .int .u64 gq.1, .int .u64 gq.2, .int .u8 xl, .bool sh, .slice la ls.length lc])
        case first =>
          have HL0 := Lib.hid (show R.lk.length ≤ 1000 ∧ R.ik.length ≤ 1000 from by have h1 := HLK.out; have h2 := HJ.out; omega)
          have cw := HBX.out.cell 0
          have c1 := HBX.out.cell 1
          have c2 := HBX.out.cell 2
          have c3 := HBX.out.cell 3
          have c4 := HBX.out.cell 4
          have c5 := HBX.out.cell 5
          have c6 := HBX.out.cell 6
          have c7 := HBX.out.cell 7
          simp at cw c1 c2 c3 c4 c5 c6 c7
          by_cases h0 : wh = 0
          · subst h0
            have hS' := HS'.out
            have hR' := HR'.out
            rw [if_pos rfl] at hS' hR'
            clear HS' HR'
            have HS' := Lib.hid hS'
            have HR' := Lib.hid hR'
            clear hS' hR'
            go_wp2_with fail
            refine (begin_far _ bm bl bi S xe gq HS1.out.md WX.out.1 WX.out.2.1).mono ?_
            rintro e' w3 ⟨rfl, hm, hk⟩
            rw [← HS'.out] at hm
            have HM3 := Lib.hid (HS1.out.modelq hm hk)
            have HBX := Lib.hid (HBX.out.fq hk HNX.out)
            clear hm hk cw c1 c2 c3 c4 c5 c6 c7
            have cw := HBX.out.cell 0
            have c1 := HBX.out.cell 1
            have c2 := HBX.out.cell 2
            have c3 := HBX.out.cell 3
            have c4 := HBX.out.cell 4
            have c5 := HBX.out.cell 5
            have c6 := HBX.out.cell 6
            have c7 := HBX.out.cell 7
            simp at cw c1 c2 c3 c4 c5 c6 c7
            go_wp2_with fail
            refine (rbegin_any _ _ q R xe gq HM3.out.rm HM3.out.base HL0.out.1 HL0.out.2).mono ?_
            rintro e' w4 ⟨rfl, hm, hk⟩
            rw [← HR'.out] at hm
            have HM4 := Lib.hid (And.intro (HM3.out.ref hm hk) (HBX.out.kr hk (by unfold T4; decide)))
            clear hm hk
            go_wp2_with fail
            go_meet
            exact HM4.out
          · have hS' := HS'.out
            have hR' := HR'.out
            rw [if_neg h0] at hS' hR'
            by_cases h12 : wh = 1 ∨ wh = 2
            · rw [if_pos h12] at hS' hR'
              clear HS' HR'
              have HS' := Lib.hid hS'
              have HR' := Lib.hid hR'
              clear hS' hR'
              rcases h12 with rfl | rfl
              · clear h0
                go_wp2_with fail
                refine wp_region_spec (fun i => i == 9 || i == 10) (kinds [(9, .is (.string (letS xl sh))), (10, .is (.tuple #[]))]) (UA w1 (fp bm bl bi) 10 (fun w2 => PLI w w2 bm bl bi q S R) (fun w2 => PLI w w2 bm bl bi q S' R)) (by kernel_rfl) (by kernel_rfl) (kinds_inh _) (UA.start (HS1.out.keep (Below.refl _ _).drew)) ?_
                intro ν hν
                have n9 : ν 9 = .string (letS xl sh) := hν 9
                have n10 : ν 10 = .tuple #[] := hν 10
                clear hν
                refine lex_plain (by rfl) rfl ?_
                apply Exists.intro
                refine ⟨fun σ w2 hA hD hC => ?_, ?_⟩
                · clear hA hD hC
                  go_simp
                  exact And.intro rfl rfl
                simp only [Act.put, List.setIfInBounds_toArray, List.set_cons_succ, List.set_cons_zero, Nat.reduceAdd]
                refine lex_plain (by rfl) rfl ?_
                apply Exists.intro
                refine ⟨fun σ w2 hA hD hC => ?_, ?_⟩
                · clear hA hD hC
                  go_simp
                  exact And.intro rfl rfl
                simp only [Act.put, List.setIfInBounds_toArray, List.set_cons_succ, List.set_cons_zero, Nat.reduceAdd]
                refine lex_plain (by rfl) rfl ?_
                apply Exists.intro
                refine ⟨fun σ w2 hA hD hC => ?_, ?_⟩
                · have hx := (hC.kp.blk HBX.out HNX.out).cell 2
                  simp at hx
                  clear hA hD hC
                  go_simp
                  exact And.intro rfl rfl
                simp only [Act.put, List.setIfInBounds_toArray, List.set_cons_succ, List.set_cons_zero, Nat.reduceAdd]
                refine lex_plain (by rfl) rfl ?_
                apply Exists.intro
                refine ⟨fun σ w2 hA hD hC => ?_, ?_⟩
                · clear hA hD hC
                  go_simp
                  exact And.intro rfl rfl
                simp only [Act.put, List.setIfInBounds_toArray, List.set_cons_succ, List.set_cons_zero, Nat.reduceAdd]
                refine lex_plain (by rfl) rfl ?_
                apply Exists.intro
                refine ⟨fun σ w2 hA hD hC => ?_, ?_⟩
                · have hx := (hC.kp.blk HBX.out HNX.out).cell 1
                  simp at hx
                  clear hA hD hC
                  go_simp
                  exact And.intro rfl rfl
                simp only [Act.put, List.setIfInBounds_toArray, List.set_cons_succ, List.set_cons_zero, Nat.reduceAdd]
                refine lex_plain (by rfl) rfl ?_
                apply Exists.intro
                refine ⟨fun σ w2 hA hD hC => ?_, ?_⟩
                · clear hA hD hC
                  go_simp
                  exact And.intro rfl rfl
                simp only [Act.put, List.setIfInBounds_toArray, List.set_cons_succ, List.set_cons_zero, Nat.reduceAdd]
                refine lex_plain (by rfl) rfl ?_
                apply Exists.intro
                refine ⟨fun σ w2 hA hD hC => ?_, ?_⟩
                · have hx := (hC.kp.blk HBX.out HNX.out).cell 5
                  simp at hx
                  clear hA hD hC
                  go_simp
                  exact And.intro rfl rfl
                simp only [Act.put, List.setIfInBounds_toArray, List.set_cons_succ, List.set_cons_zero, Nat.reduceAdd]
                refine lex_plain (by rfl) rfl ?_
                apply Exists.intro
                refine ⟨fun σ w2 hA hD hC => ?_, ?_⟩
                · clear hA hD hC
                  go_simp
                  exact And.intro rfl rfl
                simp only [Act.put, List.setIfInBounds_toArray, List.set_cons_succ, List.set_cons_zero, Nat.reduceAdd]
                refine lex_plain (by rfl) rfl ?_
                apply Exists.intro
                refine ⟨fun σ w2 hA hD hC => ?_, ?_⟩
                · have hx := (hC.kp.blk HBX.out HNX.out).cell 6
                  simp at hx
                  clear hA hD hC
                  go_simp
                  exact And.intro rfl rfl
                simp only [Act.put, List.setIfInBounds_toArray, List.set_cons_succ, List.set_cons_zero, Nat.reduceAdd]
                refine lex_special (by rfl) rfl (fun σ w2 hA hD hn hC => ?_) ?_
                · go_simp
                  refine (letters_any xl sh w2).mono ?_
                  rintro e' w' ⟨rfl, hb⟩
                  exact ⟨_, rfl, rfl, hC.more (by decide) hb (fun h => h.keep hb) (fun h => h.keep hb)⟩
                rw [n9]
                simp only [Act.put, List.setIfInBounds_toArray, List.set_cons_succ, List.set_cons_zero, Nat.reduceAdd]
                refine lex_special (by rfl) rfl (fun σ w2 hA hD hn hC => ?_) ?_
                · go_simp
                  refine (write_far w2 bm bl bi S xe xb (letS xl sh) (hC.m0 hn).md WX.out.1 (letS_size _ _)).mono ?_
                  rintro e' w' ⟨rfl, hm, hk⟩
                  rw [← HS'.out] at hm
                  exact ⟨_, rfl, rfl, hC.put (hk.mono fun b hb => Or.inr hb) ((hC.m0 hn).modelq hm hk)⟩
                rw [n10]
                simp only [Act.put, List.setIfInBounds_toArray, List.set_cons_succ, List.set_cons_zero, Nat.reduceAdd]
                refine lex_nil (fun σ w9 hA hall hC => ?_)
                have s9 := hall 10 rfl (by decide)
                have HM3 := Lib.hid (hC.m1 (by rw [s9]; simp))
                have HBX := Lib.hid (hC.kp.blk HBX.out HNX.out)
                clear hA hall hC s9 n9 n10 cw c1 c2 c3 c4 c5 c6 c7 ν σ
                go_wp2_with fail
                refine wp_region_spec (fun i => i == 9 || i == 10) (kinds [(9, .is (.string (letS xl sh))), (10, .is (.tuple #[]))]) (UR w9 w.heap.size 10 (fun w2 => PLI w w2 bm bl bi q S' R) (fun w2 => PLI w w2 bm bl bi q S' R')) (by kernel_rfl) (by kernel_rfl) (kinds_inh _) (UR.start (HM3.out.keep (Below.refl _ _).drew)) ?_
                intro ν hν
                have n9 : ν 9 = .string (letS xl sh) := hν 9
                have n10 : ν 10 = .tuple #[] := hν 10
                clear hν
                refine lex_plain (by rfl) rfl ?_
                apply Exists.intro
                refine ⟨fun σ w2 hA hD hC => ?_, ?_⟩
                · clear hA hD hC
                  go_simp
                  exact And.intro rfl rfl
                simp only [Act.put, List.setIfInBounds_toArray, List.set_cons_succ, List.set_cons_zero, Nat.reduceAdd]
                refine lex_plain (by rfl) rfl ?_
                apply Exists.intro
                refine ⟨fun σ w2 hA hD hC => ?_, ?_⟩
                · clear hA hD hC
                  go_simp
                  exact And.intro rfl rfl
                simp only [Act.put, List.setIfInBounds_toArray, List.set_cons_succ, List.set_cons_zero, Nat.reduceAdd]
                refine lex_plain (by rfl) rfl ?_
                apply Exists.intro
                refine ⟨fun σ w2 hA hD hC => ?_, ?_⟩
                · have hx := (HBX.out.kr hC.kr (by unfold T4; decide)).cell 2
                  simp at hx
                  clear hA hD hC
                  go_simp
                  exact And.intro rfl rfl
                simp only [Act.put, List.setIfInBounds_toArray, List.set_cons_succ, List.set_cons_zero, Nat.reduceAdd]
                refine lex_plain (by rfl) rfl ?_
                apply Exists.intro
                refine ⟨fun σ w2 hA hD hC => ?_, ?_⟩
                · clear hA hD hC
                  go_simp
                  exact And.intro rfl rfl
                simp only [Act.put, List.setIfInBounds_toArray, List.set_cons_succ, List.set_cons_zero, Nat.reduceAdd]
                refine lex_plain (by rfl) rfl ?_
                apply Exists.intro
                refine ⟨fun σ w2 hA hD hC => ?_, ?_⟩
                · have hx := (HBX.out.kr hC.kr (by unfold T4; decide)).cell 1
                  simp at hx
                  clear hA hD hC
                  go_simp
                  exact And.intro rfl rfl
                simp only [Act.put, List.setIfInBounds_toArray, List.set_cons_succ, List.set_cons_zero, Nat.reduceAdd]
                refine lex_plain (by rfl) rfl ?_
                apply Exists.intro
                refine ⟨fun σ w2 hA hD hC => ?_, ?_⟩
                · clear hA hD hC
                  go_simp
                  exact And.intro rfl rfl
                simp only [Act.put, List.setIfInBounds_toArray, List.set_cons_succ, List.set_cons_zero, Nat.reduceAdd]
                refine lex_plain (by rfl) rfl ?_
                apply Exists.intro
                refine ⟨fun σ w2 hA hD hC => ?_, ?_⟩
                · have hx := (HBX.out.kr hC.kr (by unfold T4; decide)).cell 5
                  simp at hx
                  clear hA hD hC
                  go_simp
                  exact And.intro rfl rfl
                simp only [Act.put, List.setIfInBounds_toArray, List.set_cons_succ, List.set_cons_zero, Nat.reduceAdd]
                refine lex_plain (by rfl) rfl ?_
                apply Exists.intro
                refine ⟨fun σ w2 hA hD hC => ?_, ?_⟩
                · clear hA hD hC
                  go_simp
                  exact And.intro rfl rfl
                simp only [Act.put, List.setIfInBounds_toArray, List.set_cons_succ, List.set_cons_zero, Nat.reduceAdd]
                refine lex_plain (by rfl) rfl ?_
                apply Exists.intro
                refine ⟨fun σ w2 hA hD hC => ?_, ?_⟩
                · have hx := (HBX.out.kr hC.kr (by unfold T4; decide)).cell 6
                  simp at hx
                  clear hA hD hC
                  go_simp
                  exact And.intro rfl rfl
                simp only [Act.put, List.setIfInBounds_toArray, List.set_cons_succ, List.set_cons_zero, Nat.reduceAdd]
                refine lex_special (by rfl) rfl (fun σ w2 hA hD hn hC => ?_) ?_
                · go_simp
                  refine (letters_any xl sh w2).mono ?_
                  rintro e' w' ⟨rfl, hb⟩
                  exact ⟨_, rfl, rfl, hC.more (by decide) hb (fun h => h.keep hb) (fun h => h.keep hb)⟩
                rw [n9]
                simp only [Act.put, List.setIfInBounds_toArray, List.set_cons_succ, List.set_cons_zero, Nat.reduceAdd]
                refine lex_special (by rfl) rfl (fun σ w2 hA hD hn hC => ?_) ?_
                · go_simp
                  refine (rwrite_any w2 w.heap.size q R xe xb (letS xl sh) (hC.m0 hn).rm HL0.out.1 (letS_size _ _)).mono ?_
                  rintro e' w' ⟨rfl, hm, hk⟩
                  rw [← HR'.out] at hm
                  exact ⟨_, rfl, rfl, hC.put hk ((hC.m0 hn).ref hm hk)⟩
                rw [n10]
                simp only [Act.put, List.setIfInBounds_toArray, List.set_cons_succ, List.set_cons_zero, Nat.reduceAdd]
                refine lex_nil (fun σ w10 hA hall hC => ?_)
                have s9 := hall 10 rfl (by decide)
                have HM4 := Lib.hid (And.intro (hC.m1 (by rw [s9]; simp)) (HBX.out.kr hC.kr (by unfold T4; decide)))
                clear hA hall hC s9 n9 n10
                go_wp2_with fail
                go_meet
                exact HM4.out
              · clear h0
                go_wp2_with fail
                refine wp_region_spec (fun i => i == 9 || i == 10) (kinds [(9, .is (.string (letS xl sh))), (10, .is (.tuple #[]))]) (UA w1 (fp bm bl bi) 10 (fun w2 => PLI w w2 bm bl bi q S R) (fun w2 => PLI w w2 bm bl bi q S' R)) (by kernel_rfl) (by kernel_rfl) (kinds_inh _) (UA.start (HS1.out.keep (Below.refl _ _).drew)) ?_
                intro ν hν
                have n9 : ν 9 = .string (letS xl sh) := hν 9
                have n10 : ν 10 = .tuple #[] := hν 10
                clear hν
                refine lex_plain (by rfl) rfl ?_
                apply Exists.intro
                refine ⟨fun σ w2 hA hD hC => ?_, ?_⟩
                · clear hA hD hC
                  go_simp
                  exact And.intro rfl rfl
                simp only [Act.put, List.setIfInBounds_toArray, List.set_cons_succ, List.set_cons_zero, Nat.reduceAdd]
                refine lex_plain (by rfl) rfl ?_
                apply Exists.intro
                refine ⟨fun σ w2 hA hD hC => ?_, ?_⟩
                · clear hA hD hC
                  go_simp
                  exact And.intro rfl rfl
                simp only [Act.put, List.setIfInBounds_toArray, List.set_cons_succ, List.set_cons_zero, Nat.reduceAdd]
                refine lex_plain (by rfl) rfl ?_
                apply Exists.intro
                refine ⟨fun σ w2 hA hD hC => ?_, ?_⟩
                · have hx := (hC.kp.blk HBX.out HNX.out).cell 2
                  simp at hx
                  clear hA hD hC
                  go_simp
                  exact And.intro rfl rfl
                simp only [Act.put, List.setIfInBounds_toArray, List.set_cons_succ, List.set_cons_zero, Nat.reduceAdd]
                refine lex_plain (by rfl) rfl ?_
                apply Exists.intro
                refine ⟨fun σ w2 hA hD hC => ?_, ?_⟩
                · clear hA hD hC
                  go_simp
                  exact And.intro rfl rfl
                simp only [Act.put, List.setIfInBounds_toArray, List.set_cons_succ, List.set_cons_zero, Nat.reduceAdd]
                refine lex_plain (by rfl) rfl ?_
                apply Exists.intro
                refine ⟨fun σ w2 hA hD hC => ?_, ?_⟩
                · have hx := (hC.kp.blk HBX.out HNX.out).cell 1
                  simp at hx
                  clear hA hD hC
                  go_simp
                  exact And.intro rfl rfl
                simp only [Act.put, List.setIfInBounds_toArray, List.set_cons_succ, List.set_cons_zero, Nat.reduceAdd]
                refine lex_plain (by rfl) rfl ?_
                apply Exists.intro
                refine ⟨fun σ w2 hA hD hC => ?_, ?_⟩
                · clear hA hD hC
                  go_simp
                  exact And.intro rfl rfl
                simp only [Act.put, List.setIfInBounds_toArray, List.set_cons_succ, List.set_cons_zero, Nat.reduceAdd]
                refine lex_plain (by rfl) rfl ?_
                apply Exists.intro
                refine ⟨fun σ w2 hA hD hC => ?_, ?_⟩
                · have hx := (hC.kp.blk HBX.out HNX.out).cell 5
                  simp at hx
                  clear hA hD hC
                  go_simp
                  exact And.intro rfl rfl
                simp only [Act.put, List.setIfInBounds_toArray, List.set_cons_succ, List.set_cons_zero, Nat.reduceAdd]
                refine lex_plain (by rfl) rfl ?_
                apply Exists.intro
                refine ⟨fun σ w2 hA hD hC => ?_, ?_⟩
                · clear hA hD hC
                  go_simp
                  exact And.intro rfl rfl
                simp only [Act.put, List.setIfInBounds_toArray, List.set_cons_succ, List.set_cons_zero, Nat.reduceAdd]
                refine lex_plain (by rfl) rfl ?_
                apply Exists.intro
                refine ⟨fun σ w2 hA hD hC => ?_, ?_⟩
                · have hx := (hC.kp.blk HBX.out HNX.out).cell 6
                  simp at hx
                  clear hA hD hC
                  go_simp
                  exact And.intro rfl rfl
                simp only [Act.put, List.setIfInBounds_toArray, List.set_cons_succ, List.set_cons_zero, Nat.reduceAdd]
                refine lex_special (by rfl) rfl (fun σ w2 hA hD hn hC => ?_) ?_
                · go_simp
                  refine (letters_any xl sh w2).mono ?_
                  rintro e' w' ⟨rfl, hb⟩
                  exact ⟨_, rfl, rfl, hC.more (by decide) hb (fun h => h.keep hb) (fun h => h.keep hb)⟩
                rw [n9]
                simp only [Act.put, List.setIfInBounds_toArray, List.set_cons_succ, List.set_cons_zero, Nat.reduceAdd]
                refine lex_special (by rfl) rfl (fun σ w2 hA hD hn hC => ?_) ?_
                · go_simp
                  refine (write_far w2 bm bl bi S xe xb (letS xl sh) (hC.m0 hn).md WX.out.1 (letS_size _ _)).mono ?_
                  rintro e' w' ⟨rfl, hm, hk⟩
                  rw [← HS'.out] at hm
                  exact ⟨_, rfl, rfl, hC.put (hk.mono fun b hb => Or.inr hb) ((hC.m0 hn).modelq hm hk)⟩
                rw [n10]
                simp only [Act.put, List.setIfInBounds_toArray, List.set_cons_succ, List.set_cons_zero, Nat.reduceAdd]
                refine lex_nil (fun σ w9 hA hall hC => ?_)
                have s9 := hall 10 rfl (by decide)
                have HM3 := Lib.hid (hC.m1 (by rw [s9]; simp))
                have HBX := Lib.hid (hC.kp.blk HBX.out HNX.out)
                clear hA hall hC s9 n9 n10 cw c1 c2 c3 c4 c5 c6 c7 ν σ
                go_wp2_with fail
                refine wp_region_spec (fun i => i == 9 || i == 10) (kinds [(9, .is (.string (letS xl sh))), (10, .is (.tuple #[]))]) (UR w9 w.heap.size 10 (fun w2 => PLI w w2 bm bl bi q S' R) (fun w2 => PLI w w2 bm bl bi q S' R')) (by kernel_rfl) (by kernel_rfl) (kinds_inh _) (UR.start (HM3.out.keep (Below.refl _ _).drew)) ?_
                intro ν hν
                have n9 : ν 9 = .string (letS xl sh) := hν 9
                have n10 : ν 10 = .tuple #[] := hν 10
                clear hν
                refine lex_plain (by rfl) rfl ?_
                apply Exists.intro
                refine ⟨fun σ w2 hA hD hC => ?_, ?_⟩
                · clear hA hD hC
                  go_simp
                  exact And.intro rfl rfl
                simp only [Act.put, List.setIfInBounds_toArray, List.set_cons_succ, List.set_cons_zero, Nat.reduceAdd]
                refine lex_plain (by rfl) rfl ?_
                apply Exists.intro
                refine ⟨fun σ w2 hA hD hC => ?_, ?_⟩
                · clear hA hD hC
                  go_simp
                  exact And.intro rfl rfl
                simp only [Act.put, List.setIfInBounds_toArray, List.set_cons_succ, List.set_cons_zero, Nat.reduceAdd]
                refine lex_plain (by rfl) rfl ?_
                apply Exists.intro
                refine ⟨fun σ w2 hA hD hC => ?_, ?_⟩
                · have hx := (HBX.out.kr hC.kr (by unfold T4; decide)).cell 2
                  simp at hx
                  clear hA hD hC
                  go_simp
                  exact And.intro rfl rfl
                simp only [Act.put, List.setIfInBounds_toArray, List.set_cons_succ, List.set_cons_zero, Nat.reduceAdd]
                refine lex_plain (by rfl) rfl ?_
                apply Exists.intro
                refine ⟨fun σ w2 hA hD hC => ?_, ?_⟩
                · clear hA hD hC
                  go_simp
                  exact And.intro rfl rfl
                simp only [Act.put, List.setIfInBounds_toArray, List.set_cons_succ, List.set_cons_zero, Nat.reduceAdd]
                refine lex_plain (by rfl) rfl ?_
                apply Exists.intro
                refine ⟨fun σ w2 hA hD hC => ?_, ?_⟩
                · have hx := (HBX.out.kr hC.kr (by unfold T4; decide)).cell 1
                  simp at hx
                  clear hA hD hC
                  go_simp
                  exact And.intro rfl rfl
                simp only [Act.put, List.setIfInBounds_toArray, List.set_cons_succ, List.set_cons_zero, Nat.reduceAdd]
                refine lex_plain (by rfl) rfl ?_
                apply Exists.intro
                refine ⟨fun σ w2 hA hD hC => ?_, ?_⟩
                · clear hA hD hC
                  go_simp
                  exact And.intro rfl rfl
                simp only [Act.put, List.setIfInBounds_toArray, List.set_cons_succ, List.set_cons_zero, Nat.reduceAdd]
                refine lex_plain (by rfl) rfl ?_
                apply Exists.intro
                refine ⟨fun σ w2 hA hD hC => ?_, ?_⟩
                · have hx := (HBX.out.kr hC.kr (by unfold T4; decide)).cell 5
                  simp at hx
                  clear hA hD hC
                  go_simp
                  exact And.intro rfl rfl
                simp only [Act.put, List.setIfInBounds_toArray, List.set_cons_succ, List.set_cons_zero, Nat.reduceAdd]
                refine lex_plain (by rfl) rfl ?_
                apply Exists.intro
                refine ⟨fun σ w2 hA hD hC => ?_, ?_⟩
                · clear hA hD hC
                  go_simp
                  exact And.intro rfl rfl
                simp only [Act.put, List.setIfInBounds_toArray, List.set_cons_succ, List.set_cons_zero, Nat.reduceAdd]
                refine lex_plain (by rfl) rfl ?_
                apply Exists.intro
                refine ⟨fun σ w2 hA hD hC => ?_, ?_⟩
                · have hx := (HBX.out.kr hC.kr (by unfold T4; decide)).cell 6
                  simp at hx
                  clear hA hD hC
                  go_simp
                  exact And.intro rfl rfl
                simp only [Act.put, List.setIfInBounds_toArray, List.set_cons_succ, List.set_cons_zero, Nat.reduceAdd]
                refine lex_special (by rfl) rfl (fun σ w2 hA hD hn hC => ?_) ?_
                · go_simp
                  refine (letters_any xl sh w2).mono ?_
                  rintro e' w' ⟨rfl, hb⟩
                  exact ⟨_, rfl, rfl, hC.more (by decide) hb (fun h => h.keep hb) (fun h => h.keep hb)⟩
                rw [n9]
                simp only [Act.put, List.setIfInBounds_toArray, List.set_cons_succ, List.set_cons_zero, Nat.reduceAdd]
                refine lex_special (by rfl) rfl (fun σ w2 hA hD hn hC => ?_) ?_
                · go_simp
                  refine (rwrite_any w2 w.heap.size q R xe xb (letS xl sh) (hC.m0 hn).rm HL0.out.1 (letS_size _ _)).mono ?_
                  rintro e' w' ⟨rfl, hm, hk⟩
                  rw [← HR'.out] at hm
                  exact ⟨_, rfl, rfl, hC.put hk ((hC.m0 hn).ref hm hk)⟩
                rw [n10]
                simp only [Act.put, List.setIfInBounds_toArray, List.set_cons_succ, List.set_cons_zero, Nat.reduceAdd]
                refine lex_nil (fun σ w10 hA hall hC => ?_)
                have s9 := hall 10 rfl (by decide)
                have HM4 := Lib.hid (And.intro (hC.m1 (by rw [s9]; simp)) (HBX.out.kr hC.kr (by unfold T4; decide)))
                clear hA hall hC s9 n9 n10
                go_wp2_with fail
                go_meet
                exact HM4.out
            · rw [if_neg h12] at hS' hR'
              by_cases h3 : wh = 3
              · subst h3
                rw [if_pos rfl] at hS' hR'
                clear HS' HR' h0 h12
                have HS' := Lib.hid hS'
                have HR' := Lib.hid hR'
                clear hS' hR'
                go_wp2_with fail
                refine (snap_far _ bm bl bi S gq HS1.out.md WX.out.2.1).mono ?_
                rintro e' w3 ⟨rfl, hm, hk⟩
                rw [← HS'.out] at hm
                have HM3 := Lib.hid (HS1.out.modelq hm hk)
                have HBX := Lib.hid (HBX.out.fq hk HNX.out)
                clear hm hk cw c1 c2 c3 c4 c5 c6 c7
                have cw := HBX.out.cell 0
                have c1 := HBX.out.cell 1
                have c2 := HBX.out.cell 2
                have c3 := HBX.out.cell 3
                have c4 := HBX.out.cell 4
                have c5 := HBX.out.cell 5
                have c6 := HBX.out.cell 6
                have c7 := HBX.out.cell 7
                simp at cw c1 c2 c3 c4 c5 c6 c7
                go_wp2_with fail
                refine (rsnap_any _ _ q R gq HM3.out.rm HM3.out.base HL0.out.1 HL0.out.2).mono ?_
                rintro e' w4 ⟨rfl, hm, hk⟩
                rw [← HR'.out] at hm
                have HM4 := Lib.hid (And.intro (HM3.out.ref hm hk) (HBX.out.kr hk (by unfold T4; decide)))
                clear hm hk
                go_wp2_with fail
                go_meet
                exact HM4.out
              · rw [if_neg h3] at hS' hR'
                by_cases h4 : wh = 4
                · subst h4
                  rw [if_pos rfl] at hS' hR'
                  clear HS' HR' h0 h12 h3
                  obtain ⟨n1, hn1⟩ : ∃ z : Nat, min (ls.length : Int) 40 = z := ⟨min ls.length 40, by omega⟩
                  have hnn : min ls.length 40 = n1 := by omega
                  have k1 : n1 ≤ lc := by have := HLC.out; omega
                  have hcut := HLL.out.take (m := n1) (by omega)
                  have hle : (ls.take n1).length = n1 := by rw [List.length_take]; omega
                  have hc20 : (ls.take n1).length ≤ 2 ^ 20 := by omega
                  rw [hnn] at hS' hR'
                  have HS' := Lib.hid hS'
                  have HR' := Lib.hid hR'
                  have HCUT := Lib.hid hcut
                  have HC20 := Lib.hid hc20
                  have HLE := Lib.hid hle
                  generalize hlz : ls.take n1 = lz at *
                  clear hlz
                  have HEMP := Lib.hid (OwG.empty w1)
                  have HAPP := Lib.hid (app_guids (base := w1.heap.size) 29 (OwG.empty w1) (HCUT.out.keep ((Below.refl _ _).alloc (Nat.le_refl _) (Obj.cells #[] 34))) (by simp; omega) (by simp))
                  have c7e := cell_later ((Below.refl w1.heap.size w1).alloc (Nat.le_refl _) (Obj.cells #[] 34)) c7
                  clear hS' hR' hcut hc20 hnn hle
                  go_wp2_with (at_builtin; refine wpList_append_run rfl _ _ 29 rfl _ _ rfl rfl _ HAPP.out ?_)
                  refine Later.mk fun _ _ u w3 hp => ?_
                  have hbe := (Below.refl w1.heap.size w1).alloc (Nat.le_refl _) (Obj.cells #[] 34)
                  have hbb := hbe.trans (AppG.below hp HEMP.out hbe.size)
                  have ho := hp.1
                  have HP3 := Lib.hid (PLC.start HS1.out hbb ho)
                  have HBX := Lib.hid (HBX.out.keep hbb)
                  obtain ⟨ua, uc, rfl, -, -⟩ := ho.rd.open_
                  rw [HLE.out] at HP3
                  rw [HLE.out]
                  obtain ⟨tk, htk⟩ : ∃ z, z = S.taken lz := ⟨_, rfl⟩
                  have HTK := Lib.hid htk
                  clear hbe hbb ho hp HAPP HEMP htk c7e cw c1 c2 c3 c4 c5 c6 c7
                  go_wp2_with fail
                  refine (commit_far _ lz _ bm bl bi S HP3.out.md HP3.out.own.rd HC20.out).mono ?_
                  rintro e' w4 ⟨rfl, hm, hk, hl⟩
                  rw [← HS'.out] at hm
                  rw [← HTK.out]
                  have HP4 := Lib.hid (HP3.out.commit hm hk hl)
                  have HBX := Lib.hid (hk.blk HBX.out HNX.out)
                  have hrc := HP4.out.rcommit lz _ HP4.out.own.rd HC20.out
                  rw [HSM.out.taken, ← HTK.out, ← HR'.out] at hrc
                  have HRC := Lib.hid hrc
                  clear hm hk hl hrc HP3
                  go_wp2_with fail
                  refine HRC.out.mono ?_
                  rintro e' w5 ⟨rfl, hp5, hk5⟩
                  have HP5 := Lib.hid hp5
                  have HBX := Lib.hid (HBX.out.kr hk5 (by unfold T4; decide))
                  clear hp5 hk5 HRC HP4
                  have htt : (tk != tk) = false := by cases tk <;> rfl
                  go_wp2_with fail
                  go_loopg [10] n1 (fun gk i wr => ∃ (k : Nat) (l' : List Gd), gk = n1 - k ∧ k ≤ n1 ∧ i = .int .i64 k ∧ l'.length = n1 ∧ PLC w wr bm bl bi q S' R' (.slice ua n1 uc) l' ∧ Blk wr qx 36 #[.int .i64 4, .int .i64 xb, .int .u64 xe, .int .u64 gq.1, .int .u64 gq.2, .int .u8 xl, .bool sh, .slice la ls.length lc])
                  case atStart => exact ⟨0, lz, rfl, by omega, rfl, HLE.out, HP5.out, HBX.out⟩
                  case round =>
                    obtain ⟨k, l', hgq, hkn, rfl, hll, hpl, hbx⟩ := hrel
                    have HPL := Lib.hid hpl
                    have HBX := Lib.hid hbx
                    have HGQ := Lib.hid hgq
                    have HLL' := Lib.hid hll
                    clear hgq hpl hbx
                    by_cases h1 : k < n1
                    · obtain ⟨gb, gc, hv, hgb, hlt, hfz, hcl⟩ := HPL.out.own.block (by omega)
                      simp only [Value.slice.injEq] at hv
                      obtain ⟨rfl, -, rfl⟩ := hv
                      have hf := hfz (k * 2 + 1)
                      have hc := hcl k (by omega)
                      have HP6 := Lib.hid (HPL.out.set k 999 (by decide))
                      have HBX6 := Lib.hid ((Kp.cell wr gb (k * 2 + 1) (.int .u64 999)).blk HBX.out fun e => own_ne HPL.out.own.1 HBX.out (by decide) rfl e.symm)
                      have i1 : (k : Int) < (n1 : Int) := by omega
                      have i3 : (k : Int) < 9223372036854775807 := by omega
                      have HK := Lib.hid h1
                      clear hfz hcl hgb hlt h1 hll
                      go_wp2_with fail
                      have hk := HK.out
                      have hgq := HGQ.out
                      go_roundg (n1 - (k + 1))
                      case measure => omega
                      case rel => exact ⟨k + 1, _, rfl, by omega, by go_num, by rw [List.length_set]; exact HLL'.out, HP6.out, HBX6.out⟩
                    · have i1 : ¬ ((k : Int) < (n1 : Int)) := by omega
                      have HF := Lib.hid (And.intro HPL.out.pli HBX.out)
                      clear h1 hkn hll
                      go_wp2_with fail
                      go_meet
                      exact HF.out
                · rw [if_neg h4] at hS' hR'
                  have q0 : (wh == 0) = false := by simpa using h0
                  have q1 : (wh == 1) = false := by simp; omega
                  have q2 : (wh == 2) = false := by simp; omega
                  have q3 : (wh == 3) = false := by simpa using h3
                  have q4 : (wh == 4) = false := by simpa using h4
                  clear h0 h12 h3 h4 HS' HR'
                  subst hS'
                  subst hR'
                  go_wp2_with fail
                  go_meet
                  exact ⟨HS1.out, HBX.out⟩
        case rest =>
          obtain ⟨hst, hbx⟩ := hcut
          have HS2 := Lib.hid hst
          have HBX := Lib.hid hbx
          clear HS' HR' HS1 HLL HST hst hbx HSM HLK
          have c3 := HBX.out.cell 3
          have c4 := HBX.out.cell 4
          simp at c3 c4
          have him := image_any _ bm bl bi S' gq HS2.out.md WX.out.2.1
          obtain ⟨so, hso⟩ : ∃ z, z = (S'.img gq).isSome := ⟨_, rfl⟩
          obtain ⟨zs, hzs⟩ : ∃ z, z = S'.image gq := ⟨_, rfl⟩
          rw [← hso, ← hzs] at him
          have HSO := Lib.hid (And.intro hso hzs)
          unfold aggG at him
          have HIM := Lib.hid him
          clear him hso hzs
          go_wp2_with fail
          refine HIM.out.mono ?_
          rintro e w4 ⟨u, rfl, ho, hb⟩
          obtain ⟨ia, ic, rfl, -, -⟩ := ho.rd.open_
          have HO4 := Lib.hid ho
          have HB4 := Lib.hid hb
          have HS4 := Lib.hid (HS2.out.keep hb)
          have HBX := Lib.hid (HBX.out.keep hb)
          clear ho hb HIM c3 c4
          obtain ⟨ln, hln⟩ : ∃ z, z = zs.length := ⟨_, rfl⟩
          rw [← hln] at HO4
          rw [← hln]
          have HLN := Lib.hid hln
          clear hln
          have c3 := HBX.out.cell 3
          have c4 := HBX.out.cell 4
          simp at c3 c4
          have him := rimage_any _ _ q R' gq HS4.out.rm (by have h1 := HLK'.out; have h2 := HJ.out; omega)
          rw [HSM'.out.has, HSM'.out.image, ← HSO.out.1, ← HSO.out.2] at him
          unfold aggG at him
          have HIM := Lib.hid him
          clear him
          go_wp2_with fail
          refine HIM.out.mono ?_
          rintro e w5 ⟨u, rfl, ho, hb⟩
          obtain ⟨ja, jc, rfl, -, -⟩ := ho.rd.open_
          have HO5 := Lib.hid ho.rd
          have HA5 := Lib.hid (HO4.out.keep hb)
          have HB5 := Lib.hid (HB4.out.trans (hb.mono HB4.out.size))
          have HS5 := Lib.hid (HS4.out.keep hb)
          clear ho hb HIM c3 c4 HO4 HB4 HS4
          rw [← HLN.out] at HO5
          rw [← HLN.out]
          obtain ⟨ca, cc, hcell, hown⟩ := HS5.out.rm.com_open
          have hcom := HSM'.out.com
          rw [hcom] at hcell hown
          have HCELL := Lib.hid hcell
          have HOWN := Lib.hid hown
          have hs5 := HS5.out
          clear hcell hown hcom
          obtain ⟨cl, hcl⟩ : ∃ z, z = S'.list.length := ⟨_, rfl⟩
          rw [← hcl] at HCELL HOWN
          have HCL := Lib.hid hcl
          clear hcl hs5
          have hso2 : (so != so) = false := by cases so <;> rfl
          go_wp2_with fail
          refine wp_region_spec (fun i => i == 2 || i == 11 || i == 16) (kindsP cl) (CF w5 (FL S'.list w5.heap.size)) (by kernel_rfl) (by kernel_rfl) (kindsP_inh _) CF.start ?_
          intro ν hν
          have n2 : ν 2 = .bool true := hν 2
          obtain ⟨a11, c11, n11⟩ : ∃ a c, ν 11 = .slice a cl c := hν 11
          have n16 : ν 16 = .bool true := hν 16
          clear hν
          refine lex_plain (by rfl) rfl ?_
          apply Exists.intro
          refine ⟨fun σ w2 hA hD hC => ?_, ?_⟩
          · clear hA hD hC
            go_simp
            exact And.intro rfl rfl
          simp only [Act.put, List.setIfInBounds_toArray, List.set_cons_succ, List.set_cons_zero, Nat.reduceAdd]
          refine lex_plain (by rfl) rfl ?_
          apply Exists.intro
          refine ⟨fun σ w2 hA hD hC => ?_, ?_⟩
          · clear hA hD hC
            go_simp
            exact And.intro rfl rfl
          simp only [Act.put, List.setIfInBounds_toArray, List.set_cons_succ, List.set_cons_zero, Nat.reduceAdd]
          refine lex_special (by rfl) rfl (fun σ w2 hA hD hn hC => ?_) ?_
          · go_simp
            have hb5 := hC.1
            refine call_ok FL.stable hC ((refTexts_any _ _ _ _ _ (HA5.out.rd.keep hb5) (HO5.out.keep hb5)).mono ?_)
            rintro e' w' ⟨rfl, hb⟩
            exact ⟨_, rfl, (show Value.bool (decide (zs = zs)) = .bool true from by rw [decide_eq_true rfl]), (fun e => by cases e), hb⟩
          rw [n2]
          simp only [Act.put, List.setIfInBounds_toArray, List.set_cons_succ, List.set_cons_zero, Nat.reduceAdd]
          refine lex_plain (by rfl) rfl ?_
          apply Exists.intro
          refine ⟨fun σ w2 hA hD hC => ?_, ?_⟩
          · clear hA hD hC
            go_simp
            exact And.intro rfl rfl
          simp only [Act.put, List.setIfInBounds_toArray, List.set_cons_succ, List.set_cons_zero, Nat.reduceAdd]
          refine lex_plain (by rfl) rfl ?_
          apply Exists.intro
          refine ⟨fun σ w2 hA hD hC => ?_, ?_⟩
          · clear hA hD hC
            go_simp
            exact And.intro rfl rfl
          simp only [Act.put, List.setIfInBounds_toArray, List.set_cons_succ, List.set_cons_zero, Nat.reduceAdd]
          refine lex_plain (by rfl) rfl ?_
          apply Exists.intro
          refine ⟨fun σ w2 hA hD hC => ?_, ?_⟩
          · clear hA hD hC
            go_simp
            exact And.intro rfl rfl
          simp only [Act.put, List.setIfInBounds_toArray, List.set_cons_succ, List.set_cons_zero, Nat.reduceAdd]
          refine lex_plain (by rfl) rfl ?_
          apply Exists.intro
          refine ⟨fun σ w2 hA hD hC => ?_, ?_⟩
          · clear hA hD hC
            go_simp
            exact And.intro rfl rfl
          simp only [Act.put, List.setIfInBounds_toArray, List.set_cons_succ, List.set_cons_zero, Nat.reduceAdd]
          refine lex_plain (by rfl) rfl ?_
          apply Exists.intro
          refine ⟨fun σ w2 hA hD hC => ?_, ?_⟩
          · clear hA hD hC
            go_simp
            exact And.intro rfl rfl
          simp only [Act.put, List.setIfInBounds_toArray, List.set_cons_succ, List.set_cons_zero, Nat.reduceAdd]
          refine lex_plain (by rfl) rfl ?_
          apply Exists.intro
          refine ⟨fun σ w2 hA hD hC => ?_, ?_⟩
          · clear hA hD hC
            go_simp
            exact And.intro rfl rfl
          simp only [Act.put, List.setIfInBounds_toArray, List.set_cons_succ, List.set_cons_zero, Nat.reduceAdd]
          refine lex_plain (by rfl) rfl ?_
          apply Exists.intro
          refine ⟨fun σ w2 hA hD hC => ?_, ?_⟩
          · clear hA hD hC
            go_simp
            exact And.intro rfl rfl
          simp only [Act.put, List.setIfInBounds_toArray, List.set_cons_succ, List.set_cons_zero, Nat.reduceAdd]
          refine lex_plain (by rfl) rfl ?_
          apply Exists.intro
          refine ⟨fun σ w2 hA hD hC => ?_, ?_⟩
          · clear hA hD hC
            go_simp
            exact And.intro rfl rfl
          simp only [Act.put, List.setIfInBounds_toArray, List.set_cons_succ, List.set_cons_zero, Nat.reduceAdd]
          refine lex_special (by rfl) rfl (fun σ w2 hA hD hn hC => ?_) ?_
          · go_simp
            have hb5 := hC.1
            refine call_ok FL.stable hC ((list_any _ bm bl bi S' (HS5.out.keep hb5).md).mono ?_)
            rintro e' w' ⟨u, rfl, ho, hb⟩
            obtain ⟨na, nc, rfl, -, -⟩ := ho.rd.open_
            exact ⟨_, rfl, ⟨na, nc, by rw [HCL.out]⟩, (fun _ => ho.mono hb5.size), hb⟩
          rw [n11]
          simp only [Act.put, List.setIfInBounds_toArray, List.set_cons_succ, List.set_cons_zero, Nat.reduceAdd]
          refine lex_plain (by rfl) rfl ?_
          apply Exists.intro
          refine ⟨fun σ w2 hA hD hC => ?_, ?_⟩
          · clear hA hD hC
            go_simp
            exact And.intro rfl rfl
          simp only [Act.put, List.setIfInBounds_toArray, List.set_cons_succ, List.set_cons_zero, Nat.reduceAdd]
          refine lex_plain (by rfl) rfl ?_
          apply Exists.intro
          refine ⟨fun σ w2 hA hD hC => ?_, ?_⟩
          · clear hA hD hC
            go_simp
            exact And.intro rfl rfl
          simp only [Act.put, List.setIfInBounds_toArray, List.set_cons_succ, List.set_cons_zero, Nat.reduceAdd]
          refine lex_plain (by rfl) rfl ?_
          apply Exists.intro
          refine ⟨fun σ w2 hA hD hC => ?_, ?_⟩
          · clear hA hD hC
            go_simp
            exact And.intro rfl rfl
          simp only [Act.put, List.setIfInBounds_toArray, List.set_cons_succ, List.set_cons_zero, Nat.reduceAdd]
          refine lex_plain (by rfl) rfl ?_
          apply Exists.intro
          refine ⟨fun σ w2 hA hD hC => ?_, ?_⟩
          · have hcell := cell_later hC.1 HCELL.out
            clear hA hD hC
            go_simp
            exact And.intro rfl rfl
          simp only [Act.put, List.setIfInBounds_toArray, List.set_cons_succ, List.set_cons_zero, Nat.reduceAdd]
          refine lex_special (by rfl) rfl (fun σ w2 hA hD hn hC => ?_) ?_
          · have e11 := got1 hA hD 11 rfl (by kernel_rfl)
            have ho := hC.2 11 _ e11 rfl
            rw [n11] at ho
            go_simp
            have hb5 := hC.1
            refine call_ok FL.stable hC ((guids_any _ _ _ _ _ ho.rd (HOWN.out.rd.keep hb5)).mono ?_)
            rintro e' w' ⟨rfl, hb⟩
            exact ⟨_, rfl, (show Value.bool (decide (S'.list = S'.list)) = .bool true from by rw [decide_eq_true rfl]), (fun e => by cases e), hb⟩
          rw [n16]
          simp only [Act.put, List.setIfInBounds_toArray, List.set_cons_succ, List.set_cons_zero, Nat.reduceAdd]
          refine lex_plain (by rfl) rfl ?_
          apply Exists.intro
          refine ⟨fun σ w2 hA hD hC => ?_, ?_⟩
          · clear hA hD hC
            go_simp
            exact And.intro rfl rfl
          simp only [Act.put, List.setIfInBounds_toArray, List.set_cons_succ, List.set_cons_zero, Nat.reduceAdd]
          refine lex_plain (by rfl) rfl ?_
          apply Exists.intro
          refine ⟨fun σ w2 hA hD hC => ?_, ?_⟩
          · clear hA hD hC
            go_simp
            exact And.intro rfl rfl
          simp only [Act.put, List.setIfInBounds_toArray, List.set_cons_succ, List.set_cons_zero, Nat.reduceAdd]
          refine lex_nil (fun σ w9 hA hall hC => ?_)
          have HB9 := Lib.hid (HB5.out.trans (hC.1.mono HB5.out.size))
          have HA9 := Lib.hid (HA5.out.keep hC.1)
          clear hA hall hC n2 n11 n16 HA5 HB5 HS5 HO5 HCELL HOWN hso2
          go_wp2_with fail
          go_loopg [15] ln (fun gk i wr => ∃ (k : Nat) (zs' : Txs), gk = ln - k ∧ k ≤ ln ∧ i = .int .i64 k ∧ zs'.length = ln ∧ OwT wr wc.heap.size (.slice ia ln ic) zs' ∧ Below wc.heap.size wc wr)
          case atStart => exact ⟨0, zs, rfl, by omega, rfl, HLN.out.symm, HA9.out, HB9.out⟩
          case round =>
            obtain ⟨k, zs', hgq, hkn, rfl, hll, hot, hb⟩ := hrel
            have HOT := Lib.hid hot
            have HB := Lib.hid hb
            have HGQ := Lib.hid hgq
            have HLL' := Lib.hid hll
            clear hgq hot hb
            by_cases h1 : k < ln
            · obtain ⟨gb, gc, hv, hgb, hlt, hfz, hcl⟩ := HOT.out.block (by omega)
              simp only [Value.slice.injEq] at hv
              obtain ⟨rfl, -, rfl⟩ := hv
              have hf := hfz k
              have hc := hcl k (by omega)
              have HO6 := Lib.hid (HOT.out.set k ⟨#[97, 110, 111, 116, 104, 101, 114]⟩ (by decide))
              have HB6 := Lib.hid (show Below wc.heap.size wc (wr.setCell ⟨gb, k, none⟩ (.string ⟨#[97, 110, 111, 116, 104, 101, 114]⟩)) from HB.out.setCell hgb _)
              have i1 : (k : Int) < (ln : Int) := by omega
              have i3 : (k : Int) < 9223372036854775807 := by have := HOT.out.2.1; unfold maxLen at this; omega
              have HK := Lib.hid h1
              clear hfz hcl hgb hlt h1 hll
              go_wp2_with fail
              have hk := HK.out
              have hgq := HGQ.out
              go_roundg (ln - (k + 1))
              case measure => omega
              case rel => exact ⟨k + 1, _, rfl, by omega, by go_num, by rw [List.length_set]; exact HLL'.out, HO6.out, HB6.out⟩
            · have i1 : ¬ ((k : Int) < (ln : Int)) := by omega
              have HF := Lib.hid (HS2.out.keep HB.out)
              clear h1 hkn hll
              go_wp2_with fail
              have hgk := HGK.out
              have hj := HJ.out
              go_roundg (80 - (j + 1))
              case measure => omega
              case rel => exact ⟨j + 1, S', R', rfl, by omega, by go_num, HLK'.out.1, HLK'.out.2, HSM'.out, HF.out⟩
      · have i1 : (j : Int) < (n : Int) := by omega
        have i2 : ¬ ((j : Int) < 80) := by omega
        have d2 : decide ((j : Int) < 80) = false := decide_eq_false i2
        clear h1 h2
        go_wp2_with fail
        refine (works_any _).mono ?_
        rintro e y9 ⟨rfl, hb⟩
        have HB9 := Lib.hid (HST.out.below.trans (hb.mono HST.out.base))
        clear hb
        go_wp2
        go_ret
        exact ⟨rfl, HB9.out⟩
    · have i1 : ¬ ((j : Int) < (n : Int)) := by omega
      have d1 : decide ((j : Int) < (n : Int)) = false := decide_eq_false i1
      clear h1
      go_wp2_with fail
      refine (works_any _).mono ?_
      rintro e y9 ⟨rfl, hb⟩
      have HB9 := Lib.hid (HST.out.below.trans (hb.mono HST.out.base))
      clear hb
      go_wp2
      go_ret
      exact ⟨rfl, HB9.out⟩
end Go.Proofs.Ytfeinafbimpjnaa
