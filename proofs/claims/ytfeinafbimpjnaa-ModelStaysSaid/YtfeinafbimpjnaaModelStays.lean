/-
  ModelStays, WALKED (printed by wip/gen-modelstays.py).
-/
import Derived.Test.YtfeinafbimpjnaaModelStaysP
import Derived.Deep.LoopGhost
import Derived.Deep.CutRange
import Derived.Deep.CutBlock
import Derived.Deep.MidRow
namespace Go.Proofs.Ytfeinafbimpjnaa
open Go.RowKit Reg Go.WideShapes Go.ChangeShapes

set_option maxRecDepth 100000 in
set_option maxHeartbeats 4000000 in
theorem law_ModelStays (v : Value) (xs : List Ac) (w : World) (hv : InA w v xs) (_ : True) :
    Calls Try.prog 4 #[v] w fun e w' => e = .returned (.bool true) ∧ Below w.heap.size w w' := by
  obtain ⟨va, vc, rfl, hvc, hml, hacts⟩ := hv
  have HACT := Lib.hid hacts
  clear hacts hml hvc
  generalize xs.length = n at *
  go_enter Try.func4, Try.ntmps4
  go_wp2_with fail
  refine (new_any 3 _ (by omega) (by omega)).mono ?_
  rintro e w1 ⟨rfl, hm, hb⟩
  obtain ⟨bm, ham⟩ : ∃ z, z = w.heap.size + 1 + 1 := ⟨_, rfl⟩
  obtain ⟨bl, hal⟩ : ∃ z, z = w.heap.size := ⟨_, rfl⟩
  obtain ⟨bi, hai⟩ : ∃ z, z = w.heap.size + 1 := ⟨_, rfl⟩
  have hge : ∀ b, fp bm bl bi b → w.heap.size ≤ b := by
    rintro b (rfl | rfl | rfl) <;> omega
  have hm2 : Md w1 bm bl bi (Mdl.new 3) := by rw [ham, hal, hai]; exact hm
  have HS := Lib.hid (StI.start hb hm2 hge)
  rw [← ham]
  clear hm hm2 hb hge ham hal hai
  go_wp2_with fail
  go_loopg [4, 5, 6, 7] 80 (fun gk us ui ul i wr => ∃ (j : Nat) (S : Mdl) (gs : List Gd) (vals : List Value), gk = 80 - j ∧ j ≤ 80 ∧ i = .int .i64 j ∧ gs.length ≤ j ∧ vals.length = gs.length ∧ StI w wr bm bl bi S S.list us ui ul gs vals)
  case atStart => exact ⟨0, Mdl.new 3, [], [], rfl, by omega, rfl, by simp, rfl, HS.out⟩
  case round =>
    obtain ⟨j, S, gs, vals, hgk, hj80, rfl, hgs, hvg, hst⟩ := hrel
    have HST := Lib.hid hst
    have HGK := Lib.hid hgk
    have HGS := Lib.hid (And.intro hgs hvg)
    clear hst hgs hvg hgk HS
    by_cases h1 : j < n
    · by_cases h2 : j < 80
      · obtain ⟨x, hx⟩ : ∃ z, z = xs.getD j acs0 := ⟨_, rfl⟩
        obtain ⟨gx, ox, rfl, actx⟩ := HACT.out j h1
        rw [← hx] at actx
        clear hx
        have actx := actx.keep HST.out.below
        obtain ⟨slx, a0, a1, a2, a3, a4, a5, a6, a7, alx, w1x, w2x, w3x, wgx, w5x⟩ := actx
        obtain ⟨la, lc, rfl, hlc, -⟩ := alx.open_
        have ALX := Lib.hid alx
        have HLC := Lib.hid hlc
        clear hlc
        have WX := Lib.hid (And.intro w3x (And.intro wgx w5x))
        have i1 : (j : Int) < (n : Int) := by omega
        have i2 : (j : Int) < 80 := by omega
        have HJ := Lib.hid h2
        clear alx w1x w2x w3x wgx w5x hj80 h1 h2
        obtain ⟨wh, xb, xe, gq, xl, sh, ls⟩ := x
        simp only at ALX WX HLC a0 a1 a2 a3 a4 a5 a6 a7 ⊢
        go_upto_block 2 with fail
        have hb0 := (Below.refl wr.heap.size wr).alloc (Nat.le_refl _) (Obj.cells #[.int .i64 wh, .int .i64 xb, .int .u64 xe, .int .u64 gq.1, .int .u64 gq.2, .int .u8 xl, .bool sh, .slice la ls.length lc] 36)
        have bx := Blk.new wr 36 #[.int .i64 wh, .int .i64 xb, .int .u64 xe, .int .u64 gq.1, .int .u64 gq.2, .int .u8 xl, .bool sh, .slice la ls.length lc]
        have hst := HST.out.keep hb0
        have HNX := Lib.hid (hst.md.apart bx (by decide))
        have HBX := Lib.hid bx
        have HS1 := Lib.hid hst
        have HLL := Lib.hid (ALX.out.keep hb0)
        obtain ⟨S', hS'⟩ : ∃ S', S' = S.act ⟨wh, xb, xe, gq, xl, sh, ls⟩ := ⟨_, rfl⟩
        have HMO := Lib.hid (show Mono S S' from by rw [hS']; exact Mono.act _ _)
        unfold Mdl.act at hS'
        simp only at hS'
        have HS' := Lib.hid hS'
        clear hb0 bx hst a0 a1 a2 a3 a4 a5 a6 a7 actx ALX hS'
        generalize hwq : wr.alloc (Obj.cells #[.int .i64 wh, .int .i64 xb, .int .u64 xe, .int .u64 gq.1, .int .u64 gq.2, .int .u8 xl, .bool sh, .slice la ls.length lc] 36) = w1 at *
        obtain ⟨qx, hqx⟩ : ∃ z, z = wr.heap.size := ⟨_, rfl⟩
        rw [← hqx] at HBX HNX
        rw [← hqx]
        clear hwq hqx
        go_cut [] from 18 to 172 (fun wx => StI w wx bm bl bi S' S.list u4 u5 u6 gs vals ∧ Blk wx qx 36 #[.int .i64 wh, .int .i64 xb, .int .u64 xe, .int .u64 gq.1, .int .u64 gq.2, .int .u8 xl, .bool sh, .slice la ls.length lc])
        case first =>
          have cw := HBX.out.cell 0
          have c1 := HBX.out.cell 1
          have c2 := HBX.out.cell 2
          have c3 := HBX.out.cell 3
          have c4 := HBX.out.cell 4
          have c5 := HBX.out.cell 5
          have c6 := HBX.out.cell 6
          have c7 := HBX.out.cell 7
          simp at cw c1 c2 c3 c4 c5 c6 c7
          by_cases h0 : wh = 0
          · subst h0
            have hS' := HS'.out
            rw [if_pos rfl] at hS'
            clear HS'
            have HS' := Lib.hid hS'
            clear hS'
            go_wp2_with fail
            refine (begin_far _ bm bl bi S xe gq HS1.out.md WX.out.1 WX.out.2.1).mono ?_
            rintro e' w3 ⟨rfl, hm, hk⟩
            rw [← HS'.out] at hm
            have HM3 := Lib.hid (And.intro (HS1.out.stepq hm hk HMO.out) (HBX.out.fq hk HNX.out))
            clear hm hk
            go_wp2_with fail
            go_meet
            exact HM3.out
          · have hS' := HS'.out
            rw [if_neg h0] at hS'
            by_cases h12 : wh = 1 ∨ wh = 2
            · rw [if_pos h12] at hS'
              clear HS'
              have HS' := Lib.hid hS'
              clear hS'
              rcases h12 with rfl | rfl
              · clear h0
                go_wp2_with fail
                refine wp_region_spec (fun i => i == 9 || i == 10) (kinds [(9, .is (.string (letS xl sh))), (10, .is (.tuple #[]))]) (UA w1 (fp bm bl bi) 10 (fun w2 => StI w w2 bm bl bi S S.list u4 u5 u6 gs vals) (fun w2 => StI w w2 bm bl bi S' S.list u4 u5 u6 gs vals)) (by kernel_rfl) (by kernel_rfl) (kinds_inh _) (UA.start (HS1.out.keep (Below.refl _ _).drew)) ?_
                intro ν hν
                have n9 : ν 9 = .string (letS xl sh) := hν 9
                have n10 : ν 10 = .tuple #[] := hν 10
                clear hν
                refine lex_plain (by rfl) rfl ?_
                apply Exists.intro
                refine ⟨fun σ w2 hA hD hC => ?_, ?_⟩
                · clear hA hD hC
                  go_simp
                  exact And.intro rfl rfl
                simp only [Act.put, List.setIfInBounds_toArray, List.set_cons_succ, List.set_cons_zero, Nat.reduceAdd]
                refine lex_plain (by rfl) rfl ?_
                apply Exists.intro
                refine ⟨fun σ w2 hA hD hC => ?_, ?_⟩
                · clear hA hD hC
                  go_simp
                  exact And.intro rfl rfl
                simp only [Act.put, List.setIfInBounds_toArray, List.set_cons_succ, List.set_cons_zero, Nat.reduceAdd]
                refine lex_plain (by rfl) rfl ?_
                apply Exists.intro
                refine ⟨fun σ w2 hA hD hC => ?_, ?_⟩
                · have hx := (hC.kp.blk HBX.out HNX.out).cell 2
                  simp at hx
                  clear hA hD hC
                  go_simp
                  exact And.intro rfl rfl
                simp only [Act.put, List.setIfInBounds_toArray, List.set_cons_succ, List.set_cons_zero, Nat.reduceAdd]
                refine lex_plain (by rfl) rfl ?_
                apply Exists.intro
                refine ⟨fun σ w2 hA hD hC => ?_, ?_⟩
                · clear hA hD hC
                  go_simp
                  exact And.intro rfl rfl
                simp only [Act.put, List.setIfInBounds_toArray, List.set_cons_succ, List.set_cons_zero, Nat.reduceAdd]
                refine lex_plain (by rfl) rfl ?_
                apply Exists.intro
                refine ⟨fun σ w2 hA hD hC => ?_, ?_⟩
                · have hx := (hC.kp.blk HBX.out HNX.out).cell 1
                  simp at hx
                  clear hA hD hC
                  go_simp
                  exact And.intro rfl rfl
                simp only [Act.put, List.setIfInBounds_toArray, List.set_cons_succ, List.set_cons_zero, Nat.reduceAdd]
                refine lex_plain (by rfl) rfl ?_
                apply Exists.intro
                refine ⟨fun σ w2 hA hD hC => ?_, ?_⟩
                · clear hA hD hC
                  go_simp
                  exact And.intro rfl rfl
                simp only [Act.put, List.setIfInBounds_toArray, List.set_cons_succ, List.set_cons_zero, Nat.reduceAdd]
                refine lex_plain (by rfl) rfl ?_
                apply Exists.intro
                refine ⟨fun σ w2 hA hD hC => ?_, ?_⟩
                · have hx := (hC.kp.blk HBX.out HNX.out).cell 5
                  simp at hx
                  clear hA hD hC
                  go_simp
                  exact And.intro rfl rfl
                simp only [Act.put, List.setIfInBounds_toArray, List.set_cons_succ, List.set_cons_zero, Nat.reduceAdd]
                refine lex_plain (by rfl) rfl ?_
                apply Exists.intro
                refine ⟨fun σ w2 hA hD hC => ?_, ?_⟩
                · clear hA hD hC
                  go_simp
                  exact And.intro rfl rfl
                simp only [Act.put, List.setIfInBounds_toArray, List.set_cons_succ, List.set_cons_zero, Nat.reduceAdd]
                refine lex_plain (by rfl) rfl ?_
                apply Exists.intro
                refine ⟨fun σ w2 hA hD hC => ?_, ?_⟩
                · have hx := (hC.kp.blk HBX.out HNX.out).cell 6
                  simp at hx
                  clear hA hD hC
                  go_simp
                  exact And.intro rfl rfl
                simp only [Act.put, List.setIfInBounds_toArray, List.set_cons_succ, List.set_cons_zero, Nat.reduceAdd]
                refine lex_special (by rfl) rfl (fun σ w2 hA hD hn hC => ?_) ?_
                · go_simp
                  refine (letters_any xl sh w2).mono ?_
                  rintro e' w' ⟨rfl, hb⟩
                  exact ⟨_, rfl, rfl, hC.more (by decide) hb (fun h => h.keep hb) (fun h => h.keep hb)⟩
                rw [n9]
                simp only [Act.put, List.setIfInBounds_toArray, List.set_cons_succ, List.set_cons_zero, Nat.reduceAdd]
                refine lex_special (by rfl) rfl (fun σ w2 hA hD hn hC => ?_) ?_
                · go_simp
                  refine (write_far w2 bm bl bi S xe xb (letS xl sh) (hC.m0 hn).md WX.out.1 (letS_size _ _)).mono ?_
                  rintro e' w' ⟨rfl, hm, hk⟩
                  rw [← HS'.out] at hm
                  exact ⟨_, rfl, rfl, hC.put (hk.mono fun b hb => Or.inr hb) ((hC.m0 hn).stepq hm hk HMO.out)⟩
                rw [n10]
                simp only [Act.put, List.setIfInBounds_toArray, List.set_cons_succ, List.set_cons_zero, Nat.reduceAdd]
                refine lex_nil (fun σ w9 hA hall hC => ?_)
                have s9 := hall 10 rfl (by decide)
                have HM3 := Lib.hid (And.intro (hC.m1 (by rw [s9]; simp)) (hC.kp.blk HBX.out HNX.out))
                clear hA hall hC s9 n9 n10
                go_wp2_with fail
                go_meet
                exact HM3.out
              · clear h0
                go_wp2_with fail
                refine wp_region_spec (fun i => i == 9 || i == 10) (kinds [(9, .is (.string (letS xl sh))), (10, .is (.tuple #[]))]) (UA w1 (fp bm bl bi) 10 (fun w2 => StI w w2 bm bl bi S S.list u4 u5 u6 gs vals) (fun w2 => StI w w2 bm bl bi S' S.list u4 u5 u6 gs vals)) (by kernel_rfl) (by kernel_rfl) (kinds_inh _) (UA.start (HS1.out.keep (Below.refl _ _).drew)) ?_
                intro ν hν
                have n9 : ν 9 = .string (letS xl sh) := hν 9
                have n10 : ν 10 = .tuple #[] := hν 10
                clear hν
                refine lex_plain (by rfl) rfl ?_
                apply Exists.intro
                refine ⟨fun σ w2 hA hD hC => ?_, ?_⟩
                · clear hA hD hC
                  go_simp
                  exact And.intro rfl rfl
                simp only [Act.put, List.setIfInBounds_toArray, List.set_cons_succ, List.set_cons_zero, Nat.reduceAdd]
                refine lex_plain (by rfl) rfl ?_
                apply Exists.intro
                refine ⟨fun σ w2 hA hD hC => ?_, ?_⟩
                · clear hA hD hC
                  go_simp
                  exact And.intro rfl rfl
                simp only [Act.put, List.setIfInBounds_toArray, List.set_cons_succ, List.set_cons_zero, Nat.reduceAdd]
                refine lex_plain (by rfl) rfl ?_
                apply Exists.intro
                refine ⟨fun σ w2 hA hD hC => ?_, ?_⟩
                · have hx := (hC.kp.blk HBX.out HNX.out).cell 2
                  simp at hx
                  clear hA hD hC
                  go_simp
                  exact And.intro rfl rfl
                simp only [Act.put, List.setIfInBounds_toArray, List.set_cons_succ, List.set_cons_zero, Nat.reduceAdd]
                refine lex_plain (by rfl) rfl ?_
                apply Exists.intro
                refine ⟨fun σ w2 hA hD hC => ?_, ?_⟩
                · clear hA hD hC
                  go_simp
                  exact And.intro rfl rfl
                simp only [Act.put, List.setIfInBounds_toArray, List.set_cons_succ, List.set_cons_zero, Nat.reduceAdd]
                refine lex_plain (by rfl) rfl ?_
                apply Exists.intro
                refine ⟨fun σ w2 hA hD hC => ?_, ?_⟩
                · have hx := (hC.kp.blk HBX.out HNX.out).cell 1
                  simp at hx
                  clear hA hD hC
                  go_simp
                  exact And.intro rfl rfl
                simp only [Act.put, List.setIfInBounds_toArray, List.set_cons_succ, List.set_cons_zero, Nat.reduceAdd]
                refine lex_plain (by rfl) rfl ?_
                apply Exists.intro
                refine ⟨fun σ w2 hA hD hC => ?_, ?_⟩
                · clear hA hD hC
                  go_simp
                  exact And.intro rfl rfl
                simp only [Act.put, List.setIfInBounds_toArray, List.set_cons_succ, List.set_cons_zero, Nat.reduceAdd]
                refine lex_plain (by rfl) rfl ?_
                apply Exists.intro
                refine ⟨fun σ w2 hA hD hC => ?_, ?_⟩
                · have hx := (hC.kp.blk HBX.out HNX.out).cell 5
                  simp at hx
                  clear hA hD hC
                  go_simp
                  exact And.intro rfl rfl
                simp only [Act.put, List.setIfInBounds_toArray, List.set_cons_succ, List.set_cons_zero, Nat.reduceAdd]
                refine lex_plain (by rfl) rfl ?_
                apply Exists.intro
                refine ⟨fun σ w2 hA hD hC => ?_, ?_⟩
                · clear hA hD hC
                  go_simp
                  exact And.intro rfl rfl
                simp only [Act.put, List.setIfInBounds_toArray, List.set_cons_succ, List.set_cons_zero, Nat.reduceAdd]
                refine lex_plain (by rfl) rfl ?_
                apply Exists.intro
                refine ⟨fun σ w2 hA hD hC => ?_, ?_⟩
                · have hx := (hC.kp.blk HBX.out HNX.out).cell 6
                  simp at hx
                  clear hA hD hC
                  go_simp
                  exact And.intro rfl rfl
                simp only [Act.put, List.setIfInBounds_toArray, List.set_cons_succ, List.set_cons_zero, Nat.reduceAdd]
                refine lex_special (by rfl) rfl (fun σ w2 hA hD hn hC => ?_) ?_
                · go_simp
                  refine (letters_any xl sh w2).mono ?_
                  rintro e' w' ⟨rfl, hb⟩
                  exact ⟨_, rfl, rfl, hC.more (by decide) hb (fun h => h.keep hb) (fun h => h.keep hb)⟩
                rw [n9]
                simp only [Act.put, List.setIfInBounds_toArray, List.set_cons_succ, List.set_cons_zero, Nat.reduceAdd]
                refine lex_special (by rfl) rfl (fun σ w2 hA hD hn hC => ?_) ?_
                · go_simp
                  refine (write_far w2 bm bl bi S xe xb (letS xl sh) (hC.m0 hn).md WX.out.1 (letS_size _ _)).mono ?_
                  rintro e' w' ⟨rfl, hm, hk⟩
                  rw [← HS'.out] at hm
                  exact ⟨_, rfl, rfl, hC.put (hk.mono fun b hb => Or.inr hb) ((hC.m0 hn).stepq hm hk HMO.out)⟩
                rw [n10]
                simp only [Act.put, List.setIfInBounds_toArray, List.set_cons_succ, List.set_cons_zero, Nat.reduceAdd]
                refine lex_nil (fun σ w9 hA hall hC => ?_)
                have s9 := hall 10 rfl (by decide)
                have HM3 := Lib.hid (And.intro (hC.m1 (by rw [s9]; simp)) (hC.kp.blk HBX.out HNX.out))
                clear hA hall hC s9 n9 n10
                go_wp2_with fail
                go_meet
                exact HM3.out
            · rw [if_neg h12] at hS'
              by_cases h3 : wh = 3
              · subst h3
                rw [if_pos rfl] at hS'
                clear HS' h0 h12
                have HS' := Lib.hid hS'
                clear hS'
                go_wp2_with fail
                refine (snap_far _ bm bl bi S gq HS1.out.md WX.out.2.1).mono ?_
                rintro e' w3 ⟨rfl, hm, hk⟩
                rw [← HS'.out] at hm
                have HM3 := Lib.hid (And.intro (HS1.out.stepq hm hk HMO.out) (HBX.out.fq hk HNX.out))
                clear hm hk
                go_wp2_with fail
                go_meet
                exact HM3.out
              · rw [if_neg h3] at hS'
                by_cases h4 : wh = 4
                · subst h4
                  rw [if_pos rfl] at hS'
                  clear HS' h0 h12 h3
                  obtain ⟨n1, hn1⟩ : ∃ z : Nat, min (ls.length : Int) 40 = z := ⟨min ls.length 40, by omega⟩
                  have hnn : min ls.length 40 = n1 := by omega
                  have k1 : n1 ≤ lc := by have := HLC.out; omega
                  have hcut := HLL.out.take (m := n1) (by omega)
                  have hc20 : (ls.take n1).length ≤ 2 ^ 20 := by rw [List.length_take]; omega
                  rw [hnn] at hS'
                  have HS' := Lib.hid hS'
                  have HCUT := Lib.hid hcut
                  have HC20 := Lib.hid hc20
                  clear hS' hcut hc20 hnn
                  go_wp2_with fail
                  refine (commit_far _ (ls.take n1) _ bm bl bi S HS1.out.md HCUT.out HC20.out).mono ?_
                  rintro e' w3 ⟨rfl, hm, hk, hl⟩
                  rw [← HS'.out] at hm
                  have HM3 := Lib.hid (And.intro (HS1.out.act hm hk hl HMO.out) (hk.blk HBX.out HNX.out))
                  clear hm hk hl
                  go_wp2_with fail
                  go_meet
                  exact HM3.out
                · rw [if_neg h4] at hS'
                  have q0 : (wh == 0) = false := by simpa using h0
                  have q1 : (wh == 1) = false := by simp; omega
                  have q2 : (wh == 2) = false := by simp; omega
                  have q3 : (wh == 3) = false := by simpa using h3
                  have q4 : (wh == 4) = false := by simpa using h4
                  clear h0 h12 h3 h4 HS'
                  subst hS'
                  go_wp2_with fail
                  go_meet
                  exact ⟨HS1.out, HBX.out⟩
        case rest =>
          obtain ⟨hst, hbx⟩ := hcut
          have HS2 := Lib.hid hst
          have HBX := Lib.hid hbx
          clear HS' HS1 HLL HST hst hbx
          have hlp := HMO.out.list
          have hd : decide (S'.list.take S.list.length = S.list) = true := by rw [hlp]; simp
          have hll : S.list.length ≤ S'.list.length := by
            have := congrArg List.length hlp
            rw [List.length_take] at this
            omega
          obtain ⟨oa, oc, rfl, -, -⟩ := HS2.out.lst.rd.open_
          have HLST := Lib.hid HS2.out.lst.rd
          have HLL := Lib.hid hll
          have HD := Lib.hid hd
          clear hlp hd hll
          go_wp2_with fail
          refine (list_any _ bm bl bi S' HS2.out.md).mono ?_
          rintro e w2 ⟨u, rfl, ho, hb⟩
          obtain ⟨na, nc, rfl, hnc, -⟩ := ho.rd.open_
          have HS2 := Lib.hid (HS2.out.list ho hb)
          have hcut := ho.rd.take (m := S.list.length) HLL.out
          have hg := guids_any _ _ _ _ w2 hcut (HLST.out.keep hb)
          rw [HD.out] at hg
          have HG := Lib.hid hg
          have HBX := Lib.hid (HBX.out.keep hb)
          have hll := HLL.out
          have k1 : S.list.length ≤ nc := by omega
          have k2 : (S.list.length : Int) ≤ (S'.list.length : Int) := by omega
          have k3 : ¬ ((S'.list.length : Int) < (S.list.length : Int)) := by omega
          clear ho hb hnc hcut hg HD HLL hll HLST
          generalize S'.list.length = nl at *
          go_wp2_with fail
          refine HG.out.mono ?_
          rintro e w3 ⟨rfl, hb⟩
          have HS2 := Lib.hid (HS2.out.keep hb)
          have HBX := Lib.hid (HBX.out.keep hb)
          clear hb HG k1 k2 k3
          have c3 := HBX.out.cell 3
          have c4 := HBX.out.cell 4
          simp at c3 c4
          have him := image_any _ bm bl bi S' gq HS2.out.md WX.out.2.1
          obtain ⟨so, hso⟩ : ∃ z, z = (S'.img gq).isSome := ⟨_, rfl⟩
          rw [← hso] at him
          have HSO := Lib.hid hso
          unfold aggG at him
          have HIM := Lib.hid him
          clear him hso
          go_wp2_with fail
          refine HIM.out.mono ?_
          rintro e w4 ⟨u, rfl, ho, hb⟩
          obtain ⟨ia, ic, rfl, -, -⟩ := ho.rd.open_
          have HO := Lib.hid (ho.mono HS2.out.base)
          have HS2 := Lib.hid (HS2.out.keep hb)
          have HBX := Lib.hid (HBX.out.keep hb)
          clear ho hb HIM c3 c4
          obtain ⟨ln, hln⟩ : ∃ z, z = (S'.image gq).length := ⟨_, rfl⟩
          rw [← hln] at HO
          rw [← hln]
          clear hln
          go_upto_if 97 with fail
          go_cut [4, 5] from 18 to 172 (fun us ui wx => ∃ (gs' : List Gd) (vals' : List Value), gs'.length ≤ j + 1 ∧ vals'.length = gs'.length ∧ StI w wx bm bl bi S' S'.list us ui (.slice na nl nc) gs' vals')
          case first =>
            cases so with
            | false =>
              go_wp2_with fail
              go_meet
              exact ⟨gs, vals, by have := HGS.out.1; omega, HGS.out.2, HS2.out⟩
            | true =>
              have hgs := HGS.out
              have hj := HJ.out
              have HA := Lib.hid (app_guid 29 gq HS2.out.seen WX.out.2.1 (by omega) HS2.out.base)
              have c3 := HBX.out.cell 3
              have c4 := HBX.out.cell 4
              simp at c3 c4
              clear hgs hj
              go_wp2_with (at_builtin; refine wpList_append_run rfl _ _ 29 rfl _ _ rfl rfl _ HA.out ?_)
              refine Later.mk fun _ _ us' w5 ha1 => ?_
              have hgs := HGS.out
              have hj := HJ.out
              have hs4 := HS2.out.keep ((Below.refl _ _).alloc (Nat.le_refl _) (Obj.cells #[.int .u64 gq.1, .int .u64 gq.2] 34))
              have h5 := hs4.see ha1
              have hu := (hs4.see_own ha1 (HO.out.keep ((Below.refl _ _).alloc (Nat.le_refl _) _))).keep ((Below.refl _ _).alloc (Nat.le_refl _) (Obj.cells #[.slice ia ln ic] 42))
              have HA2 := Lib.hid (app_row (a := ia) (l := ln) (c := ic) 49 h5.row (by omega) h5.base)
              have HS5 := Lib.hid (h5.keep ((Below.refl _ _).alloc (Nat.le_refl _) (Obj.cells #[.slice ia ln ic] 42)))
              have HU := Lib.hid hu
              clear hgs hj ha1 hs4 h5 hu c3 c4 HA
              go_wp2_with (at_builtin; refine wpList_append_run rfl _ _ 49 rfl _ _ rfl rfl _ HA2.out ?_)
              refine Later.mk fun _ _ ui' w6 ha2 ha3 => ?_
              have hgs := HGS.out
              have eg : (gs ++ [gq]).getD vals.length (0, 0) = gq := by rw [hgs.2]; simp
              have HS7 := Lib.hid (HS5.out.add (by rw [hgs.2]; simp) (by rw [eg]; exact HU.out) (by rw [eg]; exact HSO.out.symm) ⟨ha2, ha3⟩)
              clear hgs eg ha2 ha3 HA2
              go_wp2_with fail
              go_meet
              exact ⟨gs ++ [gq], vals ++ [_], by have := HGS.out.1; simp; omega, by have := HGS.out.2; simp; omega, HS7.out⟩
          case rest =>
            obtain ⟨gs', vals', hg1, hg2, hst⟩ := hcut
            have HS3 := Lib.hid hst
            have HG1 := Lib.hid hg1
            have HG2 := Lib.hid hg2
            clear hst hg1 hg2 HS2 HO HBX HSO
            obtain ⟨sa, sc, rfl, hsc, hse⟩ := HS3.out.seen.rd.open_
            obtain ⟨ra, rc, rfl, hre⟩ := row_open HS3.out.row
            rw [HG2.out] at hre
            rw [HG2.out]
            have HSE := Lib.hid hse
            have HRE := Lib.hid hre
            have HEA := Lib.hid (fun q (hq : q < gs'.length) => HS3.out.each q (by rw [HG2.out]; exact hq))
            obtain ⟨ng, hng⟩ : ∃ z, z = gs'.length := ⟨_, rfl⟩
            rw [← hng] at HSE HRE HEA HG1
            rw [← hng]
            have HNG := Lib.hid hng
            clear hse hre hsc hng
            go_wp2_with fail
            go_loopg [12] ng (fun gk i wr => ∃ q : Nat, gk = ng - q ∧ q ≤ ng ∧ i = .int .i64 q ∧ Below wc.heap.size wc wr)
            case atStart => exact ⟨0, rfl, by omega, rfl, Below.refl _ _⟩
            case round =>
              obtain ⟨q, hgq, hqn, rfl, hb⟩ := hrel
              have HB := Lib.hid hb
              have HGQ := Lib.hid hgq
              clear hb hgq
              have k80 := HG1.out
              by_cases h1 : q < ng
              · obtain ⟨gz, hgz⟩ : ∃ z, z = gs'.getD q (0, 0) := ⟨_, rfl⟩
                obtain ⟨gse, ose, rfl, d1, d2⟩ := HSE.out q h1
                obtain ⟨gre, rfl, d3⟩ := HRE.out q h1
                obtain ⟨hov, hsome⟩ := HEA.out q h1
                have hwz := HS3.out.seen.rd.wf q
                rw [← hgz] at d1 d2 hov hsome hwz
                have hl3 := image_len HS3.out.n3 hsome
                obtain ⟨gb, cb, hvb, hcb, hzb⟩ := hov.three hl3
                rw [hvb] at d3
                have f0 := hzb 0 (by omega)
                have f1 := hzb 1 (by omega)
                have f2 := hzb 2 (by omega)
                have hst := HS3.out.keep HB.out
                have him := image_any _ bm bl bi S' gz hst.md hwz
                rw [hsome] at him
                obtain ⟨z0, hz0⟩ : ∃ z, z = (S'.image gz).getD 0 ByteArray.empty := ⟨_, rfl⟩
                obtain ⟨z1, hz1⟩ : ∃ z, z = (S'.image gz).getD 1 ByteArray.empty := ⟨_, rfl⟩
                obtain ⟨z2, hz2⟩ : ∃ z, z = (S'.image gz).getD 2 ByteArray.empty := ⟨_, rfl⟩
                rw [← hz0] at f0
                rw [← hz1] at f1
                rw [← hz2] at f2
                have d1 := cell_later HB.out d1
                have d2 := cell_later HB.out d2
                have d3 := cell_later HB.out d3
                have f0 := cell_later HB.out f0
                have f1 := cell_later HB.out f1
                have f2 := cell_later HB.out f2
                unfold aggG at him
                have HIM := Lib.hid him
                have HL3 := Lib.hid hl3
                have HZ := Lib.hid (And.intro hz0 (And.intro hz1 hz2))
                have HF := Lib.hid (And.intro d3 (And.intro f0 (And.intro f1 f2)))
                have HQ := Lib.hid h1
                have i3 : (q : Int) < (ng : Int) := by omega
                clear him hl3 hz0 hz1 hz2 hgz hov hsome hwz hvb hzb hst d3 f0 f1 f2 h1 k80
                go_wp2_with fail
                refine HIM.out.mono ?_
                rintro e w7 ⟨u, rfl, ho, hb⟩
                obtain ⟨gi, ci, rfl, hci, hzi⟩ := ho.three HL3.out
                have g0 := hzi 0 (by omega)
                have g1 := hzi 1 (by omega)
                have g2 := hzi 2 (by omega)
                rw [← HZ.out.1] at g0
                rw [← HZ.out.2.1] at g1
                rw [← HZ.out.2.2] at g2
                have d3 := cell_later hb HF.out.1
                have f0 := cell_later hb HF.out.2.1
                have f1 := cell_later hb HF.out.2.2.1
                have f2 := cell_later hb HF.out.2.2.2
                have HB := Lib.hid (HB.out.trans (hb.mono HB.out.size))
                clear hb ho hzi d1 d2 HIM HL3 HZ HF
                have e0 : ∀ y : Bw w7, y.w.cell? ⟨gi, 0, none⟩ = some (.string z0) := fun y => y.cell g0
                have e1 : ∀ y : Bw w7, y.w.cell? ⟨gi, 1, none⟩ = some (.string z1) := fun y => y.cell g1
                have e2 : ∀ y : Bw w7, y.w.cell? ⟨gi, 2, none⟩ = some (.string z2) := fun y => y.cell g2
                have e3 : ∀ y : Bw w7, y.w.cell? ⟨gb, 0, none⟩ = some (.string z0) := fun y => y.cell f0
                have e4 : ∀ y : Bw w7, y.w.cell? ⟨gb, 1, none⟩ = some (.string z1) := fun y => y.cell f1
                have e5 : ∀ y : Bw w7, y.w.cell? ⟨gb, 2, none⟩ = some (.string z2) := fun y => y.cell f2
                have e6 : ∀ y : Bw w7, y.w.cell? ⟨gre, q, none⟩ = some (.slice (some ⟨gb, 0, none⟩) 3 cb) := fun y => y.cell d3
                clear g0 g1 g2 f0 f1 f2 d3
                go_wp2_with fail
                refine wp_region_below (by kernel_rfl) (by kernel_rfl) ?_
                repeat (go_big_quiet_step (fail))
                refine wpQuiet_nil ?_
                intro w8 hb8
                have HB := Lib.hid (HB.out.trans (hb8.mono HB.out.size))
                clear hb8 e0 e1 e2 e3 e4 e5 e6
                have q9 : (q : Int) < 81 := by have := HG1.out; have := HJ.out; have := HQ.out; omega
                go_wp2_with fail
                have hgq := HGQ.out
                have hq := HQ.out
                go_roundg (ng - (q + 1))
                case measure => omega
                case rel => exact ⟨q + 1, rfl, by omega, by go_num, HB.out⟩
              · have hq : q = ng := by omega
                subst hq
                clear h1 hqn k80
                go_wp2_with fail
                have hgk := HGK.out
                have hj := HJ.out
                have hs := HS3.out.keep HB.out
                rw [HG2.out, ← HNG.out] at hs
                go_roundg (80 - (j + 1))
                case measure => omega
                case rel => exact ⟨j + 1, S', gs', vals', rfl, by omega, by go_num, by have := HG1.out; have := HNG.out; omega, HG2.out, hs⟩
      · have i1 : (j : Int) < (n : Int) := by omega
        have i2 : ¬ ((j : Int) < 80) := by omega
        have d2 : decide ((j : Int) < 80) = false := decide_eq_false i2
        clear h1 h2
        go_wp2_with fail
        refine (works_any _).mono ?_
        rintro e y9 ⟨rfl, hb⟩
        have HB9 := Lib.hid (HST.out.below.trans (hb.mono HST.out.base))
        clear hb
        go_wp2
        go_ret
        exact ⟨rfl, HB9.out⟩
    · have i1 : ¬ ((j : Int) < (n : Int)) := by omega
      have d1 : decide ((j : Int) < (n : Int)) = false := decide_eq_false i1
      clear h1
      go_wp2_with fail
      refine (works_any _).mono ?_
      rintro e y9 ⟨rfl, hb⟩
      have HB9 := Lib.hid (HST.out.below.trans (hb.mono HST.out.base))
      clear hb
      go_wp2
      go_ret
      exact ⟨rfl, HB9.out⟩
end Go.Proofs.Ytfeinafbimpjnaa
