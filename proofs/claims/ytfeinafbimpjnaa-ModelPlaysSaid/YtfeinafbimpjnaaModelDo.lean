/-
  A MODEL: one act, by the closure of ModelApart (printed by wip/gen-modeldo.py).
-/
import Derived.Test.YtfeinafbimpjnaaModel8
import Derived.Test.YtfeinafbimpjnaaModelOpen
namespace Go.Proofs.Ytfeinafbimpjnaa
open Go.RowKit Reg Go.WideShapes Go.ChangeShapes

theorem Md.apart {w : World} {bm bl bi : Nat} {S : Mdl} (h : Md w bm bl bi S) {g : Nat} {t : TypeId} {cs : Array Value} (hb : Blk w g t cs) (ht : t ≠ 59) : ¬ fp bm bl bi g := by
  rintro (rfl | rfl | rfl)
  · obtain ⟨sl, h1, _⟩ := h.obj
    unfold Blk at h1 hb
    rw [h1] at hb
    simp only [Option.some.injEq, Obj.cells.injEq] at hb
    exact ht hb.2.1.symm
  · exact h.not_l hb
  · exact h.not_i hb
/-- no block of a model is a list of guids -/
theorem Md.typed {w : World} {bm bl bi : Nat} {S : Mdl} (h : Md w bm bl bi S) (g : Nat) (t : TypeId) (cs : Array Value) (hg : fp bm bl bi g) (hc : w.heap[g]? = some (.cells cs t (0, 0))) : t = 59 := by
  rcases hg with rfl | rfl | rfl
  · obtain ⟨sl, h1, _⟩ := h.obj
    unfold Blk at h1
    rw [h1] at hc
    simp only [Option.some.injEq, Obj.cells.injEq] at hc
    exact hc.2.1.symm
  · exact (h.not_l hc).elim
  · exact (h.not_i hc).elim
/-- another model stays -/
theorem Md.other {w w' : World} {bm bl bi cm cl ci : Nat} {S S' : Mdl} (h : Md w bm bl bi S) (h' : Md w cm cl ci S') (hk : Kp (fp cm cl ci) w w') (hd : ∀ g, fp cm cl ci g → ¬ fp bm bl bi g) : Md w' bm bl bi S := by
  obtain ⟨sl, h1, h2⟩ := h.obj
  obtain ⟨F, h3, h4⟩ := h.live
  obtain ⟨G, h5, h6⟩ := h.img
  refine ⟨h.n, ⟨sl, hk.blk h1 fun e => hd _ e (.inl rfl), hk.own h2 fun g t cs hg hc => ?_⟩, ⟨F, h3.of_heap (hk.2 _ h3.lt fun e => hd _ e (.inr (.inl rfl))), h4⟩, ⟨G, h5.of_heap (hk.2 _ h5.lt fun e => hd _ e (.inr (.inr rfl))), h6⟩, h.ne, h.wl, h.wi, h.len⟩
  rw [h'.typed g t cs hg hc]
  decide
/-- a region whose special operation k turns the blocks A alone -/
structure UA (w6 : World) (A : Nat → Prop) (k : Nat) (M0 M1 : World → Prop) (σ : Nat → Option Value) (w : World) : Prop where
  kp : Kp A w6 w
  m0 : σ k = none → M0 w
  m1 : σ k ≠ none → M1 w
theorem UA.start {w6 : World} {A : Nat → Prop} {k : Nat} {M0 M1 : World → Prop} (h : M0 w6.drew) : UA w6 A k M0 M1 (fun _ => none) w6.drew := ⟨.of_below (Below.refl _ _).drew, fun _ => h, fun h => absurd rfl h⟩
theorem UA.put {w6 w w' : World} {A : Nat → Prop} {k : Nat} {M0 M1 : World → Prop} {σ : Nat → Option Value} {u : Value} (h : UA w6 A k M0 M1 σ w) (hk : Kp A w w') (hm : M1 w') : UA w6 A k M0 M1 (upd σ k u) w' :=
  ⟨h.kp.trans hk, (fun e => by rw [upd_same] at e; cases e), fun _ => hm⟩
theorem UA.more {w6 w w' : World} {A : Nat → Prop} {k j : Nat} {M0 M1 : World → Prop} {σ : Nat → Option Value} {u : Value} (h : UA w6 A k M0 M1 σ w) (hj : k ≠ j) (hb : Below w.heap.size w w') (h0 : M0 w → M0 w') (h1 : M1 w → M1 w') : UA w6 A k M0 M1 (upd σ j u) w' :=
  ⟨h.kp.trans (.of_below hb), (fun e => by rw [upd_other _ _ hj] at e; exact h0 (h.m0 e)), fun e => by rw [upd_other _ _ hj] at e; exact h1 (h.m1 e)⟩
def Mdl.do_ (S : Mdl) (x : Ac) (e : Int) : Mdl :=
  if x.what = 0 then S.begin e (0, 0) else if x.what = 1 ∨ x.what = 2 then S.write e x.block (letS x.letter x.short) else if x.what = 3 then S.snap (e, x.g.2.tmod 4) else S.commit (x.l.take (min x.l.length 10))
def aggA (x : Ac) (sl : Value) : Value := .agg #[.int .i64 x.what, .int .i64 x.block, .int .u64 x.epoch, .int .u64 x.g.1, .int .u64 x.g.2, .int .u8 x.letter, .bool x.short, sl]
theorem wf_rem {c : Int} (h : (Lit.int .u64 c).wf = true) : (Lit.int .u64 (c.tmod 4)).wf = true := by
  simp [Lit.wf] at h ⊢
  have e1 : IntKind.u64.min = 0 := by decide
  have e2 : IntKind.u64.max = 18446744073709551615 := by decide
  rw [e1, e2] at h ⊢
  have h3 : c.tmod 4 = c % 4 := Int.tmod_eq_emod_of_nonneg (by omega)
  rw [h3]
  omega
set_option maxRecDepth 100000 in
set_option maxHeartbeats 400000 in
theorem do_any (w : World) (bm bl bi : Nat) (S : Mdl) (x : Ac) (sl : Value) (e : Int) (h : Md w bm bl bi S) (he : (Lit.int .u64 e).wf = true) (hl : InG w sl x.l) (hg : wfG x.g) :
    Calls Try.prog 26 #[.pointer (some ⟨bm, 0, none⟩), aggA x sl, .int .u64 e] w fun e' w' => e' = .returned (.tuple #[]) ∧ Md w' bm bl bi (S.do_ x e) ∧ Kp (fp bm bl bi) w w' := by
  obtain ⟨S', hS'⟩ : ∃ S', S' = S.do_ x e := ⟨_, rfl⟩
  rw [← hS']
  unfold Mdl.do_ at hS'
  unfold aggA
  obtain ⟨wh, xb, xe, gq, xl, xs, ls⟩ := x
  simp only at hS' hl hg ⊢
  obtain ⟨la, lc, rfl, hlc, -⟩ := hl.open_
  have hb0 := (Below.refl w.heap.size w).alloc (Nat.le_refl _) (Obj.cells #[.int .i64 wh, .int .i64 xb, .int .u64 xe, .int .u64 gq.1, .int .u64 gq.2, .int .u8 xl, .bool xs, .slice la ls.length lc] 36)
  have bx := Blk.new w 36 #[.int .i64 wh, .int .i64 xb, .int .u64 xe, .int .u64 gq.1, .int .u64 gq.2, .int .u8 xl, .bool xs, .slice la ls.length lc]
  have hm1 := h.keep hb0
  have hl1 := hl.keep hb0
  have HNX := Lib.hid (hm1.apart bx (by decide))
  have HM := Lib.hid hm1
  have HB := Lib.hid hb0
  have HBX := Lib.hid bx
  have HLL := Lib.hid hl1
  have HWE := Lib.hid he
  have HWR := Lib.hid (wf_rem hg.2)
  clear hm1 hb0 bx hl1 h hl he hg
  by_cases h0 : wh = 0
  · subst h0
    rw [if_pos rfl] at hS'
    subst hS'
    go_enter Try.func26, Try.ntmps26
    go_wp2_with fail
    generalize w.alloc (Obj.cells #[.int .i64 0, .int .i64 xb, .int .u64 xe, .int .u64 gq.1, .int .u64 gq.2, .int .u8 xl, .bool xs, .slice la ls.length lc] 36) = w1 at *
    refine (guid_any 0 0 _).mono ?_
    rintro e' w2 ⟨rfl, hb⟩
    have HM := Lib.hid (HM.out.keep hb)
    have HB := Lib.hid (HB.out.trans (hb.mono HB.out.size))
    clear hb
    go_wp2_with fail
    refine (begin_any _ bm bl bi S e (0, 0) HM.out HWE.out (by decide)).mono ?_
    rintro e' w3 ⟨rfl, hm, hk⟩
    have HM3 := Lib.hid hm
    have HK3 := Lib.hid ((Kp.of_below HB.out).trans hk)
    clear hm hk
    go_wp2
    go_end0
    exact ⟨rfl, HM3.out, HK3.out⟩
  · rw [if_neg h0] at hS'
    by_cases h12 : wh = 1 ∨ wh = 2
    · rw [if_pos h12] at hS'
      subst hS'
      rcases h12 with rfl | rfl
      · clear h0
        go_enter Try.func26, Try.ntmps26
        go_wp2_with fail
        generalize w.alloc (Obj.cells #[.int .i64 1, .int .i64 xb, .int .u64 xe, .int .u64 gq.1, .int .u64 gq.2, .int .u8 xl, .bool xs, .slice la ls.length lc] 36) = w1 at *
        refine wp_region_spec (fun i => i == 8 || i == 9) (kinds [(8, .is (.string (letS xl xs))), (9, .is (.tuple #[]))]) (UA w1 (fp bm bl bi) 9 (fun w => Md w bm bl bi S) (fun w => Md w bm bl bi (S.write e xb (letS xl xs)))) (by kernel_rfl) (by kernel_rfl) (kinds_inh _) (UA.start HM.out.drew) ?_
        intro ν hν
        have n8 : ν 8 = .string (letS xl xs) := hν 8
        have n9 : ν 9 = .tuple #[] := hν 9
        clear hν
        refine lex_plain (by rfl) rfl ?_
        apply Exists.intro
        refine ⟨fun σ w2 hA hD hC => ?_, ?_⟩
        · clear hA hD hC
          go_simp
          exact And.intro rfl rfl
        simp only [Act.put, List.setIfInBounds_toArray, List.set_cons_succ, List.set_cons_zero, Nat.reduceAdd]
        refine lex_plain (by rfl) rfl ?_
        apply Exists.intro
        refine ⟨fun σ w2 hA hD hC => ?_, ?_⟩
        · clear hA hD hC
          go_simp
          exact And.intro rfl rfl
        simp only [Act.put, List.setIfInBounds_toArray, List.set_cons_succ, List.set_cons_zero, Nat.reduceAdd]
        refine lex_plain (by rfl) rfl ?_
        apply Exists.intro
        refine ⟨fun σ w2 hA hD hC => ?_, ?_⟩
        · clear hA hD hC
          go_simp
          exact And.intro rfl rfl
        simp only [Act.put, List.setIfInBounds_toArray, List.set_cons_succ, List.set_cons_zero, Nat.reduceAdd]
        refine lex_plain (by rfl) rfl ?_
        apply Exists.intro
        refine ⟨fun σ w2 hA hD hC => ?_, ?_⟩
        · have hx := (hC.kp.blk HBX.out HNX.out).cell 1
          simp at hx
          clear hA hD hC
          go_simp
          exact And.intro rfl rfl
        simp only [Act.put, List.setIfInBounds_toArray, List.set_cons_succ, List.set_cons_zero, Nat.reduceAdd]
        refine lex_plain (by rfl) rfl ?_
        apply Exists.intro
        refine ⟨fun σ w2 hA hD hC => ?_, ?_⟩
        · clear hA hD hC
          go_simp
          exact And.intro rfl rfl
        simp only [Act.put, List.setIfInBounds_toArray, List.set_cons_succ, List.set_cons_zero, Nat.reduceAdd]
        refine lex_plain (by rfl) rfl ?_
        apply Exists.intro
        refine ⟨fun σ w2 hA hD hC => ?_, ?_⟩
        · have hx := (hC.kp.blk HBX.out HNX.out).cell 5
          simp at hx
          clear hA hD hC
          go_simp
          exact And.intro rfl rfl
        simp only [Act.put, List.setIfInBounds_toArray, List.set_cons_succ, List.set_cons_zero, Nat.reduceAdd]
        refine lex_plain (by rfl) rfl ?_
        apply Exists.intro
        refine ⟨fun σ w2 hA hD hC => ?_, ?_⟩
        · clear hA hD hC
          go_simp
          exact And.intro rfl rfl
        simp only [Act.put, List.setIfInBounds_toArray, List.set_cons_succ, List.set_cons_zero, Nat.reduceAdd]
        refine lex_plain (by rfl) rfl ?_
        apply Exists.intro
        refine ⟨fun σ w2 hA hD hC => ?_, ?_⟩
        · have hx := (hC.kp.blk HBX.out HNX.out).cell 6
          simp at hx
          clear hA hD hC
          go_simp
          exact And.intro rfl rfl
        simp only [Act.put, List.setIfInBounds_toArray, List.set_cons_succ, List.set_cons_zero, Nat.reduceAdd]
        refine lex_special (by rfl) rfl (fun σ w2 hA hD hn hC => ?_) ?_
        · go_simp
          refine (letters_any xl xs w2).mono ?_
          rintro e' w' ⟨rfl, hb⟩
          exact ⟨_, rfl, rfl, hC.more (by decide) hb (fun h => h.keep hb) (fun h => h.keep hb)⟩
        rw [n8]
        simp only [Act.put, List.setIfInBounds_toArray, List.set_cons_succ, List.set_cons_zero, Nat.reduceAdd]
        refine lex_special (by rfl) rfl (fun σ w2 hA hD hn hC => ?_) ?_
        · go_simp
          refine (write_any w2 bm bl bi S e xb (letS xl xs) (hC.m0 hn) HWE.out (letS_size _ _)).mono ?_
          rintro e' w' ⟨rfl, hm, hk⟩
          exact ⟨_, rfl, rfl, hC.put hk hm⟩
        rw [n9]
        simp only [Act.put, List.setIfInBounds_toArray, List.set_cons_succ, List.set_cons_zero, Nat.reduceAdd]
        refine lex_nil (fun σ w9 hA hall hC => ?_)
        have s9 := hall 9 rfl (by decide)
        have hm9 := Lib.hid (hC.m1 (by rw [s9]; simp))
        have hk9 := Lib.hid ((Kp.of_below HB.out).trans hC.kp)
        clear hA hall hC s9 n8 n9
        go_wp2
        go_end0
        exact ⟨rfl, hm9.out, hk9.out⟩
      · clear h0
        go_enter Try.func26, Try.ntmps26
        go_wp2_with fail
        generalize w.alloc (Obj.cells #[.int .i64 2, .int .i64 xb, .int .u64 xe, .int .u64 gq.1, .int .u64 gq.2, .int .u8 xl, .bool xs, .slice la ls.length lc] 36) = w1 at *
        refine wp_region_spec (fun i => i == 8 || i == 9) (kinds [(8, .is (.string (letS xl xs))), (9, .is (.tuple #[]))]) (UA w1 (fp bm bl bi) 9 (fun w => Md w bm bl bi S) (fun w => Md w bm bl bi (S.write e xb (letS xl xs)))) (by kernel_rfl) (by kernel_rfl) (kinds_inh _) (UA.start HM.out.drew) ?_
        intro ν hν
        have n8 : ν 8 = .string (letS xl xs) := hν 8
        have n9 : ν 9 = .tuple #[] := hν 9
        clear hν
        refine lex_plain (by rfl) rfl ?_
        apply Exists.intro
        refine ⟨fun σ w2 hA hD hC => ?_, ?_⟩
        · clear hA hD hC
          go_simp
          exact And.intro rfl rfl
        simp only [Act.put, List.setIfInBounds_toArray, List.set_cons_succ, List.set_cons_zero, Nat.reduceAdd]
        refine lex_plain (by rfl) rfl ?_
        apply Exists.intro
        refine ⟨fun σ w2 hA hD hC => ?_, ?_⟩
        · clear hA hD hC
          go_simp
          exact And.intro rfl rfl
        simp only [Act.put, List.setIfInBounds_toArray, List.set_cons_succ, List.set_cons_zero, Nat.reduceAdd]
        refine lex_plain (by rfl) rfl ?_
        apply Exists.intro
        refine ⟨fun σ w2 hA hD hC => ?_, ?_⟩
        · clear hA hD hC
          go_simp
          exact And.intro rfl rfl
        simp only [Act.put, List.setIfInBounds_toArray, List.set_cons_succ, List.set_cons_zero, Nat.reduceAdd]
        refine lex_plain (by rfl) rfl ?_
        apply Exists.intro
        refine ⟨fun σ w2 hA hD hC => ?_, ?_⟩
        · have hx := (hC.kp.blk HBX.out HNX.out).cell 1
          simp at hx
          clear hA hD hC
          go_simp
          exact And.intro rfl rfl
        simp only [Act.put, List.setIfInBounds_toArray, List.set_cons_succ, List.set_cons_zero, Nat.reduceAdd]
        refine lex_plain (by rfl) rfl ?_
        apply Exists.intro
        refine ⟨fun σ w2 hA hD hC => ?_, ?_⟩
        · clear hA hD hC
          go_simp
          exact And.intro rfl rfl
        simp only [Act.put, List.setIfInBounds_toArray, List.set_cons_succ, List.set_cons_zero, Nat.reduceAdd]
        refine lex_plain (by rfl) rfl ?_
        apply Exists.intro
        refine ⟨fun σ w2 hA hD hC => ?_, ?_⟩
        · have hx := (hC.kp.blk HBX.out HNX.out).cell 5
          simp at hx
          clear hA hD hC
          go_simp
          exact And.intro rfl rfl
        simp only [Act.put, List.setIfInBounds_toArray, List.set_cons_succ, List.set_cons_zero, Nat.reduceAdd]
        refine lex_plain (by rfl) rfl ?_
        apply Exists.intro
        refine ⟨fun σ w2 hA hD hC => ?_, ?_⟩
        · clear hA hD hC
          go_simp
          exact And.intro rfl rfl
        simp only [Act.put, List.setIfInBounds_toArray, List.set_cons_succ, List.set_cons_zero, Nat.reduceAdd]
        refine lex_plain (by rfl) rfl ?_
        apply Exists.intro
        refine ⟨fun σ w2 hA hD hC => ?_, ?_⟩
        · have hx := (hC.kp.blk HBX.out HNX.out).cell 6
          simp at hx
          clear hA hD hC
          go_simp
          exact And.intro rfl rfl
        simp only [Act.put, List.setIfInBounds_toArray, List.set_cons_succ, List.set_cons_zero, Nat.reduceAdd]
        refine lex_special (by rfl) rfl (fun σ w2 hA hD hn hC => ?_) ?_
        · go_simp
          refine (letters_any xl xs w2).mono ?_
          rintro e' w' ⟨rfl, hb⟩
          exact ⟨_, rfl, rfl, hC.more (by decide) hb (fun h => h.keep hb) (fun h => h.keep hb)⟩
        rw [n8]
        simp only [Act.put, List.setIfInBounds_toArray, List.set_cons_succ, List.set_cons_zero, Nat.reduceAdd]
        refine lex_special (by rfl) rfl (fun σ w2 hA hD hn hC => ?_) ?_
        · go_simp
          refine (write_any w2 bm bl bi S e xb (letS xl xs) (hC.m0 hn) HWE.out (letS_size _ _)).mono ?_
          rintro e' w' ⟨rfl, hm, hk⟩
          exact ⟨_, rfl, rfl, hC.put hk hm⟩
        rw [n9]
        simp only [Act.put, List.setIfInBounds_toArray, List.set_cons_succ, List.set_cons_zero, Nat.reduceAdd]
        refine lex_nil (fun σ w9 hA hall hC => ?_)
        have s9 := hall 9 rfl (by decide)
        have hm9 := Lib.hid (hC.m1 (by rw [s9]; simp))
        have hk9 := Lib.hid ((Kp.of_below HB.out).trans hC.kp)
        clear hA hall hC s9 n8 n9
        go_wp2
        go_end0
        exact ⟨rfl, hm9.out, hk9.out⟩
    · rw [if_neg h12] at hS'
      by_cases h3 : wh = 3
      · subst h3
        rw [if_pos rfl] at hS'
        subst hS'
        clear h0 h12
        go_enter Try.func26, Try.ntmps26
        go_wp2_with fail
        generalize w.alloc (Obj.cells #[.int .i64 3, .int .i64 xb, .int .u64 xe, .int .u64 gq.1, .int .u64 gq.2, .int .u8 xl, .bool xs, .slice la ls.length lc] 36) = w1 at *
        refine (guid_any e (gq.2.tmod 4) _).mono ?_
        rintro e' w2 ⟨rfl, hb⟩
        have HM := Lib.hid (HM.out.keep hb)
        have HB := Lib.hid (HB.out.trans (hb.mono HB.out.size))
        clear hb
        go_wp2_with fail
        refine (snap_any _ bm bl bi S (e, gq.2.tmod 4) HM.out ⟨HWE.out, HWR.out⟩).mono ?_
        rintro e' w3 ⟨rfl, hm, hk⟩
        have HM3 := Lib.hid hm
        have HK3 := Lib.hid ((Kp.of_below HB.out).trans hk)
        clear hm hk
        go_wp2
        go_end0
        exact ⟨rfl, HM3.out, HK3.out⟩
      · rw [if_neg h3] at hS'
        subst hS'
        have q0 : (wh == 0) = false := by simpa using h0
        have q1 : (wh == 1) = false := by simp; omega
        have q2 : (wh == 2) = false := by simp; omega
        have q3 : (wh == 3) = false := by simpa using h3
        clear h0 h12 h3
        rcases Nat.lt_or_ge 10 ls.length with hq | hq
        focus
          have hmin : min ls.length 10 = 10 := by omega
          rw [hmin]
          have i1 : (10 : Int) < (ls.length : Int) := by omega
          have HMN := Lib.hid (show (min (ls.length : Int) 10).toNat = 10 by omega)
          have i2 : 10 ≤ lc := by omega
          have hcut := HLL.out.take (m := 10) (by omega)
          have hc20 : (ls.take 10).length ≤ 2 ^ 20 := by rw [List.length_take]; omega
          generalize ls.take 10 = lcut at *
        rotate_left
        focus
          have hmin : min ls.length 10 = ls.length := by omega
          rw [hmin]
          have i1 : (ls.length : Int) ≤ 10 := by omega
          have HMN := Lib.hid (show (min (ls.length : Int) 10).toNat = ls.length by omega)
          have i2 : ls.length ≤ lc := by omega
          have hcut := HLL.out.take (m := ls.length) (Nat.le_refl _)
          have hc20 : (ls.take ls.length).length ≤ 2 ^ 20 := by rw [List.length_take]; omega
          generalize ls.take ls.length = lcut at *
        rotate_left
        all_goals
          have HCUT := Lib.hid hcut
          have HC20 := Lib.hid hc20
          clear hcut hc20 hmin hq hlc
          go_enter Try.func26, Try.ntmps26
          go_wp2_with fail
          generalize w.alloc (Obj.cells #[.int .i64 wh, .int .i64 xb, .int .u64 xe, .int .u64 gq.1, .int .u64 gq.2, .int .u8 xl, .bool xs, .slice la ls.length lc] 36) = w1 at *
          rw [HMN.out]
          refine (commit_any _ lcut _ bm bl bi S HM.out HCUT.out HC20.out).mono ?_
          rintro e' w3 ⟨rfl, hm, hk⟩
          have HM3 := Lib.hid hm
          have HK3 := Lib.hid ((Kp.of_below HB.out).trans hk)
          clear hm hk HCUT HC20
          go_wp2
          go_end0
          exact ⟨rfl, HM3.out, HK3.out⟩
end Go.Proofs.Ytfeinafbimpjnaa
