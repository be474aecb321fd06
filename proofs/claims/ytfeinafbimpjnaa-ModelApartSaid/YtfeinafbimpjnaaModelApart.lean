/-
  ModelApart, WALKED (printed by wip/gen-modelapart.py).
-/
import Derived.Test.YtfeinafbimpjnaaModelDo
namespace Go.Proofs.Ytfeinafbimpjnaa
open Go.RowKit Reg Go.WideShapes Go.ChangeShapes

theorem commit_same (S : Mdl) (l : List Gd) : (S.commit l).n = S.n ∧ (S.commit l).live = S.live ∧ (S.commit l).img = S.img := by
  unfold Mdl.commit
  split
  · exact ⟨rfl, rfl, rfl⟩
  · split
    · exact ⟨rfl, rfl, rfl⟩
    · exact ⟨rfl, rfl, rfl⟩
/-- two models say the same of an epoch -/
def Ag (e : Int) (S T : Mdl) : Prop := S.n = T.n ∧ S.live e = T.live e ∧ (∀ c, S.img (e, c) = T.img (e, c)) ∧ S.img (0, 0) = none ∧ T.img (0, 0) = none
theorem begin_same (S : Mdl) (e : Int) (g : Gd) : (S.begin e g).n = S.n ∧ (∀ e', e' ≠ e → (S.begin e g).live e' = S.live e') ∧ (S.begin e g).img = S.img := by
  unfold Mdl.begin
  split
  · exact ⟨rfl, fun _ _ => rfl, rfl⟩
  · exact ⟨rfl, fun e' h => up_other S.live _ h, rfl⟩
theorem write_same (S : Mdl) (e b : Int) (d : ByteArray) : (S.write e b d).n = S.n ∧ (∀ e', e' ≠ e → (S.write e b d).live e' = S.live e') ∧ (S.write e b d).img = S.img := by
  unfold Mdl.write
  split
  · cases S.live e with
    | none => exact ⟨rfl, fun _ _ => rfl, rfl⟩
    | some v => exact ⟨rfl, fun e' h => up_other S.live _ h, rfl⟩
  · exact ⟨rfl, fun _ _ => rfl, rfl⟩
theorem snap_same (S : Mdl) (g : Gd) : (S.snap g).n = S.n ∧ (S.snap g).live = S.live ∧ ∀ g', g' ≠ g → (S.snap g).img g' = S.img g' := by
  unfold Mdl.snap
  cases S.live g.1 with
  | none => exact ⟨rfl, rfl, fun _ _ => rfl⟩
  | some v =>
    cases S.img g with
    | none => exact ⟨rfl, rfl, fun g' h => up_other S.img _ h⟩
    | some v' => exact ⟨rfl, rfl, fun _ _ => rfl⟩
theorem do_same (S : Mdl) (x : Ac) (e : Int) : (S.do_ x e).n = S.n ∧ (∀ e', e' ≠ e → (S.do_ x e).live e' = S.live e') ∧ ∀ g', g'.1 ≠ e → (S.do_ x e).img g' = S.img g' := by
  unfold Mdl.do_
  split
  · have h := begin_same S e (0, 0)
    exact ⟨h.1, h.2.1, fun g' _ => by rw [h.2.2]⟩
  · split
    · have h := write_same S e x.block (letS x.letter x.short)
      exact ⟨h.1, h.2.1, fun g' _ => by rw [h.2.2]⟩
    · split
      · have h := snap_same S (e, x.g.2.tmod 4)
        exact ⟨h.1, fun e' _ => by rw [h.2.1], fun g' hg => h.2.2 g' fun e1 => hg (by rw [e1])⟩
      · have h := commit_same S (x.l.take (min x.l.length 10))
        exact ⟨h.1, fun e' _ => by rw [h.2.1], fun g' _ => by rw [h.2.2]⟩
theorem Ag.other {e e' : Int} {S T : Mdl} (h : Ag e S T) (x : Ac) (he : e ≠ e') (h0 : e' ≠ 0) : Ag e (S.do_ x e') T := by
  have hd := do_same S x e'
  exact ⟨hd.1.trans h.1, (hd.2.1 e he).trans h.2.1, fun c => (hd.2.2 (e, c) he).trans (h.2.2.1 c), (hd.2.2 (0, 0) (fun q => h0 q.symm)).trans h.2.2.2.1, h.2.2.2.2⟩
theorem Ag.step {e : Int} {S T : Mdl} (h : Ag e S T) (x : Ac) (h0 : e ≠ 0) : Ag e (S.do_ x e) (T.do_ x e) := by
  have hd := do_same S x e
  have hd' := do_same T x e
  refine ⟨hd.1.trans (h.1.trans hd'.1.symm), ?_, ?_, (hd.2.2 (0, 0) (fun q => h0 q.symm)).trans h.2.2.2.1, (hd'.2.2 (0, 0) (fun q => h0 q.symm)).trans h.2.2.2.2⟩
  · unfold Mdl.do_
    split
    · unfold Mdl.begin
      rw [h.2.1, h.2.2.2.1, h.2.2.2.2]
      split
      · exact h.2.1
      · exact (up_same S.live e _).trans (up_same T.live e _).symm
    · split
      · unfold Mdl.write
        rw [h.1]
        split
        · have hl := h.2.1
          cases hT : T.live e with
          | none => rw [hT] at hl; simp only [hl]; rw [hT]
          | some v => rw [hT] at hl; simp only [hl]; exact (up_same S.live e _).trans (up_same T.live e _).symm
        · exact h.2.1
      · split
        · rw [(snap_same S _).2.1, (snap_same T _).2.1]
          exact h.2.1
        · rw [(commit_same S _).2.1, (commit_same T _).2.1]
          exact h.2.1
  · intro c
    unfold Mdl.do_
    split
    · rw [(begin_same S _ _).2.2, (begin_same T _ _).2.2]
      exact h.2.2.1 c
    · split
      · rw [(write_same S _ _ _).2.2, (write_same T _ _ _).2.2]
        exact h.2.2.1 c
      · split
        · unfold Mdl.snap
          simp only
          have hl := h.2.1
          have hi := h.2.2.1 (x.g.2.tmod 4)
          rw [hl, hi]
          cases T.live e with
          | none => exact h.2.2.1 c
          | some v =>
            cases T.img (e, x.g.2.tmod 4) with
            | some v' => exact h.2.2.1 c
            | none =>
              show up S.img _ v (e, c) = up T.img _ v (e, c)
              unfold up
              split
              · rfl
              · exact h.2.2.1 c
        · rw [(commit_same S _).2.2, (commit_same T _).2.2]
          exact h.2.2.1 c
/-- what so many acts leave, done alone -/
def runE (e : Int) (xs : List Ac) : Nat → Mdl
  | 0 => Mdl.new 4
  | k + 1 => (runE e xs k).do_ (xs.getD k acs0) e
theorem Ag.new (e : Int) : Ag e (Mdl.new 4) (Mdl.new 4) := ⟨rfl, rfl, fun _ => rfl, rfl, rfl⟩
theorem Md.fp_lt {w : World} {bm bl bi : Nat} {S : Mdl} (h : Md w bm bl bi S) (g : Nat) (hg : fp bm bl bi g) : g < w.heap.size := by
  rcases hg with rfl | rfl | rfl
  · obtain ⟨sl, h1, _⟩ := h.obj
    exact h1.lt
  · obtain ⟨F, h3, _⟩ := h.live
    exact h3.lt
  · obtain ⟨F, h3, _⟩ := h.img
    exact h3.lt
set_option maxRecDepth 100000 in
set_option maxHeartbeats 4000000 in
theorem law_ModelApart (v : Value) (xs : List Ac) (v' : Value) (ys : List Ac) (w : World) (hv : InA w v xs) (_ : True) (hv' : InA w v' ys) (_ : True) :
    Calls Try.prog 7 #[v, v'] w fun e w' => e = .returned (.bool true) ∧ Below w.heap.size w w' := by
  obtain ⟨va, vc, rfl, hvc, hml, hacts⟩ := hv
  obtain ⟨va', vc', rfl, hvc', hml', hacts'⟩ := hv'
  have HACT := Lib.hid hacts
  have HACT' := Lib.hid hacts'
  clear hacts hacts' hml hml'
  generalize xs.length = n at *
  generalize ys.length = n' at *
  go_enter Try.func7, Try.ntmps7
  go_wp2_with fail
  refine (new_any 4 _ (by omega) (by omega)).mono ?_
  rintro e w1 ⟨rfl, hm, hb⟩
  have HB := Lib.hid hb
  obtain ⟨am, ham⟩ : ∃ z, z = w.heap.size + 1 + 1 := ⟨_, rfl⟩
  obtain ⟨al, hal⟩ : ∃ z, z = w.heap.size := ⟨_, rfl⟩
  obtain ⟨ai, hai⟩ : ∃ z, z = w.heap.size + 1 := ⟨_, rfl⟩
  have hge : ∀ b, fp am al ai b → w.heap.size ≤ b := by
    rintro b (rfl | rfl | rfl) <;> omega
  have HGA := Lib.hid hge
  have hm2 : Md w1 am al ai (Mdl.new 4) := by rw [ham, hal, hai]; exact hm
  have hlt := hm2.fp_lt
  have HA := Lib.hid hm2
  rw [← ham]
  clear hm hm2 hb hge ham hal hai
  go_wp2_with fail
  refine (new_any 4 _ (by omega) (by omega)).mono ?_
  rintro e w2 ⟨rfl, hm, hb⟩
  obtain ⟨bm, hbm⟩ : ∃ z, z = w1.heap.size + 1 + 1 := ⟨_, rfl⟩
  obtain ⟨bl, hbl⟩ : ∃ z, z = w1.heap.size := ⟨_, rfl⟩
  obtain ⟨bi, hbi⟩ : ∃ z, z = w1.heap.size + 1 := ⟨_, rfl⟩
  have hge : ∀ b, fp bm bl bi b → w1.heap.size ≤ b := by
    rintro b (rfl | rfl | rfl) <;> omega
  have hdis : ∀ g, fp am al ai g → ¬ fp bm bl bi g := fun g h1 h2 => by
    have q1 := hlt g h1
    have q2 := hge g h2
    omega
  have HGB := Lib.hid (fun b (h : fp bm bl bi b) => Nat.le_trans HB.out.size (hge b h))
  have HD1 := Lib.hid hdis
  have HD2 := Lib.hid (fun g (h1 : fp bm bl bi g) (h2 : fp am al ai g) => hdis g h2 h1)
  have hm2 : Md w2 bm bl bi (Mdl.new 4) := by rw [hbm, hbl, hbi]; exact hm
  have HBB := Lib.hid hm2
  have HA2 := Lib.hid (HA.out.keep hb)
  have HB2 := Lib.hid (HB.out.trans (hb.mono HB.out.size))
  rw [← hbm]
  clear hm hm2 hb hge hbm hbl hbi hlt hdis HA HB
  obtain ⟨n1, hn1⟩ : ∃ z : Nat, min (n : Int) 30 = z := ⟨min n 30, by omega⟩
  obtain ⟨n2, hn2⟩ : ∃ z : Nat, min (n' : Int) 30 = z := ⟨min n' 30, by omega⟩
  have hn1n : n1 ≤ n ∧ n1 ≤ 30 := by omega
  have hn2n : n2 ≤ n' ∧ n2 ≤ 30 := by omega
  have c1 : n1 ≤ vc := by omega
  have c2 : n2 ≤ vc' := by omega
  go_wp2_with fail
  refine wp_region_below (by kernel_rfl) (by kernel_rfl) ?_
  repeat (go_big_quiet_step (fail))
  refine wpQuiet_nil ?_
  intro w3 hb
  have HA3 := Lib.hid (HA2.out.keep hb)
  have HBB3 := Lib.hid (HBB.out.keep hb)
  have HB3 := Lib.hid (HB2.out.trans (hb.mono HB2.out.size))
  clear hb HA2 HBB HB2 hn1 hn2 hvc hvc' c1 c2
  go_wp2_with fail
  go_loopw [8] (fun i wr => ∃ (k : Nat) (Sa : Mdl), k ≤ 30 ∧ i = .int .i64 k ∧ Below w.heap.size w wr ∧ Md wr am al ai Sa ∧ Md wr bm bl bi (Mdl.new 4) ∧ Ag 5 Sa (runE 5 xs (min k n1)) ∧ Ag 6 Sa (runE 6 ys (min k n2))) (fun i _ => 30 - (intOf i).toNat)
  case atStart => exact ⟨0, Mdl.new 4, by omega, rfl, HB3.out, HA3.out, HBB3.out, by rw [Nat.zero_min]; exact Ag.new 5, by rw [Nat.zero_min]; exact Ag.new 6⟩
  case round =>
    obtain ⟨k, Sa, hk3, rfl, hb, hma, hmb, g5, g6⟩ := hrel
    have HBE := Lib.hid hb
    have HA := Lib.hid hma
    have HB := Lib.hid hmb
    have G5 := Lib.hid g5
    have G6 := Lib.hid g6
    clear hb hma hmb g5 g6 HA3 HBB3 HB3
    obtain ⟨nm, hnm⟩ : ∃ z : Nat, max (n1 : Int) (n2 : Int) = z := ⟨max n1 n2, by omega⟩
    have k9 : (k : Int) < 9223372036854775807 := by omega
    by_cases h1 : k < n1
    · have hr5 : runE 5 xs (min (k + 1) n1) = (runE 5 xs (min k n1)).do_ (xs.getD k acs0) 5 := by rw [show min (k + 1) n1 = k + 1 by omega, show min k n1 = k by omega]; rfl
      have i1 : (k : Int) < (n1 : Int) := by omega
      have i3 : (k : Int) < (nm : Int) := by omega
      obtain ⟨x, hx⟩ : ∃ z, z = xs.getD k acs0 := ⟨_, rfl⟩
      obtain ⟨gx, ox, rfl, actx⟩ := HACT.out k (by omega)
      rw [← hx] at actx
      have actx := actx.keep HBE.out
      obtain ⟨slx, a0, a1, a2, a3, a4, a5, a6, a7, alx, -, -, -, agx, -⟩ := actx
      have ALx := Lib.hid alx
      have AGx := Lib.hid agx
      clear alx agx
      rw [← hx] at hr5
      have R5 := Lib.hid hr5
      clear hr5 hx
      by_cases h2 : k < n2
      · have hr6 : runE 6 ys (min (k + 1) n2) = (runE 6 ys (min k n2)).do_ (ys.getD k acs0) 6 := by rw [show min (k + 1) n2 = k + 1 by omega, show min k n2 = k by omega]; rfl
        have i2 : (k : Int) < (n2 : Int) := by omega
        have R6 := Lib.hid hr6
        have H12 := Lib.hid (And.intro h1 h2)
        clear hr6 h1 h2
        go_wp2_with fail
        refine (do_any _ am al ai Sa x slx 5 HA.out (by decide) ALx.out AGx.out).mono ?_
        rintro e w4 ⟨rfl, hm, hk⟩
        have HB := Lib.hid (HB.out.other HA.out hk HD1.out)
        have HA := Lib.hid hm
        have HBE := Lib.hid (HBE.out.trans (hk.below HGA.out HBE.out.size))
        clear hm hk
        clear a0 a1 a2 a3 a4 a5 a6 a7
        have h1 := H12.out
        obtain ⟨y, hy⟩ : ∃ z, z = ys.getD k acs0 := ⟨_, rfl⟩
        obtain ⟨gy, oy, rfl, acty⟩ := HACT'.out k (by omega)
        rw [← hy] at acty
        have acty := acty.keep HBE.out
        obtain ⟨sly, a0, a1, a2, a3, a4, a5, a6, a7, aly, -, -, -, agy, -⟩ := acty
        have ALy := Lib.hid aly
        have AGy := Lib.hid agy
        clear aly agy
        have HY := Lib.hid hy
        clear h1 hy
        go_wp2_with fail
        refine (do_any _ am al ai _ y sly 6 HA.out (by decide) ALy.out AGy.out).mono ?_
        rintro e w5 ⟨rfl, hm, hk⟩
        have HB := Lib.hid (HB.out.other HA.out hk HD1.out)
        have HA := Lib.hid hm
        have HBE := Lib.hid (HBE.out.trans (hk.below HGA.out HBE.out.size))
        clear hm hk
        clear a0 a1 a2 a3 a4 a5 a6 a7
        have G5n := Lib.hid ((G5.out.step x (by decide)).other y (show (5 : Int) ≠ 6 by decide) (by decide))
        have G6n := Lib.hid ((G6.out.other x (show (6 : Int) ≠ 5 by decide) (by decide)).step y (by decide))
        rw [← R5.out] at G5n
        rw [HY.out, ← R6.out, ← HY.out] at G6n
        go_wp2
        have h1 := H12.out
        refine ⟨⟨k + 1, _, by omega, by go_num, HBE.out, HA.out, HB.out, G5n.out, G6n.out⟩, by simp [intOf]; omega⟩
      · have i2 : ¬ ((k : Int) < (n2 : Int)) := by omega
        have d2 : decide ((k : Int) < (n2 : Int)) = false := decide_eq_false i2
        have hr6 : runE 6 ys (min (k + 1) n2) = runE 6 ys (min k n2) := by rw [show min (k + 1) n2 = min k n2 by omega]
        have R6 := Lib.hid hr6
        have H12 := Lib.hid (show k < n1 ∧ k + 1 ≤ 30 by omega)
        clear hr6 h1 h2
        go_wp2_with fail
        refine (do_any _ am al ai Sa x slx 5 HA.out (by decide) ALx.out AGx.out).mono ?_
        rintro e w4 ⟨rfl, hm, hk⟩
        have HB := Lib.hid (HB.out.other HA.out hk HD1.out)
        have HA := Lib.hid hm
        have HBE := Lib.hid (HBE.out.trans (hk.below HGA.out HBE.out.size))
        clear hm hk
        clear a0 a1 a2 a3 a4 a5 a6 a7
        have G5n := Lib.hid (G5.out.step x (by decide))
        have G6n := Lib.hid (G6.out.other x (show (6 : Int) ≠ 5 by decide) (by decide))
        rw [← R5.out] at G5n
        rw [← R6.out] at G6n
        clear hnm i3 i1 hn1n hn2n k9
        go_wp2
        have h1 := H12.out
        refine ⟨⟨k + 1, _, by omega, by go_num, HBE.out, HA.out, HB.out, G5n.out, G6n.out⟩, by simp [intOf]; omega⟩
    · have hr5 : runE 5 xs (min (k + 1) n1) = runE 5 xs (min k n1) := by rw [show min (k + 1) n1 = min k n1 by omega]
      have i1 : ¬ ((k : Int) < (n1 : Int)) := by omega
      have d1 : decide ((k : Int) < (n1 : Int)) = false := decide_eq_false i1
      by_cases h2 : k < n2
      · have hr6 : runE 6 ys (min (k + 1) n2) = (runE 6 ys (min k n2)).do_ (ys.getD k acs0) 6 := by rw [show min (k + 1) n2 = k + 1 by omega, show min k n2 = k by omega]; rfl
        have i2 : (k : Int) < (n2 : Int) := by omega
        have i3 : (k : Int) < (nm : Int) := by omega
        obtain ⟨y, hy⟩ : ∃ z, z = ys.getD k acs0 := ⟨_, rfl⟩
        obtain ⟨gy, oy, rfl, acty⟩ := HACT'.out k (by omega)
        rw [← hy] at acty
        have acty := acty.keep HBE.out
        obtain ⟨sly, a0, a1, a2, a3, a4, a5, a6, a7, aly, -, -, -, agy, -⟩ := acty
        have ALy := Lib.hid aly
        have AGy := Lib.hid agy
        clear aly agy
        rw [← hy] at hr6
        clear hy
        have R5 := Lib.hid hr5
        have R6 := Lib.hid hr6
        have H12 := Lib.hid h2
        clear hr5 hr6 h1 h2
        go_wp2_with fail
        refine (do_any _ am al ai Sa y sly 6 HA.out (by decide) ALy.out AGy.out).mono ?_
        rintro e w4 ⟨rfl, hm, hk⟩
        have HB := Lib.hid (HB.out.other HA.out hk HD1.out)
        have HA := Lib.hid hm
        have HBE := Lib.hid (HBE.out.trans (hk.below HGA.out HBE.out.size))
        clear hm hk
        clear a0 a1 a2 a3 a4 a5 a6 a7
        have G5n := Lib.hid (G5.out.other y (show (5 : Int) ≠ 6 by decide) (by decide))
        have G6n := Lib.hid (G6.out.step y (by decide))
        rw [← R5.out] at G5n
        rw [← R6.out] at G6n
        go_wp2
        have h1 := H12.out
        refine ⟨⟨k + 1, _, by omega, by go_num, HBE.out, HA.out, HB.out, G5n.out, G6n.out⟩, by simp [intOf]; omega⟩
      · have i3 : ¬ ((k : Int) < (nm : Int)) := by omega
        have d3 : decide ((k : Int) < (nm : Int)) = false := decide_eq_false i3
        have d4 : decide (k < nm) = false := decide_eq_false (by omega)
        have hq1 : min k n1 = n1 := by omega
        have hq2 : min k n2 = n2 := by omega
        rw [hq1] at G5
        rw [hq2] at G6
        clear hr5 h1 h2 hq1 hq2 hk3
        go_wp2_with fail
        clear hnm k9 d1 d3 d4 i1 i3
        generalize (k : Int) = kk at *
        generalize (nm : Int) = nmm at *
        go_loopw [9] (fun i wr => ∃ (k2 : Nat) (S : Mdl), k2 ≤ n2 ∧ i = .int .i64 k2 ∧ Below w.heap.size w wr ∧ Md wr am al ai Sa ∧ Md wr bm bl bi S ∧ Ag 6 S (runE 6 ys k2) ∧ Ag 5 S (runE 5 xs 0)) (fun i _ => n2 - (intOf i).toNat)
        case atStart => exact ⟨0, Mdl.new 4, by omega, rfl, HBE.out, HA.out, HB.out, Ag.new 6, Ag.new 5⟩
        case round =>
          obtain ⟨k2, Sb, hk3, rfl, hb, hma, hmb, g0, g1⟩ := hrel
          have HBE := Lib.hid hb
          have HA := Lib.hid hma
          have HB := Lib.hid hmb
          have GG0 := Lib.hid g0
          have GG1 := Lib.hid g1
          clear hb hma hmb g0 g1
          have k9 : (k2 : Int) < 9223372036854775807 := by omega
          by_cases h1 : k2 < n2
          · have i1 : (k2 : Int) < (n2 : Int) := by omega
            obtain ⟨x, hx⟩ : ∃ z, z = ys.getD k2 acs0 := ⟨_, rfl⟩
            obtain ⟨gx, ox, rfl, actx⟩ := HACT'.out k2 (by omega)
            rw [← hx] at actx
            have actx := actx.keep HBE.out
            obtain ⟨slx, a0, a1, a2, a3, a4, a5, a6, a7, alx, -, -, -, agx, -⟩ := actx
            have ALx := Lib.hid alx
            have AGx := Lib.hid agx
            clear alx agx
            have HX := Lib.hid hx
            have H12 := Lib.hid h1
            clear hx h1
            go_wp2_with fail
            refine (do_any _ bm bl bi Sb x slx 6 HB.out (by decide) ALx.out AGx.out).mono ?_
            rintro e w4 ⟨rfl, hm, hk⟩
            have HA := Lib.hid (HA.out.other HB.out hk HD2.out)
            have HB := Lib.hid hm
            have HBE := Lib.hid (HBE.out.trans (hk.below HGB.out HBE.out.size))
            clear hm hk
            clear a0 a1 a2 a3 a4 a5 a6 a7
            have GN0 := Lib.hid (show Ag 6 (Sb.do_ x 6) (runE 6 ys (k2 + 1)) from by
              rw [show runE 6 ys (k2 + 1) = (runE 6 ys k2).do_ x 6 from by rw [HX.out]; rfl]
              exact GG0.out.step x (by decide))
            have GN1 := Lib.hid (GG1.out.other x (show (5 : Int) ≠ 6 by decide) (by decide))
            go_wp2
            have h1 := H12.out
            refine ⟨⟨k2 + 1, _, by omega, by go_num, HBE.out, HA.out, HB.out, GN0.out, GN1.out⟩, by simp [intOf]; omega⟩
          · have hk : k2 = n2 := by omega
            subst hk
            clear hk3 h1
            go_wp2_with fail
            go_loopw [10] (fun i wr => ∃ (k3 : Nat) (S : Mdl), k3 ≤ n1 ∧ i = .int .i64 k3 ∧ Below w.heap.size w wr ∧ Md wr am al ai Sa ∧ Md wr bm bl bi S ∧ Ag 6 S (runE 6 ys k2) ∧ Ag 5 S (runE 5 xs k3)) (fun i _ => n1 - (intOf i).toNat)
            case atStart => exact ⟨0, Sb, by omega, rfl, HBE.out, HA.out, HB.out, GG0.out, GG1.out⟩
            case round =>
              obtain ⟨k3, Sc, hk3, rfl, hb, hma, hmb, g0, g1⟩ := hrel
              have HBE := Lib.hid hb
              have HA := Lib.hid hma
              have HB := Lib.hid hmb
              have GG0 := Lib.hid g0
              have GG1 := Lib.hid g1
              clear hb hma hmb g0 g1
              have k9 : (k3 : Int) < 9223372036854775807 := by omega
              by_cases h1 : k3 < n1
              · have i1 : (k3 : Int) < (n1 : Int) := by omega
                obtain ⟨x, hx⟩ : ∃ z, z = xs.getD k3 acs0 := ⟨_, rfl⟩
                obtain ⟨gx, ox, rfl, actx⟩ := HACT.out k3 (by omega)
                rw [← hx] at actx
                have actx := actx.keep HBE.out
                obtain ⟨slx, a0, a1, a2, a3, a4, a5, a6, a7, alx, -, -, -, agx, -⟩ := actx
                have ALx := Lib.hid alx
                have AGx := Lib.hid agx
                clear alx agx
                have HX := Lib.hid hx
                have H12 := Lib.hid h1
                clear hx h1
                go_wp2_with fail
                refine (do_any _ bm bl bi Sc x slx 5 HB.out (by decide) ALx.out AGx.out).mono ?_
                rintro e w4 ⟨rfl, hm, hk⟩
                have HA := Lib.hid (HA.out.other HB.out hk HD2.out)
                have HB := Lib.hid hm
                have HBE := Lib.hid (HBE.out.trans (hk.below HGB.out HBE.out.size))
                clear hm hk
                clear a0 a1 a2 a3 a4 a5 a6 a7
                have GN0 := Lib.hid (GG0.out.other x (show (6 : Int) ≠ 5 by decide) (by decide))
                have GN1 := Lib.hid (show Ag 5 (Sc.do_ x 5) (runE 5 xs (k3 + 1)) from by
                  rw [show runE 5 xs (k3 + 1) = (runE 5 xs k3).do_ x 5 from by rw [HX.out]; rfl]
                  exact GG1.out.step x (by decide))
                go_wp2
                have h1 := H12.out
                refine ⟨⟨k3 + 1, _, by omega, by go_num, HBE.out, HA.out, HB.out, GN0.out, GN1.out⟩, by simp [intOf]; omega⟩
              · have hk : k3 = n1 := by omega
                subst hk
                clear hk3 h1
                go_wp2_with fail
                have HNN := Lib.hid (show Sa.n = Sc.n from G5.out.1.trans GG1.out.1.symm)
                have HIMG := Lib.hid (show ∀ e c : Int, e = 5 ∨ e = 6 → Sa.img (e, c) = Sc.img (e, c) from fun e c he => by
                  rcases he with rfl | rfl
                  · exact (G5.out.2.2.1 c).trans (GG1.out.2.2.1 c).symm
                  · exact (G6.out.2.2.1 c).trans (GG0.out.2.2.1 c).symm)
                clear G5 G6 GG0 GG1 k9
                generalize hwr : wr = w6 at *
                clear hwr
                go_wp2_with fail
                go_loopw [11] (fun i wr => ∃ e : Nat, 5 ≤ e ∧ e ≤ 7 ∧ i = .int .u64 e ∧ Below w.heap.size w wr ∧ Md wr am al ai Sa ∧ Md wr bm bl bi Sc) (fun i _ => 7 - (intOf i).toNat)
                case atStart => exact ⟨5, by omega, by omega, rfl, HBE.out, HA.out, HB.out⟩
                case round =>
                  obtain ⟨e, he5, he7, rfl, hb, hma, hmb⟩ := hrel
                  have HBE := Lib.hid hb
                  have HA := Lib.hid hma
                  have HB := Lib.hid hmb
                  clear hb hma hmb
                  by_cases h1 : e ≤ 6
                  · have i1 : (e : Int) ≤ 6 := by omega
                    have HE := Lib.hid (And.intro he5 h1)
                    have HES := Lib.hid (show (e : Int) = 5 ∨ (e : Int) = 6 by omega)
                    clear he7 h1 he5
                    go_wp2_with fail
                    clear i1
                    go_loopw [12] (fun i wr => ∃ c : Nat, c ≤ 4 ∧ i = .int .u64 c ∧ Below w.heap.size w wr ∧ Md wr am al ai Sa ∧ Md wr bm bl bi Sc) (fun i _ => 4 - (intOf i).toNat)
                    case atStart => exact ⟨0, by omega, rfl, HBE.out, HA.out, HB.out⟩
                    case round =>
                      obtain ⟨c, hc4, rfl, hb, hma, hmb⟩ := hrel
                      have HBE := Lib.hid hb
                      have HA := Lib.hid hma
                      have HB := Lib.hid hmb
                      clear hb hma hmb
                      by_cases h1 : c < 4
                      · have i1 : (c : Int) < 4 := by omega
                        have hwf : wfG ((e : Int), (c : Int)) := by
                          rcases HES.out with h | h <;> rw [h] <;> (rcases (show (c : Int) = 0 ∨ (c : Int) = 1 ∨ (c : Int) = 2 ∨ (c : Int) = 3 by omega) with h | h | h | h <;> rw [h] <;> decide)
                        have hia := fun q (hq : Md q am al ai Sa) => image_any q am al ai Sa ((e : Int), (c : Int)) hq hwf
                        have hib := fun q (hq : Md q bm bl bi Sc) => image_any q bm bl bi Sc ((e : Int), (c : Int)) hq hwf
                        have him : Sc.image ((e : Int), (c : Int)) = Sa.image ((e : Int), (c : Int)) := by
                          unfold Mdl.image
                          rw [HIMG.out _ _ HES.out, HNN.out]
                        rw [him, ← HIMG.out _ _ HES.out] at hib
                        unfold aggG at hia hib
                        simp only at hia hib
                        clear him hwf
                        generalize Sa.image ((e : Int), (c : Int)) = im at *
                        generalize (Sa.img ((e : Int), (c : Int))).isSome = bo at *
                        have HIA := Lib.hid hia
                        have HIB := Lib.hid hib
                        have HC := Lib.hid h1
                        clear hia hib h1 hc4
                        go_wp2_with fail
                        clear i1
                        refine (guid_any _ _ _).mono ?_
                        rintro v w7 ⟨rfl, hb⟩
                        have HBE := Lib.hid (HBE.out.trans (hb.mono HBE.out.size))
                        have HA := Lib.hid (HA.out.keep hb)
                        have HB := Lib.hid (HB.out.keep hb)
                        clear hb
                        go_wp2_with fail
                        refine (HIA.out _ HA.out).mono ?_
                        rintro v w8 ⟨u, rfl, ho, hb⟩
                        have hin := ho.rd
                        obtain ⟨ua, uc, rfl, -, hcell⟩ := hin.open_
                        have HCA := Lib.hid hcell
                        have HLE := Lib.hid hin.2.1
                        have HBE := Lib.hid (HBE.out.trans (hb.mono HBE.out.size))
                        have HA := Lib.hid (HA.out.keep hb)
                        have HB := Lib.hid (HB.out.keep hb)
                        clear hb ho hin hcell
                        go_wp2_with fail
                        refine (guid_any _ _ _).mono ?_
                        rintro v w9 ⟨rfl, hb⟩
                        have HBE := Lib.hid (HBE.out.trans (hb.mono HBE.out.size))
                        have HA := Lib.hid (HA.out.keep hb)
                        have HB := Lib.hid (HB.out.keep hb)
                        have HCA := Lib.hid (fun j hj => (HCA.out j hj).imp fun g h => h.imp fun o h => And.intro h.1 (cell_later hb h.2))
                        clear hb
                        go_wp2_with fail
                        refine (HIB.out _ HB.out).mono ?_
                        rintro v w10 ⟨u, rfl, ho, hb⟩
                        have hin := ho.rd
                        obtain ⟨ub, ud, rfl, -, hcell⟩ := hin.open_
                        have HCB := Lib.hid hcell
                        have HBE := Lib.hid (HBE.out.trans (hb.mono HBE.out.size))
                        have HA := Lib.hid (HA.out.keep hb)
                        have HB := Lib.hid (HB.out.keep hb)
                        have HCA := Lib.hid (fun j hj => (HCA.out j hj).imp fun g h => h.imp fun o h => And.intro h.1 (cell_later hb h.2))
                        clear hb ho hin hcell HIA HIB
                        obtain ⟨len, hlen⟩ : ∃ z, z = im.length := ⟨_, rfl⟩
                        rw [← hlen] at HCA HCB HLE
                        rw [← hlen]
                        clear hlen
                        go_wp2_with fail
                        go_loopw [17] (fun i wr => ∃ j : Nat, j ≤ len ∧ i = .int .i64 j ∧ Below w10.heap.size w10 wr) (fun i _ => len - (intOf i).toNat)
                        case atStart => exact ⟨0, by omega, rfl, Below.refl _ _⟩
                        case round =>
                          obtain ⟨j, hj, rfl, hb⟩ := hrel
                          have HBJ := Lib.hid hb
                          clear hb
                          have hle := HLE.out
                          rw [show maxLen = 2^63 - 1 from rfl] at hle
                          by_cases hj4 : j < len
                          · have l9 : (j : Int) < 9223372036854775807 := by omega
                            clear hle
                            obtain ⟨ga, offa, rfl, hca⟩ := HCA.out j hj4
                            obtain ⟨gb, offb, rfl, hcb⟩ := HCB.out j hj4
                            have hca := cell_later HBJ.out hca
                            have hcb := cell_later HBJ.out hcb
                            generalize im.getD j ByteArray.empty = z at *
                            have l1 : (j : Int) < (len : Int) := by omega
                            have e0 : ∀ q : Bw wr, q.w.cell? ⟨ga, offa + j, none⟩ = some (.string z) := fun q => q.cell hca
                            have e1 : ∀ q : Bw wr, q.w.cell? ⟨gb, offb + j, none⟩ = some (.string z) := fun q => q.cell hcb
                            have HJ4 := Lib.hid hj4
                            clear hca hcb hj4 hj
                            go_wp2_with fail
                            refine wp_region_below (by kernel_rfl) (by kernel_rfl) ?_
                            repeat (go_big_quiet_step (fail))
                            refine wpQuiet_nil ?_
                            intro y7 hb7
                            have HB7 := Lib.hid (HBJ.out.trans (hb7.mono HBJ.out.size))
                            clear hb7 e0 e1
                            go_wp2
                            have hj4 := HJ4.out
                            refine ⟨⟨j + 1, by omega, by go_num, HB7.out⟩, by simp [intOf]; omega⟩
                          · have hj44 : j = len := by omega
                            subst hj44
                            have HBE := Lib.hid (HBE.out.trans (HBJ.out.mono HBE.out.size))
                            have HA := Lib.hid (HA.out.keep HBJ.out)
                            have HB := Lib.hid (HB.out.keep HBJ.out)
                            clear hj hj4 hle
                            have hc4 := HC.out
                            have i1 : (c : Int) < 4 := by omega
                            clear hc4
                            go_wp2
                            have hc4 := HC.out
                            refine ⟨⟨c + 1, by omega, by go_num, HBE.out, HA.out, HB.out⟩, by simp [intOf]; omega⟩
                      · have hc : c = 4 := by omega
                        subst hc
                        clear hc4 h1
                        have h5 := HES.out
                        have i1 : (e : Int) ≤ 6 := by omega
                        clear h5
                        go_wp2
                        have h5 := HE.out
                        refine ⟨⟨e + 1, by omega, by omega, by go_num, HBE.out, HA.out, HB.out⟩, by simp [intOf]; omega⟩
                  · have he : e = 7 := by omega
                    subst he
                    clear he7 h1 he5
                    go_wp2_with fail
                    refine (works_any _).mono ?_
                    rintro e y9 ⟨rfl, hb⟩
                    have HB9 := Lib.hid (HBE.out.trans (hb.mono HBE.out.size))
                    clear hb
                    go_wp2
                    go_ret
                    exact ⟨rfl, HB9.out⟩
end Go.Proofs.Ytfeinafbimpjnaa
