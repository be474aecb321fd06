/-
  round; two chains of the call's own, side by side (printed by wip/gen-chr.py).
-/
import Derived.Test.YtjeebpklinpmfaaChW
namespace Go.Proofs.Ytjeebpklinpmfaa
open Go.RowKit Reg Go.WideShapes Go.ChangeShapes

def blkP (p : Pt) : Int := (p.1.tmod 8 + 8).tmod 8
def rndP (C : Ch) (p : Pt) : Ch := C.write (blkP p) (dataS (p.2 % 200))
def roundC (C : Ch) (ps : List Pt) : Ch := (ps.take 10).foldl rndP C
theorem write_n (C : Ch) (b : Int) (d : ByteArray) : (C.write b d).n = C.n ∧ (C.write b d).snaps = C.snaps := by
  unfold Ch.write
  split <;> exact ⟨rfl, rfl⟩
theorem round_n (C : Ch) (ps : List Pt) : (roundC C ps).n = C.n ∧ (roundC C ps).snaps = C.snaps := by
  unfold roundC
  generalize ps.take 10 = l
  induction l generalizing C with
  | nil => exact ⟨rfl, rfl⟩
  | cons p l ih =>
    have h1 := ih (rndP C p)
    have h2 := write_n C (blkP p) (dataS (p.2 % 200))
    exact ⟨h1.1.trans h2.1, h1.2.trans h2.2⟩
/-- while a put is written -/
structure RC (W w0 : World) (bc : Nat) (sl : Value) (C : Ch) (b : Int) (d : ByteArray) (σ : Nat → Option Value) (w : World) : Prop where
  pre : σ 16 = none → Below w0.heap.size w0 w
  fin : σ 16 ≠ none → Cm w bc sl (C.write b d) ∧ Kp (· = bc) w0 w
  d15 : σ 15 = none → σ 16 = none
  cm : Cm w0 bc sl C
  low : Below W.heap.size W w0
  hb : W.heap.size ≤ bc
section
variable {W w0 w : World} {bc : Nat} {sl : Value} {C : Ch} {b : Int} {d : ByteArray} {σ : Nat → Option Value} {p : Value → Prop}
theorem RC.start (hc : Cm w0 bc sl C) (hl : Below W.heap.size W w0) (hb : W.heap.size ≤ bc) : RC W w0 bc sl C b d (fun _ => none) w0.drew := ⟨fun _ => (Below.refl _ _).drew, (fun h => absurd rfl h), fun _ => rfl, hc, hl, hb⟩
theorem RC.below (h : RC W w0 bc sl C b d σ w) : Below W.heap.size W w := by
  cases e : σ 16 with
  | none => exact h.low.trans ((h.pre e).mono h.low.size)
  | some u => exact h.low.trans ((h.fin (by rw [e]; simp)).2.below (fun b hb => by rw [hb]; exact h.hb) h.low.size)
theorem RC.data (h : RC W w0 bc sl C b d σ w) (h15 : σ 15 = none) {f : FuncId} {args : Array Value} {v : Value} (hp : p v) (hc : Calls Try.prog f args w fun e w' => e = .returned v ∧ Below w.heap.size w w') :
    SpecialOK Try.prog p (fun u => RC W w0 bc sl C b d (upd σ 15 u)) (.ok (.enter f args) w) := by
  have h16 := h.d15 h15
  refine hc.mono ?_
  rintro e w' ⟨rfl, hb⟩
  refine ⟨v, rfl, hp, ?_, ?_, ?_, h.cm, h.low, h.hb⟩
  all_goals simp only [upd_other _ _ (show (16 : Nat) ≠ 15 by decide), upd_same, h16]
  · exact fun _ => (h.pre h16).trans (hb.mono (h.pre h16).size)
  · exact fun e => absurd rfl e
  · exact fun _ => trivial
theorem RC.write (h : RC W w0 bc sl C b d σ w) (h16 : σ 16 = none) {u : Value} (h15 : σ 15 = some u) (hp : p (.int .i64 (C.writeE b d))) :
    SpecialOK Try.prog p (fun u => RC W w0 bc sl C b d (upd σ 16 u)) (.ok (.enter 22 #[.pointer (some ⟨bc, 0, none⟩), .int .i64 b, .string d]) w) := by
  have hb := h.pre h16
  refine (write_any (h.cm.keep hb) b d).mono ?_
  rintro e w' ⟨rfl, hc, hk⟩
  refine ⟨_, rfl, hp, ?_, ?_, ?_, h.cm, h.low, h.hb⟩
  all_goals simp only [upd_other _ _ (show (15 : Nat) ≠ 16 by decide), upd_same, h15]
  · exact fun e => by cases e
  · exact fun _ => ⟨hc, (Kp.of_below hb).trans hk⟩
  · exact fun e => by cases e
end
theorem tmod8 (x : Int) : -8 < x.tmod 8 ∧ x.tmod 8 < 8 := by
  have h1 := Int.tmod_lt_of_pos x (show (0 : Int) < 8 by omega)
  have h2 := Int.neg_tmod x 8
  have h3 := Int.tmod_lt_of_pos (-x) (show (0 : Int) < 8 by omega)
  omega
set_option maxRecDepth 100000 in
theorem round_any (W w : World) (bc : Nat) (sl : Value) (C : Ch) (v : Value) (ps : List Pt) (hv : InP W v ps) (hb : Below W.heap.size W w) (hbc : W.heap.size ≤ bc) (h : Cm w bc sl C) :
    Calls Try.prog 10 #[.pointer (some ⟨bc, 0, none⟩), v] w fun e w' => e = .returned (.tuple #[]) ∧ Cm w' bc sl (roundC C ps) ∧ Kp (· = bc) w w' := by
  obtain ⟨a, c, rfl, hm, hw, hx⟩ := hv
  have hwf := fun j => wfP_getD hw j
  obtain ⟨G, hG⟩ : ∃ G : Nat → Ch, ∀ k, G k = (ps.take k).foldl rndP C := ⟨_, fun _ => rfl⟩
  have hG0 : G 0 = C := by rw [hG]; rfl
  have hGs : ∀ k, k < ps.length → G (k + 1) = rndP (G k) (ps.getD k (0, 0)) := fun k hk => by
    rw [hG, hG, List.take_add_one, List.foldl_append]
    simp [hk]
  have hG10 : ps.length ≤ 10 → roundC C ps = G ps.length := fun h => by unfold roundC; rw [hG, List.take_of_length_le h, List.take_of_length_le (Nat.le_refl _)]
  have hGten : roundC C ps = G 10 := (hG 10).symm
  rw [hGten]
  rw [hGten] at hG10
  generalize hZ : (fun j => ps.getD j (0, 0)) = Z
  have hZj : ∀ j, ps.getD j (0, 0) = Z j := fun j => by rw [← hZ]
  simp only [hZj] at hx hwf hGs
  clear hZ hZj hG hw hGten
  generalize ps.length = n at *
  have HX := Lib.hid hx
  have HW := Lib.hid hwf
  have HGS := Lib.hid hGs
  have HG0 := Lib.hid hG0
  have HG10 := Lib.hid hG10
  have HH := Lib.hid h
  have HLO := Lib.hid (And.intro hb hbc)
  clear hx hwf hGs hG0 hG10 hm h hb hbc
  go_enter Try.func10, Try.ntmps10
  go_wp2_with fail
  go_loopw [4] (fun i wr => ∃ (k : Nat), k ≤ n ∧ k ≤ 10 ∧ i = .int .i64 k ∧ Cm wr bc sl (G k) ∧ Kp (· = bc) w wr) (fun i _ => 10 - (intOf i).toNat)
  case atStart => exact ⟨0, Nat.zero_le _, Nat.zero_le _, rfl, by rw [HG0.out]; exact HH.out, Kp.refl _ _⟩
  case round =>
    obtain ⟨k, hk, hk10, rfl, hc, hkp⟩ := hrel
    have HC := Lib.hid hc
    have HK := Lib.hid hkp
    have HLR := Lib.hid (HLO.out.1.trans (hkp.below (fun b hb => by rw [hb]; exact HLO.out.2) HLO.out.1.size))
    clear hc hkp
    by_cases hkn : k < n
    · by_cases hkt : k < 10
      · obtain ⟨g, off, rfl, hc0, hc1⟩ := HX.out k hkn
        have hwk := HW.out k
        have hsu := HGS.out k hkn
        generalize hz : Z k = zk at *
        obtain ⟨pb, pl⟩ := zk
        unfold rndP blkP at hsu
        dsimp only at hc0 hc1 hsu
        have ht := tmod8 pb
        obtain ⟨t0, ht0⟩ : ∃ t, t = pb.tmod 8 := ⟨_, rfl⟩
        rw [← ht0] at hsu ht
        obtain ⟨bz, hbz⟩ : ∃ t, t = (t0 + 8).tmod 8 := ⟨_, rfl⟩
        rw [← hbz] at hsu
        obtain ⟨pm, hpm⟩ : ∃ t, t = pl % 200 := ⟨_, rfl⟩
        rw [← hpm] at hsu
        have hpl : pl.tmod 200 = pm := by rw [hpm, Int.tmod_eq_emod_of_nonneg hwk.2.1]
        have hpr : 0 ≤ pm ∧ pm < 256 := by omega
        have hwr : IntKind.i64.wrap (t0 + 8) = t0 + 8 := IntWalk.i64_in _ (by omega)
        have HAR := Lib.hid (And.intro ht0.symm (And.intro hbz.symm (And.intro hwr hpl)))
        have HSU := Lib.hid hsu
        have HC0 := Lib.hid (fun w2 (h2 : Below W.heap.size W w2) => show w2.cell? ⟨g, off + k * 2, none⟩ = some (.int .i64 pb) ∧ w2.cell? ⟨g, off + k * 2 + 1, none⟩ = some (.int .u8 pl) from ⟨cell_later h2 hc0, cell_later h2 hc1⟩)
        have HDA := Lib.hid (data_any pm hpr.1 hpr.2)
        have HRC := Lib.hid (RC.start (b := bz) (d := dataS pm) HC.out HLR.out HLO.out.2)
        have i1 : (k : Int) < (n : Int) := by omega
        have i2 : (k : Int) < 10 := by omega
        have HKN := Lib.hid (And.intro hkn hkt)
        obtain ⟨we, hwe⟩ : ∃ r, r = (G k).writeE bz (dataS pm) := ⟨_, rfl⟩
        have HWE := Lib.hid hwe
        clear hc0 hc1 hwk hsu hz ht ht0 hbz hpm hpl hpr hwr hkn hkt hk hk10 hwe
        go_wp2_with fail
        refine wp_region_spec (fun i => i == 15 || i == 16) (kinds [(15, .is (.string (dataS pm))), (16, .is (.int .i64 we))]) (RC W wr bc sl (G k) bz (dataS pm)) (by kernel_rfl) (by kernel_rfl) (kinds_inh _) HRC.out ?_
        intro ν hν
        have n15 : ν 15 = .string (dataS pm) := hν 15
        have n16 : ν 16 = .int .i64 we := hν 16
        clear hν
        refine lex_plain (by rfl) rfl ?_
        apply Exists.intro
        refine ⟨fun σ w2 hA hD hC => ?_, ?_⟩
        · clear hA hD hC
          go_simp
          exact And.intro rfl rfl
        simp only [Act.put, List.setIfInBounds_toArray, List.set_cons_succ, List.set_cons_zero, Nat.reduceAdd]
        refine lex_plain (by rfl) rfl ?_
        apply Exists.intro
        refine ⟨fun σ w2 hA hD hC => ?_, ?_⟩
        · clear hA hD hC
          go_simp
          exact And.intro rfl rfl
        simp only [Act.put, List.setIfInBounds_toArray, List.set_cons_succ, List.set_cons_zero, Nat.reduceAdd]
        refine lex_plain (by rfl) rfl ?_
        apply Exists.intro
        refine ⟨fun σ w2 hA hD hC => ?_, ?_⟩
        · clear hA hD hC
          go_simp
          exact And.intro rfl rfl
        simp only [Act.put, List.setIfInBounds_toArray, List.set_cons_succ, List.set_cons_zero, Nat.reduceAdd]
        refine lex_plain (by rfl) rfl ?_
        apply Exists.intro
        refine ⟨fun σ w2 hA hD hC => ?_, ?_⟩
        · clear hA hD hC
          go_simp
          exact And.intro rfl rfl
        simp only [Act.put, List.setIfInBounds_toArray, List.set_cons_succ, List.set_cons_zero, Nat.reduceAdd]
        refine lex_plain (by rfl) rfl ?_
        apply Exists.intro
        refine ⟨fun σ w2 hA hD hC => ?_, ?_⟩
        · clear hA hD hC
          go_simp
          exact And.intro rfl rfl
        simp only [Act.put, List.setIfInBounds_toArray, List.set_cons_succ, List.set_cons_zero, Nat.reduceAdd]
        refine lex_plain (by rfl) rfl ?_
        apply Exists.intro
        refine ⟨fun σ w2 hA hD hC => ?_, ?_⟩
        · obtain ⟨x0, x1⟩ := HC0.out w2 hC.below
          clear hA hD hC
          go_simp
          exact And.intro rfl rfl
        simp only [Act.put, List.setIfInBounds_toArray, List.set_cons_succ, List.set_cons_zero, Nat.reduceAdd]
        refine lex_plain (by rfl) rfl ?_
        apply Exists.intro
        refine ⟨fun σ w2 hA hD hC => ?_, ?_⟩
        · have q1 := HAR.out.1
          clear hA hD hC
          go_simp
          exact And.intro rfl rfl
        simp only [Act.put, List.setIfInBounds_toArray, List.set_cons_succ, List.set_cons_zero, Nat.reduceAdd]
        refine lex_plain (by rfl) rfl ?_
        apply Exists.intro
        refine ⟨fun σ w2 hA hD hC => ?_, ?_⟩
        · have q1 := HAR.out.2.2.1
          clear hA hD hC
          go_simp
          exact And.intro rfl rfl
        simp only [Act.put, List.setIfInBounds_toArray, List.set_cons_succ, List.set_cons_zero, Nat.reduceAdd]
        refine lex_plain (by rfl) rfl ?_
        apply Exists.intro
        refine ⟨fun σ w2 hA hD hC => ?_, ?_⟩
        · have q1 := HAR.out.2.1
          clear hA hD hC
          go_simp
          exact And.intro rfl rfl
        simp only [Act.put, List.setIfInBounds_toArray, List.set_cons_succ, List.set_cons_zero, Nat.reduceAdd]
        refine lex_plain (by rfl) rfl ?_
        apply Exists.intro
        refine ⟨fun σ w2 hA hD hC => ?_, ?_⟩
        · clear hA hD hC
          go_simp
          exact And.intro rfl rfl
        simp only [Act.put, List.setIfInBounds_toArray, List.set_cons_succ, List.set_cons_zero, Nat.reduceAdd]
        refine lex_plain (by rfl) rfl ?_
        apply Exists.intro
        refine ⟨fun σ w2 hA hD hC => ?_, ?_⟩
        · clear hA hD hC
          go_simp
          exact And.intro rfl rfl
        simp only [Act.put, List.setIfInBounds_toArray, List.set_cons_succ, List.set_cons_zero, Nat.reduceAdd]
        refine lex_plain (by rfl) rfl ?_
        apply Exists.intro
        refine ⟨fun σ w2 hA hD hC => ?_, ?_⟩
        · clear hA hD hC
          go_simp
          exact And.intro rfl rfl
        simp only [Act.put, List.setIfInBounds_toArray, List.set_cons_succ, List.set_cons_zero, Nat.reduceAdd]
        refine lex_plain (by rfl) rfl ?_
        apply Exists.intro
        refine ⟨fun σ w2 hA hD hC => ?_, ?_⟩
        · clear hA hD hC
          go_simp
          exact And.intro rfl rfl
        simp only [Act.put, List.setIfInBounds_toArray, List.set_cons_succ, List.set_cons_zero, Nat.reduceAdd]
        refine lex_plain (by rfl) rfl ?_
        apply Exists.intro
        refine ⟨fun σ w2 hA hD hC => ?_, ?_⟩
        · obtain ⟨x0, x1⟩ := HC0.out w2 hC.below
          clear hA hD hC
          go_simp
          exact And.intro rfl rfl
        simp only [Act.put, List.setIfInBounds_toArray, List.set_cons_succ, List.set_cons_zero, Nat.reduceAdd]
        refine lex_plain (by rfl) rfl ?_
        apply Exists.intro
        refine ⟨fun σ w2 hA hD hC => ?_, ?_⟩
        · have q1 := HAR.out.2.2.2
          clear hA hD hC
          go_simp
          exact And.intro rfl rfl
        simp only [Act.put, List.setIfInBounds_toArray, List.set_cons_succ, List.set_cons_zero, Nat.reduceAdd]
        refine lex_special (by rfl) rfl (fun σ w2 hA hD hn hC => ?_) ?_
        · go_simp
          exact hC.data hn rfl (HDA.out _)
        rw [n15]
        simp only [Act.put, List.setIfInBounds_toArray, List.set_cons_succ, List.set_cons_zero, Nat.reduceAdd]
        refine lex_special (by rfl) rfl (fun σ w2 hA hD hn hC => ?_) ?_
        · have e15 := got1 hA hD 15 rfl (by kernel_rfl)
          go_simp
          exact hC.write hn e15 (show Value.int .i64 _ = .int .i64 _ from by rw [HWE.out])
        rw [n16]
        simp only [Act.put, Nat.reduceAdd]
        refine lex_nil (fun σ w9 hA hall hC => ?_)
        have s16 := hall 16 rfl (by decide)
        rw [n16] at s16
        have HF := Lib.hid (hC.fin (by rw [s16]; simp))
        clear hA hall hC n15 n16 s16
        go_wp2
        clear i1 i2
        exact ⟨⟨k + 1, HKN.out.1, HKN.out.2, rfl, by rw [HSU.out]; exact HF.out.1, HK.out.trans HF.out.2⟩, meas_succ HKN.out.2⟩
      · obtain rfl : k = 10 := by omega
        have i1 : (10 : Int) < (n : Int) := by omega
        clear hkn hkt hk hk10
        go_wp2
        go_end0
        exact ⟨rfl, HC.out, HK.out⟩
    · obtain rfl : k = n := by omega
      have i1 : ¬ ((k : Int) < (k : Int)) := by omega
      have H10 := Lib.hid (HG10.out hk10)
      clear hkn hk hk10
      go_wp2
      go_end0
      exact ⟨rfl, by rw [H10.out]; exact HC.out, HK.out⟩
/-- two chains of the call's own -/
structure Hp (B : Nat) (w0 w : World) (ba : Nat) (A : Ch) (bb : Nat) (D : Ch) : Prop where
  ex : ∃ sa sb, Cm w ba sa A ∧ Cm w bb sb D ∧ (∀ b, sa.ownBlock = some b → B ≤ b) ∧ (∀ b, sb.ownBlock = some b → B ≤ b) ∧ (∀ b, sa.ownBlock = some b → sb.ownBlock ≠ some b)
  ne : ba ≠ bb
  ba : B ≤ ba
  bb : B ≤ bb
  below : Below B w0 w
  size : B ≤ w.heap.size
section
variable {B : Nat} {w0 w w' : World} {ba bb : Nat} {A D : Ch}
theorem Hp.swap (h : Hp B w0 w ba A bb D) : Hp B w0 w bb D ba A := by
  obtain ⟨sa, sb, h1, h2, h3, h4, h5⟩ := h.ex
  exact ⟨⟨sb, sa, h2, h1, h4, h3, fun b hb ha => h5 b ha hb⟩, Ne.symm h.ne, h.bb, h.ba, h.below, h.size⟩
theorem Hp.keep (h : Hp B w0 w ba A bb D) (hb : Below w.heap.size w w') : Hp B w0 w' ba A bb D := by
  obtain ⟨sa, sb, h1, h2, h3, h4, h5⟩ := h.ex
  exact ⟨⟨sa, sb, h1.keep hb, h2.keep hb, h3, h4, h5⟩, h.ne, h.ba, h.bb, h.below.trans (hb.mono h.size), Nat.le_trans h.size hb.size⟩
theorem cm_ne_own {b : Nat} {sa sb : Value} (h1 : Cm w ba sa A) (h2 : Cm w bb sb D) (hb : sa.ownBlock = some b) : b ≠ bb := by
  rintro rfl
  obtain ⟨cs, h3⟩ := h1.snaps.blk hb
  have h4 := h2.obj
  unfold Blk at h3 h4
  rw [h3] at h4
  simp only [Option.some.injEq, Obj.cells.injEq] at h4
  exact absurd h4.2.1 (by decide)
theorem Hp.step {sa sb sa' : Value} {A' : Ch} (h1 : Cm w ba sa A) (h2 : Cm w bb sb D) (h3 : ∀ b, sa.ownBlock = some b → B ≤ b) (h4 : ∀ b, sb.ownBlock = some b → B ≤ b) (h5 : ∀ b, sa.ownBlock = some b → sb.ownBlock ≠ some b)
    (h : Hp B w0 w ba A bb D) (hc : Cm w' ba sa' A') (hk : Kp (fpC ba sa) w w') (hf : Fr w sa sa') : Hp B w0 w' ba A' bb D ∧ Oth w w' := by
  refine ⟨⟨⟨sa', sb, hc, h2.kp hk ?_ ?_, ?_, h4, ?_⟩, h.ne, h.ba, h.bb, h.below.trans (hk.below ?_ h.size), Nat.le_trans h.size hk.size⟩, Oth.of_kp h1 hk⟩
  · rintro (e | e)
    · exact h.ne e.symm
    · exact cm_ne_own h1 h2 e rfl
  · rintro b hb (e | e)
    · exact cm_ne_own h2 h1 hb e
    · exact h5 b e hb
  · intro b hb
    rcases hf b hb with h6 | h6
    · exact h3 b h6
    · exact Nat.le_trans h.size h6
  · intro b hb hb2
    rcases hf b hb with h6 | h6
    · exact h5 b h6 hb2
    · have := h2.snaps.lt hb2
      omega
  · rintro b (rfl | hb)
    · exact h.ba
    · exact h3 b hb
theorem hp_snap (h : Hp B w0 w ba A bb D) (g : Gd) (hg : wfG g) : Calls Try.prog 11 #[.pointer (some ⟨ba, 0, none⟩), aggG g] w fun e w' => e = .returned (.int .i64 (A.next g)) ∧ Hp B w0 w' ba (A.snap g) bb D ∧ Oth w w' := by
  obtain ⟨sa, sb, h1, h2, h3, h4, h5⟩ := h.ex
  refine (snap_any h1 g hg).mono ?_
  rintro e w' ⟨rfl, sa', h6, h7, h8⟩
  exact ⟨rfl, Hp.step h1 h2 h3 h4 h5 h h6 h7 h8⟩
theorem hp_add (h : Hp B w0 w ba A bb D) (g : Gd) (hg : wfG g) (cv : Value) (cs : List Cg) (hc : InC w cv cs) : Calls Try.prog 15 #[.pointer (some ⟨ba, 0, none⟩), aggG g, cv] w fun e w' => e = .returned (.int .i64 (A.addE g cs)) ∧ Hp B w0 w' ba (A.add g cs) bb D ∧ Oth w w' := by
  obtain ⟨sa, sb, h1, h2, h3, h4, h5⟩ := h.ex
  refine (add_any h1 g hg cv cs hc).mono ?_
  rintro e w' ⟨rfl, sa', h6, h7, h8⟩
  exact ⟨rfl, Hp.step h1 h2 h3 h4 h5 h h6 h7 h8⟩
theorem hp_roll (h : Hp B w0 w ba A bb D) (n : Int) : Calls Try.prog 17 #[.pointer (some ⟨ba, 0, none⟩), .int .i64 n] w fun e w' => e = .returned (.int .i64 (A.rollE n)) ∧ Hp B w0 w' ba (A.roll n) bb D ∧ Oth w w' := by
  obtain ⟨sa, sb, h1, h2, h3, h4, h5⟩ := h.ex
  refine (roll_any h1 n).mono ?_
  rintro e w' ⟨rfl, sa', h6, h7, h8⟩
  exact ⟨rfl, Hp.step h1 h2 h3 h4 h5 h h6 h7 h8⟩
theorem hp_round {W : World} (h : Hp W.heap.size W w ba A bb D) (v : Value) (ps : List Pt) (hv : InP W v ps) : Calls Try.prog 10 #[.pointer (some ⟨ba, 0, none⟩), v] w fun e w' => e = .returned (.tuple #[]) ∧ Hp W.heap.size W w' ba (roundC A ps) bb D ∧ Oth w w' := by
  obtain ⟨sa, sb, h1, h2, h3, h4, h5⟩ := h.ex
  refine (round_any W w ba sa A v ps hv h.below h.ba h1).mono ?_
  rintro e w' ⟨rfl, h6, h7⟩
  exact ⟨rfl, Hp.step h1 h2 h3 h4 h5 h h6 (h7.mono fun b hb => .inl hb) (fun b hb => .inl hb)⟩
theorem hp_live (h : Hp B w0 w ba A bb D) : Calls Try.prog 13 #[.pointer (some ⟨ba, 0, none⟩)] w (RetT w (A.live.take A.n)) := by
  obtain ⟨sa, sb, h1, -⟩ := h.ex
  exact live_any h1
theorem hp_list (h : Hp B w0 w ba A bb D) : Calls Try.prog 18 #[.pointer (some ⟨ba, 0, none⟩)] w (RetG w (A.snaps.map (·.g))) := by
  obtain ⟨sa, sb, h1, -⟩ := h.ex
  exact listG_any h1
theorem hp_read (h : Hp B w0 w ba A bb D) (g : Gd) : Calls Try.prog 16 #[.pointer (some ⟨ba, 0, none⟩), aggG g] w (ReadT w (A.readL g) (A.findE g)) := by
  obtain ⟨sa, sb, h1, -⟩ := h.ex
  exact read_any h1 g
theorem hp_chg (h : Hp B w0 w ba A bb D) (n : Int) : Calls Try.prog 14 #[.pointer (some ⟨ba, 0, none⟩), .int .i64 n] w (ChgT w (A.chC n) (A.chE n)) := by
  obtain ⟨sa, sb, h1, -⟩ := h.ex
  exact chg_any h1 n
theorem Hp.wf (h : Hp B w0 w ba A bb D) : A.live.length = 8 ∧ 1 ≤ A.n ∧ A.n ≤ 8 ∧ A.snaps.length ≤ 20 ∧ ∀ s ∈ A.snaps, wfS s := by
  obtain ⟨sa, sb, h1, -⟩ := h.ex
  exact ⟨h1.live.1, h1.n.1, h1.n.2, h1.snaps.2.1, h1.snaps.1⟩
end
theorem Ho.pair {B : Nat} {w0 w w' : World} {ba : Nat} {A : Ch} {e : Ending} {n : Nat} (h : Ho B w0 w ba A) (hn : NewT w n e w') : ∃ bb, e = .returned (.pointer (some ⟨bb, 0, none⟩)) ∧ Hp B w0 w' ba A bb (Ch.new n) := by
  obtain ⟨bb, h1, h2, h3, h4⟩ := hn
  obtain ⟨sa, h5, h6⟩ := h.ex
  have hlt := h5.obj.lt
  exact ⟨bb, h1, ⟨sa, _, h5.keep h4, h2, h6, (fun b hb => by cases hb), fun b _ hb => by cases hb⟩, by omega, h.bc, Nat.le_trans h.size h3, h.below.trans (h4.mono h.size), Nat.le_trans h.size h4.size⟩
end Go.Proofs.Ytjeebpklinpmfaa
