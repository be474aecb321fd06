/-
  STREAM: above, may, Check (printed by wip/gen-stmb.py).
-/
import Derived.Test.YtikimmhkfjaijaaQStmA
namespace Go.Proofs.Ytikimmhkfjaijaa
open Go.RowKit Reg Go.WideShapes Go.ChangeShapes

def kinds5 (r0 r1 z : Int) (s : Nat) (u : Value) : Prop := kinds [(4, .is (.int .i64 r0)), (9, .is (.int .i64 r1)), (10, .sl 2), (11, .is (.int .i64 z))] s u
def F5 (r0 r1 : Int) (s : Nat) (w : World) (u : Value) : Prop := s = 10 → ∃ g, u = .slice (some ⟨g, 0, none⟩) 2 2 ∧ Blk w g 3 #[.int .i64 r0, .int .i64 r1]
theorem F5.stable {r0 r1 : Int} : Stable (F5 r0 r1) := fun _ _ _ _ h hb e => by
  obtain ⟨g, h1, h2⟩ := h e
  exact ⟨g, h1, h2.keep hb⟩
theorem or2_gt (a b : Gd) : decide (0 < or2 (cmp3 b.1 a.1) (cmp3 b.2 a.2)) = upG a b := by
  have h := or2_le a b
  cases hu : upG a b with
  | true =>
    rw [hu] at h
    have h2 : ¬ or2 (cmp3 b.1 a.1) (cmp3 b.2 a.2) ≤ 0 := by simpa using h
    exact decide_eq_true (by omega)
  | false =>
    rw [hu] at h
    have h2 : or2 (cmp3 b.1 a.1) (cmp3 b.2 a.2) ≤ 0 := by simpa using h
    exact decide_eq_false (by omega)
set_option maxRecDepth 100000 in
theorem above_any (g l : Gd) (w : World) : Calls Try.prog 49 #[aggG g, aggG l] w fun e w' => e = .returned (.bool (upG l g)) ∧ Below w.heap.size w w' := by
  obtain ⟨ge, gc⟩ := g
  obtain ⟨le, lc⟩ := l
  have hup := or2_gt (le, lc) (ge, gc)
  obtain ⟨r0, hr0⟩ : ∃ z, z = cmp3 ge le := ⟨_, rfl⟩
  obtain ⟨r1, hr1⟩ : ∃ z, z = cmp3 gc lc := ⟨_, rfl⟩
  obtain ⟨oz, hoz⟩ : ∃ z, z = or2 r0 r1 := ⟨_, rfl⟩
  dsimp only at hup
  rw [← hr0, ← hr1, ← hoz] at hup
  have HR := Lib.hid (And.intro hr0 (And.intro hr1 hoz))
  generalize upG (le, lc) (ge, gc) = up at *
  have HUP := Lib.hid hup
  unfold aggG
  have hb0 := ((Below.refl w.heap.size w).alloc (Nat.le_refl _) (Obj.cells #[.int .u64 ge, .int .u64 gc] 28)).alloc (by simp) (Obj.cells #[.int .u64 le, .int .u64 lc] 28)
  have HB0 := Lib.hid hb0
  have HBX2 := Lib.hid ((Blk.new w 28 #[.int .u64 ge, .int .u64 gc]).alloc (Obj.cells #[.int .u64 le, .int .u64 lc] 28))
  have HBY := Lib.hid (Blk.newAt (w := w.alloc (Obj.cells #[.int .u64 ge, .int .u64 gc] 28)) 28 #[.int .u64 le, .int .u64 lc] (g := w.heap.size + 1) (by simp))
  clear hr0 hr1 hoz hup hb0
  go_enter Try.func49, Try.ntmps49
  go_wp2_with fail
  generalize (w.alloc (Obj.cells #[.int .u64 ge, .int .u64 gc] 28)).alloc (Obj.cells #[.int .u64 le, .int .u64 lc] 28) = w3 at *
  refine wp_region_spec (fun i => i == 4 || i == 9 || i == 10 || i == 11) (kinds5 r0 r1 oz) (CF w3 (F5 r0 r1)) (by kernel_rfl) (by kernel_rfl) (kinds_inh _) CF.start ?_
  intro ν hν
  have n4 : ν 4 = .int .i64 r0 := hν 4
  have n9 : ν 9 = .int .i64 r1 := hν 9
  obtain ⟨g10, n10⟩ : ∃ g, ν 10 = .slice (some ⟨g, 0, none⟩) 2 2 := hν 10
  have n11 : ν 11 = .int .i64 oz := hν 11
  clear hν
  refine lex_plain (by rfl) rfl ?_
  apply Exists.intro
  refine ⟨fun σ w2 hA hD hC => ?_, ?_⟩
  · clear hA hD hC
    go_simp
    exact And.intro rfl rfl
  simp only [Act.put, List.setIfInBounds_toArray, List.set_cons_succ, List.set_cons_zero, Nat.reduceAdd]
  refine lex_plain (by rfl) rfl ?_
  apply Exists.intro
  refine ⟨fun σ w2 hA hD hC => ?_, ?_⟩
  · have hx := ((HBX2.out.keep hC.1).cell 0)
    simp at hx
    clear hA hD hC
    go_simp
    exact And.intro rfl rfl
  simp only [Act.put, List.setIfInBounds_toArray, List.set_cons_succ, List.set_cons_zero, Nat.reduceAdd]
  refine lex_plain (by rfl) rfl ?_
  apply Exists.intro
  refine ⟨fun σ w2 hA hD hC => ?_, ?_⟩
  · clear hA hD hC
    go_simp
    exact And.intro rfl rfl
  simp only [Act.put, List.setIfInBounds_toArray, List.set_cons_succ, List.set_cons_zero, Nat.reduceAdd]
  refine lex_plain (by rfl) rfl ?_
  apply Exists.intro
  refine ⟨fun σ w2 hA hD hC => ?_, ?_⟩
  · have hx := ((HBY.out.keep hC.1).cell 0)
    simp at hx
    clear hA hD hC
    go_simp
    exact And.intro rfl rfl
  simp only [Act.put, List.setIfInBounds_toArray, List.set_cons_succ, List.set_cons_zero, Nat.reduceAdd]
  refine lex_special (by rfl) rfl (fun σ w2 hA hD hn hC => ?_) ?_
  · go_simp
    refine call_ok F5.stable hC ((cmp_any _ _ _).mono ?_)
    rintro e' w' ⟨rfl, rfl⟩
    exact ⟨_, rfl, (show Value.int .i64 _ = .int .i64 _ from by rw [HR.out.1]), (fun e => by cases e), Below.refl _ _⟩
  rw [n4]
  simp only [Act.put, List.setIfInBounds_toArray, List.set_cons_succ, List.set_cons_zero, Nat.reduceAdd]
  refine lex_plain (by rfl) rfl ?_
  apply Exists.intro
  refine ⟨fun σ w2 hA hD hC => ?_, ?_⟩
  · clear hA hD hC
    go_simp
    exact And.intro rfl rfl
  simp only [Act.put, List.setIfInBounds_toArray, List.set_cons_succ, List.set_cons_zero, Nat.reduceAdd]
  refine lex_plain (by rfl) rfl ?_
  apply Exists.intro
  refine ⟨fun σ w2 hA hD hC => ?_, ?_⟩
  · have hx := ((HBX2.out.keep hC.1).cell 1)
    simp at hx
    clear hA hD hC
    go_simp
    exact And.intro rfl rfl
  simp only [Act.put, List.setIfInBounds_toArray, List.set_cons_succ, List.set_cons_zero, Nat.reduceAdd]
  refine lex_plain (by rfl) rfl ?_
  apply Exists.intro
  refine ⟨fun σ w2 hA hD hC => ?_, ?_⟩
  · clear hA hD hC
    go_simp
    exact And.intro rfl rfl
  simp only [Act.put, List.setIfInBounds_toArray, List.set_cons_succ, List.set_cons_zero, Nat.reduceAdd]
  refine lex_plain (by rfl) rfl ?_
  apply Exists.intro
  refine ⟨fun σ w2 hA hD hC => ?_, ?_⟩
  · have hx := ((HBY.out.keep hC.1).cell 1)
    simp at hx
    clear hA hD hC
    go_simp
    exact And.intro rfl rfl
  simp only [Act.put, List.setIfInBounds_toArray, List.set_cons_succ, List.set_cons_zero, Nat.reduceAdd]
  refine lex_special (by rfl) rfl (fun σ w2 hA hD hn hC => ?_) ?_
  · go_simp
    refine call_ok F5.stable hC ((cmp_any _ _ _).mono ?_)
    rintro e' w' ⟨rfl, rfl⟩
    exact ⟨_, rfl, (show Value.int .i64 _ = .int .i64 _ from by rw [HR.out.2.1]), (fun e => by cases e), Below.refl _ _⟩
  rw [n9]
  simp only [Act.put, List.setIfInBounds_toArray, List.set_cons_succ, List.set_cons_zero, Nat.reduceAdd]
  refine lex_special (by rfl) rfl (fun σ w2 hA hD hn hC => ?_) ?_
  · have e4 := got1 hA hD 4 rfl (by kernel_rfl)
    go_simp
    refine value_ok F5.stable hC ((Below.refl _ _).alloc (Nat.le_refl _) _) ⟨_, rfl⟩ (fun _ => ⟨_, rfl, Blk.new _ _ _⟩)
  rw [n10]
  simp only [Act.put, List.setIfInBounds_toArray, List.set_cons_succ, List.set_cons_zero, Nat.reduceAdd]
  refine lex_special (by rfl) rfl (fun σ w2 hA hD hn hC => ?_) ?_
  · have e10 := got1 hA hD 10 rfl (by kernel_rfl)
    obtain ⟨g', e1, hb⟩ := hC.2 10 _ e10 rfl
    rw [n10] at e1
    simp only [Value.slice.injEq, Option.some.injEq, Addr.mk.injEq, and_true] at e1
    subst e1
    go_simp
    refine call_ok F5.stable hC ((or_any r0 r1 _ 2 w2 (hb.cell 0) (hb.cell 1)).mono ?_)
    rintro e' w' ⟨rfl, rfl⟩
    exact ⟨_, rfl, (show Value.int .i64 _ = .int .i64 _ from by rw [HR.out.2.2]), (fun e => by cases e), Below.refl _ _⟩
  rw [n11]
  simp only [Act.put, List.setIfInBounds_toArray, List.set_cons_succ, List.set_cons_zero, Nat.reduceAdd]
  refine lex_plain (by rfl) rfl ?_
  apply Exists.intro
  refine ⟨fun σ w2 hA hD hC => ?_, ?_⟩
  · clear hA hD hC
    go_simp
    exact And.intro rfl rfl
  simp only [Act.put, List.setIfInBounds_toArray, List.set_cons_succ, List.set_cons_zero, Nat.reduceAdd]
  refine lex_plain (by rfl) rfl ?_
  apply Exists.intro
  refine ⟨fun σ w2 hA hD hC => ?_, ?_⟩
  · clear hA hD hC
    go_simp
    exact And.intro rfl rfl
  simp only [Act.put, List.setIfInBounds_toArray, List.set_cons_succ, List.set_cons_zero, Nat.reduceAdd]
  refine lex_nil (fun σ w9 hA hall hC => ?_)
  have HB9 := Lib.hid (HB0.out.trans (hC.1.mono HB0.out.size))
  clear hA hall hC n4 n9 n10 n11
  go_wp2
  go_ret
  exact ⟨by rw [← HUP.out]; rfl, HB9.out⟩
theorem within_any (k most : Int) (w : World) : Calls Try.prog 48 #[.int .i64 k, .int .i64 most] w fun e w' => e = .returned (.bool (decide (0 ≤ k ∧ k ≤ most))) ∧ w = w' := by
  by_cases h1 : 0 ≤ k
  · by_cases h2 : k ≤ most
    · rw [decide_eq_true (show 0 ≤ k ∧ k ≤ most from ⟨h1, h2⟩)]
      go_enter Try.func48, Try.ntmps48
      go_wp2
      go_ret
      exact ⟨rfl, rfl⟩
    · rw [decide_eq_false (show ¬ (0 ≤ k ∧ k ≤ most) from fun h => h2 h.2)]
      go_enter Try.func48, Try.ntmps48
      go_wp2
      go_ret
      exact ⟨rfl, rfl⟩
  · rw [decide_eq_false (show ¬ (0 ≤ k ∧ k ≤ most) from fun h => h1 h.1)]
    go_enter Try.func48, Try.ntmps48
    go_wp2
    go_ret
    exact ⟨rfl, rfl⟩
def badC (ab : Int) (x : Cg) : Bool := decide (x.1 ≤ ab ∨ 8 ≤ x.1 ∨ x.2.size ≠ 32)
def mayC : Int → List Cg → Bool
  | _, [] => true
  | ab, x :: xs => if badC ab x = true then false else mayC x.1 xs
theorem mayC_step {ab : Int} {cs : List Cg} {k : Nat} (hk : k < cs.length) : mayC ab (cs.drop k) = if badC ab (cs.getD k (0, ByteArray.empty)) = true then false else mayC (cs.getD k (0, ByteArray.empty)).1 (cs.drop (k + 1)) := by
  rw [List.drop_eq_getElem_cons hk]
  have e : cs.getD k (0, ByteArray.empty) = cs[k] := by simp [hk]
  rw [e]
  rfl
set_option maxRecDepth 100000 in
theorem may_any (w : World) (cv : Value) (cs : List Cg) (hcv : InC w cv cs) : Calls Try.prog 50 #[cv] w fun e w' => e = .returned (.bool (mayC (-1) cs)) ∧ Below w.heap.size w w' := by
  obtain ⟨ca, cc, rfl, hcm, hcx⟩ := hcv
  have HCX := Lib.hid hcx
  have HCM := Lib.hid hcm
  have HST := Lib.hid (fun (k : Nat) (hk : k < cs.length) ab => @mayC_step ab cs k hk)
  have HEND := Lib.hid (show ∀ ab, mayC ab (cs.drop cs.length) = true from fun ab => by rw [List.drop_length]; rfl)
  generalize hZ : (fun j => cs.getD j (0, ByteArray.empty)) = Z
  have hZj : ∀ j, cs.getD j (0, ByteArray.empty) = Z j := fun j => by rw [← hZ]
  simp only [hZj] at HCX HST
  clear hZ hZj
  obtain ⟨D, hD0, hDn⟩ : ∃ D : Nat → List Cg, D 0 = cs ∧ ∀ k, D k = cs.drop k := ⟨fun k => cs.drop k, rfl, fun _ => rfl⟩
  simp only [← hDn] at HST HEND
  obtain ⟨X0, hX0⟩ : ∃ X, X = mayC (-1) cs := ⟨_, rfl⟩
  rw [← hX0]
  rw [← hD0] at hX0
  generalize hm : cs.length = m at *
  have HD0 := Lib.hid hX0
  clear hD0 hDn hm hX0 hcx hcm
  go_enter Try.func50, Try.ntmps50
  go_wp2_with fail
  go_loopw [3, 8] (fun ab i wr => ∃ (k : Nat) (z : Int), k ≤ m ∧ i = .int .i64 k ∧ ab = .int .i64 z ∧ Below w.heap.size w wr ∧ X0 = mayC z (D k)) (fun _ i _ => m - (intOf i).toNat)
  case atStart => exact ⟨0, -1, Nat.zero_le _, rfl, rfl, Below.refl _ _, HD0.out⟩
  case round =>
    obtain ⟨k, z, hk, rfl, rfl, hb, hre⟩ := hrel
    have HB := Lib.hid hb
    have HRE := Lib.hid hre
    clear hb hre
    by_cases hkm : k < m
    · obtain ⟨cg, co, rfl, hc0, hc1⟩ := HCX.out k hkm
      have hst := HST.out k hkm z
      replace hc0 := cell_later HB.out hc0
      replace hc1 := cell_later HB.out hc1
      generalize Z k = zk at *
      obtain ⟨xb, xd⟩ := zk
      unfold badC at hst
      dsimp only at hst hc0 hc1
      have i1 : (k : Int) < (m : Int) := by omega
      have I9 := Lib.hid (wrap_succ hkm HCM.out)
      have HKM := Lib.hid hkm
      have HST2 := Lib.hid hst
      have HBN := Lib.hid ((HB.out).alloc HB.out.size (Obj.cells #[.int .i64 xb, .string xd] 76))
      clear hkm hk hst
      by_cases h1 : xb ≤ z
      · have hre := HRE.out
        rw [HST2.out, if_pos (decide_eq_true (.inl h1))] at hre
        have HR := Lib.hid hre
        clear hre
        go_wp2
        go_ret
        exact ⟨by rw [HR.out]; rfl, HBN.out⟩
      · by_cases h2 : 8 ≤ xb
        · have hre := HRE.out
          rw [HST2.out, if_pos (decide_eq_true (.inr (.inl h2)))] at hre
          have HR := Lib.hid hre
          have h1' : z < xb := by omega
          clear hre h1
          go_wp2
          go_ret
          exact ⟨by rw [HR.out]; rfl, HBN.out⟩
        · have h1' : z < xb := by omega
          have h2' : xb < 8 := by omega
          by_cases h3 : xd.size = 32
          · have hre := HRE.out
            rw [HST2.out, if_neg (by simp; omega)] at hre
            have HR := Lib.hid hre
            have h3i : ((xd.size : Nat) : Int) = 32 := by omega
            clear hre h1 h2 h3
            have i9 := I9.out
            go_wp2
            rw [I9.out]
            clear i9 i1 h1' h2' h3i
            exact ⟨⟨k + 1, xb, HKM.out, rfl, rfl, HBN.out, HR.out⟩, meas_succ HKM.out⟩
          · have hre := HRE.out
            rw [HST2.out, if_pos (decide_eq_true (.inr (.inr h3)))] at hre
            have HR := Lib.hid hre
            have e3 : (((xd.size : Nat) : Int) != 32) = true := by simp; omega
            have e0 : (((xd.size : Nat) : Int) == 32) = false := by simp; omega
            have e1 : decide (((xd.size : Nat) : Int) = 32) = false := decide_eq_false (by omega)
            have e2 : decide (xd.size = 32) = false := decide_eq_false h3
            clear hre h1 h2
            go_wp2
            go_ret
            exact ⟨by rw [HR.out]; rfl, HBN.out⟩
    · obtain rfl : k = m := by omega
      have i1 : ¬ ((k : Int) < (k : Int)) := by omega
      have hre := HRE.out
      rw [HEND.out] at hre
      have HR := Lib.hid hre
      clear hkm hk hre
      go_wp2
      go_ret
      exact ⟨by rw [HR.out]; rfl, HB.out⟩
/-- a part -/
structure Prt where
  b : Gd
  t : Gd
  f : Int
  a : Int
  cs : List Cg
def prV (p : Prt) (sv : Value) : Value := .agg #[.int .u64 p.b.1, .int .u64 p.b.2, .int .u64 p.t.1, .int .u64 p.t.2, .int .i64 p.f, .int .i64 p.a, sv]
structure wfPr (p : Prt) : Prop where
  b : wfG p.b
  t : wfG p.t
  f : (Lit.int .i64 p.f).wf = true
  a : (Lit.int .i64 p.a).wf = true
/-- v is read as the part p -/
def InPr (w : World) (v : Value) (p : Prt) : Prop := ∃ sv, v = prV p sv ∧ InC w sv p.cs ∧ wfPr p
theorem InPr.keep {w w' : World} {v : Value} {p : Prt} (h : InPr w v p) (hb : Below w.heap.size w w') : InPr w' v p := by
  obtain ⟨sv, h1, h2, h3⟩ := h
  exact ⟨sv, h1, h2.keep hb, h3⟩
def okP (p : Prt) : Prop := upG p.b p.t = true ∧ (0 ≤ p.a ∧ p.a ≤ 8) ∧ (0 ≤ p.f ∧ p.f ≤ p.a) ∧ (p.cs.length : Int) ≤ min 2 (p.a - p.f) ∧ ¬ (p.cs.length = 0 ∧ 0 < p.a) ∧ mayC (-1) p.cs = true
instance (p : Prt) : Decidable (okP p) := by unfold okP; infer_instance
def checkP (p : Prt) : Int := if okP p then 0 else 2
set_option maxRecDepth 100000 in
set_option maxHeartbeats 1000000 in
theorem check_any (w : World) (v : Value) (p : Prt) (hv : InPr w v p) : Calls Try.prog 31 #[v] w fun e w' => e = .returned (.int .i64 (checkP p)) ∧ Below w.heap.size w w' := by
  obtain ⟨sv, rfl, hc, -⟩ := hv
  have hgood := fun h : okP p => show checkP p = 0 from if_pos h
  have hbad := fun h : ¬ okP p => show checkP p = 2 from if_neg h
  unfold okP at hgood hbad
  generalize checkP p = res at *
  have HMAY := Lib.hid (fun w2 (h : Below w.heap.size w w2) => may_any w2 sv p.cs (hc.keep h))
  obtain ⟨a, c, rfl, hml, -⟩ := hc
  unfold prV
  obtain ⟨⟨be, bc⟩, ⟨te, tc⟩, f, al, cs⟩ := p
  dsimp only at *
  have HBO := Lib.hid ((Below.refl w.heap.size w).alloc (Nat.le_refl _) (Obj.cells #[.int .u64 be, .int .u64 bc, .int .u64 te, .int .u64 tc, .int .i64 f, .int .i64 al, .slice a cs.length c] 31))
  have HBX := Lib.hid (Blk.new w 31 #[.int .u64 be, .int .u64 bc, .int .u64 te, .int .u64 tc, .int .i64 f, .int .i64 al, .slice a cs.length c])
  have HAB := Lib.hid (fun w => above_any (te, tc) (be, bc) w)
  generalize hmc : mayC (-1) cs = mc at *
  generalize upG (be, bc) (te, tc) = up at *
  generalize hn : cs.length = n at *
  clear hmc
  have HG := Lib.hid hgood
  have HBD := Lib.hid hbad
  clear hgood hbad hn
  go_enter Try.func31, Try.ntmps31
  go_wp2_with fail
  generalize w.alloc (Obj.cells #[.int .u64 be, .int .u64 bc, .int .u64 te, .int .u64 tc, .int .i64 f, .int .i64 al, .slice a n c] 31) = w1 at *
  refine (HAB.out _).mono ?_
  rintro e w2 ⟨rfl, hb⟩
  have HB2 := Lib.hid (HBO.out.trans (hb.mono HBO.out.size))
  have hbk := HBX.out.keep hb
  have x4 := hbk.cell 4
  have x5 := hbk.cell 5
  have x6 := hbk.cell 6
  simp at x4 x5 x6
  clear hb hbk HAB HBX HBO
  cases up with
  | false =>
    have HR := Lib.hid (HBD.out (fun h => by cases h.1))
    clear HG HBD
    go_wp2
    go_ret
    exact ⟨by rw [HR.out]; rfl, HB2.out⟩
  | true =>
    go_wp2_with fail
    refine (within_any al 8 _).mono ?_
    rintro e w3 ⟨rfl, rfl⟩
    by_cases h2 : 0 ≤ al ∧ al ≤ 8
    · rw [decide_eq_true h2]
      obtain ⟨p1, p2⟩ := h2
      go_wp2_with fail
      refine (within_any f al _).mono ?_
      rintro e w3 ⟨rfl, rfl⟩
      by_cases h3 : 0 ≤ f ∧ f ≤ al
      · rw [decide_eq_true h3]
        obtain ⟨p3, p4⟩ := h3
        obtain ⟨mn, hmn⟩ : ∃ z, z = min (2 : Int) (al - f) := ⟨_, rfl⟩
        have hmn2 : min (2 : Int) (al - f) = mn := hmn.symm
        have HMN := Lib.hid hmn2
        clear hmn
        by_cases h4 : (n : Int) ≤ mn
        · have h4' : ¬ (mn < (n : Int)) := by omega
          by_cases h5 : n = 0 ∧ 0 < al
          · obtain ⟨rfl, p5⟩ := h5
            have HR := Lib.hid (HBD.out (fun h => h.2.2.2.2.1 ⟨rfl, p5⟩))
            clear HG HBD HMN
            go_wp2
            go_ret
            exact ⟨by rw [HR.out]; rfl, HB2.out⟩
          · have hfin : ∀ r, r = res → Ending.returned (.int .i64 r) = .returned (.int .i64 res) := fun r h => by rw [h]
            have hcase : (n ≠ 0) ∨ (n = 0 ∧ al ≤ 0) := by omega
            have HMAY2 := Lib.hid (HMAY.out w2 HB2.out)
            cases mc with
            | true =>
              have HR := Lib.hid (HG.out ⟨by trivial, ⟨p1, p2⟩, ⟨p3, p4⟩, by rw [HMN.out]; exact h4, h5, by trivial⟩)
              clear HG HBD HMN HMAY hfin h4 h5
              rcases hcase with h6 | ⟨rfl, h6⟩
              · have e1 : ((n : Int) == 0) = false := by simp; omega
                have e2 : decide (n = 0) = false := decide_eq_false h6
                clear h6
                go_wp2_with fail
                refine HMAY2.out.mono ?_
                rintro e w4 ⟨rfl, hb⟩
                have HB4 := Lib.hid (HB2.out.trans (hb.mono HB2.out.size))
                clear hb
                go_wp2
                go_ret
                exact ⟨by rw [HR.out]; rfl, HB4.out⟩
              · go_wp2_with fail
                refine HMAY2.out.mono ?_
                rintro e w4 ⟨rfl, hb⟩
                have HB4 := Lib.hid (HB2.out.trans (hb.mono HB2.out.size))
                clear hb
                go_wp2
                go_ret
                exact ⟨by rw [HR.out]; rfl, HB4.out⟩
            | false =>
              have HR := Lib.hid (HBD.out (fun h => by cases h.2.2.2.2.2))
              clear HG HBD HMN HMAY hfin h4 h5
              rcases hcase with h6 | ⟨rfl, h6⟩
              · have e1 : ((n : Int) == 0) = false := by simp; omega
                have e2 : decide (n = 0) = false := decide_eq_false h6
                clear h6
                go_wp2_with fail
                refine HMAY2.out.mono ?_
                rintro e w4 ⟨rfl, hb⟩
                have HB4 := Lib.hid (HB2.out.trans (hb.mono HB2.out.size))
                clear hb
                go_wp2
                go_ret
                exact ⟨by rw [HR.out]; rfl, HB4.out⟩
              · go_wp2_with fail
                refine HMAY2.out.mono ?_
                rintro e w4 ⟨rfl, hb⟩
                have HB4 := Lib.hid (HB2.out.trans (hb.mono HB2.out.size))
                clear hb
                go_wp2
                go_ret
                exact ⟨by rw [HR.out]; rfl, HB4.out⟩
        · have h4' : mn < (n : Int) := by omega
          have HR := Lib.hid (HBD.out (fun h => by have h7 := h.2.2.2.1; rw [HMN.out] at h7; omega))
          clear HG HBD HMN h4
          go_wp2
          go_ret
          exact ⟨by rw [HR.out]; rfl, HB2.out⟩
      · rw [decide_eq_false h3]
        have HR := Lib.hid (HBD.out (fun h => h3 h.2.2.1))
        clear HG HBD h3
        go_wp2
        go_ret
        exact ⟨by rw [HR.out]; rfl, HB2.out⟩
    · rw [decide_eq_false h2]
      have HR := Lib.hid (HBD.out (fun h => h2 h.2.1))
      clear HG HBD h2
      go_wp2
      go_ret
      exact ⟨by rw [HR.out]; rfl, HB2.out⟩
end Go.Proofs.Ytikimmhkfjaijaa
