/-
  THE LAWS' HELPERS: changes, blocks, round (printed by wip/gen-chm.py).
-/
import Derived.Test.YtjeebpklinpmfaaChL
namespace Go.Proofs.Ytjeebpklinpmfaa
open Go.RowKit Reg Go.WideShapes Go.ChangeShapes

theorem app_chg2 {w : World} {base : Nat} {v u : Value} {cs : List Cg} (ty : TypeId) (x : Cg) (hu : ∃ g c, u = .slice (some ⟨g, 0, none⟩) 1 c ∧ 1 ≤ c ∧ w.rangeAt g 0 (cgL x)) (ho : OwC w base v cs) (hn : cs.length + 1 ≤ 2 ^ 40) (hbase : base ≤ w.heap.size) :
    ∃ v' w', (Builtin.append_ #[37, 37] ty #[v, u]).run Try.prog w = .ok v' w' ∧ AppC w base v (cs ++ [x]) v' w' := by
  obtain ⟨i, hi, hz0, hz1, hz2⟩ := info_parts chg_info
  obtain ⟨g, c, rfl, hc, hr⟩ := hu
  have e1 : cgsL [x] = cgL x := rfl
  have hrd : Rd w 2 (.slice (some ⟨g, 0, none⟩) 1 c) 1 (cgL x) := ⟨rfl, .inr ⟨g, 0, c, rfl, hc, hr⟩⟩
  obtain ⟨v', w', h1, h2, h3, _⟩ := app_own (P := Try.prog) w base 37 ty 48 i _ 2 24 Try.underlying37 hi hz0 hz1 hz2 rfl (by decide) ho.1 hrd (by rw [← e1]; exact cgsL_one _) (by unfold maxLen; omega) (by omega) hbase
  refine ⟨v', w', h1, ⟨?_, by rw [List.length_append, List.length_singleton]; unfold maxLen; omega⟩, h3⟩
  rw [cgsL_append, List.length_append, e1]
  exact h2
/-- while a change is put behind the others -/
structure AC (w0 : World) (base : Nat) (sv : Value) (xs : List Cg) (x : Cg) (σ : Nat → Option Value) (w : World) : Prop where
  pre : σ 14 = none → Below w0.heap.size w0 w
  lit : ∀ u, σ 13 = some u → σ 14 = none → ∃ g c, u = .slice (some ⟨g, 0, none⟩) 1 c ∧ 1 ≤ c ∧ w.rangeAt g 0 (cgL x)
  fin : ∀ u, σ 14 = some u → OwC w base u (xs ++ [x]) ∧ Below base w0 w
  d11 : σ 11 = none → σ 14 = none
  d13 : σ 13 = none → σ 14 = none
  own : OwC w0 base sv xs
  hw : base ≤ w0.heap.size
section
variable {w0 w : World} {base : Nat} {sv : Value} {xs : List Cg} {x : Cg} {σ : Nat → Option Value} {p : Value → Prop}
theorem AC.start (ho : OwC w0 base sv xs) (hw : base ≤ w0.heap.size) : AC w0 base sv xs x (fun _ => none) w0.drew :=
  ⟨fun _ => (Below.refl _ _).drew, (fun _ h => by cases h), (fun _ h => by cases h), fun _ => rfl, fun _ => rfl, ho, hw⟩
theorem AC.below (h : AC w0 base sv xs x σ w) : Below base w0 w := by
  cases e : σ 14 with
  | none => exact (h.pre e).mono h.hw
  | some u => exact (h.fin u e).2
theorem AC.call {f : FuncId} {args : Array Value} {v : Value} (h : AC w0 base sv xs x σ w) (h11 : σ 11 = none) (hp : p v) (hc : Calls Try.prog f args w fun e w' => e = .returned v ∧ Below w.heap.size w w') :
    SpecialOK Try.prog p (fun u => AC w0 base sv xs x (upd σ 11 u)) (.ok (.enter f args) w) := by
  have h14 := h.d11 h11
  refine hc.mono ?_
  rintro e w' ⟨rfl, hb⟩
  refine ⟨v, rfl, hp, ?_, ?_, ?_, ?_, ?_, h.own, h.hw⟩
  all_goals simp only [upd_other _ _ (show (14 : Nat) ≠ 11 by decide), upd_other _ _ (show (13 : Nat) ≠ 11 by decide), upd_same, h14]
  · exact fun _ => (h.pre h14).trans (hb.mono (h.pre h14).size)
  · intro u hu _
    obtain ⟨g, c, e, hc, hr⟩ := h.lit u hu h14
    exact ⟨g, c, e, hc, fun j u hu => cell_later hb (hr j u hu)⟩
  · exact fun _ e => by cases e
  · exact fun e => by cases e
  · exact fun _ => trivial
theorem AC.one (h : AC w0 base sv xs x σ w) (h13 : σ 13 = none) (cc : Array Value) (hcc : cc = (cgL x).toArray) (hp : ∀ b, p (.slice (some ⟨b, 0, none⟩) 1 1)) :
    SpecialOK Try.prog p (fun u => AC w0 base sv xs x (upd σ 13 u)) (.ok (.value (.slice (some ⟨w.heap.size, 0, none⟩) 1 1)) (w.alloc (.cells cc 48))) := by
  have h14 := h.d13 h13
  have hb : Below w.heap.size w (w.alloc (.cells cc 48)) := (Below.refl _ _).alloc (Nat.le_refl _) _
  have hbk := Blk.new w 48 cc
  refine ⟨hp _, ?_, ?_, ?_, ?_, ?_, h.own, h.hw⟩
  all_goals simp only [upd_other _ _ (show (14 : Nat) ≠ 13 by decide), upd_other _ _ (show (11 : Nat) ≠ 13 by decide), upd_same, h14]
  · exact fun _ => (h.pre h14).trans (hb.mono (h.pre h14).size)
  · intro u hu _
    obtain rfl := Option.some.inj hu
    refine ⟨_, _, rfl, Nat.le_refl _, fun j u hu => ?_⟩
    rw [hbk.cell, Nat.zero_add, hcc]
    simpa using hu
  · exact fun _ e => by cases e
  · exact fun _ => trivial
  · exact fun e => by cases e
theorem AC.app (h : AC w0 base sv xs x σ w) (h14 : σ 14 = none) {v11 : Value} (h11 : σ 11 = some v11) {u : Value} (h13 : σ 13 = some u) (hn : xs.length + 1 ≤ 2 ^ 40) (ty : TypeId) (hp : ∀ a c, p (.slice a (xs.length + 1) c)) :
    ∃ v' w', (Builtin.append_ #[37, 37] ty #[sv, u]).run Try.prog w = .ok v' w' ∧ SpecialOK Try.prog p (fun u => AC w0 base sv xs x (upd σ 14 u)) (.ok (.value v') w') := by
  have ho := h.own.keep (h.pre h14)
  have hw := Nat.le_trans h.hw (h.pre h14).size
  obtain ⟨v', w', hr, ha⟩ := app_chg2 ty x (h.lit u h13 h14) ho hn hw
  refine ⟨v', w', hr, ?_, ?_, ?_, ?_, ?_, ?_, h.own, h.hw⟩
  · obtain ⟨a, c, e, -⟩ := ha.1.rd
    subst e
    have := hp a c
    rwa [List.length_append]
  all_goals simp only [upd_other _ _ (show (11 : Nat) ≠ 14 by decide), upd_other _ _ (show (13 : Nat) ≠ 14 by decide), upd_same, h11, h13]
  · exact fun e => by cases e
  · exact fun _ _ e => by cases e
  · intro y hy
    obtain rfl := Option.some.inj hy
    exact ⟨ha.1, ((h.pre h14).mono h.hw).trans (ha.below ho hw)⟩
  · exact fun e => by cases e
  · exact fun e => by cases e
end
def RetC (w : World) (cs : List Cg) (e : Ending) (w' : World) : Prop := ∃ v, e = .returned v ∧ OwC w' w.heap.size v cs ∧ Below w.heap.size w w'
set_option maxRecDepth 100000 in
theorem changes_any (w : World) (v : Value) (ps : List Pt) (hv : InP w v ps) : Calls Try.prog 26 #[v] w (RetC w ((ps.take 10).map cgP)) := by
  obtain ⟨a, c, rfl, hm, hw, hx⟩ := hv
  have hwf := fun j => wfP_getD hw j
  obtain ⟨G, hG⟩ : ∃ G : Nat → List Cg, ∀ k, G k = (ps.take k).map cgP := ⟨_, fun _ => rfl⟩
  have hG0 : G 0 = [] := by rw [hG]; rfl
  have hGs : ∀ k, k < ps.length → G (k + 1) = G k ++ [cgP (ps.getD k (0, 0))] := fun k hk => by
    rw [hG, hG, List.take_add_one, List.map_append]
    simp [hk]
  have hGl : ∀ k, (G k).length ≤ k := fun k => by rw [hG]; simp; omega
  have hGn : G ps.length = (ps.take ps.length).map cgP := hG _
  have hG10 : ps.length ≤ 10 → (ps.take 10).map cgP = G ps.length := fun h => by rw [hG, List.take_of_length_le h, List.take_of_length_le (Nat.le_refl _)]
  have hGten : (ps.take 10).map cgP = G 10 := (hG 10).symm
  rw [hGten]
  rw [hGten] at hG10
  generalize hZ : (fun j => ps.getD j (0, 0)) = Z
  have hZj : ∀ j, ps.getD j (0, 0) = Z j := fun j => by rw [← hZ]
  simp only [hZj] at hx hwf hGs
  clear hZ hZj hG hGn hw hGten
  generalize ps.length = n at *
  have HX := Lib.hid hx
  have HW := Lib.hid hwf
  have HGS := Lib.hid hGs
  have HGL := Lib.hid hGl
  have HG0 := Lib.hid hG0
  have HG10 := Lib.hid hG10
  have HNL := Lib.hid hm
  clear hx hwf hGs hGl hG0 hG10 hm
  go_enter Try.func26, Try.ntmps26
  go_wp2_with fail
  go_loopw [3, 4] (fun l0 i wr => ∃ (k : Nat) (l : Value), k ≤ n ∧ k ≤ 10 ∧ i = .int .i64 k ∧ l = l0 ∧ Below w.heap.size w wr ∧ OwC wr w.heap.size l (G k)) (fun _ i _ => 10 - (intOf i).toNat)
  case atStart => exact ⟨0, _, Nat.zero_le _, Nat.zero_le _, rfl, rfl, Below.refl _ _, by rw [HG0.out]; exact OwC.nil_ _ _⟩
  case round =>
    obtain ⟨k, l, hk, hk10, rfl, rfl, hb, ho⟩ := hrel
    have HB := Lib.hid hb
    have HO := Lib.hid ho
    clear hb ho
    by_cases hkn : k < n
    · by_cases hkt : k < 10
      · obtain ⟨g, off, rfl, hc0, hc1⟩ := HX.out k hkn
        have hwk := HW.out k
        have hsu := HGS.out k hkn
        unfold cgP at hsu
        generalize hz : Z k = zk at *
        obtain ⟨pb, pl⟩ := zk
        dsimp only at hc0 hc1 hsu
        have HSU := Lib.hid hsu
        have hglt : g < w.heap.size := by
          rcases Nat.lt_or_ge g w.heap.size with q | q
          · exact q
          · simp [World.cell?, Array.getElem?_eq_none q] at hc0
        have HC0 := Lib.hid (fun w2 (h2 : Below w.heap.size wr w2) => show w2.cell? ⟨g, off + k * 2, none⟩ = some (.int .i64 pb) ∧ w2.cell? ⟨g, off + k * 2 + 1, none⟩ = some (.int .u8 pl) from ⟨cell_later (HB.out.trans h2) hc0, cell_later (HB.out.trans h2) hc1⟩)
        obtain ⟨nS, hnS⟩ : ∃ n, n = (G k).length := ⟨_, rfl⟩
        have HNS := Lib.hid hnS
        have HGK := Lib.hid (HGL.out k)
        have HDA := Lib.hid (data_any pl hwk.2.1 hwk.2.2)
        have HAC := Lib.hid (AC.start (x := (pb, dataS pl)) HO.out HB.out.size)
        have i1 : (k : Int) < (n : Int) := by omega
        have i2 : (k : Int) < 10 := by omega
        have HKN := Lib.hid (And.intro hkn hkt)
        clear hc0 hc1 hwk hsu hz hglt hnS hkn hkt hk hk10
        go_wp2_with fail
        refine wp_region_spec (fun i => i == 11 || i == 13 || i == 14) (kindsS [(11, .is (.string (dataS pl))), (13, .sl 1)] 14 (nS + 1)) (AC wr w.heap.size l (G k) (pb, dataS pl)) (by kernel_rfl) (by kernel_rfl) (kindsS_inh _ _ _) HAC.out ?_
        intro ν hν
        have n11 : ν 11 = .string (dataS pl) := kindsS_off (hν 11) (by decide)
        obtain ⟨g13, n13⟩ : ∃ g, ν 13 = .slice (some ⟨g, 0, none⟩) 1 1 := kindsS_off (hν 13) (by decide)
        obtain ⟨a14, c14, n14⟩ : ∃ a c, ν 14 = .slice a (nS + 1) c := kindsS_at (hν 14)
        clear hν
        refine lex_plain (by rfl) rfl ?_
        apply Exists.intro
        refine ⟨fun σ w2 hA hD hC => ?_, ?_⟩
        · clear hA hD hC
          go_simp
          exact And.intro rfl rfl
        simp only [Act.put, List.setIfInBounds_toArray, List.set_cons_succ, List.set_cons_zero, Nat.reduceAdd]
        refine lex_plain (by rfl) rfl ?_
        apply Exists.intro
        refine ⟨fun σ w2 hA hD hC => ?_, ?_⟩
        · clear hA hD hC
          go_simp
          exact And.intro rfl rfl
        simp only [Act.put, List.setIfInBounds_toArray, List.set_cons_succ, List.set_cons_zero, Nat.reduceAdd]
        refine lex_plain (by rfl) rfl ?_
        apply Exists.intro
        refine ⟨fun σ w2 hA hD hC => ?_, ?_⟩
        · clear hA hD hC
          go_simp
          exact And.intro rfl rfl
        simp only [Act.put, List.setIfInBounds_toArray, List.set_cons_succ, List.set_cons_zero, Nat.reduceAdd]
        refine lex_plain (by rfl) rfl ?_
        apply Exists.intro
        refine ⟨fun σ w2 hA hD hC => ?_, ?_⟩
        · clear hA hD hC
          go_simp
          exact And.intro rfl rfl
        simp only [Act.put, List.setIfInBounds_toArray, List.set_cons_succ, List.set_cons_zero, Nat.reduceAdd]
        refine lex_plain (by rfl) rfl ?_
        apply Exists.intro
        refine ⟨fun σ w2 hA hD hC => ?_, ?_⟩
        · clear hA hD hC
          go_simp
          exact And.intro rfl rfl
        simp only [Act.put, List.setIfInBounds_toArray, List.set_cons_succ, List.set_cons_zero, Nat.reduceAdd]
        refine lex_plain (by rfl) rfl ?_
        apply Exists.intro
        refine ⟨fun σ w2 hA hD hC => ?_, ?_⟩
        · obtain ⟨x0, x1⟩ := HC0.out w2 hC.below
          clear hA hD hC
          go_simp
          exact And.intro rfl rfl
        simp only [Act.put, List.setIfInBounds_toArray, List.set_cons_succ, List.set_cons_zero, Nat.reduceAdd]
        refine lex_plain (by rfl) rfl ?_
        apply Exists.intro
        refine ⟨fun σ w2 hA hD hC => ?_, ?_⟩
        · clear hA hD hC
          go_simp
          exact And.intro rfl rfl
        simp only [Act.put, List.setIfInBounds_toArray, List.set_cons_succ, List.set_cons_zero, Nat.reduceAdd]
        refine lex_plain (by rfl) rfl ?_
        apply Exists.intro
        refine ⟨fun σ w2 hA hD hC => ?_, ?_⟩
        · clear hA hD hC
          go_simp
          exact And.intro rfl rfl
        simp only [Act.put, List.setIfInBounds_toArray, List.set_cons_succ, List.set_cons_zero, Nat.reduceAdd]
        refine lex_plain (by rfl) rfl ?_
        apply Exists.intro
        refine ⟨fun σ w2 hA hD hC => ?_, ?_⟩
        · clear hA hD hC
          go_simp
          exact And.intro rfl rfl
        simp only [Act.put, List.setIfInBounds_toArray, List.set_cons_succ, List.set_cons_zero, Nat.reduceAdd]
        refine lex_plain (by rfl) rfl ?_
        apply Exists.intro
        refine ⟨fun σ w2 hA hD hC => ?_, ?_⟩
        · clear hA hD hC
          go_simp
          exact And.intro rfl rfl
        simp only [Act.put, List.setIfInBounds_toArray, List.set_cons_succ, List.set_cons_zero, Nat.reduceAdd]
        refine lex_plain (by rfl) rfl ?_
        apply Exists.intro
        refine ⟨fun σ w2 hA hD hC => ?_, ?_⟩
        · obtain ⟨x0, x1⟩ := HC0.out w2 hC.below
          clear hA hD hC
          go_simp
          exact And.intro rfl rfl
        simp only [Act.put, List.setIfInBounds_toArray, List.set_cons_succ, List.set_cons_zero, Nat.reduceAdd]
        refine lex_special (by rfl) rfl (fun σ w2 hA hD hn hC => ?_) ?_
        · go_simp
          exact hC.call hn (by unfold kindsS; rw [if_neg (by decide)]; exact rfl) (HDA.out _)
        rw [n11]
        simp only [Act.put, List.setIfInBounds_toArray, List.set_cons_succ, List.set_cons_zero, Nat.reduceAdd]
        refine lex_plain (by rfl) rfl ?_
        apply Exists.intro
        refine ⟨fun σ w2 hA hD hC => ?_, ?_⟩
        · clear hA hD hC
          go_simp
          exact And.intro rfl rfl
        simp only [Act.put, List.setIfInBounds_toArray, List.set_cons_succ, List.set_cons_zero, Nat.reduceAdd]
        refine lex_special (by rfl) rfl (fun σ w2 hA hD hn hC => ?_) ?_
        · go_simp
          exact hC.one hn _ rfl (fun b => by unfold kindsS; rw [if_neg (by decide)]; exact ⟨b, rfl⟩)
        rw [n13]
        simp only [Act.put, List.setIfInBounds_toArray, List.set_cons_succ, List.set_cons_zero, Nat.reduceAdd]
        refine lex_special (by rfl) rfl (fun σ w2 hA hD hn hC => ?_) ?_
        · have e11 := got1 hA hD 11 rfl (by kernel_rfl)
          have e13 := got1 hA hD 13 rfl (by kernel_rfl)
          rw [n13] at e13
          obtain ⟨v', w', hr, hs⟩ := hC.app (p := kindsS [(11, .is (.string (dataS pl))), (13, .sl 1)] 14 (nS + 1) 14) hn e11 e13 (by have := HGK.out; have := HKN.out.2; omega) 37 (fun a c => by unfold kindsS; rw [if_pos rfl]; exact ⟨a, c, by rw [HNS.out]⟩)
          rw [exec_append (.tmp 15) (.tmp 28) 37 rfl _ _ rfl rfl _ hr]
          exact hs
        rw [n14]
        simp only [Act.put, List.setIfInBounds_toArray, List.set_cons_succ, List.set_cons_zero, Nat.reduceAdd]
        refine lex_plain (by rfl) rfl ?_
        apply Exists.intro
        refine ⟨fun σ w2 hA hD hC => ?_, ?_⟩
        · clear hA hD hC
          go_simp
          exact And.intro rfl rfl
        simp only [Act.put, List.setIfInBounds_toArray, List.set_cons_succ, List.set_cons_zero, Nat.reduceAdd]
        refine lex_nil (fun σ w9 hA hall hC => ?_)
        have s14 := hall 14 rfl (by decide)
        rw [n14] at s14
        have HF := Lib.hid (hC.fin _ s14)
        clear hA hall hC n11 n13 n14 s14
        go_wp2
        clear i1 i2
        exact ⟨⟨k + 1, _, HKN.out.1, HKN.out.2, rfl, rfl, HB.out.trans HF.out.2, by rw [HSU.out]; exact HF.out.1⟩, meas_succ HKN.out.2⟩
      · obtain rfl : k = 10 := by omega
        have i1 : (10 : Int) < (n : Int) := by omega
        clear hkn hkt hk hk10
        go_wp2
        go_ret
        exact ⟨_, rfl, HO.out, HB.out⟩
    · obtain rfl : k = n := by omega
      have i1 : ¬ ((k : Int) < (k : Int)) := by omega
      have H10 := Lib.hid (HG10.out hk10)
      clear hkn hk hk10
      go_wp2
      go_ret
      exact ⟨_, rfl, by rw [H10.out]; exact HO.out, HB.out⟩
end Go.Proofs.Ytjeebpklinpmfaa
