/-
  THE DOCUMENT'S MODEL: Snap, walked (printed by wip/gen-refm7.py).
-/
import Derived.Test.YtfeinafbimpjnaaRefM6
namespace Go.Proofs.Ytfeinafbimpjnaa
open Go.RowKit Reg Go.WideShapes Go.ChangeShapes

def Rf.snap (R : Rf) (g : Gd) : Rf := if ix R.lk g.1 < R.lk.length ∧ R.has g = false then R.snapped g (R.lt.getD (ix R.lk g.1) []) else R
theorem exec_append {P : Program} {w w' : World} {o : Oper} {a : Act} (s x : Operand) (t : TypeId) (ho : o.op = .call { callee := .builtin .append, args := #[s, x], argTypes := #[t, t] }) (v u : Value) (hs : a.eval s = v) (hx : a.eval x = u) (v' : Value)
    (hr : (Builtin.append_ #[t, t] o.type #[v, u]).run P w = .ok v' w') : (execOp a.eval o).run P w = .ok (.value v') w' := by
  unfold execOp
  simp only [ho, resolve, invoke, builtin, Sem.run_bind, Sem.run_pure, Result.andThen_ok, List.map_toArray, List.map_cons, List.map_nil, hs, hx, hr]
section
variable {ops : Array Oper} {md : Region.Mode} {i s m : Nat}
theorem dep_at (n : Nat) (h : directB ops md i s = true) : depB ops md (n + 1) i s = true := by
  unfold directB at h
  cases ho : ops[i]? with
  | none => rw [ho] at h; cases h
  | some o =>
    rw [ho] at h
    simp only [Array.any_eq_true, Bool.and_eq_true] at h
    obtain ⟨k, hk, hb, he⟩ := h
    simp only [depB, ho, Array.any_eq_true, Bool.and_eq_true, Bool.or_eq_true]
    exact ⟨k, hk, hb, .inl he⟩
theorem dep_two (n : Nat) (h1 : directB ops md i m = true) (h2 : directB ops md m s = true) : depB ops md (n + 2) i s = true := by
  have h3 := dep_at n h2
  unfold directB at h1
  cases ho : ops[i]? with
  | none => rw [ho] at h1; cases h1
  | some o =>
    rw [ho] at h1
    simp only [Array.any_eq_true, Bool.and_eq_true] at h1
    obtain ⟨k, hk, hb, he⟩ := h1
    rw [depB, ho]
    simp only [Array.any_eq_true, Bool.and_eq_true, Bool.or_eq_true]
    refine ⟨k, hk, hb, .inr ?_⟩
    have : o.after[k].on = m := by simpa using he
    rw [this]
    exact h3
theorem got2 {σ : Nat → Option Value} {ν : Nat → Value} {sp : Nat → Bool} (hA : Agree σ ν) (hD : Deps ops md sp i σ) (s m : Nat) (hs : sp s = true) (h1 : directB ops md i m = true) (h2 : directB ops md m s = true) (hz : 2 ≤ ops.size) : σ s = some (ν s) := by
  obtain ⟨n, hn⟩ : ∃ n, ops.size = n + 2 := ⟨ops.size - 2, by omega⟩
  exact got hA hD s hs (by rw [hn]; exact dep_two n h1 h2)
end
/-- what the special operations of Snap's region give -/
def kindsN (si : Value) (n m : Nat) (s : Nat) (u : Value) : Prop :=
  if s = 14 then ∃ a c, u = .slice a n c else if s = 17 then ∃ a c, u = .slice a m c else kinds [(4, .is si), (16, .sl 1), (20, .is undef)] s u
theorem kindsN_inh (si : Value) (n m s : Nat) : ∃ u, kindsN si n m s u := by
  unfold kindsN
  split
  · exact ⟨.slice none n 0, none, 0, rfl⟩
  · split
    · exact ⟨.slice none m 0, none, 0, rfl⟩
    · exact kinds_inh _ s
set_option maxRecDepth 100000 in
theorem rsnap_any (w : World) (base q : Nat) (R : Rf) (g : Gd) (h : RM w base q R) (hbase : base ≤ w.heap.size) (h80 : R.lk.length ≤ 1000) (h81 : R.ik.length ≤ 1000) :
    Calls Try.prog 16 #[.pointer (some ⟨q, 0, none⟩), aggG g] w fun e' w' => e' = .returned (.tuple #[]) ∧ RM w' base q (R.snap g) ∧ Kr base w w' := by
  have hb0 := (Below.refl w.heap.size w).alloc (Nat.le_refl _) (Obj.cells #[.int .u64 g.1, .int .u64 g.2] 34)
  have bg := Blk.new w 34 #[.int .u64 g.1, .int .u64 g.2]
  have h1 := h.keep hb0
  have hep := epoch_any _ base q R g.1 h1 h80
  have him := fun w2 (h2 : RM w2 base q R) => rimage_any w2 base q R g h2 h81
  obtain ⟨R', hR'⟩ : ∃ z, z = R.snap g := ⟨_, rfl⟩
  rw [← hR']
  unfold Rf.snap at hR'
  unfold aggG at him ⊢
  obtain ⟨ga, gb⟩ := g
  simp only at him bg hb0 hep h1 hR' ⊢
  have HEP := Lib.hid hep
  have HIM := Lib.hid him
  have HM0 := Lib.hid h
  have HB := Lib.hid hb0
  have HBG := Lib.hid bg
  have HBA := Lib.hid hbase
  have H80 := Lib.hid h80
  have H81 := Lib.hid h81
  have HR' := Lib.hid hR'
  clear hep him h h1 hb0 bg hbase h80 h81 hR'
  obtain ⟨ep, hep⟩ : ∃ z, z = R.ep ga := ⟨_, rfl⟩
  rw [← hep] at HEP
  have HEPV := Lib.hid hep
  clear hep
  go_enter Try.func16, Try.ntmps16
  go_wp2_with fail
  generalize w.alloc (Obj.cells #[.int .u64 ga, .int .u64 gb] 34) = w1 at *
  obtain ⟨qx, hqx⟩ : ∃ z, z = w.heap.size := ⟨_, rfl⟩
  rw [← hqx] at HBG
  rw [← hqx]
  clear hqx
  refine HEP.out.mono ?_
  rintro e' w2 ⟨rfl, hb⟩
  have HB2 := Lib.hid (HB.out.trans (hb.mono HB.out.size))
  have HBG2 := Lib.hid (HBG.out.keep hb)
  have d0 := HBG2.out.cell 0
  have d1 := HBG2.out.cell 1
  simp at d0 d1
  clear hb HEP HBG HB
  go_wp2_with fail
  refine (HIM.out _ (HM0.out.keep HB2.out)).mono ?_
  rintro e' w3 ⟨u, rfl, ho, hb⟩
  have HB3 := Lib.hid (HB2.out.trans (hb.mono HB2.out.size))
  have HBG3 := Lib.hid (HBG2.out.keep hb)
  clear ho hb HIM d0 d1 HBG2
  obtain ⟨has, hhas⟩ : ∃ z, z = R.has (ga, gb) := ⟨_, rfl⟩
  rw [← hhas] at HR'
  rw [← hhas]
  clear hhas
  by_cases hi : ix R.lk ga < R.lk.length
  · have he : ep = (ix R.lk ga : Nat) := by rw [HEPV.out]; unfold Rf.ep; rw [if_pos hi]
    subst he
    clear HEPV
    cases has with
    | true =>
      have hr := HR'.out
      rw [if_neg (fun h => by cases h.2)] at hr
      have HR2 := Lib.hid hr
      clear hr HR' hi
      generalize ix R.lk ga = i at *
      have i0 : (0 : Int) ≤ (i : Int) := by omega
      go_wp2
      go_end0
      exact ⟨rfl, by rw [HR2.out]; exact HM0.out.keep HB3.out, .of_below HB3.out⟩
    | false =>
      have hr := HR'.out
      rw [if_pos ⟨hi, rfl⟩] at hr
      have HR2 := Lib.hid hr
      clear hr HR'
      generalize ix R.lk ga = i at *
      obtain ⟨sl, si, sc, lv, iv, hx⟩ := HM0.out
      have hx := hx.keep HB3.out
      obtain ⟨la, lc, rfl, hol⟩ := hx.openL
      obtain ⟨gl, rfl, -, hlc⟩ := hol i hi
      obtain ⟨ia, ic, rfl, -⟩ := hx.openI
      have hel := hx.el i hi
      obtain ⟨zs, hzs⟩ : ∃ z, z = R.lt.getD i [] := ⟨_, rfl⟩
      rw [← hzs] at hel HR2
      obtain ⟨ui, hui⟩ : ∃ z, z = lv.getD i nilV := ⟨_, rfl⟩
      rw [← hui] at hel hlc
      obtain ⟨ua, uc, rfl, -, -⟩ := hel.1.rd.open_
      have i0 : (0 : Int) ≤ (i : Int) := by omega
      have i1 : (i : Int) < (R.lk.length : Int) := by omega
      have i9 : (i : Int) < 9223372036854775807 := by have := H80.out; omega
      have HLC := Lib.hid hlc
      have HX := Lib.hid hx
      have HEL := Lib.hid hel
      have HZ20 := Lib.hid (show zs.length ≤ 2 ^ 20 by have := hel.2; have := hx.n; omega)
      have HBS := Lib.hid (Nat.le_trans HBA.out HB3.out.size)
      have hkr := Kr.of_below (base := base) HB3.out
      have HKR := Lib.hid hkr
      clear hi hx hol hlc hel hzs hui hkr
      generalize hln : zs.length = nz at *
      generalize R.lk.length = nl at *
      have HLN := Lib.hid hln
      clear hln
      go_wp2_with fail
      refine wp_region_spec (fun i => i == 4 || i == 14 || i == 16 || i == 17 || i == 20) (kindsN (.slice ia R.ik.length ic) nz (R.ik.length + 1)) (SN w3 base q qx gl R (.slice (some ⟨gl, 0, none⟩) nl lc) (.slice ia R.ik.length ic) sc (.slice ua nz uc) lv iv (ga, gb) i zs) (by kernel_rfl) (by kernel_rfl) (kindsN_inh _ _ _) (SN.start HX.out HBG3.out HLC.out HEL.out.1) ?_
      intro ν hν
      have n4 : ν 4 = .slice ia R.ik.length ic := hν 4
      obtain ⟨a14, c14, n14⟩ : ∃ a c, ν 14 = .slice a nz c := hν 14
      obtain ⟨g16, n16⟩ : ∃ g, ν 16 = .slice (some ⟨g, 0, none⟩) 1 1 := hν 16
      obtain ⟨a17, c17, n17⟩ : ∃ a c, ν 17 = .slice a (R.ik.length + 1) c := hν 17
      have n20 : ν 20 = undef := hν 20
      clear hν
      refine lex_plain (by rfl) rfl ?_
      apply Exists.intro
      refine ⟨fun σ w2 hA hD hC => ?_, ?_⟩
      · clear hA hD hC
        go_simp
        exact And.intro rfl rfl
      simp only [Act.put, List.setIfInBounds_toArray, List.set_cons_succ, List.set_cons_zero, Nat.reduceAdd]
      refine lex_plain (by rfl) rfl ?_
      apply Exists.intro
      refine ⟨fun σ w2 hA hD hC => ?_, ?_⟩
      · clear hA hD hC
        go_simp
        exact And.intro rfl rfl
      simp only [Act.put, List.setIfInBounds_toArray, List.set_cons_succ, List.set_cons_zero, Nat.reduceAdd]
      refine lex_plain (by rfl) rfl ?_
      apply Exists.intro
      refine ⟨fun σ w2 hA hD hC => ?_, ?_⟩
      · clear hA hD hC
        go_simp
        exact And.intro rfl rfl
      simp only [Act.put, List.setIfInBounds_toArray, List.set_cons_succ, List.set_cons_zero, Nat.reduceAdd]
      refine lex_plain (by rfl) rfl ?_
      apply Exists.intro
      refine ⟨fun σ w2 hA hD hC => ?_, ?_⟩
      · clear hA hD hC
        go_simp
        exact And.intro rfl rfl
      simp only [Act.put, List.setIfInBounds_toArray, List.set_cons_succ, List.set_cons_zero, Nat.reduceAdd]
      refine lex_special (by rfl) rfl (fun σ w2 hA hD hn hC => ?_) ?_
      · have hc3 := (hC.m0 (Decidable.byContradiction fun e => hC.d4 e hn)).obj.cell 2
        simp at hc3
        go_simp
        exact hC.load hn rfl
      rw [n4]
      simp only [Act.put, List.setIfInBounds_toArray, List.set_cons_succ, List.set_cons_zero, Nat.reduceAdd]
      refine lex_plain (by rfl) rfl ?_
      apply Exists.intro
      refine ⟨fun σ w2 hA hD hC => ?_, ?_⟩
      · have hx0 := hC.bx.cell 0
        have hx1 := hC.bx.cell 1
        simp at hx0 hx1
        clear hA hD hC
        go_simp
        exact And.intro rfl rfl
      simp only [Act.put, List.setIfInBounds_toArray, List.set_cons_succ, List.set_cons_zero, Nat.reduceAdd]
      refine lex_plain (by rfl) rfl ?_
      apply Exists.intro
      refine ⟨fun σ w2 hA hD hC => ?_, ?_⟩
      · clear hA hD hC
        go_simp
        exact And.intro rfl rfl
      simp only [Act.put, List.setIfInBounds_toArray, List.set_cons_succ, List.set_cons_zero, Nat.reduceAdd]
      refine lex_plain (by rfl) rfl ?_
      apply Exists.intro
      refine ⟨fun σ w2 hA hD hC => ?_, ?_⟩
      · clear hA hD hC
        go_simp
        exact And.intro rfl rfl
      simp only [Act.put, List.setIfInBounds_toArray, List.set_cons_succ, List.set_cons_zero, Nat.reduceAdd]
      refine lex_plain (by rfl) rfl ?_
      apply Exists.intro
      refine ⟨fun σ w2 hA hD hC => ?_, ?_⟩
      · clear hA hD hC
        go_simp
        exact And.intro rfl rfl
      simp only [Act.put, List.setIfInBounds_toArray, List.set_cons_succ, List.set_cons_zero, Nat.reduceAdd]
      refine lex_plain (by rfl) rfl ?_
      apply Exists.intro
      refine ⟨fun σ w2 hA hD hC => ?_, ?_⟩
      · have hq1 := hC.q1
        clear hA hD hC
        go_simp
        exact And.intro rfl rfl
      simp only [Act.put, List.setIfInBounds_toArray, List.set_cons_succ, List.set_cons_zero, Nat.reduceAdd]
      refine lex_plain (by rfl) rfl ?_
      apply Exists.intro
      refine ⟨fun σ w2 hA hD hC => ?_, ?_⟩
      · clear hA hD hC
        go_simp
        exact And.intro rfl rfl
      simp only [Act.put, List.setIfInBounds_toArray, List.set_cons_succ, List.set_cons_zero, Nat.reduceAdd]
      refine lex_plain (by rfl) rfl ?_
      apply Exists.intro
      refine ⟨fun σ w2 hA hD hC => ?_, ?_⟩
      · clear hA hD hC
        go_simp
        exact And.intro rfl rfl
      simp only [Act.put, List.setIfInBounds_toArray, List.set_cons_succ, List.set_cons_zero, Nat.reduceAdd]
      refine lex_plain (by rfl) rfl ?_
      apply Exists.intro
      refine ⟨fun σ w2 hA hD hC => ?_, ?_⟩
      · clear hA hD hC
        go_simp
        exact And.intro rfl rfl
      simp only [Act.put, List.setIfInBounds_toArray, List.set_cons_succ, List.set_cons_zero, Nat.reduceAdd]
      refine lex_plain (by rfl) rfl ?_
      apply Exists.intro
      refine ⟨fun σ w2 hA hD hC => ?_, ?_⟩
      · have hlc := hC.lc
        clear hA hD hC
        go_simp
        exact And.intro rfl rfl
      simp only [Act.put, List.setIfInBounds_toArray, List.set_cons_succ, List.set_cons_zero, Nat.reduceAdd]
      refine lex_special (by rfl) rfl (fun σ w2 hA hD hn hC => ?_) ?_
      · go_simp
        exact hC.copy hn (by rw [HLN.out]; exact HZ20.out) (fun a c => ⟨a, c, by rw [HLN.out]⟩)
      rw [n14]
      simp only [Act.put, List.setIfInBounds_toArray, List.set_cons_succ, List.set_cons_zero, Nat.reduceAdd]
      refine lex_plain (by rfl) rfl ?_
      apply Exists.intro
      refine ⟨fun σ w2 hA hD hC => ?_, ?_⟩
      · clear hA hD hC
        go_simp
        exact And.intro rfl rfl
      simp only [Act.put, List.setIfInBounds_toArray, List.set_cons_succ, List.set_cons_zero, Nat.reduceAdd]
      refine lex_special (by rfl) rfl (fun σ w2 hA hD hn hC => ?_) ?_
      · have e14 := got2 hA hD 14 15 rfl (by kernel_rfl) (by kernel_rfl) (by decide)
        rw [n14] at e14
        go_simp
        exact hC.lay hn e14 _ rfl (fun b => ⟨b, rfl⟩)
      rw [n16]
      simp only [Act.put, List.setIfInBounds_toArray, List.set_cons_succ, List.set_cons_zero, Nat.reduceAdd]
      refine lex_special (by rfl) rfl (fun σ w2 hA hD hn hC => ?_) ?_
      · have e4 := got1 hA hD 4 rfl (by kernel_rfl)
        have e16 := got1 hA hD 16 rfl (by kernel_rfl)
        rw [n16] at e16
        have h14 : σ 14 = some (ν 14) := by
          cases e : σ 14 with
          | none => exact absurd e (hC.d14 (by rw [e16]; simp))
          | some v => rw [hA 14 v e]
        rw [n14] at h14
        obtain ⟨v', w', hr, hs⟩ := hC.app (p := kindsN (.slice ia R.ik.length ic) nz (R.ik.length + 1) 17) HBS.out rfl hn (by rw [e4]; simp) h14 e16 H81.out 28 (fun a c => ⟨a, c, rfl⟩)
        rw [exec_append (.tmp 27) (.tmp 39) 28 rfl _ _ rfl rfl _ hr]
        exact hs
      rw [n17]
      simp only [Act.put, List.setIfInBounds_toArray, List.set_cons_succ, List.set_cons_zero, Nat.reduceAdd]
      refine lex_plain (by rfl) rfl ?_
      apply Exists.intro
      refine ⟨fun σ w2 hA hD hC => ?_, ?_⟩
      · clear hA hD hC
        go_simp
        exact And.intro rfl rfl
      simp only [Act.put, List.setIfInBounds_toArray, List.set_cons_succ, List.set_cons_zero, Nat.reduceAdd]
      refine lex_plain (by rfl) rfl ?_
      apply Exists.intro
      refine ⟨fun σ w2 hA hD hC => ?_, ?_⟩
      · clear hA hD hC
        go_simp
        exact And.intro rfl rfl
      simp only [Act.put, List.setIfInBounds_toArray, List.set_cons_succ, List.set_cons_zero, Nat.reduceAdd]
      refine lex_special (by rfl) rfl (fun σ w2 hA hD hn hC => ?_) ?_
      · have e17 := got1 hA hD 17 rfl (by kernel_rfl)
        rw [n17] at e17
        have h14 : σ 14 = some (ν 14) := by
          cases e : σ 14 with
          | none => exact absurd e (hC.d14 (hC.d16 (by rw [e17]; simp)))
          | some v => rw [hA 14 v e]
        have hb := hC.blk e17 h14 hn
        have hf3 := hb.frozen 2
        have hc3 := hb.cell 2
        simp at hc3
        go_simp
        exact hC.store HX.out HBS.out rfl (HLN.out.trans HEL.out.2) e17 h14 hn rfl
      rw [n20]
      simp only [Act.put, Nat.reduceAdd]
      refine lex_nil (fun σ w9 hA hall hC => ?_)
      have s20 := hall 20 rfl (by decide)
      rw [n20] at s20
      have HF := Lib.hid (show RM _ base q R' from by rw [HR2.out]; exact hC.m2 (by rw [s20]; simp))
      have HK := Lib.hid (HKR.out.trans hC.kr)
      clear hA hall hC s20 n4 n14 n16 n17 n20
      go_wp2
      go_end0
      exact ⟨rfl, HF.out, HK.out⟩
  · have he : ep = -1 := by rw [HEPV.out]; unfold Rf.ep; rw [if_neg hi]
    subst he
    have hr := HR'.out
    rw [if_neg (fun h => hi h.1)] at hr
    have HR2 := Lib.hid hr
    clear hr HR' hi HEPV
    go_wp2
    go_end0
    exact ⟨rfl, by rw [HR2.out]; exact HM0.out.keep HB3.out, .of_below HB3.out⟩
end Go.Proofs.Ytfeinafbimpjnaa
