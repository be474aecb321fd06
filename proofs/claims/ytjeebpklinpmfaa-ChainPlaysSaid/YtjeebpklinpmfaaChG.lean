/-
  CHAINS: Add, Rollback (printed by wip/gen-chg.py).
-/
import Derived.Test.YtjeebpklinpmfaaChF
namespace Go.Proofs.Ytjeebpklinpmfaa
open Go.RowKit Reg Go.WideShapes Go.ChangeShapes

/-- a change: a block, what it holds then -/
abbrev Cg := Int × ByteArray
/-- v is read as the changes cs -/
def InC (w : World) (v : Value) (cs : List Cg) : Prop :=
  ∃ a c, v = .slice a cs.length c ∧ cs.length ≤ maxLen ∧ ∀ j, j < cs.length → ∃ g off, a = some ⟨g, off, none⟩ ∧ w.cell? ⟨g, off + j * 2, none⟩ = some (.int .i64 (cs.getD j (0, ByteArray.empty)).1) ∧ w.cell? ⟨g, off + j * 2 + 1, none⟩ = some (.string (cs.getD j (0, ByteArray.empty)).2)
theorem InC.keep {w w' : World} {v : Value} {cs : List Cg} (h : InC w v cs) (hb : Below w.heap.size w w') : InC w' v cs := by
  obtain ⟨a, c, rfl, hm, hx⟩ := h
  refine ⟨a, c, rfl, hm, fun j hj => ?_⟩
  obtain ⟨g, off, rfl, h1, h2⟩ := hx j hj
  exact ⟨g, off, rfl, cell_later hb h1, cell_later hb h2⟩
theorem InC.nil_ (w : World) (a : Option Addr) (c : Nat) : InC w (.slice a 0 c) [] := ⟨a, c, rfl, Nat.zero_le _, fun j hj => by simp at hj⟩
def addR (n : Nat) : Vo → Int → List Cg → Option Vo
  | v, _, [] => some v
  | v, ab, x :: xs => if mayB n x.1 x.2 = true ∧ ab < x.1 then addR n (v.set x.1.toNat x.2) x.1 xs else none
def Ch.addE (C : Ch) (g : Gd) (cs : List Cg) : Int := if C.next g = 0 then (match addR C.n C.last.vol (-1) cs with | some _ => 0 | none => 2) else C.next g
def Ch.add (C : Ch) (g : Gd) (cs : List Cg) : Ch := if C.next g = 0 then (match addR C.n C.last.vol (-1) cs with | some v => { C.put ⟨v, g, false⟩ with live := v } | none => C) else C
theorem addR_step {n : Nat} {v : Vo} {ab : Int} {cs : List Cg} {k : Nat} (hk : k < cs.length) :
    addR n v ab (cs.drop k) = if mayB n (cs.getD k (0, ByteArray.empty)).1 (cs.getD k (0, ByteArray.empty)).2 = true ∧ ab < (cs.getD k (0, ByteArray.empty)).1 then
      addR n (v.set (cs.getD k (0, ByteArray.empty)).1.toNat (cs.getD k (0, ByteArray.empty)).2) (cs.getD k (0, ByteArray.empty)).1 (cs.drop (k + 1)) else none := by
  rw [List.drop_eq_getElem_cons hk]
  have e : cs.getD k (0, ByteArray.empty) = cs[k] := by simp [hk]
  rw [e]
  rfl
theorem kp_setCells (b : Nat) : ∀ (vs : List Value) (o : Nat) (w : World), Kp (· = b) w (w.setCells b o vs)
  | [], _, w => Kp.refl _ w
  | u :: vs, o, w => by
    have h1 : Kp (· = b) w (w.setCell ⟨b, o, none⟩ u) := ⟨(Below.refl 0 w).setCell (Nat.zero_le _) _, fun i _ hn => Below.heap_setCell w _ _ i hn⟩
    exact h1.trans (kp_setCells b vs (o + 1) _)
def setMany : Array Value → Nat → List Value → Array Value
  | cs, _, [] => cs
  | cs, o, u :: us => setMany (cs.setIfInBounds o u) (o + 1) us
theorem blk_setCells {g : Nat} {t : TypeId} : ∀ (vs : List Value) (o : Nat) (w : World) (cs : Array Value), Blk w g t cs → Blk (w.setCells g o vs) g t (setMany cs o vs)
  | [], _, _, _, h => h
  | u :: vs, o, _, _, h => blk_setCells vs (o + 1) _ _ (h.set o u)
theorem setMany_mid : ∀ (vs old pre tail : List Value), old.length = vs.length → setMany (pre ++ (old ++ tail)).toArray pre.length vs = (pre ++ (vs ++ tail)).toArray
  | [], old, pre, tail, h => by
    obtain rfl : old = [] := List.length_eq_zero_iff.1 h
    rfl
  | u :: vs, old, pre, tail, h => by
    cases old with
    | nil => cases h
    | cons x old =>
      have ih := setMany_mid vs old (pre ++ [u]) tail (by simpa using h)
      unfold setMany
      rw [List.setIfInBounds_toArray, List.set_append_right _ _ (Nat.le_refl _), Nat.sub_self]
      simpa using ih
theorem Cm.relive {w : World} {bc : Nat} {sl : Value} {C : Ch} (h : Cm w bc sl C) {v : Vo} (hv : wfV v) :
    w.there bc 0 (voL v).toArray.size ∧ Cm (w.setCells bc 0 (voL v).toArray.toList) bc sl { C with live := v } ∧ Kp (· = bc) w (w.setCells bc 0 (voL v).toArray.toList) := by
  have hl := voL_length hv
  have hk := kp_setCells bc (voL v).toArray.toList 0 w
  refine ⟨fun j hj => ?_, ⟨?_, h.snaps.kp hk (fun b hb => h.ne_own hb), h.n, hv⟩, hk⟩
  · rw [h.obj.cell, h.obj.frozen]
    rw [List.size_toArray, hl] at hj
    have hc := chL_length h.live sl
    simp
    omega
  · have h8 := blk_setCells (voL v).toArray.toList 0 w _ h.obj
    have e := setMany_mid (voL v) (voL C.live) [] [.int .i64 C.n, sl] (by rw [hl, voL_length h.live])
    simp only [List.nil_append, List.length_nil] at e
    unfold chL at h8
    rw [show (voL v).toArray.toList = voL v from rfl, e] at h8
    exact h8
theorem wrap_succ {k m : Nat} (h : k < m) (hm : m ≤ maxLen) : wrap64 ((k : Int) + 1) = (k : Int) + 1 := by
  unfold maxLen at hm
  exact IntWalk.wrap64_in _ (by omega)
theorem meas_succ {k m : Nat} (h : k < m) : m - (intOf (Value.int .i64 ((k : Int) + 1))).toNat < m - (intOf (Value.int .i64 (k : Int))).toNat := by
  simp [intOf]
  omega
theorem vol_set {v : Vo} (i : Nat) (d : ByteArray) : (voL v).toArray.setIfInBounds i (.string d) = (voL (v.set i d)).toArray := by
  simp [voL, List.map_set]
theorem vol_at {v : Vo} (hv : wfV v) {i : Nat} (hi : i < 8) : (voL v)[i]? = some (.string (v.getD i ByteArray.empty)) := by
  have := hv.1
  simp [voL, show i < v.length by omega]
section
variable {w : World} {bc : Nat} {sl : Value} {C : Ch}
set_option maxRecDepth 100000 in
theorem add_any (h : Cm w bc sl C) (g : Gd) (hg : wfG g) (cv : Value) (cs : List Cg) (hcv : InC w cv cs) : Calls Try.prog 15 #[.pointer (some ⟨bc, 0, none⟩), aggG g, cv] w (StT w bc sl (C.addE g cs) (C.add g cs)) := by
  obtain ⟨ca, cc, rfl, hcm, hcx⟩ := hcv
  have hb0 := (Below.refl w.heap.size w).alloc (Nat.le_refl _) (Obj.cells #[.int .u64 g.1, .int .u64 g.2] 33)
  have h1 := h.keep hb0
  have HB0 := Lib.hid hb0
  have hbx := Blk.new w 33 #[.int .u64 g.1, .int .u64 g.2]
  have HBX := Lib.hid hbx
  have hnx := next_any h1 g
  have HC1 := Lib.hid h1
  have HA := Lib.hid (show C.add g cs = if C.next g = 0 then (match addR C.n C.last.vol (-1) cs with | some v => { C.put ⟨v, g, false⟩ with live := v } | none => C) else C from rfl)
  have HE := Lib.hid (show C.addE g cs = if C.next g = 0 then (match addR C.n C.last.vol (-1) cs with | some _ => 0 | none => 2) else C.next g from rfl)
  have hlt := @next_zero C g
  have HNB := Lib.hid (And.intro (show w.heap.size ≠ bc from fun e => by have := h.obj.lt; omega) (show sl.ownBlock ≠ some w.heap.size from fun e => by have := h.snaps.lt e; omega))
  have HLW := Lib.hid (last_wf h)
  have HN8 := Lib.hid h.n
  have HGW := Lib.hid hg
  have HCX := Lib.hid hcx
  have HCM := Lib.hid hcm
  have HST := Lib.hid (fun (k : Nat) (hk : k < cs.length) v ab => @addR_step C.n v ab cs k hk)
  have HEND := Lib.hid (show ∀ v ab, addR C.n v ab (cs.drop cs.length) = some v from fun v ab => by rw [List.drop_length]; rfl)
  obtain ⟨nS, hnS⟩ : ∃ n, n = C.snaps.length := ⟨_, rfl⟩
  have HNS := Lib.hid hnS
  generalize hnz : C.next g = nx at *
  have HLT := Lib.hid hlt
  unfold aggG at hnx ⊢
  obtain ⟨ge, gc⟩ := g
  dsimp only at *
  have HNX := Lib.hid hnx
  generalize hZ : (fun j => cs.getD j (0, ByteArray.empty)) = Z
  have hZj : ∀ j, cs.getD j (0, ByteArray.empty) = Z j := fun j => by rw [← hZ]
  simp only [hZj] at HCX HST
  clear hZ hZj
  obtain ⟨D, hD0, hDn⟩ : ∃ D : Nat → List Cg, D 0 = cs ∧ ∀ k, D k = cs.drop k := ⟨fun k => cs.drop k, rfl, fun _ => rfl⟩
  simp only [← hDn] at HST HEND
  obtain ⟨X0, hX0⟩ : ∃ X, X = addR C.n C.last.vol (-1) cs := ⟨_, rfl⟩
  rw [← hX0] at HA HE
  rw [← hD0] at hX0
  generalize hm : cs.length = m at *
  have HD0 := Lib.hid hX0
  clear h h1 hb0 hnx hnS hlt hbx hnz hD0 hDn hm hX0 hcx hcm hg
  go_enter Try.func15, Try.ntmps15
  have hbx := HBX.out
  have x0 := hbx.cell 0
  have x1 := hbx.cell 1
  simp at x0 x1
  clear hbx
  go_wp2_with fail
  generalize w.alloc (Obj.cells #[.int .u64 ge, .int .u64 gc] 33) = w1 at *
  refine HNX.out.mono ?_
  rintro e w2 ⟨rfl, hb⟩
  have HB2 := Lib.hid (HB0.out.trans (hb.mono HB0.out.size))
  have HCW := Lib.hid (HC1.out.keep hb)
  have HBX2 := Lib.hid (HBX.out.keep hb)
  clear hb x0 x1
  by_cases hz : nx = 0
  · subst hz
    have HLT2 := Lib.hid (HLT.out rfl)
    rw [if_pos rfl] at HA HE
    clear HLT HNX HC1 HBX
    go_wp2_with fail
    refine (last_any HCW.out).mono ?_
    rintro e w3 ⟨rfl, hb⟩
    have HB3 := Lib.hid (HB2.out.trans (hb.mono HB2.out.size))
    have HCW3 := Lib.hid (HCW.out.keep hb)
    have HBX3 := Lib.hid (HBX2.out.keep hb)
    have hlw := HLW.out
    have HV0 := Lib.hid hlw.vol
    have HFI := Lib.hid (fun w => snap_field0 w hlw)
    have HS2 := Lib.hid (show (Try.prog.info? 68).map (fun i => i.size) = some (voL C.last.vol).toArray.size by rw [List.size_toArray, voL_length hlw.vol]; exact vol_size)
    have HS3 := Lib.hid (show (8 : Nat) = (voL C.last.vol).toArray.size by rw [List.size_toArray, voL_length hlw.vol])
    clear hb HCW HBX2 hlw
    go_wp2_with (first | refine wpList_value_run rfl _ (exec_field 74 (.tmp 19) 0 rfl (.agg (snL C.last).toArray) _ rfl (HFI.out _)) ?_ | refine wpList_store_then rfl 68 _ _ rfl w3.heap.size (voL C.last.vol).toArray rfl rfl 68 _ (Blk.new _ _ _) HS2.out HS3.out (all_oneCell_toArray (voL_one _)) ?_)
    refine Later.mk fun w4 hw4 => ?_
    have H4 := Lib.hid (show Below w3.heap.size w3 w4 ∧ Blk w4 w3.heap.size 68 (voL C.last.vol).toArray by rw [hw4]; exact ⟨Below.setRow ((Below.refl _ _).alloc (Nat.le_refl _) _) (Nat.le_refl _) _, (Blk.new _ _ _).row _⟩)
    clear hw4 HS2 HS3 HFI
    go_wp2_with fail
    go_loopw [9, 23] (fun ab i wr => ∃ (k : Nat) (z : Int) (v : Vo), k ≤ m ∧ i = .int .i64 k ∧ ab = .int .i64 z ∧ wfV v ∧ Below w3.heap.size w3 wr ∧ Blk wr w3.heap.size 68 (voL v).toArray ∧ X0 = addR C.n v z (D k)) (fun _ i _ => m - (intOf i).toNat)
    case atStart => exact ⟨0, -1, C.last.vol, Nat.zero_le _, rfl, rfl, HV0.out, H4.out.1, H4.out.2, HD0.out⟩
    case round =>
      obtain ⟨k, z, v, hk, rfl, rfl, hv, hb, hbk, hre⟩ := hrel
      have HB := Lib.hid hb
      have HBK := Lib.hid hbk
      have HV := Lib.hid hv
      have HRE := Lib.hid hre
      have HCR := Lib.hid (HCW3.out.keep hb)
      clear hb hbk hv hre
      by_cases hkm : k < m
      · obtain ⟨cg, co, rfl, hc0, hc1⟩ := HCX.out k hkm
        have hwr : Below w.heap.size w wr := HB3.out.trans (HB.out.mono HB3.out.size)
        have hst := HST.out k hkm v z
        have hbo : ∀ o, Below wr.heap.size wr (wr.alloc o) := fun o => (Below.refl _ _).alloc (Nat.le_refl _) o
        replace hc0 := cell_later hwr hc0
        replace hc1 := cell_later hwr hc1
        have hn := HN8.out
        generalize Z k = zk at *
        obtain ⟨xb, xd⟩ := zk
        dsimp only at hst hc0 hc1
        have i1 : (k : Int) < (m : Int) := by omega
        have I9 := Lib.hid (wrap_succ hkm HCM.out)
        have HKM := Lib.hid hkm
        have HST2 := Lib.hid hst
        have hxb := Blk.new wr 48 #[.int .i64 xb, .string xd]
        have hmy := may_any (HCR.out.keep (hbo (Obj.cells #[.int .i64 xb, .string xd] 48))) xb xd
        have HMY := Lib.hid hmy
        have HBN := Lib.hid (hbo (Obj.cells #[.int .i64 xb, .string xd] 48))
        have HXB := Lib.hid hxb
        have hbv := HBK.out.alloc (Obj.cells #[.int .i64 xb, .string xd] 48)
        have HBV := Lib.hid hbv
        clear hkm hk hst hmy hxb hbv hbo hwr hn
        go_wp2_with fail
        generalize wr.alloc (Obj.cells #[.int .i64 xb, .string xd] 48) = wx at *
        have x0 := HXB.out.cell 0
        have x1 := HXB.out.cell 1
        simp at x0 x1
        refine HMY.out.mono ?_
        rintro e w6 ⟨rfl, rfl⟩
        by_cases hmay : mayB C.n xb xd = true
        · by_cases hab : z < xb
          · have hb3 : 0 ≤ xb ∧ xb < C.n ∧ xd.size = 32 := by unfold mayB at hmay; exact of_decide_eq_true hmay
            have hn := HN8.out
            obtain ⟨j, rfl⟩ : ∃ j : Nat, xb = j := ⟨xb.toNat, by omega⟩
            have hj8 : j < 8 := by omega
            have j1 : (j : Int) < 8 := by omega
            have j2 : ¬ ((j : Int) ≤ z) := by omega
            have hq : wx.cell? ⟨w3.heap.size, j, none⟩ = some (.string (v.getD j ByteArray.empty)) := by
              rw [HBV.out.cell]
              simpa using vol_at HV.out hj8
            have hf := HBV.out.frozen j
            have hre := HRE.out
            rw [HST2.out, if_pos ⟨hmay, hab⟩] at hre
            simp only [Int.toNat_natCast] at hre
            have HNEW := Lib.hid (And.intro (wfV_set HV.out hb3.2.2 j) (And.intro ((HB.out.trans (HBN.out.mono HB.out.size)).setCell (p := ⟨w3.heap.size, j, none⟩) (Nat.le_refl _) (.string xd)) (And.intro (show Blk (wx.setCell ⟨w3.heap.size, j, none⟩ (.string xd)) w3.heap.size 68 (voL (v.set j xd)).toArray by rw [← vol_set]; exact HBV.out.set j _) hre)))
            rw [hmay]
            clear hmay hab hb3 hn hj8 hre
            have i9 := I9.out
            go_wp2
            rw [I9.out]
            clear i9 j1 j2
            exact ⟨⟨k + 1, j, v.set j xd, HKM.out, rfl, rfl, HNEW.out.1, HNEW.out.2.1, HNEW.out.2.2.1, HNEW.out.2.2.2⟩, meas_succ HKM.out⟩
          · have j2 : xb ≤ z := by omega
            have hre := HRE.out
            rw [HST2.out, if_neg (fun h => hab h.2)] at hre
            have HR := Lib.hid hre
            have HFIN := Lib.hid (And.intro (HCR.out.keep HBN.out) (HB3.out.trans ((HB.out.trans (HBN.out.mono HB.out.size)).mono HB3.out.size)))
            rw [hmay]
            clear hmay hab hre
            go_wp2
            go_ret
            refine ⟨?_, sl, ?_, Kp.of_below HFIN.out.2, fun b hb => .inl hb⟩
            · rw [HE.out, HR.out]; rfl
            · rw [HA.out, HR.out]; exact HFIN.out.1
        · have hre := HRE.out
          rw [HST2.out, if_neg (fun h => hmay h.1)] at hre
          have HR := Lib.hid hre
          have HFIN := Lib.hid (And.intro (HCR.out.keep HBN.out) (HB3.out.trans ((HB.out.trans (HBN.out.mono HB.out.size)).mono HB3.out.size)))
          rw [show mayB C.n xb xd = false from by simpa using hmay]
          clear hmay hre
          go_wp2
          go_ret
          refine ⟨?_, sl, ?_, Kp.of_below HFIN.out.2, fun b hb => .inl hb⟩
          · rw [HE.out, HR.out]; rfl
          · rw [HA.out, HR.out]; exact HFIN.out.1
      · obtain rfl : k = m := by omega
        have i1 : ¬ ((k : Int) < (k : Int)) := by omega
        have hre := HRE.out
        rw [HEND.out] at hre
        have HR := Lib.hid hre
        obtain ⟨s, hs⟩ : ∃ s : Sn, s = ⟨v, (ge, gc), false⟩ := ⟨_, rfl⟩
        have HSW := Lib.hid (show wfS s by rw [hs]; exact ⟨HV.out, HGW.out⟩)
        have HSE := Lib.hid hs
        have HNV := Lib.hid (And.intro (show w3.heap.size ≠ bc from fun e => by have := HCW3.out.obj.lt; omega) (show sl.ownBlock ≠ some w3.heap.size from fun e => by have := HCW3.out.snaps.lt e; omega))
        have HBXR := Lib.hid (HBX3.out.keep HB.out)
        have hclean : Cm wr bc sl C := HCR.out
        have HCW := Lib.hid hclean
        have HLT := HLT2
        clear hkm hk hre hs hclean HST HEND HCX
        go_wp2_with fail
        refine wp_region_spec (fun i => i == 4 || i == 8 || i == 9 || i == 12) (kindsS [(4, .is sl), (8, .sl 1), (12, .is undef)] 9 (nS + 1)) (SC wr bc sl C s 4 8 9 12) (by kernel_rfl) (by kernel_rfl) (kindsS_inh _ _ _) (SC.start HCW.out) ?_
        intro ν hν
        have n4 : ν 4 = sl := kindsS_off (hν 4) (by decide)
        obtain ⟨g8, n8⟩ : ∃ g, ν 8 = .slice (some ⟨g, 0, none⟩) 1 1 := kindsS_off (hν 8) (by decide)
        obtain ⟨a9, c9, n9⟩ : ∃ a c, ν 9 = .slice a (nS + 1) c := kindsS_at (hν 9)
        have n12 : ν 12 = undef := kindsS_off (hν 12) (by decide)
        clear hν
        refine lex_plain (by rfl) rfl ?_
        apply Exists.intro
        refine ⟨fun σ w2 hA hD hC => ?_, ?_⟩
        · clear hA hD hC
          go_simp
          exact And.intro rfl rfl
        simp only [Act.put, List.setIfInBounds_toArray, List.set_cons_succ, List.set_cons_zero, Nat.reduceAdd]
        refine lex_plain (by rfl) rfl ?_
        apply Exists.intro
        refine ⟨fun σ w2 hA hD hC => ?_, ?_⟩
        · clear hA hD hC
          go_simp
          exact And.intro rfl rfl
        simp only [Act.put, List.setIfInBounds_toArray, List.set_cons_succ, List.set_cons_zero, Nat.reduceAdd]
        refine lex_plain (by rfl) rfl ?_
        apply Exists.intro
        refine ⟨fun σ w2 hA hD hC => ?_, ?_⟩
        · clear hA hD hC
          go_simp
          exact And.intro rfl rfl
        simp only [Act.put, List.setIfInBounds_toArray, List.set_cons_succ, List.set_cons_zero, Nat.reduceAdd]
        refine lex_plain (by rfl) rfl ?_
        apply Exists.intro
        refine ⟨fun σ w2 hA hD hC => ?_, ?_⟩
        · clear hA hD hC
          go_simp
          exact And.intro rfl rfl
        simp only [Act.put, List.setIfInBounds_toArray, List.set_cons_succ, List.set_cons_zero, Nat.reduceAdd]
        refine lex_special (by rfl) rfl (fun σ w2 hA hD hn hC => ?_) ?_
        · have hc9 := hC.at4 hn
          go_simp
          exact hC.load_ok (by decide) (by unfold kindsS; rw [if_neg (by decide)]; exact rfl)
        rw [n4]
        simp only [Act.put, List.setIfInBounds_toArray, List.set_cons_succ, List.set_cons_zero, Nat.reduceAdd]
        refine lex_plain (by rfl) rfl ⟨.agg (voL v).toArray, fun σ w2 hA hD hC => ?_, ?_⟩
        · have hrg : w2.rangeAt w3.heap.size 0 (voL v) := fun j u hu => by
            rw [(hC.blk HBK.out HNV.out.1 HNV.out.2).cell, Nat.zero_add]
            simpa using hu
          rw [exec_load_mid 68 _ rfl w3.heap.size 0 rfl (voL v) _ hrg Try.underlying68 rfl (by rw [voL_length HV.out]; exact vol_size)]
          exact ⟨rfl, rfl⟩
        simp only [Act.put, List.setIfInBounds_toArray, List.set_cons_succ, List.set_cons_zero, Nat.reduceAdd]
        refine lex_plain (by rfl) rfl ⟨.agg #[.int .u64 ge, .int .u64 gc], fun σ w2 hA hD hC => ?_, ?_⟩
        · rw [exec_load 33 _ rfl w.heap.size rfl 33 _ _ (hC.blk HBXR.out HNB.out.1 HNB.out.2) Try.underlying33 rfl (by kernel_rfl)]
          exact ⟨rfl, rfl⟩
        simp only [Act.put, List.setIfInBounds_toArray, List.set_cons_succ, List.set_cons_zero, Nat.reduceAdd]
        refine lex_plain (by rfl) rfl ⟨.agg (snL s).toArray, fun σ w2 hA hD hC => ?_, ?_⟩
        · rw [HSE.out, exec_build 74 _ rfl [(0, .agg (voL v).toArray), (1, .agg #[.int .u64 ge, .int .u64 gc])] rfl _ (snap_build2 _ HV.out ge gc)]
          exact ⟨rfl, rfl⟩
        simp only [Act.put, List.setIfInBounds_toArray, List.set_cons_succ, List.set_cons_zero, Nat.reduceAdd]
        refine lex_special (by rfl) rfl (fun σ w2 hA hD hn hC => ?_) ?_
        · rw [exec_buildSlice 70 1 _ rfl [(0, .agg (snL s).toArray)] rfl _ (snap_slice w2 HSW.out)]
          exact hC.lit_ok (by decide) hn HSW.out (fun b => by unfold kindsS; rw [if_neg (by decide)]; exact ⟨b, rfl⟩)
        rw [n8]
        simp only [Act.put, List.setIfInBounds_toArray, List.set_cons_succ, List.set_cons_zero, Nat.reduceAdd]
        refine lex_special (by rfl) rfl (fun σ w2 hA hD hn hC => ?_) ?_
        · have ea := got1 hA hD 4 rfl (by kernel_rfl)
          rw [n4] at ea
          have eb := got1 hA hD 8 rfl (by kernel_rfl)
          rw [n8] at eb
          obtain ⟨v', w', hr, hs⟩ := hC.app_ok (p := kindsS [(4, .is sl), (8, .sl 1), (12, .is undef)] 9 (nS + 1) 9) (by decide) hn ea eb HSW.out HLT.out 70 (fun a c => by unfold kindsS; rw [if_pos rfl]; exact ⟨a, c, by rw [HNS.out]⟩)
          rw [exec_append (.tmp 52) (.tmp 56) 70 rfl _ _ rfl rfl _ hr]
          exact hs
        rw [n9]
        simp only [Act.put, List.setIfInBounds_toArray, List.set_cons_succ, List.set_cons_zero, Nat.reduceAdd]
        refine lex_plain (by rfl) rfl ?_
        apply Exists.intro
        refine ⟨fun σ w2 hA hD hC => ?_, ?_⟩
        · clear hA hD hC
          go_simp
          exact And.intro rfl rfl
        simp only [Act.put, List.setIfInBounds_toArray, List.set_cons_succ, List.set_cons_zero, Nat.reduceAdd]
        refine lex_plain (by rfl) rfl ?_
        apply Exists.intro
        refine ⟨fun σ w2 hA hD hC => ?_, ?_⟩
        · clear hA hD hC
          go_simp
          exact And.intro rfl rfl
        simp only [Act.put, List.setIfInBounds_toArray, List.set_cons_succ, List.set_cons_zero, Nat.reduceAdd]
        refine lex_special (by rfl) rfl (fun σ w2 hA hD hn hC => ?_) ?_
        · have ec := got1 hA hD 9 rfl (by kernel_rfl)
          rw [n9] at ec
          obtain ⟨hc9, hf9⟩ := hC.at15 hn
          go_simp
          exact hC.store_ok (by decide) hn ec (by unfold kindsS; rw [if_neg (by decide)]; exact rfl)
        rw [n12]
        simp only [Act.put, Nat.reduceAdd]
        refine lex_nil (fun σ w9 hA hall hC => ?_)
        have s9 := hall 9 rfl (by decide)
        have s12 := hall 12 rfl (by decide)
        rw [n9] at s9
        rw [n12] at s12
        have hf := hC.fin _ s9 (by rw [s12]; simp)
        have HRL := Lib.hid (hf.1.relive HV.out)
        have HF := Lib.hid hf
        have HBV := Lib.hid (hC.blk HBK.out HNV.out.1 HNV.out.2)
        have hrg : w9.rangeAt w3.heap.size 0 (voL v) := fun j u hu => by
          rw [HBV.out.cell, Nat.zero_add]
          simpa using hu
        have HRG := Lib.hid hrg
        have HS1 := Lib.hid (show (Try.prog.info? 68).map (fun i => i.size) = some (voL v).length by rw [voL_length HV.out]; exact vol_size)
        have HS2 := Lib.hid (show (Try.prog.info? 68).map (fun i => i.size) = some (voL v).toArray.size by rw [List.size_toArray, voL_length HV.out]; exact vol_size)
        clear hA hall hC n4 n8 n9 n12 s9 s12 hf hrg
        go_wp2_with (first | refine wpList_load_mid rfl 68 _ rfl w3.heap.size 0 rfl (voL v) _ HRG.out Try.underlying68 rfl HS1.out ?_ | refine wpList_store_mid rfl 68 _ _ rfl bc 0 (voL v).toArray rfl rfl HRL.out.1 HS2.out (all_oneCell_toArray (voL_one _)) ?_)
        go_ret
        have hw9 : Kp (fpC bc sl) w w9 := (Kp.of_below (HB3.out.trans (HB.out.mono HB3.out.size))).trans HF.out.2.1
        refine ⟨?_, .slice a9 (nS + 1) c9, ?_, hw9.trans (HRL.out.2.2.mono fun b hb => .inl hb), fun b hb => ?_⟩
        · rw [HE.out, HR.out]; rfl
        · rw [HA.out, HR.out]; rw [HSE.out] at HRL; exact HRL.out.2.1
        · rcases HF.out.2.2 b hb with h | h
          · exact .inl h
          · exact .inr (Nat.le_trans (Nat.le_trans HB3.out.size HB.out.size) h)
  · have HNZ := Lib.hid hz
    have e1 : (nx == 0) = false := by simpa using hz
    have e2 : decide (nx = 0) = false := decide_eq_false hz
    clear hz
    go_wp2
    go_ret
    exact ⟨by rw [HE.out, if_neg HNZ.out]; rfl, sl, by rw [HA.out, if_neg HNZ.out]; exact HCW.out, Kp.of_below HB2.out, fun b hb => .inl hb⟩
end
end Go.Proofs.Ytjeebpklinpmfaa
