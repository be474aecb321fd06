/-
  MESSAGES: Check, Encode, Decode (printed by wip/gen-msgs.py).
-/
import Derived.Test.YtikimmhkfjaijaaMsR
namespace Go.Proofs.Ytikimmhkfjaijaa
open Go.RowKit Reg Go.ChangeShapes

/-! ### what may be is laid -/
theorem upto_i64 {x : Int} (h : i64 x) : x ≤ 9223372036854775807 := by
  have h2 : (decide ((-9223372036854775808 : Int) ≤ x) && decide (x ≤ 9223372036854775807)) = true := h
  simp only [Bool.and_eq_true, decide_eq_true_eq] at h2
  exact h2.2
theorem wrongE_kind {e : En} (h : wrongE e = false) : 1 ≤ e.K ∧ e.K ≤ 3 := by
  unfold wrongE at h
  by_cases h1 : e.K = 1 ∨ e.K = 2
  · omega
  · rw [if_neg h1] at h
    by_cases h3 : e.K = 3
    · omega
    · rw [if_neg h3] at h; cases h
theorem logC_kinds {es : List En} (h : logC es = 0) : ∀ e ∈ es, 1 ≤ e.K ∧ e.K ≤ 3 := by
  unfold logC at h
  split at h
  · cases h
  · split at h
    · rename_i h2
      intro e he
      have := List.any_eq_false.1 h2.2 e he
      exact wrongE_kind (by simpa using this)
    · cases h
theorem checkL_ok {x : Ln} (h : checkL x = 0) : x.l.length ≤ 20 ∧ 0 ≤ x.B ∧ x.B ≤ x.l.length := by
  unfold checkL at h
  split at h
  · cases h
  · rename_i h1
    split at h
    · rename_i h2
      exact ⟨by omega, h2.2⟩
    · cases h
structure MayA (m : Ms) : Prop where
  T : 1 ≤ m.T
  P : 0 ≤ m.P ∧ m.P ≤ 300
  M : 0 ≤ m.M ∧ m.M ≤ 300
  C : 0 ≤ m.C ∧ m.C ≤ 300
  S : 0 ≤ m.S
  len : m.es.length ≤ 8
  log : logC m.es = 0
theorem mayM_K {m : Ms} (h : mayM m = true) : 1 ≤ m.K ∧ m.K ≤ 7 := by
  unfold mayM at h
  simp only [Bool.and_eq_true, decide_eq_true_eq] at h
  exact ⟨h.1, h.2.1⟩
theorem mayM_a {m : Ms} (h : mayM m = true) (hk : m.K ≤ 4) : MayA m := by
  unfold mayM at h
  rw [if_neg (by omega)] at h
  simp only [Bool.and_eq_true, decide_eq_true_eq, placeB_iff] at h
  obtain ⟨-, -, h1, h2, h3, h4, -, h6, h7⟩ := h
  unfold entB at h7
  simp only [Bool.and_eq_true, decide_eq_true_eq] at h7
  exact ⟨h1, h2, h3, h4, h6, h7.1, h7.2.2.1⟩
theorem mayM_l {m : Ms} (h : mayM m = true) (hk : 4 < m.K) : checkL m.l = 0 := by
  unfold mayM at h
  rw [if_pos hk] at h
  simp only [Bool.and_eq_true, decide_eq_true_eq] at h
  exact h.2.2.1
theorem mayM_pull {m : Ms} (h : mayM m = true) (hk : m.K = 5) : pullB m = true := by
  unfold mayM at h
  rw [if_pos (by omega)] at h
  simp only [Bool.and_eq_true, decide_eq_true_eq, Bool.or_eq_true] at h
  exact h.2.2.2.1.resolve_left (fun q => q hk)
theorem mayM_part {m : Ms} (h : mayM m = true) (hk : m.K = 6) : checkP m.p = 0 := by
  unfold mayM at h
  rw [if_pos (by omega)] at h
  simp only [Bool.and_eq_true, decide_eq_true_eq, Bool.or_eq_true] at h
  exact h.2.2.2.2.resolve_left (fun q => q hk)
theorem pullB_ok {m : Ms} (h : pullB m = true) : (0 ≤ m.n ∧ m.n ≤ 20) ∧ (0 ≤ m.N ∧ m.N ≤ 8) := by
  unfold pullB at h
  simp only [Bool.and_eq_true, decide_eq_true_eq] at h
  obtain ⟨h1, h2, -, h4⟩ := h
  refine ⟨⟨h1, h2⟩, ?_⟩
  split at h4
  · have : m.N = 0 := by simpa using h4
    omega
  · simp only [Bool.and_eq_true, decide_eq_true_eq] at h4
    omega
theorem okIn_lay {m : Ms} (hm : mayM m = true) (hw : wfM m) : OkIn false m := by
  have hK := mayM_K hm
  refine ⟨fun _ => hw.T, fun hk => ?_, fun hk => ?_, fun hk => ?_, fun hk => ?_, fun hk => ?_, fun hk => ?_, fun h => by cases h⟩
  · have := mayM_a hm (by omega)
    exact ⟨⟨this.P.1, by have := this.P.2; omega⟩, hw.PT⟩
  · have := mayM_a hm (by omega)
    exact ⟨fun e he => by have := logC_kinds this.log e he; exact ⟨by omega, by omega⟩, by have := this.len; omega, this.C.1, by have := this.C.2; omega⟩
  · have := mayM_a hm (by omega)
    exact ⟨this.M.1, by have := this.M.2; omega⟩
  · have := mayM_a hm (by omega)
    exact ⟨this.S, upto_i64 hw.S⟩
  · have := checkL_ok (mayM_l hm (by omega))
    exact ⟨hw.E, ⟨this.2.1, by omega⟩, by omega⟩
  · have := pullB_ok (mayM_pull hm hk)
    exact ⟨⟨this.1.1, by omega⟩, hw.la, hw.ta, this.2.1, by omega⟩
theorem in8_K {m : Ms} (hm : mayM m = true) : in8 m.K := by
  have := mayM_K hm
  exact ⟨by omega, by omega⟩
theorem p_K_self (m : Ms) : p_K m m.K = m := rfl
theorem iK_lay {m : Ms} {b : Bool} (h : in8 m.K) : (iK (⟨.lay [], b⟩, m)).2 = m := by
  have h1 : (intF ⟨.lay [], b⟩ m.K).2 = m.K := lay_int rfl h
  have h2 : (iK (⟨.lay [], b⟩, m)).2 = p_K m (intF ⟨.lay [], b⟩ m.K).2 := rfl
  rw [h2, h1, p_K_self]
/-- a message's bytes, without their sum; and whether they are -/
def outQ (q : Sf × Ms) : ByteArray := q.1.m.out
def badQ (q : Sf × Ms) : Bool := q.1.bad
def layS (m : Ms) : ByteArray := outQ (layF m)
def layBad (m : Ms) : Bool := badQ (layF m)
theorem layS_of {m : Ms} {X : Sf × Ms} (h : layF m = X) : layS m = X.1.m.out := by
  rw [← show outQ X = X.1.m.out from rfl, ← h]
  rfl
theorem layBad_of {m : Ms} {X : Sf × Ms} (h : layF m = X) : layBad m = X.1.bad := by
  rw [← show badQ X = X.1.bad from rfl, ← h]
  rfl
theorem laid2_any (w : World) (v : Value) (m : Ms) (hv : InMs w v m) (hm : mayM m = true) :
    Calls Try.prog 15 #[v] w fun e w' => e = .returned (.tuple #[.string (layS m), .bool (!layBad m)]) ∧ Below w.heap.size w w' ∧ (layS m).size ≤ 1000000 := by
  have hw : wfM m := by obtain ⟨_, _, _, _, _, _, _, h⟩ := hv; exact h
  have h := laid_any w v m hv (in8_K hm) (by rw [iK_lay (in8_K hm)]; exact okIn_lay hm hw)
  obtain ⟨X, hX⟩ : ∃ X, layF m = X := ⟨_, rfl⟩
  rw [layS_of hX, layBad_of hX]
  rw [hX] at h
  exact h
/-- Check's answer -/
def checkB (m : Ms) : Bool := mayM m && (!layBad m && (readOk (layS m).data.toList && sameM (readM (layS m).data.toList) m))
def checkM (m : Ms) : Int := if checkB m = true then 0 else 2
set_option maxRecDepth 100000 in
set_option maxHeartbeats 4000000 in
theorem mcheck_any (w : World) (v : Value) (m : Ms) (hv : InMs w v m) : Calls Try.prog 11 #[v] w fun e w' => e = .returned (.int .i64 (checkM m)) ∧ Below w.heap.size w w' := by
  have hmay := fun w2 (h : Below w.heap.size w w2) => may2_any w2 v m (hv.keep h)
  have hlaid := fun (hm : mayM m = true) w2 (h : Below w.heap.size w w2) => laid2_any w2 v m (hv.keep h) hm
  have hsame := fun w2 (h : Below w.heap.size w w2) (u : Value) (x : Ms) (hu : InMs w2 u x) => msame_any w2 u v x m hu (hv.keep h)
  obtain ⟨ma, a1, a2, a3, c1, c2, c3, rfl, hone, hsz, hma, -, -, -, -⟩ := ms_cells hv
  have hb := (Below.refl w.heap.size w).alloc (Nat.le_refl _) (Obj.cells ma 33)
  have HMA := Lib.hid (Blk.new w 33 ma)
  obtain ⟨res, hres⟩ : ∃ r, r = checkM m := ⟨_, rfl⟩
  rw [← hres]
  unfold checkM checkB at hres
  have HB := Lib.hid hb
  have HMAY := Lib.hid hmay
  have HLAID := Lib.hid hlaid
  have HSAME := Lib.hid hsame
  have HONE := Lib.hid hone
  have HSZ := Lib.hid hsz
  clear hma hv hone hsz hb hmay hlaid hsame
  go_enter Try.func11, Try.ntmps11
  go_wp2_with (first | refine wpList_wanted_run (by rfl) (.agg ma) (exec_load_blk 33 _ rfl w.heap.size rfl _ HMA.out Try.underlying33 rfl HSZ.out) ?_)
  refine (HMAY.out _ HB.out).mono ?_
  rintro e w1 ⟨rfl, hb⟩
  replace HB := Lib.hid (HB.out.trans (hb.mono HB.out.size))
  replace HMA := Lib.hid (HMA.out.keep hb)
  clear hb
  by_cases hm : mayM m = true
  · rw [hm] at hres ⊢
    rw [Bool.true_and] at hres
    replace HLAID := Lib.hid (HLAID.out hm)
    clear hm
    generalize layS m = sm at *
    generalize layBad m = lb at *
    obtain ⟨X, hX⟩ : ∃ X, readM sm.data.toList = X := ⟨_, rfl⟩
    obtain ⟨ok, hok⟩ : ∃ X, readOk sm.data.toList = X := ⟨_, rfl⟩
    rw [hX, hok] at hres
    have HRD := Lib.hid (fun w2 (h : sm.size ≤ 1000000) => read_any w2 sm (by omega))
    unfold ReadT at HRD
    rw [hX, hok] at HRD
    clear hX hok
    go_wp2_with (first | refine wpList_wanted_run (by rfl) (.agg ma) (exec_load_blk 33 _ rfl w.heap.size rfl _ HMA.out Try.underlying33 rfl HSZ.out) ?_)
    refine (HLAID.out _ HB.out).mono ?_
    rintro e w2 ⟨rfl, hb, hz⟩
    replace HB := Lib.hid (HB.out.trans (hb.mono HB.out.size))
    replace HMA := Lib.hid (HMA.out.keep hb)
    replace HRD := Lib.hid (fun w2 => HRD.out w2 hz)
    clear hb hz HLAID HMAY
    go_wp2_with fail
    refine (HRD.out _).mono ?_
    rintro e w3 ⟨u, rfl, hu, hb, -⟩
    obtain ⟨ua, b1, b2, b3, d1, d2, d3, rfl, uone, usz, uma, -, -, -, -⟩ := ms_cells hu
    replace HB := Lib.hid (HB.out.trans (hb.mono HB.out.size))
    replace HMA := Lib.hid (HMA.out.keep hb)
    have HU := Lib.hid hu
    have UONE := Lib.hid uone
    have USZ := Lib.hid usz
    have USZ2 : Hid (zeroA.size = ua.size) := Lib.hid (by rw [uma]; rfl)
    clear hb hu uone usz uma HRD
    have HZ := Lib.hid (Blk.new w3 33 zeroA)
    go_wp2_with (first | refine wpList_store_then rfl 33 _ _ rfl w3.heap.size ua rfl rfl 33 _ HZ.out USZ.out USZ2.out UONE.out ?_)
    refine Later.mk fun w4 hw4 => ?_
    have hal : Below w3.heap.size w3 w4 := by
      rw [hw4]
      exact Below.setRow ((Below.refl w3.heap.size w3).alloc (Nat.le_refl _) (Obj.cells zeroA 33)) (Nat.le_refl _) _
    have HUA : Hid (Blk w4 w3.heap.size 33 ua) := Lib.hid (by rw [hw4]; exact HZ.out.row _)
    have HU2 := Lib.hid (HU.out.keep hal)
    have HB2 := Lib.hid (HB.out.trans (hal.mono HB.out.size))
    have HMA2 := Lib.hid (HMA.out.keep hal)
    clear hal hw4
    cases lb with
    | true =>
      rw [Bool.not_true, Bool.false_and, if_neg (by decide)] at hres
      have HRES := Lib.hid hres
      clear hres
      go_wp2_with (first | refine wpList_wanted_run (by rfl) (.agg ua) (exec_load_blk 33 _ rfl w3.heap.size rfl _ HUA.out Try.underlying33 rfl USZ.out) ?_ | refine wpList_wanted_run (by rfl) (.agg ma) (exec_load_blk 33 _ rfl w.heap.size rfl _ HMA2.out Try.underlying33 rfl HSZ.out) ?_)
      go_ret
      exact ⟨by rw [HRES.out]; rfl, HB2.out⟩
    | false =>
      cases ok with
      | false =>
        rw [Bool.not_false, Bool.true_and, Bool.false_and, if_neg (by decide)] at hres
        have HRES := Lib.hid hres
        clear hres
        go_wp2_with (first | refine wpList_wanted_run (by rfl) (.agg ua) (exec_load_blk 33 _ rfl w3.heap.size rfl _ HUA.out Try.underlying33 rfl USZ.out) ?_ | refine wpList_wanted_run (by rfl) (.agg ma) (exec_load_blk 33 _ rfl w.heap.size rfl _ HMA2.out Try.underlying33 rfl HSZ.out) ?_)
        go_ret
        exact ⟨by rw [HRES.out]; rfl, HB2.out⟩
      | true =>
        rw [Bool.not_false, Bool.true_and, Bool.true_and] at hres
        go_wp2_with (first | refine wpList_wanted_run (by rfl) (.agg ua) (exec_load_blk 33 _ rfl w3.heap.size rfl _ HUA.out Try.underlying33 rfl USZ.out) ?_ | refine wpList_wanted_run (by rfl) (.agg ma) (exec_load_blk 33 _ rfl w.heap.size rfl _ HMA2.out Try.underlying33 rfl HSZ.out) ?_)
        refine (HSAME.out _ HB2.out _ _ HU2.out).mono ?_
        rintro e w5 ⟨rfl, hb⟩
        have HB5 := Lib.hid (HB2.out.trans (hb.mono HB2.out.size))
        clear hb HB HB2
        generalize sameM X m = sb at *
        cases sb with
        | true =>
          rw [if_pos rfl] at hres
          have HRES := Lib.hid hres
          clear hres
          go_wp2
          go_ret
          exact ⟨by rw [HRES.out]; rfl, HB5.out⟩
        | false =>
          rw [if_neg (by decide)] at hres
          have HRES := Lib.hid hres
          clear hres
          go_wp2
          go_ret
          exact ⟨by rw [HRES.out]; rfl, HB5.out⟩
  · have k : mayM m = false := by simpa using hm
    rw [k] at hres ⊢
    rw [Bool.false_and, if_neg (by decide)] at hres
    have HRES := Lib.hid hres
    clear hres hm k
    go_wp2
    go_ret
    exact ⟨by rw [HRES.out]; rfl, HB.out⟩
/-- Encode's bytes -/
def encM (m : Ms) : ByteArray := if checkB m = true then strOf (Crc.sealed (layS m).data.toList) else ByteArray.empty
theorem checkB_may {m : Ms} (h : checkB m = true) : mayM m = true := by
  unfold checkB at h
  rw [Bool.and_eq_true] at h
  exact h.1
set_option maxRecDepth 100000 in
set_option maxHeartbeats 4000000 in
theorem mencode_any (w : World) (v : Value) (m : Ms) (hv : InMs w v m) : Calls Try.prog 8 #[v] w fun e w' => e = .returned (.tuple #[.string (encM m), .int .i64 (checkM m)]) ∧ Below w.heap.size w w' := by
  have hchk := fun w2 (h : Below w.heap.size w w2) => mcheck_any w2 v m (hv.keep h)
  have hlaid := fun (hm : mayM m = true) w2 (h : Below w.heap.size w w2) => laid2_any w2 v m (hv.keep h) hm
  obtain ⟨ma, a1, a2, a3, c1, c2, c3, rfl, hone, hsz, hma, -, -, -, -⟩ := ms_cells hv
  have hb := (Below.refl w.heap.size w).alloc (Nat.le_refl _) (Obj.cells ma 33)
  have HMA := Lib.hid (Blk.new w 33 ma)
  have HB := Lib.hid hb
  have HCHK := Lib.hid hchk
  have HLAID := Lib.hid hlaid
  have HONE := Lib.hid hone
  have HSZ := Lib.hid hsz
  obtain ⟨ee, hee⟩ : ∃ e, e = encM m := ⟨_, rfl⟩
  obtain ⟨z, hz⟩ : ∃ z, z = checkM m := ⟨_, rfl⟩
  rw [← hz] at HCHK
  rw [← hee, ← hz]
  unfold encM at hee
  unfold checkM at hz
  clear hma hv hone hsz hb hchk hlaid
  by_cases hm : checkB m = true
  · rw [if_pos hm] at hee hz
    replace HLAID := Lib.hid (HLAID.out (checkB_may hm))
    generalize layS m = sm at *
    generalize layBad m = lb at *
    subst hz
    have HEE := Lib.hid hee
    clear hm hee
    go_enter Try.func8, Try.ntmps8
    go_wp2_with (first | refine wpList_wanted_run (by rfl) (.agg ma) (exec_load_blk 33 _ rfl w.heap.size rfl _ HMA.out Try.underlying33 rfl HSZ.out) ?_)
    refine (HCHK.out _ HB.out).mono ?_
    rintro e w1 ⟨rfl, hb⟩
    replace HB := Lib.hid (HB.out.trans (hb.mono HB.out.size))
    replace HMA := Lib.hid (HMA.out.keep hb)
    clear hb HCHK
    go_wp2_with (first | refine wpList_wanted_run (by rfl) (.agg ma) (exec_load_blk 33 _ rfl w.heap.size rfl _ HMA.out Try.underlying33 rfl HSZ.out) ?_)
    refine (HLAID.out _ HB.out).mono ?_
    rintro e w2 ⟨rfl, hb, hz⟩
    replace HB := Lib.hid (HB.out.trans (hb.mono HB.out.size))
    have HSEAL := Lib.hid (fun w2 => seal_any sm w2 (by unfold maxLen; omega))
    clear hb hz HLAID
    go_wp2_with fail
    refine (HSEAL.out _).mono ?_
    rintro e w3 ⟨rfl, hb⟩
    replace HB := Lib.hid (HB.out.trans (hb.mono HB.out.size))
    clear hb
    go_wp2
    go_ret2
    exact ⟨by rw [HEE.out]; rfl, HB.out⟩
  · rw [if_neg hm] at hee hz
    subst hz
    have HEE := Lib.hid hee
    clear hm hee HLAID
    go_enter Try.func8, Try.ntmps8
    go_wp2_with (first | refine wpList_wanted_run (by rfl) (.agg ma) (exec_load_blk 33 _ rfl w.heap.size rfl _ HMA.out Try.underlying33 rfl HSZ.out) ?_)
    refine (HCHK.out _ HB.out).mono ?_
    rintro e w1 ⟨rfl, hb⟩
    replace HB := Lib.hid (HB.out.trans (hb.mono HB.out.size))
    clear hb HCHK
    go_wp2
    go_ret2
    exact ⟨by rw [HEE.out]; rfl, HB.out⟩
/-- the bytes ahead of the sum -/
def textL (s : ByteArray) : List UInt8 := s.data.toList.take (s.size - 4)
def decOkM (s : ByteArray) : Bool := Crc.opens s.data.toList && (readOk (textL s) && checkB (readM (textL s)))
def decM (s : ByteArray) : Ms := if decOkM s = true then readM (textL s) else zeroM
def decZ (s : ByteArray) : Int := if decOkM s = true then 0 else 4
/-- what Decode answers -/
def DecM (w : World) (m : Ms) (z : Int) (e : Ending) (w' : World) : Prop := ∃ v, e = .returned (.tuple #[v, .int .i64 z]) ∧ InMs w' v m ∧ Below w.heap.size w w'
theorem zero_in (w : World) : InMs w (.agg zeroA) zeroM :=
  ⟨.slice none 0 0, .slice none 0 0, .slice none 0 0, rfl, ⟨none, 0, rfl, .inl rfl, Nat.zero_le _, (fun e he => by cases he), fun j hj => by cases hj⟩, InG.nil_ _, InC.nil_ _ _ _, zeroM_wf⟩
theorem zeroA_one : (zeroA.all fun x => x.oneCell') = true := msA_one _ _ _ _ _ _ _ _ _ _
theorem zeroA_size : (Try.prog.info? 33).map (·.size) = some zeroA.size := msg_size zeroM (.slice none 0 0) (.slice none 0 0) (.slice none 0 0)
theorem kp_row (w : World) (q : Nat) (ds : Array Value) : Kp (· = q) w (w.setRow q ds) :=
  ⟨Below.setRow (Below.refl 0 w) (Nat.zero_le _) ds, fun b _ hn => by
    simp only [World.setRow, Array.getElem?_modify]
    rw [if_neg (fun e => hn e.symm)]⟩
set_option maxRecDepth 100000 in
set_option maxHeartbeats 4000000 in
theorem mdecode_any (w : World) (s : ByteArray) (hs : s.size ≤ 1152921504606846976) : Calls Try.prog 9 #[.string s] w (DecM w (decM s) (decZ s)) := by
  unfold DecM
  obtain ⟨M, hM⟩ : ∃ M, M = decM s := ⟨_, rfl⟩
  obtain ⟨z, hz⟩ : ∃ z, z = decZ s := ⟨_, rfl⟩
  rw [← hM, ← hz]
  unfold decM decOkM at hM
  unfold decZ decOkM at hz
  have HOP := Lib.hid (fun w2 => open_any s w2 (Nat.le_trans hs (by decide)))
  unfold openV at HOP
  have HQ := Lib.hid (Blk.new w 33 zeroA)
  have HB0 := Lib.hid ((Below.refl w.heap.size w).alloc (Nat.le_refl _) (Obj.cells zeroA 33))
  have HFZ : Hid (∀ w1, Blk w1 w.heap.size 33 zeroA → Below w.heap.size w w1 → ∀ w2, w2 = w1.setRow w.heap.size zeroA → Blk w2 w.heap.size 33 zeroA ∧ Below w.heap.size w w2) := Lib.hid fun w1 h1 h2 w2 hw => by
    rw [hw]
    exact ⟨h1.row _, Below.setRow h2 (Nat.le_refl _) _⟩
  cases hop : Crc.opens s.data.toList with
  | false =>
    rw [hop, Bool.false_and, if_neg (by decide)] at hM hz
    rw [if_neg (by rw [hop]; decide)] at HOP
    subst hM
    subst hz
    clear hop hs
    go_enter Try.func9, Try.ntmps9
    go_wp2_with fail
    refine (HOP.out _).mono ?_
    rintro e w1 ⟨rfl, hb⟩
    have HQ1 := Lib.hid (HQ.out.keep hb)
    have HB1 := Lib.hid (HB0.out.trans (hb.mono HB0.out.size))
    clear hb HQ HB0 HOP
    go_wp2_with (first | refine wpList_store_then rfl 33 _ _ rfl w.heap.size zeroA rfl rfl 33 _ HQ1.out zeroA_size rfl zeroA_one ?_)
    refine Later.mk fun w4 hw4 => ?_
    have H9 := Lib.hid (HFZ.out _ HQ1.out HB1.out _ hw4)
    clear hw4
    go_wp2
    refine bodyPost_ret (results_cell2 (ty := 33) (g := w.heap.size) (k := 2) (m := 3) rfl rfl rfl H9.out.1 Try.underlying33 rfl zeroA_size) rfl ⟨_, rfl, zero_in _, H9.out.2⟩
  | true =>
    rw [hop, Bool.true_and] at hM hz
    rw [if_pos hop] at HOP
    obtain ⟨T, hT⟩ : ∃ T, T = strOf (s.data.toList.take (s.size - 4)) := ⟨_, rfl⟩
    rw [← hT] at HOP
    have hTd : T.data.toList = textL s := by rw [hT]; exact strOf_list _
    have hTz : T.size ≤ 1152921504606846976 := by
      rw [hT, size_strOf, List.length_take]
      have : s.data.toList.length = s.size := Array.length_toList
      omega
    rw [← hTd] at hM hz
    have HRD := Lib.hid (fun w2 => read_any w2 T hTz)
    unfold ReadT at HRD
    obtain ⟨X, hX⟩ : ∃ X, readM T.data.toList = X := ⟨_, rfl⟩
    obtain ⟨ok, hok⟩ : ∃ X, readOk T.data.toList = X := ⟨_, rfl⟩
    rw [hX, hok] at HRD hM
    rw [hX, hok] at hz
    have HCHK := Lib.hid (fun w2 (u : Value) (h : InMs w2 u X) => mcheck_any w2 u X h)
    unfold checkM at HCHK
    generalize checkB X = cb at *
    clear hop hs hT hTd hTz hX hok
    go_enter Try.func9, Try.ntmps9
    go_wp2_with fail
    refine (HOP.out _).mono ?_
    rintro e w1 ⟨rfl, hb⟩
    have HQ1 := Lib.hid (HQ.out.keep hb)
    have HB1 := Lib.hid (HB0.out.trans (hb.mono HB0.out.size))
    clear hb HQ HB0 HOP
    go_wp2_with fail
    refine (HRD.out _).mono ?_
    rintro e w2 ⟨u, rfl, hu, hb, haft⟩
    obtain ⟨ua, b1, b2, b3, d1, d2, d3, rfl, uone, usz, uma, -, -, -, -⟩ := ms_cells hu
    have HQ2 := Lib.hid (HQ1.out.keep hb)
    have HB2 := Lib.hid (HB1.out.trans (hb.mono HB1.out.size))
    have HAFT := Lib.hid (haft _ _ _ HQ1.out zeroA_noStr)
    have UONE := Lib.hid uone
    have USZ := Lib.hid usz
    have USZ2 : Hid (zeroA.size = ua.size) := Lib.hid (by rw [uma]; rfl)
    clear hb hu haft uone usz uma HRD
    have HZ := Lib.hid (Blk.new w2 33 zeroA)
    go_wp2_with (first | refine wpList_store_then rfl 33 _ _ rfl w2.heap.size ua rfl rfl 33 _ HZ.out USZ.out USZ2.out UONE.out ?_)
    refine Later.mk fun w4 hw4 => ?_
    have hal : Below w2.heap.size w2 w4 := by
      rw [hw4]
      exact Below.setRow ((Below.refl w2.heap.size w2).alloc (Nat.le_refl _) (Obj.cells zeroA 33)) (Nat.le_refl _) _
    have HU4 : Hid (Blk w4 w2.heap.size 33 ua) := Lib.hid (by rw [hw4]; exact HZ.out.row _)
    have HI4 : Hid (InMs w4 (.agg ua) X) := Lib.hid (HAFT.out w4 (Kp.of_below hal))
    have HK4 : Hid (Kp (· = w.heap.size) w2 w4) := Lib.hid (Kp.of_below hal)
    have HQ4 := Lib.hid (HQ2.out.keep hal)
    have HB4 := Lib.hid (HB2.out.trans (hal.mono HB2.out.size))
    clear hal hw4 HQ1 HQ2 HB1 HZ
    cases ok with
    | false =>
      rw [Bool.false_and, if_neg (by decide)] at hM hz
      subst hM
      subst hz
      go_wp2_with (first | refine wpList_store_then rfl 33 _ _ rfl w.heap.size zeroA rfl rfl 33 _ HQ4.out zeroA_size rfl zeroA_one ?_)
      refine Later.mk fun w5 hw5 => ?_
      have H9 := Lib.hid (HFZ.out _ HQ4.out HB4.out _ hw5)
      clear hw5
      go_wp2
      refine bodyPost_ret (results_cell2 (ty := 33) (g := w.heap.size) (k := 2) (m := 3) rfl rfl rfl H9.out.1 Try.underlying33 rfl zeroA_size) rfl ⟨_, rfl, zero_in _, H9.out.2⟩
    | true =>
      rw [Bool.true_and] at hM hz
      go_wp2_with (first | refine wpList_wanted_run (by rfl) (.agg ua) (exec_load_blk 33 _ rfl w2.heap.size rfl _ HU4.out Try.underlying33 rfl USZ.out) ?_)
      refine (HCHK.out _ _ HI4.out).mono ?_
      rintro e w5 ⟨rfl, hb⟩
      have HU5 := Lib.hid (HU4.out.keep hb)
      have HQ5 := Lib.hid (HQ4.out.keep hb)
      have HB5 := Lib.hid (HB4.out.trans (hb.mono HB4.out.size))
      have HK5 : Hid (Kp (· = w.heap.size) w2 w5) := Lib.hid (HK4.out.trans (Kp.of_below hb))
      clear hb HU4 HQ4 HB4 HK4 HI4
      cases cb with
      | false =>
        rw [if_neg (by decide)] at hM hz ⊢
        subst hM
        subst hz
        go_wp2_with (first | refine wpList_store_then rfl 33 _ _ rfl w.heap.size zeroA rfl rfl 33 _ HQ5.out zeroA_size rfl zeroA_one ?_)
        refine Later.mk fun w6 hw6 => ?_
        have H9 := Lib.hid (HFZ.out _ HQ5.out HB5.out _ hw6)
        clear hw6
        go_wp2
        refine bodyPost_ret (results_cell2 (ty := 33) (g := w.heap.size) (k := 2) (m := 3) rfl rfl rfl H9.out.1 Try.underlying33 rfl zeroA_size) rfl ⟨_, rfl, zero_in _, H9.out.2⟩
      | true =>
        rw [if_pos rfl] at hM hz ⊢
        subst hM
        subst hz
        go_wp2_with (first | refine wpList_wanted_run (by rfl) (.agg ua) (exec_load_blk 33 _ rfl w2.heap.size rfl _ HU5.out Try.underlying33 rfl USZ.out) ?_ | refine wpList_store_then rfl 33 _ _ rfl w.heap.size ua rfl rfl 33 _ HQ5.out USZ.out USZ2.out UONE.out ?_)
        refine Later.mk fun w6 hw6 => ?_
        have H9 : Hid (Blk w6 w.heap.size 33 ua ∧ Below w.heap.size w w6 ∧ InMs w6 (.agg ua) M) := Lib.hid (by
          rw [hw6]
          exact ⟨HQ5.out.row _, Below.setRow HB5.out (Nat.le_refl _) _, HAFT.out _ (HK5.out.trans (kp_row _ _ ua))⟩)
        clear hw6
        go_wp2
        refine bodyPost_ret (results_cell2 (ty := 33) (g := w.heap.size) (k := 2) (m := 3) rfl rfl rfl H9.out.1 Try.underlying33 rfl USZ.out) rfl ⟨_, rfl, H9.out.2.2, H9.out.2.1⟩
end Go.Proofs.Ytikimmhkfjaijaa
