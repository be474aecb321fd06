/-
  MESSAGES: part, laid or read (printed by wip/gen-msgj.py).
-/
import Derived.Test.YtikimmhkfjaijaaMsI
namespace Go.Proofs.Ytikimmhkfjaijaa
open Go.RowKit Reg Go.ChangeShapes

theorem exec_store_mid {P : Program} {o : Oper} {a : Act} {w : World} (ty : TypeId) (x y : Operand) (ho : o.op = .store ty x y) (g off : Nat) (cells : Array Value) (hx : a.eval x = .pointer (some ⟨g, off, none⟩)) (hy : a.eval y = .agg cells)
    (ht : w.there g off cells.size) (hi : (P.info? ty).map (·.size) = some cells.size) (h1 : cells.all (·.oneCell') = true) :
    (execOp a.eval o).run P w = .ok .skip (w.setCells g off cells.toList) := by
  unfold execOp
  simp only [ho, hx, hy, Instr.storeAt, Instr.sureAddr, Sem.run_bind, Sem.run_pure, Result.andThen_ok, run_storeVar_mid w g off ty cells ht hi h1]
theorem kp_setCells (b : Nat) : ∀ (vs : List Value) (o : Nat) (w : World), Kp (· = b) w (w.setCells b o vs)
  | [], _, w => Kp.refl _ w
  | u :: vs, o, w => by
    have h1 : Kp (· = b) w (w.setCell ⟨b, o, none⟩ u) := ⟨(Below.refl 0 w).setCell (Nat.zero_le _) _, fun i _ hn => Below.heap_setCell w _ _ i hn⟩
    exact h1.trans (kp_setCells b vs (o + 1) _)
def setMany : Array Value → Nat → List Value → Array Value
  | cs, _, [] => cs
  | cs, o, u :: us => setMany (cs.setIfInBounds o u) (o + 1) us
theorem blk_setCells {g : Nat} {t : TypeId} : ∀ (vs : List Value) (o : Nat) (w : World) (cs : Array Value), Blk w g t cs → Blk (w.setCells g o vs) g t (setMany cs o vs)
  | [], _, _, _, h => h
  | u :: vs, o, _, _, h => blk_setCells vs (o + 1) _ _ (h.set o u)

def prL (p : Prt) (sc : Value) : List Value := [.int .u64 p.b.1, .int .u64 p.b.2, .int .u64 p.t.1, .int .u64 p.t.2, .int .i64 p.f, .int .i64 p.a, sc]
theorem prL_one (p : Prt) (a : Option Addr) (n c : Nat) : ((prL p (.slice a n c)).toArray.all fun x => x.oneCell') = true := by
  rw [← Array.all_toList]
  rfl
theorem msA_part (m : Ms) (p : Prt) (se sl sc sv : Value) : setMany (msA m se sl sc) 19 (prL p sv) = msA { m with p := p } se sl sv := by simp [setMany, msA, prL]
def partF (S : Sf) (m : Ms) : Sf × Ms :=
  match S.m with
  | .lay s => (⟨.lay (s ++ Wire.putText (encS m.p).data.toList), S.bad || decide (checkP m.p ≠ 0)⟩, m)
  | .rd r st => (⟨.rd r (Wire.text st).2, S.bad || decide (decE 9 2 (strOf (Wire.text st).1) ≠ 0)⟩, { m with p := decP 9 2 (strOf (Wire.text st).1) })
theorem putNum_le (n : Nat) : (Wire.putNum n).length ≤ 9 := Wire.putNum_length n
theorem chgs_le : ∀ cs : List Cg, (∀ x ∈ cs, x.2.size = 32) → (cs.flatMap chgB).length ≤ 50 * cs.length
  | [], _ => by simp
  | x :: cs, h => by
    have h1 := chgs_le cs (fun y hy => h y (List.mem_cons_of_mem _ hy))
    have h2 := h x List.mem_cons_self
    have h3 := putNum_le x.1.toNat
    have h4 := putNum_le x.2.data.toList.length
    have h5 : x.2.data.toList.length = 32 := by rw [Array.length_toList]; exact h2
    have h6 : (chgB x).length ≤ 50 := by
      simp only [chgB, Wire.putText, List.length_append]
      omega
    simp only [List.flatMap_cons, List.length_append, List.length_cons]
    omega
theorem encB_le {p : Prt} (hok : okP p) : (encB p).length ≤ 163 := by
  have h1 := numB_le p (List.range 7)
  have h2 := chgs_le p.cs (fun x hx => (mayC_size p.cs (-1) (by decide) hok.2.2.2.2.2 x hx).2)
  have h3 := hok.2.2.2.1
  simp only [encB, List.length_append, List.length_range] at h1 ⊢
  omega
theorem encS_le (p : Prt) : (encS p).size ≤ 167 := by
  unfold encS
  split
  · rename_i h
    have := encB_le h
    rw [size_strOf, Crc.length_sealed]
    omega
  · exact Nat.zero_le _
theorem text_len (st : Wire.St) {w : World} {r : Nat} (h : Rdr w r st) : (Wire.text st).1.length ≤ 1152921504606846976 := by
  unfold Wire.text
  split
  · simp
  · rename_i l hl
    split
    · simp
    · rw [List.length_take]
      have hle : l.length ≤ 1152921504606846976 := by
        cases st with
        | none => cases hl
        | some l0 =>
          obtain ⟨g, off, c, b, _, _, h3, _⟩ := h
          cases l0 with
          | nil => cases hl
          | cons k r0 =>
            simp only [Wire.num] at hl
            split at hl
            · cases hl
            · simp only [Option.some.injEq] at hl
              rw [← hl, List.length_drop]
              simp only [List.length_cons] at h3
              omega
      omega
section
variable {W : World} {fb mb : Nat} {Z : Nat → Prop} {B : Nat} {S S' : Sf} {m m' : Ms} {w w' : World}
theorem slB_own {base : Nat} {sv : Value} {cs : List Cg} (h : OwC w base sv cs) {b : Nat} (hb : slB sv = some b) : base ≤ b := by
  rcases h.1.2 with ⟨rfl, _⟩ | ⟨g, cap, cur, rfl, hg, _⟩
  · cases hb
  · simp only [slB, Option.some.injEq] at hb
    omega
/-- the part has been stored -/
theorem FS.part (h : FS W fb mb Z B S m w) (p : Prt) (sv : Value) (hc : CRow Z p w sv) : FS W fb mb Z B S { m with p := p } (w.setCells mb 19 (prL p sv)) := by
  obtain ⟨se, sl, sc, hb, h1, h2, h3⟩ := h.ls
  have hk := kp_setCells mb (prL p sv) 19 w
  have hz : ∀ b, ¬ Z b → ¬ b = mb := fun b hb e => hb (e ▸ h.zm)
  refine ⟨h.kp.trans (hk.mono fun b e => e ▸ h.zm), h.fd.kp hk (fun b hb e => ?_), h.zz, h.zm, h.zl, h.ne, h.far, h.sz, se, sl, sv, ?_, h1.next hk hz (Alike.refl S), h2.next hk hz (Alike.refl S), hc.next hk hz⟩
  · rcases hb with q | q
    · exact h.ne (e.symm.trans q)
    · exact h.far (e ▸ q)
  · have := blk_setCells (prL p sv) 19 w _ hb
    rw [msA_part] at this
    exact this
/-- 'f.bad = b' -/
theorem FS.badTo (h : FS W fb mb Z B S m w) (b : Bool) : FS W fb mb Z B ⟨S.m, b⟩ m (w.setCell ⟨fb, 3, none⟩ (.bool b)) := by
  refine h.turn ((Kp.at w ⟨fb, 3, none⟩ _).mono fun b e => .inl e) ⟨h.fd.1.set 3 _, Md.ok_kp (A := fun b => b = fb) h.fd.2.1 (Kp.at _ _ _) (fun b hb e => h.fd.2.2 (e ▸ hb)), h.fd.2.2⟩ ⟨rfl, rfl, rfl⟩ h.sz
theorem FS.slotC (h : FS W fb mb Z B S m w) : ∃ sc, (∃ a c, sc = .slice a m.p.cs.length c) ∧ w.rangeAt mb 19 (prL m.p sc) ∧ CRow Z m.p w sc ∧ w.there mb 19 7 := by
  obtain ⟨se, sl, sc, hb, h1, h2, h3⟩ := h.ls
  have h4 := h3.1
  obtain ⟨a, c, rfl, -, -⟩ := h4
  refine ⟨_, ⟨a, c, rfl⟩, fun j v hj => ?_, h3, hb.there (by show 19 + 7 ≤ 26; decide)⟩
  rw [hb.cell]
  have hj7 : j < 7 := by
    rcases Nat.lt_or_ge j 7 with q | q
    · exact q
    · rw [List.getElem?_eq_none (by exact q)] at hj; cases hj
  match j, hj7 with
  | 0, _ => exact hj
  | 1, _ => exact hj
  | 2, _ => exact hj
  | 3, _ => exact hj
  | 4, _ => exact hj
  | 5, _ => exact hj
  | 6, _ => exact hj
set_option maxRecDepth 100000 in
set_option maxHeartbeats 1000000 in
theorem part_any (h : FS W fb mb Z B S m w) (hB : B ≤ 900000) :
    Calls Try.prog 58 #[.pointer (some ⟨fb, 0, none⟩)] w fun e w' => e = .returned (.tuple #[]) ∧ FS W fb mb Z (B + 200) (partF S m).1 (partF S m).2 w' := by
  obtain ⟨md, bad⟩ := S
  cases md with
  | lay s =>
    obtain ⟨sc, ⟨sa, scc, rfl⟩, hrng, hcr, -⟩ := h.slotC
    have hin : InPr w (prV m.p (.slice sa m.p.cs.length scc)) m.p := ⟨_, rfl, hcr.1, hcr.2.2⟩
    have HENC := Lib.hid (enc_any w _ m.p hin)
    have hss : s.length ≤ 900000 := Nat.le_trans h.sz hB
    have hes := encS_le m.p
    obtain ⟨O2, hO2⟩ : ∃ O2, O2 = strOf (s ++ Wire.putText (encS m.p).data.toList) := ⟨_, rfl⟩
    have HPT : Hid (∀ w2, Calls Try.prog 73 #[.string (strOf s), .string (encS m.p)] w2 fun e w' => e = .returned (.string O2) ∧ Below w2.heap.size w2 w') := Lib.hid fun w2 => by
      have := putText_any (strOf s) (encS m.p) w2 (by omega) (by rw [size_strOf]; omega)
      rw [strOf_list, ← hO2] at this
      exact this
    have hfs : ∀ w2, Below w.heap.size w w2 → ∀ b, FS W fb mb Z (B + 200) ⟨.lay (s ++ Wire.putText (encS m.p).data.toList), b⟩ m ((w2.setCell ⟨fb, 1, none⟩ (.string O2)).setCell ⟨fb, 3, none⟩ (.bool b)) := fun w2 h2 b => by
      have hk : Kp (Zf fb (Md.lay s)) w (w2.setCell ⟨fb, 1, none⟩ (.string O2)) := (Kp.of_below h2).trans ((Kp.at _ _ _).mono fun b e => .inl e)
      have hfd := ((h.fd.1.keep h2).set 1 (.string O2))
      have h3 : FS W fb mb Z (B + 200) ⟨.lay (s ++ Wire.putText (encS m.p).data.toList), bad⟩ m (w2.setCell ⟨fb, 1, none⟩ (.string O2)) := by
        refine h.turn hk ⟨?_, trivial, h.fd.2.2⟩ ⟨rfl, rfl, rfl⟩ ?_
        · rw [hO2] at hfd ⊢
          exact hfd
        · have := putNum_le (encS m.p).data.toList.length
          have h5 : (encS m.p).data.toList.length = (encS m.p).size := Array.length_toList
          have := h.sz
          simp only [Md.sz, Wire.putText, List.length_append] at this ⊢
          omega
      exact h3.badTo b
    have HFS := Lib.hid hfs
    have c0 := h.slots
    have c1 : w.cell? ⟨fb, 1, none⟩ = some (.string (strOf s)) := by rw [h.fd.1.cell]; rfl
    have c2 : w.cell? ⟨fb, 2, none⟩ = some (.pointer none) := by rw [h.fd.1.cell]; rfl
    have c3 : w.cell? ⟨fb, 3, none⟩ = some (.bool bad) := by rw [h.fd.1.cell]; rfl
    have f1 := h.fd.1.frozen 1
    have HFB := Lib.hid h.fd.1
    have HRNG := Lib.hid hrng
    have hgoal : partF ⟨.lay s, bad⟩ m = (⟨.lay (s ++ Wire.putText (encS m.p).data.toList), bad || decide (checkP m.p ≠ 0)⟩, m) := rfl
    rw [hgoal]
    clear hgoal hfs hO2 hes hss hin hcr hrng h hB
    generalize checkP m.p = z at *
    generalize encS m.p = E at *
    have HSI : Hid ((Try.prog.info? 31).map (·.size) = some (prL m.p (.slice sa m.p.cs.length scc)).length) := Lib.hid part_size
    have hpl : Value.agg (prL m.p (.slice sa m.p.cs.length scc)).toArray = prV m.p (.slice sa m.p.cs.length scc) := rfl
    generalize hprl : prL m.p (.slice sa m.p.cs.length scc) = pl at *
    go_enter Try.func58, Try.ntmps58
    go_wp2_with (first | refine wpList_load_mid rfl 31 _ rfl mb 19 rfl pl _ HRNG.out Try.underlying31 rfl HSI.out ?_)
    refine HENC.out.mono ?_
    rintro e w2 ⟨rfl, hb2⟩
    have d1 := cell_later hb2 c1
    have f2 := (HFB.out.keep hb2).frozen 1
    have HB2 := Lib.hid hb2
    clear hb2 hpl hprl c0 c2
    go_wp2_with fail
    refine (HPT.out _).mono ?_
    rintro e w3 ⟨rfl, hb3⟩
    have hb4 := HB2.out.trans (hb3.mono HB2.out.size)
    have d1 := cell_later hb4 c1
    have d3 := cell_later hb4 c3
    have f3 := (HFB.out.keep hb4).frozen 1
    have f33 := (HFB.out.keep hb4).frozen 3
    have HFW := Lib.hid (HFS.out w3 hb4)
    clear hb3 hb4 c1 c3 f1 f2 HB2 HFS
    cases bad with
    | true =>
      have HR := Lib.hid (HFW.out true)
      clear HFW
      go_wp2
      refine bodyPost_end (results_none rfl _ _ _) rfl ?_
      exact ⟨rfl, HR.out⟩
    | false =>
      by_cases hz : z = 0
      · subst hz
        have HR := Lib.hid (HFW.out false)
        clear HFW
        go_wp2
        refine bodyPost_end (results_none rfl _ _ _) rfl ?_
        exact ⟨rfl, HR.out⟩
      · have HR := Lib.hid (HFW.out true)
        have hne : (z != 0) = true := by simpa using hz
        have hd : decide (z ≠ 0) = true := decide_eq_true hz
        have HD := Lib.hid hd
        clear HFW hd
        go_wp2
        refine bodyPost_end (results_none rfl _ _ _) rfl ?_
        rw [HD.out]
        exact ⟨rfl, HR.out⟩
  | rd r st =>
    have hrd : Rdr w r st := h.fd.2.1
    have htl := text_len st hrd
    obtain ⟨T, hT⟩ : ∃ T, T = strOf (Wire.text st).1 := ⟨_, rfl⟩
    obtain ⟨st2, hst2⟩ : ∃ st2, st2 = (Wire.text st).2 := ⟨_, rfl⟩
    have HTX := Lib.hid (fun w2 (h2 : Below w.heap.size w w2) => text_any r st w2 (hrd.keep h2))
    have HDEC := Lib.hid (fun w2 => dec_any w2 T (by rw [hT, size_strOf]; exact htl))
    unfold TextPost at HTX
    unfold DecT at HDEC
    rw [← hT, ← hst2] at HTX
    obtain ⟨P, hP⟩ : ∃ P, P = decP 9 2 T := ⟨_, rfl⟩
    obtain ⟨z, hz⟩ : ∃ z, z = decE 9 2 T := ⟨_, rfl⟩
    rw [← hP, ← hz] at HDEC
    have hgoal : partF ⟨.rd r st, bad⟩ m = (⟨.rd r st2, bad || decide (z ≠ 0)⟩, { m with p := P }) := by rw [hst2, hz, hP, hT]; rfl
    rw [hgoal]
    have hzlt : ∀ b, Z b → b < w.heap.size := fun b hb => h.z_lt hb
    have HSTEP : Hid (∀ w2 w3, Below w.heap.size w w2 → w2.grownBy w3 (some r) → Rdr w3 r st2 → FS W fb mb Z (B + 200) ⟨.rd r st2, bad⟩ m w3) := Lib.hid fun w2 w3 h2 h3 h4 => by
      have hk : Kp (Zf fb (Md.rd r st)) w w3 := (Kp.of_below h2).trans ((Kp.of_row h3).mono fun b e => .inr e)
      refine h.turn hk ⟨?_, h4, h.fd.2.2⟩ ⟨rfl, rfl, rfl⟩ (Nat.zero_le _)
      exact (Kp.of_row h3).blk (h.fd.1.keep h2) (fun e => h.fd.2.2 (.inl e))
    have HFB := Lib.hid h.fd.1
    have HH := Lib.hid h
    have HZL := Lib.hid hzlt
    have c2 : w.cell? ⟨fb, 2, none⟩ = some (.pointer (some ⟨r, 0, none⟩)) := by rw [h.fd.1.cell]; rfl
    have HSI : Hid ((Try.prog.info? 31).map (·.size) = some 7) := Lib.hid part_size
    clear hgoal hzlt hz hP hT hst2 htl hrd h hB
    go_enter Try.func58, Try.ntmps58
    go_wp2_with fail
    refine wp_region_chain [8, 9, 15] (kv [(8, .is (.string T)), (9, .ex (fun u => ∃ a c, u = .tuple #[.agg (prL P (.slice a P.cs.length c)).toArray, .int .i64 z]) ⟨_, none, 0, rfl⟩), (15, .is undef)]) (fun l w2 => match l with | [] => Below w.heap.size w w2 | [_] => FS W fb mb Z (B + 200) ⟨.rd r st2, bad⟩ m w2 ∧ w.heap.size ≤ w2.heap.size | [_, v] => FS W fb mb Z (B + 200) ⟨.rd r st2, bad⟩ m w2 ∧ ∃ sv, v = .tuple #[.agg (prL P sv).toArray, .int .i64 z] ∧ CRow Z P w2 sv | _ => FS W fb mb Z (B + 200) ⟨.rd r st2, bad⟩ { m with p := P } w2) (by kernel_rfl) (by kernel_rfl) (by kernel_rfl) (kv_inh _) (Below.drew (Below.refl _ _)) ?_
    intro ν hν
    have n8 : ν 8 = .string T := hν 8
    obtain ⟨a9, c9, n9⟩ : ∃ a c, ν 9 = .tuple #[.agg (prL P (.slice a P.cs.length c)).toArray, .int .i64 z] := hν 9
    have n15 : ν 15 = undef := hν 15
    clear hν
    refine ch_plain 0 3 6 (by rfl) rfl (by kernel_rfl) (by kernel_rfl) ?_
    apply Exists.intro
    refine ⟨fun st w2 hlo hhi hJ => ?_, ?_⟩
    · clear hlo hhi hJ
      go_simp
      exact And.intro rfl rfl
    simp only [Act.put, List.setIfInBounds_toArray, List.set_cons_succ, List.set_cons_zero, Nat.reduceAdd]
    refine ch_plain 0 3 6 (by rfl) rfl (by kernel_rfl) (by kernel_rfl) ?_
    apply Exists.intro
    refine ⟨fun st w2 hlo hhi hJ => ?_, ?_⟩
    · clear hlo hhi hJ
      go_simp
      exact And.intro rfl rfl
    simp only [Act.put, List.setIfInBounds_toArray, List.set_cons_succ, List.set_cons_zero, Nat.reduceAdd]
    refine ch_plain 0 3 6 (by rfl) rfl (by kernel_rfl) (by kernel_rfl) ?_
    apply Exists.intro
    refine ⟨fun st w2 hlo hhi hJ => ?_, ?_⟩
    · clear hlo hhi hJ
      go_simp
      exact And.intro rfl rfl
    simp only [Act.put, List.setIfInBounds_toArray, List.set_cons_succ, List.set_cons_zero, Nat.reduceAdd]
    refine ch_plain 0 2 6 (by rfl) rfl (by kernel_rfl) (by kernel_rfl) ?_
    apply Exists.intro
    refine ⟨fun st w2 hlo hhi hJ => ?_, ?_⟩
    · have y0 : w2.cell? ⟨fb, 0, none⟩ = some (.pointer (some ⟨mb, 0, none⟩)) := by
        have q : st = 0 ∨ st = 1 ∨ st = 2 := by omega
        rcases q with rfl | rfl | rfl
        · have hj : Below w.heap.size w w2 := hJ
          exact cell_later hj HH.out.slots
        · have hj : FS W fb mb Z (B + 200) ⟨.rd r st2, bad⟩ m w2 ∧ _ := hJ
          exact hj.1.slots
        · have hj : FS W fb mb Z (B + 200) ⟨.rd r st2, bad⟩ m w2 ∧ _ := hJ
          exact hj.1.slots
      clear hlo hhi hJ
      go_simp
      exact And.intro rfl rfl
    simp only [Act.put, List.setIfInBounds_toArray, List.set_cons_succ, List.set_cons_zero, Nat.reduceAdd]
    refine ch_plain 0 3 6 (by rfl) rfl (by kernel_rfl) (by kernel_rfl) ?_
    apply Exists.intro
    refine ⟨fun st w2 hlo hhi hJ => ?_, ?_⟩
    · clear hlo hhi hJ
      go_simp
      exact And.intro rfl rfl
    simp only [Act.put, List.setIfInBounds_toArray, List.set_cons_succ, List.set_cons_zero, Nat.reduceAdd]
    refine ch_plain 0 3 6 (by rfl) rfl (by kernel_rfl) (by kernel_rfl) ?_
    apply Exists.intro
    refine ⟨fun st w2 hlo hhi hJ => ?_, ?_⟩
    · clear hlo hhi hJ
      go_simp
      exact And.intro rfl rfl
    simp only [Act.put, List.setIfInBounds_toArray, List.set_cons_succ, List.set_cons_zero, Nat.reduceAdd]
    refine ch_plain 0 3 6 (by rfl) rfl (by kernel_rfl) (by kernel_rfl) ?_
    apply Exists.intro
    refine ⟨fun st w2 hlo hhi hJ => ?_, ?_⟩
    · clear hlo hhi hJ
      go_simp
      exact And.intro rfl rfl
    simp only [Act.put, List.setIfInBounds_toArray, List.set_cons_succ, List.set_cons_zero, Nat.reduceAdd]
    refine ch_plain 0 0 6 (by rfl) rfl (by kernel_rfl) (by kernel_rfl) ?_
    apply Exists.intro
    refine ⟨fun st w2 hlo hhi hJ => ?_, ?_⟩
    · have hj : Below w.heap.size w w2 := by
        obtain rfl : st = 0 := by omega
        exact hJ
      have y2 := cell_later hj c2
      clear hj
      clear hlo hhi hJ
      go_simp
      exact And.intro rfl rfl
    simp only [Act.put, List.setIfInBounds_toArray, List.set_cons_succ, List.set_cons_zero, Nat.reduceAdd]
    refine ch_special 0 6 (by rfl) rfl (by decide) (by kernel_rfl) (fun w2 hJ => ?_) ?_
    · have hj : Below w.heap.size w w2 := hJ
      go_simp
      refine (HTX.out w2 hj).mono ?_
      rintro e w3 ⟨rfl, h3, h4⟩
      exact ⟨_, rfl, rfl, HSTEP.out w2 w3 hj h4 h3, Nat.le_trans hj.size h4.size⟩
    rw [n8]
    simp only [Act.put, List.setIfInBounds_toArray, List.set_cons_succ, List.set_cons_zero, Nat.reduceAdd]
    refine ch_special 1 6 (by rfl) rfl (by decide) (by kernel_rfl) (fun w2 hJ => ?_) ?_
    · have hj : FS W fb mb Z (B + 200) ⟨.rd r st2, bad⟩ m w2 ∧ w.heap.size ≤ w2.heap.size := hJ
      go_simp
      refine (HDEC.out w2).mono ?_
      rintro e w3 ⟨v, rfl, ⟨sv, rfl, hown, hwf⟩, hb⟩
      obtain ⟨a, c, hsv⟩ : ∃ a c, sv = .slice a P.cs.length c := by
        obtain ⟨a, c, e, -⟩ := hown.rd
        exact ⟨a, c, e⟩
      refine ⟨_, rfl, ⟨a, c, by rw [hsv]; rfl⟩, hj.1.turn (Kp.of_below hb) (hj.1.fd.keep hb) (Alike.refl _) hj.1.sz, sv, rfl, hown.rd, fun _ b hb2 hzb => ?_, hwf⟩
      have h1 := slB_own hown hb2
      have h2 := HZL.out b hzb
      omega
    rw [n9]
    simp only [Act.put, List.setIfInBounds_toArray, List.set_cons_succ, List.set_cons_zero, Nat.reduceAdd]
    refine ch_plain 0 3 6 (by rfl) rfl (by kernel_rfl) (by kernel_rfl) ?_
    apply Exists.intro
    refine ⟨fun st w2 hlo hhi hJ => ?_, ?_⟩
    · clear hlo hhi hJ
      go_simp
      exact And.intro rfl rfl
    simp only [Act.put, List.setIfInBounds_toArray, List.set_cons_succ, List.set_cons_zero, Nat.reduceAdd]
    refine ch_plain 0 3 6 (by rfl) rfl (by kernel_rfl) (by kernel_rfl) ?_
    apply Exists.intro
    refine ⟨fun st w2 hlo hhi hJ => ?_, ?_⟩
    · clear hlo hhi hJ
      go_simp
      exact And.intro rfl rfl
    simp only [Act.put, List.setIfInBounds_toArray, List.set_cons_succ, List.set_cons_zero, Nat.reduceAdd]
    refine ch_plain 0 3 6 (by rfl) rfl (by kernel_rfl) (by kernel_rfl) ?_
    apply Exists.intro
    refine ⟨fun st w2 hlo hhi hJ => ?_, ?_⟩
    · clear hlo hhi hJ
      go_simp
      exact And.intro rfl rfl
    simp only [Act.put, List.setIfInBounds_toArray, List.set_cons_succ, List.set_cons_zero, Nat.reduceAdd]
    refine ch_plain 0 3 6 (by rfl) rfl (by kernel_rfl) (by kernel_rfl) ?_
    apply Exists.intro
    refine ⟨fun st w2 hlo hhi hJ => ?_, ?_⟩
    · clear hlo hhi hJ
      go_simp
      exact And.intro rfl rfl
    simp only [Act.put, List.setIfInBounds_toArray, List.set_cons_succ, List.set_cons_zero, Nat.reduceAdd]
    refine ch_plain 0 3 6 (by rfl) rfl (by kernel_rfl) (by kernel_rfl) ?_
    apply Exists.intro
    refine ⟨fun st w2 hlo hhi hJ => ?_, ?_⟩
    · clear hlo hhi hJ
      go_simp
      exact And.intro rfl rfl
    simp only [Act.put, List.setIfInBounds_toArray, List.set_cons_succ, List.set_cons_zero, Nat.reduceAdd]
    refine ch_special 2 6 (by rfl) rfl (by decide) (by kernel_rfl) (fun w2 hJ => ?_) ?_
    · have hj : FS W fb mb Z (B + 200) ⟨.rd r st2, bad⟩ m w2 ∧ ∃ sv, ν 9 = .tuple #[.agg (prL P sv).toArray, .int .i64 z] ∧ CRow Z P w2 sv := hJ
      have hf := hj.1
      have hj2 := hj.2
      clear hj hJ
      refine hj2.elim fun sv hj3 => ?_
      have hsv := hj3.1
      have hcr := hj3.2
      clear hj3
      rw [n9] at hsv
      have hsv2 : sv = .slice a9 P.cs.length c9 := by
        simp only [Value.tuple.injEq, Value.agg.injEq, prL, Array.mk.injEq, List.cons.injEq, true_and, and_true] at hsv
        exact hsv.symm
      subst hsv2
      obtain ⟨sc, -, -, -, hth⟩ := hf.slotC
      rw [exec_store_mid 31 (.tmp 23) (.tmp 20) rfl mb 19 (prL P (.slice a9 P.cs.length c9)).toArray rfl rfl hth HSI.out (prL_one _ _ _ _)]
      exact ⟨rfl, hf.part P _ hcr⟩
    rw [n15]
    simp only [Act.put, Nat.reduceAdd]
    refine ch_plain 0 3 6 (by rfl) rfl (by kernel_rfl) (by kernel_rfl) ?_
    apply Exists.intro
    refine ⟨fun st w2 hlo hhi hJ => ?_, ?_⟩
    · clear hlo hhi hJ
      go_simp
      exact And.intro rfl rfl
    simp only [Act.put, Nat.reduceAdd]
    refine ch_nil (fun w9 hJ => ?_)
    have HF9 : Hid (FS W fb mb Z (B + 200) ⟨.rd r st2, bad⟩ { m with p := P } w9) := Lib.hid hJ
    clear hJ n8 n9 n15
    have d3 : w9.cell? ⟨fb, 3, none⟩ = some (.bool bad) := by rw [HF9.out.fd.1.cell]; rfl
    have f3 := HF9.out.fd.1.frozen 3
    have HFW := Lib.hid (fun b => HF9.out.badTo b)
    clear HF9 c2
    cases bad with
    | true =>
      have HR := Lib.hid (HFW.out true)
      clear HFW
      go_wp2
      refine bodyPost_end (results_none rfl _ _ _) rfl ?_
      exact ⟨rfl, HR.out⟩
    | false =>
      by_cases hz : z = 0
      · subst hz
        have HR := Lib.hid (HFW.out false)
        clear HFW
        go_wp2
        refine bodyPost_end (results_none rfl _ _ _) rfl ?_
        exact ⟨rfl, HR.out⟩
      · have HR := Lib.hid (HFW.out true)
        have hne : (z != 0) = true := by simpa using hz
        have hd : decide (z ≠ 0) = true := decide_eq_true hz
        have HD := Lib.hid hd
        clear HFW hd
        go_wp2
        refine bodyPost_end (results_none rfl _ _ _) rfl ?_
        exact ⟨rfl, HR.out⟩
end
end Go.Proofs.Ytikimmhkfjaijaa
