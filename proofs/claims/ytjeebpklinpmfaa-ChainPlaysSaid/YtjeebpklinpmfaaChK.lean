/-
  CHAINS: Changes (printed by wip/gen-chk.py).
-/
import Derived.Test.YtjeebpklinpmfaaChJ
import Derived.ChangeKeysEq
namespace Go.Proofs.Ytjeebpklinpmfaa
open Go.RowKit Reg Go.WideShapes Go.ChangeShapes

theorem wrap_20 {k : Nat} (h : k ≤ 20) : wrap64 (k : Int) = (k : Int) := IntWalk.wrap64_in _ (by omega)
theorem str_iff (a b : ByteArray) : (a.toList == b.toList) = true ↔ a = b := by
  rw [str_eq, decide_eq_true_iff]
  exact ⟨fun h => ByteArray.ext (Array.toList_inj.1 h), fun h => by rw [h]⟩
theorem below_drewN {B : Nat} {w w1 : World} (h : Below B w w1) : ∀ m, Below B w (w1.drewN m) := fun _ => ⟨h.os, h.tape, h.output, h.size, h.block⟩
def cgL (x : Cg) : List Value := [.int .i64 x.1, .string x.2]
def cgsL (l : List Cg) : List Value := l.flatMap cgL
theorem cgsL_length (l : List Cg) : (cgsL l).length = l.length * 2 := by
  induction l with
  | nil => rfl
  | cons x l ih => simp only [cgsL, List.flatMap_cons, List.length_append, List.length_cons, cgL, List.length_nil] at ih ⊢; omega
theorem cgsL_append (l m : List Cg) : cgsL (l ++ m) = cgsL l ++ cgsL m := by simp [cgsL]
theorem cgsL_one (l : List Cg) : ∀ u ∈ cgsL l, u.oneCell' = true := by
  intro u hu
  simp only [cgsL, List.mem_flatMap] at hu
  obtain ⟨x, _, hu⟩ := hu
  simp [cgL] at hu
  rcases hu with rfl | rfl <;> rfl
theorem cgsL_at (l : List Cg) : ∀ j, j < l.length → (cgsL l)[j * 2]? = some (.int .i64 (l.getD j (0, ByteArray.empty)).1) ∧ (cgsL l)[j * 2 + 1]? = some (.string (l.getD j (0, ByteArray.empty)).2) := by
  induction l with
  | nil => intro j hj; simp at hj
  | cons x l ih =>
    intro j hj
    have e : cgsL (x :: l) = .int .i64 x.1 :: .string x.2 :: cgsL l := rfl
    rw [e]
    cases j with
    | zero => exact ⟨rfl, rfl⟩
    | succ j =>
      have h1 := ih j (by simpa using hj)
      have e1 : (j + 1) * 2 = j * 2 + 2 := by omega
      rw [e1]
      exact h1
/-- v owns the changes cs, in a row from block 'base' on -/
def OwC (w : World) (base : Nat) (v : Value) (cs : List Cg) : Prop := w.ownsRow base 48 2 v cs.length (cgsL cs) ∧ cs.length ≤ maxLen
theorem chg_info : (Try.prog.info? 48).map (fun i => (i.zero, i.size, i.bytes)) = some (some (.agg #[.int .i64 0, .string ByteArray.empty]), 2, 24) := by kernel_rfl
section
variable {w w' : World} {base : Nat} {v : Value} {cs : List Cg}
theorem OwC.nil_ (w : World) (base : Nat) : OwC w base (.slice none 0 0) [] := ⟨World.ownsRow_nil _ _ _ _, by simp⟩
theorem OwC.keep (h : OwC w base v cs) (hb : Below w.heap.size w w') : OwC w' base v cs := by
  refine ⟨⟨h.1.1, ?_⟩, h.2⟩
  rcases h.1.2 with hn | ⟨g, cap, cur, rfl, hg, hh, rest⟩
  · exact .inl hn
  · exact .inr ⟨g, cap, cur, rfl, hg, (hb.block g (lt_of_block hh)).trans hh, rest⟩
theorem OwC.mono {base' : Nat} (h : OwC w base v cs) (hb : base' ≤ base) : OwC w base' v cs := by
  refine ⟨⟨h.1.1, ?_⟩, h.2⟩
  rcases h.1.2 with hn | ⟨g, cap, cur, rfl, hg, rest⟩
  · exact .inl hn
  · exact .inr ⟨g, cap, cur, rfl, Nat.le_trans hb hg, rest⟩
theorem OwC.rd (h : OwC w base v cs) : InC w v cs := by
  have hr := Rd.of_own h.1
  rcases hr.2 with ⟨rfl, h0⟩ | ⟨g, off, c, rfl, hc, hx⟩
  · exact ⟨none, 0, by rw [h0], h.2, fun j hj => by omega⟩
  · exact ⟨_, c, rfl, h.2, fun j hj => ⟨g, off, rfl, hx _ _ (cgsL_at cs j hj).1, by rw [Nat.add_assoc]; exact hx _ _ (cgsL_at cs j hj).2⟩⟩
def AppC (w : World) (base : Nat) (v : Value) (cs : List Cg) (v' : Value) (w' : World) : Prop := OwC w' base v' cs ∧ w.grownBy w' v.ownBlock
theorem AppC.below {xs : List Cg} {v' : Value} (h : AppC w base v cs v' w') (ho : OwC w base v xs) (hb : base ≤ w.heap.size) : Below base w w' := below_grown h.2 hb (own_block ho.1)
theorem app_chg (ty : TypeId) (x : Cg) (w0 : World) (cc : Array Value) (hw : w = w0.alloc (.cells cc 48)) (hcc : cc = (cgL x).toArray) (ho : OwC w base v cs) (hn : cs.length + 1 ≤ 2 ^ 40) (hbase : base ≤ w.heap.size) :
    ∃ v' w', (Builtin.append_ #[37, 37] ty #[v, .slice (some ⟨w0.heap.size, 0, none⟩) 1 1]).run Try.prog w = .ok v' w' ∧ AppC w base v (cs ++ [x]) v' w' := by
  obtain ⟨i, hi, hz0, hz1, hz2⟩ := info_parts chg_info
  have hb : Blk w w0.heap.size 48 (cgL x).toArray := by rw [hw, hcc]; exact Blk.new _ _ _
  have e1 : cgsL [x] = cgL x := rfl
  obtain ⟨v', w', h1, h2, h3, _⟩ := app_own (P := Try.prog) w base 37 ty 48 i _ 2 24 Try.underlying37 hi hz0 hz1 hz2 rfl (by decide) ho.1 (Rd.of_blk hb (n := 1) (size := 2) rfl 1 (Nat.le_refl _)) (by rw [← e1]; exact cgsL_one _) (by unfold maxLen; omega) (by omega) hbase
  refine ⟨v', w', h1, ⟨?_, by rw [List.length_append, List.length_singleton]; unfold maxLen; omega⟩, h3⟩
  rw [cgsL_append, List.length_append, e1]
  exact h2
end
def volEq (a b : Vo) : Bool := (List.range 8).all fun i => (a.getD i ByteArray.empty).toList == (b.getD i ByteArray.empty).toList
def cgAt (a b : Vo) (i : Nat) : List Cg := if ((a.getD i ByteArray.empty).toList == (b.getD i ByteArray.empty).toList) = true then [] else [((i : Int), a.getD i ByteArray.empty)]
def chgs (a b : Vo) (k : Nat) : List Cg := (List.range k).flatMap (cgAt a b)
theorem chgs_succ (a b : Vo) (k : Nat) : chgs a b (k + 1) = chgs a b k ++ cgAt a b k := by simp [chgs, List.range_succ]
theorem cgAt_le (a b : Vo) (i : Nat) : (cgAt a b i).length ≤ 1 := by
  unfold cgAt
  split <;> simp
theorem chgs_le (a b : Vo) (k : Nat) : (chgs a b k).length ≤ k := by
  induction k with
  | zero => simp [chgs]
  | succ k ih => rw [chgs_succ, List.length_append]; have := cgAt_le a b k; omega
theorem chgs_same {a b : Vo} (h : volEq a b = true) : chgs a b 8 = [] := by
  unfold volEq at h
  rw [List.all_eq_true] at h
  unfold chgs
  rw [List.flatMap_eq_nil_iff]
  intro i hi
  unfold cgAt
  rw [if_pos (h i hi)]
theorem str_size : (Try.prog.info? 9).map (·.size) = some 1 := by kernel_rfl
theorem vol_items (w : World) (d : Nat) {a b : Vo} (ha : wfV a) (hb : wfV b) : ∀ is : List Nat, (∀ i ∈ is, i < 8) →
    (Op.eqItems (d + 1) 9 (Try.prog.cellsOf 9) (voL a).toArray (voL b).toArray is).run Try.prog w = .ok (is.all fun i => (a.getD i ByteArray.empty).toList == (b.getD i ByteArray.empty).toList) w
  | [], _ => rfl
  | i :: is, h => by
    have hi := h i List.mem_cons_self
    have hk : Try.prog.plainKey 9 = true := by kernel_rfl
    have hc : Try.prog.cellsOf 9 = 1 := by kernel_rfl
    have p0 : (part 9 (voL a).toArray (i * 1)).run Try.prog w = .ok (.string (a.getD i ByteArray.empty)) w := run_part_plain w hk (by rw [Nat.mul_one]; simpa using vol_at ha hi)
    have p1 : (part 9 (voL b).toArray (i * 1)).run Try.prog w = .ok (.string (b.getD i ByteArray.empty)) w := run_part_plain w hk (by rw [Nat.mul_one]; simpa using vol_at hb hi)
    have e := run_equalIn_string (P := Try.prog) w d 9 (a.getD i ByteArray.empty) (b.getD i ByteArray.empty) Try.underlying9
    have ih := vol_items w d ha hb is (fun j hj => h j (List.mem_cons_of_mem _ hj))
    rw [hc] at ih ⊢
    simp only [Op.eqItems, Sem.run_bind, p0, p1, e, Result.andThen_ok, List.all_cons]
    cases hz : (a.getD i ByteArray.empty).toList == (b.getD i ByteArray.empty).toList with
    | false => simp
    | true => simpa using ih
theorem vol_neq (w : World) {a b : Vo} (ha : wfV a) (hb : wfV b) : (binOp .neq 68 (.agg (voL a).toArray) (.agg (voL b).toArray)).run Try.prog w = .ok (.bool (!volEq a b)) w := by
  obtain ⟨i, hi⟩ : ∃ i, Try.prog.info? 9 = some i := by
    have h := str_size
    cases h2 : Try.prog.info? 9 with
    | none => rw [h2] at h; cases h
    | some i => exact ⟨i, rfl⟩
  have h1 := run_equalIn_array (P := Try.prog) w 9999 (voL a).toArray (voL b).toArray Try.underlying68 hi
  have h2 := vol_items w 9998 ha hb (List.range 8) (fun i hi => List.mem_range.1 hi)
  rw [h2] at h1
  simp only [binOp]
  simp [Op.equal, Op.maxDepth, h1, volEq]
theorem exec_neq {P : Program} {w : World} {o : Oper} {a : Act} (t tr : TypeId) (x y : Operand) (ho : o.op = .binOp .neq t x y tr) (us vs : Array Value) (r : Value) (hx : a.eval x = .agg us) (hy : a.eval y = .agg vs)
    (hm : P.eqGuardType P.depth t = false) (hr : (binOp .neq t (.agg us) (.agg vs)).run P w = .ok r w) : (execOp a.eval o).run P w = .ok (.value r) w := by
  have hg := run_eqGuard_agg (P := P) w .neq t x y us vs hm
  unfold execOp
  simp [ho, hx, hy, hg, hr]
def Ch.chE (C : Ch) (n : Int) : Int := if n < 0 ∨ (C.snaps.length : Int) ≤ n then 5 else 0
def Ch.baseV (C : Ch) (n : Nat) : Vo := if n = 0 then zeroVo C.n else (C.snaps.getD (n - 1) nosn).vol
def Ch.chC (C : Ch) (n : Int) : List Cg := if n < 0 ∨ (C.snaps.length : Int) ≤ n then [] else chgs (C.snaps.getD n.toNat nosn).vol (C.baseV n.toNat) 8
def ChgT (w : World) (cs : List Cg) (r : Int) (e : Ending) (w' : World) : Prop := ∃ v, e = .returned (.tuple #[v, .int .i64 r]) ∧ OwC w' w.heap.size v cs ∧ Below w.heap.size w w'
section
variable {w : World} {bc : Nat} {sl : Value} {C : Ch}
theorem chg_nil (n : Int) : Calls Try.prog 14 #[.pointer none, .int .i64 n] w fun e w' => e = .returned (.tuple #[.slice none 0 0, .int .i64 1]) ∧ w = w' := by
  go_enter Try.func14, Try.ntmps14
  go_wp2_with fail
  refine (none_nil _).mono ?_
  rintro e w1 ⟨rfl, rfl⟩
  go_wp2
  go_ret2
  exact ⟨rfl, rfl⟩
theorem chg_bad (h : Cm w bc sl C) (n : Int) (hn : n < 0 ∨ (C.snaps.length : Int) ≤ n) : Calls Try.prog 14 #[.pointer (some ⟨bc, 0, none⟩), .int .i64 n] w (ChgT w (C.chC n) (C.chE n)) := by
  have HR := Lib.hid (show C.chE n = 5 ∧ C.chC n = [] from ⟨by unfold Ch.chE; rw [if_pos hn], by unfold Ch.chC; rw [if_pos hn]⟩)
  have HNO := Lib.hid (none_no h)
  have c9 := h.c9
  obtain ⟨a, c, rfl, hc, hm, -⟩ := h.snaps.open_
  clear h hc hm
  generalize hL : C.snaps.length = L at *
  have hs : n < 0 ∨ (0 ≤ n ∧ (L : Int) ≤ n) := by omega
  clear hn hL
  rcases hs with h1 | ⟨h1, h2⟩
  all_goals
    go_enter Try.func14, Try.ntmps14
    go_wp2_with fail
    refine HNO.out.mono ?_
    rintro e w2 ⟨rfl, rfl⟩
    go_wp2
    go_ret2
    exact ⟨_, by rw [HR.out.1]; rfl, by rw [HR.out.2]; exact OwC.nil_ _ _, Below.refl _ _⟩
theorem snap_rng {s : Sn} {g o : Nat} (h : w.rangeAt g o (snL s)) : w.rangeAt g o (voL s.vol) := fun j u hu => by
  have hj := (List.getElem?_eq_some_iff.1 hu).1
  refine h j u ?_
  unfold snL
  rw [List.getElem?_append_left hj]
  exact hu
set_option maxRecDepth 100000 in
theorem chg_first (h : Cm w bc sl C) (hm : 0 < C.snaps.length) : Calls Try.prog 14 #[.pointer (some ⟨bc, 0, none⟩), .int .i64 (0 : Int)] w (ChgT w (C.chC (0 : Int)) (C.chE (0 : Int))) := by
  have hnn : ¬ ((0 : Int) < 0 ∨ (C.snaps.length : Int) ≤ (0 : Int)) := by omega
  obtain ⟨nv, hnv⟩ : ∃ v, v = (C.snaps.getD (0) nosn).vol := ⟨_, rfl⟩
  obtain ⟨bv, hbv⟩ : ∃ v, v = zeroVo C.n := ⟨_, rfl⟩
  have HR := Lib.hid (show C.chE (0 : Int) = 0 ∧ C.chC (0 : Int) = chgs nv bv 8 from ⟨by unfold Ch.chE; rw [if_neg hnn], by unfold Ch.chC; rw [if_neg hnn, hnv, hbv]; rfl⟩)
  have hwn : wfV nv := by rw [hnv]; exact (wf_getD h.snaps.1 _).vol
  have hwb : wfV bv := by rw [hbv]; exact zeroVo_wf h.n.2
  have HNO := Lib.hid (none_no h)
  have HC := Lib.hid h
  have c9 := h.c9
  have c8 := h.c8
  have hn8 := h.n
  have hxs := h.snaps.2.1
  obtain ⟨a, c, rfl, hc, -, hx⟩ := h.snaps.open_
  obtain ⟨g, rfl, -, hr⟩ := hx (0) hm
  have hrn : w.rangeAt g (0 * 11) (voL nv) := by rw [hnv]; exact snap_rng hr
  have HRN := Lib.hid hrn
  have HZ := Lib.hid (fun w => zeros_any w C.n hn8.2)
  have HZW := Lib.hid (zeroVo_wf hn8.2)
  have HBW := Lib.hid hwb
  have HNW := Lib.hid hwn
  have szv : ∀ v, wfV v → (Try.prog.info? 68).map (fun i => i.size) = some (voL v).length := fun v hv => by rw [voL_length hv]; exact vol_size
  have sza : ∀ v, wfV v → (Try.prog.info? 68).map (fun i => i.size) = some (voL v).toArray.size := fun v hv => by rw [List.size_toArray, voL_length hv]; exact vol_size
  have sz8 : ∀ v, wfV v → (8 : Nat) = (voL v).toArray.size := fun v hv => by rw [List.size_toArray, voL_length hv]
  have HSV := Lib.hid szv
  have HSA := Lib.hid sza
  have HS8 := Lib.hid sz8
  have HBV := Lib.hid hbv
  clear szv sza sz8 h hnn hnv hbv hwn hwb hx hr hrn hc hn8
  generalize hL : C.snaps.length = L at *
  have i1 : (0 : Int) < (L : Int) := by omega
  have HL := Lib.hid hL
  clear hL hm hxs
  go_enter Try.func14, Try.ntmps14
  go_wp2_with fail
  refine HNO.out.mono ?_
  rintro e w2 ⟨rfl, rfl⟩
  go_wp2_with fail
  refine (HZ.out _).mono ?_
  rintro e w3 ⟨rfl, hb⟩
  have HB3 := Lib.hid hb
  have HCL := Lib.hid (HC.out.keep hb)
  clear hb c8 c9
  have c9 := HCL.out.c9
  go_wp2_with (refine wpList_store_then rfl 68 _ _ rfl w3.heap.size (voL (zeroVo C.n)).toArray rfl rfl 68 _ (Blk.new _ _ _) (HSA.out _ HZW.out) (HS8.out _ HZW.out) (all_oneCell_toArray (voL_one _)) ?_)
  refine Later.mk fun w4 hw4 => ?_
  have H4 := Lib.hid (show Below w3.heap.size w3 w4 ∧ Blk w4 w3.heap.size 68 (voL (zeroVo C.n)).toArray by rw [hw4]; exact ⟨Below.setRow ((Below.refl _ _).alloc (Nat.le_refl _) _) (Nat.le_refl _) _, (Blk.new _ _ _).row _⟩)
  clear hw4 c9
  have c9 := (HCL.out.keep H4.out.1).c9
  obtain ⟨wy, hwy⟩ : ∃ wy, wy = w4 := ⟨_, rfl⟩
  subst hwy
  have HY := Lib.hid (show Below w3.heap.size w3 wy ∧ Blk wy w3.heap.size 68 (voL bv).toArray by rw [HBV.out]; exact H4.out)
  -- the block of what the one ahead has: 'vb' = w3.heap.size, at world wy
  clear c9
  have c9 := (HCL.out.keep HY.out.1).c9
  have HRY := Lib.hid (show ∀ o, (wy.alloc o).rangeAt g (0 * 11) (voL nv) from fun o j u hu => cell_later ((HB3.out.trans (HY.out.1.mono HB3.out.size)).trans ((Below.refl _ _).alloc (Nat.le_trans HB3.out.size HY.out.1.size) o)) (HRN.out j u hu))
  go_wp2_with (first | refine wpList_load_mid rfl 68 _ rfl g (0 * 11) rfl (voL nv) _ (fun j u hu => cell_later (HB3.out.trans (HY.out.1.mono HB3.out.size)) (HRN.out j u hu)) Try.underlying68 rfl (HSV.out _ HNW.out) ?_ | refine wpList_store_then rfl 68 _ _ rfl wy.heap.size (voL nv).toArray rfl rfl 68 _ (Blk.new _ _ _) (HSA.out _ HNW.out) (HS8.out _ HNW.out) (all_oneCell_toArray (voL_one _)) ?_)
  refine Later.mk fun wz hwz => ?_
  have HZ1 := Lib.hid (show Below w.heap.size w wz ∧ Blk wz w3.heap.size 68 (voL bv).toArray ∧ Blk wz wy.heap.size 68 (voL nv).toArray ∧ w3.heap.size < wy.heap.size by
    rw [hwz]
    have h1 := HY.out.2.lt
    exact ⟨Below.setRow ((HB3.out.trans (HY.out.1.mono HB3.out.size)).alloc (Nat.le_trans HB3.out.size HY.out.1.size) _) (Nat.le_trans HB3.out.size HY.out.1.size) _, (HY.out.2.alloc _).farRow (by omega) _, (Blk.new _ _ _).row _, h1⟩)
  clear hwz c9
  have hneq := fun w => vol_neq w HNW.out HBW.out
  have HNEQ := Lib.hid hneq
  have hrb : wz.rangeAt w3.heap.size 0 (voL bv) := fun j u hu => by
    rw [HZ1.out.2.1.cell, Nat.zero_add]
    simpa using hu
  have hrw : wz.rangeAt wy.heap.size 0 (voL nv) := fun j u hu => by
    rw [HZ1.out.2.2.1.cell, Nat.zero_add]
    simpa using hu
  have HRB := Lib.hid hrb
  have HRW := Lib.hid hrw
  have hsame := @chgs_same nv bv
  obtain ⟨q, hq⟩ : ∃ q, q = volEq nv bv := ⟨_, rfl⟩
  rw [← hq] at HNEQ hsame
  have HSAME := Lib.hid hsame
  clear hneq hrb hrw hsame hq
  cases q with
  | true =>
    go_wp2_with (first | refine wpList_load_mid rfl 68 _ rfl wy.heap.size 0 rfl (voL nv) _ HRW.out Try.underlying68 rfl (HSV.out _ HNW.out) ?_ | refine wpList_load_mid rfl 68 _ rfl w3.heap.size 0 rfl (voL bv) _ HRB.out Try.underlying68 rfl (HSV.out _ HBW.out) ?_ | refine wpList_value_run rfl _ (exec_neq 68 _ (.tmp 47) (.tmp 48) rfl (voL nv).toArray (voL bv).toArray _ rfl rfl (by kernel_rfl) (HNEQ.out _)) ?_)
    go_ret2
    exact ⟨.slice none 0 0, by rw [HR.out.1]; rfl, by rw [HR.out.2, HSAME.out (by trivial)]; exact OwC.nil_ _ _, HZ1.out.1⟩
  | false =>
    go_wp2_with (first | refine wpList_load_mid rfl 68 _ rfl wy.heap.size 0 rfl (voL nv) _ HRW.out Try.underlying68 rfl (HSV.out _ HNW.out) ?_ | refine wpList_load_mid rfl 68 _ rfl w3.heap.size 0 rfl (voL bv) _ HRB.out Try.underlying68 rfl (HSV.out _ HBW.out) ?_ | refine wpList_value_run rfl _ (exec_neq 68 _ (.tmp 47) (.tmp 48) rfl (voL nv).toArray (voL bv).toArray _ rfl rfl (by kernel_rfl) (HNEQ.out _)) ?_)
    generalize hvb : w3.heap.size = vb at *
    generalize hvn : wy.heap.size = vn at *
    have HSZ := Lib.hid (show w.heap.size ≤ wz.heap.size ∧ vn < wz.heap.size ∧ vb < wz.heap.size from ⟨HZ1.out.1.size, HZ1.out.2.2.1.lt, HZ1.out.2.1.lt⟩)
    clear hvb hvn
    go_loopw [7, 50] (fun l0 i wr => ∃ (k : Nat) (l : Value), k ≤ 8 ∧ i = .int .i64 k ∧ l = l0 ∧ Below wz.heap.size wz wr ∧ OwC wr wz.heap.size l (chgs nv bv k)) (fun _ i _ => 8 - (intOf i).toNat)
    case atStart => exact ⟨0, _, Nat.zero_le _, rfl, rfl, Below.refl _ _, OwC.nil_ _ _⟩
    case round =>
      obtain ⟨k, l, hk, rfl, rfl, hb, ho⟩ := hrel
      have HB := Lib.hid hb
      have HO := Lib.hid ho
      by_cases hk8 : k < 8
      · have y0 : wr.cell? ⟨vn, k, none⟩ = some (.string (nv.getD k ByteArray.empty)) := by
          rw [(HZ1.out.2.2.1.keep hb).cell]
          simpa using vol_at HNW.out hk8
        have y1 : wr.cell? ⟨vb, k, none⟩ = some (.string (bv.getD k ByteArray.empty)) := by
          rw [(HZ1.out.2.1.keep hb).cell]
          simpa using vol_at HBW.out hk8
        have hsucc := chgs_succ nv bv k
        unfold cgAt at hsucc
        have hle := chgs_le nv bv k
        generalize nv.getD k ByteArray.empty = ns at *
        generalize bv.getD k ByteArray.empty = bs at *
        have HSU := Lib.hid hsucc
        have i1 : (k : Int) < 8 := by omega
        have i0 : (0 : Int) ≤ (k : Int) := by omega
        have HK8 := Lib.hid hk8
        have HLE := Lib.hid hle
        clear hb ho hk hk8 hsucc hle
        cases hz : (ns.toList == bs.toList) with
        | true =>
          rw [hz] at HSU
          have hzz := (str_iff _ _).1 hz
          subst hzz
          clear hz
          go_wp2_with fail
          go_quiet (fail)
          have HB1 := Lib.hid (And.intro (below_drewN HB.out nq) (show OwC (wr.drewN nq) wz.heap.size l (chgs nv bv k) from HO.out))
          clear HB HO
          go_wp2
          clear i1 i0
          exact ⟨⟨k + 1, l, HK8.out, rfl, rfl, HB1.out.1, by rw [HSU.out, if_pos trivial, List.append_nil]; exact HB1.out.2⟩, meas_succ HK8.out⟩
        | false =>
          rw [hz] at HSU
          go_wp2_with fail
          go_quiet (fail)
          have HB1 := Lib.hid (And.intro (below_drewN HB.out nq) (show OwC (wr.drewN nq) wz.heap.size l (chgs nv bv k) from HO.out))
          replace y0 : (wr.drewN nq).cell? ⟨vn, k, none⟩ = some (.string ns) := y0
          clear HB HO hz y1
          generalize wr.drewN nq = w5 at *
          have hap := app_chg (w := w5.alloc (.cells #[.int .i64 (k : Int), .string ns] 48)) 37 ((k : Int), ns) w5 _ rfl rfl (HB1.out.2.keep ((Below.refl _ _).alloc (Nat.le_refl _) _)) (by have := HLE.out; have := HK8.out; omega) (by have := HB1.out.1.size; simp; omega)
          have HA := Lib.hid hap
          have HO2 := Lib.hid (HB1.out.2.keep ((Below.refl _ _).alloc (Nat.le_refl _) (Obj.cells #[.int .i64 (k : Int), .string ns] 48)))
          have HB2 := Lib.hid (HB1.out.1.alloc HB1.out.1.size (Obj.cells #[.int .i64 (k : Int), .string ns] 48))
          clear hap
          go_wp2_with (at_builtin; refine wpList_append_run rfl _ _ 37 rfl _ _ rfl rfl _ HA.out ?_)
          refine Later.mk fun _ _ v' w' hp => ?_
          have HN := Lib.hid (And.intro (HB2.out.trans (hp.below HO2.out HB2.out.size)) hp.1)
          clear hp
          go_wp2
          clear i1 i0
          exact ⟨⟨k + 1, v', HK8.out, rfl, rfl, HN.out.1, by rw [HSU.out, if_neg (by decide)]; exact HN.out.2⟩, meas_succ HK8.out⟩
      · obtain rfl : k = 8 := by omega
        clear hb ho hk hk8
        go_wp2
        go_ret2
        exact ⟨l, by rw [HR.out.1]; rfl, by rw [HR.out.2]; exact OwC.mono HO.out HSZ.out.1, HZ1.out.1.trans (HB.out.mono HSZ.out.1)⟩
set_option maxRecDepth 100000 in
theorem chg_next (h : Cm w bc sl C) (m : Nat) (hm : m + 1 < C.snaps.length) : Calls Try.prog 14 #[.pointer (some ⟨bc, 0, none⟩), .int .i64 ((m : Int) + 1)] w (ChgT w (C.chC ((m : Int) + 1)) (C.chE ((m : Int) + 1))) := by
  have hnn : ¬ (((m : Int) + 1) < 0 ∨ (C.snaps.length : Int) ≤ ((m : Int) + 1)) := by omega
  obtain ⟨nv, hnv⟩ : ∃ v, v = (C.snaps.getD (m + 1) nosn).vol := ⟨_, rfl⟩
  obtain ⟨bv, hbv⟩ : ∃ v, v = (C.snaps.getD m nosn).vol := ⟨_, rfl⟩
  have HR := Lib.hid (show C.chE ((m : Int) + 1) = 0 ∧ C.chC ((m : Int) + 1) = chgs nv bv 8 from ⟨by unfold Ch.chE; rw [if_neg hnn], by unfold Ch.chC; rw [if_neg hnn, show ((m : Int) + 1).toNat = m + 1 from by omega, hnv, hbv]; rfl⟩)
  have hwn : wfV nv := by rw [hnv]; exact (wf_getD h.snaps.1 _).vol
  have hwb : wfV bv := by rw [hbv]; exact (wf_getD h.snaps.1 _).vol
  have HNO := Lib.hid (none_no h)
  have HC := Lib.hid h
  have c9 := h.c9
  have c8 := h.c8
  have hn8 := h.n
  have hxs := h.snaps.2.1
  obtain ⟨a, c, rfl, hc, -, hx⟩ := h.snaps.open_
  obtain ⟨g, rfl, -, hr⟩ := hx (m + 1) hm
  have hrn : w.rangeAt g ((m + 1) * 11) (voL nv) := by rw [hnv]; exact snap_rng hr
  obtain ⟨g', hg', -, hr'⟩ := hx m (by omega)
  obtain rfl : g = g' := by simpa using hg'
  have hrb0 : w.rangeAt g (m * 11) (voL bv) := by rw [hbv]; exact snap_rng hr'
  have HRM := Lib.hid hrb0
  clear hr' hg' hrb0
  have HRN := Lib.hid hrn
  have HZ := Lib.hid (fun w => zeros_any w C.n hn8.2)
  have HZW := Lib.hid (zeroVo_wf hn8.2)
  have HBW := Lib.hid hwb
  have HNW := Lib.hid hwn
  have szv : ∀ v, wfV v → (Try.prog.info? 68).map (fun i => i.size) = some (voL v).length := fun v hv => by rw [voL_length hv]; exact vol_size
  have sza : ∀ v, wfV v → (Try.prog.info? 68).map (fun i => i.size) = some (voL v).toArray.size := fun v hv => by rw [List.size_toArray, voL_length hv]; exact vol_size
  have sz8 : ∀ v, wfV v → (8 : Nat) = (voL v).toArray.size := fun v hv => by rw [List.size_toArray, voL_length hv]
  have HSV := Lib.hid szv
  have HSA := Lib.hid sza
  have HS8 := Lib.hid sz8
  clear szv sza sz8 h hnn hnv hbv hwn hwb hx hr hrn hc hn8
  generalize hL : C.snaps.length = L at *
  have i1 : (m : Int) + 1 < (L : Int) := by omega
  have i2 : (0 : Int) < (m : Int) + 1 := by omega
  have i3 : (m : Int) + 1 - 1 = (m : Int) := by omega
  have i4 : (m : Int) < (L : Int) := by omega
  have hwm := wrap_20 (k := m) (by omega)
  have HL := Lib.hid hL
  clear hL hm hxs
  go_enter Try.func14, Try.ntmps14
  go_wp2_with fail
  refine HNO.out.mono ?_
  rintro e w2 ⟨rfl, rfl⟩
  go_wp2_with fail
  refine (HZ.out _).mono ?_
  rintro e w3 ⟨rfl, hb⟩
  have HB3 := Lib.hid hb
  have HCL := Lib.hid (HC.out.keep hb)
  clear hb c8 c9
  have c9 := HCL.out.c9
  go_wp2_with (refine wpList_store_then rfl 68 _ _ rfl w3.heap.size (voL (zeroVo C.n)).toArray rfl rfl 68 _ (Blk.new _ _ _) (HSA.out _ HZW.out) (HS8.out _ HZW.out) (all_oneCell_toArray (voL_one _)) ?_)
  refine Later.mk fun w4 hw4 => ?_
  have H4 := Lib.hid (show Below w3.heap.size w3 w4 ∧ Blk w4 w3.heap.size 68 (voL (zeroVo C.n)).toArray by rw [hw4]; exact ⟨Below.setRow ((Below.refl _ _).alloc (Nat.le_refl _) _) (Nat.le_refl _) _, (Blk.new _ _ _).row _⟩)
  clear hw4 c9
  have c9 := (HCL.out.keep H4.out.1).c9
  have HRM4 := Lib.hid (show w4.rangeAt g (m * 11) (voL bv) from fun j u hu => cell_later (HB3.out.trans (H4.out.1.mono HB3.out.size)) (HRM.out j u hu))
  go_wp2_with (first | refine wpList_load_mid rfl 68 _ rfl g (m * 11) rfl (voL bv) _ HRM4.out Try.underlying68 rfl (HSV.out _ HBW.out) ?_ | refine wpList_store_then rfl 68 _ _ rfl w3.heap.size (voL bv).toArray rfl rfl 68 _ H4.out.2 (HSA.out _ HBW.out) ((HS8.out _ HZW.out).symm.trans (HS8.out _ HBW.out)) (all_oneCell_toArray (voL_one _)) ?_)
  refine Later.mk fun wy hwy => ?_
  have HY := Lib.hid (show Below w3.heap.size w3 wy ∧ Blk wy w3.heap.size 68 (voL bv).toArray by rw [hwy]; exact ⟨Below.setRow H4.out.1 (Nat.le_refl _) _, H4.out.2.row _⟩)
  clear hwy hwm
  -- the block of what the one ahead has: 'vb' = w3.heap.size, at world wy
  clear c9
  have c9 := (HCL.out.keep HY.out.1).c9
  have HRY := Lib.hid (show ∀ o, (wy.alloc o).rangeAt g ((m + 1) * 11) (voL nv) from fun o j u hu => cell_later ((HB3.out.trans (HY.out.1.mono HB3.out.size)).trans ((Below.refl _ _).alloc (Nat.le_trans HB3.out.size HY.out.1.size) o)) (HRN.out j u hu))
  go_wp2_with (first | refine wpList_load_mid rfl 68 _ rfl g ((m + 1) * 11) rfl (voL nv) _ (fun j u hu => cell_later (HB3.out.trans (HY.out.1.mono HB3.out.size)) (HRN.out j u hu)) Try.underlying68 rfl (HSV.out _ HNW.out) ?_ | refine wpList_store_then rfl 68 _ _ rfl wy.heap.size (voL nv).toArray rfl rfl 68 _ (Blk.new _ _ _) (HSA.out _ HNW.out) (HS8.out _ HNW.out) (all_oneCell_toArray (voL_one _)) ?_)
  refine Later.mk fun wz hwz => ?_
  have HZ1 := Lib.hid (show Below w.heap.size w wz ∧ Blk wz w3.heap.size 68 (voL bv).toArray ∧ Blk wz wy.heap.size 68 (voL nv).toArray ∧ w3.heap.size < wy.heap.size by
    rw [hwz]
    have h1 := HY.out.2.lt
    exact ⟨Below.setRow ((HB3.out.trans (HY.out.1.mono HB3.out.size)).alloc (Nat.le_trans HB3.out.size HY.out.1.size) _) (Nat.le_trans HB3.out.size HY.out.1.size) _, (HY.out.2.alloc _).farRow (by omega) _, (Blk.new _ _ _).row _, h1⟩)
  clear hwz c9
  have hneq := fun w => vol_neq w HNW.out HBW.out
  have HNEQ := Lib.hid hneq
  have hrb : wz.rangeAt w3.heap.size 0 (voL bv) := fun j u hu => by
    rw [HZ1.out.2.1.cell, Nat.zero_add]
    simpa using hu
  have hrw : wz.rangeAt wy.heap.size 0 (voL nv) := fun j u hu => by
    rw [HZ1.out.2.2.1.cell, Nat.zero_add]
    simpa using hu
  have HRB := Lib.hid hrb
  have HRW := Lib.hid hrw
  have hsame := @chgs_same nv bv
  obtain ⟨q, hq⟩ : ∃ q, q = volEq nv bv := ⟨_, rfl⟩
  rw [← hq] at HNEQ hsame
  have HSAME := Lib.hid hsame
  clear hneq hrb hrw hsame hq
  cases q with
  | true =>
    go_wp2_with (first | refine wpList_load_mid rfl 68 _ rfl wy.heap.size 0 rfl (voL nv) _ HRW.out Try.underlying68 rfl (HSV.out _ HNW.out) ?_ | refine wpList_load_mid rfl 68 _ rfl w3.heap.size 0 rfl (voL bv) _ HRB.out Try.underlying68 rfl (HSV.out _ HBW.out) ?_ | refine wpList_value_run rfl _ (exec_neq 68 _ (.tmp 47) (.tmp 48) rfl (voL nv).toArray (voL bv).toArray _ rfl rfl (by kernel_rfl) (HNEQ.out _)) ?_)
    go_ret2
    exact ⟨.slice none 0 0, by rw [HR.out.1]; rfl, by rw [HR.out.2, HSAME.out (by trivial)]; exact OwC.nil_ _ _, HZ1.out.1⟩
  | false =>
    go_wp2_with (first | refine wpList_load_mid rfl 68 _ rfl wy.heap.size 0 rfl (voL nv) _ HRW.out Try.underlying68 rfl (HSV.out _ HNW.out) ?_ | refine wpList_load_mid rfl 68 _ rfl w3.heap.size 0 rfl (voL bv) _ HRB.out Try.underlying68 rfl (HSV.out _ HBW.out) ?_ | refine wpList_value_run rfl _ (exec_neq 68 _ (.tmp 47) (.tmp 48) rfl (voL nv).toArray (voL bv).toArray _ rfl rfl (by kernel_rfl) (HNEQ.out _)) ?_)
    generalize hvb : w3.heap.size = vb at *
    generalize hvn : wy.heap.size = vn at *
    have HSZ := Lib.hid (show w.heap.size ≤ wz.heap.size ∧ vn < wz.heap.size ∧ vb < wz.heap.size from ⟨HZ1.out.1.size, HZ1.out.2.2.1.lt, HZ1.out.2.1.lt⟩)
    clear hvb hvn
    go_loopw [7, 50] (fun l0 i wr => ∃ (k : Nat) (l : Value), k ≤ 8 ∧ i = .int .i64 k ∧ l = l0 ∧ Below wz.heap.size wz wr ∧ OwC wr wz.heap.size l (chgs nv bv k)) (fun _ i _ => 8 - (intOf i).toNat)
    case atStart => exact ⟨0, _, Nat.zero_le _, rfl, rfl, Below.refl _ _, OwC.nil_ _ _⟩
    case round =>
      obtain ⟨k, l, hk, rfl, rfl, hb, ho⟩ := hrel
      have HB := Lib.hid hb
      have HO := Lib.hid ho
      by_cases hk8 : k < 8
      · have y0 : wr.cell? ⟨vn, k, none⟩ = some (.string (nv.getD k ByteArray.empty)) := by
          rw [(HZ1.out.2.2.1.keep hb).cell]
          simpa using vol_at HNW.out hk8
        have y1 : wr.cell? ⟨vb, k, none⟩ = some (.string (bv.getD k ByteArray.empty)) := by
          rw [(HZ1.out.2.1.keep hb).cell]
          simpa using vol_at HBW.out hk8
        have hsucc := chgs_succ nv bv k
        unfold cgAt at hsucc
        have hle := chgs_le nv bv k
        generalize nv.getD k ByteArray.empty = ns at *
        generalize bv.getD k ByteArray.empty = bs at *
        have HSU := Lib.hid hsucc
        have i1 : (k : Int) < 8 := by omega
        have i0 : (0 : Int) ≤ (k : Int) := by omega
        have HK8 := Lib.hid hk8
        have HLE := Lib.hid hle
        clear hb ho hk hk8 hsucc hle
        cases hz : (ns.toList == bs.toList) with
        | true =>
          rw [hz] at HSU
          have hzz := (str_iff _ _).1 hz
          subst hzz
          clear hz
          go_wp2_with fail
          go_quiet (fail)
          have HB1 := Lib.hid (And.intro (below_drewN HB.out nq) (show OwC (wr.drewN nq) wz.heap.size l (chgs nv bv k) from HO.out))
          clear HB HO
          go_wp2
          clear i1 i0
          exact ⟨⟨k + 1, l, HK8.out, rfl, rfl, HB1.out.1, by rw [HSU.out, if_pos trivial, List.append_nil]; exact HB1.out.2⟩, meas_succ HK8.out⟩
        | false =>
          rw [hz] at HSU
          go_wp2_with fail
          go_quiet (fail)
          have HB1 := Lib.hid (And.intro (below_drewN HB.out nq) (show OwC (wr.drewN nq) wz.heap.size l (chgs nv bv k) from HO.out))
          replace y0 : (wr.drewN nq).cell? ⟨vn, k, none⟩ = some (.string ns) := y0
          clear HB HO hz y1
          generalize wr.drewN nq = w5 at *
          have hap := app_chg (w := w5.alloc (.cells #[.int .i64 (k : Int), .string ns] 48)) 37 ((k : Int), ns) w5 _ rfl rfl (HB1.out.2.keep ((Below.refl _ _).alloc (Nat.le_refl _) _)) (by have := HLE.out; have := HK8.out; omega) (by have := HB1.out.1.size; simp; omega)
          have HA := Lib.hid hap
          have HO2 := Lib.hid (HB1.out.2.keep ((Below.refl _ _).alloc (Nat.le_refl _) (Obj.cells #[.int .i64 (k : Int), .string ns] 48)))
          have HB2 := Lib.hid (HB1.out.1.alloc HB1.out.1.size (Obj.cells #[.int .i64 (k : Int), .string ns] 48))
          clear hap
          go_wp2_with (at_builtin; refine wpList_append_run rfl _ _ 37 rfl _ _ rfl rfl _ HA.out ?_)
          refine Later.mk fun _ _ v' w' hp => ?_
          have HN := Lib.hid (And.intro (HB2.out.trans (hp.below HO2.out HB2.out.size)) hp.1)
          clear hp
          go_wp2
          clear i1 i0
          exact ⟨⟨k + 1, v', HK8.out, rfl, rfl, HN.out.1, by rw [HSU.out, if_neg (by decide)]; exact HN.out.2⟩, meas_succ HK8.out⟩
      · obtain rfl : k = 8 := by omega
        clear hb ho hk hk8
        go_wp2
        go_ret2
        exact ⟨l, by rw [HR.out.1]; rfl, by rw [HR.out.2]; exact OwC.mono HO.out HSZ.out.1, HZ1.out.1.trans (HB.out.mono HSZ.out.1)⟩
theorem chg_any (h : Cm w bc sl C) (n : Int) : Calls Try.prog 14 #[.pointer (some ⟨bc, 0, none⟩), .int .i64 n] w (ChgT w (C.chC n) (C.chE n)) := by
  by_cases hn : n < 0 ∨ (C.snaps.length : Int) ≤ n
  · exact chg_bad h n hn
  · obtain ⟨k, rfl⟩ : ∃ k : Nat, n = k := ⟨n.toNat, by omega⟩
    rcases Nat.eq_zero_or_pos k with rfl | hp
    · exact chg_first h (by omega)
    · obtain ⟨m, rfl⟩ : ∃ m, k = m + 1 := ⟨k - 1, by omega⟩
      rw [show ((m + 1 : Nat) : Int) = (m : Int) + 1 from by omega]
      exact chg_next h m (by omega)
end
end Go.Proofs.Ytjeebpklinpmfaa
