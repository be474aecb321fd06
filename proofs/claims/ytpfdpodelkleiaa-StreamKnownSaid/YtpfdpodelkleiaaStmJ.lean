/-
  STREAM: Cut, of the program and of the reference (printed by wip/gen-stmj.py).
-/
import Derived.Test.YtpfdpodelkleiaaStmI
import Derived.Test.YtpfdpodelkleiaaChain
namespace Go.Proofs.Ytpfdpodelkleiaa
open Go.RowKit Reg Go.ChangeShapes

theorem cgsL_drop : ∀ (l : List Cg) (k : Nat), cgsL (l.drop k) = (cgsL l).drop (k * 2)
  | [], k => by simp [cgsL]
  | x :: l, 0 => rfl
  | x :: l, k + 1 => by
    have e : (k + 1) * 2 = k * 2 + 2 := by omega
    rw [List.drop_succ_cons, cgsL_drop l k, e]
    rfl
theorem cgsL_take : ∀ (l : List Cg) (k : Nat), cgsL (l.take k) = (cgsL l).take (k * 2)
  | [], k => by simp [cgsL]
  | x :: l, 0 => by simp [cgsL]
  | x :: l, k + 1 => by
    have e : (k + 1) * 2 = k * 2 + 2 := by omega
    have ih := cgsL_take l k
    simp only [cgsL] at ih
    simp only [cgsL, List.take_succ_cons, List.flatMap_cons, cgL, e, List.cons_append, List.nil_append, ih]
/-- v is read as the changes cs, with room enough -/
def RdC (w : World) (v : Value) (cs : List Cg) : Prop := Rd w 2 v cs.length (cgsL cs) ∧ cs.length ≤ maxLen
theorem RdC.keep {w w' : World} {v : Value} {cs : List Cg} (h : RdC w v cs) (hb : Below w.heap.size w w') : RdC w' v cs := ⟨h.1.keep hb, h.2⟩
theorem OwC.rdc {w : World} {base : Nat} {v : Value} {cs : List Cg} (h : OwC w base v cs) : RdC w v cs := ⟨Rd.of_own h.1, h.2⟩
theorem RdC.inc {w : World} {v : Value} {cs : List Cg} (h : RdC w v cs) : InC w v cs := by
  rcases h.1.2 with ⟨rfl, h0⟩ | ⟨g, off, c, rfl, hc, hx⟩
  · exact ⟨none, 0, by rw [h0], h.2, fun j hj => by omega⟩
  · exact ⟨_, c, rfl, h.2, fun j hj => ⟨g, off, rfl, hx _ _ (cgsL_at cs j hj).1, by rw [Nat.add_assoc]; exact hx _ _ (cgsL_at cs j hj).2⟩⟩
theorem RdC.nil_ (w : World) : RdC w (.slice none 0 0) [] := ⟨Rd.nil_, by simp⟩
/-- a piece -/
theorem RdC.cut {w : World} {v : Value} {cs : List Cg} (h : RdC w v cs) {k m : Nat} (hk : k ≤ m) (hm : m ≤ cs.length) :
    ∃ u, (∀ w2, (Instr.sliceAt 27 v (some (.int .i64 (k : Int))) (some (.int .i64 (m : Int))) none).run Try.prog w2 = .ok u w2) ∧ RdC w u ((cs.drop k).take (m - k)) := by
  have hlen : ((cs.drop k).take (m - k)).length = m - k := by rw [List.length_take, List.length_drop]; omega
  have hcells : cgsL ((cs.drop k).take (m - k)) = ((cgsL cs).drop (k * 2)).take ((m - k) * 2) := by rw [cgsL_take, cgsL_drop]
  have hmax := h.2
  obtain ⟨i, hi, hz0, hz1, hz2⟩ := info_parts chg_info
  rcases h.1.2 with ⟨rfl, h0⟩ | ⟨g, off, c, rfl, hc, hx⟩
  · have : m = 0 := by omega
    subst this
    have : k = 0 := by omega
    subst this
    refine ⟨.slice none 0 0, fun w2 => ?_, ?_⟩
    · rw [run_sliceAt_slice _ _ _ _ _ _ Try.underlying27, run_slice_lh _ _ none _ 0 Try.underlying27 .i64 .i64 ((0 : Nat) : Int) ((0 : Nat) : Int) (by omega) (by omega) (by omega)]
      rfl
    · refine ⟨?_, by rw [hlen]; omega⟩
      rw [hlen, hcells, Nat.sub_self, Nat.zero_mul, List.take_zero]
      exact Rd.nil_
  · refine ⟨sliced (some ⟨g, off, none⟩) k m c 2, fun w2 => ?_, ?_, by rw [hlen]; omega⟩
    · rw [run_sliceAt_slice _ _ _ _ _ _ Try.underlying27, run_slice_lh _ _ _ _ c Try.underlying27 .i64 .i64 k m (by omega) (by omega) (by omega)]
      have hs : (sizeOf (Try.prog.elem 27)).run Try.prog w2 = .ok 2 w2 := by kernel_rfl
      rw [hs]
      rfl
    · rw [hlen, hcells]
      refine ⟨by rw [List.length_take, List.length_drop, cgsL_length]; omega, .inr ?_⟩
      unfold sliced
      by_cases hck : c = k
      · rw [if_pos hck]
        have : m - k = 0 := by omega
        rw [this]
        exact ⟨g, off, c - k, rfl, by omega, fun j u hu => by simp at hu⟩
      · rw [if_neg hck, Option.map_some, addr_add]
        refine ⟨g, off + k * 2, c - k, rfl, by omega, fun j u hu => ?_⟩
        rw [Nat.add_assoc]
        refine hx _ u ?_
        by_cases hj : j < (m - k) * 2
        · rw [List.getElem?_take_of_lt hj, List.getElem?_drop] at hu
          exact hu
        · rw [List.getElem?_eq_none (by rw [List.length_take]; omega)] at hu
          cases hu
theorem mayC_len : ∀ (cs : List Cg) (ab : Int), ab ≤ 7 → mayC ab cs = true → (cs.length : Int) ≤ 7 - ab
  | [], ab, h, _ => by simp; omega
  | x :: xs, ab, h, hm => by
    unfold mayC at hm
    by_cases hb : badC ab x = true
    · rw [if_pos hb] at hm; cases hm
    · rw [if_neg hb] at hm
      unfold badC at hb
      simp only [decide_eq_true_eq, not_or] at hb
      have ih := mayC_len xs x.1 (by omega) hm
      simp only [List.length_cons]
      omega
/-- what Cut answers where it may -/
def cutQ (gb gt : Gd) (l : List Cg) (k : Nat) : Prt := ⟨gb, gt, k, l.length, (l.drop k).take 2⟩
def zeroP : Prt := ⟨(0, 0), (0, 0), 0, 0, []⟩
def cutOk (gb gt : Gd) (l : List Cg) (f : Int) : Prop := upG gb gt = true ∧ mayC (-1) l = true ∧ 0 ≤ f ∧ f ≤ max 0 ((l.length : Int) - 1)
instance (gb gt : Gd) (l : List Cg) (f : Int) : Decidable (cutOk gb gt l f) := by unfold cutOk; infer_instance
def cutP (gb gt : Gd) (l : List Cg) (f : Int) : Prt := if cutOk gb gt l f then cutQ gb gt l f.toNat else zeroP
def cutE (gb gt : Gd) (l : List Cg) (f : Int) : Int := if cutOk gb gt l f then 0 else 2
theorem zero_wf : wfPr zeroP := ⟨⟨rfl, rfl⟩, ⟨rfl, rfl⟩, rfl, rfl⟩
def CutT (w : World) (p : Prt) (z : Int) (e : Ending) (w' : World) : Prop := ∃ v, e = .returned (.tuple #[v, .int .i64 z]) ∧ OwPr w' w.heap.size v p ∧ Below w.heap.size w w'
/-- results: a struct in a block, and a slot -/
theorem results_cell2 {P : Program} {fn : Func} {tmps : Array Value} {w : World} {k m : Nat} {ty : TypeId} {g : Nat} {t : TypeId} {cs : Array Value} {d : TypeDesc} {u : Value} (hr : fn.results = #[.cell k ty, .tmp m]) (ht : tmps.getD k undef = .pointer (some ⟨g, 0, none⟩)) (hm : tmps.getD m undef = u) (hb : Blk w g t cs)
    (hu : P.underlying ty = some d) (hd : (match d with | .struct _ | .array _ _ => true | _ => false) = true) (hi : (P.info? ty).map (·.size) = some cs.size) : (results fn tmps).run P w = .ok (.tuple #[.agg cs, u]) w := by
  have := run_loadVar_row (P := P) w g t ty cs (0, 0) d hb hu hd hi
  have ht2 : tmps[k]?.getD undef = .pointer (some ⟨g, 0, none⟩) := by simpa using ht
  have hm2 : tmps[m]?.getD undef = u := by simpa using hm
  simp [results, hr, ht2, hm2, asAddr, this]
theorem exec_slice {P : Program} {w : World} {o : Oper} {a : Act} (t : TypeId) (x lo hi : Operand) (ho : o.op = .slice t x (some lo) (some hi) none) (vx vl vh : Value) (hx : a.eval x = vx) (hl : a.eval lo = vl) (hh : a.eval hi = vh) (u : Value)
    (hr : (Instr.sliceAt t vx (some vl) (some vh) none).run P w = .ok u w) : (execOp a.eval o).run P w = .ok (.value u) w := by
  unfold execOp
  simp only [ho, Sem.run_bind, hx, hl, hh, Option.map_some, Option.map_none, hr]
  rfl
theorem Kp.ext {A : Nat → Prop} {W0 wr w' : World} (h : Kp A W0 wr) (hb : Below W0.heap.size wr w') : Kp A W0 w' := ⟨h.1.trans (hb.mono (Nat.zero_le _)), fun b hb1 hA => (hb.block b hb1).trans (h.2 b hb1 hA)⟩
theorem Kp.set {A : Nat → Prop} {W0 wr : World} {p : Addr} (h : Kp A W0 wr) (hp : A p.block) (u : Value) : Kp A W0 (wr.setCell p u) :=
  ⟨h.1.setCell (Nat.zero_le _) _, fun b hb1 hA => (Below.heap_setCell wr p u b (fun e => hA (e ▸ hp))).trans (h.2 b hb1 hA)⟩
/-- the cells of a part -/
def prC (p : Prt) (sv : Value) : Array Value := #[.int .u64 p.b.1, .int .u64 p.b.2, .int .u64 p.t.1, .int .u64 p.t.2, .int .i64 p.f, .int .i64 p.a, sv]
theorem lit_len {n : Nat} (h : n ≤ maxLen) : (Lit.int .i64 (n : Int)).wf = true := by
  unfold maxLen at h
  show (decide ((-9223372036854775808 : Int) ≤ (n : Int)) && decide ((n : Int) ≤ 9223372036854775807)) = true
  rw [decide_eq_true (by omega), decide_eq_true (by omega)]
  rfl
theorem app_cut {w : World} {u : Value} {cs : List Cg} (ty : TypeId) (h : RdC w u cs) (hn : cs.length ≤ 100) {base : Nat} (hb : base ≤ w.heap.size) :
    ∃ v' w', (Builtin.append_ #[27, 27] ty #[.slice none 0 0, u]).run Try.prog w = .ok v' w' ∧ OwC w' base v' cs ∧ Below w.heap.size w w' := by
  obtain ⟨i, hi, hz0, hz1, hz2⟩ := info_parts chg_info
  obtain ⟨v', w', h1, h2, h3, _⟩ := app_own (P := Try.prog) w base 27 ty 36 i _ 2 24 Try.underlying27 hi hz0 hz1 hz2 rfl (by decide) (own_nil w base 36 2) h.1 (cgsL_one _) (by unfold maxLen; omega) (by omega) hb
  refine ⟨v', w', h1, ⟨?_, h.2⟩, below_grown h3 (Nat.le_refl _) (fun k hk => by cases hk)⟩
  simpa using h2
/-- 'p.Changes = append(p.Changes, l[from:m]...)': first the append, then the store -/
def JP (B bp : Nat) (w0 : World) (p q : Prt) : List Value → World → Prop
  | [], w => Below w0.heap.size w0 w
  | [u], w => OwC w B u q.cs ∧ Below B w0 w ∧ Blk w bp 30 (prC p (.slice none 0 0))
  | [u, _], w => OwC w B u q.cs ∧ Kp (· = bp) w0 w ∧ Blk w bp 30 (prC q u)
  | _, _ => False

set_option maxRecDepth 100000 in
set_option maxHeartbeats 1000000 in
theorem cut_bad (w : World) (gb gt : Gd) (v : Value) (l : List Cg) (f : Int) (hv : RdC w v l) (hno : ¬ cutOk gb gt l f) : Calls Try.prog 10 #[aggG gb, aggG gt, v, .int .i64 f] w (CutT w zeroP 2) := by
  unfold CutT
  obtain ⟨gb1, gb2⟩ := gb
  obtain ⟨gt1, gt2⟩ := gt
  obtain ⟨a, c, rfl, hml, -⟩ := hv.inc
  have HV := Lib.hid hv
  have HML := Lib.hid hml
  have hb0 := (((Below.refl w.heap.size w).alloc (Nat.le_refl _) (Obj.cells #[.int .u64 gb1, .int .u64 gb2] 24)).alloc (by simp) (Obj.cells #[.int .u64 gt1, .int .u64 gt2] 24)).alloc (by simp; omega) (Obj.cells #[.int .u64 0, .int .u64 0, .int .u64 0, .int .u64 0, .int .i64 0, .int .i64 0, .slice none 0 0] 30)
  have hz2 := Blk.newAt (w := ((w.alloc (Obj.cells #[.int .u64 gb1, .int .u64 gb2] 24)).alloc (Obj.cells #[.int .u64 gt1, .int .u64 gt2] 24))) 30 #[.int .u64 0, .int .u64 0, .int .u64 0, .int .u64 0, .int .i64 0, .int .i64 0, .slice none 0 0] (g := w.heap.size + 2) (by simp)
  have hgb := ((Blk.new w 24 #[.int .u64 gb1, .int .u64 gb2]).alloc (Obj.cells #[.int .u64 gt1, .int .u64 gt2] 24)).alloc (Obj.cells #[.int .u64 0, .int .u64 0, .int .u64 0, .int .u64 0, .int .i64 0, .int .i64 0, .slice none 0 0] 30)
  have hgt := (Blk.newAt (w := w.alloc (Obj.cells #[.int .u64 gb1, .int .u64 gb2] 24)) 24 #[.int .u64 gt1, .int .u64 gt2] (g := w.heap.size + 1) (by simp)).alloc (Obj.cells #[.int .u64 0, .int .u64 0, .int .u64 0, .int .u64 0, .int .i64 0, .int .i64 0, .slice none 0 0] 30)
  have hszw : ((((w.alloc (Obj.cells #[.int .u64 gb1, .int .u64 gb2] 24)).alloc (Obj.cells #[.int .u64 gt1, .int .u64 gt2] 24)).alloc (Obj.cells #[.int .u64 0, .int .u64 0, .int .u64 0, .int .u64 0, .int .i64 0, .int .i64 0, .slice none 0 0] 30))).heap.size = w.heap.size + 3 := by simp
  unfold aggG
  have HAB := Lib.hid (fun w => above_any (gt1, gt2) (gb1, gb2) w)
  have HMAY := Lib.hid (fun w2 (h : Below w.heap.size w w2) => may_any w2 (.slice a l.length c) l (HV.out.inc.keep h))
  unfold cutOk at hno
  generalize mayC (-1) l = mc at *
  generalize upG (gb1, gb2) (gt1, gt2) = up at *
  generalize hn : l.length = n at *
  clear hn hml
  have HNO := Lib.hid hno
  clear hno
  go_enter Try.func10, Try.ntmps10
  go_wp2_with fail
  generalize (((w.alloc (Obj.cells #[.int .u64 gb1, .int .u64 gb2] 24)).alloc (Obj.cells #[.int .u64 gt1, .int .u64 gt2] 24)).alloc (Obj.cells #[.int .u64 0, .int .u64 0, .int .u64 0, .int .u64 0, .int .i64 0, .int .i64 0, .slice none 0 0] 30)) = W0 at *
  have HB0 := Lib.hid hb0
  have HZ0 := Lib.hid hz2
  have HGB := Lib.hid hgb
  have HGT := Lib.hid hgt
  have HSZ := Lib.hid hszw
  clear hb0 hz2 hgb hgt hszw
  refine (HAB.out _).mono ?_
  rintro e w2 ⟨rfl, hb⟩
  have HB2 := Lib.hid (HB0.out.trans (hb.mono HB0.out.size))
  have HZ2 := Lib.hid (HZ0.out.keep hb)
  clear hb HZ0 HB0 HAB HGB HGT
  cases up with
  | false =>
    clear HNO HMAY
    go_wp2_with (refine wpList_store_then rfl 30 _ _ rfl (w.heap.size + 2) #[.int .u64 0, .int .u64 0, .int .u64 0, .int .u64 0, .int .i64 0, .int .i64 0, .slice none 0 0] rfl rfl 30 _ HZ2.out part_size rfl (part_one _ _ _ _ _ _ _ _ _) ?_)
    refine Later.mk fun w9 hw9 => ?_
    have H9 := Lib.hid (show Below w.heap.size w w9 ∧ Blk w9 (w.heap.size + 2) 30 #[.int .u64 0, .int .u64 0, .int .u64 0, .int .u64 0, .int .i64 0, .int .i64 0, .slice none 0 0] by
      rw [hw9]
      exact ⟨Below.setRow HB2.out (by omega) _, HZ2.out.row _⟩)
    clear hw9
    go_wp2
    refine bodyPost_ret (results_cell2 (ty := 30) (g := w.heap.size + 2) (k := 8) (m := 9) rfl rfl rfl H9.out.2 Try.underlying30 rfl part_size) rfl ⟨_, rfl, ⟨_, rfl, OwC.nil_ _ _, zero_wf⟩, H9.out.1⟩
  | true =>
    go_wp2_with fail
    refine (HMAY.out _ HB2.out).mono ?_
    rintro e w3 ⟨rfl, hb⟩
    replace HZ2 := Lib.hid (HZ2.out.keep hb)
    replace HB2 := Lib.hid (HB2.out.trans (hb.mono HB2.out.size))
    clear hb HMAY
    cases mc with
    | false =>
      clear HNO
      go_wp2_with (refine wpList_store_then rfl 30 _ _ rfl (w.heap.size + 2) #[.int .u64 0, .int .u64 0, .int .u64 0, .int .u64 0, .int .i64 0, .int .i64 0, .slice none 0 0] rfl rfl 30 _ HZ2.out part_size rfl (part_one _ _ _ _ _ _ _ _ _) ?_)
      refine Later.mk fun w9 hw9 => ?_
      have H9 := Lib.hid (show Below w.heap.size w w9 ∧ Blk w9 (w.heap.size + 2) 30 #[.int .u64 0, .int .u64 0, .int .u64 0, .int .u64 0, .int .i64 0, .int .i64 0, .slice none 0 0] by
        rw [hw9]
        exact ⟨Below.setRow HB2.out (by omega) _, HZ2.out.row _⟩)
      clear hw9
      go_wp2
      refine bodyPost_ret (results_cell2 (ty := 30) (g := w.heap.size + 2) (k := 8) (m := 9) rfl rfl rfl H9.out.2 Try.underlying30 rfl part_size) rfl ⟨_, rfl, ⟨_, rfl, OwC.nil_ _ _, zero_wf⟩, H9.out.1⟩
    | true =>
      by_cases h1 : f < 0
      · clear HNO
        go_wp2_with (refine wpList_store_then rfl 30 _ _ rfl (w.heap.size + 2) #[.int .u64 0, .int .u64 0, .int .u64 0, .int .u64 0, .int .i64 0, .int .i64 0, .slice none 0 0] rfl rfl 30 _ HZ2.out part_size rfl (part_one _ _ _ _ _ _ _ _ _) ?_)
        refine Later.mk fun w9 hw9 => ?_
        have H9 := Lib.hid (show Below w.heap.size w w9 ∧ Blk w9 (w.heap.size + 2) 30 #[.int .u64 0, .int .u64 0, .int .u64 0, .int .u64 0, .int .i64 0, .int .i64 0, .slice none 0 0] by
          rw [hw9]
          exact ⟨Below.setRow HB2.out (by omega) _, HZ2.out.row _⟩)
        clear hw9
        go_wp2
        refine bodyPost_ret (results_cell2 (ty := 30) (g := w.heap.size + 2) (k := 8) (m := 9) rfl rfl rfl H9.out.2 Try.underlying30 rfl part_size) rfl ⟨_, rfl, ⟨_, rfl, OwC.nil_ _ _, zero_wf⟩, H9.out.1⟩
      · obtain ⟨mx, hmx⟩ : ∃ z, z = max (0 : Int) ((n : Int) - 1) := ⟨_, rfl⟩
        have hmx2 : max (0 : Int) ((n : Int) - 1) = mx := hmx.symm
        have h2 : mx < f := by
          have := HNO.out
          rw [hmx2] at this
          by_cases q : mx < f
          · exact q
          · exact absurd ⟨by trivial, by trivial, by omega, by omega⟩ this
        have hwn : wrap64 ((n : Int) - 1) = (n : Int) - 1 := by
          have := HML.out
          unfold maxLen at this
          exact IntWalk.wrap64_in _ (by omega)
        clear HNO hmx
        go_wp2_with (refine wpList_store_then rfl 30 _ _ rfl (w.heap.size + 2) #[.int .u64 0, .int .u64 0, .int .u64 0, .int .u64 0, .int .i64 0, .int .i64 0, .slice none 0 0] rfl rfl 30 _ HZ2.out part_size rfl (part_one _ _ _ _ _ _ _ _ _) ?_)
        refine Later.mk fun w9 hw9 => ?_
        have H9 := Lib.hid (show Below w.heap.size w w9 ∧ Blk w9 (w.heap.size + 2) 30 #[.int .u64 0, .int .u64 0, .int .u64 0, .int .u64 0, .int .i64 0, .int .i64 0, .slice none 0 0] by
          rw [hw9]
          exact ⟨Below.setRow HB2.out (by omega) _, HZ2.out.row _⟩)
        clear hw9
        go_wp2
        refine bodyPost_ret (results_cell2 (ty := 30) (g := w.heap.size + 2) (k := 8) (m := 9) rfl rfl rfl H9.out.2 Try.underlying30 rfl part_size) rfl ⟨_, rfl, ⟨_, rfl, OwC.nil_ _ _, zero_wf⟩, H9.out.1⟩

set_option maxRecDepth 100000 in
set_option maxHeartbeats 1000000 in
theorem cutR_bad (w : World) (gb gt : Gd) (v : Value) (l : List Cg) (f : Int) (hv : RdC w v l) (hno : ¬ cutOk gb gt l f) : Calls Try.prog 11 #[aggG gb, aggG gt, v, .int .i64 f] w (CutT w zeroP 2) := by
  unfold CutT
  obtain ⟨gb1, gb2⟩ := gb
  obtain ⟨gt1, gt2⟩ := gt
  obtain ⟨a, c, rfl, hml, -⟩ := hv.inc
  have HV := Lib.hid hv
  have HML := Lib.hid hml
  have hb0 := (((Below.refl w.heap.size w).alloc (Nat.le_refl _) (Obj.cells #[.int .u64 gb1, .int .u64 gb2] 24)).alloc (by simp) (Obj.cells #[.int .u64 gt1, .int .u64 gt2] 24)).alloc (by simp; omega) (Obj.cells #[.int .u64 0, .int .u64 0, .int .u64 0, .int .u64 0, .int .i64 0, .int .i64 0, .slice none 0 0] 30)
  have hz2 := Blk.newAt (w := ((w.alloc (Obj.cells #[.int .u64 gb1, .int .u64 gb2] 24)).alloc (Obj.cells #[.int .u64 gt1, .int .u64 gt2] 24))) 30 #[.int .u64 0, .int .u64 0, .int .u64 0, .int .u64 0, .int .i64 0, .int .i64 0, .slice none 0 0] (g := w.heap.size + 2) (by simp)
  have hgb := ((Blk.new w 24 #[.int .u64 gb1, .int .u64 gb2]).alloc (Obj.cells #[.int .u64 gt1, .int .u64 gt2] 24)).alloc (Obj.cells #[.int .u64 0, .int .u64 0, .int .u64 0, .int .u64 0, .int .i64 0, .int .i64 0, .slice none 0 0] 30)
  have hgt := (Blk.newAt (w := w.alloc (Obj.cells #[.int .u64 gb1, .int .u64 gb2] 24)) 24 #[.int .u64 gt1, .int .u64 gt2] (g := w.heap.size + 1) (by simp)).alloc (Obj.cells #[.int .u64 0, .int .u64 0, .int .u64 0, .int .u64 0, .int .i64 0, .int .i64 0, .slice none 0 0] 30)
  have hszw : ((((w.alloc (Obj.cells #[.int .u64 gb1, .int .u64 gb2] 24)).alloc (Obj.cells #[.int .u64 gt1, .int .u64 gt2] 24)).alloc (Obj.cells #[.int .u64 0, .int .u64 0, .int .u64 0, .int .u64 0, .int .i64 0, .int .i64 0, .slice none 0 0] 30))).heap.size = w.heap.size + 3 := by simp
  unfold aggG
  have HAB := Lib.hid (fun w => aboveR_any (gt1, gt2) (gb1, gb2) w)
  have HMAY := Lib.hid (fun w2 (h : Below w.heap.size w w2) => changesR_any w2 (.slice a l.length c) l (HV.out.inc.keep h))
  unfold cutOk at hno
  generalize mayC (-1) l = mc at *
  generalize upG (gb1, gb2) (gt1, gt2) = up at *
  generalize hn : l.length = n at *
  clear hn hml
  have HNO := Lib.hid hno
  clear hno
  go_enter Try.func11, Try.ntmps11
  go_wp2_with fail
  generalize (((w.alloc (Obj.cells #[.int .u64 gb1, .int .u64 gb2] 24)).alloc (Obj.cells #[.int .u64 gt1, .int .u64 gt2] 24)).alloc (Obj.cells #[.int .u64 0, .int .u64 0, .int .u64 0, .int .u64 0, .int .i64 0, .int .i64 0, .slice none 0 0] 30)) = W0 at *
  have HB0 := Lib.hid hb0
  have HZ0 := Lib.hid hz2
  have HGB := Lib.hid hgb
  have HGT := Lib.hid hgt
  have HSZ := Lib.hid hszw
  clear hb0 hz2 hgb hgt hszw
  refine (HAB.out _).mono ?_
  rintro e w2 ⟨rfl, hb⟩
  have HB2 := Lib.hid (HB0.out.trans (hb.mono HB0.out.size))
  have HZ2 := Lib.hid (HZ0.out.keep hb)
  clear hb HZ0 HB0 HAB HGB HGT
  cases up with
  | false =>
    clear HNO HMAY
    go_wp2_with (refine wpList_store_then rfl 30 _ _ rfl (w.heap.size + 2) #[.int .u64 0, .int .u64 0, .int .u64 0, .int .u64 0, .int .i64 0, .int .i64 0, .slice none 0 0] rfl rfl 30 _ HZ2.out part_size rfl (part_one _ _ _ _ _ _ _ _ _) ?_)
    refine Later.mk fun w9 hw9 => ?_
    have H9 := Lib.hid (show Below w.heap.size w w9 ∧ Blk w9 (w.heap.size + 2) 30 #[.int .u64 0, .int .u64 0, .int .u64 0, .int .u64 0, .int .i64 0, .int .i64 0, .slice none 0 0] by
      rw [hw9]
      exact ⟨Below.setRow HB2.out (by omega) _, HZ2.out.row _⟩)
    clear hw9
    go_wp2
    refine bodyPost_ret (results_cell2 (ty := 30) (g := w.heap.size + 2) (k := 8) (m := 9) rfl rfl rfl H9.out.2 Try.underlying30 rfl part_size) rfl ⟨_, rfl, ⟨_, rfl, OwC.nil_ _ _, zero_wf⟩, H9.out.1⟩
  | true =>
    go_wp2_with fail
    refine (HMAY.out _ HB2.out).mono ?_
    rintro e w3 ⟨rfl, hb⟩
    replace HZ2 := Lib.hid (HZ2.out.keep hb)
    replace HB2 := Lib.hid (HB2.out.trans (hb.mono HB2.out.size))
    clear hb HMAY
    cases mc with
    | false =>
      clear HNO
      go_wp2_with (refine wpList_store_then rfl 30 _ _ rfl (w.heap.size + 2) #[.int .u64 0, .int .u64 0, .int .u64 0, .int .u64 0, .int .i64 0, .int .i64 0, .slice none 0 0] rfl rfl 30 _ HZ2.out part_size rfl (part_one _ _ _ _ _ _ _ _ _) ?_)
      refine Later.mk fun w9 hw9 => ?_
      have H9 := Lib.hid (show Below w.heap.size w w9 ∧ Blk w9 (w.heap.size + 2) 30 #[.int .u64 0, .int .u64 0, .int .u64 0, .int .u64 0, .int .i64 0, .int .i64 0, .slice none 0 0] by
        rw [hw9]
        exact ⟨Below.setRow HB2.out (by omega) _, HZ2.out.row _⟩)
      clear hw9
      go_wp2
      refine bodyPost_ret (results_cell2 (ty := 30) (g := w.heap.size + 2) (k := 8) (m := 9) rfl rfl rfl H9.out.2 Try.underlying30 rfl part_size) rfl ⟨_, rfl, ⟨_, rfl, OwC.nil_ _ _, zero_wf⟩, H9.out.1⟩
    | true =>
      by_cases h1 : f < 0
      · clear HNO
        go_wp2_with (refine wpList_store_then rfl 30 _ _ rfl (w.heap.size + 2) #[.int .u64 0, .int .u64 0, .int .u64 0, .int .u64 0, .int .i64 0, .int .i64 0, .slice none 0 0] rfl rfl 30 _ HZ2.out part_size rfl (part_one _ _ _ _ _ _ _ _ _) ?_)
        refine Later.mk fun w9 hw9 => ?_
        have H9 := Lib.hid (show Below w.heap.size w w9 ∧ Blk w9 (w.heap.size + 2) 30 #[.int .u64 0, .int .u64 0, .int .u64 0, .int .u64 0, .int .i64 0, .int .i64 0, .slice none 0 0] by
          rw [hw9]
          exact ⟨Below.setRow HB2.out (by omega) _, HZ2.out.row _⟩)
        clear hw9
        go_wp2
        refine bodyPost_ret (results_cell2 (ty := 30) (g := w.heap.size + 2) (k := 8) (m := 9) rfl rfl rfl H9.out.2 Try.underlying30 rfl part_size) rfl ⟨_, rfl, ⟨_, rfl, OwC.nil_ _ _, zero_wf⟩, H9.out.1⟩
      · have h2 : (n : Int) ≤ f ∧ f ≠ 0 := by
          have := HNO.out
          have hf : ¬ f ≤ max 0 ((n : Int) - 1) := fun q => this ⟨by trivial, by trivial, by omega, q⟩
          omega
        obtain ⟨h2, h3⟩ := h2
        have e1 : (f == 0) = false := by simpa using h3
        have e2 : decide (f = 0) = false := decide_eq_false h3
        clear HNO h3
        go_wp2_with (refine wpList_store_then rfl 30 _ _ rfl (w.heap.size + 2) #[.int .u64 0, .int .u64 0, .int .u64 0, .int .u64 0, .int .i64 0, .int .i64 0, .slice none 0 0] rfl rfl 30 _ HZ2.out part_size rfl (part_one _ _ _ _ _ _ _ _ _) ?_)
        refine Later.mk fun w9 hw9 => ?_
        have H9 := Lib.hid (show Below w.heap.size w w9 ∧ Blk w9 (w.heap.size + 2) 30 #[.int .u64 0, .int .u64 0, .int .u64 0, .int .u64 0, .int .i64 0, .int .i64 0, .slice none 0 0] by
          rw [hw9]
          exact ⟨Below.setRow HB2.out (by omega) _, HZ2.out.row _⟩)
        clear hw9
        go_wp2
        refine bodyPost_ret (results_cell2 (ty := 30) (g := w.heap.size + 2) (k := 8) (m := 9) rfl rfl rfl H9.out.2 Try.underlying30 rfl part_size) rfl ⟨_, rfl, ⟨_, rfl, OwC.nil_ _ _, zero_wf⟩, H9.out.1⟩

set_option maxRecDepth 100000 in
set_option maxHeartbeats 2000000 in
theorem cut_good (w : World) (gb gt : Gd) (v : Value) (l : List Cg) (k : Nat) (hv : RdC w v l) (hgw : wfG gb ∧ wfG gt) (hok : cutOk gb gt l k) : Calls Try.prog 10 #[aggG gb, aggG gt, v, .int .i64 (k : Int)] w (CutT w (cutQ gb gt l k) 0) := by
  unfold CutT
  have hkn : k ≤ l.length := by have := hok.2.2.2; omega
  have hmax := hv.2
  have hml8 := mayC_len l (-1) (by omega) hok.2.1
  obtain ⟨m, hm⟩ : ∃ m, m = min l.length (k + 2) := ⟨_, rfl⟩
  obtain ⟨u0, hu1, hu2⟩ := hv.cut (k := k) (m := m) (by omega) (by omega)
  have hqc : (l.drop k).take (m - k) = (cutQ gb gt l k).cs := by
    show _ = (l.drop k).take 2
    rw [hm]
    by_cases q : k + 2 ≤ l.length
    · rw [Nat.min_eq_right q, Nat.add_sub_cancel_left]
    · rw [Nat.min_eq_left (by omega), List.take_of_length_le (by simp), List.take_of_length_le (by simp; omega)]
  have hql : (cutQ gb gt l k).cs.length ≤ 2 := by
    show ((l.drop k).take 2).length ≤ 2
    rw [List.length_take]; omega
  rw [hqc] at hu2
  have HU1 := Lib.hid hu1
  have HU2 := Lib.hid hu2
  have HQL := Lib.hid hql
  have hqw : wfPr (cutQ gb gt l k) := ⟨hgw.1, hgw.2, lit_len (by omega), lit_len hmax⟩
  have HQW := Lib.hid hqw
  have HM := Lib.hid hm
  have hmi : min (l.length : Int) ((k : Int) + 2) = (m : Int) := by omega
  have HMI := Lib.hid hmi
  have hw2 : wrap64 ((k : Int) + 2) = (k : Int) + 2 ∧ IntKind.i64.wrap ((k : Int) + 2) = (k : Int) + 2 := by
    exact ⟨IntWalk.wrap64_in _ (by omega), IntWalk.i64_in _ (by omega)⟩
  have HW2 := Lib.hid hw2
  have hmxk : (k : Int) ≤ max (0 : Int) ((l.length : Int) - 1) := hok.2.2.2
  obtain ⟨mx, hmx⟩ : ∃ z, z = max (0 : Int) ((l.length : Int) - 1) := ⟨_, rfl⟩
  rw [← hmx] at hmxk
  have hmx2 : max (0 : Int) ((l.length : Int) - 1) = mx := hmx.symm
  have HMX := Lib.hid hmx2
  have HWN := Lib.hid (show wrap64 ((l.length : Int) - 1) = (l.length : Int) - 1 by
    unfold maxLen at hmax
    exact IntWalk.wrap64_in _ (by omega))
  clear hmax hml8 hu1 hu2 hqc hql hqw hm hmi hw2 hkn hmx hmx2
  obtain ⟨gb1, gb2⟩ := gb
  obtain ⟨gt1, gt2⟩ := gt
  obtain ⟨a, c, rfl, hml, -⟩ := hv.inc
  have HV := Lib.hid hv
  have HML := Lib.hid hml
  have hb0 := (((Below.refl w.heap.size w).alloc (Nat.le_refl _) (Obj.cells #[.int .u64 gb1, .int .u64 gb2] 24)).alloc (by simp) (Obj.cells #[.int .u64 gt1, .int .u64 gt2] 24)).alloc (by simp; omega) (Obj.cells #[.int .u64 0, .int .u64 0, .int .u64 0, .int .u64 0, .int .i64 0, .int .i64 0, .slice none 0 0] 30)
  have hz2 := Blk.newAt (w := ((w.alloc (Obj.cells #[.int .u64 gb1, .int .u64 gb2] 24)).alloc (Obj.cells #[.int .u64 gt1, .int .u64 gt2] 24))) 30 #[.int .u64 0, .int .u64 0, .int .u64 0, .int .u64 0, .int .i64 0, .int .i64 0, .slice none 0 0] (g := w.heap.size + 2) (by simp)
  have hgb := ((Blk.new w 24 #[.int .u64 gb1, .int .u64 gb2]).alloc (Obj.cells #[.int .u64 gt1, .int .u64 gt2] 24)).alloc (Obj.cells #[.int .u64 0, .int .u64 0, .int .u64 0, .int .u64 0, .int .i64 0, .int .i64 0, .slice none 0 0] 30)
  have hgt := (Blk.newAt (w := w.alloc (Obj.cells #[.int .u64 gb1, .int .u64 gb2] 24)) 24 #[.int .u64 gt1, .int .u64 gt2] (g := w.heap.size + 1) (by simp)).alloc (Obj.cells #[.int .u64 0, .int .u64 0, .int .u64 0, .int .u64 0, .int .i64 0, .int .i64 0, .slice none 0 0] 30)
  have hszw : ((((w.alloc (Obj.cells #[.int .u64 gb1, .int .u64 gb2] 24)).alloc (Obj.cells #[.int .u64 gt1, .int .u64 gt2] 24)).alloc (Obj.cells #[.int .u64 0, .int .u64 0, .int .u64 0, .int .u64 0, .int .i64 0, .int .i64 0, .slice none 0 0] 30))).heap.size = w.heap.size + 3 := by simp
  unfold aggG
  have HAB := Lib.hid (fun w => above_any (gt1, gt2) (gb1, gb2) w)
  have HMAY := Lib.hid (fun w2 (h : Below w.heap.size w w2) => may_any w2 (.slice a l.length c) l (HV.out.inc.keep h))
  rw [hok.1] at HAB
  rw [hok.2.1] at HMAY
  generalize hQ : cutQ (gb1, gb2) (gt1, gt2) l k = q at *
  have HQ := Lib.hid (show (∀ sv, prC q sv = #[.int .u64 gb1, .int .u64 gb2, .int .u64 gt1, .int .u64 gt2, .int .i64 (k : Int), .int .i64 (l.length : Int), sv]) ∧ True from ⟨fun sv => by rw [← hQ]; rfl, trivial⟩)
  generalize hn : l.length = n at *
  clear hn hml hok hQ hv hgw
  go_enter Try.func10, Try.ntmps10
  go_wp2_with fail
  generalize (((w.alloc (Obj.cells #[.int .u64 gb1, .int .u64 gb2] 24)).alloc (Obj.cells #[.int .u64 gt1, .int .u64 gt2] 24)).alloc (Obj.cells #[.int .u64 0, .int .u64 0, .int .u64 0, .int .u64 0, .int .i64 0, .int .i64 0, .slice none 0 0] 30)) = W0 at *
  have HB0 := Lib.hid hb0
  have HZ0 := Lib.hid hz2
  have HGB := Lib.hid hgb
  have HGT := Lib.hid hgt
  have HSZ := Lib.hid hszw
  clear hb0 hz2 hgb hgt hszw
  refine (HAB.out _).mono ?_
  rintro e w2 ⟨rfl, hb⟩
  have HB2 := Lib.hid (HB0.out.trans (hb.mono HB0.out.size))
  have HZ2 := Lib.hid (HZ0.out.keep hb)
  have HGB2 := Lib.hid (HGB.out.keep hb)
  have HGT2 := Lib.hid (HGT.out.keep hb)
  have HSZ2 := Lib.hid (show w.heap.size + 3 ≤ w2.heap.size from HSZ.out ▸ hb.size)
  clear hb HZ0 HB0 HAB HGB HGT HSZ
  go_wp2_with fail
  refine (HMAY.out _ HB2.out).mono ?_
  rintro e w3 ⟨rfl, hb⟩
  replace HZ2 := Lib.hid (HZ2.out.keep hb)
  replace HB2 := Lib.hid (HB2.out.trans (hb.mono HB2.out.size))
  have gx0 := (HGB2.out.keep hb).cell 0
  have gx1 := (HGB2.out.keep hb).cell 1
  have gy0 := (HGT2.out.keep hb).cell 0
  have gy1 := (HGT2.out.keep hb).cell 1
  simp at gx0 gx1 gy0 gy1
  replace HSZ2 := Lib.hid (Nat.le_trans HSZ2.out hb.size)
  clear hb HMAY HGB2 HGT2
  have hmx2 := HMX.out
  have hwn := HWN.out
  have i0 : (0 : Int) ≤ (k : Int) := by omega
  go_wp2_with fail
  clear gx0 gx1 gy0 gy1 hmx2 i0 hmxk hwn
  have hbp := Blk.new w3 30 #[.int .u64 gb1, .int .u64 gb2, .int .u64 gt1, .int .u64 gt2, .int .i64 (k : Int), .int .i64 (n : Int), .slice none 0 0]
  have hz4 := HZ2.out.alloc (Obj.cells #[.int .u64 gb1, .int .u64 gb2, .int .u64 gt1, .int .u64 gt2, .int .i64 (k : Int), .int .i64 (n : Int), .slice none 0 0] 30)
  have hb4 := HB2.out.alloc HB2.out.size (Obj.cells #[.int .u64 gb1, .int .u64 gb2, .int .u64 gt1, .int .u64 gt2, .int .i64 (k : Int), .int .i64 (n : Int), .slice none 0 0] 30)
  have hs4 : (w3.alloc (Obj.cells #[.int .u64 gb1, .int .u64 gb2, .int .u64 gt1, .int .u64 gt2, .int .i64 (k : Int), .int .i64 (n : Int), .slice none 0 0] 30)).heap.size = w3.heap.size + 1 := by simp
  generalize hbpn : w3.heap.size = bp at *
  generalize w3.alloc (Obj.cells #[.int .u64 gb1, .int .u64 gb2, .int .u64 gt1, .int .u64 gt2, .int .i64 (k : Int), .int .i64 (n : Int), .slice none 0 0] 30) = w4 at *
  have HBP := Lib.hid hbp
  have HZ4 := Lib.hid hz4
  have HB4 := Lib.hid hb4
  have HS4 := Lib.hid hs4
  clear hbp hz4 hb4 hs4 hbpn HZ2 HB2 HMX
  refine wp_region_chain [9, 11] (kv [(9, .sla q.cs.length), (11, .is undef)]) (JP w4.heap.size bp w4 q q) (by kernel_rfl) (by kernel_rfl) (by kernel_rfl) (kv_inh _) (Below.drew (Below.refl _ _)) ?_
  intro ν hν
  obtain ⟨a9, c9, n9⟩ : ∃ a c, ν 9 = .slice a q.cs.length c := hν 9
  have n11 : ν 11 = undef := hν 11
  clear hν
  refine ch_plain 0 2 1 (by rfl) rfl (by kernel_rfl) (by kernel_rfl) ?_
  apply Exists.intro
  refine ⟨fun st w2 hlo hhi hJ => ?_, ?_⟩
  · clear hlo hhi hJ
    go_simp
    exact And.intro rfl rfl
  simp only [Act.put, List.setIfInBounds_toArray, List.set_cons_succ, List.set_cons_zero, Nat.reduceAdd]
  refine ch_plain 0 0 1 (by rfl) rfl (by kernel_rfl) (by kernel_rfl) ?_
  apply Exists.intro
  refine ⟨fun st w2 hlo hhi hJ => ?_, ?_⟩
  · have hj : Below w4.heap.size w4 w2 := by
      obtain rfl : st = 0 := by omega
      exact hJ
    have hx := (HBP.out.keep hj).cell 6
    simp at hx
    clear hj
    clear hlo hhi hJ
    go_simp
    exact And.intro rfl rfl
  simp only [Act.put, List.setIfInBounds_toArray, List.set_cons_succ, List.set_cons_zero, Nat.reduceAdd]
  refine ch_plain 0 2 1 (by rfl) rfl (by kernel_rfl) (by kernel_rfl) ?_
  apply Exists.intro
  refine ⟨fun st w2 hlo hhi hJ => ?_, ?_⟩
  · clear hlo hhi hJ
    go_simp
    exact And.intro rfl rfl
  simp only [Act.put, List.setIfInBounds_toArray, List.set_cons_succ, List.set_cons_zero, Nat.reduceAdd]
  refine ch_plain 0 2 1 (by rfl) rfl (by kernel_rfl) (by kernel_rfl) ?_
  apply Exists.intro
  refine ⟨fun st w2 hlo hhi hJ => ?_, ?_⟩
  · clear hlo hhi hJ
    go_simp
    exact And.intro rfl rfl
  simp only [Act.put, List.setIfInBounds_toArray, List.set_cons_succ, List.set_cons_zero, Nat.reduceAdd]
  refine ch_plain 0 2 1 (by rfl) rfl (by kernel_rfl) (by kernel_rfl) ?_
  apply Exists.intro
  refine ⟨fun st w2 hlo hhi hJ => ?_, ?_⟩
  · clear hlo hhi hJ
    go_simp
    exact And.intro rfl rfl
  simp only [Act.put, List.setIfInBounds_toArray, List.set_cons_succ, List.set_cons_zero, Nat.reduceAdd]
  refine ch_plain 0 2 1 (by rfl) rfl (by kernel_rfl) (by kernel_rfl) ?_
  apply Exists.intro
  refine ⟨fun st w2 hlo hhi hJ => ?_, ?_⟩
  · clear hlo hhi hJ
    go_simp
    exact And.intro rfl rfl
  simp only [Act.put, List.setIfInBounds_toArray, List.set_cons_succ, List.set_cons_zero, Nat.reduceAdd]
  refine ch_plain 0 2 1 (by rfl) rfl (by kernel_rfl) (by kernel_rfl) ?_
  apply Exists.intro
  refine ⟨fun st w2 hlo hhi hJ => ?_, ?_⟩
  · have hx := HW2.out.2
    clear hlo hhi hJ
    go_simp
    exact And.intro rfl rfl
  simp only [Act.put, List.setIfInBounds_toArray, List.set_cons_succ, List.set_cons_zero, Nat.reduceAdd]
  refine ch_plain 0 2 1 (by rfl) rfl (by kernel_rfl) (by kernel_rfl) ?_
  apply Exists.intro
  refine ⟨fun st w2 hlo hhi hJ => ?_, ?_⟩
  · have hx := HMI.out
    clear hlo hhi hJ
    go_simp
    exact And.intro rfl rfl
  simp only [Act.put, List.setIfInBounds_toArray, List.set_cons_succ, List.set_cons_zero, Nat.reduceAdd]
  refine ch_plain 0 2 1 (by rfl) rfl (by kernel_rfl) (by kernel_rfl) ?_
  apply Exists.intro
  refine ⟨fun st w2 hlo hhi hJ => ?_, ?_⟩
  · clear hlo hhi hJ
    rw [exec_slice 27 (.tmp 42) (.tmp 43) (.tmp 47) rfl (.slice a n c) (.int .i64 (k : Int)) (.int .i64 (m : Int)) rfl rfl rfl u0 (HU1.out _)]
    exact And.intro rfl rfl
  simp only [Act.put, List.setIfInBounds_toArray, List.set_cons_succ, List.set_cons_zero, Nat.reduceAdd]
  refine ch_special 0 1 (by rfl) rfl (by decide) (by kernel_rfl) (fun w2 hJ => ?_) ?_
  · have hj : Below w4.heap.size w4 w2 := hJ
    obtain ⟨v', w', hr, ho, hb⟩ := app_cut 27 (HU2.out.keep (HB4.out.trans (hj.mono HB4.out.size))) (Nat.le_trans HQL.out (by decide)) hj.size
    rw [exec_append (.tmp 41) (.tmp 48) 27 rfl (.slice none 0 0) u0 rfl rfl v' hr]
    obtain ⟨a7, c7, e7, -⟩ := ho.rd
    have hblk := HBP.out.keep (hj.trans (hb.mono hj.size))
    rw [← HQ.out.1] at hblk
    exact ⟨⟨a7, c7, e7⟩, ho, hj.trans (hb.mono hj.size), hblk⟩
  rw [n9]
  simp only [Act.put, List.setIfInBounds_toArray, List.set_cons_succ, List.set_cons_zero, Nat.reduceAdd]
  refine ch_plain 0 2 1 (by rfl) rfl (by kernel_rfl) (by kernel_rfl) ?_
  apply Exists.intro
  refine ⟨fun st w2 hlo hhi hJ => ?_, ?_⟩
  · clear hlo hhi hJ
    go_simp
    exact And.intro rfl rfl
  simp only [Act.put, List.setIfInBounds_toArray, List.set_cons_succ, List.set_cons_zero, Nat.reduceAdd]
  refine ch_special 1 1 (by rfl) rfl (by decide) (by kernel_rfl) (fun w2 hJ => ?_) ?_
  · have hj : OwC w2 w4.heap.size (ν 9) q.cs ∧ Below w4.heap.size w4 w2 ∧ Blk w2 bp 30 (prC q (.slice none 0 0)) := hJ
    rw [n9] at hj
    have hx := hj.2.2.cell 6
    have hf := hj.2.2.frozen 6
    replace hx : w2.cell? ⟨bp, 6, none⟩ = some (.slice none 0 0) := hx
    go_simp
    refine ⟨rfl, ?_⟩
    show OwC _ w4.heap.size (.slice a9 q.cs.length c9) q.cs ∧ Kp (· = bp) w4 _ ∧ Blk _ bp 30 (prC q (.slice a9 q.cs.length c9))
    have hlt := HBP.out.lt
    exact ⟨hj.1.far (p := ⟨bp, 6, none⟩) hlt _, (Kp.of_below hj.2.1).set (A := (· = bp)) (p := ⟨bp, 6, none⟩) rfl _, hj.2.2.set 6 _⟩
  rw [n11]
  simp only [Act.put, Nat.reduceAdd]
  refine ch_nil (fun w5 hJ => ?_)
  have hj : OwC w5 w4.heap.size (ν 9) q.cs ∧ Kp (· = bp) w4 w5 ∧ Blk w5 bp 30 (prC q (ν 9)) := hJ
  clear hJ n11
  rw [n9, HQ.out.1] at hj
  have HJ5 := Lib.hid (And.intro hj.1 hj.2.1)
  have y0 := hj.2.2.cell 0
  have y1 := hj.2.2.cell 1
  have y2 := hj.2.2.cell 2
  have y3 := hj.2.2.cell 3
  have y4 := hj.2.2.cell 4
  have y5 := hj.2.2.cell 5
  have y6 := hj.2.2.cell 6
  simp at y0 y1 y2 y3 y4 y5 y6
  have HLT := Lib.hid HBP.out.lt
  have hbpn : w.heap.size + 2 ≠ bp := by have := HSZ2.out; omega
  have HZ5 := Lib.hid (hj.2.1.blk HZ4.out hbpn)
  have HB5 := Lib.hid (show Below w.heap.size w w5 from HB4.out.trans (hj.2.1.below (fun b hb => by have := HSZ2.out; omega) HB4.out.size))
  clear hj hbpn n9
  generalize q.cs.length = qn at *
  go_wp2_with (refine wpList_store_then rfl 30 _ _ rfl (w.heap.size + 2) #[.int .u64 gb1, .int .u64 gb2, .int .u64 gt1, .int .u64 gt2, .int .i64 (k : Int), .int .i64 (n : Int), .slice a9 qn c9] rfl rfl 30 _ HZ5.out part_size rfl (part_one _ _ _ _ _ _ _ _ _) ?_)
  refine Later.mk fun w9 hw9 => ?_
  have H9 := Lib.hid (show Below w.heap.size w w9 ∧ Blk w9 (w.heap.size + 2) 30 #[.int .u64 gb1, .int .u64 gb2, .int .u64 gt1, .int .u64 gt2, .int .i64 (k : Int), .int .i64 (n : Int), .slice a9 qn c9] ∧ OwC w9 w4.heap.size (.slice a9 qn c9) q.cs by
    rw [hw9]
    exact ⟨Below.setRow HB5.out (by omega) _, HZ5.out.row _, HJ5.out.1.farRow (by have := HSZ2.out; have := HLT.out; omega) _⟩)
  clear hw9
  go_wp2
  refine bodyPost_ret (results_cell2 (ty := 30) (g := w.heap.size + 2) (k := 8) (m := 9) rfl rfl rfl H9.out.2.1 Try.underlying30 rfl part_size) rfl ⟨_, rfl, ⟨_, congrArg Value.agg (HQ.out.1 _).symm, H9.out.2.2.mono HB4.out.size, HQW.out⟩, H9.out.1⟩

/-- 'p.Changes = append(p.Changes, x)': the literal, the append, the store -/
def JA (B bp : Nat) (W0 : World) (w0 : World) (c0 : Value → Array Value) (sl : Value) (cs : List Cg) (x : Cg) : List Value → World → Prop
  | [], w => Below w0.heap.size w0 w
  | [u], w => (∃ g c, u = .slice (some ⟨g, 0, none⟩) 1 c ∧ 1 ≤ c ∧ w.rangeAt g 0 (cgL x)) ∧ Below w0.heap.size w0 w
  | [_, u], w => OwC w B u (cs ++ [x]) ∧ Below B w0 w ∧ Blk w bp 30 (c0 sl)
  | [_, u, _], w => OwC w B u (cs ++ [x]) ∧ Kp (· = bp) W0 w ∧ Blk w bp 30 (c0 u)
  | _, _ => False
theorem lit_chg (w : World) (x : Int) (d : ByteArray) : (w.alloc (.cells #[.int .i64 x, .string d] 36)).rangeAt w.heap.size 0 (cgL (x, d)) := by
  intro j u hu
  have hb := Blk.new w 36 #[.int .i64 x, .string d]
  rw [Nat.zero_add, hb.cell]
  have e : (#[.int .i64 x, .string d] : Array Value) = (cgL (x, d)).toArray := rfl
  rw [e, List.getElem?_toArray]
  exact hu
set_option maxRecDepth 100000 in
set_option maxHeartbeats 2000000 in
theorem cutR_good (w : World) (gb gt : Gd) (v : Value) (l : List Cg) (k0 : Nat) (hv : RdC w v l) (hgw : wfG gb ∧ wfG gt) (hok : cutOk gb gt l k0) : Calls Try.prog 11 #[aggG gb, aggG gt, v, .int .i64 (k0 : Int)] w (CutT w (cutQ gb gt l k0) 0) := by
  unfold CutT
  have hkn : k0 ≤ l.length := by have := hok.2.2.2; omega
  have hcs : (k0 < l.length) ∨ (k0 = 0 ∧ l.length = 0) := by have := hok.2.2.2; omega
  have hmax := hv.2
  have hml8 := mayC_len l (-1) (by omega) hok.2.1
  have hqw : wfPr (cutQ gb gt l k0) := ⟨hgw.1, hgw.2, lit_len (by omega), lit_len hmax⟩
  have HQW := Lib.hid hqw
  have HW2 := Lib.hid (show wrap64 ((k0 : Int) + 2) = (k0 : Int) + 2 ∧ IntKind.i64.wrap ((k0 : Int) + 2) = (k0 : Int) + 2 from ⟨IntWalk.wrap64_in _ (by omega), IntWalk.i64_in _ (by omega)⟩)
  have hxx := hv.inc
  clear hmax hqw
  obtain ⟨gb1, gb2⟩ := gb
  obtain ⟨gt1, gt2⟩ := gt
  obtain ⟨a, c, rfl, hml, -⟩ := hv.inc
  have HV := Lib.hid hv
  have HML := Lib.hid hml
  have hb0 := (((Below.refl w.heap.size w).alloc (Nat.le_refl _) (Obj.cells #[.int .u64 gb1, .int .u64 gb2] 24)).alloc (by simp) (Obj.cells #[.int .u64 gt1, .int .u64 gt2] 24)).alloc (by simp; omega) (Obj.cells #[.int .u64 0, .int .u64 0, .int .u64 0, .int .u64 0, .int .i64 0, .int .i64 0, .slice none 0 0] 30)
  have hz2 := Blk.newAt (w := ((w.alloc (Obj.cells #[.int .u64 gb1, .int .u64 gb2] 24)).alloc (Obj.cells #[.int .u64 gt1, .int .u64 gt2] 24))) 30 #[.int .u64 0, .int .u64 0, .int .u64 0, .int .u64 0, .int .i64 0, .int .i64 0, .slice none 0 0] (g := w.heap.size + 2) (by simp)
  have hgb := ((Blk.new w 24 #[.int .u64 gb1, .int .u64 gb2]).alloc (Obj.cells #[.int .u64 gt1, .int .u64 gt2] 24)).alloc (Obj.cells #[.int .u64 0, .int .u64 0, .int .u64 0, .int .u64 0, .int .i64 0, .int .i64 0, .slice none 0 0] 30)
  have hgt := (Blk.newAt (w := w.alloc (Obj.cells #[.int .u64 gb1, .int .u64 gb2] 24)) 24 #[.int .u64 gt1, .int .u64 gt2] (g := w.heap.size + 1) (by simp)).alloc (Obj.cells #[.int .u64 0, .int .u64 0, .int .u64 0, .int .u64 0, .int .i64 0, .int .i64 0, .slice none 0 0] 30)
  have hszw : ((((w.alloc (Obj.cells #[.int .u64 gb1, .int .u64 gb2] 24)).alloc (Obj.cells #[.int .u64 gt1, .int .u64 gt2] 24)).alloc (Obj.cells #[.int .u64 0, .int .u64 0, .int .u64 0, .int .u64 0, .int .i64 0, .int .i64 0, .slice none 0 0] 30))).heap.size = w.heap.size + 3 := by simp
  unfold aggG
  have HAB := Lib.hid (fun w => aboveR_any (gt1, gt2) (gb1, gb2) w)
  have HMAY := Lib.hid (fun w2 (h : Below w.heap.size w w2) => changesR_any w2 (.slice a l.length c) l (HV.out.inc.keep h))
  rw [hok.1] at HAB
  rw [hok.2.1] at HMAY
  obtain ⟨a', c', he, -, hx⟩ := hxx
  simp only [Value.slice.injEq, true_and] at he
  obtain ⟨rfl, rfl⟩ := he
  generalize hZ : (fun j => l.getD j (0, ByteArray.empty)) = Z
  have hZj : ∀ j, l.getD j (0, ByteArray.empty) = Z j := fun j => by rw [← hZ]
  obtain ⟨S, hS⟩ : ∃ S : Nat → List Cg, ∀ k, S k = (l.drop k0).take (k - k0) := ⟨_, fun _ => rfl⟩
  have HS0 := Lib.hid (show S k0 = [] by rw [hS]; simp)
  have HSN := Lib.hid (fun k (hk0 : k0 ≤ k) (hk : k < l.length) => show S (k + 1) = S k ++ [Z k] by
    rw [hS, hS, show k + 1 - k0 = (k - k0) + 1 from by omega, List.take_add_one, List.getElem?_drop, ← hZj, show k0 + (k - k0) = k from by omega]
    simp [hk])
  have HSL := Lib.hid (fun k (hk : k ≤ k0 + 2) => show (S k).length ≤ 2 by rw [hS, List.length_take]; omega)
  have HSE := Lib.hid (fun k (hk : k = l.length ∨ k = k0 + 2) (h : k ≤ k0 + 2) (h0 : k0 ≤ k) => show (cutQ (gb1, gb2) (gt1, gt2) l k0).cs = S k by
    rw [hS]
    show (l.drop k0).take 2 = _
    rcases hk with rfl | rfl
    · rw [List.take_of_length_le (by rw [List.length_drop]; omega), List.take_of_length_le (by rw [List.length_drop]; omega)]
    · rw [Nat.add_sub_cancel_left])
  have hxs : ∀ j, j < l.length → ∃ g off, a = some ⟨g, off, none⟩ ∧ w.cell? ⟨g, off + j * 2, none⟩ = some (.int .i64 (Z j).1) ∧ w.cell? ⟨g, off + j * 2 + 1, none⟩ = some (.string (Z j).2) := fun j hj => by
    have := hx j hj
    rwa [hZj] at this
  have HX := Lib.hid hxs
  generalize hQ : cutQ (gb1, gb2) (gt1, gt2) l k0 = q at *
  have HQ := Lib.hid (show (∀ sv, prC q sv = #[.int .u64 gb1, .int .u64 gb2, .int .u64 gt1, .int .u64 gt2, .int .i64 (k0 : Int), .int .i64 (l.length : Int), sv]) ∧ True from ⟨fun sv => by rw [← hQ]; rfl, trivial⟩)
  generalize hn : l.length = n at *
  have HN8 := Lib.hid hml8
  have HKN := Lib.hid hkn
  clear hn hml hok hQ hv hgw hx hxs hZ hZj hS hml8 hkn
  go_enter Try.func11, Try.ntmps11
  go_wp2_with fail
  generalize (((w.alloc (Obj.cells #[.int .u64 gb1, .int .u64 gb2] 24)).alloc (Obj.cells #[.int .u64 gt1, .int .u64 gt2] 24)).alloc (Obj.cells #[.int .u64 0, .int .u64 0, .int .u64 0, .int .u64 0, .int .i64 0, .int .i64 0, .slice none 0 0] 30)) = W0 at *
  have HB0 := Lib.hid hb0
  have HZ0 := Lib.hid hz2
  have HGB := Lib.hid hgb
  have HGT := Lib.hid hgt
  have HSZ := Lib.hid hszw
  clear hb0 hz2 hgb hgt hszw
  refine (HAB.out _).mono ?_
  rintro e w2 ⟨rfl, hb⟩
  have HB2 := Lib.hid (HB0.out.trans (hb.mono HB0.out.size))
  have HZ2 := Lib.hid (HZ0.out.keep hb)
  have HGB2 := Lib.hid (HGB.out.keep hb)
  have HGT2 := Lib.hid (HGT.out.keep hb)
  have HSZ2 := Lib.hid (show w.heap.size + 3 ≤ w2.heap.size from HSZ.out ▸ hb.size)
  clear hb HZ0 HB0 HAB HGB HGT HSZ
  go_wp2_with fail
  refine (HMAY.out _ HB2.out).mono ?_
  rintro e w3 ⟨rfl, hb⟩
  replace HZ2 := Lib.hid (HZ2.out.keep hb)
  replace HB2 := Lib.hid (HB2.out.trans (hb.mono HB2.out.size))
  have gx0 := (HGB2.out.keep hb).cell 0
  have gx1 := (HGB2.out.keep hb).cell 1
  have gy0 := (HGT2.out.keep hb).cell 0
  have gy1 := (HGT2.out.keep hb).cell 1
  simp at gx0 gx1 gy0 gy1
  replace HSZ2 := Lib.hid (Nat.le_trans HSZ2.out hb.size)
  clear hb HMAY HGB2 HGT2
  have i0 : (0 : Int) ≤ (k0 : Int) := by omega
  rcases hcs with h1 | ⟨h1, h2⟩
  · have i1 : (k0 : Int) < (n : Int) := by omega
    clear h1
    go_wp2_with fail
    clear gx0 gx1 gy0 gy1 i0 i1
    have hbp := Blk.new w3 30 #[.int .u64 gb1, .int .u64 gb2, .int .u64 gt1, .int .u64 gt2, .int .i64 (k0 : Int), .int .i64 (n : Int), .slice none 0 0]
    have hz4 := HZ2.out.alloc (Obj.cells #[.int .u64 gb1, .int .u64 gb2, .int .u64 gt1, .int .u64 gt2, .int .i64 (k0 : Int), .int .i64 (n : Int), .slice none 0 0] 30)
    have hb4 := HB2.out.alloc HB2.out.size (Obj.cells #[.int .u64 gb1, .int .u64 gb2, .int .u64 gt1, .int .u64 gt2, .int .i64 (k0 : Int), .int .i64 (n : Int), .slice none 0 0] 30)
    have hs4 : (w3.alloc (Obj.cells #[.int .u64 gb1, .int .u64 gb2, .int .u64 gt1, .int .u64 gt2, .int .i64 (k0 : Int), .int .i64 (n : Int), .slice none 0 0] 30)).heap.size = w3.heap.size + 1 := by simp
    generalize hbpn : w3.heap.size = bp at *
    generalize w3.alloc (Obj.cells #[.int .u64 gb1, .int .u64 gb2, .int .u64 gt1, .int .u64 gt2, .int .i64 (k0 : Int), .int .i64 (n : Int), .slice none 0 0] 30) = w4 at *
    have hbp2 : Blk w4 bp 30 (prC q (.slice none 0 0)) := by rw [HQ.out.1]; exact hbp
    have HBP := Lib.hid hbp2
    have HZ4 := Lib.hid hz4
    have HB4 := Lib.hid hb4
    have HS4 := Lib.hid hs4
    clear hbp hbp2 hz4 hb4 hs4 hbpn HZ2 HB2
    go_loopw [11] (fun i wr => ∃ (k : Nat) (sl : Value), k0 ≤ k ∧ k ≤ n ∧ k ≤ k0 + 2 ∧ i = .int .i64 k ∧ Kp (· = bp) w4 wr ∧ Blk wr bp 30 (prC q sl) ∧ OwC wr w4.heap.size sl (S k)) (fun i _ => (k0 + 2) - (intOf i).toNat)
    case atStart => exact ⟨k0, _, Nat.le_refl _, HKN.out, by omega, rfl, Kp.refl _ _, HBP.out, by rw [HS0.out]; exact OwC.nil_ _ _⟩
    case round =>
      obtain ⟨k, sl, hk0, hkn, hk2, rfl, hkp, hblk, ho⟩ := hrel
      have HKP := Lib.hid hkp
      have HBL := Lib.hid hblk
      have HO := Lib.hid ho
      have HBR := Lib.hid (show Below w.heap.size w wr from HB4.out.trans (hkp.below (fun b hb => by have := HSZ2.out; omega) HB4.out.size))
      clear hkp hblk ho
      have hw2 := HW2.out.1
      by_cases h1 : k < n
      · by_cases h2 : k < k0 + 2
        · obtain ⟨g, off, rfl, hc0, hc1⟩ := HX.out k h1
          have c0 := cell_later HBR.out hc0
          have c1 := cell_later HBR.out hc1
          have hsn := HSN.out k hk0 h1
          generalize Z k = zk at *
          obtain ⟨xb, xd⟩ := zk
          dsimp only at c0 c1 hsn
          have HSN2 := Lib.hid hsn
          have i1 : (k : Int) < (n : Int) := by omega
          have i2 : (k : Int) < (k0 : Int) + 2 := by omega
          have hlt8 := HN8.out
          have i3 : wrap64 ((k : Int) + 1) = (k : Int) + 1 := IntWalk.wrap64_in _ (by omega)
          have HC := Lib.hid (And.intro (And.intro c0 c1) (And.intro h1 (And.intro h2 hk0)))
          have I3 := Lib.hid i3
          have HLE := Lib.hid (show (S k).length + 1 ≤ 2 ^ 40 from by have := HSL.out k hk2; omega)
          clear hc0 hc1 hsn h1 h2 hk0 hkn hk2 c0 c1 hlt8 i3
          go_wp2_with fail
          clear i1 i2 hw2
          refine wp_region_chain [6, 7, 9] (kv [(6, .sl 1), (7, .sla ((S k).length + 1)), (9, .is undef)]) (JA w4.heap.size bp w4 wr (prC q) sl (S k) (xb, xd)) (by kernel_rfl) (by kernel_rfl) (by kernel_rfl) (kv_inh _) (Below.drew (Below.refl _ _)) ?_
          intro ν hν
          obtain ⟨g6, n6⟩ : ∃ g, ν 6 = .slice (some ⟨g, 0, none⟩) 1 1 := hν 6
          obtain ⟨a7, c7, n7⟩ : ∃ a c, ν 7 = .slice a ((S k).length + 1) c := hν 7
          have n9 : ν 9 = undef := hν 9
          clear hν
          refine ch_plain 0 3 1 (by rfl) rfl (by kernel_rfl) (by kernel_rfl) ?_
          apply Exists.intro
          refine ⟨fun st w2 hlo hhi hJ => ?_, ?_⟩
          · clear hlo hhi hJ
            go_simp
            exact And.intro rfl rfl
          simp only [Act.put, List.setIfInBounds_toArray, List.set_cons_succ, List.set_cons_zero, Nat.reduceAdd]
          refine ch_plain 0 1 1 (by rfl) rfl (by kernel_rfl) (by kernel_rfl) ?_
          apply Exists.intro
          refine ⟨fun st w2 hlo hhi hJ => ?_, ?_⟩
          · have hj : w2.cell? ⟨bp, 6, none⟩ = some sl := by
              have h1 : st = 0 ∨ st = 1 := by omega
              rcases h1 with rfl | rfl
              · have hj : Below wr.heap.size wr w2 := hJ
                exact ((HBL.out.keep hj).cell 6).trans rfl
              · have hj : _ ∧ Below wr.heap.size wr w2 := hJ
                exact ((HBL.out.keep hj.2).cell 6).trans rfl
            clear hlo hhi hJ
            go_simp
            exact And.intro rfl rfl
          simp only [Act.put, List.setIfInBounds_toArray, List.set_cons_succ, List.set_cons_zero, Nat.reduceAdd]
          refine ch_plain 0 3 1 (by rfl) rfl (by kernel_rfl) (by kernel_rfl) ?_
          apply Exists.intro
          refine ⟨fun st w2 hlo hhi hJ => ?_, ?_⟩
          · clear hlo hhi hJ
            go_simp
            exact And.intro rfl rfl
          simp only [Act.put, List.setIfInBounds_toArray, List.set_cons_succ, List.set_cons_zero, Nat.reduceAdd]
          refine ch_plain 0 3 1 (by rfl) rfl (by kernel_rfl) (by kernel_rfl) ?_
          apply Exists.intro
          refine ⟨fun st w2 hlo hhi hJ => ?_, ?_⟩
          · clear hlo hhi hJ
            go_simp
            exact And.intro rfl rfl
          simp only [Act.put, List.setIfInBounds_toArray, List.set_cons_succ, List.set_cons_zero, Nat.reduceAdd]
          refine ch_plain 0 3 1 (by rfl) rfl (by kernel_rfl) (by kernel_rfl) ?_
          apply Exists.intro
          refine ⟨fun st w2 hlo hhi hJ => ?_, ?_⟩
          · have hk1 := HC.out.2.1
            clear hlo hhi hJ
            go_simp
            exact And.intro rfl rfl
          simp only [Act.put, List.setIfInBounds_toArray, List.set_cons_succ, List.set_cons_zero, Nat.reduceAdd]
          refine ch_plain 0 0 1 (by rfl) rfl (by kernel_rfl) (by kernel_rfl) ?_
          apply Exists.intro
          refine ⟨fun st w2 hlo hhi hJ => ?_, ?_⟩
          · have hj : Below wr.heap.size wr w2 := by
              obtain rfl : st = 0 := by omega
              exact hJ
            have h1 := cell_later hj HC.out.1.1
            have h2 := cell_later hj HC.out.1.2
            clear hj
            clear hlo hhi hJ
            go_simp
            exact And.intro rfl rfl
          simp only [Act.put, List.setIfInBounds_toArray, List.set_cons_succ, List.set_cons_zero, Nat.reduceAdd]
          refine ch_special 0 1 (by rfl) rfl (by decide) (by kernel_rfl) (fun w2 hJ => ?_) ?_
          · have hj : Below wr.heap.size wr w2 := hJ
            go_simp
            exact ⟨⟨_, rfl⟩, ⟨_, _, rfl, Nat.le_refl _, lit_chg _ _ _⟩, hj.alloc hj.size _⟩
          rw [n6]
          simp only [Act.put, List.setIfInBounds_toArray, List.set_cons_succ, List.set_cons_zero, Nat.reduceAdd]
          refine ch_special 1 1 (by rfl) rfl (by decide) (by kernel_rfl) (fun w2 hJ => ?_) ?_
          · have hj : (∃ g c, ν 6 = .slice (some ⟨g, 0, none⟩) 1 c ∧ 1 ≤ c ∧ w2.rangeAt g 0 (cgL (xb, xd))) ∧ Below wr.heap.size wr w2 := hJ
            have hws := HKP.out.size
            have hj2 := hj.2.size
            obtain ⟨v', w', hr, hp⟩ := app_chg2 (w := w2) 27 (xb, xd) hj.1 (HO.out.keep hj.2) HLE.out (Nat.le_trans hws hj2)
            rw [n6] at hr
            rw [exec_append (.tmp 62) (.tmp 67) 27 rfl sl (.slice (some ⟨g6, 0, none⟩) 1 1) rfl rfl v' hr]
            obtain ⟨a8, c8, e8, -⟩ := hp.1.rd
            have hbx := hp.below (HO.out.keep hj.2) (Nat.le_trans hws hj2)
            have hblk := (HBL.out.keep hj.2).below hbx HBP.out.lt
            exact ⟨⟨a8, c8, by rw [e8, List.length_append]; rfl⟩, hp.1, (hj.2.mono hws).trans hbx, hblk⟩
          rw [n7]
          simp only [Act.put, List.setIfInBounds_toArray, List.set_cons_succ, List.set_cons_zero, Nat.reduceAdd]
          refine ch_plain 0 3 1 (by rfl) rfl (by kernel_rfl) (by kernel_rfl) ?_
          apply Exists.intro
          refine ⟨fun st w2 hlo hhi hJ => ?_, ?_⟩
          · clear hlo hhi hJ
            go_simp
            exact And.intro rfl rfl
          simp only [Act.put, List.setIfInBounds_toArray, List.set_cons_succ, List.set_cons_zero, Nat.reduceAdd]
          refine ch_special 2 1 (by rfl) rfl (by decide) (by kernel_rfl) (fun w2 hJ => ?_) ?_
          · have hj : OwC w2 w4.heap.size (ν 7) (S k ++ [(xb, xd)]) ∧ Below w4.heap.size wr w2 ∧ Blk w2 bp 30 (prC q sl) := hJ
            have hx := hj.2.2.cell 6
            have hf := hj.2.2.frozen 6
            replace hx : w2.cell? ⟨bp, 6, none⟩ = some sl := hx
            have HJ := Lib.hid hj
            clear hj hJ
            go_simp
            refine ⟨rfl, ?_⟩
            show OwC _ w4.heap.size (.slice a7 ((S k).length + 1) c7) (S k ++ [(xb, xd)]) ∧ Kp (· = bp) w4 _ ∧ Blk _ bp 30 (prC q (.slice a7 ((S k).length + 1) c7))
            rw [← n7]
            exact ⟨HJ.out.1.far (p := ⟨bp, 6, none⟩) HBP.out.lt _, (HKP.out.ext HJ.out.2.1).set (A := (· = bp)) (p := ⟨bp, 6, none⟩) rfl _, HJ.out.2.2.set 6 _⟩
          rw [n9]
          simp only [Act.put, Nat.reduceAdd]
          refine ch_nil (fun w5 hJ => ?_)
          have HF := Lib.hid (show OwC w5 w4.heap.size (ν 7) (S k ++ [(xb, xd)]) ∧ Kp (· = bp) w4 w5 ∧ Blk w5 bp 30 (prC q (ν 7)) from hJ)
          clear hJ n6 n7 n9
          go_wp2
          rw [I3.out]
          exact ⟨⟨k + 1, ν 7, by have := HC.out.2.2.2; omega, HC.out.2.1, HC.out.2.2.1, rfl, HF.out.2.1, HF.out.2.2, by rw [HSN2.out]; exact HF.out.1⟩, by have := HC.out.2.2.1; simp [intOf]; omega⟩
        · have i1 : (k : Int) < (n : Int) := by omega
          have i2 : ¬ (k : Int) < (k0 : Int) + 2 := by omega
          have HPE := Lib.hid (HSE.out k (.inr (by omega)) hk2 hk0)
          clear h1 h2 hk0 hkn hk2
          have hbl := HBL.out
          obtain ⟨a3, c3, rfl, -⟩ := HO.out.rd
          rw [HQ.out.1] at hbl
          have y0 := hbl.cell 0
          have y1 := hbl.cell 1
          have y2 := hbl.cell 2
          have y3 := hbl.cell 3
          have y4 := hbl.cell 4
          have y5 := hbl.cell 5
          have y6 := hbl.cell 6
          simp at y0 y1 y2 y3 y4 y5 y6
          have HLT := Lib.hid HBP.out.lt
          have hbpn : w.heap.size + 2 ≠ bp := by have := HSZ2.out; omega
          have HZ5 := Lib.hid (HKP.out.blk HZ4.out hbpn)
          clear hbl hbpn
          have HO2 := Lib.hid HO.out
          have HPL := Lib.hid (congrArg List.length HPE.out)
          generalize (S k).length = sn at *
          go_wp2_with (refine wpList_store_then rfl 30 _ _ rfl (w.heap.size + 2) #[.int .u64 gb1, .int .u64 gb2, .int .u64 gt1, .int .u64 gt2, .int .i64 (k0 : Int), .int .i64 (n : Int), .slice a3 sn c3] rfl rfl 30 _ HZ5.out part_size rfl (part_one _ _ _ _ _ _ _ _ _) ?_)
          refine Later.mk fun w9 hw9 => ?_
          have H9 := Lib.hid (show Below w.heap.size w w9 ∧ Blk w9 (w.heap.size + 2) 30 #[.int .u64 gb1, .int .u64 gb2, .int .u64 gt1, .int .u64 gt2, .int .i64 (k0 : Int), .int .i64 (n : Int), .slice a3 sn c3] ∧ OwC w9 w4.heap.size (.slice a3 sn c3) q.cs by
            rw [hw9, HPE.out]
            exact ⟨Below.setRow HBR.out (by omega) _, HZ5.out.row _, HO2.out.farRow (by have := HSZ2.out; have := HLT.out; omega) _⟩)
          clear hw9
          go_wp2
          refine bodyPost_ret (results_cell2 (ty := 30) (g := w.heap.size + 2) (k := 8) (m := 9) rfl rfl rfl H9.out.2.1 Try.underlying30 rfl part_size) rfl ⟨_, rfl, ⟨_, congrArg Value.agg (HQ.out.1 _).symm, H9.out.2.2.mono HB4.out.size, HQW.out⟩, H9.out.1⟩
      · have i1 : ¬ (k : Int) < (n : Int) := by omega
        have HPE := Lib.hid (HSE.out k (.inl (by omega)) hk2 hk0)
        clear h1 hk0 hkn hk2 hw2
        have hbl := HBL.out
        obtain ⟨a3, c3, rfl, -⟩ := HO.out.rd
        rw [HQ.out.1] at hbl
        have y0 := hbl.cell 0
        have y1 := hbl.cell 1
        have y2 := hbl.cell 2
        have y3 := hbl.cell 3
        have y4 := hbl.cell 4
        have y5 := hbl.cell 5
        have y6 := hbl.cell 6
        simp at y0 y1 y2 y3 y4 y5 y6
        have HLT := Lib.hid HBP.out.lt
        have hbpn : w.heap.size + 2 ≠ bp := by have := HSZ2.out; omega
        have HZ5 := Lib.hid (HKP.out.blk HZ4.out hbpn)
        clear hbl hbpn
        have HO2 := Lib.hid HO.out
        have HPL := Lib.hid (congrArg List.length HPE.out)
        generalize (S k).length = sn at *
        go_wp2_with (refine wpList_store_then rfl 30 _ _ rfl (w.heap.size + 2) #[.int .u64 gb1, .int .u64 gb2, .int .u64 gt1, .int .u64 gt2, .int .i64 (k0 : Int), .int .i64 (n : Int), .slice a3 sn c3] rfl rfl 30 _ HZ5.out part_size rfl (part_one _ _ _ _ _ _ _ _ _) ?_)
        refine Later.mk fun w9 hw9 => ?_
        have H9 := Lib.hid (show Below w.heap.size w w9 ∧ Blk w9 (w.heap.size + 2) 30 #[.int .u64 gb1, .int .u64 gb2, .int .u64 gt1, .int .u64 gt2, .int .i64 (k0 : Int), .int .i64 (n : Int), .slice a3 sn c3] ∧ OwC w9 w4.heap.size (.slice a3 sn c3) q.cs by
          rw [hw9, HPE.out]
          exact ⟨Below.setRow HBR.out (by omega) _, HZ5.out.row _, HO2.out.farRow (by have := HSZ2.out; have := HLT.out; omega) _⟩)
        clear hw9
        go_wp2
        refine bodyPost_ret (results_cell2 (ty := 30) (g := w.heap.size + 2) (k := 8) (m := 9) rfl rfl rfl H9.out.2.1 Try.underlying30 rfl part_size) rfl ⟨_, rfl, ⟨_, congrArg Value.agg (HQ.out.1 _).symm, H9.out.2.2.mono HB4.out.size, HQW.out⟩, H9.out.1⟩
  · have i1 : n ≤ k0 := by omega
    have i2 : (n : Int) ≤ (k0 : Int) := by omega
    have e1 : ((k0 : Int) == 0) = true := by simp [h1]
    have e2 : decide (k0 = 0) = true := by simp [h1]
    have e3 : ((n : Int) == 0) = true := by simp [h2]
    have e4 : decide (n = 0) = true := by simp [h2]
    clear h1 h2
    go_wp2_with fail
    clear gx0 gx1 gy0 gy1 i0 i1 i2 e1 e2 e3 e4
    have hbp := Blk.new w3 30 #[.int .u64 gb1, .int .u64 gb2, .int .u64 gt1, .int .u64 gt2, .int .i64 (k0 : Int), .int .i64 (n : Int), .slice none 0 0]
    have hz4 := HZ2.out.alloc (Obj.cells #[.int .u64 gb1, .int .u64 gb2, .int .u64 gt1, .int .u64 gt2, .int .i64 (k0 : Int), .int .i64 (n : Int), .slice none 0 0] 30)
    have hb4 := HB2.out.alloc HB2.out.size (Obj.cells #[.int .u64 gb1, .int .u64 gb2, .int .u64 gt1, .int .u64 gt2, .int .i64 (k0 : Int), .int .i64 (n : Int), .slice none 0 0] 30)
    have hs4 : (w3.alloc (Obj.cells #[.int .u64 gb1, .int .u64 gb2, .int .u64 gt1, .int .u64 gt2, .int .i64 (k0 : Int), .int .i64 (n : Int), .slice none 0 0] 30)).heap.size = w3.heap.size + 1 := by simp
    generalize hbpn : w3.heap.size = bp at *
    generalize w3.alloc (Obj.cells #[.int .u64 gb1, .int .u64 gb2, .int .u64 gt1, .int .u64 gt2, .int .i64 (k0 : Int), .int .i64 (n : Int), .slice none 0 0] 30) = w4 at *
    have hbp2 : Blk w4 bp 30 (prC q (.slice none 0 0)) := by rw [HQ.out.1]; exact hbp
    have HBP := Lib.hid hbp2
    have HZ4 := Lib.hid hz4
    have HB4 := Lib.hid hb4
    have HS4 := Lib.hid hs4
    clear hbp hbp2 hz4 hb4 hs4 hbpn HZ2 HB2
    go_loopw [11] (fun i wr => ∃ (k : Nat) (sl : Value), k0 ≤ k ∧ k ≤ n ∧ k ≤ k0 + 2 ∧ i = .int .i64 k ∧ Kp (· = bp) w4 wr ∧ Blk wr bp 30 (prC q sl) ∧ OwC wr w4.heap.size sl (S k)) (fun i _ => (k0 + 2) - (intOf i).toNat)
    case atStart => exact ⟨k0, _, Nat.le_refl _, HKN.out, by omega, rfl, Kp.refl _ _, HBP.out, by rw [HS0.out]; exact OwC.nil_ _ _⟩
    case round =>
      obtain ⟨k, sl, hk0, hkn, hk2, rfl, hkp, hblk, ho⟩ := hrel
      have HKP := Lib.hid hkp
      have HBL := Lib.hid hblk
      have HO := Lib.hid ho
      have HBR := Lib.hid (show Below w.heap.size w wr from HB4.out.trans (hkp.below (fun b hb => by have := HSZ2.out; omega) HB4.out.size))
      clear hkp hblk ho
      have hw2 := HW2.out.1
      by_cases h1 : k < n
      · by_cases h2 : k < k0 + 2
        · obtain ⟨g, off, rfl, hc0, hc1⟩ := HX.out k h1
          have c0 := cell_later HBR.out hc0
          have c1 := cell_later HBR.out hc1
          have hsn := HSN.out k hk0 h1
          generalize Z k = zk at *
          obtain ⟨xb, xd⟩ := zk
          dsimp only at c0 c1 hsn
          have HSN2 := Lib.hid hsn
          have i1 : (k : Int) < (n : Int) := by omega
          have i2 : (k : Int) < (k0 : Int) + 2 := by omega
          have hlt8 := HN8.out
          have i3 : wrap64 ((k : Int) + 1) = (k : Int) + 1 := IntWalk.wrap64_in _ (by omega)
          have HC := Lib.hid (And.intro (And.intro c0 c1) (And.intro h1 (And.intro h2 hk0)))
          have I3 := Lib.hid i3
          have HLE := Lib.hid (show (S k).length + 1 ≤ 2 ^ 40 from by have := HSL.out k hk2; omega)
          clear hc0 hc1 hsn h1 h2 hk0 hkn hk2 c0 c1 hlt8 i3
          go_wp2_with fail
          clear i1 i2 hw2
          refine wp_region_chain [6, 7, 9] (kv [(6, .sl 1), (7, .sla ((S k).length + 1)), (9, .is undef)]) (JA w4.heap.size bp w4 wr (prC q) sl (S k) (xb, xd)) (by kernel_rfl) (by kernel_rfl) (by kernel_rfl) (kv_inh _) (Below.drew (Below.refl _ _)) ?_
          intro ν hν
          obtain ⟨g6, n6⟩ : ∃ g, ν 6 = .slice (some ⟨g, 0, none⟩) 1 1 := hν 6
          obtain ⟨a7, c7, n7⟩ : ∃ a c, ν 7 = .slice a ((S k).length + 1) c := hν 7
          have n9 : ν 9 = undef := hν 9
          clear hν
          refine ch_plain 0 3 1 (by rfl) rfl (by kernel_rfl) (by kernel_rfl) ?_
          apply Exists.intro
          refine ⟨fun st w2 hlo hhi hJ => ?_, ?_⟩
          · clear hlo hhi hJ
            go_simp
            exact And.intro rfl rfl
          simp only [Act.put, List.setIfInBounds_toArray, List.set_cons_succ, List.set_cons_zero, Nat.reduceAdd]
          refine ch_plain 0 1 1 (by rfl) rfl (by kernel_rfl) (by kernel_rfl) ?_
          apply Exists.intro
          refine ⟨fun st w2 hlo hhi hJ => ?_, ?_⟩
          · have hj : w2.cell? ⟨bp, 6, none⟩ = some sl := by
              have h1 : st = 0 ∨ st = 1 := by omega
              rcases h1 with rfl | rfl
              · have hj : Below wr.heap.size wr w2 := hJ
                exact ((HBL.out.keep hj).cell 6).trans rfl
              · have hj : _ ∧ Below wr.heap.size wr w2 := hJ
                exact ((HBL.out.keep hj.2).cell 6).trans rfl
            clear hlo hhi hJ
            go_simp
            exact And.intro rfl rfl
          simp only [Act.put, List.setIfInBounds_toArray, List.set_cons_succ, List.set_cons_zero, Nat.reduceAdd]
          refine ch_plain 0 3 1 (by rfl) rfl (by kernel_rfl) (by kernel_rfl) ?_
          apply Exists.intro
          refine ⟨fun st w2 hlo hhi hJ => ?_, ?_⟩
          · clear hlo hhi hJ
            go_simp
            exact And.intro rfl rfl
          simp only [Act.put, List.setIfInBounds_toArray, List.set_cons_succ, List.set_cons_zero, Nat.reduceAdd]
          refine ch_plain 0 3 1 (by rfl) rfl (by kernel_rfl) (by kernel_rfl) ?_
          apply Exists.intro
          refine ⟨fun st w2 hlo hhi hJ => ?_, ?_⟩
          · clear hlo hhi hJ
            go_simp
            exact And.intro rfl rfl
          simp only [Act.put, List.setIfInBounds_toArray, List.set_cons_succ, List.set_cons_zero, Nat.reduceAdd]
          refine ch_plain 0 3 1 (by rfl) rfl (by kernel_rfl) (by kernel_rfl) ?_
          apply Exists.intro
          refine ⟨fun st w2 hlo hhi hJ => ?_, ?_⟩
          · have hk1 := HC.out.2.1
            clear hlo hhi hJ
            go_simp
            exact And.intro rfl rfl
          simp only [Act.put, List.setIfInBounds_toArray, List.set_cons_succ, List.set_cons_zero, Nat.reduceAdd]
          refine ch_plain 0 0 1 (by rfl) rfl (by kernel_rfl) (by kernel_rfl) ?_
          apply Exists.intro
          refine ⟨fun st w2 hlo hhi hJ => ?_, ?_⟩
          · have hj : Below wr.heap.size wr w2 := by
              obtain rfl : st = 0 := by omega
              exact hJ
            have h1 := cell_later hj HC.out.1.1
            have h2 := cell_later hj HC.out.1.2
            clear hj
            clear hlo hhi hJ
            go_simp
            exact And.intro rfl rfl
          simp only [Act.put, List.setIfInBounds_toArray, List.set_cons_succ, List.set_cons_zero, Nat.reduceAdd]
          refine ch_special 0 1 (by rfl) rfl (by decide) (by kernel_rfl) (fun w2 hJ => ?_) ?_
          · have hj : Below wr.heap.size wr w2 := hJ
            go_simp
            exact ⟨⟨_, rfl⟩, ⟨_, _, rfl, Nat.le_refl _, lit_chg _ _ _⟩, hj.alloc hj.size _⟩
          rw [n6]
          simp only [Act.put, List.setIfInBounds_toArray, List.set_cons_succ, List.set_cons_zero, Nat.reduceAdd]
          refine ch_special 1 1 (by rfl) rfl (by decide) (by kernel_rfl) (fun w2 hJ => ?_) ?_
          · have hj : (∃ g c, ν 6 = .slice (some ⟨g, 0, none⟩) 1 c ∧ 1 ≤ c ∧ w2.rangeAt g 0 (cgL (xb, xd))) ∧ Below wr.heap.size wr w2 := hJ
            have hws := HKP.out.size
            have hj2 := hj.2.size
            obtain ⟨v', w', hr, hp⟩ := app_chg2 (w := w2) 27 (xb, xd) hj.1 (HO.out.keep hj.2) HLE.out (Nat.le_trans hws hj2)
            rw [n6] at hr
            rw [exec_append (.tmp 62) (.tmp 67) 27 rfl sl (.slice (some ⟨g6, 0, none⟩) 1 1) rfl rfl v' hr]
            obtain ⟨a8, c8, e8, -⟩ := hp.1.rd
            have hbx := hp.below (HO.out.keep hj.2) (Nat.le_trans hws hj2)
            have hblk := (HBL.out.keep hj.2).below hbx HBP.out.lt
            exact ⟨⟨a8, c8, by rw [e8, List.length_append]; rfl⟩, hp.1, (hj.2.mono hws).trans hbx, hblk⟩
          rw [n7]
          simp only [Act.put, List.setIfInBounds_toArray, List.set_cons_succ, List.set_cons_zero, Nat.reduceAdd]
          refine ch_plain 0 3 1 (by rfl) rfl (by kernel_rfl) (by kernel_rfl) ?_
          apply Exists.intro
          refine ⟨fun st w2 hlo hhi hJ => ?_, ?_⟩
          · clear hlo hhi hJ
            go_simp
            exact And.intro rfl rfl
          simp only [Act.put, List.setIfInBounds_toArray, List.set_cons_succ, List.set_cons_zero, Nat.reduceAdd]
          refine ch_special 2 1 (by rfl) rfl (by decide) (by kernel_rfl) (fun w2 hJ => ?_) ?_
          · have hj : OwC w2 w4.heap.size (ν 7) (S k ++ [(xb, xd)]) ∧ Below w4.heap.size wr w2 ∧ Blk w2 bp 30 (prC q sl) := hJ
            have hx := hj.2.2.cell 6
            have hf := hj.2.2.frozen 6
            replace hx : w2.cell? ⟨bp, 6, none⟩ = some sl := hx
            have HJ := Lib.hid hj
            clear hj hJ
            go_simp
            refine ⟨rfl, ?_⟩
            show OwC _ w4.heap.size (.slice a7 ((S k).length + 1) c7) (S k ++ [(xb, xd)]) ∧ Kp (· = bp) w4 _ ∧ Blk _ bp 30 (prC q (.slice a7 ((S k).length + 1) c7))
            rw [← n7]
            exact ⟨HJ.out.1.far (p := ⟨bp, 6, none⟩) HBP.out.lt _, (HKP.out.ext HJ.out.2.1).set (A := (· = bp)) (p := ⟨bp, 6, none⟩) rfl _, HJ.out.2.2.set 6 _⟩
          rw [n9]
          simp only [Act.put, Nat.reduceAdd]
          refine ch_nil (fun w5 hJ => ?_)
          have HF := Lib.hid (show OwC w5 w4.heap.size (ν 7) (S k ++ [(xb, xd)]) ∧ Kp (· = bp) w4 w5 ∧ Blk w5 bp 30 (prC q (ν 7)) from hJ)
          clear hJ n6 n7 n9
          go_wp2
          rw [I3.out]
          exact ⟨⟨k + 1, ν 7, by have := HC.out.2.2.2; omega, HC.out.2.1, HC.out.2.2.1, rfl, HF.out.2.1, HF.out.2.2, by rw [HSN2.out]; exact HF.out.1⟩, by have := HC.out.2.2.1; simp [intOf]; omega⟩
        · have i1 : (k : Int) < (n : Int) := by omega
          have i2 : ¬ (k : Int) < (k0 : Int) + 2 := by omega
          have HPE := Lib.hid (HSE.out k (.inr (by omega)) hk2 hk0)
          clear h1 h2 hk0 hkn hk2
          have hbl := HBL.out
          obtain ⟨a3, c3, rfl, -⟩ := HO.out.rd
          rw [HQ.out.1] at hbl
          have y0 := hbl.cell 0
          have y1 := hbl.cell 1
          have y2 := hbl.cell 2
          have y3 := hbl.cell 3
          have y4 := hbl.cell 4
          have y5 := hbl.cell 5
          have y6 := hbl.cell 6
          simp at y0 y1 y2 y3 y4 y5 y6
          have HLT := Lib.hid HBP.out.lt
          have hbpn : w.heap.size + 2 ≠ bp := by have := HSZ2.out; omega
          have HZ5 := Lib.hid (HKP.out.blk HZ4.out hbpn)
          clear hbl hbpn
          have HO2 := Lib.hid HO.out
          have HPL := Lib.hid (congrArg List.length HPE.out)
          generalize (S k).length = sn at *
          go_wp2_with (refine wpList_store_then rfl 30 _ _ rfl (w.heap.size + 2) #[.int .u64 gb1, .int .u64 gb2, .int .u64 gt1, .int .u64 gt2, .int .i64 (k0 : Int), .int .i64 (n : Int), .slice a3 sn c3] rfl rfl 30 _ HZ5.out part_size rfl (part_one _ _ _ _ _ _ _ _ _) ?_)
          refine Later.mk fun w9 hw9 => ?_
          have H9 := Lib.hid (show Below w.heap.size w w9 ∧ Blk w9 (w.heap.size + 2) 30 #[.int .u64 gb1, .int .u64 gb2, .int .u64 gt1, .int .u64 gt2, .int .i64 (k0 : Int), .int .i64 (n : Int), .slice a3 sn c3] ∧ OwC w9 w4.heap.size (.slice a3 sn c3) q.cs by
            rw [hw9, HPE.out]
            exact ⟨Below.setRow HBR.out (by omega) _, HZ5.out.row _, HO2.out.farRow (by have := HSZ2.out; have := HLT.out; omega) _⟩)
          clear hw9
          go_wp2
          refine bodyPost_ret (results_cell2 (ty := 30) (g := w.heap.size + 2) (k := 8) (m := 9) rfl rfl rfl H9.out.2.1 Try.underlying30 rfl part_size) rfl ⟨_, rfl, ⟨_, congrArg Value.agg (HQ.out.1 _).symm, H9.out.2.2.mono HB4.out.size, HQW.out⟩, H9.out.1⟩
      · have i1 : ¬ (k : Int) < (n : Int) := by omega
        have HPE := Lib.hid (HSE.out k (.inl (by omega)) hk2 hk0)
        clear h1 hk0 hkn hk2 hw2
        have hbl := HBL.out
        obtain ⟨a3, c3, rfl, -⟩ := HO.out.rd
        rw [HQ.out.1] at hbl
        have y0 := hbl.cell 0
        have y1 := hbl.cell 1
        have y2 := hbl.cell 2
        have y3 := hbl.cell 3
        have y4 := hbl.cell 4
        have y5 := hbl.cell 5
        have y6 := hbl.cell 6
        simp at y0 y1 y2 y3 y4 y5 y6
        have HLT := Lib.hid HBP.out.lt
        have hbpn : w.heap.size + 2 ≠ bp := by have := HSZ2.out; omega
        have HZ5 := Lib.hid (HKP.out.blk HZ4.out hbpn)
        clear hbl hbpn
        have HO2 := Lib.hid HO.out
        have HPL := Lib.hid (congrArg List.length HPE.out)
        generalize (S k).length = sn at *
        go_wp2_with (refine wpList_store_then rfl 30 _ _ rfl (w.heap.size + 2) #[.int .u64 gb1, .int .u64 gb2, .int .u64 gt1, .int .u64 gt2, .int .i64 (k0 : Int), .int .i64 (n : Int), .slice a3 sn c3] rfl rfl 30 _ HZ5.out part_size rfl (part_one _ _ _ _ _ _ _ _ _) ?_)
        refine Later.mk fun w9 hw9 => ?_
        have H9 := Lib.hid (show Below w.heap.size w w9 ∧ Blk w9 (w.heap.size + 2) 30 #[.int .u64 gb1, .int .u64 gb2, .int .u64 gt1, .int .u64 gt2, .int .i64 (k0 : Int), .int .i64 (n : Int), .slice a3 sn c3] ∧ OwC w9 w4.heap.size (.slice a3 sn c3) q.cs by
          rw [hw9, HPE.out]
          exact ⟨Below.setRow HBR.out (by omega) _, HZ5.out.row _, HO2.out.farRow (by have := HSZ2.out; have := HLT.out; omega) _⟩)
        clear hw9
        go_wp2
        refine bodyPost_ret (results_cell2 (ty := 30) (g := w.heap.size + 2) (k := 8) (m := 9) rfl rfl rfl H9.out.2.1 Try.underlying30 rfl part_size) rfl ⟨_, rfl, ⟨_, congrArg Value.agg (HQ.out.1 _).symm, H9.out.2.2.mono HB4.out.size, HQW.out⟩, H9.out.1⟩
end Go.Proofs.Ytpfdpodelkleiaa
