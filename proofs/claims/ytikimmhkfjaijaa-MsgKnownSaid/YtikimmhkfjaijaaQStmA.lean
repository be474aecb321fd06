/-
  CHANGES IN MEMORY: read, owned, appended; rules for single operations (printed by wip/gen-stma.py out of the chain chapter's texts).
-/
import Derived.Test.YtikimmhkfjaijaaCmp
import Derived.Test.YtikimmhkfjaijaaGuidEq
import Derived.Deep.MidRow
import Derived.Great.BuildSlice
import Derived.ChangeKeysEq
import Derived.Laws.BytesArg
import Derived.Lib.SlBuf
namespace Go.Proofs.Ytikimmhkfjaijaa
open Go.RowKit Reg Go.WideShapes Go.ChangeShapes

/-- only the blocks A have turned, of those that were there -/
def Kp (A : Nat → Prop) (w w' : World) : Prop := Below 0 w w' ∧ ∀ b, b < w.heap.size → ¬ A b → w'.heap[b]? = w.heap[b]?
section
variable {A : Nat → Prop} {w w' w'' : World} {B : Nat}
theorem Kp.refl (A : Nat → Prop) (w : World) : Kp A w w := ⟨Below.refl _ _, fun _ _ _ => rfl⟩
theorem Kp.size (h : Kp A w w') : w.heap.size ≤ w'.heap.size := h.1.size
theorem Kp.trans (h : Kp A w w') (h' : Kp A w' w'') : Kp A w w'' := ⟨h.1.trans h'.1, fun b hb hA => (h'.2 b (Nat.lt_of_lt_of_le hb h.size) hA).trans (h.2 b hb hA)⟩
theorem Kp.of_below (h : Below w.heap.size w w') : Kp A w w' := ⟨h.mono (Nat.zero_le _), fun b hb _ => h.block b hb⟩
theorem Kp.below (h : Kp A w w') (hA : ∀ b, A b → B ≤ b) (hB : B ≤ w.heap.size) : Below B w w' :=
  ⟨h.1.os, h.1.tape, h.1.output, h.size, fun b hb => h.2 b (by omega) fun ha => by have := hA b ha; omega⟩
theorem Kp.blk {g : Nat} {t : TypeId} {cs : Array Value} (h : Kp A w w') (hb : Blk w g t cs) (hA : ¬ A g) : Blk w' g t cs := (h.2 g hb.lt hA).trans hb
theorem Kp.mono {A' : Nat → Prop} (h : Kp A w w') (hA : ∀ b, A b → A' b) : Kp A' w w' := ⟨h.1, fun b hb hn => h.2 b hb fun ha => hn (hA b ha)⟩
theorem Kp.of_grown {row : Option Nat} (h : w.grownBy w' row) : Kp (fun b => row = some b) w w' :=
  ⟨⟨h.os, h.tape, h.output, h.size, fun i hi => by omega⟩, fun b hlt hn => h.block b hlt (fun e => hn e.symm)⟩
/-- where nothing that was there turns -/
theorem Kp.to_below (h : Kp A w w') (hA : ∀ b, b < w.heap.size → ¬ A b) : Below w.heap.size w w' := ⟨h.1.os, h.1.tape, h.1.output, h.size, fun b hb => h.2 b hb (hA b hb)⟩
end

/-- a result variable that is an array or a struct in a block of its own -/
theorem results_cell {P : Program} {fn : Func} {tmps : Array Value} {w : World} {k : Nat} {ty : TypeId} {g : Nat} {t : TypeId} {cs : Array Value} {d : TypeDesc} (hr : fn.results = #[.cell k ty]) (ht : tmps.getD k undef = .pointer (some ⟨g, 0, none⟩)) (hb : Blk w g t cs)
    (hu : P.underlying ty = some d) (hd : (match d with | .struct _ | .array _ _ => true | _ => false) = true) (hi : (P.info? ty).map (·.size) = some cs.size) : (results fn tmps).run P w = .ok (.agg cs) w := by
  have := run_loadVar_row (P := P) w g t ty cs (0, 0) d hb hu hd hi
  have ht2 : tmps[k]?.getD undef = .pointer (some ⟨g, 0, none⟩) := by simpa using ht
  simp [results, hr, ht2, asAddr, this]
/-- an operation whose run is known -/
theorem wpList_value_run {P : Program} {w w' : World} {ops : Array Oper} {rest : List Oper} {o : Oper} {a : Act} {Q : Exit → Act → World → Prop} (hgd : o.guard = none) (v : Value) (hrun : (execOp a.eval o).run P w = .ok (.value v) w')
    (h : wpList P ops Q rest (a.put o.dst v) w') : wpList P ops Q (o :: rest) a w := by
  refine wpList_plain hgd fun K hK => ?_
  unfold Oper.wp
  rw [hrun]
  exact hK _ _ h
theorem exec_build {P : Program} {w : World} {o : Oper} {a : Act} (t : TypeId) (parts : Array (Nat × Operand)) (ho : o.op = .build t parts) (vs : List (Nat × Value)) (hv : (parts.toList.map fun x => (x.1, a.eval x.2)) = vs) (cells : Array Value)
    (hr : (Instr.build t vs.toArray).run P w = .ok (.agg cells) w) : (execOp a.eval o).run P w = .ok (.value (.agg cells)) w := by
  have hv2 : (parts.map fun x => (x.1, a.eval x.2)) = vs.toArray := by
    apply Array.ext'
    rw [Array.toList_map]
    exact hv
  rw [← hv2] at hr
  unfold execOp
  simp only [ho, Sem.run_bind]
  rw [show (Instr.build t (parts.map fun (i, x) => (i, a.eval x))).run P w = .ok (.agg cells) w from hr]
  rfl
theorem exec_field {P : Program} {w : World} {o : Oper} {a : Act} (t : TypeId) (x : Operand) (i : Nat) (ho : o.op = .field t x i) (v u : Value) (hx : a.eval x = v)
    (hr : (Instr.field t v i).run P w = .ok u w) : (execOp a.eval o).run P w = .ok (.value u) w := by
  unfold execOp
  simp only [ho, Sem.run_bind, hx, hr]
  rfl
theorem exec_append {P : Program} {w w' : World} {o : Oper} {a : Act} (s x : Operand) (t : TypeId) (ho : o.op = .call { callee := .builtin .append, args := #[s, x], argTypes := #[t, t] }) (v u : Value) (hs : a.eval s = v) (hx : a.eval x = u) (v' : Value)
    (hr : (Builtin.append_ #[t, t] o.type #[v, u]).run P w = .ok v' w') : (execOp a.eval o).run P w = .ok (.value v') w' := by
  unfold execOp
  simp only [ho, resolve, invoke, builtin, Sem.run_bind, Sem.run_pure, Result.andThen_ok, List.map_toArray, List.map_cons, List.map_nil, hs, hx, hr]
theorem exec_load_mid {P : Program} {w : World} {o : Oper} {a : Act} (ty : TypeId) (x : Operand) (ho : o.op = .load ty x) (b of : Nat) (hx : a.eval x = .pointer (some ⟨b, of, none⟩)) (cs : List Value) (d : TypeDesc) (hc : w.rangeAt b of cs)
    (hu : P.underlying ty = some d) (hd : d.isRow = true) (hi : (P.info? ty).map (·.size) = some cs.length) : (execOp a.eval o).run P w = .ok (.value (.agg cs.toArray)) w := by
  unfold execOp
  simp only [ho, hx, Instr.loadAt, Instr.sureAddr, Sem.run_bind, Sem.run_pure, Result.andThen_ok, run_loadVar_mid w b of ty cs d hc hu hd hi]
theorem exec_buildSlice {P : Program} {w w' : World} {o : Oper} {a : Act} (t : TypeId) (len : Nat) (parts : Array (Nat × Operand)) (ho : o.op = .buildSlice t len parts) (vs : List (Nat × Value)) (hv : (parts.toList.map fun x => (x.1, a.eval x.2)) = vs) (u : Value) (hr : (Instr.buildSlice t len vs.toArray).run P w = .ok u w') : (execOp a.eval o).run P w = .ok (.value u) w' := by
  have hv2 : (parts.map fun x => (x.1, a.eval x.2)) = vs.toArray := by
    apply Array.ext'
    rw [Array.toList_map]
    exact hv
  rw [← hv2] at hr
  unfold execOp
  simp only [ho, Sem.run_bind]
  rw [show (Instr.buildSlice t len (parts.map fun (i, x) => (i, a.eval x))).run P w = .ok u w' from hr]
  rfl
def kindsS (l : List (Nat × Kd)) (k n : Nat) (s : Nat) (u : Value) : Prop := if s = k then ∃ a c, u = .slice a n c else kinds l s u
theorem kindsS_inh (l : List (Nat × Kd)) (k n : Nat) (s : Nat) : ∃ u, kindsS l k n s u := by
  unfold kindsS
  by_cases h : s = k
  · exact ⟨.slice none n 0, by rw [if_pos h]; exact ⟨none, 0, rfl⟩⟩
  · obtain ⟨u, hu⟩ := kinds_inh l s
    exact ⟨u, by rw [if_neg h]; exact hu⟩
theorem kindsS_at {l : List (Nat × Kd)} {k n : Nat} {u : Value} (h : kindsS l k n k u) : ∃ a c, u = .slice a n c := by
  unfold kindsS at h
  rwa [if_pos rfl] at h
theorem kindsS_off {l : List (Nat × Kd)} {k n s : Nat} {u : Value} (h : kindsS l k n s u) (hs : s ≠ k) : kinds l s u := by
  unfold kindsS at h
  rwa [if_neg hs] at h
/-- a change: a block, what it holds then -/
abbrev Cg := Int × ByteArray
/-- v is read as the changes cs -/
def InC (w : World) (v : Value) (cs : List Cg) : Prop :=
  ∃ a c, v = .slice a cs.length c ∧ cs.length ≤ maxLen ∧ ∀ j, j < cs.length → ∃ g off, a = some ⟨g, off, none⟩ ∧ w.cell? ⟨g, off + j * 2, none⟩ = some (.int .i64 (cs.getD j (0, ByteArray.empty)).1) ∧ w.cell? ⟨g, off + j * 2 + 1, none⟩ = some (.string (cs.getD j (0, ByteArray.empty)).2)
theorem InC.keep {w w' : World} {v : Value} {cs : List Cg} (h : InC w v cs) (hb : Below w.heap.size w w') : InC w' v cs := by
  obtain ⟨a, c, rfl, hm, hx⟩ := h
  refine ⟨a, c, rfl, hm, fun j hj => ?_⟩
  obtain ⟨g, off, rfl, h1, h2⟩ := hx j hj
  exact ⟨g, off, rfl, cell_later hb h1, cell_later hb h2⟩
theorem InC.nil_ (w : World) (a : Option Addr) (c : Nat) : InC w (.slice a 0 c) [] := ⟨a, c, rfl, Nat.zero_le _, fun j hj => by simp at hj⟩
theorem wrap_succ {k m : Nat} (h : k < m) (hm : m ≤ maxLen) : wrap64 ((k : Int) + 1) = (k : Int) + 1 := by
  unfold maxLen at hm
  exact IntWalk.wrap64_in _ (by omega)
theorem meas_succ {k m : Nat} (h : k < m) : m - (intOf (Value.int .i64 ((k : Int) + 1))).toNat < m - (intOf (Value.int .i64 (k : Int))).toNat := by
  simp [intOf]
  omega
theorem wrap_20 {k : Nat} (h : k ≤ 20) : wrap64 (k : Int) = (k : Int) := IntWalk.wrap64_in _ (by omega)
theorem str_iff (a b : ByteArray) : (a.toList == b.toList) = true ↔ a = b := by
  rw [str_eq, decide_eq_true_iff]
  exact ⟨fun h => ByteArray.ext (Array.toList_inj.1 h), fun h => by rw [h]⟩
theorem below_drewN {B : Nat} {w w1 : World} (h : Below B w w1) : ∀ m, Below B w (w1.drewN m) := fun _ => ⟨h.os, h.tape, h.output, h.size, h.block⟩
def cgL (x : Cg) : List Value := [.int .i64 x.1, .string x.2]
def cgsL (l : List Cg) : List Value := l.flatMap cgL
theorem cgsL_length (l : List Cg) : (cgsL l).length = l.length * 2 := by
  induction l with
  | nil => rfl
  | cons x l ih => simp only [cgsL, List.flatMap_cons, List.length_append, List.length_cons, cgL, List.length_nil] at ih ⊢; omega
theorem cgsL_append (l m : List Cg) : cgsL (l ++ m) = cgsL l ++ cgsL m := by simp [cgsL]
theorem cgsL_one (l : List Cg) : ∀ u ∈ cgsL l, u.oneCell' = true := by
  intro u hu
  simp only [cgsL, List.mem_flatMap] at hu
  obtain ⟨x, _, hu⟩ := hu
  simp [cgL] at hu
  rcases hu with rfl | rfl <;> rfl
theorem cgsL_at (l : List Cg) : ∀ j, j < l.length → (cgsL l)[j * 2]? = some (.int .i64 (l.getD j (0, ByteArray.empty)).1) ∧ (cgsL l)[j * 2 + 1]? = some (.string (l.getD j (0, ByteArray.empty)).2) := by
  induction l with
  | nil => intro j hj; simp at hj
  | cons x l ih =>
    intro j hj
    have e : cgsL (x :: l) = .int .i64 x.1 :: .string x.2 :: cgsL l := rfl
    rw [e]
    cases j with
    | zero => exact ⟨rfl, rfl⟩
    | succ j =>
      have h1 := ih j (by simpa using hj)
      have e1 : (j + 1) * 2 = j * 2 + 2 := by omega
      rw [e1]
      exact h1
/-- v owns the changes cs, in a row from block 'base' on -/
def OwC (w : World) (base : Nat) (v : Value) (cs : List Cg) : Prop := w.ownsRow base 76 2 v cs.length (cgsL cs) ∧ cs.length ≤ maxLen
theorem chg_info : (Try.prog.info? 76).map (fun i => (i.zero, i.size, i.bytes)) = some (some (.agg #[.int .i64 0, .string ByteArray.empty]), 2, 24) := by kernel_rfl
section
variable {w w' : World} {base : Nat} {v : Value} {cs : List Cg}
theorem OwC.nil_ (w : World) (base : Nat) : OwC w base (.slice none 0 0) [] := ⟨World.ownsRow_nil _ _ _ _, by simp⟩
theorem OwC.keep (h : OwC w base v cs) (hb : Below w.heap.size w w') : OwC w' base v cs := by
  refine ⟨⟨h.1.1, ?_⟩, h.2⟩
  rcases h.1.2 with hn | ⟨g, cap, cur, rfl, hg, hh, rest⟩
  · exact .inl hn
  · exact .inr ⟨g, cap, cur, rfl, hg, (hb.block g (lt_of_block hh)).trans hh, rest⟩
theorem OwC.mono {base' : Nat} (h : OwC w base v cs) (hb : base' ≤ base) : OwC w base' v cs := by
  refine ⟨⟨h.1.1, ?_⟩, h.2⟩
  rcases h.1.2 with hn | ⟨g, cap, cur, rfl, hg, rest⟩
  · exact .inl hn
  · exact .inr ⟨g, cap, cur, rfl, Nat.le_trans hb hg, rest⟩
theorem OwC.rd (h : OwC w base v cs) : InC w v cs := by
  have hr := Rd.of_own h.1
  rcases hr.2 with ⟨rfl, h0⟩ | ⟨g, off, c, rfl, hc, hx⟩
  · exact ⟨none, 0, by rw [h0], h.2, fun j hj => by omega⟩
  · exact ⟨_, c, rfl, h.2, fun j hj => ⟨g, off, rfl, hx _ _ (cgsL_at cs j hj).1, by rw [Nat.add_assoc]; exact hx _ _ (cgsL_at cs j hj).2⟩⟩
def AppC (w : World) (base : Nat) (v : Value) (cs : List Cg) (v' : Value) (w' : World) : Prop := OwC w' base v' cs ∧ w.grownBy w' v.ownBlock
theorem AppC.below {xs : List Cg} {v' : Value} (h : AppC w base v cs v' w') (ho : OwC w base v xs) (hb : base ≤ w.heap.size) : Below base w w' := below_grown h.2 hb (own_block ho.1)
theorem app_chg (ty : TypeId) (x : Cg) (w0 : World) (cc : Array Value) (hw : w = w0.alloc (.cells cc 76)) (hcc : cc = (cgL x).toArray) (ho : OwC w base v cs) (hn : cs.length + 1 ≤ 2 ^ 40) (hbase : base ≤ w.heap.size) :
    ∃ v' w', (Builtin.append_ #[29, 29] ty #[v, .slice (some ⟨w0.heap.size, 0, none⟩) 1 1]).run Try.prog w = .ok v' w' ∧ AppC w base v (cs ++ [x]) v' w' := by
  obtain ⟨i, hi, hz0, hz1, hz2⟩ := info_parts chg_info
  have hb : Blk w w0.heap.size 76 (cgL x).toArray := by rw [hw, hcc]; exact Blk.new _ _ _
  have e1 : cgsL [x] = cgL x := rfl
  obtain ⟨v', w', h1, h2, h3, _⟩ := app_own (P := Try.prog) w base 29 ty 76 i _ 2 24 Try.underlying29 hi hz0 hz1 hz2 rfl (by decide) ho.1 (Rd.of_blk hb (n := 1) (size := 2) rfl 1 (Nat.le_refl _)) (by rw [← e1]; exact cgsL_one _) (by unfold maxLen; omega) (by omega) hbase
  refine ⟨v', w', h1, ⟨?_, by rw [List.length_append, List.length_singleton]; unfold maxLen; omega⟩, h3⟩
  rw [cgsL_append, List.length_append, e1]
  exact h2
end
theorem exec_neq {P : Program} {w : World} {o : Oper} {a : Act} (t tr : TypeId) (x y : Operand) (ho : o.op = .binOp .neq t x y tr) (us vs : Array Value) (r : Value) (hx : a.eval x = .agg us) (hy : a.eval y = .agg vs)
    (hm : P.eqGuardType P.depth t = false) (hr : (binOp .neq t (.agg us) (.agg vs)).run P w = .ok r w) : (execOp a.eval o).run P w = .ok (.value r) w := by
  have hg := run_eqGuard_agg (P := P) w .neq t x y us vs hm
  unfold execOp
  simp [ho, hx, hy, hg, hr]
theorem app_chg2 {w : World} {base : Nat} {v u : Value} {cs : List Cg} (ty : TypeId) (x : Cg) (hu : ∃ g c, u = .slice (some ⟨g, 0, none⟩) 1 c ∧ 1 ≤ c ∧ w.rangeAt g 0 (cgL x)) (ho : OwC w base v cs) (hn : cs.length + 1 ≤ 2 ^ 40) (hbase : base ≤ w.heap.size) :
    ∃ v' w', (Builtin.append_ #[29, 29] ty #[v, u]).run Try.prog w = .ok v' w' ∧ AppC w base v (cs ++ [x]) v' w' := by
  obtain ⟨i, hi, hz0, hz1, hz2⟩ := info_parts chg_info
  obtain ⟨g, c, rfl, hc, hr⟩ := hu
  have e1 : cgsL [x] = cgL x := rfl
  have hrd : Rd w 2 (.slice (some ⟨g, 0, none⟩) 1 c) 1 (cgL x) := ⟨rfl, .inr ⟨g, 0, c, rfl, hc, hr⟩⟩
  obtain ⟨v', w', h1, h2, h3, _⟩ := app_own (P := Try.prog) w base 29 ty 76 i _ 2 24 Try.underlying29 hi hz0 hz1 hz2 rfl (by decide) ho.1 hrd (by rw [← e1]; exact cgsL_one _) (by unfold maxLen; omega) (by omega) hbase
  refine ⟨v', w', h1, ⟨?_, by rw [List.length_append, List.length_singleton]; unfold maxLen; omega⟩, h3⟩
  rw [cgsL_append, List.length_append, e1]
  exact h2
theorem run_equalIn_chg_fields : (Try.prog.fieldsOf 76).toList.map (fun f => (decide (f.name = "_"), f.type, f.offset)) = [(false, 3, 0), (false, 9, 1)] := by kernel_rfl
theorem run_neq_chg (x x' : Int) (s s' : ByteArray) (w : World) : (binOp .neq 76 (.agg #[.int .i64 x, .string s]) (.agg #[.int .i64 x', .string s'])).run Try.prog w = .ok (.bool (!(x == x' && s.toList == s'.toList))) w := by
  have key : ∀ d, (Op.equalIn (d + 2) 76 (.agg #[.int .i64 x, .string s]) (.agg #[.int .i64 x', .string s'])).run Try.prog w = .ok (x == x' && s.toList == s'.toList) w := by
    intro d
    rw [run_equalIn_struct (P := Try.prog) w (d + 1) 76 #[.int .i64 x, .string s] #[.int .i64 x', .string s'] (by kernel_rfl) (by kernel_rfl)]
    have hf := run_equalIn_chg_fields
    generalize (Try.prog.fieldsOf 76).toList = fs at hf
    obtain ⟨f0, f1, rfl⟩ : ∃ f0 f1, fs = [f0, f1] := by
      have hl := congrArg List.length hf
      rw [List.length_map] at hl
      cases fs with
      | nil => simp at hl
      | cons f0 fs => cases fs with
        | nil => simp at hl
        | cons f1 fs => cases fs with
          | nil => exact ⟨f0, f1, rfl⟩
          | cons f2 fs => simp at hl
    simp only [List.map_cons, List.map_nil, List.cons.injEq, Prod.mk.injEq, decide_eq_false_iff_not, and_true] at hf
    obtain ⟨⟨n0, t0, o0⟩, n1, t1, o1⟩ := hf
    have hk0 : Try.prog.plainKey 3 = true := by kernel_rfl
    have hk1 : Try.prog.plainKey 9 = true := by kernel_rfl
    have p0 : ∀ (a : Int) (b : ByteArray), (part 3 #[Value.int .i64 a, .string b] 0).run Try.prog w = .ok (.int .i64 a) w := fun a b => run_part_plain w hk0 rfl
    have p1 : ∀ (a : Int) (b : ByteArray), (part 9 #[Value.int .i64 a, .string b] 1).run Try.prog w = .ok (.string b) w := fun a b => run_part_plain w hk1 rfl
    have e0 := run_equalIn_int (P := Try.prog) w d 3 .i64 .i64 x x' Try.underlying3
    have e1 := run_equalIn_string (P := Try.prog) w d 9 s s' Try.underlying9
    unfold Op.eqFields
    rw [if_pos n0]
    simp only [Sem.run_bind, t0, o0, p0, Result.andThen_ok, e0]
    cases h0 : x == x' with
    | false => rfl
    | true =>
      simp only [Bool.not_true, Bool.false_eq_true, if_false, Bool.true_and]
      unfold Op.eqFields
      rw [if_pos n1]
      simp only [Sem.run_bind, t1, o1, p1, Result.andThen_ok, e1]
      cases h1 : s.toList == s'.toList with
      | false => rfl
      | true => rfl
  simp only [binOp]
  simp [Op.equal, Op.maxDepth, key 9998]
theorem run_neq_same (x : Int) (s : ByteArray) (w : World) : (binOp .neq 76 (.agg #[.int .i64 x, .string s]) (.agg #[.int .i64 x, .string s])).run Try.prog w = .ok (.bool false) w := by
  rw [run_neq_chg]
  simp
end Go.Proofs.Ytikimmhkfjaijaa
