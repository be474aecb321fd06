/-
  CHAINS: next, and the region that puts a snapshot behind the others; Snap (printed by wip/gen-chf.py).
-/
import Derived.Test.YtjeebpklinpmfaaChE
import Derived.Great.BuildSlice
namespace Go.Proofs.Ytjeebpklinpmfaa
open Go.RowKit Reg Go.WideShapes Go.ChangeShapes

theorem exec_append {P : Program} {w w' : World} {o : Oper} {a : Act} (s x : Operand) (t : TypeId) (ho : o.op = .call { callee := .builtin .append, args := #[s, x], argTypes := #[t, t] }) (v u : Value) (hs : a.eval s = v) (hx : a.eval x = u) (v' : Value)
    (hr : (Builtin.append_ #[t, t] o.type #[v, u]).run P w = .ok v' w') : (execOp a.eval o).run P w = .ok (.value v') w' := by
  unfold execOp
  simp only [ho, resolve, invoke, builtin, Sem.run_bind, Sem.run_pure, Result.andThen_ok, List.map_toArray, List.map_cons, List.map_nil, hs, hx, hr]
theorem exec_load_mid {P : Program} {w : World} {o : Oper} {a : Act} (ty : TypeId) (x : Operand) (ho : o.op = .load ty x) (b of : Nat) (hx : a.eval x = .pointer (some ⟨b, of, none⟩)) (cs : List Value) (d : TypeDesc) (hc : w.rangeAt b of cs)
    (hu : P.underlying ty = some d) (hd : d.isRow = true) (hi : (P.info? ty).map (·.size) = some cs.length) : (execOp a.eval o).run P w = .ok (.value (.agg cs.toArray)) w := by
  unfold execOp
  simp only [ho, hx, Instr.loadAt, Instr.sureAddr, Sem.run_bind, Sem.run_pure, Result.andThen_ok, run_loadVar_mid w b of ty cs d hc hu hd hi]
theorem exec_buildSlice {P : Program} {w w' : World} {o : Oper} {a : Act} (t : TypeId) (len : Nat) (parts : Array (Nat × Operand)) (ho : o.op = .buildSlice t len parts) (vs : List (Nat × Value)) (hv : (parts.toList.map fun x => (x.1, a.eval x.2)) = vs) (u : Value) (hr : (Instr.buildSlice t len vs.toArray).run P w = .ok u w') : (execOp a.eval o).run P w = .ok (.value u) w' := by
  have hv2 : (parts.map fun x => (x.1, a.eval x.2)) = vs.toArray := by
    apply Array.ext'
    rw [Array.toList_map]
    exact hv
  rw [← hv2] at hr
  unfold execOp
  simp only [ho, Sem.run_bind]
  rw [show (Instr.buildSlice t len (parts.map fun (i, x) => (i, a.eval x))).run P w = .ok u w' from hr]
  rfl
def kindsS (l : List (Nat × Kd)) (k n : Nat) (s : Nat) (u : Value) : Prop := if s = k then ∃ a c, u = .slice a n c else kinds l s u
theorem kindsS_inh (l : List (Nat × Kd)) (k n : Nat) (s : Nat) : ∃ u, kindsS l k n s u := by
  unfold kindsS
  by_cases h : s = k
  · exact ⟨.slice none n 0, by rw [if_pos h]; exact ⟨none, 0, rfl⟩⟩
  · obtain ⟨u, hu⟩ := kinds_inh l s
    exact ⟨u, by rw [if_neg h]; exact hu⟩
theorem kindsS_at {l : List (Nat × Kd)} {k n : Nat} {u : Value} (h : kindsS l k n k u) : ∃ a c, u = .slice a n c := by
  unfold kindsS at h
  rwa [if_pos rfl] at h
theorem kindsS_off {l : List (Nat × Kd)} {k n s : Nat} {u : Value} (h : kindsS l k n s u) (hs : s ≠ k) : kinds l s u := by
  unfold kindsS at h
  rwa [if_neg hs] at h
theorem snap_slice (w : World) {s : Sn} (hs : wfS s) : (Instr.buildSlice 70 1 #[(0, .agg (snL s).toArray)]).run Try.prog w = .ok (.slice (some ⟨w.heap.size, 0, none⟩) 1 1) (w.alloc (.cells (snL s).toArray 74)) := by
  obtain ⟨i, hi, hz0, hz1, hz2⟩ := info_parts snap_info
  obtain ⟨⟨hl, -⟩, -⟩ := hs
  obtain ⟨v, ⟨a, b⟩, h⟩ := s
  match v, hl with
  | [s0, s1, s2, s3, s4, s5, s6, s7], _ => exact run_buildSlice w _ _ 1 _ _ i _ Try.underlying70 hi hz0 (by rw [hz1]; decide) (by rw [hz1]; decide) (by rw [hz1]; kernel_rfl)
def Ch.put (C : Ch) (s : Sn) : Ch := { C with snaps := C.snaps ++ [s] }
/-- while a snapshot is put behind the others: the list is loaded (i4), a slice of one laid (i11), appended (i12), stored (i15) -/
structure SC (w0 : World) (bc : Nat) (sl : Value) (C : Ch) (s : Sn) (i4 i11 i12 i15 : Nat) (σ : Nat → Option Value) (w : World) : Prop where
  d12 : ∀ u, σ i12 = some u → σ i4 = some sl ∧ (σ i11).isSome = true
  d15 : σ i12 = none → σ i15 = none
  pre : σ i12 = none → Below w0.heap.size w0 w
  lit : ∀ u, σ i11 = some u → σ i12 = none → ∃ g c, u = .slice (some ⟨g, 0, none⟩) 1 c ∧ w.rangeAt g 0 (snL s)
  mid : ∀ u, σ i12 = some u → σ i15 = none → OwS w u (C.snaps ++ [s]) ∧ Kp (fun b => sl.ownBlock = some b) w0 w ∧ Fr w0 sl u
  fin : ∀ u, σ i12 = some u → σ i15 ≠ none → Cm w bc u (C.put s) ∧ Kp (fpC bc sl) w0 w ∧ Fr w0 sl u
  h0 : Cm w0 bc sl C
def Dist4 (a b c d : Nat) : Prop := a ≠ b ∧ a ≠ c ∧ a ≠ d ∧ b ≠ c ∧ b ≠ d ∧ c ≠ d
instance (a b c d : Nat) : Decidable (Dist4 a b c d) := by unfold Dist4; infer_instance
section
variable {w0 w : World} {bc : Nat} {sl : Value} {C : Ch} {s : Sn} {i4 i11 i12 i15 : Nat} {σ : Nat → Option Value} {p : Value → Prop}
theorem SC.start (h0 : Cm w0 bc sl C) : SC w0 bc sl C s i4 i11 i12 i15 (fun _ => none) w0.drew :=
  ⟨(fun _ h => by cases h), fun _ => rfl, fun _ => (Below.refl _ _).drew, (fun _ h => by cases h), (fun _ h => by cases h), (fun _ h => by cases h), h0⟩
theorem SC.kp (h : SC w0 bc sl C s i4 i11 i12 i15 σ w) : Kp (fpC bc sl) w0 w := by
  cases e : σ i12 with
  | none => exact Kp.of_below (h.pre e)
  | some u =>
    cases e2 : σ i15 with
    | none => exact (h.mid u e e2).2.1.mono fun b hb => .inr hb
    | some x => exact (h.fin u e (by rw [e2]; simp)).2.1
theorem SC.blk (h : SC w0 bc sl C s i4 i11 i12 i15 σ w) {b : Nat} {t : TypeId} {cs : Array Value} (hb : Blk w0 b t cs) (h1 : b ≠ bc) (h2 : sl.ownBlock ≠ some b) : Blk w b t cs := h.kp.blk hb (fun h => h.elim h1 h2)
theorem SC.rng (h : SC w0 bc sl C s i4 i11 i12 i15 σ w) : w.rangeAt bc 0 (voL C.live) := by
  cases e : σ i12 with
  | none => exact (h.h0.keep (h.pre e)).rng
  | some u =>
    cases e2 : σ i15 with
    | none =>
      have hb := (h.mid u e e2).2.1.blk h.h0.obj (fun hb => h.h0.ne_own hb rfl)
      intro j x hx
      have := h.h0.rng j x hx
      rw [h.h0.obj.cell] at this
      rw [hb.cell]
      exact this
    | some x => exact (h.fin u e (by rw [e2]; simp)).1.rng
theorem SC.no12 (h : SC w0 bc sl C s i4 i11 i12 i15 σ w) (h4 : σ i4 = none) : σ i12 = none := by
  cases e : σ i12 with
  | none => rfl
  | some u => have := (h.d12 u e).1; rw [h4] at this; cases this
theorem SC.no12' (h : SC w0 bc sl C s i4 i11 i12 i15 σ w) (h4 : σ i11 = none) : σ i12 = none := by
  cases e : σ i12 with
  | none => rfl
  | some u => have := (h.d12 u e).2; rw [h4] at this; cases this
theorem SC.at4 (h : SC w0 bc sl C s i4 i11 i12 i15 σ w) (h4 : σ i4 = none) : w.cell? ⟨bc, 9, none⟩ = some sl := (h.h0.keep (h.pre (h.no12 h4))).c9
theorem SC.at15 (h : SC w0 bc sl C s i4 i11 i12 i15 σ w) (h15 : σ i15 = none) : w.cell? ⟨bc, 9, none⟩ = some sl ∧ w.frozen? ⟨bc, 9, none⟩ = false := by
  have hb : Blk w bc 72 (chL C sl).toArray := by
    cases e : σ i12 with
    | none => exact (h.h0.keep (h.pre e)).obj
    | some u => exact (h.mid u e h15).2.1.blk h.h0.obj (fun hb => h.h0.ne_own hb rfl)
  refine ⟨?_, hb.frozen 9⟩
  have := h.h0.c9
  rw [h.h0.obj.cell] at this
  rw [hb.cell]
  exact this
theorem SC.load_ok (h : SC w0 bc sl C s i4 i11 i12 i15 σ w) (hd : Dist4 i4 i11 i12 i15) (hp : p sl) : SpecialOK Try.prog p (fun u => SC w0 bc sl C s i4 i11 i12 i15 (upd σ i4 u)) (.ok (.value sl) w) := by
  obtain ⟨d1, d2, d3, d4, d5, d6⟩ := hd
  have e11 : upd σ i4 sl i11 = σ i11 := upd_other _ _ (Ne.symm d1)
  have e12 : upd σ i4 sl i12 = σ i12 := upd_other _ _ (Ne.symm d2)
  have e15 : upd σ i4 sl i15 = σ i15 := upd_other _ _ (Ne.symm d3)
  refine ⟨hp, ?_, ?_, ?_, ?_, ?_, ?_, h.h0⟩
  all_goals simp only [e11, e12, e15, upd_same]
  · exact fun u hu => ⟨trivial, (h.d12 u hu).2⟩
  · exact h.d15
  · exact h.pre
  · exact h.lit
  · exact h.mid
  · exact h.fin
theorem SC.lit_ok (h : SC w0 bc sl C s i4 i11 i12 i15 σ w) (hd : Dist4 i4 i11 i12 i15) (h11 : σ i11 = none) (_hs : wfS s) (hp : ∀ b, p (.slice (some ⟨b, 0, none⟩) 1 1)) :
    SpecialOK Try.prog p (fun u => SC w0 bc sl C s i4 i11 i12 i15 (upd σ i11 u)) (.ok (.value (.slice (some ⟨w.heap.size, 0, none⟩) 1 1)) (w.alloc (.cells (snL s).toArray 74))) := by
  obtain ⟨d1, d2, d3, d4, d5, d6⟩ := hd
  have h12 := h.no12' h11
  have hb : Below w.heap.size w (w.alloc (.cells (snL s).toArray 74)) := (Below.refl _ _).alloc (Nat.le_refl _) _
  have hbk := Blk.new w 74 (snL s).toArray
  refine ⟨hp _, ?_, ?_, ?_, ?_, ?_, ?_, h.h0⟩
  all_goals simp only [upd_other _ _ d1, upd_other _ _ (Ne.symm d4), upd_other _ _ (Ne.symm d5), upd_same, h12]
  · exact fun u hu => by cases hu
  · exact fun _ => h.d15 h12
  · exact fun _ => (h.pre h12).trans (hb.mono (h.pre h12).size)
  · intro u hu _
    obtain rfl := Option.some.inj hu
    refine ⟨_, _, rfl, fun j u hu => ?_⟩
    rw [hbk.cell, Nat.zero_add]
    simpa using hu
  · exact fun u hu => by cases hu
  · exact fun u hu => by cases hu
theorem SC.app_ok (h : SC w0 bc sl C s i4 i11 i12 i15 σ w) (hd : Dist4 i4 i11 i12 i15) (h12 : σ i12 = none) (h4 : σ i4 = some sl) {u : Value} (h11 : σ i11 = some u) (hs : wfS s) (hn : C.snaps.length < 20) (ty : TypeId) (hp : ∀ a c, p (.slice a (C.snaps.length + 1) c)) :
    ∃ v' w', (Builtin.append_ #[70, 70] ty #[sl, u]).run Try.prog w = .ok v' w' ∧ SpecialOK Try.prog p (fun u => SC w0 bc sl C s i4 i11 i12 i15 (upd σ i12 u)) (.ok (.value v') w') := by
  obtain ⟨d1, d2, d3, d4, d5, d6⟩ := hd
  have hcm := h.h0.keep (h.pre h12)
  have h15 := h.d15 h12
  obtain ⟨v', w', hr, ho, hg, hf⟩ := app_snap ty hcm.snaps (h.lit u h11 h12) hs hn
  refine ⟨v', w', hr, ?_, ?_, ?_, ?_, ?_, ?_, ?_, h.h0⟩
  · obtain ⟨a, c, rfl, -⟩ := ho.open_
    have := hp a c
    rwa [List.length_append]
  all_goals simp only [upd_other _ _ d2, upd_other _ _ d4, upd_other _ _ (Ne.symm d6), upd_same]
  · exact fun _ _ => ⟨h4, by rw [h11]; rfl⟩
  · exact fun e => by cases e
  · exact fun e => by cases e
  · exact fun _ _ e => by cases e
  · intro x hx _
    obtain rfl := Option.some.inj hx
    refine ⟨ho, (Kp.of_below (h.pre h12)).trans (Kp.of_grown hg), fun b hb => ?_⟩
    rcases hf b hb with h1 | h1
    · exact .inl h1
    · exact .inr (Nat.le_trans (h.pre h12).size h1)
  · exact fun _ _ e => absurd h15 e
theorem chL_put (C : Ch) (sl u : Value) (hv : wfV C.live) (s : Sn) : (chL C sl).toArray.setIfInBounds 9 u = (chL (C.put s) u).toArray := by
  have hl := voL_length hv
  simp only [chL, List.setIfInBounds_toArray]
  rw [List.set_append_right _ _ (by omega), hl]
  rfl
theorem SC.store_ok (h : SC w0 bc sl C s i4 i11 i12 i15 σ w) (hd : Dist4 i4 i11 i12 i15) (h15 : σ i15 = none) {u : Value} (h12 : σ i12 = some u) (hp : p undef) :
    SpecialOK Try.prog p (fun u => SC w0 bc sl C s i4 i11 i12 i15 (upd σ i15 u)) (.ok .skip (w.setCell ⟨bc, 9, none⟩ u)) := by
  obtain ⟨d1, d2, d3, d4, d5, d6⟩ := hd
  obtain ⟨ho, hk, hf⟩ := h.mid u h12 h15
  have hb := hk.blk h.h0.obj (fun hb => h.h0.ne_own hb rfl)
  have hset := hb.set 9 u
  rw [chL_put C sl u h.h0.live s] at hset
  have hkc : Kp (· = bc) w (w.setCell ⟨bc, 9, none⟩ u) := ⟨(Below.refl 0 w).setCell (Nat.zero_le _) _, fun b _ hn => Below.heap_setCell w _ _ b hn⟩
  have hub : ∀ b, u.ownBlock = some b → b ≠ bc := by
    rintro b hb1 rfl
    obtain ⟨cs, h1⟩ := ho.blk hb1
    unfold Blk at h1 hb
    rw [h1] at hb
    simp only [Option.some.injEq, Obj.cells.injEq] at hb
    exact absurd hb.2.1 (by decide)
  refine ⟨hp, ?_, ?_, ?_, ?_, ?_, ?_, h.h0⟩
  all_goals simp only [upd_other _ _ d3, upd_other _ _ d5, upd_other _ _ d6, upd_same, h12]
  · exact fun x hx => h.d12 x (h12.trans hx)
  · exact fun e => by cases e
  · exact fun e => by cases e
  · exact fun _ _ e => by cases e
  · exact fun _ _ e => by cases e
  · intro x hx _
    obtain rfl := Option.some.inj hx
    refine ⟨⟨hset, ho.kp hkc hub, h.h0.n, h.h0.live⟩, (hk.mono fun b hb => (.inr hb : fpC bc sl b)).trans (hkc.mono fun b hb => .inl hb), hf⟩
end
def kinds5 (r0 r1 z : Int) (s : Nat) (u : Value) : Prop := kinds [(4, .is (.int .i64 r0)), (9, .is (.int .i64 r1)), (10, .sl 2), (11, .is (.int .i64 z))] s u
def F5 (r0 r1 : Int) (s : Nat) (w : World) (u : Value) : Prop := s = 10 → ∃ g, u = .slice (some ⟨g, 0, none⟩) 2 2 ∧ Blk w g 3 #[.int .i64 r0, .int .i64 r1]
theorem F5.stable {r0 r1 : Int} : Stable (F5 r0 r1) := fun _ _ _ _ h hb e => by
  obtain ⟨g, h1, h2⟩ := h e
  exact ⟨g, h1, h2.keep hb⟩
def Ch.next (C : Ch) (g : Gd) : Int := if upG C.last.g g = true then (if 20 ≤ C.snaps.length then 3 else 0) else 2
theorem snap_field1 (w : World) {s : Sn} (hs : wfS s) : (Instr.field 74 (.agg (snL s).toArray) 1).run Try.prog w = .ok (.agg #[.int .u64 s.g.1, .int .u64 s.g.2]) w := by
  obtain ⟨i, hi, -, hz1, -⟩ := info_parts guid_info
  obtain ⟨⟨hl, -⟩, -⟩ := hs
  obtain ⟨v, ⟨a, b⟩, h⟩ := s
  match v, hl with
  | [s0, s1, s2, s3, s4, s5, s6, s7], _ => simp [Instr.field, snL, voL, asAgg, part, run_underlying, sizeOf, typeInfo, hi, hz1]
theorem snap_field0 (w : World) {s : Sn} (hs : wfS s) : (Instr.field 74 (.agg (snL s).toArray) 0).run Try.prog w = .ok (.agg (voL s.vol).toArray) w := by
  obtain ⟨i, hi, hz⟩ : ∃ i, Try.prog.info? 68 = some i ∧ i.size = 8 := by
    have h := vol_size
    cases h2 : Try.prog.info? 68 with
    | none => rw [h2] at h; cases h
    | some i => rw [h2] at h; exact ⟨i, rfl, by simpa using h⟩
  obtain ⟨⟨hl, -⟩, -⟩ := hs
  obtain ⟨v, ⟨a, b⟩, h⟩ := s
  match v, hl with
  | [s0, s1, s2, s3, s4, s5, s6, s7], _ => simp [Instr.field, snL, voL, asAgg, part, run_underlying, sizeOf, typeInfo, hi, hz]
theorem next_nil (g : Gd) (w : World) : Calls Try.prog 30 #[.pointer none, aggG g] w fun e w' => e = .returned (.int .i64 1) ∧ Below w.heap.size w w' := by
  have HB := Lib.hid (fun o => (Below.refl w.heap.size w).alloc (Nat.le_refl _) o)
  unfold aggG
  go_enter Try.func30, Try.ntmps30
  go_wp2_with fail
  refine (none_nil _).mono ?_
  rintro e w1 ⟨rfl, rfl⟩
  go_wp2
  go_ret
  exact ⟨rfl, HB.out _⟩
section
variable {w : World} {bc : Nat} {sl : Value} {C : Ch}
set_option maxRecDepth 100000 in
theorem next_any (h : Cm w bc sl C) (g : Gd) : Calls Try.prog 30 #[.pointer (some ⟨bc, 0, none⟩), aggG g] w fun e w' => e = .returned (.int .i64 (C.next g)) ∧ Below w.heap.size w w' := by
  have hb0 := (Below.refl w.heap.size w).alloc (Nat.le_refl _) (Obj.cells #[.int .u64 g.1, .int .u64 g.2] 33)
  have h1 := h.keep hb0
  have HB0 := Lib.hid hb0
  have HBX := Lib.hid (Blk.new w 33 #[.int .u64 g.1, .int .u64 g.2])
  have HNO := Lib.hid (none_no h1)
  have HLA := Lib.hid (last_any h1)
  have HC1 := Lib.hid h1
  have hlw := last_wf h
  have HFI := Lib.hid (fun w => snap_field1 w hlw)
  have hxs := h.snaps.2.1
  have hup := or2_le C.last.g g
  obtain ⟨res, hres⟩ : ∃ z, z = C.next g := ⟨_, rfl⟩
  rw [← hres]
  unfold Ch.next at hres
  obtain ⟨a, c, rfl, hc, hm, -⟩ := h.snaps.open_
  unfold aggG
  obtain ⟨ge, gc⟩ := g
  clear h h1 hb0 hlw hc hm
  generalize hlg : C.last.g = lg at *
  obtain ⟨le, lc⟩ := lg
  obtain ⟨r0, hr0⟩ : ∃ z, z = cmp3 ge le := ⟨_, rfl⟩
  obtain ⟨r1, hr1⟩ : ∃ z, z = cmp3 gc lc := ⟨_, rfl⟩
  obtain ⟨oz, hoz⟩ : ∃ z, z = or2 r0 r1 := ⟨_, rfl⟩
  dsimp only at hup HBX HB0 HNO HLA HC1 HFI
  rw [← hr0, ← hr1, ← hoz] at hup
  have HR := Lib.hid (And.intro hr0 (And.intro hr1 hoz))
  have HUP := Lib.hid hup
  have HRES := Lib.hid hres
  clear hr0 hr1 hoz hup hres hlg
  generalize hL : C.snaps.length = L at *
  clear hL
  go_enter Try.func30, Try.ntmps30
  go_wp2_with fail
  generalize w.alloc (Obj.cells #[.int .u64 ge, .int .u64 gc] 33) = w1 at *
  refine HNO.out.mono ?_
  rintro e w2 ⟨rfl, rfl⟩
  go_wp2_with fail
  refine HLA.out.mono ?_
  rintro e w2 ⟨rfl, hb⟩
  have hbb := hb.alloc hb.size (Obj.cells #[.int .u64 le, .int .u64 lc] 33)
  have HB2 := Lib.hid (HB0.out.trans (hbb.mono HB0.out.size))
  have HC3 := Lib.hid (HC1.out.keep hbb)
  have HBX2 := Lib.hid (HBX.out.keep hbb)
  have HBY := Lib.hid (Blk.new w2 33 #[.int .u64 le, .int .u64 lc])
  clear hb hbb
  go_wp2_with (refine wpList_value_run rfl _ (exec_field 74 (.tmp 9) 1 rfl (.agg (snL C.last).toArray) _ rfl (HFI.out _)) ?_)
  generalize w2.alloc (Obj.cells #[.int .u64 le, .int .u64 lc] 33) = w3 at *
  refine wp_region_spec (fun i => i == 4 || i == 9 || i == 10 || i == 11) (kinds5 r0 r1 oz) (CF w3 (F5 r0 r1)) (by kernel_rfl) (by kernel_rfl) (kinds_inh _) CF.start ?_
  intro ν hν
  have n4 : ν 4 = .int .i64 r0 := hν 4
  have n9 : ν 9 = .int .i64 r1 := hν 9
  obtain ⟨g10, n10⟩ : ∃ g, ν 10 = .slice (some ⟨g, 0, none⟩) 2 2 := hν 10
  have n11 : ν 11 = .int .i64 oz := hν 11
  clear hν
  refine lex_plain (by rfl) rfl ?_
  apply Exists.intro
  refine ⟨fun σ w2 hA hD hC => ?_, ?_⟩
  · clear hA hD hC
    go_simp
    exact And.intro rfl rfl
  simp only [Act.put, List.setIfInBounds_toArray, List.set_cons_succ, List.set_cons_zero, Nat.reduceAdd]
  refine lex_plain (by rfl) rfl ?_
  apply Exists.intro
  refine ⟨fun σ w2 hA hD hC => ?_, ?_⟩
  · have hx := ((HBX2.out.keep hC.1).cell 0)
    simp at hx
    clear hA hD hC
    go_simp
    exact And.intro rfl rfl
  simp only [Act.put, List.setIfInBounds_toArray, List.set_cons_succ, List.set_cons_zero, Nat.reduceAdd]
  refine lex_plain (by rfl) rfl ?_
  apply Exists.intro
  refine ⟨fun σ w2 hA hD hC => ?_, ?_⟩
  · clear hA hD hC
    go_simp
    exact And.intro rfl rfl
  simp only [Act.put, List.setIfInBounds_toArray, List.set_cons_succ, List.set_cons_zero, Nat.reduceAdd]
  refine lex_plain (by rfl) rfl ?_
  apply Exists.intro
  refine ⟨fun σ w2 hA hD hC => ?_, ?_⟩
  · have hx := ((HBY.out.keep hC.1).cell 0)
    simp at hx
    clear hA hD hC
    go_simp
    exact And.intro rfl rfl
  simp only [Act.put, List.setIfInBounds_toArray, List.set_cons_succ, List.set_cons_zero, Nat.reduceAdd]
  refine lex_special (by rfl) rfl (fun σ w2 hA hD hn hC => ?_) ?_
  · go_simp
    refine call_ok F5.stable hC ((cmp_any _ _ _).mono ?_)
    rintro e' w' ⟨rfl, rfl⟩
    exact ⟨_, rfl, (show Value.int .i64 _ = .int .i64 _ from by rw [HR.out.1]), (fun e => by cases e), Below.refl _ _⟩
  rw [n4]
  simp only [Act.put, List.setIfInBounds_toArray, List.set_cons_succ, List.set_cons_zero, Nat.reduceAdd]
  refine lex_plain (by rfl) rfl ?_
  apply Exists.intro
  refine ⟨fun σ w2 hA hD hC => ?_, ?_⟩
  · clear hA hD hC
    go_simp
    exact And.intro rfl rfl
  simp only [Act.put, List.setIfInBounds_toArray, List.set_cons_succ, List.set_cons_zero, Nat.reduceAdd]
  refine lex_plain (by rfl) rfl ?_
  apply Exists.intro
  refine ⟨fun σ w2 hA hD hC => ?_, ?_⟩
  · have hx := ((HBX2.out.keep hC.1).cell 1)
    simp at hx
    clear hA hD hC
    go_simp
    exact And.intro rfl rfl
  simp only [Act.put, List.setIfInBounds_toArray, List.set_cons_succ, List.set_cons_zero, Nat.reduceAdd]
  refine lex_plain (by rfl) rfl ?_
  apply Exists.intro
  refine ⟨fun σ w2 hA hD hC => ?_, ?_⟩
  · clear hA hD hC
    go_simp
    exact And.intro rfl rfl
  simp only [Act.put, List.setIfInBounds_toArray, List.set_cons_succ, List.set_cons_zero, Nat.reduceAdd]
  refine lex_plain (by rfl) rfl ?_
  apply Exists.intro
  refine ⟨fun σ w2 hA hD hC => ?_, ?_⟩
  · have hx := ((HBY.out.keep hC.1).cell 1)
    simp at hx
    clear hA hD hC
    go_simp
    exact And.intro rfl rfl
  simp only [Act.put, List.setIfInBounds_toArray, List.set_cons_succ, List.set_cons_zero, Nat.reduceAdd]
  refine lex_special (by rfl) rfl (fun σ w2 hA hD hn hC => ?_) ?_
  · go_simp
    refine call_ok F5.stable hC ((cmp_any _ _ _).mono ?_)
    rintro e' w' ⟨rfl, rfl⟩
    exact ⟨_, rfl, (show Value.int .i64 _ = .int .i64 _ from by rw [HR.out.2.1]), (fun e => by cases e), Below.refl _ _⟩
  rw [n9]
  simp only [Act.put, List.setIfInBounds_toArray, List.set_cons_succ, List.set_cons_zero, Nat.reduceAdd]
  refine lex_special (by rfl) rfl (fun σ w2 hA hD hn hC => ?_) ?_
  · have e4 := got1 hA hD 4 rfl (by kernel_rfl)
    go_simp
    refine value_ok F5.stable hC ((Below.refl _ _).alloc (Nat.le_refl _) _) ⟨_, rfl⟩ (fun _ => ⟨_, rfl, Blk.new _ _ _⟩)
  rw [n10]
  simp only [Act.put, List.setIfInBounds_toArray, List.set_cons_succ, List.set_cons_zero, Nat.reduceAdd]
  refine lex_special (by rfl) rfl (fun σ w2 hA hD hn hC => ?_) ?_
  · have e10 := got1 hA hD 10 rfl (by kernel_rfl)
    obtain ⟨g', e1, hb⟩ := hC.2 10 _ e10 rfl
    rw [n10] at e1
    simp only [Value.slice.injEq, Option.some.injEq, Addr.mk.injEq, and_true] at e1
    subst e1
    go_simp
    refine call_ok F5.stable hC ((or_any r0 r1 _ 2 w2 (hb.cell 0) (hb.cell 1)).mono ?_)
    rintro e' w' ⟨rfl, rfl⟩
    exact ⟨_, rfl, (show Value.int .i64 _ = .int .i64 _ from by rw [HR.out.2.2]), (fun e => by cases e), Below.refl _ _⟩
  rw [n11]
  simp only [Act.put, List.setIfInBounds_toArray, List.set_cons_succ, List.set_cons_zero, Nat.reduceAdd]
  refine lex_plain (by rfl) rfl ?_
  apply Exists.intro
  refine ⟨fun σ w2 hA hD hC => ?_, ?_⟩
  · clear hA hD hC
    go_simp
    exact And.intro rfl rfl
  simp only [Act.put, List.setIfInBounds_toArray, List.set_cons_succ, List.set_cons_zero, Nat.reduceAdd]
  refine lex_nil (fun σ w9 hA hall hC => ?_)
  have HB9 := Lib.hid (HB2.out.trans (hC.1.mono HB2.out.size))
  have hc9 := (HC3.out.keep hC.1).c9
  clear hA hall hC n4 n9 n10 n11
  have hup := HUP.out
  have hres := HRES.out
  cases hz : upG (le, lc) (ge, gc) with
  | false =>
    rw [hz] at hres
    rw [hup, hz, Bool.not_false]
    have HRR := Lib.hid (show res = 2 from hres)
    clear hup hres hz hc9
    go_wp2
    go_ret
    exact ⟨by rw [HRR.out]; rfl, HB9.out⟩
  | true =>
    rw [hz] at hres
    rw [hup, hz, Bool.not_true]
    by_cases h20 : 20 ≤ L
    · have HRR := Lib.hid (show res = 3 by rw [hres, if_pos rfl, if_pos h20])
      have i1 : (20 : Int) ≤ (L : Int) := by omega
      clear hup hres hz h20
      go_wp2
      go_ret
      exact ⟨by rw [HRR.out]; rfl, HB9.out⟩
    · have HRR := Lib.hid (show res = 0 by rw [hres, if_pos rfl, if_neg h20])
      have i1 : ¬ ((20 : Int) ≤ (L : Int)) := by omega
      clear hup hres hz h20
      go_wp2
      go_ret
      exact ⟨by rw [HRR.out]; rfl, HB9.out⟩
def Ch.snap (C : Ch) (g : Gd) : Ch := if C.next g = 0 then C.put ⟨C.live, g, false⟩ else C
def StT (w : World) (bc : Nat) (sl : Value) (r : Int) (C' : Ch) (e : Ending) (w' : World) : Prop := e = .returned (.int .i64 r) ∧ ∃ sl', Cm w' bc sl' C' ∧ Kp (fpC bc sl) w w' ∧ Fr w sl sl'
theorem next_zero {g : Gd} (h : C.next g = 0) : C.snaps.length < 20 := by
  unfold Ch.next at h
  split at h
  · split at h
    · cases h
    · omega
  · cases h
set_option maxRecDepth 100000 in
theorem snap_any (h : Cm w bc sl C) (g : Gd) (hg : wfG g) : Calls Try.prog 11 #[.pointer (some ⟨bc, 0, none⟩), aggG g] w (StT w bc sl (C.next g) (C.snap g)) := by
  have hb0 := (Below.refl w.heap.size w).alloc (Nat.le_refl _) (Obj.cells #[.int .u64 g.1, .int .u64 g.2] 33)
  have h1 := h.keep hb0
  have HB0 := Lib.hid hb0
  have hbx := Blk.new w 33 #[.int .u64 g.1, .int .u64 g.2]
  have HBX := Lib.hid hbx
  have hnx := next_any h1 g
  have HC1 := Lib.hid h1
  have HS := Lib.hid (show C.snap g = if C.next g = 0 then C.put ⟨C.live, g, false⟩ else C from rfl)
  have HSW := Lib.hid (show wfS ⟨C.live, g, false⟩ from ⟨h.live, hg⟩)
  have hlt := @next_zero C g
  have HNB := Lib.hid (And.intro (show w.heap.size ≠ bc from fun e => by have := h.obj.lt; omega) (show sl.ownBlock ≠ some w.heap.size from fun e => by have := h.snaps.lt e; omega))
  have HLV := Lib.hid h.live
  obtain ⟨s, hs⟩ : ∃ s : Sn, s = ⟨C.live, g, false⟩ := ⟨_, rfl⟩
  rw [← hs] at HS HSW
  have HSE := Lib.hid hs
  obtain ⟨nS, hnS⟩ : ∃ n, n = C.snaps.length := ⟨_, rfl⟩
  have HNS := Lib.hid hnS
  generalize hnz : C.next g = nx at *
  have HLT := Lib.hid hlt
  unfold aggG at hnx ⊢
  obtain ⟨ge, gc⟩ := g
  dsimp only at *
  have HNX := Lib.hid hnx
  clear h h1 hb0 hnx hs hnS hlt hbx hnz
  go_enter Try.func11, Try.ntmps11
  have hbx := HBX.out
  have x0 := hbx.cell 0
  have x1 := hbx.cell 1
  simp at x0 x1
  clear hbx
  go_wp2_with fail
  generalize w.alloc (Obj.cells #[.int .u64 ge, .int .u64 gc] 33) = w1 at *
  refine HNX.out.mono ?_
  rintro e w2 ⟨rfl, hb⟩
  have HB2 := Lib.hid (HB0.out.trans (hb.mono HB0.out.size))
  have HCW := Lib.hid (HC1.out.keep hb)
  have HBX2 := Lib.hid (HBX.out.keep hb)
  clear hb x0 x1
  by_cases hz : nx = 0
  · have HLT2 := Lib.hid (HLT.out hz)
    subst hz
    clear HLT
    have HLT := HLT2
    go_wp2_with fail
    refine wp_region_spec (fun i => i == 4 || i == 11 || i == 12 || i == 15) (kindsS [(4, .is sl), (11, .sl 1), (15, .is undef)] 12 (nS + 1)) (SC w2 bc sl C s 4 11 12 15) (by kernel_rfl) (by kernel_rfl) (kindsS_inh _ _ _) (SC.start HCW.out) ?_
    intro ν hν
    have n4 : ν 4 = sl := kindsS_off (hν 4) (by decide)
    obtain ⟨g11, n11⟩ : ∃ g, ν 11 = .slice (some ⟨g, 0, none⟩) 1 1 := kindsS_off (hν 11) (by decide)
    obtain ⟨a12, c12, n12⟩ : ∃ a c, ν 12 = .slice a (nS + 1) c := kindsS_at (hν 12)
    have n15 : ν 15 = undef := kindsS_off (hν 15) (by decide)
    clear hν
    refine lex_plain (by rfl) rfl ?_
    apply Exists.intro
    refine ⟨fun σ w2 hA hD hC => ?_, ?_⟩
    · clear hA hD hC
      go_simp
      exact And.intro rfl rfl
    simp only [Act.put, List.setIfInBounds_toArray, List.set_cons_succ, List.set_cons_zero, Nat.reduceAdd]
    refine lex_plain (by rfl) rfl ?_
    apply Exists.intro
    refine ⟨fun σ w2 hA hD hC => ?_, ?_⟩
    · clear hA hD hC
      go_simp
      exact And.intro rfl rfl
    simp only [Act.put, List.setIfInBounds_toArray, List.set_cons_succ, List.set_cons_zero, Nat.reduceAdd]
    refine lex_plain (by rfl) rfl ?_
    apply Exists.intro
    refine ⟨fun σ w2 hA hD hC => ?_, ?_⟩
    · clear hA hD hC
      go_simp
      exact And.intro rfl rfl
    simp only [Act.put, List.setIfInBounds_toArray, List.set_cons_succ, List.set_cons_zero, Nat.reduceAdd]
    refine lex_plain (by rfl) rfl ?_
    apply Exists.intro
    refine ⟨fun σ w2 hA hD hC => ?_, ?_⟩
    · clear hA hD hC
      go_simp
      exact And.intro rfl rfl
    simp only [Act.put, List.setIfInBounds_toArray, List.set_cons_succ, List.set_cons_zero, Nat.reduceAdd]
    refine lex_special (by rfl) rfl (fun σ w2 hA hD hn hC => ?_) ?_
    · have hc9 := hC.at4 hn
      go_simp
      exact hC.load_ok (by decide) (by unfold kindsS; rw [if_neg (by decide)]; exact rfl)
    rw [n4]
    simp only [Act.put, List.setIfInBounds_toArray, List.set_cons_succ, List.set_cons_zero, Nat.reduceAdd]
    refine lex_plain (by rfl) rfl ?_
    apply Exists.intro
    refine ⟨fun σ w2 hA hD hC => ?_, ?_⟩
    · clear hA hD hC
      go_simp
      exact And.intro rfl rfl
    simp only [Act.put, List.setIfInBounds_toArray, List.set_cons_succ, List.set_cons_zero, Nat.reduceAdd]
    refine lex_plain (by rfl) rfl ?_
    apply Exists.intro
    refine ⟨fun σ w2 hA hD hC => ?_, ?_⟩
    · clear hA hD hC
      go_simp
      exact And.intro rfl rfl
    simp only [Act.put, List.setIfInBounds_toArray, List.set_cons_succ, List.set_cons_zero, Nat.reduceAdd]
    refine lex_plain (by rfl) rfl ?_
    apply Exists.intro
    refine ⟨fun σ w2 hA hD hC => ?_, ?_⟩
    · clear hA hD hC
      go_simp
      exact And.intro rfl rfl
    simp only [Act.put, List.setIfInBounds_toArray, List.set_cons_succ, List.set_cons_zero, Nat.reduceAdd]
    refine lex_plain (by rfl) rfl ⟨.agg (voL C.live).toArray, fun σ w2 hA hD hC => ?_, ?_⟩
    · rw [exec_load_mid 68 _ rfl bc 0 rfl (voL C.live) _ hC.rng Try.underlying68 rfl (by rw [voL_length HLV.out]; exact vol_size)]
      exact ⟨rfl, rfl⟩
    simp only [Act.put, List.setIfInBounds_toArray, List.set_cons_succ, List.set_cons_zero, Nat.reduceAdd]
    refine lex_plain (by rfl) rfl ⟨.agg #[.int .u64 ge, .int .u64 gc], fun σ w2 hA hD hC => ?_, ?_⟩
    · rw [exec_load 33 _ rfl w.heap.size rfl 33 _ _ (hC.blk HBX2.out HNB.out.1 HNB.out.2) Try.underlying33 rfl (by kernel_rfl)]
      exact ⟨rfl, rfl⟩
    simp only [Act.put, List.setIfInBounds_toArray, List.set_cons_succ, List.set_cons_zero, Nat.reduceAdd]
    refine lex_plain (by rfl) rfl ⟨.agg (snL s).toArray, fun σ w2 hA hD hC => ?_, ?_⟩
    · rw [HSE.out, exec_build 74 _ rfl [(0, .agg (voL C.live).toArray), (1, .agg #[.int .u64 ge, .int .u64 gc])] rfl _ (snap_build2 _ HLV.out ge gc)]
      exact ⟨rfl, rfl⟩
    simp only [Act.put, List.setIfInBounds_toArray, List.set_cons_succ, List.set_cons_zero, Nat.reduceAdd]
    refine lex_special (by rfl) rfl (fun σ w2 hA hD hn hC => ?_) ?_
    · rw [exec_buildSlice 70 1 _ rfl [(0, .agg (snL s).toArray)] rfl _ (snap_slice w2 HSW.out)]
      exact hC.lit_ok (by decide) hn HSW.out (fun b => by unfold kindsS; rw [if_neg (by decide)]; exact ⟨b, rfl⟩)
    rw [n11]
    simp only [Act.put, List.setIfInBounds_toArray, List.set_cons_succ, List.set_cons_zero, Nat.reduceAdd]
    refine lex_special (by rfl) rfl (fun σ w2 hA hD hn hC => ?_) ?_
    · have ea := got1 hA hD 4 rfl (by kernel_rfl)
      rw [n4] at ea
      have eb := got1 hA hD 11 rfl (by kernel_rfl)
      rw [n11] at eb
      obtain ⟨v', w', hr, hs⟩ := hC.app_ok (p := kindsS [(4, .is sl), (11, .sl 1), (15, .is undef)] 12 (nS + 1) 12) (by decide) hn ea eb HSW.out HLT.out 70 (fun a c => by unfold kindsS; rw [if_pos rfl]; exact ⟨a, c, by rw [HNS.out]⟩)
      rw [exec_append (.tmp 15) (.tmp 22) 70 rfl _ _ rfl rfl _ hr]
      exact hs
    rw [n12]
    simp only [Act.put, List.setIfInBounds_toArray, List.set_cons_succ, List.set_cons_zero, Nat.reduceAdd]
    refine lex_plain (by rfl) rfl ?_
    apply Exists.intro
    refine ⟨fun σ w2 hA hD hC => ?_, ?_⟩
    · clear hA hD hC
      go_simp
      exact And.intro rfl rfl
    simp only [Act.put, List.setIfInBounds_toArray, List.set_cons_succ, List.set_cons_zero, Nat.reduceAdd]
    refine lex_plain (by rfl) rfl ?_
    apply Exists.intro
    refine ⟨fun σ w2 hA hD hC => ?_, ?_⟩
    · clear hA hD hC
      go_simp
      exact And.intro rfl rfl
    simp only [Act.put, List.setIfInBounds_toArray, List.set_cons_succ, List.set_cons_zero, Nat.reduceAdd]
    refine lex_special (by rfl) rfl (fun σ w2 hA hD hn hC => ?_) ?_
    · have ec := got1 hA hD 12 rfl (by kernel_rfl)
      rw [n12] at ec
      obtain ⟨hc9, hf9⟩ := hC.at15 hn
      go_simp
      exact hC.store_ok (by decide) hn ec (by unfold kindsS; rw [if_neg (by decide)]; exact rfl)
    rw [n15]
    simp only [Act.put, Nat.reduceAdd]
    refine lex_nil (fun σ w9 hA hall hC => ?_)
    have s12 := hall 12 rfl (by decide)
    have s15 := hall 15 rfl (by decide)
    rw [n12] at s12
    rw [n15] at s15
    have HF := Lib.hid (hC.fin _ s12 (by rw [s15]; simp))
    clear hA hall hC n4 n11 n12 n15 s12 s15
    go_wp2
    go_ret
    refine ⟨rfl, .slice a12 (nS + 1) c12, ?_, (Kp.of_below HB2.out).trans HF.out.2.1, fun b hb => ?_⟩
    · rw [HS.out, if_pos trivial]
      exact HF.out.1
    · rcases HF.out.2.2 b hb with h | h
      · exact .inl h
      · exact .inr (Nat.le_trans HB2.out.size h)
  · have HNZ := Lib.hid hz
    have e1 : (nx == 0) = false := by simpa using hz
    have e2 : decide (nx = 0) = false := decide_eq_false hz
    clear hz
    go_wp2
    go_ret
    exact ⟨rfl, sl, by rw [HS.out, if_neg HNZ.out]; exact HCW.out, Kp.of_below HB2.out, fun b hb => .inl hb⟩
theorem snap_nil (g : Gd) : Calls Try.prog 11 #[.pointer none, aggG g] w fun e w' => e = .returned (.int .i64 1) ∧ Below w.heap.size w w' := by
  have hb0 := (Below.refl w.heap.size w).alloc (Nat.le_refl _) (Obj.cells #[.int .u64 g.1, .int .u64 g.2] 33)
  have HB := Lib.hid hb0
  have hbx := Blk.new w 33 #[.int .u64 g.1, .int .u64 g.2]
  have hnx := fun w => next_nil g w
  unfold aggG at hnx ⊢
  have HNX := Lib.hid hnx
  clear hnx hb0
  have x0 := hbx.cell 0
  have x1 := hbx.cell 1
  simp at x0 x1
  clear hbx
  go_enter Try.func11, Try.ntmps11
  go_wp2_with fail
  refine (HNX.out _).mono ?_
  rintro e w1 ⟨rfl, hb⟩
  have HB1 := Lib.hid (HB.out.trans (hb.mono HB.out.size))
  clear hb x0 x1
  go_wp2
  go_ret
  exact ⟨rfl, HB1.out⟩
end
end Go.Proofs.Ytjeebpklinpmfaa
