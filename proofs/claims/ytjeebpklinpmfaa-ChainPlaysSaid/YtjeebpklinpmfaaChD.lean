/-
  CHAINS: the clone of a list of texts, list, New, Write, Live.
-/
import Derived.Test.YtjeebpklinpmfaaChC
import Derived.Lib.SlBuf
namespace Go.Proofs.Ytjeebpklinpmfaa
open Go.RowKit Reg Go.WideShapes Go.ChangeShapes

/-- a list of texts comes back, in memory that the call has made -/
def RetT (w : World) (zs : List ByteArray) (e : Ending) (w' : World) : Prop := ∃ v, e = .returned v ∧ OwT w' w.heap.size v zs ∧ Below w.heap.size w w'
theorem cloneT_any (w : World) (a : Addr) (n c : Nat) (zs : List ByteArray) (h : InT w (.slice (some a) n c) zs) (hn : zs.length ≤ 1000) :
    Calls Try.prog 52 #[.slice (some a) n c] w (RetT w zs) := by
  have hb0 := (Below.refl w.heap.size w).alloc (Nat.le_refl _) (Obj.cells #[] 9)
  have ho : OwT (w.alloc (Obj.cells #[] 9)) w.heap.size (.slice (some ⟨w.heap.size, 0, none⟩) 0 0) [] := ⟨own_new w _ _ #[] 1 0 rfl (Nat.le_refl _) (Nat.zero_le _), by simp, by simp⟩
  have happ := app_texts 35 ho (h.keep hb0) (by simp; omega) (by simp)
  have HA := Lib.hid happ
  have HB := Lib.hid hb0
  have heq : ∀ w : World, (binOp BinOp.eql 35 (.slice (some a) n c) (.slice none 0 0)).run Try.prog w = .ok (.bool false) w := fun w => Lib.run_eql_slice_nil w 35 9 _ _ _ _ _ Try.underlying35
  have HO := Lib.hid ho
  clear happ hb0 ho h hn
  go_enter Try.func52, Try.ntmps52
  go_wp2_with (at_builtin; refine wpList_append_run rfl _ _ 35 rfl _ _ rfl rfl _ HA.out ?_)
  refine Later.mk fun _ _ v w1 hp => ?_
  have HP := Lib.hid hp
  clear hp
  go_wp2
  go_ret
  exact ⟨v, rfl, by simpa using HP.out.1, HB.out.trans (HP.out.below HO.out (by simp))⟩
theorem InT.of_rng {w : World} {g n c : Nat} {zs : List ByteArray} (hr : w.rangeAt g 0 (voL zs)) (hn : n ≤ zs.length) (hc : n ≤ c) (hz : ∀ z ∈ zs, z.size ≤ 32) (hl : zs.length ≤ 1000) : InT w (.slice (some ⟨g, 0, none⟩) n c) (zs.take n) := by
  have hlen : (zs.take n).length = n := by simp; omega
  refine ⟨?_, by rw [hlen]; unfold maxLen; omega, fun z hz2 => Nat.le_trans (hz z (List.mem_of_mem_take hz2)) (by unfold maxLen; omega)⟩
  rcases Nat.eq_zero_or_pos n with rfl | hp
  · exact .inl ⟨_, _, rfl, by simp, by simp⟩
  · refine .inr ⟨by omega, by simp, .inr ⟨g, 0, c, by rw [hlen], by omega, fun j u hu => hr j u ?_⟩⟩
    rw [List.map_take, List.getElem?_take] at hu
    split at hu
    · exact hu
    · cases hu
def Ch.list (C : Ch) (v : Vo) : List ByteArray := v.take C.n
section
variable {w : World} {bc : Nat} {sl : Value} {C : Ch}
theorem list_any (h : Cm w bc sl C) (v : Vo) (hv : wfV v) : Calls Try.prog 32 #[.pointer (some ⟨bc, 0, none⟩), .agg (voL v).toArray] w (RetT w (v.take C.n)) := by
  have hb0 := (Below.refl w.heap.size w).alloc (Nat.le_refl _) (Obj.cells (voL v).toArray 68)
  have c8 := (h.keep hb0).c8
  have hn := h.n
  have hbk := Blk.new w 68 (voL v).toArray
  have hrg : (w.alloc (Obj.cells (voL v).toArray 68)).rangeAt w.heap.size 0 (voL v) := fun j u hu => by
    rw [hbk.cell, Nat.zero_add]
    simpa using hu
  have hl := hv.1
  have hi : InT (w.alloc (Obj.cells (voL v).toArray 68)) (.slice (some ⟨w.heap.size, 0, none⟩) C.n 8) (v.take C.n) := InT.of_rng hrg (by omega) hn.2 hv.2 (by omega)
  have hlt : (v.take C.n).length ≤ 1000 := by simp; omega
  have HI := Lib.hid (cloneT_any _ _ _ _ _ hi hlt)
  have HB := Lib.hid hb0
  have hn2 := hn.2
  have i1 : (C.n : Int) ≤ 8 := by omega
  clear h hn hbk hrg hl hi hlt hb0
  go_enter Try.func32, Try.ntmps32
  go_wp2_with fail
  refine HI.out.mono ?_
  rintro e w2 ⟨v2, rfl, ho, hb⟩
  have HO := Lib.hid (OwT.mono ho (by simp : w.heap.size ≤ _))
  have HB2 := Lib.hid (HB.out.trans (hb.mono (by simp)))
  clear ho hb
  go_wp2
  go_ret
  exact ⟨v2, rfl, HO.out, HB2.out⟩
end
/-- an operation whose run is known -/
theorem wpList_value_run {P : Program} {w w' : World} {ops : Array Oper} {rest : List Oper} {o : Oper} {a : Act} {Q : Exit → Act → World → Prop} (hgd : o.guard = none) (v : Value) (hrun : (execOp a.eval o).run P w = .ok (.value v) w')
    (h : wpList P ops Q rest (a.put o.dst v) w') : wpList P ops Q (o :: rest) a w := by
  refine wpList_plain hgd fun K hK => ?_
  unfold Oper.wp
  rw [hrun]
  exact hK _ _ h
theorem exec_build {P : Program} {w : World} {o : Oper} {a : Act} (t : TypeId) (parts : Array (Nat × Operand)) (ho : o.op = .build t parts) (vs : List (Nat × Value)) (hv : (parts.toList.map fun x => (x.1, a.eval x.2)) = vs) (cells : Array Value)
    (hr : (Instr.build t vs.toArray).run P w = .ok (.agg cells) w) : (execOp a.eval o).run P w = .ok (.value (.agg cells)) w := by
  have hv2 : (parts.map fun x => (x.1, a.eval x.2)) = vs.toArray := by
    apply Array.ext'
    rw [Array.toList_map]
    exact hv
  rw [← hv2] at hr
  unfold execOp
  simp only [ho, Sem.run_bind]
  rw [show (Instr.build t (parts.map fun (i, x) => (i, a.eval x))).run P w = .ok (.agg cells) w from hr]
  rfl
theorem exec_field {P : Program} {w : World} {o : Oper} {a : Act} (t : TypeId) (x : Operand) (i : Nat) (ho : o.op = .field t x i) (v u : Value) (hx : a.eval x = v)
    (hr : (Instr.field t v i).run P w = .ok u w) : (execOp a.eval o).run P w = .ok (.value u) w := by
  unfold execOp
  simp only [ho, Sem.run_bind, hx, hr]
  rfl
theorem chain_build (w : World) {v : Vo} (hv : wfV v) (n : Int) : (Instr.build 72 #[(0, .agg (voL v).toArray), (1, .int .i64 n)]).run Try.prog w = .ok (.agg (voL v ++ [Value.int .i64 n, Value.slice none 0 0]).toArray) w := by
  obtain ⟨hl, -⟩ := hv
  match v, hl with
  | [s0, s1, s2, s3, s4, s5, s6, s7], _ => exact run_build w _ _ _ (by kernel_rfl)
theorem new_bad (w : World) (n : Int) (hn : n < 1 ∨ 8 < n) : Calls Try.prog 9 #[.int .i64 n] w fun e w' => e = .returned (.pointer none) ∧ w = w' := by
  have hs : n < 1 ∨ (1 ≤ n ∧ 8 < n) := by omega
  clear hn
  rcases hs with h1 | ⟨h1, h2⟩
  all_goals
    go_enter Try.func9, Try.ntmps9
    go_wp2
    go_ret
    exact ⟨rfl, rfl⟩
def Ch.new (n : Nat) : Ch := ⟨zeroVo n, n, []⟩
def NewT (w : World) (n : Nat) (e : Ending) (w' : World) : Prop := ∃ bc, e = .returned (.pointer (some ⟨bc, 0, none⟩)) ∧ Cm w' bc (.slice none 0 0) (Ch.new n) ∧ w.heap.size ≤ bc ∧ Below w.heap.size w w'
theorem new_any (w : World) (n : Nat) (h1 : 1 ≤ n) (h2 : n ≤ 8) : Calls Try.prog 9 #[.int .i64 n] w (NewT w n) := by
  have hv := zeroVo_wf h2
  have HBU := Lib.hid (fun w => chain_build w hv n)
  have HV := Lib.hid hv
  have HZ := Lib.hid (zeros_any w n h2)
  have HN := Lib.hid (And.intro h1 h2)
  have i1 : (1 : Int) ≤ (n : Int) := by omega
  have i2 : (n : Int) ≤ 8 := by omega
  clear hv h1 h2
  go_enter Try.func9, Try.ntmps9
  go_wp2_with fail
  refine HZ.out.mono ?_
  rintro e w2 ⟨rfl, hb⟩
  have HB := Lib.hid hb
  clear hb
  go_wp2_with (refine wpList_value_run rfl _ (exec_build 72 _ rfl [(0, .agg (voL (zeroVo n)).toArray), (1, .int .i64 n)] rfl _ (HBU.out _)) ?_)
  go_ret
  have hs := HB.out.size
  refine ⟨w2.heap.size, rfl, ⟨Blk.new _ _ _, OwS.nil_ _, HN.out, HV.out⟩, hs, ?_⟩
  exact HB.out.alloc hs _
section
variable {w : World} {bc : Nat} {sl : Value} {C : Ch}
def Ch.write (C : Ch) (b : Int) (d : ByteArray) : Ch := if mayB C.n b d = true then { C with live := C.live.set b.toNat d } else C
def Ch.writeE (C : Ch) (b : Int) (d : ByteArray) : Int := if mayB C.n b d = true then 0 else 2
theorem chL_set {v : Vo} (hv : wfV v) (n : Nat) (sns : List Sn) (sl : Value) {i : Nat} (hi : i < 8) (d : ByteArray) : (chL ⟨v, n, sns⟩ sl).toArray.setIfInBounds i (.string d) = (chL ⟨v.set i d, n, sns⟩ sl).toArray := by
  have hl := voL_length hv
  simp only [chL, List.setIfInBounds_toArray]
  rw [List.set_append_left _ _ (by omega)]
  simp [voL, List.map_set]
theorem wfV_set {v : Vo} (hv : wfV v) {d : ByteArray} (hd : d.size = 32) (i : Nat) : wfV (v.set i d) := by
  refine ⟨by simpa using hv.1, fun s hs => ?_⟩
  rcases List.mem_or_eq_of_mem_set hs with h | rfl
  · exact hv.2 s h
  · omega
def WriT (w : World) (bc : Nat) (sl : Value) (C : Ch) (b : Int) (d : ByteArray) (e : Ending) (w' : World) : Prop := e = .returned (.int .i64 (C.writeE b d)) ∧ Cm w' bc sl (C.write b d) ∧ Kp (· = bc) w w'
theorem write_any (h : Cm w bc sl C) (b : Int) (d : ByteArray) : Calls Try.prog 22 #[.pointer (some ⟨bc, 0, none⟩), .int .i64 b, .string d] w (WriT w bc sl C b d) := by
  have HNO := Lib.hid (none_no h)
  have hm := may_any h b d
  cases hmb : mayB C.n b d with
  | false =>
    rw [hmb] at hm
    have HM := Lib.hid hm
    have HR := Lib.hid (show C.writeE b d = 2 ∧ C.write b d = C from ⟨by simp [Ch.writeE, hmb], by simp [Ch.write, hmb]⟩)
    have HH := Lib.hid h
    clear hm hmb h
    go_enter Try.func22, Try.ntmps22
    go_wp2_with fail
    refine HNO.out.mono ?_
    rintro e w1 ⟨rfl, rfl⟩
    go_wp2_with fail
    refine HM.out.mono ?_
    rintro e w1 ⟨rfl, rfl⟩
    go_wp2
    go_ret
    exact ⟨by rw [HR.out.1]; rfl, by rw [HR.out.2]; exact HH.out, Kp.refl _ _⟩
  | true =>
    rw [hmb] at hm
    have hb3 : 0 ≤ b ∧ b < C.n ∧ d.size = 32 := by unfold mayB at hmb; exact of_decide_eq_true hmb
    have HR := Lib.hid (show C.writeE b d = 0 ∧ C.write b d = { C with live := C.live.set b.toNat d } from ⟨by simp [Ch.writeE, hmb], by simp [Ch.write, hmb]⟩)
    have hn := h.n
    obtain ⟨k, rfl⟩ : ∃ k : Nat, b = k := ⟨b.toNat, by omega⟩
    have hk8 : k < 8 := by omega
    have i1 : (k : Int) < 8 := by omega
    have hl := h.live.1
    have c0 : w.cell? ⟨bc, k, none⟩ = some (.string (C.live.getD k ByteArray.empty)) := by
      have := h.rng k (.string (C.live.getD k ByteArray.empty)) (by simp [voL, show k < C.live.length by omega])
      rwa [Nat.zero_add] at this
    have f0 := h.obj.frozen k
    have hset : Blk (w.setCell ⟨bc, k, none⟩ (.string d)) bc 72 (chL { C with live := C.live.set k d } sl).toArray := by
      have := h.obj.set k (.string d)
      rwa [show (chL C sl).toArray.setIfInBounds k (.string d) = (chL { C with live := C.live.set k d } sl).toArray from chL_set h.live C.n C.snaps sl hk8 d] at this
    have hkp : Kp (· = bc) w (w.setCell ⟨bc, k, none⟩ (.string d)) := ⟨(Below.refl 0 w).setCell (Nat.zero_le _) _, fun b _ hn => Below.heap_setCell w _ _ b hn⟩
    have HC := Lib.hid (show Cm (w.setCell ⟨bc, k, none⟩ (.string d)) bc sl { C with live := C.live.set k d } from ⟨hset, h.snaps.kp hkp (fun b hb => h.ne_own hb), h.n, wfV_set h.live hb3.2.2 k⟩)
    have HK := Lib.hid hkp
    have HM := Lib.hid hm
    clear hm hmb h hn hb3 hl hset hkp
    go_enter Try.func22, Try.ntmps22
    go_wp2_with fail
    refine HNO.out.mono ?_
    rintro e w1 ⟨rfl, rfl⟩
    go_wp2_with fail
    refine HM.out.mono ?_
    rintro e w1 ⟨rfl, rfl⟩
    go_wp2
    go_ret
    exact ⟨by rw [HR.out.1]; rfl, by rw [HR.out.2]; exact HC.out, HK.out⟩
theorem write_nil (b : Int) (d : ByteArray) : Calls Try.prog 22 #[.pointer none, .int .i64 b, .string d] w fun e w' => e = .returned (.int .i64 1) ∧ w = w' := by
  go_enter Try.func22, Try.ntmps22
  go_wp2_with fail
  refine (none_nil _).mono ?_
  rintro e w1 ⟨rfl, rfl⟩
  go_wp2
  go_ret
  exact ⟨rfl, rfl⟩
theorem live_nil : Calls Try.prog 13 #[.pointer none] w fun e w' => e = .returned (.slice none 0 0) ∧ w = w' := by
  go_enter Try.func13, Try.ntmps13
  go_wp2_with fail
  refine (none_nil _).mono ?_
  rintro e w1 ⟨rfl, rfl⟩
  go_wp2
  go_ret
  exact ⟨rfl, rfl⟩
theorem live_any (h : Cm w bc sl C) : Calls Try.prog 13 #[.pointer (some ⟨bc, 0, none⟩)] w (RetT w (C.live.take C.n)) := by
  have HNO := Lib.hid (none_no h)
  have HL := Lib.hid (list_any h C.live h.live)
  have HRG := Lib.hid h.rng
  have HS := Lib.hid (show (Try.prog.info? 68).map (fun i => i.size) = some (voL C.live).length by rw [voL_length h.live]; exact vol_size)
  clear h
  go_enter Try.func13, Try.ntmps13
  go_wp2_with fail
  refine HNO.out.mono ?_
  rintro e w1 ⟨rfl, rfl⟩
  go_wp2_with (first | refine wpList_load_mid rfl 68 _ rfl bc 0 rfl (voL C.live) _ HRG.out Try.underlying68 rfl HS.out ?_)
  refine HL.out.mono ?_
  rintro e w1 ⟨v, rfl, ho, hb⟩
  have HO := Lib.hid ho
  have HB := Lib.hid hb
  clear ho hb
  go_wp2
  go_ret
  exact ⟨v, rfl, HO.out, HB.out⟩
end
end Go.Proofs.Ytjeebpklinpmfaa
