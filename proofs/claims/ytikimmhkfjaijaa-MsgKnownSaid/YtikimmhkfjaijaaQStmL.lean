/-
  STREAM: parts of Decode (printed by wip/gen-msgbase.py).
-/
import Derived.Test.YtikimmhkfjaijaaQStmD
import Derived.Test.YtikimmhkfjaijaaQWireTextS
import Derived.Test.YtikimmhkfjaijaaChain
namespace Go.Proofs.Ytikimmhkfjaijaa
open Go.RowKit Reg Go.ChangeShapes

theorem OwC.far {w : World} {base : Nat} {v : Value} {cs : List Cg} (h : OwC w base v cs) {p : Addr} (hp : p.block < base) (u : Value) : OwC (w.setCell p u) base v cs := by
  refine ⟨⟨h.1.1, ?_⟩, h.2⟩
  rcases h.1.2 with hn | ⟨g, cap, cur, rfl, hg, hh, rest⟩
  · exact .inl hn
  · exact .inr ⟨g, cap, cur, rfl, hg, (Below.heap_setCell w p u g (by omega)).trans hh, rest⟩
theorem OwC.farRow {w : World} {base : Nat} {v : Value} {cs : List Cg} (h : OwC w base v cs) {k : Nat} (hk : k < base) (ds : Array Value) : OwC (w.setRow k ds) base v cs := by
  refine ⟨⟨h.1.1, ?_⟩, h.2⟩
  rcases h.1.2 with hn | ⟨g, cap, cur, rfl, hg, hh, rest⟩
  · exact .inl hn
  · refine .inr ⟨g, cap, cur, rfl, hg, ?_, rest⟩
    rw [← hh]
    simp only [World.setRow, Array.getElem?_modify]
    rw [if_neg (by omega)]
/-- v is the part p, its changes the call's own -/
def OwPr (w : World) (base : Nat) (v : Value) (p : Prt) : Prop := ∃ sv, v = prV p sv ∧ OwC w base sv p.cs ∧ wfPr p
theorem OwPr.inp {w : World} {base : Nat} {v : Value} {p : Prt} (h : OwPr w base v p) : InPr w v p := by
  obtain ⟨sv, h1, h2, h3⟩ := h
  exact ⟨sv, h1, h2.rd, h3⟩
theorem OwPr.keep {w w' : World} {base : Nat} {v : Value} {p : Prt} (h : OwPr w base v p) (hb : Below w.heap.size w w') : OwPr w' base v p := by
  obtain ⟨sv, h1, h2, h3⟩ := h
  exact ⟨sv, h1, h2.keep hb, h3⟩
theorem OwPr.farRow {w : World} {base : Nat} {v : Value} {p : Prt} (h : OwPr w base v p) {k : Nat} (hk : k < base) (ds : Array Value) : OwPr (w.setRow k ds) base v p := by
  obtain ⟨sv, h1, h2, h3⟩ := h
  exact ⟨sv, h1, h2.farRow hk ds, h3⟩
theorem part_one (a b c d e f : Int) (sp : Option Addr) (n m : Nat) : ((#[.int .u64 a, .int .u64 b, .int .u64 c, .int .u64 d, .int .i64 e, .int .i64 f, .slice sp n m] : Array Value).all fun x => x.oneCell') = true := by
  rw [← Array.all_toList]
  rfl
theorem part_size : (Try.prog.info? 31).map (·.size) = some 7 := by kernel_rfl
def zeroP : Prt := ⟨(0, 0), (0, 0), 0, 0, []⟩
theorem zero_wf : wfPr zeroP := ⟨⟨rfl, rfl⟩, ⟨rfl, rfl⟩, rfl, rfl⟩
/-- results: a struct in a block, and a slot -/
theorem results_cell2 {P : Program} {fn : Func} {tmps : Array Value} {w : World} {k m : Nat} {ty : TypeId} {g : Nat} {t : TypeId} {cs : Array Value} {d : TypeDesc} {u : Value} (hr : fn.results = #[.cell k ty, .tmp m]) (ht : tmps.getD k undef = .pointer (some ⟨g, 0, none⟩)) (hm : tmps.getD m undef = u) (hb : Blk w g t cs)
    (hu : P.underlying ty = some d) (hd : (match d with | .struct _ | .array _ _ => true | _ => false) = true) (hi : (P.info? ty).map (·.size) = some cs.size) : (results fn tmps).run P w = .ok (.tuple #[.agg cs, u]) w := by
  have := run_loadVar_row (P := P) w g t ty cs (0, 0) d hb hu hd hi
  have ht2 : tmps[k]?.getD undef = .pointer (some ⟨g, 0, none⟩) := by simpa using ht
  have hm2 : tmps[m]?.getD undef = u := by simpa using hm
  simp [results, hr, ht2, hm2, asAddr, this]
theorem Kp.ext {A : Nat → Prop} {W0 wr w' : World} (h : Kp A W0 wr) (hb : Below W0.heap.size wr w') : Kp A W0 w' := ⟨h.1.trans (hb.mono (Nat.zero_le _)), fun b hb1 hA => (hb.block b hb1).trans (h.2 b hb1 hA)⟩
theorem Kp.set {A : Nat → Prop} {W0 wr : World} {p : Addr} (h : Kp A W0 wr) (hp : A p.block) (u : Value) : Kp A W0 (wr.setCell p u) :=
  ⟨h.1.setCell (Nat.zero_le _) _, fun b hb1 hA => (Below.heap_setCell wr p u b (fun e => hA (e ▸ hp))).trans (h.2 b hb1 hA)⟩
theorem lit_len {n : Nat} (h : n ≤ maxLen) : (Lit.int .i64 (n : Int)).wf = true := by
  unfold maxLen at h
  show (decide ((-9223372036854775808 : Int) ≤ (n : Int)) && decide ((n : Int) ≤ 9223372036854775807)) = true
  rw [decide_eq_true (by omega), decide_eq_true (by omega)]
  rfl
theorem lit_chg (w : World) (x : Int) (d : ByteArray) : (w.alloc (.cells #[.int .i64 x, .string d] 76)).rangeAt w.heap.size 0 (cgL (x, d)) := by
  intro j u hu
  have hb := Blk.new w 76 #[.int .i64 x, .string d]
  rw [Nat.zero_add, hb.cell]
  have e : (#[.int .i64 x, .string d] : Array Value) = (cgL (x, d)).toArray := rfl
  rw [e, List.getElem?_toArray]
  exact hu
theorem num_lt (st : Wire.St) : (Wire.num st).1 < 256 ^ 8 := by
  unfold Wire.num
  split
  · decide
  · decide
  · rename_i k r
    split
    · decide
    · rename_i h
      exact Nat.lt_of_lt_of_le (Wire.be_lt _) (Nat.pow_le_pow_right (by omega) (by rw [List.length_take]; omega))
theorem num_wf (st : Wire.St) : (Lit.int .u64 ((Wire.num st).1 : Int)).wf = true := by
  have h := num_lt st
  have e : (256 : Nat) ^ 8 = 18446744073709551616 := by decide
  rw [e] at h
  generalize (Wire.num st).1 = n at *
  show (decide ((0 : Int) ≤ (n : Int)) && decide ((n : Int) ≤ 18446744073709551615)) = true
  rw [decide_eq_true (by omega), decide_eq_true (by omega)]
  rfl
def nx (st : Wire.St) : Wire.St := (Wire.num st).2
def gdOf (st : Wire.St) : Gd := (((Wire.num st).1 : Nat), ((Wire.num (nx st)).1 : Nat))
/-- a change, read -/
def rChg (lim : Nat) (st : Wire.St) : Cg := ((min (Wire.num st).1 lim : Nat), strOf (Wire.text (nx st)).1)
def cSt (st : Wire.St) : Nat → Wire.St
  | 0 => st
  | k + 1 => (Wire.text (nx (cSt st k))).2
def chgL (lim : Nat) (st : Wire.St) (k : Nat) : List Cg := (List.range k).map fun j => rChg lim (cSt st j)
theorem chgL_succ (lim : Nat) (st : Wire.St) (k : Nat) : chgL lim st (k + 1) = chgL lim st k ++ [rChg lim (cSt st k)] := by
  unfold chgL
  rw [List.range_succ, List.map_append]
  rfl
theorem chgL_length (lim : Nat) (st : Wire.St) (k : Nat) : (chgL lim st k).length = k := by simp [chgL]
def nSt (st : Wire.St) : Nat → Wire.St
  | 0 => st
  | k + 1 => nx (nSt st k)
def nAt (st : Wire.St) (k : Nat) : Nat := (Wire.num (nSt st k)).1
/-- the part that is read -/
def readP (lim most : Nat) (st : Wire.St) : Prt := ⟨((nAt st 0 : Nat), (nAt st 1 : Nat)), ((nAt st 2 : Nat), (nAt st 3 : Nat)), (min (nAt st 4) lim : Nat), (min (nAt st 5) lim : Nat), chgL lim (nSt st 7) (min (nAt st 6) most)⟩
theorem read_wf (lim most : Nat) (st : Wire.St) (h : lim ≤ 1000) : wfPr (readP lim most st) := ⟨⟨num_wf _, num_wf _⟩, ⟨num_wf _, num_wf _⟩, lit_len (by unfold maxLen; omega), lit_len (by unfold maxLen; omega)⟩
def txt (s : ByteArray) : Wire.St := some (s.data.toList.take (s.size - 4))
def decOk (lim most : Nat) (s : ByteArray) : Prop := Crc.opens s.data.toList = true ∧ okP (readP lim most (txt s)) ∧ encS (readP lim most (txt s)) = s
instance (lim most : Nat) (s : ByteArray) : Decidable (decOk lim most s) := by unfold decOk; infer_instance
def decP (lim most : Nat) (s : ByteArray) : Prt := if decOk lim most s then readP lim most (txt s) else zeroP
def decE (lim most : Nat) (s : ByteArray) : Int := if decOk lim most s then 0 else 4
theorem Kp.of_row {w w' : World} {r : Nat} (h : w.grownBy w' (some r)) : Kp (· = r) w w' := ⟨⟨h.os, h.tape, h.output, h.size, fun i hi => by omega⟩, fun b hlt hn => h.block b hlt (fun e => hn (Option.some.inj e))⟩
set_option maxRecDepth 100000 in
theorem small_any (r q : Nat) (st : Wire.St) (w : World) (h : Rdr w r st) (hq : Blk w q 66 #[.pointer (some ⟨r, 0, none⟩)]) :
    Calls Try.prog 76 #[.pointer (some ⟨q, 0, none⟩)] w fun e w' => e = .returned (.int .i64 ((min (Wire.num st).1 9 : Nat) : Int)) ∧ Rdr w' r (nx st) ∧ w.grownBy w' (some r) := by
  have c0 := hq.cell 0
  simp at c0
  have HN := Lib.hid (num_any r st w h)
  clear h hq
  go_enter Try.func76, Try.ntmps76
  go_wp2_with fail
  refine HN.out.mono ?_
  rintro e w2 ⟨rfl, h1, h2⟩
  have H := Lib.hid (And.intro h1 h2)
  have hmn : min (((Wire.num st).1 : Nat) : Int) 9 = ((min (Wire.num st).1 9 : Nat) : Int) := by omega
  have h9 : min (Wire.num st).1 9 ≤ 9 := by omega
  generalize hm : min (Wire.num st).1 9 = m at *
  have HM := Lib.hid hm
  have hc : IntKind.i64.wrap (m : Int) = (m : Int) := IntWalk.i64_in _ (by omega)
  have hc2 : wrap64 (m : Int) = (m : Int) := IntWalk.wrap64_in _ (by omega)
  clear h1 h2 h9 HN hm
  go_wp2
  go_ret
  exact ⟨by rw [HM.out]; rfl, H.out.1, H.out.2⟩
set_option maxRecDepth 100000 in
theorem gd_any (r q : Nat) (st : Wire.St) (w : World) (h : Rdr w r st) (hq : Blk w q 66 #[.pointer (some ⟨r, 0, none⟩)]) (hne : q ≠ r) :
    Calls Try.prog 77 #[.pointer (some ⟨q, 0, none⟩)] w fun e w' => e = .returned (aggG (gdOf st)) ∧ Rdr w' r (nx (nx st)) ∧ w.grownBy w' (some r) := by
  have hrl := h.lt
  have hb0 := (Below.refl w.heap.size w).alloc (Nat.le_refl _) (Obj.cells #[.int .u64 0, .int .u64 0] 28)
  have hq1 := hq.keep hb0
  have c0 := hq1.cell 0
  simp at c0
  have hg1 := Blk.new w 28 #[.int .u64 0, .int .u64 0]
  have h1 := h.keep hb0
  have HB0 := Lib.hid hb0
  have HR := Lib.hid h1
  have HQ := Lib.hid hq1
  have HG := Lib.hid hg1
  have HRL := Lib.hid (And.intro hrl hne)
  clear h hq hb0 hq1 hg1 h1 hrl hne
  go_enter Try.func77, Try.ntmps77
  go_wp2_with fail
  generalize w.alloc (Obj.cells #[.int .u64 0, .int .u64 0] 28) = w1 at *
  refine (num_any r st w1 HR.out).mono ?_
  rintro e w2 ⟨rfl, h1, h2⟩
  have H1 := Lib.hid (show Rdr w2 r (nx st) from h1)
  have H2 := Lib.hid h2
  have HQ2 := Lib.hid ((Kp.of_row h2).blk HQ.out (A := (· = r)) HRL.out.2)
  have HG2 := Lib.hid ((Kp.of_row h2).blk HG.out (A := (· = r)) (fun e => by have := HRL.out.1; omega))
  have c2 := HQ2.out.cell 0
  simp at c2
  clear h1 h2 c0
  go_wp2_with fail
  refine (num_any r (nx st) w2 H1.out).mono ?_
  rintro e w3 ⟨rfl, h1, h2⟩
  have H3 := Lib.hid (show Rdr w3 r (nx (nx st)) from h1)
  have H4 := Lib.hid (grownBy_trans H2.out h2)
  have HG3 := Lib.hid ((Kp.of_row h2).blk HG2.out (A := (· = r)) (fun e => by have := HRL.out.1; omega))
  have HGD := Lib.hid (show aggG (gdOf st) = .agg #[.int .u64 ((Wire.num st).1 : Nat), .int .u64 ((Wire.num (nx st)).1 : Nat)] from rfl)
  clear h1 h2 c2
  generalize (Wire.num st).1 = n1 at *
  generalize (Wire.num (nx st)).1 = n2 at *
  go_wp2_with (refine wpList_store_then rfl 28 _ _ rfl w.heap.size #[.int .u64 (n1 : Int), .int .u64 (n2 : Int)] rfl rfl 28 _ HG3.out (by kernel_rfl) rfl (by rw [← Array.all_toList]; rfl) ?_)
  refine Later.mk fun w9 hw9 => ?_
  have H9 := Lib.hid (show Rdr w9 r (nx (nx st)) ∧ w.grownBy w9 (some r) ∧ Blk w9 w.heap.size 28 #[.int .u64 (n1 : Int), .int .u64 (n2 : Int)] by
    rw [hw9]
    refine ⟨H3.out.below (Below.setRow (Below.refl _ _) (Nat.le_refl _) _) HRL.out.1, ?_, HG3.out.row _⟩
    have hg := grownBy_trans (grownBy_below (row := some r) HB0.out) H4.out
    exact ⟨hg.os, hg.tape, hg.output, by simpa [World.setRow] using hg.size, fun i hi hr => by
      have := hg.block i hi hr
      rw [← this]
      simp only [World.setRow, Array.getElem?_modify]
      rw [if_neg (by omega)]⟩)
  clear hw9
  go_wp2
  refine bodyPost_ret (results_cell (ty := 28) (g := w.heap.size) (k := 1) rfl rfl H9.out.2.2 Try.underlying28 rfl (by kernel_rfl)) rfl ⟨by rw [HGD.out], H9.out.1, H9.out.2.1⟩
end Go.Proofs.Ytikimmhkfjaijaa
