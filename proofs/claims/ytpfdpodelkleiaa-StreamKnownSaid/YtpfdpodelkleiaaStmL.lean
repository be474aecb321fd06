/-
  STREAM: the laws' guid, three, sealed; the parts of Decode: small numbers, guids, changes (printed by wip/gen-stml.py).
-/
import Derived.Test.YtpfdpodelkleiaaStmK
import Derived.Test.YtpfdpodelkleiaaWireTextS
import Derived.Test.YtpfdpodelkleiaaWireRef4S
import Derived.Test.YtpfdpodelkleiaaCrcSeal
namespace Go.Proofs.Ytpfdpodelkleiaa
open Go.RowKit Reg Go.ChangeShapes

theorem guid_any (a b : Int) (w : World) : Calls Try.prog 23 #[.int .u64 a, .int .u64 b] w fun e w' => e = .returned (aggG (a, b)) ∧ Below w.heap.size w w' := by
  go_enter Try.func23, Try.ntmps23
  go_wp2
  refine bodyPost_ret (results_cell (ty := 24) (g := w.heap.size) (k := 4) rfl rfl (Blk.new _ _ _) Try.underlying24 rfl (by kernel_rfl)) rfl ⟨rfl, ?_⟩
  exact (Below.refl _ _).alloc (Nat.le_refl _) _
def threeM : List Mk := [⟨0, 97, false⟩, ⟨3, 98, false⟩, ⟨7, 99, false⟩]
theorem three_in (w : World) : InM (w.alloc (.cells #[.int .i64 0, .int .u8 97, .bool false, .int .i64 3, .int .u8 98, .bool false, .int .i64 7, .int .u8 99, .bool false] 51)) (.slice (some ⟨w.heap.size, 0, none⟩) 3 3) threeM := by
  have hb := Blk.new w 51 #[.int .i64 0, .int .u8 97, .bool false, .int .i64 3, .int .u8 98, .bool false, .int .i64 7, .int .u8 99, .bool false]
  refine ⟨_, _, rfl, by decide, fun j hj => ⟨_, _, rfl, ?_⟩⟩
  have hj3 : j < 3 := hj
  match j, hj3 with
  | 0, _ => exact ⟨⟨hb.cell 0, hb.cell 1, hb.cell 2⟩, rfl, by decide, by decide⟩
  | 1, _ => exact ⟨⟨hb.cell 3, hb.cell 4, hb.cell 5⟩, rfl, by decide, by decide⟩
  | 2, _ => exact ⟨⟨hb.cell 6, hb.cell 7, hb.cell 8⟩, rfl, by decide, by decide⟩
theorem three_any (w : World) : Calls Try.prog 24 #[] w fun e w' => ∃ u, e = .returned u ∧ OwC w' w.heap.size u (madeP threeM) ∧ Below w.heap.size w w' := by
  have HM := Lib.hid (made_any _ _ _ (three_in w))
  have HB := Lib.hid ((Below.refl w.heap.size w).alloc (Nat.le_refl _) (.cells #[.int .i64 0, .int .u8 97, .bool false, .int .i64 3, .int .u8 98, .bool false, .int .i64 7, .int .u8 99, .bool false] 51))
  go_enter Try.func24, Try.ntmps24
  go_wp2_with fail
  refine HM.out.mono ?_
  rintro e w2 ⟨u, rfl, ho, hb⟩
  have HO := Lib.hid (And.intro (ho.mono HB.out.size) (HB.out.trans (hb.mono HB.out.size)))
  clear ho hb
  go_wp2
  go_ret
  exact ⟨_, rfl, HO.out.1, HO.out.2⟩
def sealS (s : ByteArray) : ByteArray := strOf (Crc.sealed (s.data.toList.take (s.size - 4)))
theorem sealed_any (s : ByteArray) (w : World) (hs : s.size ≤ 1000000) : Calls Try.prog 22 #[.string s] w fun e w' => e = .returned (.string (sealS s)) ∧ Below w.heap.size w w' := by
  have HS := Lib.hid (fun w => seal_any (s.extract 0 (s.size - 4)) w (by unfold maxLen; simp; omega))
  have hm : max (0 : Int) ((s.size : Int) - 4) = ((s.size - 4 : Nat) : Int) := by omega
  have hz : (0 : Int) ≤ (s.size : Int) := by omega
  have hz2 : (s.size : Int) ≤ 1000000 := by omega
  have hle : ((s.size - 4 : Nat) : Int) ≤ (s.size : Int) := by omega
  have hle2 : s.size - 4 ≤ s.size := by omega
  go_enter Try.func22, Try.ntmps22
  go_wp2_with fail
  refine (HS.out _).mono ?_
  rintro e w2 ⟨rfl, hb⟩
  have HB := Lib.hid hb
  clear hb
  go_wp2
  go_ret
  exact ⟨rfl, HB.out⟩
/-! ### Reading, plainly -/
theorem num_lt (st : Wire.St) : (Wire.num st).1 < 256 ^ 8 := by
  unfold Wire.num
  split
  · decide
  · decide
  · rename_i k r
    split
    · decide
    · rename_i h
      exact Nat.lt_of_lt_of_le (Wire.be_lt _) (Nat.pow_le_pow_right (by omega) (by rw [List.length_take]; omega))
theorem num_wf (st : Wire.St) : (Lit.int .u64 ((Wire.num st).1 : Int)).wf = true := by
  have h := num_lt st
  have e : (256 : Nat) ^ 8 = 18446744073709551616 := by decide
  rw [e] at h
  generalize (Wire.num st).1 = n at *
  show (decide ((0 : Int) ≤ (n : Int)) && decide ((n : Int) ≤ 18446744073709551615)) = true
  rw [decide_eq_true (by omega), decide_eq_true (by omega)]
  rfl
def nx (st : Wire.St) : Wire.St := (Wire.num st).2
def gdOf (st : Wire.St) : Gd := (((Wire.num st).1 : Nat), ((Wire.num (nx st)).1 : Nat))
/-- a change, read -/
def rChg (lim : Nat) (st : Wire.St) : Cg := ((min (Wire.num st).1 lim : Nat), strOf (Wire.text (nx st)).1)
def cSt (st : Wire.St) : Nat → Wire.St
  | 0 => st
  | k + 1 => (Wire.text (nx (cSt st k))).2
def chgL (lim : Nat) (st : Wire.St) (k : Nat) : List Cg := (List.range k).map fun j => rChg lim (cSt st j)
theorem chgL_succ (lim : Nat) (st : Wire.St) (k : Nat) : chgL lim st (k + 1) = chgL lim st k ++ [rChg lim (cSt st k)] := by
  unfold chgL
  rw [List.range_succ, List.map_append]
  rfl
theorem chgL_length (lim : Nat) (st : Wire.St) (k : Nat) : (chgL lim st k).length = k := by simp [chgL]
def nSt (st : Wire.St) : Nat → Wire.St
  | 0 => st
  | k + 1 => nx (nSt st k)
def nAt (st : Wire.St) (k : Nat) : Nat := (Wire.num (nSt st k)).1
/-- the part that is read -/
def readP (lim most : Nat) (st : Wire.St) : Prt := ⟨((nAt st 0 : Nat), (nAt st 1 : Nat)), ((nAt st 2 : Nat), (nAt st 3 : Nat)), (min (nAt st 4) lim : Nat), (min (nAt st 5) lim : Nat), chgL lim (nSt st 7) (min (nAt st 6) most)⟩
theorem read_wf (lim most : Nat) (st : Wire.St) (h : lim ≤ 1000) : wfPr (readP lim most st) := ⟨⟨num_wf _, num_wf _⟩, ⟨num_wf _, num_wf _⟩, lit_len (by unfold maxLen; omega), lit_len (by unfold maxLen; omega)⟩
def txt (s : ByteArray) : Wire.St := some (s.data.toList.take (s.size - 4))
def decOk (lim most : Nat) (s : ByteArray) : Prop := Crc.opens s.data.toList = true ∧ okP (readP lim most (txt s)) ∧ encS (readP lim most (txt s)) = s
instance (lim most : Nat) (s : ByteArray) : Decidable (decOk lim most s) := by unfold decOk; infer_instance
def decP (lim most : Nat) (s : ByteArray) : Prt := if decOk lim most s then readP lim most (txt s) else zeroP
def decE (lim most : Nat) (s : ByteArray) : Int := if decOk lim most s then 0 else 4
/-! ### Decode's closures -/
theorem Kp.of_row {w w' : World} {r : Nat} (h : w.grownBy w' (some r)) : Kp (· = r) w w' := ⟨⟨h.os, h.tape, h.output, h.size, fun i hi => by omega⟩, fun b hlt hn => h.block b hlt (fun e => hn (Option.some.inj e))⟩
set_option maxRecDepth 100000 in
theorem small_any (r q : Nat) (st : Wire.St) (w : World) (h : Rdr w r st) (hq : Blk w q 71 #[.pointer (some ⟨r, 0, none⟩)]) :
    Calls Try.prog 51 #[.pointer (some ⟨q, 0, none⟩)] w fun e w' => e = .returned (.int .i64 ((min (Wire.num st).1 9 : Nat) : Int)) ∧ Rdr w' r (nx st) ∧ w.grownBy w' (some r) := by
  have c0 := hq.cell 0
  simp at c0
  have HN := Lib.hid (num_any r st w h)
  clear h hq
  go_enter Try.func51, Try.ntmps51
  go_wp2_with fail
  refine HN.out.mono ?_
  rintro e w2 ⟨rfl, h1, h2⟩
  have H := Lib.hid (And.intro h1 h2)
  have hmn : min (((Wire.num st).1 : Nat) : Int) 9 = ((min (Wire.num st).1 9 : Nat) : Int) := by omega
  have h9 : min (Wire.num st).1 9 ≤ 9 := by omega
  generalize hm : min (Wire.num st).1 9 = m at *
  have HM := Lib.hid hm
  have hc : IntKind.i64.wrap (m : Int) = (m : Int) := IntWalk.i64_in _ (by omega)
  have hc2 : wrap64 (m : Int) = (m : Int) := IntWalk.wrap64_in _ (by omega)
  clear h1 h2 h9 HN hm
  go_wp2
  go_ret
  exact ⟨by rw [HM.out]; rfl, H.out.1, H.out.2⟩
set_option maxRecDepth 100000 in
theorem gd_any (r q : Nat) (st : Wire.St) (w : World) (h : Rdr w r st) (hq : Blk w q 71 #[.pointer (some ⟨r, 0, none⟩)]) (hne : q ≠ r) :
    Calls Try.prog 53 #[.pointer (some ⟨q, 0, none⟩)] w fun e w' => e = .returned (aggG (gdOf st)) ∧ Rdr w' r (nx (nx st)) ∧ w.grownBy w' (some r) := by
  have hrl := h.lt
  have hb0 := (Below.refl w.heap.size w).alloc (Nat.le_refl _) (Obj.cells #[.int .u64 0, .int .u64 0] 24)
  have hq1 := hq.keep hb0
  have c0 := hq1.cell 0
  simp at c0
  have hg1 := Blk.new w 24 #[.int .u64 0, .int .u64 0]
  have h1 := h.keep hb0
  have HB0 := Lib.hid hb0
  have HR := Lib.hid h1
  have HQ := Lib.hid hq1
  have HG := Lib.hid hg1
  have HRL := Lib.hid (And.intro hrl hne)
  clear h hq hb0 hq1 hg1 h1 hrl hne
  go_enter Try.func53, Try.ntmps53
  go_wp2_with fail
  generalize w.alloc (Obj.cells #[.int .u64 0, .int .u64 0] 24) = w1 at *
  refine (num_any r st w1 HR.out).mono ?_
  rintro e w2 ⟨rfl, h1, h2⟩
  have H1 := Lib.hid (show Rdr w2 r (nx st) from h1)
  have H2 := Lib.hid h2
  have HQ2 := Lib.hid ((Kp.of_row h2).blk HQ.out (A := (· = r)) HRL.out.2)
  have HG2 := Lib.hid ((Kp.of_row h2).blk HG.out (A := (· = r)) (fun e => by have := HRL.out.1; omega))
  have c2 := HQ2.out.cell 0
  simp at c2
  clear h1 h2 c0
  go_wp2_with fail
  refine (num_any r (nx st) w2 H1.out).mono ?_
  rintro e w3 ⟨rfl, h1, h2⟩
  have H3 := Lib.hid (show Rdr w3 r (nx (nx st)) from h1)
  have H4 := Lib.hid (grownBy_trans H2.out h2)
  have HG3 := Lib.hid ((Kp.of_row h2).blk HG2.out (A := (· = r)) (fun e => by have := HRL.out.1; omega))
  have HGD := Lib.hid (show aggG (gdOf st) = .agg #[.int .u64 ((Wire.num st).1 : Nat), .int .u64 ((Wire.num (nx st)).1 : Nat)] from rfl)
  clear h1 h2 c2
  generalize (Wire.num st).1 = n1 at *
  generalize (Wire.num (nx st)).1 = n2 at *
  go_wp2_with (refine wpList_store_then rfl 24 _ _ rfl w.heap.size #[.int .u64 (n1 : Int), .int .u64 (n2 : Int)] rfl rfl 24 _ HG3.out (by kernel_rfl) rfl (by rw [← Array.all_toList]; rfl) ?_)
  refine Later.mk fun w9 hw9 => ?_
  have H9 := Lib.hid (show Rdr w9 r (nx (nx st)) ∧ w.grownBy w9 (some r) ∧ Blk w9 w.heap.size 24 #[.int .u64 (n1 : Int), .int .u64 (n2 : Int)] by
    rw [hw9]
    refine ⟨H3.out.below (Below.setRow (Below.refl _ _) (Nat.le_refl _) _) HRL.out.1, ?_, HG3.out.row _⟩
    have hg := grownBy_trans (grownBy_below (row := some r) HB0.out) H4.out
    exact ⟨hg.os, hg.tape, hg.output, by simpa [World.setRow] using hg.size, fun i hi hr => by
      have := hg.block i hi hr
      rw [← this]
      simp only [World.setRow, Array.getElem?_modify]
      rw [if_neg (by omega)]⟩)
  clear hw9
  go_wp2
  refine bodyPost_ret (results_cell (ty := 24) (g := w.heap.size) (k := 1) rfl rfl H9.out.2.2 Try.underlying24 rfl (by kernel_rfl)) rfl ⟨by rw [HGD.out], H9.out.1, H9.out.2.1⟩
end Go.Proofs.Ytpfdpodelkleiaa
