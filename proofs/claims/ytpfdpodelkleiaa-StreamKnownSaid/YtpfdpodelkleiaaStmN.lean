/-
  STREAM: Decode of the reference (printed by wip/gen-stmn.py).
-/
import Derived.Test.YtpfdpodelkleiaaStmM
import Derived.Test.YtpfdpodelkleiaaStmH
namespace Go.Proofs.Ytpfdpodelkleiaa
open Go.RowKit Reg Go.ChangeShapes

theorem RdR.below {w w' : World} {r B : Nat} {st : Wire.St} (h : RdR w r st) (hb : Below B w w') (hr : r < B) : RdR w' r st := by
  cases st with
  | none => obtain ⟨s, b⟩ := h; exact ⟨s, b.below hb hr⟩
  | some l => exact ⟨h.1, h.2.below hb hr⟩
theorem RdR.set {w : World} {r g : Nat} {st : Wire.St} (h : RdR w r st) (hg : r ≠ g) (i : Nat) (u : Value) : RdR (w.setCell ⟨g, i, none⟩ u) r st := by
  cases st with
  | none => obtain ⟨s, b⟩ := h; exact ⟨s, b.far (p := ⟨g, i, none⟩) hg u⟩
  | some l => exact ⟨h.1, h.2.far (p := ⟨g, i, none⟩) hg u⟩
def numArr (n : Nat → Nat) (k : Nat) : Array Value := ((List.range k).map (fun j => Value.int .u64 (n j : Int)) ++ List.replicate (7 - k) (Value.int .u64 0)).toArray
theorem numArr_set (n : Nat → Nat) (k : Nat) (h : k < 7) : (numArr n k).setIfInBounds k (.int .u64 (n k : Int)) = numArr n (k + 1) := by
  unfold numArr
  rw [List.setIfInBounds_toArray, List.set_append_right _ _ (by simp), List.length_map, List.length_range, Nat.sub_self, show 7 - k = (7 - (k + 1)) + 1 from by omega, List.replicate_succ, List.set_cons_zero, List.range_succ, List.map_append, List.append_assoc]
  rfl
theorem numArr_old (n : Nat → Nat) (k : Nat) (h : k < 7) : (numArr n k)[k]? = some (.int .u64 0) := by
  unfold numArr
  rw [List.getElem?_toArray, List.getElem?_append_right (by simp), List.length_map, List.length_range, Nat.sub_self, List.getElem?_replicate, if_pos (by omega)]
theorem numArr_7 (n : Nat → Nat) : numArr n 7 = #[.int .u64 (n 0 : Int), .int .u64 (n 1 : Int), .int .u64 (n 2 : Int), .int .u64 (n 3 : Int), .int .u64 (n 4 : Int), .int .u64 (n 5 : Int), .int .u64 (n 6 : Int)] := rfl
/-- while a part is read: the reader r, its numbers (A), the part (P) -/
structure DR (W : World) (r A P : Nat) (st : Wire.St) (ar cs : Array Value) (w : World) : Prop where
  rd : RdR w r st
  ba : Blk w A 80 ar
  bp : Blk w P 30 cs
  kp : Kp (fun b => b = r ∨ b = P) W w
  o1 : r < A
  o2 : A < P
  o3 : P < W.heap.size
section
variable {W w w' : World} {r A P : Nat} {st st' : Wire.St} {ar cs : Array Value}
theorem DR.read (h : DR W r A P st ar cs w) (hg : w.grownBy w' (some r)) (hr : RdR w' r st') : DR W r A P st' ar cs w' := by
  have h1 := h.o1
  have h2 := h.o2
  have hk := Kp.of_row hg
  exact ⟨hr, hk.blk h.ba (A := (· = r)) (by omega), hk.blk h.bp (A := (· = r)) (by omega), h.kp.trans (hk.mono fun b hb => .inl hb), h1, h2, h.o3⟩
theorem DR.set (h : DR W r A P st ar cs w) (i : Nat) (u : Value) : DR W r A P st ar (cs.setIfInBounds i u) (w.setCell ⟨P, i, none⟩ u) := by
  have h1 := h.o1
  have h2 := h.o2
  exact ⟨h.rd.set (by omega) _ _, h.ba.far (p := ⟨P, i, none⟩) (by show A ≠ P; omega) u, h.bp.set i u, h.kp.set (p := ⟨P, i, none⟩) (.inr rfl) u, h1, h2, h.o3⟩
theorem DR.keep (h : DR W r A P st ar cs w) (hb : Below w.heap.size w w') : DR W r A P st ar cs w' :=
  ⟨h.rd.keep hb, h.ba.keep hb, h.bp.keep hb, h.kp.ext (hb.mono h.kp.size), h.o1, h.o2, h.o3⟩
theorem DR.above (h : DR W r A P st ar cs w) (hb : Below W.heap.size w w') : DR W r A P st ar cs w' := by
  have h1 := h.o1
  have h2 := h.o2
  have h3 := h.o3
  exact ⟨h.rd.below hb (by omega), h.ba.below hb (by omega), h.bp.below hb h3, h.kp.ext hb, h1, h2, h3⟩
end
theorem numR_lit {r : Nat} {st st' : Wire.St} {w : World} {m : Nat} (h : RdR w r st) (hm : (Wire.num st).1 = m) (hs : nx st = st') :
    Calls Try.prog 56 #[.pointer (some ⟨r, 0, none⟩)] w fun e w' => e = .returned (.int .u64 (m : Int)) ∧ RdR w' r st' ∧ w.grownBy w' (some r) := by
  subst hm hs
  exact refNum_any r st w h
theorem textR_lit {r : Nat} {st st' : Wire.St} {w : World} {t : ByteArray} (h : RdR w r st) (ht : strOf (Wire.text st).1 = t) (hs : (Wire.text st).2 = st') :
    Calls Try.prog 57 #[.pointer (some ⟨r, 0, none⟩)] w fun e w' => e = .returned (.string t) ∧ RdR w' r st' ∧ w.grownBy w' (some r) := by
  subst ht hs
  exact refText_any r st w h
theorem meas_succ_u {k m : Nat} (h : k < m) : m - (intOf (Value.int .u64 ((k : Int) + 1))).toNat < m - (intOf (Value.int .u64 (k : Int))).toNat := by
  simp [intOf]
  omega
def JR (W : World) (r A P : Nat) (st1 st2 : Wire.St) (ar : Array Value) (c0 : Value → Array Value) (sl : Value) (cs : List Cg) (x : Cg) : List Value → World → Prop
  | [], w => DR W r A P st1 ar (c0 sl) w ∧ OwC w W.heap.size sl cs
  | [_], w => DR W r A P st2 ar (c0 sl) w ∧ OwC w W.heap.size sl cs
  | [_, u], w => DR W r A P st2 ar (c0 sl) w ∧ OwC w W.heap.size sl cs ∧ (∃ g c, u = .slice (some ⟨g, 0, none⟩) 1 c ∧ 1 ≤ c ∧ w.rangeAt g 0 (cgL x))
  | [_, _, u], w => DR W r A P st2 ar (c0 sl) w ∧ OwC w W.heap.size u (cs ++ [x])
  | [_, _, u, _], w => DR W r A P st2 ar (c0 u) w ∧ OwC w W.heap.size u (cs ++ [x])
  | _, _ => False
set_option maxRecDepth 100000 in
set_option maxHeartbeats 1000000 in
theorem decR_shut (w : World) (s : ByteArray) (hs : s.size ≤ maxLen) (ho : Crc.opens s.data.toList = false) : Calls Try.prog 21 #[.string s] w (DecT w zeroP 4) := by
  unfold DecT
  have HOP := Lib.hid (fun w => refOpen_any s w hs)
  rw [openV, if_neg (by rw [ho]; exact Bool.false_ne_true)] at HOP
  have hb0 := (Below.refl w.heap.size w).alloc (Nat.le_refl _) (Obj.cells #[.int .u64 0, .int .u64 0, .int .u64 0, .int .u64 0, .int .i64 0, .int .i64 0, .slice none 0 0] 30)
  have hz0 := Blk.new w 30 #[.int .u64 0, .int .u64 0, .int .u64 0, .int .u64 0, .int .i64 0, .int .i64 0, .slice none 0 0]
  clear ho hs
  go_enter Try.func21, Try.ntmps21
  go_wp2_with fail
  generalize w.alloc (Obj.cells #[.int .u64 0, .int .u64 0, .int .u64 0, .int .u64 0, .int .i64 0, .int .i64 0, .slice none 0 0] 30) = w1 at *
  have HB0 := Lib.hid hb0
  have HZ0 := Lib.hid hz0
  clear hb0 hz0
  refine (HOP.out w1).mono ?_
  rintro e w2 ⟨rfl, hb⟩
  have HB2 := Lib.hid (HB0.out.trans (hb.mono HB0.out.size))
  have HZ2 := Lib.hid (HZ0.out.keep hb)
  clear hb
  go_wp2_with (refine wpList_store_then rfl 30 _ _ rfl w.heap.size #[.int .u64 0, .int .u64 0, .int .u64 0, .int .u64 0, .int .i64 0, .int .i64 0, .slice none 0 0] rfl rfl 30 _ HZ2.out part_size rfl (part_one _ _ _ _ _ _ _ _ _) ?_)
  refine Later.mk fun w9 hw9 => ?_
  have H9 := Lib.hid (show Below w.heap.size w w9 ∧ Blk w9 w.heap.size 30 #[.int .u64 0, .int .u64 0, .int .u64 0, .int .u64 0, .int .i64 0, .int .i64 0, .slice none 0 0] by
    rw [hw9]
    exact ⟨Below.setRow HB2.out (Nat.le_refl _) _, HZ2.out.row _⟩)
  clear hw9
  go_wp2
  refine bodyPost_ret (results_cell2 (ty := 30) (g := w.heap.size) (k := 2) (m := 3) rfl rfl rfl H9.out.2 Try.underlying30 rfl part_size) rfl ⟨_, rfl, ⟨_, rfl, OwC.nil_ _ _, zero_wf⟩, H9.out.1⟩
set_option maxRecDepth 100000 in
set_option maxHeartbeats 4000000 in
theorem decR_open (w : World) (s : ByteArray) (hs : s.size ≤ maxLen) (hs2 : s.size ≤ 1152921504606846976) (ho : Crc.opens s.data.toList = true) : Calls Try.prog 21 #[.string s] w (DecT w (decP 99 9 s) (decE 99 9 s)) := by
  unfold DecT
  have HOP := Lib.hid (fun w => refOpen_any s w hs)
  rw [openV, if_pos ho] at HOP
  have HLN := Lib.hid (show (s.data.toList.take (s.size - 4)).length ≤ 1152921504606846976 by
    rw [List.length_take, Array.length_toList]
    show min (s.size - 4) s.size ≤ _
    omega)
  have hgood := fun h : okP (readP 99 9 (txt s)) ∧ encS (readP 99 9 (txt s)) = s => show decP 99 9 s = readP 99 9 (txt s) ∧ decE 99 9 s = 0 from ⟨if_pos ⟨ho, h⟩, if_pos ⟨ho, h⟩⟩
  have hbad := fun h : ¬ (okP (readP 99 9 (txt s)) ∧ encS (readP 99 9 (txt s)) = s) => show decP 99 9 s = zeroP ∧ decE 99 9 s = 4 from ⟨if_neg (fun q => h q.2), if_neg (fun q => h q.2)⟩
  generalize decP 99 9 s = dp at *
  generalize decE 99 9 s = de at *
  obtain ⟨p, hp⟩ : ∃ p, p = readP 99 9 (txt s) := ⟨_, rfl⟩
  rw [← hp] at hgood hbad
  have HGOOD := Lib.hid hgood
  have HBAD := Lib.hid hbad
  have HWF := Lib.hid (show wfPr p by rw [hp]; exact read_wf 99 9 _ (by omega))
  obtain ⟨SS, hSS⟩ : ∃ SS : Nat → Wire.St, ∀ k, SS k = nSt (txt s) k := ⟨_, fun _ => rfl⟩
  obtain ⟨n, hn⟩ : ∃ n : Nat → Nat, ∀ k, (Wire.num (SS k)).1 = n k := ⟨_, fun _ => rfl⟩
  have hnx : ∀ k, nx (SS k) = SS (k + 1) := fun k => by rw [hSS, hSS]; rfl
  have hat : ∀ k, nAt (txt s) k = n k := fun k => by rw [← hn, hSS]; rfl
  obtain ⟨m4, hm4⟩ : ∃ m, min (n 4) 99 = m := ⟨_, rfl⟩
  obtain ⟨m5, hm5⟩ : ∃ m, min (n 5) 99 = m := ⟨_, rfl⟩
  obtain ⟨cnt, hcnt⟩ : ∃ m, min (n 6) 9 = m := ⟨_, rfl⟩
  have hpp : p = ⟨((n 0 : Nat), (n 1 : Nat)), ((n 2 : Nat), (n 3 : Nat)), (m4 : Nat), (m5 : Nat), chgL 99 (SS 7) cnt⟩ := by
    rw [hp]
    unfold readP
    rw [hat, hat, hat, hat, hat, hat, hat, hm4, hm5, hcnt, ← hSS]
  have HP := Lib.hid hpp
  have HSS0 := Lib.hid (show SS 0 = txt s from hSS 0)
  have HN := Lib.hid hn
  have HNX := Lib.hid hnx
  have HM := Lib.hid (show min ((n 4 : Nat) : Int) 99 = (m4 : Int) ∧ min ((n 5 : Nat) : Int) 99 = (m5 : Int) ∧ IntKind.i64.wrap (m4 : Int) = (m4 : Int) ∧ IntKind.i64.wrap (m5 : Int) = (m5 : Int) ∧ wrap64 (m4 : Int) = (m4 : Int) ∧ wrap64 (m5 : Int) = (m5 : Int) from
    ⟨by omega, by omega, IntWalk.i64_in _ (by omega), IntWalk.i64_in _ (by omega), IntWalk.wrap64_in _ (by omega), IntWalk.wrap64_in _ (by omega)⟩)
  have HC2 := Lib.hid (show cnt ≤ 9 ∧ cnt ≤ n 6 ∧ (cnt < 9 → n 6 = cnt) from by omega)
  obtain ⟨CS, hCS⟩ : ∃ CS : Nat → Wire.St, ∀ k, CS k = cSt (SS 7) k := ⟨_, fun _ => rfl⟩
  obtain ⟨X, hX⟩ : ∃ X : Nat → Cg, ∀ k, X k = rChg 99 (CS k) := ⟨_, fun _ => rfl⟩
  obtain ⟨S, hS⟩ : ∃ S : Nat → List Cg, ∀ k, S k = chgL 99 (SS 7) k := ⟨_, fun _ => rfl⟩
  have HS0 := Lib.hid (show S 0 = [] ∧ CS 0 = SS 7 from ⟨by rw [hS]; rfl, by rw [hCS]; rfl⟩)
  have HSN := Lib.hid (fun k => show S (k + 1) = S k ++ [X k] by rw [hS, hS, hX, hCS, chgL_succ])
  have HSL := Lib.hid (fun k => show (S k).length = k by rw [hS, chgL_length])
  have HCS := Lib.hid (fun k => show (Wire.text (nx (CS k))).2 = CS (k + 1) by rw [hCS, hCS]; rfl)
  have HX := Lib.hid hX
  have HSE := Lib.hid (show p.cs = S cnt by rw [hpp, hS])
  have hb0 := (Below.refl w.heap.size w).alloc (Nat.le_refl _) (Obj.cells #[.int .u64 0, .int .u64 0, .int .u64 0, .int .u64 0, .int .i64 0, .int .i64 0, .slice none 0 0] 30)
  have hz0 := Blk.new w 30 #[.int .u64 0, .int .u64 0, .int .u64 0, .int .u64 0, .int .i64 0, .int .i64 0, .slice none 0 0]
  clear ho hs hs2 hgood hbad hp hpp hSS hn hnx hat hm4 hm5 hcnt hCS hX hS
  go_enter Try.func21, Try.ntmps21
  go_wp2_with fail
  generalize w.alloc (Obj.cells #[.int .u64 0, .int .u64 0, .int .u64 0, .int .u64 0, .int .i64 0, .int .i64 0, .slice none 0 0] 30) = w1 at *
  have HB0 := Lib.hid hb0
  have HZ0 := Lib.hid hz0
  clear hb0 hz0
  refine (HOP.out w1).mono ?_
  rintro e w2 ⟨rfl, hb⟩
  have HB2 := Lib.hid (HB0.out.trans (hb.mono HB0.out.size))
  have HZ2 := Lib.hid (HZ0.out.keep hb)
  clear hb HZ0 HB0 HOP
  go_wp2_with fail
  obtain ⟨arr, harr⟩ : ∃ ar : Array Value, ar = #[.int .u64 0, .int .u64 0, .int .u64 0, .int .u64 0, .int .u64 0, .int .u64 0, .int .u64 0] := ⟨_, rfl⟩
  have hb3 := ((Below.refl w2.heap.size w2).alloc (Nat.le_refl _) (Obj.cells #[.string (strOf (s.data.toList.take (s.size - 4))), .bool false] 79)).alloc (by simp) (Obj.cells #[.int .u64 0, .int .u64 0, .int .u64 0, .int .u64 0, .int .u64 0, .int .u64 0, .int .u64 0] 80)
  have hr3 := (Blk.new w2 79 #[.string (strOf (s.data.toList.take (s.size - 4))), .bool false]).alloc (Obj.cells #[.int .u64 0, .int .u64 0, .int .u64 0, .int .u64 0, .int .u64 0, .int .u64 0, .int .u64 0] 80)
  have ha3 := Blk.newAt (w := w2.alloc (Obj.cells #[.string (strOf (s.data.toList.take (s.size - 4))), .bool false] 79)) 80 #[.int .u64 0, .int .u64 0, .int .u64 0, .int .u64 0, .int .u64 0, .int .u64 0, .int .u64 0] (g := w2.heap.size + 1) (by simp)
  generalize hW1 : (w2.alloc (Obj.cells #[.string (strOf (s.data.toList.take (s.size - 4))), .bool false] 79)).alloc (Obj.cells #[.int .u64 0, .int .u64 0, .int .u64 0, .int .u64 0, .int .u64 0, .int .u64 0, .int .u64 0] 80) = W1 at *
  have HR3 := Lib.hid (show RdR W1 w2.heap.size (SS 0) from by rw [HSS0.out]; exact ⟨HLN.out, hr3⟩)
  have HA3 := Lib.hid (show Blk W1 (w2.heap.size + 1) 80 (numArr n 0) from ha3)
  have HB3 := Lib.hid (HB2.out.trans (hb3.mono HB2.out.size))
  have HZ3 := Lib.hid (And.intro (HZ2.out.keep hb3) HZ2.out.lt)
  have HR0 := Lib.hid HB2.out.size
  clear hb3 hr3 ha3 hW1 harr arr HZ2 HB2 HLN
  generalize w2.heap.size = r at *
  go_loopw [8] (fun i wr => ∃ k : Nat, k ≤ 7 ∧ i = .int .i64 k ∧ RdR wr r (SS k) ∧ Blk wr (r + 1) 80 (numArr n k) ∧ Kp (fun b => b = r ∨ b = r + 1) W1 wr) (fun i _ => 7 - (intOf i).toNat)
  case atStart => exact ⟨0, Nat.zero_le _, rfl, HR3.out, HA3.out, Kp.refl _ _⟩
  case round =>
    obtain ⟨k, hk, rfl, hrd, hba, hkp⟩ := hrel
    have HRD := Lib.hid hrd
    have HBA := Lib.hid hba
    have HKP := Lib.hid hkp
    clear hrd hba hkp
    by_cases hlt : k < 7
    · have i1 : (k : Int) < 7 := by omega
      have i0 : (0 : Int) ≤ (k : Int) := by omega
      have HLT := Lib.hid hlt
      clear hlt hk
      go_wp2_with fail
      refine (numR_lit HRD.out (HN.out k) (HNX.out k)).mono ?_
      rintro e wx ⟨rfl, h1, h2⟩
      have hbx := (Kp.of_row h2).blk HBA.out (A := (· = r)) (by omega)
      have c1 := (hbx.cell k).trans (numArr_old n k HLT.out)
      have f1 := hbx.frozen k
      have hbs := hbx.set k (.int .u64 (n k : Int))
      rw [numArr_set n k HLT.out] at hbs
      have HF := Lib.hid (And.intro (RdR.set h1 (show r ≠ r + 1 by omega) k (.int .u64 (n k : Int))) (And.intro hbs ((HKP.out.trans ((Kp.of_row h2).mono (fun b hb => .inl hb))).set (A := fun b => b = r ∨ b = r + 1) (p := ⟨r + 1, k, none⟩) (.inr rfl) (.int .u64 (n k : Int)))))
      clear hbx hbs h1 h2
      go_wp2
      exact ⟨⟨k + 1, HLT.out, rfl, HF.out.1, HF.out.2.1, HF.out.2.2⟩, meas_succ HLT.out⟩
    · obtain rfl : k = 7 := by omega
      rw [show ((7 : Nat) : Int) = 7 from rfl]
      have ha := HBA.out
      rw [numArr_7] at ha
      have a0 := ha.cell 0
      have a1 := ha.cell 1
      have a2 := ha.cell 2
      have a3 := ha.cell 3
      have a4 := ha.cell 4
      have a5 := ha.cell 5
      simp at a0 a1 a2 a3 a4 a5
      obtain ⟨q1, q2, q3, q4, q5, q6⟩ := HM.out
      have HBR := Lib.hid (show Below w.heap.size w wr from HB3.out.trans (HKP.out.below (fun b hb => by have := HR0.out; omega) HB3.out.size))
      have HZR := Lib.hid (show Blk wr w.heap.size 30 #[.int .u64 0, .int .u64 0, .int .u64 0, .int .u64 0, .int .i64 0, .int .i64 0, .slice none 0 0] from HKP.out.blk HZ3.out.1 (by have := HZ3.out.2; omega))
      have HRZ := Lib.hid (show w.heap.size < r from HZ3.out.2)
      have HSZ := Lib.hid HBA.out.lt
      clear hlt hk ha
      go_wp2_with fail
      clear a0 a1 a2 a3 a4 a5 q1 q2 q3 q4 q5 q6
      have hbb := (Below.refl wr.heap.size wr).alloc (Nat.le_refl _) (Obj.cells #[.int .u64 (n 0 : Int), .int .u64 (n 1 : Int), .int .u64 (n 2 : Int), .int .u64 (n 3 : Int), .int .i64 (m4 : Int), .int .i64 (m5 : Int), .slice none 0 0] 30)
      have hdr : DR (wr.alloc (Obj.cells #[.int .u64 (n 0 : Int), .int .u64 (n 1 : Int), .int .u64 (n 2 : Int), .int .u64 (n 3 : Int), .int .i64 (m4 : Int), .int .i64 (m5 : Int), .slice none 0 0] 30)) r (r + 1) wr.heap.size (SS 7) (numArr n 7) #[.int .u64 (n 0 : Int), .int .u64 (n 1 : Int), .int .u64 (n 2 : Int), .int .u64 (n 3 : Int), .int .i64 (m4 : Int), .int .i64 (m5 : Int), .slice none 0 0] (wr.alloc (Obj.cells #[.int .u64 (n 0 : Int), .int .u64 (n 1 : Int), .int .u64 (n 2 : Int), .int .u64 (n 3 : Int), .int .i64 (m4 : Int), .int .i64 (m5 : Int), .slice none 0 0] 30)) :=
        ⟨HRD.out.keep hbb, HBA.out.keep hbb, Blk.new _ _ _, Kp.refl _ _, by omega, HSZ.out, by simp⟩
      have hz6 := HZR.out.keep hbb
      have hb6 := HBR.out.trans (hbb.mono HBR.out.size)
      generalize hPn : wr.heap.size = P at *
      generalize wr.alloc (Obj.cells #[.int .u64 (n 0 : Int), .int .u64 (n 1 : Int), .int .u64 (n 2 : Int), .int .u64 (n 3 : Int), .int .i64 (m4 : Int), .int .i64 (m5 : Int), .slice none 0 0] 30) = W at *
      obtain ⟨c0, hc0⟩ : ∃ c0 : Value → Array Value, ∀ sl, c0 sl = #[.int .u64 (n 0 : Int), .int .u64 (n 1 : Int), .int .u64 (n 2 : Int), .int .u64 (n 3 : Int), .int .i64 (m4 : Int), .int .i64 (m5 : Int), sl] := ⟨_, fun _ => rfl⟩
      rw [← hc0] at hdr
      have HD13 := Lib.hid hdr
      have HC0 := Lib.hid hc0
      have HZW := Lib.hid hz6
      have HBW := Lib.hid hb6
      clear hbb hdr hz6 hb6 hPn hc0 HRD HBA HKP HBR HZR HSZ
      go_loopw [10] (fun i wr => ∃ (k : Nat) (sl : Value), k ≤ cnt ∧ i = .int .u64 k ∧ DR W r (r + 1) P (CS k) (numArr n 7) (c0 sl) wr ∧ OwC wr W.heap.size sl (S k)) (fun i _ => cnt - (intOf i).toNat)
      case atStart => exact ⟨0, _, Nat.zero_le _, rfl, by rw [HS0.out.2]; exact HD13.out, by rw [HS0.out.1]; exact OwC.nil_ _ _⟩
      case round =>
        obtain ⟨k, sl, hk, rfl, hd, hown⟩ := hrel
        have HDR := Lib.hid hd
        have HOR := Lib.hid hown
        have a6 := hd.ba.cell 6
        rw [numArr_7] at a6
        simp at a6
        clear hd hown
        by_cases hkc : k < cnt
        · have hcx := HX.out k
          have hsn := HSN.out k
          have hcs := HCS.out k
          obtain ⟨hc2, hc3, hc4⟩ := HC2.out
          generalize hXk : X k = x at *
          obtain ⟨xb, xd⟩ := x
          unfold rChg at hcx
          simp only [Prod.mk.injEq] at hcx
          obtain ⟨hxb, hxd⟩ := hcx
          obtain ⟨nb, hnb⟩ : ∃ b, (Wire.num (CS k)).1 = b := ⟨_, rfl⟩
          obtain ⟨b, hb⟩ : ∃ b, min (Wire.num (CS k)).1 99 = b := ⟨_, rfl⟩
          rw [hb] at hxb
          subst hxb
          rw [hnb] at hb
          have hmb : min (nb : Int) 99 = (b : Int) := by omega
          have hwb : IntKind.i64.wrap (b : Int) = (b : Int) ∧ wrap64 (b : Int) = (b : Int) := ⟨IntWalk.i64_in _ (by omega), IntWalk.wrap64_in _ (by omega)⟩
          have HMB := Lib.hid (And.intro hmb hwb)
          have HXX := Lib.hid (And.intro hnb (And.intro hxd.symm (And.intro hsn hcs)))
          have HKC := Lib.hid hkc
          have HLE := Lib.hid (show (S k).length + 1 ≤ 2 ^ 40 from by rw [HSL.out]; omega)
          have i1 : k < n 6 := by omega
          have i2 : (k : Int) < (n 6 : Int) := by omega
          have i3 : (k : Int) < 9 := by omega
          clear hb hxd hsn hcs hk hkc hXk hc2 hc3 hc4 hmb hwb hnb
          go_wp2_with fail
          clear i1 i2 i3 a6
          refine (numR_lit HDR.out.rd HXX.out.1 rfl).mono ?_
          rintro e wx ⟨rfl, h1, h2⟩
          have HDX := Lib.hid (HDR.out.read h2 h1)
          have HOX := Lib.hid (HOR.out.row h2 (by have h3 := HDR.out.o1; have h4 := HDR.out.o2; have h5 := HDR.out.o3; omega))
          obtain ⟨q1, q2, q3⟩ := HMB.out
          clear h1 h2
          go_wp2_with fail
          clear q1 q2 q3
          refine wp_region_chain [4, 6, 7, 9] (kv [(4, .is (.string xd)), (6, .sl 1), (7, .sla ((S k).length + 1)), (9, .is undef)]) (JR W r (r + 1) P (nx (CS k)) (CS (k + 1)) (numArr n 7) c0 sl (S k) ((b : Int), xd)) (by kernel_rfl) (by kernel_rfl) (by kernel_rfl) (kv_inh _) (⟨HDX.out.keep (Below.drew (Below.refl _ _)), HOX.out.keep (Below.drew (Below.refl _ _))⟩) ?_
          intro ν hν
          have n4 : ν 4 = .string xd := hν 4
          obtain ⟨g6, n6⟩ : ∃ g, ν 6 = .slice (some ⟨g, 0, none⟩) 1 1 := hν 6
          obtain ⟨a7, c7, n7⟩ : ∃ a c, ν 7 = .slice a ((S k).length + 1) c := hν 7
          have n9 : ν 9 = undef := hν 9
          clear hν
          refine ch_plain 0 4 1 (by rfl) rfl (by kernel_rfl) (by kernel_rfl) ?_
          apply Exists.intro
          refine ⟨fun st w2 hlo hhi hJ => ?_, ?_⟩
          · clear hlo hhi hJ
            go_simp
            exact And.intro rfl rfl
          simp only [Act.put, List.setIfInBounds_toArray, List.set_cons_succ, List.set_cons_zero, Nat.reduceAdd]
          refine ch_plain 0 2 1 (by rfl) rfl (by kernel_rfl) (by kernel_rfl) ?_
          apply Exists.intro
          refine ⟨fun st w2 hlo hhi hJ => ?_, ?_⟩
          · have hj : Blk w2 P 30 (c0 sl) := by
              have h1 : st = 0 ∨ st = 1 ∨ st = 2 := by omega
              rcases h1 with rfl | rfl | rfl
              · have hj : DR W r (r + 1) P _ _ (c0 sl) w2 ∧ _ := hJ
                exact hj.1.bp
              · have hj : DR W r (r + 1) P _ _ (c0 sl) w2 ∧ _ := hJ
                exact hj.1.bp
              · have hj : DR W r (r + 1) P _ _ (c0 sl) w2 ∧ _ := hJ
                exact hj.1.bp
            rw [HC0.out] at hj
            have hx := hj.cell 6
            simp at hx
            clear hj
            clear hlo hhi hJ
            go_simp
            exact And.intro rfl rfl
          simp only [Act.put, List.setIfInBounds_toArray, List.set_cons_succ, List.set_cons_zero, Nat.reduceAdd]
          refine ch_plain 0 4 1 (by rfl) rfl (by kernel_rfl) (by kernel_rfl) ?_
          apply Exists.intro
          refine ⟨fun st w2 hlo hhi hJ => ?_, ?_⟩
          · clear hlo hhi hJ
            go_simp
            exact And.intro rfl rfl
          simp only [Act.put, List.setIfInBounds_toArray, List.set_cons_succ, List.set_cons_zero, Nat.reduceAdd]
          refine ch_plain 0 4 1 (by rfl) rfl (by kernel_rfl) (by kernel_rfl) ?_
          apply Exists.intro
          refine ⟨fun st w2 hlo hhi hJ => ?_, ?_⟩
          · clear hlo hhi hJ
            go_simp
            exact And.intro rfl rfl
          simp only [Act.put, List.setIfInBounds_toArray, List.set_cons_succ, List.set_cons_zero, Nat.reduceAdd]
          refine ch_special 0 1 (by rfl) rfl (by decide) (by kernel_rfl) (fun w2 hJ => ?_) ?_
          · have hj : DR W r (r + 1) P (nx (CS k)) (numArr n 7) (c0 sl) w2 ∧ OwC w2 W.heap.size sl (S k) := hJ
            go_simp
            refine (textR_lit hj.1.rd HXX.out.2.1 HXX.out.2.2.2).mono ?_
            rintro e w3 ⟨rfl, h1, h2⟩
            exact ⟨_, rfl, rfl, hj.1.read h2 h1, hj.2.row h2 (by have h3 := hj.1.o1; have h4 := hj.1.o2; have h5 := hj.1.o3; omega)⟩
          rw [n4]
          simp only [Act.put, List.setIfInBounds_toArray, List.set_cons_succ, List.set_cons_zero, Nat.reduceAdd]
          refine ch_plain 0 4 1 (by rfl) rfl (by kernel_rfl) (by kernel_rfl) ?_
          apply Exists.intro
          refine ⟨fun st w2 hlo hhi hJ => ?_, ?_⟩
          · clear hlo hhi hJ
            go_simp
            exact And.intro rfl rfl
          simp only [Act.put, List.setIfInBounds_toArray, List.set_cons_succ, List.set_cons_zero, Nat.reduceAdd]
          refine ch_special 1 2 (by rfl) rfl (by decide) (by kernel_rfl) (fun w2 hJ => ?_) ?_
          · have hj : DR W r (r + 1) P (CS (k + 1)) (numArr n 7) (c0 sl) w2 ∧ OwC w2 W.heap.size sl (S k) := hJ
            go_simp
            have hbb := (Below.refl w2.heap.size w2).alloc (Nat.le_refl _) (Obj.cells #[.int .i64 (b : Int), .string xd] 36)
            exact ⟨⟨_, rfl⟩, hj.1.keep hbb, hj.2.keep hbb, ⟨_, _, rfl, Nat.le_refl _, lit_chg _ _ _⟩⟩
          rw [n6]
          simp only [Act.put, List.setIfInBounds_toArray, List.set_cons_succ, List.set_cons_zero, Nat.reduceAdd]
          refine ch_special 2 1 (by rfl) rfl (by decide) (by kernel_rfl) (fun w2 hJ => ?_) ?_
          · have hj : DR W r (r + 1) P (CS (k + 1)) (numArr n 7) (c0 sl) w2 ∧ OwC w2 W.heap.size sl (S k) ∧ (∃ g c, ν 6 = .slice (some ⟨g, 0, none⟩) 1 c ∧ 1 ≤ c ∧ w2.rangeAt g 0 (cgL ((b : Int), xd))) := hJ
            have hws := hj.1.kp.size
            obtain ⟨v', w', hr, hp⟩ := app_chg2 (w := w2) 27 ((b : Int), xd) hj.2.2 hj.2.1 HLE.out hws
            rw [n6] at hr
            rw [exec_append (.tmp 67) (.tmp 72) 27 rfl sl (.slice (some ⟨g6, 0, none⟩) 1 1) rfl rfl v' hr]
            obtain ⟨a8, c8, e8, -⟩ := hp.1.rd
            have hbx := hp.below hj.2.1 hws
            exact ⟨⟨a8, c8, by rw [e8, List.length_append]; rfl⟩, hj.1.above hbx, hp.1⟩
          rw [n7]
          simp only [Act.put, List.setIfInBounds_toArray, List.set_cons_succ, List.set_cons_zero, Nat.reduceAdd]
          refine ch_plain 0 4 1 (by rfl) rfl (by kernel_rfl) (by kernel_rfl) ?_
          apply Exists.intro
          refine ⟨fun st w2 hlo hhi hJ => ?_, ?_⟩
          · clear hlo hhi hJ
            go_simp
            exact And.intro rfl rfl
          simp only [Act.put, List.setIfInBounds_toArray, List.set_cons_succ, List.set_cons_zero, Nat.reduceAdd]
          refine ch_special 3 1 (by rfl) rfl (by decide) (by kernel_rfl) (fun w2 hJ => ?_) ?_
          · have hj : DR W r (r + 1) P (CS (k + 1)) (numArr n 7) (c0 sl) w2 ∧ OwC w2 W.heap.size (ν 7) (S k ++ [((b : Int), xd)]) := hJ
            have hbp := hj.1.bp
            rw [HC0.out] at hbp
            have hx := hbp.cell 6
            have hf := hbp.frozen 6
            simp at hx
            have HJ := Lib.hid hj
            clear hj hJ hbp
            go_simp
            refine ⟨rfl, ?_⟩
            show DR W r (r + 1) P (CS (k + 1)) (numArr n 7) (c0 (.slice a7 ((S k).length + 1) c7)) _ ∧ OwC _ W.heap.size (.slice a7 ((S k).length + 1) c7) (S k ++ [((b : Int), xd)])
            rw [← n7]
            have hs := HJ.out.1.set 6 (ν 7)
            rw [HC0.out] at hs
            rw [HC0.out]
            exact ⟨hs, HJ.out.2.far (p := ⟨P, 6, none⟩) HJ.out.1.o3 _⟩
          rw [n9]
          simp only [Act.put, Nat.reduceAdd]
          refine ch_nil (fun w5 hJ => ?_)
          have HF := Lib.hid (show DR W r (r + 1) P (CS (k + 1)) (numArr n 7) (c0 (ν 7)) w5 ∧ OwC w5 W.heap.size (ν 7) (S k ++ [((b : Int), xd)]) from hJ)
          have I3 := Lib.hid (show IntKind.u64.wrap ((k : Int) + 1) = (k : Int) + 1 from by have h2 := HC2.out.1; have h3 := HKC.out; exact IntWalk.u64_in _ (by omega))
          clear hJ n4 n6 n7 n9
          have i3 := I3.out
          go_wp2
          clear i3
          exact ⟨⟨k + 1, ν 7, HKC.out, rfl, HF.out.1, by rw [HXX.out.2.2.1]; exact HF.out.2⟩, meas_succ_u HKC.out⟩
        · obtain rfl : k = cnt := by omega
          obtain ⟨hc2, hc3, hc4⟩ := HC2.out
          obtain ⟨a3, c3, rfl, -⟩ := HOR.out.rd
          have hbp := HDR.out.bp
          rw [HC0.out, HSL.out] at hbp
          have HO2 := Lib.hid (show OwC wr W.heap.size (.slice a3 k c3) (S k) from by have := HOR.out; rwa [HSL.out] at this)
          have y0 := hbp.cell 0
          have y1 := hbp.cell 1
          have y2 := hbp.cell 2
          have y3 := hbp.cell 3
          have y4 := hbp.cell 4
          have y5 := hbp.cell 5
          have y6 := hbp.cell 6
          simp at y0 y1 y2 y3 y4 y5 y6
          have HBE := Lib.hid (show Below w.heap.size w wr from HBW.out.trans (HDR.out.kp.below (fun b hb => by have h3 := HRZ.out; have h4 := HDR.out.o1; have h5 := HDR.out.o2; omega) HBW.out.size))
          have HZE := Lib.hid (HDR.out.kp.blk HZW.out (by have h3 := HRZ.out; have h4 := HDR.out.o1; have h5 := HDR.out.o2; omega))
          have HIN := Lib.hid (show InPr wr (.agg #[.int .u64 (n 0 : Int), .int .u64 (n 1 : Int), .int .u64 (n 2 : Int), .int .u64 (n 3 : Int), .int .i64 (m4 : Int), .int .i64 (m5 : Int), .slice a3 k c3]) p from ⟨.slice a3 k c3, by rw [HP.out]; rfl, by rw [HSE.out]; exact HO2.out.rd, HWF.out⟩)
          have HLT := Lib.hid (show w.heap.size < W.heap.size from by have h3 := HRZ.out; have h4 := HDR.out.o1; have h5 := HDR.out.o2; have h6 := HDR.out.o3; omega)
          by_cases hk9 : k < 9
          · have i1 : ¬ (k < n 6) := by have := hc4 hk9; omega
            have i2 : ¬ ((k : Int) < (n 6 : Int)) := by omega
            clear hkc hk hbp HOR hc2 hc3 hc4 hk9
            go_wp2_with fail
            clear i1 i2
            refine (encR_any _ _ p HIN.out).mono ?_
            rintro e wy ⟨rfl, hb⟩
            have z0 := cell_later hb y0
            have z1 := cell_later hb y1
            have z2 := cell_later hb y2
            have z3 := cell_later hb y3
            have z4 := cell_later hb y4
            have z5 := cell_later hb y5
            have z6 := cell_later hb y6
            have HBY := Lib.hid (HBE.out.trans (hb.mono HBE.out.size))
            have HZY := Lib.hid (HZE.out.keep hb)
            have HOY := Lib.hid (HO2.out.keep hb)
            clear hb y0 y1 y2 y3 y4 y5 y6 HIN HBE HZE
            by_cases hok : okP p
            · have hce : checkP p = 0 := if_pos hok
              rw [hce]
              by_cases heq : encS p = s
              · obtain ⟨hg1, hg2⟩ := HGOOD.out ⟨hok, heq⟩
                have HG := Lib.hid (And.intro hg1 hg2)
                have e1 : (encS p).toList = s.toList := by rw [heq]
                have e2 : ((encS p).toList != s.toList) = false := by rw [e1]; simp
                clear hg1 hg2 hok hce heq
                go_wp2_with (refine wpList_store_then rfl 30 _ _ rfl w.heap.size #[.int .u64 (n 0 : Int), .int .u64 (n 1 : Int), .int .u64 (n 2 : Int), .int .u64 (n 3 : Int), .int .i64 (m4 : Int), .int .i64 (m5 : Int), .slice a3 k c3] rfl rfl 30 _ HZY.out part_size rfl (part_one _ _ _ _ _ _ _ _ _) ?_)
                refine Later.mk fun w20 hw20 => ?_
                have H9 := Lib.hid (show Below w.heap.size w w20 ∧ Blk w20 w.heap.size 30 #[.int .u64 (n 0 : Int), .int .u64 (n 1 : Int), .int .u64 (n 2 : Int), .int .u64 (n 3 : Int), .int .i64 (m4 : Int), .int .i64 (m5 : Int), .slice a3 k c3] ∧ OwC w20 W.heap.size (.slice a3 k c3) p.cs by
                  rw [hw20, HSE.out]
                  exact ⟨Below.setRow HBY.out (Nat.le_refl _) _, HZY.out.row _, HOY.out.farRow HLT.out _⟩)
                clear hw20 e1 e2 z0 z1 z2 z3 z4 z5 z6
                go_wp2
                refine bodyPost_ret (results_cell2 (ty := 30) (g := w.heap.size) (k := 2) (m := 3) rfl rfl rfl H9.out.2.1 Try.underlying30 rfl part_size) rfl ⟨.agg #[.int .u64 (n 0 : Int), .int .u64 (n 1 : Int), .int .u64 (n 2 : Int), .int .u64 (n 3 : Int), .int .i64 (m4 : Int), .int .i64 (m5 : Int), .slice a3 k c3], (by rw [HG.out.2] <;> rfl), ⟨.slice a3 k c3, (by rw [HG.out.1, HP.out] <;> rfl), by rw [HG.out.1]; exact H9.out.2.2.mono (Nat.le_of_lt HLT.out), by rw [HG.out.1]; exact HWF.out⟩, H9.out.1⟩
              · obtain ⟨hg1, hg2⟩ := HBAD.out (fun q => heq q.2)
                have HG := Lib.hid (And.intro hg1 hg2)
                have e2 : ((encS p).toList != s.toList) = true := by
                  simp only [bne_iff_ne, ne_eq]
                  intro q
                  exact heq ((str_iff _ _).1 (by simpa using q))
                have e1 : ((encS p).toList == s.toList) = false := by simpa using e2
                have e3 : decide ((encS p).toList = s.toList) = false := by simpa using e2
                clear hg1 hg2 hok hce heq
                go_wp2_with (refine wpList_store_then rfl 30 _ _ rfl w.heap.size #[.int .u64 0, .int .u64 0, .int .u64 0, .int .u64 0, .int .i64 0, .int .i64 0, .slice none 0 0] rfl rfl 30 _ HZY.out part_size rfl (part_one _ _ _ _ _ _ _ _ _) ?_)
                refine Later.mk fun w20 hw20 => ?_
                have H9 := Lib.hid (show Below w.heap.size w w20 ∧ Blk w20 w.heap.size 30 #[.int .u64 0, .int .u64 0, .int .u64 0, .int .u64 0, .int .i64 0, .int .i64 0, .slice none 0 0] by
                  rw [hw20]
                  exact ⟨Below.setRow HBY.out (Nat.le_refl _) _, HZY.out.row _⟩)
                clear hw20 z0 z1 z2 z3 z4 z5 z6
                go_wp2
                refine bodyPost_ret (results_cell2 (ty := 30) (g := w.heap.size) (k := 2) (m := 3) rfl rfl rfl H9.out.2 Try.underlying30 rfl part_size) rfl ⟨.agg #[.int .u64 0, .int .u64 0, .int .u64 0, .int .u64 0, .int .i64 0, .int .i64 0, .slice none 0 0], (by rw [HG.out.2] <;> rfl), ⟨.slice none 0 0, (by rw [HG.out.1] <;> rfl), by rw [HG.out.1]; exact OwC.nil_ _ _, by rw [HG.out.1]; exact zero_wf⟩, H9.out.1⟩
            · have hce : checkP p = 2 := if_neg hok
              rw [hce]
              obtain ⟨hg1, hg2⟩ := HBAD.out (fun q => hok q.1)
              have HG := Lib.hid (And.intro hg1 hg2)
              clear hg1 hg2 hok hce
              go_wp2_with (refine wpList_store_then rfl 30 _ _ rfl w.heap.size #[.int .u64 0, .int .u64 0, .int .u64 0, .int .u64 0, .int .i64 0, .int .i64 0, .slice none 0 0] rfl rfl 30 _ HZY.out part_size rfl (part_one _ _ _ _ _ _ _ _ _) ?_)
              refine Later.mk fun w20 hw20 => ?_
              have H9 := Lib.hid (show Below w.heap.size w w20 ∧ Blk w20 w.heap.size 30 #[.int .u64 0, .int .u64 0, .int .u64 0, .int .u64 0, .int .i64 0, .int .i64 0, .slice none 0 0] by
                rw [hw20]
                exact ⟨Below.setRow HBY.out (Nat.le_refl _) _, HZY.out.row _⟩)
              clear hw20 z0 z1 z2 z3 z4 z5 z6
              go_wp2
              refine bodyPost_ret (results_cell2 (ty := 30) (g := w.heap.size) (k := 2) (m := 3) rfl rfl rfl H9.out.2 Try.underlying30 rfl part_size) rfl ⟨.agg #[.int .u64 0, .int .u64 0, .int .u64 0, .int .u64 0, .int .i64 0, .int .i64 0, .slice none 0 0], (by rw [HG.out.2] <;> rfl), ⟨.slice none 0 0, (by rw [HG.out.1] <;> rfl), by rw [HG.out.1]; exact OwC.nil_ _ _, by rw [HG.out.1]; exact zero_wf⟩, H9.out.1⟩
          · have e9 : k = 9 := by omega
            by_cases h6 : k < n 6
            · have i1 : (k : Int) < (n 6 : Int) := by omega
              have i2 : ¬ ((k : Int) < 9) := by omega
              clear hkc hk hbp HOR hc2 hc3 hc4 hk9 e9
              go_wp2_with fail
              clear i1 i2 h6
              refine (encR_any _ _ p HIN.out).mono ?_
              rintro e wy ⟨rfl, hb⟩
              have z0 := cell_later hb y0
              have z1 := cell_later hb y1
              have z2 := cell_later hb y2
              have z3 := cell_later hb y3
              have z4 := cell_later hb y4
              have z5 := cell_later hb y5
              have z6 := cell_later hb y6
              have HBY := Lib.hid (HBE.out.trans (hb.mono HBE.out.size))
              have HZY := Lib.hid (HZE.out.keep hb)
              have HOY := Lib.hid (HO2.out.keep hb)
              clear hb y0 y1 y2 y3 y4 y5 y6 HIN HBE HZE
              by_cases hok : okP p
              · have hce : checkP p = 0 := if_pos hok
                rw [hce]
                by_cases heq : encS p = s
                · obtain ⟨hg1, hg2⟩ := HGOOD.out ⟨hok, heq⟩
                  have HG := Lib.hid (And.intro hg1 hg2)
                  have e1 : (encS p).toList = s.toList := by rw [heq]
                  have e2 : ((encS p).toList != s.toList) = false := by rw [e1]; simp
                  clear hg1 hg2 hok hce heq
                  go_wp2_with (refine wpList_store_then rfl 30 _ _ rfl w.heap.size #[.int .u64 (n 0 : Int), .int .u64 (n 1 : Int), .int .u64 (n 2 : Int), .int .u64 (n 3 : Int), .int .i64 (m4 : Int), .int .i64 (m5 : Int), .slice a3 k c3] rfl rfl 30 _ HZY.out part_size rfl (part_one _ _ _ _ _ _ _ _ _) ?_)
                  refine Later.mk fun w20 hw20 => ?_
                  have H9 := Lib.hid (show Below w.heap.size w w20 ∧ Blk w20 w.heap.size 30 #[.int .u64 (n 0 : Int), .int .u64 (n 1 : Int), .int .u64 (n 2 : Int), .int .u64 (n 3 : Int), .int .i64 (m4 : Int), .int .i64 (m5 : Int), .slice a3 k c3] ∧ OwC w20 W.heap.size (.slice a3 k c3) p.cs by
                    rw [hw20, HSE.out]
                    exact ⟨Below.setRow HBY.out (Nat.le_refl _) _, HZY.out.row _, HOY.out.farRow HLT.out _⟩)
                  clear hw20 e1 e2 z0 z1 z2 z3 z4 z5 z6
                  go_wp2
                  refine bodyPost_ret (results_cell2 (ty := 30) (g := w.heap.size) (k := 2) (m := 3) rfl rfl rfl H9.out.2.1 Try.underlying30 rfl part_size) rfl ⟨.agg #[.int .u64 (n 0 : Int), .int .u64 (n 1 : Int), .int .u64 (n 2 : Int), .int .u64 (n 3 : Int), .int .i64 (m4 : Int), .int .i64 (m5 : Int), .slice a3 k c3], (by rw [HG.out.2] <;> rfl), ⟨.slice a3 k c3, (by rw [HG.out.1, HP.out] <;> rfl), by rw [HG.out.1]; exact H9.out.2.2.mono (Nat.le_of_lt HLT.out), by rw [HG.out.1]; exact HWF.out⟩, H9.out.1⟩
                · obtain ⟨hg1, hg2⟩ := HBAD.out (fun q => heq q.2)
                  have HG := Lib.hid (And.intro hg1 hg2)
                  have e2 : ((encS p).toList != s.toList) = true := by
                    simp only [bne_iff_ne, ne_eq]
                    intro q
                    exact heq ((str_iff _ _).1 (by simpa using q))
                  have e1 : ((encS p).toList == s.toList) = false := by simpa using e2
                  have e3 : decide ((encS p).toList = s.toList) = false := by simpa using e2
                  clear hg1 hg2 hok hce heq
                  go_wp2_with (refine wpList_store_then rfl 30 _ _ rfl w.heap.size #[.int .u64 0, .int .u64 0, .int .u64 0, .int .u64 0, .int .i64 0, .int .i64 0, .slice none 0 0] rfl rfl 30 _ HZY.out part_size rfl (part_one _ _ _ _ _ _ _ _ _) ?_)
                  refine Later.mk fun w20 hw20 => ?_
                  have H9 := Lib.hid (show Below w.heap.size w w20 ∧ Blk w20 w.heap.size 30 #[.int .u64 0, .int .u64 0, .int .u64 0, .int .u64 0, .int .i64 0, .int .i64 0, .slice none 0 0] by
                    rw [hw20]
                    exact ⟨Below.setRow HBY.out (Nat.le_refl _) _, HZY.out.row _⟩)
                  clear hw20 z0 z1 z2 z3 z4 z5 z6
                  go_wp2
                  refine bodyPost_ret (results_cell2 (ty := 30) (g := w.heap.size) (k := 2) (m := 3) rfl rfl rfl H9.out.2 Try.underlying30 rfl part_size) rfl ⟨.agg #[.int .u64 0, .int .u64 0, .int .u64 0, .int .u64 0, .int .i64 0, .int .i64 0, .slice none 0 0], (by rw [HG.out.2] <;> rfl), ⟨.slice none 0 0, (by rw [HG.out.1] <;> rfl), by rw [HG.out.1]; exact OwC.nil_ _ _, by rw [HG.out.1]; exact zero_wf⟩, H9.out.1⟩
              · have hce : checkP p = 2 := if_neg hok
                rw [hce]
                obtain ⟨hg1, hg2⟩ := HBAD.out (fun q => hok q.1)
                have HG := Lib.hid (And.intro hg1 hg2)
                clear hg1 hg2 hok hce
                go_wp2_with (refine wpList_store_then rfl 30 _ _ rfl w.heap.size #[.int .u64 0, .int .u64 0, .int .u64 0, .int .u64 0, .int .i64 0, .int .i64 0, .slice none 0 0] rfl rfl 30 _ HZY.out part_size rfl (part_one _ _ _ _ _ _ _ _ _) ?_)
                refine Later.mk fun w20 hw20 => ?_
                have H9 := Lib.hid (show Below w.heap.size w w20 ∧ Blk w20 w.heap.size 30 #[.int .u64 0, .int .u64 0, .int .u64 0, .int .u64 0, .int .i64 0, .int .i64 0, .slice none 0 0] by
                  rw [hw20]
                  exact ⟨Below.setRow HBY.out (Nat.le_refl _) _, HZY.out.row _⟩)
                clear hw20 z0 z1 z2 z3 z4 z5 z6
                go_wp2
                refine bodyPost_ret (results_cell2 (ty := 30) (g := w.heap.size) (k := 2) (m := 3) rfl rfl rfl H9.out.2 Try.underlying30 rfl part_size) rfl ⟨.agg #[.int .u64 0, .int .u64 0, .int .u64 0, .int .u64 0, .int .i64 0, .int .i64 0, .slice none 0 0], (by rw [HG.out.2] <;> rfl), ⟨.slice none 0 0, (by rw [HG.out.1] <;> rfl), by rw [HG.out.1]; exact OwC.nil_ _ _, by rw [HG.out.1]; exact zero_wf⟩, H9.out.1⟩
            · have i2 : ¬ ((k : Int) < (n 6 : Int)) := by omega
              clear hkc hk hbp HOR hc2 hc3 hc4 hk9 e9
              go_wp2_with fail
              clear i2 h6
              refine (encR_any _ _ p HIN.out).mono ?_
              rintro e wy ⟨rfl, hb⟩
              have z0 := cell_later hb y0
              have z1 := cell_later hb y1
              have z2 := cell_later hb y2
              have z3 := cell_later hb y3
              have z4 := cell_later hb y4
              have z5 := cell_later hb y5
              have z6 := cell_later hb y6
              have HBY := Lib.hid (HBE.out.trans (hb.mono HBE.out.size))
              have HZY := Lib.hid (HZE.out.keep hb)
              have HOY := Lib.hid (HO2.out.keep hb)
              clear hb y0 y1 y2 y3 y4 y5 y6 HIN HBE HZE
              by_cases hok : okP p
              · have hce : checkP p = 0 := if_pos hok
                rw [hce]
                by_cases heq : encS p = s
                · obtain ⟨hg1, hg2⟩ := HGOOD.out ⟨hok, heq⟩
                  have HG := Lib.hid (And.intro hg1 hg2)
                  have e1 : (encS p).toList = s.toList := by rw [heq]
                  have e2 : ((encS p).toList != s.toList) = false := by rw [e1]; simp
                  clear hg1 hg2 hok hce heq
                  go_wp2_with (refine wpList_store_then rfl 30 _ _ rfl w.heap.size #[.int .u64 (n 0 : Int), .int .u64 (n 1 : Int), .int .u64 (n 2 : Int), .int .u64 (n 3 : Int), .int .i64 (m4 : Int), .int .i64 (m5 : Int), .slice a3 k c3] rfl rfl 30 _ HZY.out part_size rfl (part_one _ _ _ _ _ _ _ _ _) ?_)
                  refine Later.mk fun w20 hw20 => ?_
                  have H9 := Lib.hid (show Below w.heap.size w w20 ∧ Blk w20 w.heap.size 30 #[.int .u64 (n 0 : Int), .int .u64 (n 1 : Int), .int .u64 (n 2 : Int), .int .u64 (n 3 : Int), .int .i64 (m4 : Int), .int .i64 (m5 : Int), .slice a3 k c3] ∧ OwC w20 W.heap.size (.slice a3 k c3) p.cs by
                    rw [hw20, HSE.out]
                    exact ⟨Below.setRow HBY.out (Nat.le_refl _) _, HZY.out.row _, HOY.out.farRow HLT.out _⟩)
                  clear hw20 e1 e2 z0 z1 z2 z3 z4 z5 z6
                  go_wp2
                  refine bodyPost_ret (results_cell2 (ty := 30) (g := w.heap.size) (k := 2) (m := 3) rfl rfl rfl H9.out.2.1 Try.underlying30 rfl part_size) rfl ⟨.agg #[.int .u64 (n 0 : Int), .int .u64 (n 1 : Int), .int .u64 (n 2 : Int), .int .u64 (n 3 : Int), .int .i64 (m4 : Int), .int .i64 (m5 : Int), .slice a3 k c3], (by rw [HG.out.2] <;> rfl), ⟨.slice a3 k c3, (by rw [HG.out.1, HP.out] <;> rfl), by rw [HG.out.1]; exact H9.out.2.2.mono (Nat.le_of_lt HLT.out), by rw [HG.out.1]; exact HWF.out⟩, H9.out.1⟩
                · obtain ⟨hg1, hg2⟩ := HBAD.out (fun q => heq q.2)
                  have HG := Lib.hid (And.intro hg1 hg2)
                  have e2 : ((encS p).toList != s.toList) = true := by
                    simp only [bne_iff_ne, ne_eq]
                    intro q
                    exact heq ((str_iff _ _).1 (by simpa using q))
                  have e1 : ((encS p).toList == s.toList) = false := by simpa using e2
                  have e3 : decide ((encS p).toList = s.toList) = false := by simpa using e2
                  clear hg1 hg2 hok hce heq
                  go_wp2_with (refine wpList_store_then rfl 30 _ _ rfl w.heap.size #[.int .u64 0, .int .u64 0, .int .u64 0, .int .u64 0, .int .i64 0, .int .i64 0, .slice none 0 0] rfl rfl 30 _ HZY.out part_size rfl (part_one _ _ _ _ _ _ _ _ _) ?_)
                  refine Later.mk fun w20 hw20 => ?_
                  have H9 := Lib.hid (show Below w.heap.size w w20 ∧ Blk w20 w.heap.size 30 #[.int .u64 0, .int .u64 0, .int .u64 0, .int .u64 0, .int .i64 0, .int .i64 0, .slice none 0 0] by
                    rw [hw20]
                    exact ⟨Below.setRow HBY.out (Nat.le_refl _) _, HZY.out.row _⟩)
                  clear hw20 z0 z1 z2 z3 z4 z5 z6
                  go_wp2
                  refine bodyPost_ret (results_cell2 (ty := 30) (g := w.heap.size) (k := 2) (m := 3) rfl rfl rfl H9.out.2 Try.underlying30 rfl part_size) rfl ⟨.agg #[.int .u64 0, .int .u64 0, .int .u64 0, .int .u64 0, .int .i64 0, .int .i64 0, .slice none 0 0], (by rw [HG.out.2] <;> rfl), ⟨.slice none 0 0, (by rw [HG.out.1] <;> rfl), by rw [HG.out.1]; exact OwC.nil_ _ _, by rw [HG.out.1]; exact zero_wf⟩, H9.out.1⟩
              · have hce : checkP p = 2 := if_neg hok
                rw [hce]
                obtain ⟨hg1, hg2⟩ := HBAD.out (fun q => hok q.1)
                have HG := Lib.hid (And.intro hg1 hg2)
                clear hg1 hg2 hok hce
                go_wp2_with (refine wpList_store_then rfl 30 _ _ rfl w.heap.size #[.int .u64 0, .int .u64 0, .int .u64 0, .int .u64 0, .int .i64 0, .int .i64 0, .slice none 0 0] rfl rfl 30 _ HZY.out part_size rfl (part_one _ _ _ _ _ _ _ _ _) ?_)
                refine Later.mk fun w20 hw20 => ?_
                have H9 := Lib.hid (show Below w.heap.size w w20 ∧ Blk w20 w.heap.size 30 #[.int .u64 0, .int .u64 0, .int .u64 0, .int .u64 0, .int .i64 0, .int .i64 0, .slice none 0 0] by
                  rw [hw20]
                  exact ⟨Below.setRow HBY.out (Nat.le_refl _) _, HZY.out.row _⟩)
                clear hw20 z0 z1 z2 z3 z4 z5 z6
                go_wp2
                refine bodyPost_ret (results_cell2 (ty := 30) (g := w.heap.size) (k := 2) (m := 3) rfl rfl rfl H9.out.2 Try.underlying30 rfl part_size) rfl ⟨.agg #[.int .u64 0, .int .u64 0, .int .u64 0, .int .u64 0, .int .i64 0, .int .i64 0, .slice none 0 0], (by rw [HG.out.2] <;> rfl), ⟨.slice none 0 0, (by rw [HG.out.1] <;> rfl), by rw [HG.out.1]; exact OwC.nil_ _ _, by rw [HG.out.1]; exact zero_wf⟩, H9.out.1⟩
theorem decR_any (w : World) (s : ByteArray) (hs2 : s.size ≤ 1152921504606846976) : Calls Try.prog 21 #[.string s] w (DecT w (decP 99 9 s) (decE 99 9 s)) := by
  have hs : s.size ≤ maxLen := by unfold maxLen; omega
  cases ho : Crc.opens s.data.toList with
  | true => exact decR_open w s hs hs2 ho
  | false =>
    have e1 : decP 99 9 s = zeroP := if_neg (fun h => by have := h.1; rw [ho] at this; cases this)
    have e2 : decE 99 9 s = 4 := if_neg (fun h => by have := h.1; rw [ho] at this; cases this)
    rw [e1, e2]
    exact decR_shut w s hs ho
end Go.Proofs.Ytpfdpodelkleiaa
