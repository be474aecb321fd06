/-
  STREAM: Decode of the program (printed by wip/gen-stmm.py).
-/


import Derived.Test.YtikimmhkfjaijaaQStmL
namespace Go.Proofs.Ytikimmhkfjaijaa
open Go.RowKit Reg Go.ChangeShapes

theorem OwC.row {w w' : World} {base r : Nat} {v : Value} {cs : List Cg} (h : OwC w base v cs) (hg : w.grownBy w' (some r)) (hr : r < base) : OwC w' base v cs := by
  refine ⟨⟨h.1.1, ?_⟩, h.2⟩
  rcases h.1.2 with hn | ⟨g, cap, cur, rfl, hb, hh, rest⟩
  · exact .inl hn
  · exact .inr ⟨g, cap, cur, rfl, hb, (hg.block g (lt_of_block hh) (fun e => by have := Option.some.inj e; omega)).trans hh, rest⟩
theorem Blk.there {w : World} {g : Nat} {t : TypeId} {cs : Array Value} (h : Blk w g t cs) {o n : Nat} (hn : o + n ≤ cs.size) : w.there g o n := fun j hj => by
  rw [h.cell, h.frozen, Array.getElem?_eq_getElem (by omega)]
  exact ⟨rfl, rfl⟩
/-- while a part is read: the reader r, where its pointer lies (q), the part (P) -/
structure DQ (W : World) (r q P : Nat) (st : Wire.St) (cs : Array Value) (w : World) : Prop where
  rd : Rdr w r st
  bp : Blk w P 31 cs
  bq : Blk w q 66 #[.pointer (some ⟨r, 0, none⟩)]
  kp : Kp (fun b => b = r ∨ b = P) W w
  o1 : r < q
  o2 : q < P
  o3 : P < W.heap.size
section
variable {W w w' : World} {r q P : Nat} {st st' : Wire.St} {cs : Array Value}
theorem DQ.read (h : DQ W r q P st cs w) (hg : w.grownBy w' (some r)) (hr : Rdr w' r st') : DQ W r q P st' cs w' := by
  have h1 := h.o1
  have h2 := h.o2
  have hk := Kp.of_row hg
  exact ⟨hr, hk.blk h.bp (A := (· = r)) (by omega), hk.blk h.bq (A := (· = r)) (by omega), h.kp.trans (hk.mono fun b hb => .inl hb), h1, h2, h.o3⟩
theorem DQ.set (h : DQ W r q P st cs w) (i : Nat) (u : Value) : DQ W r q P st (cs.setIfInBounds i u) (w.setCell ⟨P, i, none⟩ u) := by
  have h1 := h.o1
  have h2 := h.o2
  refine ⟨h.rd.below ((Below.refl P w).setCell (Nat.le_refl _) _) (by omega), h.bp.set i u, h.bq.far (p := ⟨P, i, none⟩) (by show q ≠ P; omega) u, h.kp.set (p := ⟨P, i, none⟩) (.inr rfl) u, h1, h2, h.o3⟩
theorem DQ.keep (h : DQ W r q P st cs w) (hb : Below w.heap.size w w') : DQ W r q P st cs w' :=
  ⟨h.rd.keep hb, h.bp.keep hb, h.bq.keep hb, h.kp.ext (hb.mono h.kp.size), h.o1, h.o2, h.o3⟩
theorem DQ.above (h : DQ W r q P st cs w) (hb : Below W.heap.size w w') : DQ W r q P st cs w' := by
  have h1 := h.o1
  have h2 := h.o2
  have h3 := h.o3
  exact ⟨h.rd.below hb (by omega), h.bp.below hb h3, h.bq.below hb (by omega), h.kp.ext hb, h1, h2, h3⟩
end
theorem gd_lit {r q : Nat} {st st' : Wire.St} {w : World} {a b : Nat} (h : Rdr w r st) (hq : Blk w q 66 #[.pointer (some ⟨r, 0, none⟩)]) (hne : q ≠ r) (ha : (Wire.num st).1 = a) (hb : (Wire.num (nx st)).1 = b) (hs : nx (nx st) = st') :
    Calls Try.prog 77 #[.pointer (some ⟨q, 0, none⟩)] w fun e w' => e = .returned (.agg #[.int .u64 (a : Int), .int .u64 (b : Int)]) ∧ Rdr w' r st' ∧ w.grownBy w' (some r) := by
  subst ha hb hs
  exact gd_any r q st w h hq hne
theorem small_lit {r q : Nat} {st st' : Wire.St} {w : World} {m : Nat} (h : Rdr w r st) (hq : Blk w q 66 #[.pointer (some ⟨r, 0, none⟩)]) (hm : min (Wire.num st).1 9 = m) (hs : nx st = st') :
    Calls Try.prog 76 #[.pointer (some ⟨q, 0, none⟩)] w fun e w' => e = .returned (.int .i64 (m : Int)) ∧ Rdr w' r st' ∧ w.grownBy w' (some r) := by
  subst hm hs
  exact small_any r q st w h hq
theorem text_lit2 {r : Nat} {st st' : Wire.St} {w : World} {t : ByteArray} (h : Rdr w r st) (ht : strOf (Wire.text st).1 = t) (hs : (Wire.text st).2 = st') :
    Calls Try.prog 71 #[.pointer (some ⟨r, 0, none⟩)] w fun e w' => e = .returned (.string t) ∧ Rdr w' r st' ∧ w.grownBy w' (some r) := by
  subst ht hs
  exact text_any r st w h
/-- 'p.Changes = append(p.Changes, Change{block, r.Text()})': the text, the literal, the append, the store -/
def JD (W : World) (r q P : Nat) (st1 st2 : Wire.St) (c0 : Value → Array Value) (sl : Value) (cs : List Cg) (x : Cg) : List Value → World → Prop
  | [], w => DQ W r q P st1 (c0 sl) w ∧ OwC w W.heap.size sl cs
  | [_], w => DQ W r q P st2 (c0 sl) w ∧ OwC w W.heap.size sl cs
  | [_, u], w => DQ W r q P st2 (c0 sl) w ∧ OwC w W.heap.size sl cs ∧ (∃ g c, u = .slice (some ⟨g, 0, none⟩) 1 c ∧ 1 ≤ c ∧ w.rangeAt g 0 (cgL x))
  | [_, _, u], w => DQ W r q P st2 (c0 sl) w ∧ OwC w W.heap.size u (cs ++ [x])
  | [_, _, u, _], w => DQ W r q P st2 (c0 u) w ∧ OwC w W.heap.size u (cs ++ [x])
  | _, _ => False
def DecT (w : World) (p : Prt) (z : Int) (e : Ending) (w' : World) : Prop := ∃ v, e = .returned (.tuple #[v, .int .i64 z]) ∧ OwPr w' w.heap.size v p ∧ Below w.heap.size w w'
theorem guid_two (a b : Int) : ((#[Value.int .u64 a, Value.int .u64 b] : Array Value).all fun x => x.oneCell') = true := by
  rw [← Array.all_toList]
  rfl
set_option maxRecDepth 100000 in
set_option maxHeartbeats 1000000 in
theorem dec_shut (w : World) (s : ByteArray) (hs : s.size ≤ maxLen) (ho : Crc.opens s.data.toList = false) : Calls Try.prog 70 #[.string s] w (DecT w zeroP 4) := by
  unfold DecT
  have HOP := Lib.hid (fun w => open_any s w hs)
  rw [openV, if_neg (by rw [ho]; exact Bool.false_ne_true)] at HOP
  have hb0 := (Below.refl w.heap.size w).alloc (Nat.le_refl _) (Obj.cells #[.int .u64 0, .int .u64 0, .int .u64 0, .int .u64 0, .int .i64 0, .int .i64 0, .slice none 0 0] 31)
  have hz0 := Blk.new w 31 #[.int .u64 0, .int .u64 0, .int .u64 0, .int .u64 0, .int .i64 0, .int .i64 0, .slice none 0 0]
  clear ho hs
  go_enter Try.func70, Try.ntmps70
  go_wp2_with fail
  generalize w.alloc (Obj.cells #[.int .u64 0, .int .u64 0, .int .u64 0, .int .u64 0, .int .i64 0, .int .i64 0, .slice none 0 0] 31) = w1 at *
  have HB0 := Lib.hid hb0
  have HZ0 := Lib.hid hz0
  clear hb0 hz0
  refine (HOP.out w1).mono ?_
  rintro e w2 ⟨rfl, hb⟩
  have HB2 := Lib.hid (HB0.out.trans (hb.mono HB0.out.size))
  have HZ2 := Lib.hid (HZ0.out.keep hb)
  clear hb
  go_wp2_with (refine wpList_store_then rfl 31 _ _ rfl w.heap.size #[.int .u64 0, .int .u64 0, .int .u64 0, .int .u64 0, .int .i64 0, .int .i64 0, .slice none 0 0] rfl rfl 31 _ HZ2.out part_size rfl (part_one _ _ _ _ _ _ _ _ _) ?_)
  refine Later.mk fun w9 hw9 => ?_
  have H9 := Lib.hid (show Below w.heap.size w w9 ∧ Blk w9 w.heap.size 31 #[.int .u64 0, .int .u64 0, .int .u64 0, .int .u64 0, .int .i64 0, .int .i64 0, .slice none 0 0] by
    rw [hw9]
    exact ⟨Below.setRow HB2.out (Nat.le_refl _) _, HZ2.out.row _⟩)
  clear hw9
  go_wp2
  refine bodyPost_ret (results_cell2 (ty := 31) (g := w.heap.size) (k := 2) (m := 3) rfl rfl rfl H9.out.2 Try.underlying31 rfl part_size) rfl ⟨_, rfl, ⟨_, rfl, OwC.nil_ _ _, zero_wf⟩, H9.out.1⟩
set_option maxRecDepth 100000 in
set_option maxHeartbeats 4000000 in
theorem dec_open (w : World) (s : ByteArray) (hs : s.size ≤ maxLen) (hs2 : s.size ≤ 1152921504606846976) (ho : Crc.opens s.data.toList = true) : Calls Try.prog 70 #[.string s] w (DecT w (decP 9 2 s) (decE 9 2 s)) := by
  unfold DecT
  have hmf : ∀ (fn : Fn) (first cap : Array Value) (w : World), (Instr.makeFunc fn first cap).run Try.prog w = .ok (.func fn first cap) w := fun _ _ _ _ => rfl
  have HOP := Lib.hid (fun w => open_any s w hs)
  rw [openV, if_pos ho] at HOP
  have HNR := Lib.hid (fun w => newReader_any (strOf (s.data.toList.take (s.size - 4))) w (by
    rw [strOf_size, List.length_take, Array.length_toList]
    show min (s.size - 4) s.size ≤ _
    omega))
  have hgood := fun h : okP (readP 9 2 (txt s)) ∧ encS (readP 9 2 (txt s)) = s => show decP 9 2 s = readP 9 2 (txt s) ∧ decE 9 2 s = 0 from ⟨if_pos ⟨ho, h⟩, if_pos ⟨ho, h⟩⟩
  have hbad := fun h : ¬ (okP (readP 9 2 (txt s)) ∧ encS (readP 9 2 (txt s)) = s) => show decP 9 2 s = zeroP ∧ decE 9 2 s = 4 from ⟨if_neg (fun q => h q.2), if_neg (fun q => h q.2)⟩
  generalize decP 9 2 s = dp at *
  generalize decE 9 2 s = de at *
  obtain ⟨p, hp⟩ : ∃ p, p = readP 9 2 (txt s) := ⟨_, rfl⟩
  rw [← hp] at hgood hbad
  have HGOOD := Lib.hid hgood
  have HBAD := Lib.hid hbad
  have HWF := Lib.hid (show wfPr p by rw [hp]; exact read_wf 9 2 _ (by omega))
  obtain ⟨SS, hSS⟩ : ∃ SS : Nat → Wire.St, ∀ k, SS k = nSt (txt s) k := ⟨_, fun _ => rfl⟩
  obtain ⟨n, hn⟩ : ∃ n : Nat → Nat, ∀ k, (Wire.num (SS k)).1 = n k := ⟨_, fun _ => rfl⟩
  have hnx : ∀ k, nx (SS k) = SS (k + 1) := fun k => by rw [hSS, hSS]; rfl
  have hat : ∀ k, nAt (txt s) k = n k := fun k => by rw [← hn, hSS]; rfl
  obtain ⟨m4, hm4⟩ : ∃ m, min (n 4) 9 = m := ⟨_, rfl⟩
  obtain ⟨m5, hm5⟩ : ∃ m, min (n 5) 9 = m := ⟨_, rfl⟩
  obtain ⟨m6, hm6⟩ : ∃ m, min (n 6) 9 = m := ⟨_, rfl⟩
  obtain ⟨cnt, hcnt⟩ : ∃ m, min (n 6) 2 = m := ⟨_, rfl⟩
  have hpp : p = ⟨((n 0 : Nat), (n 1 : Nat)), ((n 2 : Nat), (n 3 : Nat)), (m4 : Nat), (m5 : Nat), chgL 9 (SS 7) cnt⟩ := by
    rw [hp]
    unfold readP
    rw [hat, hat, hat, hat, hat, hat, hat, hm4, hm5, hcnt, ← hSS]
  have HP := Lib.hid hpp
  have HSS0 := Lib.hid (show SS 0 = txt s from hSS 0)
  have HN := Lib.hid hn
  have HNX := Lib.hid hnx
  have HM := Lib.hid (And.intro hm4 (And.intro hm5 (And.intro hm6 hcnt)))
  have hmn : min (m6 : Int) 2 = (cnt : Int) := by omega
  have HMN := Lib.hid hmn
  have hc2 : cnt ≤ 2 := by omega
  have HC2 := Lib.hid hc2
  obtain ⟨CS, hCS⟩ : ∃ CS : Nat → Wire.St, ∀ k, CS k = cSt (SS 7) k := ⟨_, fun _ => rfl⟩
  obtain ⟨X, hX⟩ : ∃ X : Nat → Cg, ∀ k, X k = rChg 9 (CS k) := ⟨_, fun _ => rfl⟩
  obtain ⟨S, hS⟩ : ∃ S : Nat → List Cg, ∀ k, S k = chgL 9 (SS 7) k := ⟨_, fun _ => rfl⟩
  have HS0 := Lib.hid (show S 0 = [] ∧ CS 0 = SS 7 from ⟨by rw [hS]; rfl, by rw [hCS]; rfl⟩)
  have HSN := Lib.hid (fun k => show S (k + 1) = S k ++ [X k] by rw [hS, hS, hX, hCS, chgL_succ])
  have HSL := Lib.hid (fun k => show (S k).length = k by rw [hS, chgL_length])
  have HCS := Lib.hid (fun k => show (Wire.text (nx (CS k))).2 = CS (k + 1) by rw [hCS, hCS]; rfl)
  have HX := Lib.hid hX
  have HSE := Lib.hid (show p.cs = S cnt by rw [hpp, hS])
  have hb0 := (Below.refl w.heap.size w).alloc (Nat.le_refl _) (Obj.cells #[.int .u64 0, .int .u64 0, .int .u64 0, .int .u64 0, .int .i64 0, .int .i64 0, .slice none 0 0] 31)
  have hz0 := Blk.new w 31 #[.int .u64 0, .int .u64 0, .int .u64 0, .int .u64 0, .int .i64 0, .int .i64 0, .slice none 0 0]
  clear ho hs hs2 hgood hbad hp hpp hSS hn hnx hat hm4 hm5 hm6 hcnt hmn hc2 hCS hX hS
  go_enter Try.func70, Try.ntmps70
  go_wp2_with fail
  generalize w.alloc (Obj.cells #[.int .u64 0, .int .u64 0, .int .u64 0, .int .u64 0, .int .i64 0, .int .i64 0, .slice none 0 0] 31) = w1 at *
  have HB0 := Lib.hid hb0
  have HZ0 := Lib.hid hz0
  clear hb0 hz0
  refine (HOP.out w1).mono ?_
  rintro e w2 ⟨rfl, hb⟩
  have HB2 := Lib.hid (HB0.out.trans (hb.mono HB0.out.size))
  have HZ2 := Lib.hid (HZ0.out.keep hb)
  clear hb HZ0 HB0 HOP
  go_wp2_with fail
  refine (HNR.out w2).mono ?_
  rintro e w3 ⟨r, rfl, hr, hrd, hb⟩
  have hrd2 : Rdr w3 r (SS 0) := by rw [HSS0.out]; exact hrd
  have hlt := hrd.lt
  have HRR := Lib.hid (And.intro (show w.heap.size ≤ r from Nat.le_trans HB2.out.size hr) hlt)
  have HB3 := Lib.hid (HB2.out.trans (hb.mono HB2.out.size))
  have HZ3 := Lib.hid (And.intro (HZ2.out.keep hb) (show w.heap.size < r from Nat.lt_of_lt_of_le HZ2.out.lt hr))
  have HRD := Lib.hid hrd2
  clear hb hr hrd hrd2 hlt HZ2 HB2 HNR
  go_wp2_with fail
  have hbq := (Below.refl w3.heap.size w3).alloc (Nat.le_refl _) (Obj.cells #[.pointer (some ⟨r, 0, none⟩)] 66)
  have hq := Blk.new w3 66 #[.pointer (some ⟨r, 0, none⟩)]
  have HSQ := Lib.hid (show (w3.alloc (Obj.cells #[.pointer (some ⟨r, 0, none⟩)] 66)).heap.size = w3.heap.size + 1 by simp)
  generalize hqn : w3.heap.size = q at *
  generalize w3.alloc (Obj.cells #[.pointer (some ⟨r, 0, none⟩)] 66) = w4 at *
  have HB4 := Lib.hid (HB3.out.trans (hbq.mono (by rw [← hqn]; exact HB3.out.size)))
  have HZ4 := Lib.hid (And.intro (HZ3.out.1.keep (by rw [hqn]; exact hbq)) HZ3.out.2)
  have HRD4 := Lib.hid (HRD.out.keep (by rw [hqn]; exact hbq))
  have HQ4 := Lib.hid hq
  have HRQ := Lib.hid (show w.heap.size ≤ r ∧ r < q from HRR.out)
  clear hbq hq hqn HB3 HZ3 HRD HRR
  refine (gd_lit (a := n 0) (b := n 1) (st' := SS 2) HRD4.out HQ4.out (by have := HRQ.out; omega) (HN.out 0) (by rw [HNX.out]; exact HN.out 1) (by rw [HNX.out, HNX.out])).mono ?_
  rintro e w5 ⟨rfl, h1, h2⟩
  have hk := Kp.of_row h2
  have HRD5 := Lib.hid h1
  have HQ5 := Lib.hid (hk.blk HQ4.out (A := (· = r)) (by have := HRQ.out; omega))
  have HZ5 := Lib.hid (hk.blk HZ4.out.1 (A := (· = r)) (by have := HZ4.out.2; omega))
  have HB5 := Lib.hid (show Below w.heap.size w w5 from HB4.out.trans (hk.below (fun b hb => by have := HRQ.out; omega) HB4.out.size))
  have HS5 := Lib.hid (show q + 1 ≤ w5.heap.size from by have h3 := HSQ.out; have h4 := hk.size; omega)
  have HLR := Lib.hid HZ4.out.2
  clear h1 h2 hk HQ4 HZ4 HB4 HRD4 HSQ
  go_wp2_with fail
  have hdq : DQ (w5.alloc (Obj.cells #[.int .u64 (n 0 : Int), .int .u64 (n 1 : Int), .int .u64 0, .int .u64 0, .int .i64 0, .int .i64 0, .slice none 0 0] 31)) r q w5.heap.size (SS 2) #[.int .u64 (n 0 : Int), .int .u64 (n 1 : Int), .int .u64 0, .int .u64 0, .int .i64 0, .int .i64 0, .slice none 0 0] (w5.alloc (Obj.cells #[.int .u64 (n 0 : Int), .int .u64 (n 1 : Int), .int .u64 0, .int .u64 0, .int .i64 0, .int .i64 0, .slice none 0 0] 31)) :=
    have hbb := (Below.refl w5.heap.size w5).alloc (Nat.le_refl _) (Obj.cells #[.int .u64 (n 0 : Int), .int .u64 (n 1 : Int), .int .u64 0, .int .u64 0, .int .i64 0, .int .i64 0, .slice none 0 0] 31)
    ⟨HRD5.out.keep hbb, Blk.new _ _ _, HQ5.out.keep hbb, Kp.refl _ _, HRQ.out.2, by have := HS5.out; omega, by simp⟩
  have hz6 := HZ5.out.alloc (Obj.cells #[.int .u64 (n 0 : Int), .int .u64 (n 1 : Int), .int .u64 0, .int .u64 0, .int .i64 0, .int .i64 0, .slice none 0 0] 31)
  have hb6 := HB5.out.alloc HB5.out.size (Obj.cells #[.int .u64 (n 0 : Int), .int .u64 (n 1 : Int), .int .u64 0, .int .u64 0, .int .i64 0, .int .i64 0, .slice none 0 0] 31)
  generalize hPn : w5.heap.size = P at *
  generalize w5.alloc (Obj.cells #[.int .u64 (n 0 : Int), .int .u64 (n 1 : Int), .int .u64 0, .int .u64 0, .int .i64 0, .int .i64 0, .slice none 0 0] 31) = W at *
  have HD := Lib.hid hdq
  have HZW := Lib.hid hz6
  have HBW := Lib.hid hb6
  clear hdq hz6 hb6 hPn HZ5 HB5 HRD5 HQ5 HS5
  have HNE := Lib.hid (show q ≠ r from by have := HRQ.out; omega)
  refine (gd_lit (a := n 2) (b := n 3) (st' := SS 4) HD.out.rd HD.out.bq HNE.out (HN.out 2) (by rw [HNX.out]; exact HN.out 3) (by rw [HNX.out, HNX.out])).mono ?_
  rintro e w7 ⟨rfl, h1, h2⟩
  have HD7 := Lib.hid (HD.out.read h2 h1)
  clear h1 h2
  go_wp2_with (refine wpList_store_mid rfl 28 _ _ rfl P 2 #[.int .u64 (n 2 : Int), .int .u64 (n 3 : Int)] rfl rfl (HD7.out.bp.there (by show 2 + 2 ≤ 7; decide)) (by kernel_rfl) (guid_two _ _) ?_)
  have hd8 : DQ W r q P (SS 4) #[.int .u64 (n 0 : Int), .int .u64 (n 1 : Int), .int .u64 (n 2 : Int), .int .u64 (n 3 : Int), .int .i64 0, .int .i64 0, .slice none 0 0] (w7.setCells P 2 [.int .u64 (n 2 : Int), .int .u64 (n 3 : Int)]) := (HD7.out.set 2 _).set 3 _
  generalize w7.setCells P 2 [.int .u64 (n 2 : Int), .int .u64 (n 3 : Int)] = w8 at *
  have HD8 := Lib.hid hd8
  clear hd8 HD7 HD
  refine (small_lit HD8.out.rd HD8.out.bq (m := m4) (by rw [HN.out]; exact HM.out.1) (HNX.out 4)).mono ?_
  rintro e w9 ⟨rfl, h1, h2⟩
  have HD9 := Lib.hid (HD8.out.read h2 h1)
  have x4 := HD9.out.bp.cell 4
  have f4 := HD9.out.bp.frozen 4
  simp at x4
  clear h1 h2
  go_wp2_with fail
  have hd10 : DQ W r q P (SS 5) #[.int .u64 (n 0 : Int), .int .u64 (n 1 : Int), .int .u64 (n 2 : Int), .int .u64 (n 3 : Int), .int .i64 (m4 : Int), .int .i64 0, .slice none 0 0] (w9.setCell ⟨P, 4, none⟩ (.int .i64 (m4 : Int))) := HD9.out.set 4 _
  clear x4 f4
  generalize w9.setCell ⟨P, 4, none⟩ (.int .i64 (m4 : Int)) = w10 at *
  have HD10 := Lib.hid hd10
  clear hd10 HD9 HD8
  refine (small_lit HD10.out.rd HD10.out.bq (m := m5) (by rw [HN.out]; exact HM.out.2.1) (HNX.out 5)).mono ?_
  rintro e w11 ⟨rfl, h1, h2⟩
  have HD11 := Lib.hid (HD10.out.read h2 h1)
  have x5 := HD11.out.bp.cell 5
  have f5 := HD11.out.bp.frozen 5
  simp at x5
  clear h1 h2
  go_wp2_with fail
  have hd12 : DQ W r q P (SS 6) #[.int .u64 (n 0 : Int), .int .u64 (n 1 : Int), .int .u64 (n 2 : Int), .int .u64 (n 3 : Int), .int .i64 (m4 : Int), .int .i64 (m5 : Int), .slice none 0 0] (w11.setCell ⟨P, 5, none⟩ (.int .i64 (m5 : Int))) := HD11.out.set 5 _
  clear x5 f5
  generalize w11.setCell ⟨P, 5, none⟩ (.int .i64 (m5 : Int)) = w12 at *
  have HD12 := Lib.hid hd12
  clear hd12 HD11 HD10
  refine (small_lit HD12.out.rd HD12.out.bq (m := m6) (by rw [HN.out]; exact HM.out.2.2.1) (HNX.out 6)).mono ?_
  rintro e w13 ⟨rfl, h1, h2⟩
  obtain ⟨c0, hc0⟩ : ∃ c0 : Value → Array Value, ∀ sl, c0 sl = #[.int .u64 (n 0 : Int), .int .u64 (n 1 : Int), .int .u64 (n 2 : Int), .int .u64 (n 3 : Int), .int .i64 (m4 : Int), .int .i64 (m5 : Int), sl] := ⟨_, fun _ => rfl⟩
  have HD13 := Lib.hid (show DQ W r q P (SS 7) (c0 (.slice none 0 0)) w13 by rw [hc0]; exact HD12.out.read h2 h1)
  have HC0 := Lib.hid hc0
  have hmn := HMN.out
  clear h1 h2 hc0 HD12
  go_wp2_with fail
  clear hmn
  go_loopw [40] (fun i wr => ∃ (k : Nat) (sl : Value), k ≤ cnt ∧ i = .int .i64 k ∧ DQ W r q P (CS k) (c0 sl) wr ∧ OwC wr W.heap.size sl (S k)) (fun i _ => cnt - (intOf i).toNat)
  case atStart => exact ⟨0, _, Nat.zero_le _, rfl, by rw [HS0.out.2]; exact HD13.out, by rw [HS0.out.1]; exact OwC.nil_ _ _⟩
  case round =>
    obtain ⟨k, sl, hk, rfl, hd, hown⟩ := hrel
    have HDR := Lib.hid hd
    have HOR := Lib.hid hown
    clear hd hown
    by_cases hkc : k < cnt
    · have hcx := HX.out k
      have hsn := HSN.out k
      have hcs := HCS.out k
      have hc2 := HC2.out
      generalize hXk : X k = x at *
      obtain ⟨xb, xd⟩ := x
      unfold rChg at hcx
      simp only [Prod.mk.injEq] at hcx
      obtain ⟨hxb, hxd⟩ := hcx
      obtain ⟨b, hb⟩ : ∃ b, min (Wire.num (CS k)).1 9 = b := ⟨_, rfl⟩
      rw [hb] at hxb
      subst hxb
      have HXX := Lib.hid (And.intro hb (And.intro hxd.symm (And.intro hsn hcs)))
      have HKC := Lib.hid hkc
      have HLE := Lib.hid (show (S k).length + 1 ≤ 2 ^ 40 from by rw [HSL.out]; omega)
      have i1 : (k : Int) < (cnt : Int) := by omega
      clear hb hxd hsn hcs hk hkc hXk hc2
      go_wp2_with fail
      clear i1
      refine (small_lit HDR.out.rd HDR.out.bq (m := b) HXX.out.1 rfl).mono ?_
      rintro e wx ⟨rfl, h1, h2⟩
      have HDX := Lib.hid (HDR.out.read h2 h1)
      have HOX := Lib.hid (HOR.out.row h2 (by have h3 := HDR.out.o1; have h4 := HDR.out.o2; have h5 := HDR.out.o3; omega))
      clear h1 h2
      go_wp2_with fail
      refine wp_region_chain [4, 6, 7, 9] (kv [(4, .is (.string xd)), (6, .sl 1), (7, .sla ((S k).length + 1)), (9, .is undef)]) (JD W r q P (nx (CS k)) (CS (k + 1)) c0 sl (S k) ((b : Int), xd)) (by kernel_rfl) (by kernel_rfl) (by kernel_rfl) (kv_inh _) (⟨HDX.out.keep (Below.drew (Below.refl _ _)), HOX.out.keep (Below.drew (Below.refl _ _))⟩) ?_
      intro ν hν
      have n4 : ν 4 = .string xd := hν 4
      obtain ⟨g6, n6⟩ : ∃ g, ν 6 = .slice (some ⟨g, 0, none⟩) 1 1 := hν 6
      obtain ⟨a7, c7, n7⟩ : ∃ a c, ν 7 = .slice a ((S k).length + 1) c := hν 7
      have n9 : ν 9 = undef := hν 9
      clear hν
      refine ch_plain 0 4 1 (by rfl) rfl (by kernel_rfl) (by kernel_rfl) ?_
      apply Exists.intro
      refine ⟨fun st w2 hlo hhi hJ => ?_, ?_⟩
      · clear hlo hhi hJ
        go_simp
        exact And.intro rfl rfl
      simp only [Act.put, List.setIfInBounds_toArray, List.set_cons_succ, List.set_cons_zero, Nat.reduceAdd]
      refine ch_plain 0 2 1 (by rfl) rfl (by kernel_rfl) (by kernel_rfl) ?_
      apply Exists.intro
      refine ⟨fun st w2 hlo hhi hJ => ?_, ?_⟩
      · have hj : Blk w2 P 31 (c0 sl) := by
          have h1 : st = 0 ∨ st = 1 ∨ st = 2 := by omega
          rcases h1 with rfl | rfl | rfl
          · have hj : DQ W r q P _ (c0 sl) w2 ∧ _ := hJ
            exact hj.1.bp
          · have hj : DQ W r q P _ (c0 sl) w2 ∧ _ := hJ
            exact hj.1.bp
          · have hj : DQ W r q P _ (c0 sl) w2 ∧ _ := hJ
            exact hj.1.bp
        rw [HC0.out] at hj
        have hx := hj.cell 6
        simp at hx
        clear hj
        clear hlo hhi hJ
        go_simp
        exact And.intro rfl rfl
      simp only [Act.put, List.setIfInBounds_toArray, List.set_cons_succ, List.set_cons_zero, Nat.reduceAdd]
      refine ch_plain 0 4 1 (by rfl) rfl (by kernel_rfl) (by kernel_rfl) ?_
      apply Exists.intro
      refine ⟨fun st w2 hlo hhi hJ => ?_, ?_⟩
      · clear hlo hhi hJ
        go_simp
        exact And.intro rfl rfl
      simp only [Act.put, List.setIfInBounds_toArray, List.set_cons_succ, List.set_cons_zero, Nat.reduceAdd]
      refine ch_plain 0 0 1 (by rfl) rfl (by kernel_rfl) (by kernel_rfl) ?_
      apply Exists.intro
      refine ⟨fun st w2 hlo hhi hJ => ?_, ?_⟩
      · have hj : DQ W r q P (nx (CS k)) (c0 sl) w2 ∧ OwC w2 W.heap.size sl (S k) := by
          obtain rfl : st = 0 := by omega
          exact hJ
        have hx := hj.1.bq.cell 0
        simp at hx
        clear hj
        clear hlo hhi hJ
        go_simp
        exact And.intro rfl rfl
      simp only [Act.put, List.setIfInBounds_toArray, List.set_cons_succ, List.set_cons_zero, Nat.reduceAdd]
      refine ch_special 0 1 (by rfl) rfl (by decide) (by kernel_rfl) (fun w2 hJ => ?_) ?_
      · have hj : DQ W r q P (nx (CS k)) (c0 sl) w2 ∧ OwC w2 W.heap.size sl (S k) := hJ
        go_simp
        refine (text_lit2 hj.1.rd HXX.out.2.1 HXX.out.2.2.2).mono ?_
        rintro e w3 ⟨rfl, h1, h2⟩
        exact ⟨_, rfl, rfl, hj.1.read h2 h1, hj.2.row h2 (by have h3 := hj.1.o1; have h4 := hj.1.o2; have h5 := hj.1.o3; omega)⟩
      rw [n4]
      simp only [Act.put, List.setIfInBounds_toArray, List.set_cons_succ, List.set_cons_zero, Nat.reduceAdd]
      refine ch_plain 0 4 1 (by rfl) rfl (by kernel_rfl) (by kernel_rfl) ?_
      apply Exists.intro
      refine ⟨fun st w2 hlo hhi hJ => ?_, ?_⟩
      · clear hlo hhi hJ
        go_simp
        exact And.intro rfl rfl
      simp only [Act.put, List.setIfInBounds_toArray, List.set_cons_succ, List.set_cons_zero, Nat.reduceAdd]
      refine ch_special 1 2 (by rfl) rfl (by decide) (by kernel_rfl) (fun w2 hJ => ?_) ?_
      · have hj : DQ W r q P (CS (k + 1)) (c0 sl) w2 ∧ OwC w2 W.heap.size sl (S k) := hJ
        go_simp
        have hbb := (Below.refl w2.heap.size w2).alloc (Nat.le_refl _) (Obj.cells #[.int .i64 (b : Int), .string xd] 76)
        exact ⟨⟨_, rfl⟩, hj.1.keep hbb, hj.2.keep hbb, ⟨_, _, rfl, Nat.le_refl _, lit_chg _ _ _⟩⟩
      rw [n6]
      simp only [Act.put, List.setIfInBounds_toArray, List.set_cons_succ, List.set_cons_zero, Nat.reduceAdd]
      refine ch_special 2 1 (by rfl) rfl (by decide) (by kernel_rfl) (fun w2 hJ => ?_) ?_
      · have hj : DQ W r q P (CS (k + 1)) (c0 sl) w2 ∧ OwC w2 W.heap.size sl (S k) ∧ (∃ g c, ν 6 = .slice (some ⟨g, 0, none⟩) 1 c ∧ 1 ≤ c ∧ w2.rangeAt g 0 (cgL ((b : Int), xd))) := hJ
        have hws := hj.1.kp.size
        obtain ⟨v', w', hr, hp⟩ := app_chg2 (w := w2) 29 ((b : Int), xd) hj.2.2 hj.2.1 HLE.out hws
        rw [n6] at hr
        rw [exec_append (.tmp 45) (.tmp 50) 29 rfl sl (.slice (some ⟨g6, 0, none⟩) 1 1) rfl rfl v' hr]
        obtain ⟨a8, c8, e8, -⟩ := hp.1.rd
        have hbx := hp.below hj.2.1 hws
        exact ⟨⟨a8, c8, by rw [e8, List.length_append]; rfl⟩, hj.1.above hbx, hp.1⟩
      rw [n7]
      simp only [Act.put, List.setIfInBounds_toArray, List.set_cons_succ, List.set_cons_zero, Nat.reduceAdd]
      refine ch_plain 0 4 1 (by rfl) rfl (by kernel_rfl) (by kernel_rfl) ?_
      apply Exists.intro
      refine ⟨fun st w2 hlo hhi hJ => ?_, ?_⟩
      · clear hlo hhi hJ
        go_simp
        exact And.intro rfl rfl
      simp only [Act.put, List.setIfInBounds_toArray, List.set_cons_succ, List.set_cons_zero, Nat.reduceAdd]
      refine ch_special 3 1 (by rfl) rfl (by decide) (by kernel_rfl) (fun w2 hJ => ?_) ?_
      · have hj : DQ W r q P (CS (k + 1)) (c0 sl) w2 ∧ OwC w2 W.heap.size (ν 7) (S k ++ [((b : Int), xd)]) := hJ
        have hbp := hj.1.bp
        rw [HC0.out] at hbp
        have hx := hbp.cell 6
        have hf := hbp.frozen 6
        simp at hx
        have HJ := Lib.hid hj
        clear hj hJ hbp
        go_simp
        refine ⟨rfl, ?_⟩
        show DQ W r q P (CS (k + 1)) (c0 (.slice a7 ((S k).length + 1) c7)) _ ∧ OwC _ W.heap.size (.slice a7 ((S k).length + 1) c7) (S k ++ [((b : Int), xd)])
        rw [← n7]
        have hs := HJ.out.1.set 6 (ν 7)
        rw [HC0.out] at hs
        rw [HC0.out]
        exact ⟨hs, HJ.out.2.far (p := ⟨P, 6, none⟩) HJ.out.1.o3 _⟩
      rw [n9]
      simp only [Act.put, Nat.reduceAdd]
      refine ch_nil (fun w5 hJ => ?_)
      have HF := Lib.hid (show DQ W r q P (CS (k + 1)) (c0 (ν 7)) w5 ∧ OwC w5 W.heap.size (ν 7) (S k ++ [((b : Int), xd)]) from hJ)
      have I3 := Lib.hid (show wrap64 ((k : Int) + 1) = (k : Int) + 1 from by have h2 := HC2.out; have h3 := HKC.out; exact IntWalk.wrap64_in _ (by omega))
      clear hJ n4 n6 n7 n9
      go_wp2
      rw [I3.out]
      exact ⟨⟨k + 1, ν 7, HKC.out, rfl, HF.out.1, by rw [HXX.out.2.2.1]; exact HF.out.2⟩, meas_succ HKC.out⟩
    · obtain rfl : k = cnt := by omega
      have i1 : ¬ ((k : Int) < (k : Int)) := by omega
      obtain ⟨a3, c3, rfl, -⟩ := HOR.out.rd
      have hbp := HDR.out.bp
      rw [HC0.out, HSL.out] at hbp
      have HO2 := Lib.hid (show OwC wr W.heap.size (.slice a3 k c3) (S k) from by have := HOR.out; rwa [HSL.out] at this)
      have y0 := hbp.cell 0
      have y1 := hbp.cell 1
      have y2 := hbp.cell 2
      have y3 := hbp.cell 3
      have y4 := hbp.cell 4
      have y5 := hbp.cell 5
      have y6 := hbp.cell 6
      simp at y0 y1 y2 y3 y4 y5 y6
      have HBE := Lib.hid (show Below w.heap.size w wr from HBW.out.trans (HDR.out.kp.below (fun b hb => by have h3 := HRQ.out; have h4 := HDR.out.o1; have h5 := HDR.out.o2; omega) HBW.out.size))
      have HZE := Lib.hid (HDR.out.kp.blk HZW.out (by have h3 := HLR.out; have h4 := HDR.out.o1; have h5 := HDR.out.o2; omega))
      have HIN := Lib.hid (show InPr wr (.agg #[.int .u64 (n 0 : Int), .int .u64 (n 1 : Int), .int .u64 (n 2 : Int), .int .u64 (n 3 : Int), .int .i64 (m4 : Int), .int .i64 (m5 : Int), .slice a3 k c3]) p from ⟨.slice a3 k c3, by rw [HP.out]; rfl, by rw [HSE.out]; exact HO2.out.rd, HWF.out⟩)
      have HLT := Lib.hid (show w.heap.size < W.heap.size from by have h3 := HLR.out; have h4 := HDR.out.o1; have h5 := HDR.out.o2; have h6 := HDR.out.o3; omega)
      clear hkc hk hbp HOR
      go_wp2_with fail
      refine (enc_any _ _ p HIN.out).mono ?_
      rintro e wy ⟨rfl, hb⟩
      have z0 := cell_later hb y0
      have z1 := cell_later hb y1
      have z2 := cell_later hb y2
      have z3 := cell_later hb y3
      have z4 := cell_later hb y4
      have z5 := cell_later hb y5
      have z6 := cell_later hb y6
      have HBY := Lib.hid (HBE.out.trans (hb.mono HBE.out.size))
      have HZY := Lib.hid (HZE.out.keep hb)
      have HOY := Lib.hid (HO2.out.keep hb)
      clear hb y0 y1 y2 y3 y4 y5 y6 HIN HBE HZE
      by_cases hok : okP p
      · have hce : checkP p = 0 := if_pos hok
        rw [hce]
        by_cases heq : encS p = s
        · obtain ⟨hg1, hg2⟩ := HGOOD.out ⟨hok, heq⟩
          have HG := Lib.hid (And.intro hg1 hg2)
          have e1 : (encS p).toList = s.toList := by rw [heq]
          have e2 : ((encS p).toList != s.toList) = false := by rw [e1]; simp
          clear hg1 hg2 hok hce heq i1
          go_wp2_with (refine wpList_store_then rfl 31 _ _ rfl w.heap.size #[.int .u64 (n 0 : Int), .int .u64 (n 1 : Int), .int .u64 (n 2 : Int), .int .u64 (n 3 : Int), .int .i64 (m4 : Int), .int .i64 (m5 : Int), .slice a3 k c3] rfl rfl 31 _ HZY.out part_size rfl (part_one _ _ _ _ _ _ _ _ _) ?_)
          refine Later.mk fun w20 hw20 => ?_
          have H9 := Lib.hid (show Below w.heap.size w w20 ∧ Blk w20 w.heap.size 31 #[.int .u64 (n 0 : Int), .int .u64 (n 1 : Int), .int .u64 (n 2 : Int), .int .u64 (n 3 : Int), .int .i64 (m4 : Int), .int .i64 (m5 : Int), .slice a3 k c3] ∧ OwC w20 W.heap.size (.slice a3 k c3) p.cs by
            rw [hw20, HSE.out]
            exact ⟨Below.setRow HBY.out (Nat.le_refl _) _, HZY.out.row _, HOY.out.farRow HLT.out _⟩)
          clear hw20 e1 e2 z0 z1 z2 z3 z4 z5 z6
          go_wp2
          refine bodyPost_ret (results_cell2 (ty := 31) (g := w.heap.size) (k := 2) (m := 3) rfl rfl rfl H9.out.2.1 Try.underlying31 rfl part_size) rfl ⟨.agg #[.int .u64 (n 0 : Int), .int .u64 (n 1 : Int), .int .u64 (n 2 : Int), .int .u64 (n 3 : Int), .int .i64 (m4 : Int), .int .i64 (m5 : Int), .slice a3 k c3], (by rw [HG.out.2] <;> rfl), ⟨.slice a3 k c3, (by rw [HG.out.1, HP.out] <;> rfl), by rw [HG.out.1]; exact H9.out.2.2.mono (Nat.le_of_lt HLT.out), by rw [HG.out.1]; exact HWF.out⟩, H9.out.1⟩
        · obtain ⟨hg1, hg2⟩ := HBAD.out (fun q => heq q.2)
          have HG := Lib.hid (And.intro hg1 hg2)
          have e2 : ((encS p).toList != s.toList) = true := by
            simp only [bne_iff_ne, ne_eq]
            intro q
            exact heq ((str_iff _ _).1 (by simpa using q))
          have e1 : ((encS p).toList == s.toList) = false := by simpa using e2
          have e3 : decide ((encS p).toList = s.toList) = false := by simpa using e2
          clear hg1 hg2 hok hce heq i1
          go_wp2_with (refine wpList_store_then rfl 31 _ _ rfl w.heap.size #[.int .u64 0, .int .u64 0, .int .u64 0, .int .u64 0, .int .i64 0, .int .i64 0, .slice none 0 0] rfl rfl 31 _ HZY.out part_size rfl (part_one _ _ _ _ _ _ _ _ _) ?_)
          refine Later.mk fun w20 hw20 => ?_
          have H9 := Lib.hid (show Below w.heap.size w w20 ∧ Blk w20 w.heap.size 31 #[.int .u64 0, .int .u64 0, .int .u64 0, .int .u64 0, .int .i64 0, .int .i64 0, .slice none 0 0] by
            rw [hw20]
            exact ⟨Below.setRow HBY.out (Nat.le_refl _) _, HZY.out.row _⟩)
          clear hw20 z0 z1 z2 z3 z4 z5 z6
          go_wp2
          refine bodyPost_ret (results_cell2 (ty := 31) (g := w.heap.size) (k := 2) (m := 3) rfl rfl rfl H9.out.2 Try.underlying31 rfl part_size) rfl ⟨.agg #[.int .u64 0, .int .u64 0, .int .u64 0, .int .u64 0, .int .i64 0, .int .i64 0, .slice none 0 0], (by rw [HG.out.2] <;> rfl), ⟨.slice none 0 0, (by rw [HG.out.1] <;> rfl), by rw [HG.out.1]; exact OwC.nil_ _ _, by rw [HG.out.1]; exact zero_wf⟩, H9.out.1⟩
      · have hce : checkP p = 2 := if_neg hok
        rw [hce]
        obtain ⟨hg1, hg2⟩ := HBAD.out (fun q => hok q.1)
        have HG := Lib.hid (And.intro hg1 hg2)
        clear hg1 hg2 hok hce i1
        go_wp2_with (refine wpList_store_then rfl 31 _ _ rfl w.heap.size #[.int .u64 0, .int .u64 0, .int .u64 0, .int .u64 0, .int .i64 0, .int .i64 0, .slice none 0 0] rfl rfl 31 _ HZY.out part_size rfl (part_one _ _ _ _ _ _ _ _ _) ?_)
        refine Later.mk fun w20 hw20 => ?_
        have H9 := Lib.hid (show Below w.heap.size w w20 ∧ Blk w20 w.heap.size 31 #[.int .u64 0, .int .u64 0, .int .u64 0, .int .u64 0, .int .i64 0, .int .i64 0, .slice none 0 0] by
          rw [hw20]
          exact ⟨Below.setRow HBY.out (Nat.le_refl _) _, HZY.out.row _⟩)
        clear hw20 z0 z1 z2 z3 z4 z5 z6
        go_wp2
        refine bodyPost_ret (results_cell2 (ty := 31) (g := w.heap.size) (k := 2) (m := 3) rfl rfl rfl H9.out.2 Try.underlying31 rfl part_size) rfl ⟨.agg #[.int .u64 0, .int .u64 0, .int .u64 0, .int .u64 0, .int .i64 0, .int .i64 0, .slice none 0 0], (by rw [HG.out.2] <;> rfl), ⟨.slice none 0 0, (by rw [HG.out.1] <;> rfl), by rw [HG.out.1]; exact OwC.nil_ _ _, by rw [HG.out.1]; exact zero_wf⟩, H9.out.1⟩
theorem dec_any (w : World) (s : ByteArray) (hs2 : s.size ≤ 1152921504606846976) : Calls Try.prog 70 #[.string s] w (DecT w (decP 9 2 s) (decE 9 2 s)) := by
  have hs : s.size ≤ maxLen := by unfold maxLen; omega
  cases ho : Crc.opens s.data.toList with
  | true => exact dec_open w s hs hs2 ho
  | false =>
    have e1 : decP 9 2 s = zeroP := if_neg (fun h => by have := h.1; rw [ho] at this; cases this)
    have e2 : decE 9 2 s = 4 := if_neg (fun h => by have := h.1; rw [ho] at this; cases this)
    rw [e1, e2]
    exact dec_shut w s hs ho
end Go.Proofs.Ytikimmhkfjaijaa
