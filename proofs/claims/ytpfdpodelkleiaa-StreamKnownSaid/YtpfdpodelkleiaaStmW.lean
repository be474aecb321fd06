/-
  STREAM: the closed law StreamKnown, walked (printed by wip/gen-stmw.py).
-/
import Derived.Test.YtpfdpodelkleiaaStmV
import Derived.Test.YtpfdpodelkleiaaStmT
namespace Go.Proofs.Ytpfdpodelkleiaa
open Go.RowKit Reg Go.ChangeShapes

def PE : Prt := cutQ (1, 1) (1, 2) [] 0
theorem okE : cutOk (1, 1) (1, 2) [] ((0 : Nat) : Int) := by decide +kernel
theorem okPE : okP PE := by decide +kernel
theorem sE_facts : ((encS PE).size : Int) = 15 ∧ (encS PE).size = 15 ∧ (encS PE).extract 0 11 = ⟨#[1, 1, 1, 1, 1, 1, 1, 2, 0, 0, 0]⟩ := by decide +kernel
def wrongM : List Mk := [⟨3, 97, false⟩, ⟨0, 98, false⟩]
def twiceM : List Mk := [⟨3, 97, false⟩, ⟨3, 98, false⟩]
def farM : List Mk := [⟨8, 97, false⟩]
def thinM : List Mk := [⟨1, 97, true⟩]
theorem guid_lit (a b : Int) (w : World) : Calls Try.prog 23 #[.int .u64 a, .int .u64 b] w fun e w' => e = .returned (.agg #[.int .u64 a, .int .u64 b]) ∧ Below w.heap.size w w' := guid_any a b w
theorem in_two (w : World) (b0 c0 b1 c1 : Int) (s0 s1 : Bool) (h0 : wfM ⟨b0, c0, s0⟩) (h1 : wfM ⟨b1, c1, s1⟩) :
    InM (w.alloc (.cells #[.int .i64 b0, .int .u8 c0, .bool s0, .int .i64 b1, .int .u8 c1, .bool s1] 51)) (.slice (some ⟨w.heap.size, 0, none⟩) 2 2) [⟨b0, c0, s0⟩, ⟨b1, c1, s1⟩] := by
  have hb := Blk.new w 51 #[.int .i64 b0, .int .u8 c0, .bool s0, .int .i64 b1, .int .u8 c1, .bool s1]
  refine ⟨_, _, rfl, by simp [maxLen], fun j hj => ⟨_, _, rfl, ?_⟩⟩
  have hj3 : j < 2 := hj
  match j, hj3 with
  | 0, _ => exact ⟨⟨hb.cell 0, hb.cell 1, hb.cell 2⟩, h0⟩
  | 1, _ => exact ⟨⟨hb.cell 3, hb.cell 4, hb.cell 5⟩, h1⟩
theorem in_one (w : World) (b0 c0 : Int) (s0 : Bool) (h0 : wfM ⟨b0, c0, s0⟩) :
    InM (w.alloc (.cells #[.int .i64 b0, .int .u8 c0, .bool s0] 51)) (.slice (some ⟨w.heap.size, 0, none⟩) 1 1) [⟨b0, c0, s0⟩] := by
  have hb := Blk.new w 51 #[.int .i64 b0, .int .u8 c0, .bool s0]
  refine ⟨_, _, rfl, by simp [maxLen], fun j hj => ⟨_, _, rfl, ?_⟩⟩
  have hj3 : j < 1 := hj
  match j, hj3 with
  | 0, _ => exact ⟨⟨hb.cell 0, hb.cell 1, hb.cell 2⟩, h0⟩
/-- changes in a list of the call's own, so many -/
def OwL (w : World) (u : Value) (l : List Cg) : Prop := ∃ b, OwC w b u l
theorem OwL.keep {w w' : World} {u : Value} {l : List Cg} (h : OwL w u l) (hb : Below w.heap.size w w') : OwL w' u l := by
  obtain ⟨b, h⟩ := h
  exact ⟨b, h.keep hb⟩
theorem made_lit (w : World) {v : Value} {ms : List Mk} (h : InM w v ms) {n : Nat} (hn : (madeP ms).length = n) : Calls Try.prog 9 #[v] w fun e w' => ∃ a c, e = .returned (.slice a n c) ∧ OwL w' (.slice a n c) (madeP ms) ∧ Below w.heap.size w w' := by
  refine (made_any w v ms h).mono ?_
  rintro e w' ⟨u, rfl, ho, hb⟩
  obtain ⟨a, c, rfl, -⟩ := ho.rd
  rw [hn] at ho ⊢
  exact ⟨a, c, rfl, ⟨_, ho⟩, hb⟩
theorem three_lit (w : World) : Calls Try.prog 24 #[] w fun e w' => ∃ a c, e = .returned (.slice a 3 c) ∧ OwL w' (.slice a 3 c) (madeP threeM) ∧ Below w.heap.size w w' := by
  refine (three_any w).mono ?_
  rintro e w' ⟨u, rfl, ho, hb⟩
  obtain ⟨a, c, rfl, -⟩ := ho.rd
  exact ⟨a, c, rfl, ⟨_, ho⟩, hb⟩
theorem cutE_lit (w : World) : Calls Try.prog 10 #[.agg #[.int .u64 1, .int .u64 1], .agg #[.int .u64 1, .int .u64 2], .slice none 0 0, .int .i64 0] w fun e w' => ∃ a c, e = .returned (.tuple #[.agg #[.int .u64 1, .int .u64 1, .int .u64 1, .int .u64 2, .int .i64 0, .int .i64 0, .slice a 0 c], .int .i64 0]) ∧ InPr w' (.agg #[.int .u64 1, .int .u64 1, .int .u64 1, .int .u64 2, .int .i64 0, .int .i64 0, .slice a 0 c]) PE ∧ Below w.heap.size w w' := by
  refine (cut_good w (1, 1) (1, 2) _ [] 0 (RdC.nil_ w) wf_ones okE).mono ?_
  rintro e w' ⟨v, rfl, hv, hb⟩
  have hin := hv.inp
  obtain ⟨sv, rfl, hs, -⟩ := hv
  obtain ⟨a, c, rfl, -⟩ := hs.rd
  exact ⟨a, c, rfl, hin, hb⟩
/-- a row of the table: what Cut is asked, and refuses -/
def RowC (w : World) (g k : Nat) : Prop := ∃ (gb gt : Gd) (a : Option Addr) (n c : Nat) (l : List Cg) (f : Int), (w.cell? ⟨g, k * 6, none⟩ = some (.int .u64 gb.1) ∧ w.cell? ⟨g, k * 6 + 1, none⟩ = some (.int .u64 gb.2) ∧ w.cell? ⟨g, k * 6 + 2, none⟩ = some (.int .u64 gt.1) ∧ w.cell? ⟨g, k * 6 + 3, none⟩ = some (.int .u64 gt.2) ∧
  w.cell? ⟨g, k * 6 + 4, none⟩ = some (.slice a n c) ∧ w.cell? ⟨g, k * 6 + 5, none⟩ = some (.int .i64 f)) ∧ RdC w (.slice a n c) l ∧ ¬ cutOk gb gt l f
theorem RowC.keep {w w' : World} {g k : Nat} (h : RowC w g k) (hb : Below w.heap.size w w') : RowC w' g k := by
  obtain ⟨gb, gt, a, n, c, l, f, ⟨h0, h1, h2, h3, h4, h5⟩, h6, h7⟩ := h
  exact ⟨gb, gt, a, n, c, l, f, ⟨cell_later hb h0, cell_later hb h1, cell_later hb h2, cell_later hb h3, cell_later hb h4, cell_later hb h5⟩, h6.keep hb, h7⟩
theorem cutB_lit (w : World) (gb gt : Gd) (v : Value) (l : List Cg) (f : Int) (hv : RdC w v l) (hno : ¬ cutOk gb gt l f) : Calls Try.prog 10 #[.agg #[.int .u64 gb.1, .int .u64 gb.2], .agg #[.int .u64 gt.1, .int .u64 gt.2], v, .int .i64 f] w fun e w' =>
    ∃ a c, e = .returned (.tuple #[.agg #[.int .u64 0, .int .u64 0, .int .u64 0, .int .u64 0, .int .i64 0, .int .i64 0, .slice a 0 c], .int .i64 2]) ∧ Below w.heap.size w w' := by
  refine (cut_bad w gb gt v l f hv hno).mono ?_
  rintro e w' ⟨v, rfl, ⟨sv, rfl, hs, -⟩, hb⟩
  obtain ⟨a, c, rfl, -⟩ := hs.rd
  exact ⟨a, c, rfl, hb⟩
theorem slice_from {w : World} {a : Option Addr} {c : Nat} (h : OwL w (.slice a 3 c) (madeP threeM)) : ∃ a' c', (∀ w2, (Instr.sliceAt 27 (.slice a 3 c) (some (.int .i64 1)) none none).run Try.prog w2 = .ok (.slice a' 2 c') w2) ∧ RdC w (.slice a' 2 c') gCs := by
  obtain ⟨b, ho⟩ := h
  obtain ⟨u, hu1, hu2⟩ := ho.rdc.cut (k := 1) (m := 3) (by omega) (by decide)
  have hx : (((madeP threeM).drop 1).take (3 - 1)) = gCs := by decide +kernel
  rw [hx] at hu2
  obtain ⟨a', c', rfl, -⟩ := hu2.inc
  refine ⟨a', c', fun w2 => ?_, hu2⟩
  have h1 := hu1 w2
  rw [run_sliceAt_slice _ _ _ _ _ _ Try.underlying27] at h1 ⊢
  have hc : 3 ≤ c := by
    rcases ho.1.2 with ⟨e, h0⟩ | ⟨g, cap, cur, e, -, -, h3, -⟩
    · exact absurd h0 (by decide)
    · simp only [Value.slice.injEq] at e
      rw [e.2.2]
      exact h3
  rw [show ((1 : Nat) : Int) = 1 from rfl, show ((3 : Nat) : Int) = 3 from rfl, run_slice_lh _ _ _ _ c Try.underlying27 .i64 .i64 1 3 (by omega) (by omega) (by omega)] at h1
  rw [run_slice_l _ _ _ 3 c Try.underlying27 .i64 1 (by omega) (by omega)]
  exact h1
theorem exec_slice1 {P : Program} {w : World} {o : Oper} {a : Act} (t : TypeId) (x lo : Operand) (ho : o.op = .slice t x (some lo) none none) (vx vl : Value) (hx : a.eval x = vx) (hl : a.eval lo = vl) (u : Value)
    (hr : (Instr.sliceAt t vx (some vl) none none).run P w = .ok u w) : (execOp a.eval o).run P w = .ok (.value u) w := by
  unfold execOp
  simp only [ho, Sem.run_bind, hx, hl, Option.map_some, Option.map_none, hr]
  rfl
def AllP (w : World) (l : List (Value × Prt)) : Prop := ∀ x ∈ l, InPr w x.1 x.2
theorem AllP.keep {w w' : World} {l : List (Value × Prt)} (h : AllP w l) (hb : Below w.heap.size w w') : AllP w' l := fun x hx => (h x hx).keep hb
theorem AllP.cons {w : World} {l : List (Value × Prt)} {v : Value} {p : Prt} (h : AllP w l) (hv : InPr w v p) : AllP w ((v, p) :: l) := fun x hx => by
  rcases List.mem_cons.1 hx with rfl | hx
  · exact hv
  · exact h x hx
theorem with_lit (fid : FuncId) (p : Prt) (w : World) (gq : Nat) (a : Option Addr) (c : Nat) (hg : Blk w gq 30 #[.int .u64 1, .int .u64 1, .int .u64 2, .int .u64 1, .int .i64 1, .int .i64 3, .slice a 2 c]) (hi : InPr w (.agg #[.int .u64 1, .int .u64 1, .int .u64 2, .int .u64 1, .int .i64 1, .int .i64 3, .slice a 2 c]) goodP)
    (hf : ∀ (args : Array Value) (w : World), (callFunc fid args).run Try.prog w = .ok (.enter fid args) w) (hdo : ∀ w B g, PtO w B g goodP → B ≤ g → Calls Try.prog fid #[.pointer (some ⟨g, 0, none⟩)] w (DoT w B g p)) {n : Nat} (hn : p.cs.length = n) :
    Calls Try.prog 25 #[.func (.func fid) #[] #[], .pointer (some ⟨gq, 0, none⟩)] w fun e w' => ∃ a c, e = .returned (.agg #[.int .u64 p.b.1, .int .u64 p.b.2, .int .u64 p.t.1, .int .u64 p.t.2, .int .i64 p.f, .int .i64 p.a, .slice a n c]) ∧ InPr w' (.agg #[.int .u64 p.b.1, .int .u64 p.b.2, .int .u64 p.t.1, .int .u64 p.t.2, .int .i64 p.f, .int .i64 p.a, .slice a n c]) p ∧ Below w.heap.size w w' := by
  refine (with_any fid p w gq a c hg hi hf hdo).mono ?_
  rintro e w' ⟨v, rfl, hv, hb⟩
  have hin := hv.inp
  obtain ⟨sv, rfl, hs, -⟩ := hv
  obtain ⟨a, c, rfl, -⟩ := hs.rd
  subst hn
  exact ⟨a, c, rfl, hin, hb⟩
/-- a row of the second table: a part that may not be -/
def RowP (w : World) (g k : Nat) : Prop := ∃ (p : Prt) (a : Option Addr) (n c : Nat), (w.cell? ⟨g, k * 7, none⟩ = some (.int .u64 p.b.1) ∧ w.cell? ⟨g, k * 7 + 1, none⟩ = some (.int .u64 p.b.2) ∧ w.cell? ⟨g, k * 7 + 2, none⟩ = some (.int .u64 p.t.1) ∧ w.cell? ⟨g, k * 7 + 3, none⟩ = some (.int .u64 p.t.2) ∧
  w.cell? ⟨g, k * 7 + 4, none⟩ = some (.int .i64 p.f) ∧ w.cell? ⟨g, k * 7 + 5, none⟩ = some (.int .i64 p.a) ∧ w.cell? ⟨g, k * 7 + 6, none⟩ = some (.slice a n c)) ∧ InPr w (.agg #[.int .u64 p.b.1, .int .u64 p.b.2, .int .u64 p.t.1, .int .u64 p.t.2, .int .i64 p.f, .int .i64 p.a, .slice a n c]) p ∧ ¬ okP p
theorem RowP.keep {w w' : World} {g k : Nat} (h : RowP w g k) (hb : Below w.heap.size w w') : RowP w' g k := by
  obtain ⟨p, a, n, c, ⟨h0, h1, h2, h3, h4, h5, h6⟩, h7, h8⟩ := h
  exact ⟨p, a, n, c, ⟨cell_later hb h0, cell_later hb h1, cell_later hb h2, cell_later hb h3, cell_later hb h4, cell_later hb h5, cell_later hb h6⟩, h7.keep hb, h8⟩
theorem good_size : ((encS goodP).size : Int) = 90 ∧ (encS goodP).size = 90 := by decide +kernel
def rawN (k : Nat) : Nat := match k with
  | 0 => 1
  | 1 => 1
  | 2 => 1
  | 3 => 2
  | _ => 0
theorem rawN_lt (k : Nat) : rawN k < 256 ^ 8 := by
  unfold rawN
  split <;> decide
def rawL (k : Nat) : List UInt8 := (List.range k).flatMap fun j => Wire.putNum (rawN j)
theorem rawL_succ (k : Nat) : strOf ((strOf (rawL k)).data.toList ++ Wire.putNum (rawN k)) = strOf (rawL (k + 1)) := by
  unfold rawL
  rw [List.range_succ, List.flatMap_append]
  simp [strOf]
theorem rawL_le (k : Nat) : (rawL k).length ≤ 9 * k := by
  induction k with
  | zero => simp [rawL]
  | succ k ih =>
    unfold rawL at ih ⊢
    rw [List.range_succ, List.flatMap_append, List.length_append]
    have := Wire.putNum_length (rawN k)
    simp only [List.flatMap_cons, List.flatMap_nil, List.append_nil]
    omega
def xB : ByteArray := ⟨#[120]⟩
def zB : ByteArray := ⟨#[0]⟩
def badT (k : Nat) : ByteArray := match k with
  | 0 => ByteArray.empty
  | 1 => (encS goodP).extract 0 89
  | 2 => encS goodP ++ xB
  | 3 => xB ++ encS goodP
  | 4 => strOf (Crc.sealed (strOf (rawL 7) ++ zB).data.toList)
  | 5 => strOf (Crc.sealed ((strOf (rawL 7)).extract 0 9).data.toList)
  | 6 => strOf (Crc.sealed ByteArray.empty.data.toList)
  | _ => strOf (rawL 7)
theorem dec_free {s : ByteArray} (h : decOk 9 2 s) : okP (readP 9 2 (txt s)) ∧ txt s = some (encB (readP 9 2 (txt s))) := by
  obtain ⟨_, h1, h2⟩ := h
  refine ⟨h1, ?_⟩
  have := txt_enc h1
  rwa [h2] at this
theorem badT_free : ∀ k, k < 8 → ¬ (okP (readP 9 2 (txt (badT k))) ∧ txt (badT k) = some (encB (readP 9 2 (txt (badT k))))) := by decide +kernel
theorem badT_size : ∀ k, k < 8 → (badT k).size ≤ 1000 := by decide +kernel
theorem badT_no (k : Nat) (hk : k < 8) : ¬ decOk 9 2 (badT k) ∧ (badT k).size ≤ 1000 := ⟨fun h => badT_free k hk (dec_free h), badT_size k hk⟩
theorem wfPE : wfPr PE := ⟨wf_ones.1, wf_ones.2, rfl, rfl⟩
theorem raw_enc : rawL 7 = encB PE := by decide +kernel
theorem rawT_ok : decOk 9 2 (strOf (Crc.sealed (strOf (rawL 7)).data.toList)) ∧ (strOf (Crc.sealed (strOf (rawL 7)).data.toList)).size ≤ 1000 := by
  have h := decOk_enc wfPE okPE 9 2 (by omega) (by omega)
  have e : encS PE = strOf (Crc.sealed (strOf (rawL 7)).data.toList) := by
    unfold encS
    rw [if_pos okPE, ← raw_enc]
    rfl
  rw [e] at h
  exact ⟨h, by decide +kernel⟩
def d0 : ByteArray := (gCs.getD 0 (0, ByteArray.empty)).2
def otherP : Prt := { goodP with cs := gCs.set 1 ((gCs.getD 1 (0, ByteArray.empty)).1, d0) }
theorem other_no : sameP goodP otherP = false := by decide +kernel
/-- a table of texts that are no part's -/
def RowT (w : World) (g k : Nat) : Prop := ∃ t : ByteArray, w.cell? ⟨g, k, none⟩ = some (.string t) ∧ ¬ decOk 9 2 t ∧ t.size ≤ 1000
theorem RowT.keep {w w' : World} {g k : Nat} (h : RowT w g k) (hb : Below w.heap.size w w') : RowT w' g k := by
  obtain ⟨t, h1, h2⟩ := h
  exact ⟨t, cell_later hb h1, h2⟩
def JT (w0 : World) (cs : Array Value) : List Value → World → Prop
  | [_, _, _, u], w => Below w0.heap.size w0 w ∧ ∃ g, u = .slice (some ⟨g, 0, none⟩) 8 8 ∧ Blk w g 9 cs
  | _, w => Below w0.heap.size w0 w
set_option maxRecDepth 100000 in
set_option maxHeartbeats 16000000 in
theorem law_StreamKnown (w : World) : Calls Try.prog 8 #[] w fun e w' => e = .returned (.bool true) ∧ Below w.heap.size w w' := by
  have hmf : ∀ (fn : Fn) (first cap : Array Value) (w : World), (Instr.makeFunc fn first cap).run Try.prog w = .ok (.func fn first cap) w := fun _ _ _ _ => rfl
  have HMF := Lib.hid hmf
  have HB := Lib.hid (Below.refl w.heap.size w)
  clear hmf
  go_enter Try.func8, Try.ntmps8
  go_wp2_with fail
  refine (guid_lit 1 1 _).mono ?_
  rintro e wx ⟨rfl, hb⟩
  replace HB := Lib.hid (HB.out.trans (hb.mono HB.out.size))
  clear hb
  go_wp2_with fail
  refine (guid_lit 1 2 _).mono ?_
  rintro e wx ⟨rfl, hb⟩
  replace HB := Lib.hid (HB.out.trans (hb.mono HB.out.size))
  clear hb
  go_wp2_with fail
  refine (cutE_lit _).mono ?_
  rintro e wx ⟨aE, cE, rfl, hi, hb⟩
  replace HB := Lib.hid (HB.out.trans (hb.mono HB.out.size))
  have hb2 := (Below.refl wx.heap.size wx).alloc (Nat.le_refl _) (Obj.cells #[.int .u64 1, .int .u64 1, .int .u64 1, .int .u64 2, .int .i64 0, .int .i64 0, .slice aE 0 cE] 30)
  have hk := Blk.new wx 30 #[.int .u64 1, .int .u64 1, .int .u64 1, .int .u64 2, .int .i64 0, .int .i64 0, .slice aE 0 cE]
  have HEI := Lib.hid (hi.keep hb2)
  replace HB := Lib.hid (HB.out.trans (hb2.mono HB.out.size))
  clear hb hb2 hi
  go_wp2_with fail
  generalize wx.alloc (Obj.cells #[.int .u64 1, .int .u64 1, .int .u64 1, .int .u64 2, .int .i64 0, .int .i64 0, .slice aE 0 cE] 30) = wy at *
  have HEB := Lib.hid hk
  have hen := enc_any _ _ PE HEI.out
  rw [checkP_ok okPE] at hen
  obtain ⟨sE, hsE⟩ : ∃ x, encS PE = x := ⟨_, rfl⟩
  have hsf := sE_facts
  rw [hsE] at hen hsf
  have HSF := Lib.hid hsf
  have HEN := Lib.hid hen
  clear hk hen hsE hsf HEI
  refine HEN.out.mono ?_
  rintro e wx ⟨rfl, hb⟩
  replace HB := Lib.hid (HB.out.trans (hb.mono HB.out.size))
  have x5 := (HEB.out.keep hb).cell 5
  have x6 := (HEB.out.keep hb).cell 6
  simp at x5 x6
  obtain ⟨q1, q2, q3⟩ := HSF.out
  have q4 : (11 : Int) ≤ (sE.size : Int) := by omega
  have q5 : 11 ≤ sE.size := by omega
  clear hb HEB HEN
  go_wp2_with fail
  clear x5 x6 q1 q2 q3 q4 q5 HSF
  have hbm := (Below.refl wx.heap.size wx).alloc (Nat.le_refl _) (Obj.cells #[.int .i64 3, .int .u8 97, .bool false, .int .i64 0, .int .u8 98, .bool false] 51)
  refine (made_lit _ (ms := wrongM) (in_two wx 3 97 0 98 false false ⟨rfl, by decide, by decide⟩ ⟨rfl, by decide, by decide⟩) (n := 2) (by decide)).mono ?_
  rintro e wz ⟨awr, cwr, rfl, ho, hbz⟩
  have hb := hbm.trans (hbz.mono hbm.size)
  replace HB := Lib.hid (HB.out.trans (hb.mono HB.out.size))
  have HOwr := Lib.hid ho
  clear hb ho hbm hbz
  obtain ⟨wx, rfl⟩ : ∃ wx : World, wx = wz := ⟨_, rfl⟩
  go_wp2_with fail
  have hbm := (Below.refl wx.heap.size wx).alloc (Nat.le_refl _) (Obj.cells #[.int .i64 3, .int .u8 97, .bool false, .int .i64 3, .int .u8 98, .bool false] 51)
  refine (made_lit _ (ms := twiceM) (in_two wx 3 97 3 98 false false ⟨rfl, by decide, by decide⟩ ⟨rfl, by decide, by decide⟩) (n := 2) (by decide)).mono ?_
  rintro e wz ⟨atw, ctw, rfl, ho, hbz⟩
  have hb := hbm.trans (hbz.mono hbm.size)
  replace HB := Lib.hid (HB.out.trans (hb.mono HB.out.size))
  replace HOwr := Lib.hid (HOwr.out.keep hb)
  have HOtw := Lib.hid ho
  clear hb ho hbm hbz
  obtain ⟨wx, rfl⟩ : ∃ wx : World, wx = wz := ⟨_, rfl⟩
  go_wp2_with fail
  have hbm := (Below.refl wx.heap.size wx).alloc (Nat.le_refl _) (Obj.cells #[.int .i64 8, .int .u8 97, .bool false] 51)
  refine (made_lit _ (ms := farM) (in_one wx 8 97 false ⟨rfl, by decide, by decide⟩) (n := 1) (by decide)).mono ?_
  rintro e wz ⟨afa, cfa, rfl, ho, hbz⟩
  have hb := hbm.trans (hbz.mono hbm.size)
  replace HB := Lib.hid (HB.out.trans (hb.mono HB.out.size))
  replace HOwr := Lib.hid (HOwr.out.keep hb)
  replace HOtw := Lib.hid (HOtw.out.keep hb)
  have HOfa := Lib.hid ho
  clear hb ho hbm hbz
  obtain ⟨wx, rfl⟩ : ∃ wx : World, wx = wz := ⟨_, rfl⟩
  go_wp2_with fail
  have hbm := (Below.refl wx.heap.size wx).alloc (Nat.le_refl _) (Obj.cells #[.int .i64 1, .int .u8 97, .bool true] 51)
  refine (made_lit _ (ms := thinM) (in_one wx 1 97 true ⟨rfl, by decide, by decide⟩) (n := 1) (by decide)).mono ?_
  rintro e wz ⟨ath, cth, rfl, ho, hbz⟩
  have hb := hbm.trans (hbz.mono hbm.size)
  replace HB := Lib.hid (HB.out.trans (hb.mono HB.out.size))
  replace HOwr := Lib.hid (HOwr.out.keep hb)
  replace HOtw := Lib.hid (HOtw.out.keep hb)
  replace HOfa := Lib.hid (HOfa.out.keep hb)
  have HOth := Lib.hid ho
  clear hb ho hbm hbz
  obtain ⟨wx, rfl⟩ : ∃ wx : World, wx = wz := ⟨_, rfl⟩
  go_wp2_with fail
  refine (guid_lit 1 1 _).mono ?_
  rintro e wx ⟨rfl, hb⟩
  replace HB := Lib.hid (HB.out.trans (hb.mono HB.out.size))
  replace HOwr := Lib.hid (HOwr.out.keep hb)
  replace HOtw := Lib.hid (HOtw.out.keep hb)
  replace HOfa := Lib.hid (HOfa.out.keep hb)
  replace HOth := Lib.hid (HOth.out.keep hb)
  clear hb
  go_wp2_with fail
  refine (guid_lit 1 2 _).mono ?_
  rintro e wx ⟨rfl, hb⟩
  replace HB := Lib.hid (HB.out.trans (hb.mono HB.out.size))
  replace HOwr := Lib.hid (HOwr.out.keep hb)
  replace HOtw := Lib.hid (HOtw.out.keep hb)
  replace HOfa := Lib.hid (HOfa.out.keep hb)
  replace HOth := Lib.hid (HOth.out.keep hb)
  clear hb
  go_wp2_with fail
  refine (three_lit _).mono ?_
  rintro e wx ⟨aA, cA, rfl, ho, hb⟩
  replace HB := Lib.hid (HB.out.trans (hb.mono HB.out.size))
  replace HOwr := Lib.hid (HOwr.out.keep hb)
  replace HOtw := Lib.hid (HOtw.out.keep hb)
  replace HOfa := Lib.hid (HOfa.out.keep hb)
  replace HOth := Lib.hid (HOth.out.keep hb)
  have HOA := Lib.hid ho
  clear hb ho
  go_wp2_with fail
  refine (guid_lit 1 1 _).mono ?_
  rintro e wx ⟨rfl, hb⟩
  replace HB := Lib.hid (HB.out.trans (hb.mono HB.out.size))
  replace HOwr := Lib.hid (HOwr.out.keep hb)
  replace HOtw := Lib.hid (HOtw.out.keep hb)
  replace HOfa := Lib.hid (HOfa.out.keep hb)
  replace HOth := Lib.hid (HOth.out.keep hb)
  replace HOA := Lib.hid (HOA.out.keep hb)
  clear hb
  go_wp2_with fail
  refine (guid_lit 1 2 _).mono ?_
  rintro e wx ⟨rfl, hb⟩
  replace HB := Lib.hid (HB.out.trans (hb.mono HB.out.size))
  replace HOwr := Lib.hid (HOwr.out.keep hb)
  replace HOtw := Lib.hid (HOtw.out.keep hb)
  replace HOfa := Lib.hid (HOfa.out.keep hb)
  replace HOth := Lib.hid (HOth.out.keep hb)
  replace HOA := Lib.hid (HOA.out.keep hb)
  clear hb
  go_wp2_with fail
  refine (three_lit _).mono ?_
  rintro e wx ⟨aB, cB, rfl, ho, hb⟩
  replace HB := Lib.hid (HB.out.trans (hb.mono HB.out.size))
  replace HOwr := Lib.hid (HOwr.out.keep hb)
  replace HOtw := Lib.hid (HOtw.out.keep hb)
  replace HOfa := Lib.hid (HOfa.out.keep hb)
  replace HOth := Lib.hid (HOth.out.keep hb)
  replace HOA := Lib.hid (HOA.out.keep hb)
  have HOB := Lib.hid ho
  clear hb ho
  go_wp2_with fail
  refine (guid_lit 1 2 _).mono ?_
  rintro e wx ⟨rfl, hb⟩
  replace HB := Lib.hid (HB.out.trans (hb.mono HB.out.size))
  replace HOwr := Lib.hid (HOwr.out.keep hb)
  replace HOtw := Lib.hid (HOtw.out.keep hb)
  replace HOfa := Lib.hid (HOfa.out.keep hb)
  replace HOth := Lib.hid (HOth.out.keep hb)
  replace HOA := Lib.hid (HOA.out.keep hb)
  replace HOB := Lib.hid (HOB.out.keep hb)
  clear hb
  go_wp2_with fail
  refine (guid_lit 1 2 _).mono ?_
  rintro e wx ⟨rfl, hb⟩
  replace HB := Lib.hid (HB.out.trans (hb.mono HB.out.size))
  replace HOwr := Lib.hid (HOwr.out.keep hb)
  replace HOtw := Lib.hid (HOtw.out.keep hb)
  replace HOfa := Lib.hid (HOfa.out.keep hb)
  replace HOth := Lib.hid (HOth.out.keep hb)
  replace HOA := Lib.hid (HOA.out.keep hb)
  replace HOB := Lib.hid (HOB.out.keep hb)
  clear hb
  go_wp2_with fail
  refine (three_lit _).mono ?_
  rintro e wx ⟨aC, cC, rfl, ho, hb⟩
  replace HB := Lib.hid (HB.out.trans (hb.mono HB.out.size))
  replace HOwr := Lib.hid (HOwr.out.keep hb)
  replace HOtw := Lib.hid (HOtw.out.keep hb)
  replace HOfa := Lib.hid (HOfa.out.keep hb)
  replace HOth := Lib.hid (HOth.out.keep hb)
  replace HOA := Lib.hid (HOA.out.keep hb)
  replace HOB := Lib.hid (HOB.out.keep hb)
  have HOC := Lib.hid ho
  clear hb ho
  go_wp2_with fail
  refine (guid_lit 2 1 _).mono ?_
  rintro e wx ⟨rfl, hb⟩
  replace HB := Lib.hid (HB.out.trans (hb.mono HB.out.size))
  replace HOwr := Lib.hid (HOwr.out.keep hb)
  replace HOtw := Lib.hid (HOtw.out.keep hb)
  replace HOfa := Lib.hid (HOfa.out.keep hb)
  replace HOth := Lib.hid (HOth.out.keep hb)
  replace HOA := Lib.hid (HOA.out.keep hb)
  replace HOB := Lib.hid (HOB.out.keep hb)
  replace HOC := Lib.hid (HOC.out.keep hb)
  clear hb
  go_wp2_with fail
  refine (guid_lit 1 9 _).mono ?_
  rintro e wx ⟨rfl, hb⟩
  replace HB := Lib.hid (HB.out.trans (hb.mono HB.out.size))
  replace HOwr := Lib.hid (HOwr.out.keep hb)
  replace HOtw := Lib.hid (HOtw.out.keep hb)
  replace HOfa := Lib.hid (HOfa.out.keep hb)
  replace HOth := Lib.hid (HOth.out.keep hb)
  replace HOA := Lib.hid (HOA.out.keep hb)
  replace HOB := Lib.hid (HOB.out.keep hb)
  replace HOC := Lib.hid (HOC.out.keep hb)
  clear hb
  go_wp2_with fail
  refine (three_lit _).mono ?_
  rintro e wx ⟨aD, cD, rfl, ho, hb⟩
  replace HB := Lib.hid (HB.out.trans (hb.mono HB.out.size))
  replace HOwr := Lib.hid (HOwr.out.keep hb)
  replace HOtw := Lib.hid (HOtw.out.keep hb)
  replace HOfa := Lib.hid (HOfa.out.keep hb)
  replace HOth := Lib.hid (HOth.out.keep hb)
  replace HOA := Lib.hid (HOA.out.keep hb)
  replace HOB := Lib.hid (HOB.out.keep hb)
  replace HOC := Lib.hid (HOC.out.keep hb)
  have HOD := Lib.hid ho
  clear hb ho
  go_wp2_with fail
  refine (guid_lit 0 0 _).mono ?_
  rintro e wx ⟨rfl, hb⟩
  replace HB := Lib.hid (HB.out.trans (hb.mono HB.out.size))
  replace HOwr := Lib.hid (HOwr.out.keep hb)
  replace HOtw := Lib.hid (HOtw.out.keep hb)
  replace HOfa := Lib.hid (HOfa.out.keep hb)
  replace HOth := Lib.hid (HOth.out.keep hb)
  replace HOA := Lib.hid (HOA.out.keep hb)
  replace HOB := Lib.hid (HOB.out.keep hb)
  replace HOC := Lib.hid (HOC.out.keep hb)
  replace HOD := Lib.hid (HOD.out.keep hb)
  clear hb
  go_wp2_with fail
  refine (guid_lit 0 0 _).mono ?_
  rintro e wx ⟨rfl, hb⟩
  replace HB := Lib.hid (HB.out.trans (hb.mono HB.out.size))
  replace HOwr := Lib.hid (HOwr.out.keep hb)
  replace HOtw := Lib.hid (HOtw.out.keep hb)
  replace HOfa := Lib.hid (HOfa.out.keep hb)
  replace HOth := Lib.hid (HOth.out.keep hb)
  replace HOA := Lib.hid (HOA.out.keep hb)
  replace HOB := Lib.hid (HOB.out.keep hb)
  replace HOC := Lib.hid (HOC.out.keep hb)
  replace HOD := Lib.hid (HOD.out.keep hb)
  clear hb
  go_wp2_with fail
  refine (three_lit _).mono ?_
  rintro e wx ⟨aE, cE, rfl, ho, hb⟩
  replace HB := Lib.hid (HB.out.trans (hb.mono HB.out.size))
  replace HOwr := Lib.hid (HOwr.out.keep hb)
  replace HOtw := Lib.hid (HOtw.out.keep hb)
  replace HOfa := Lib.hid (HOfa.out.keep hb)
  replace HOth := Lib.hid (HOth.out.keep hb)
  replace HOA := Lib.hid (HOA.out.keep hb)
  replace HOB := Lib.hid (HOB.out.keep hb)
  replace HOC := Lib.hid (HOC.out.keep hb)
  replace HOD := Lib.hid (HOD.out.keep hb)
  have HOE := Lib.hid ho
  clear hb ho
  go_wp2_with fail
  refine (guid_lit 0 0 _).mono ?_
  rintro e wx ⟨rfl, hb⟩
  replace HB := Lib.hid (HB.out.trans (hb.mono HB.out.size))
  replace HOwr := Lib.hid (HOwr.out.keep hb)
  replace HOtw := Lib.hid (HOtw.out.keep hb)
  replace HOfa := Lib.hid (HOfa.out.keep hb)
  replace HOth := Lib.hid (HOth.out.keep hb)
  replace HOA := Lib.hid (HOA.out.keep hb)
  replace HOB := Lib.hid (HOB.out.keep hb)
  replace HOC := Lib.hid (HOC.out.keep hb)
  replace HOD := Lib.hid (HOD.out.keep hb)
  replace HOE := Lib.hid (HOE.out.keep hb)
  clear hb
  go_wp2_with fail
  refine (guid_lit 1 1 _).mono ?_
  rintro e wx ⟨rfl, hb⟩
  replace HB := Lib.hid (HB.out.trans (hb.mono HB.out.size))
  replace HOwr := Lib.hid (HOwr.out.keep hb)
  replace HOtw := Lib.hid (HOtw.out.keep hb)
  replace HOfa := Lib.hid (HOfa.out.keep hb)
  replace HOth := Lib.hid (HOth.out.keep hb)
  replace HOA := Lib.hid (HOA.out.keep hb)
  replace HOB := Lib.hid (HOB.out.keep hb)
  replace HOC := Lib.hid (HOC.out.keep hb)
  replace HOD := Lib.hid (HOD.out.keep hb)
  replace HOE := Lib.hid (HOE.out.keep hb)
  clear hb
  go_wp2_with fail
  refine (guid_lit 0 0 _).mono ?_
  rintro e wx ⟨rfl, hb⟩
  replace HB := Lib.hid (HB.out.trans (hb.mono HB.out.size))
  replace HOwr := Lib.hid (HOwr.out.keep hb)
  replace HOtw := Lib.hid (HOtw.out.keep hb)
  replace HOfa := Lib.hid (HOfa.out.keep hb)
  replace HOth := Lib.hid (HOth.out.keep hb)
  replace HOA := Lib.hid (HOA.out.keep hb)
  replace HOB := Lib.hid (HOB.out.keep hb)
  replace HOC := Lib.hid (HOC.out.keep hb)
  replace HOD := Lib.hid (HOD.out.keep hb)
  replace HOE := Lib.hid (HOE.out.keep hb)
  clear hb
  go_wp2_with fail
  refine (guid_lit 1 1 _).mono ?_
  rintro e wx ⟨rfl, hb⟩
  replace HB := Lib.hid (HB.out.trans (hb.mono HB.out.size))
  replace HOwr := Lib.hid (HOwr.out.keep hb)
  replace HOtw := Lib.hid (HOtw.out.keep hb)
  replace HOfa := Lib.hid (HOfa.out.keep hb)
  replace HOth := Lib.hid (HOth.out.keep hb)
  replace HOA := Lib.hid (HOA.out.keep hb)
  replace HOB := Lib.hid (HOB.out.keep hb)
  replace HOC := Lib.hid (HOC.out.keep hb)
  replace HOD := Lib.hid (HOD.out.keep hb)
  replace HOE := Lib.hid (HOE.out.keep hb)
  clear hb
  go_wp2_with fail
  refine (guid_lit 0 0 _).mono ?_
  rintro e wx ⟨rfl, hb⟩
  replace HB := Lib.hid (HB.out.trans (hb.mono HB.out.size))
  replace HOwr := Lib.hid (HOwr.out.keep hb)
  replace HOtw := Lib.hid (HOtw.out.keep hb)
  replace HOfa := Lib.hid (HOfa.out.keep hb)
  replace HOth := Lib.hid (HOth.out.keep hb)
  replace HOA := Lib.hid (HOA.out.keep hb)
  replace HOB := Lib.hid (HOB.out.keep hb)
  replace HOC := Lib.hid (HOC.out.keep hb)
  replace HOD := Lib.hid (HOD.out.keep hb)
  replace HOE := Lib.hid (HOE.out.keep hb)
  clear hb
  go_wp2_with fail
  refine (guid_lit 1 1 _).mono ?_
  rintro e wx ⟨rfl, hb⟩
  replace HB := Lib.hid (HB.out.trans (hb.mono HB.out.size))
  replace HOwr := Lib.hid (HOwr.out.keep hb)
  replace HOtw := Lib.hid (HOtw.out.keep hb)
  replace HOfa := Lib.hid (HOfa.out.keep hb)
  replace HOth := Lib.hid (HOth.out.keep hb)
  replace HOA := Lib.hid (HOA.out.keep hb)
  replace HOB := Lib.hid (HOB.out.keep hb)
  replace HOC := Lib.hid (HOC.out.keep hb)
  replace HOD := Lib.hid (HOD.out.keep hb)
  replace HOE := Lib.hid (HOE.out.keep hb)
  clear hb
  go_wp2_with fail
  refine (guid_lit 0 0 _).mono ?_
  rintro e wx ⟨rfl, hb⟩
  replace HB := Lib.hid (HB.out.trans (hb.mono HB.out.size))
  replace HOwr := Lib.hid (HOwr.out.keep hb)
  replace HOtw := Lib.hid (HOtw.out.keep hb)
  replace HOfa := Lib.hid (HOfa.out.keep hb)
  replace HOth := Lib.hid (HOth.out.keep hb)
  replace HOA := Lib.hid (HOA.out.keep hb)
  replace HOB := Lib.hid (HOB.out.keep hb)
  replace HOC := Lib.hid (HOC.out.keep hb)
  replace HOD := Lib.hid (HOD.out.keep hb)
  replace HOE := Lib.hid (HOE.out.keep hb)
  clear hb
  go_wp2_with fail
  refine (guid_lit 1 1 _).mono ?_
  rintro e wx ⟨rfl, hb⟩
  replace HB := Lib.hid (HB.out.trans (hb.mono HB.out.size))
  replace HOwr := Lib.hid (HOwr.out.keep hb)
  replace HOtw := Lib.hid (HOtw.out.keep hb)
  replace HOfa := Lib.hid (HOfa.out.keep hb)
  replace HOth := Lib.hid (HOth.out.keep hb)
  replace HOA := Lib.hid (HOA.out.keep hb)
  replace HOB := Lib.hid (HOB.out.keep hb)
  replace HOC := Lib.hid (HOC.out.keep hb)
  replace HOD := Lib.hid (HOD.out.keep hb)
  replace HOE := Lib.hid (HOE.out.keep hb)
  clear hb
  go_wp2_with fail
  refine (guid_lit 0 0 _).mono ?_
  rintro e wx ⟨rfl, hb⟩
  replace HB := Lib.hid (HB.out.trans (hb.mono HB.out.size))
  replace HOwr := Lib.hid (HOwr.out.keep hb)
  replace HOtw := Lib.hid (HOtw.out.keep hb)
  replace HOfa := Lib.hid (HOfa.out.keep hb)
  replace HOth := Lib.hid (HOth.out.keep hb)
  replace HOA := Lib.hid (HOA.out.keep hb)
  replace HOB := Lib.hid (HOB.out.keep hb)
  replace HOC := Lib.hid (HOC.out.keep hb)
  replace HOD := Lib.hid (HOD.out.keep hb)
  replace HOE := Lib.hid (HOE.out.keep hb)
  clear hb
  go_wp2_with fail
  refine (guid_lit 1 1 _).mono ?_
  rintro e wx ⟨rfl, hb⟩
  replace HB := Lib.hid (HB.out.trans (hb.mono HB.out.size))
  replace HOwr := Lib.hid (HOwr.out.keep hb)
  replace HOtw := Lib.hid (HOtw.out.keep hb)
  replace HOfa := Lib.hid (HOfa.out.keep hb)
  replace HOth := Lib.hid (HOth.out.keep hb)
  replace HOA := Lib.hid (HOA.out.keep hb)
  replace HOB := Lib.hid (HOB.out.keep hb)
  replace HOC := Lib.hid (HOC.out.keep hb)
  replace HOD := Lib.hid (HOD.out.keep hb)
  replace HOE := Lib.hid (HOE.out.keep hb)
  clear hb
  go_wp2_with fail
  have hbt := (Below.refl wx.heap.size wx).alloc (Nat.le_refl _) (Obj.cells #[.int .u64 1, .int .u64 1, .int .u64 1, .int .u64 2, .slice aA 3 cA, .int .i64 3, .int .u64 1, .int .u64 1, .int .u64 1, .int .u64 2, .slice aB 3 cB, .int .i64 (-1), .int .u64 1, .int .u64 2, .int .u64 1, .int .u64 2, .slice aC 3 cC, .int .i64 0, .int .u64 2, .int .u64 1, .int .u64 1, .int .u64 9, .slice aD 3 cD, .int .i64 0, .int .u64 0, .int .u64 0, .int .u64 0, .int .u64 0, .slice aE 3 cE, .int .i64 0, .int .u64 0, .int .u64 0, .int .u64 1, .int .u64 1, .slice awr 2 cwr, .int .i64 0, .int .u64 0, .int .u64 0, .int .u64 1, .int .u64 1, .slice atw 2 ctw, .int .i64 1, .int .u64 0, .int .u64 0, .int .u64 1, .int .u64 1, .slice afa 1 cfa, .int .i64 0, .int .u64 0, .int .u64 0, .int .u64 1, .int .u64 1, .slice ath 1 cth, .int .i64 0, .int .u64 0, .int .u64 0, .int .u64 1, .int .u64 1, .slice none 0 0, .int .i64 1] 53)
  have hkt := Blk.new wx 53 #[.int .u64 1, .int .u64 1, .int .u64 1, .int .u64 2, .slice aA 3 cA, .int .i64 3, .int .u64 1, .int .u64 1, .int .u64 1, .int .u64 2, .slice aB 3 cB, .int .i64 (-1), .int .u64 1, .int .u64 2, .int .u64 1, .int .u64 2, .slice aC 3 cC, .int .i64 0, .int .u64 2, .int .u64 1, .int .u64 1, .int .u64 9, .slice aD 3 cD, .int .i64 0, .int .u64 0, .int .u64 0, .int .u64 0, .int .u64 0, .slice aE 3 cE, .int .i64 0, .int .u64 0, .int .u64 0, .int .u64 1, .int .u64 1, .slice awr 2 cwr, .int .i64 0, .int .u64 0, .int .u64 0, .int .u64 1, .int .u64 1, .slice atw 2 ctw, .int .i64 1, .int .u64 0, .int .u64 0, .int .u64 1, .int .u64 1, .slice afa 1 cfa, .int .i64 0, .int .u64 0, .int .u64 0, .int .u64 1, .int .u64 1, .slice ath 1 cth, .int .i64 0, .int .u64 0, .int .u64 0, .int .u64 1, .int .u64 1, .slice none 0 0, .int .i64 1]
  have HRW := Lib.hid (show ∀ k, k < 10 → RowC (wx.alloc (Obj.cells #[.int .u64 1, .int .u64 1, .int .u64 1, .int .u64 2, .slice aA 3 cA, .int .i64 3, .int .u64 1, .int .u64 1, .int .u64 1, .int .u64 2, .slice aB 3 cB, .int .i64 (-1), .int .u64 1, .int .u64 2, .int .u64 1, .int .u64 2, .slice aC 3 cC, .int .i64 0, .int .u64 2, .int .u64 1, .int .u64 1, .int .u64 9, .slice aD 3 cD, .int .i64 0, .int .u64 0, .int .u64 0, .int .u64 0, .int .u64 0, .slice aE 3 cE, .int .i64 0, .int .u64 0, .int .u64 0, .int .u64 1, .int .u64 1, .slice awr 2 cwr, .int .i64 0, .int .u64 0, .int .u64 0, .int .u64 1, .int .u64 1, .slice atw 2 ctw, .int .i64 1, .int .u64 0, .int .u64 0, .int .u64 1, .int .u64 1, .slice afa 1 cfa, .int .i64 0, .int .u64 0, .int .u64 0, .int .u64 1, .int .u64 1, .slice ath 1 cth, .int .i64 0, .int .u64 0, .int .u64 0, .int .u64 1, .int .u64 1, .slice none 0 0, .int .i64 1] 53)) wx.heap.size k from fun k hk => by
    match k, hk with
    | 0, _ => exact ⟨(1, 1), (1, 2), aA, 3, cA, madeP threeM, 3, ⟨hkt.cell 0, hkt.cell 1, hkt.cell 2, hkt.cell 3, hkt.cell 4, hkt.cell 5⟩, (by obtain ⟨b, h⟩ := HOA.out.keep hbt; exact h.rdc), by decide +kernel⟩
    | 1, _ => exact ⟨(1, 1), (1, 2), aB, 3, cB, madeP threeM, (-1), ⟨hkt.cell 6, hkt.cell 7, hkt.cell 8, hkt.cell 9, hkt.cell 10, hkt.cell 11⟩, (by obtain ⟨b, h⟩ := HOB.out.keep hbt; exact h.rdc), by decide +kernel⟩
    | 2, _ => exact ⟨(1, 2), (1, 2), aC, 3, cC, madeP threeM, 0, ⟨hkt.cell 12, hkt.cell 13, hkt.cell 14, hkt.cell 15, hkt.cell 16, hkt.cell 17⟩, (by obtain ⟨b, h⟩ := HOC.out.keep hbt; exact h.rdc), by decide +kernel⟩
    | 3, _ => exact ⟨(2, 1), (1, 9), aD, 3, cD, madeP threeM, 0, ⟨hkt.cell 18, hkt.cell 19, hkt.cell 20, hkt.cell 21, hkt.cell 22, hkt.cell 23⟩, (by obtain ⟨b, h⟩ := HOD.out.keep hbt; exact h.rdc), by decide +kernel⟩
    | 4, _ => exact ⟨(0, 0), (0, 0), aE, 3, cE, madeP threeM, 0, ⟨hkt.cell 24, hkt.cell 25, hkt.cell 26, hkt.cell 27, hkt.cell 28, hkt.cell 29⟩, (by obtain ⟨b, h⟩ := HOE.out.keep hbt; exact h.rdc), by decide +kernel⟩
    | 5, _ => exact ⟨(0, 0), (1, 1), awr, 2, cwr, madeP wrongM, 0, ⟨hkt.cell 30, hkt.cell 31, hkt.cell 32, hkt.cell 33, hkt.cell 34, hkt.cell 35⟩, (by obtain ⟨b, h⟩ := HOwr.out.keep hbt; exact h.rdc), by decide +kernel⟩
    | 6, _ => exact ⟨(0, 0), (1, 1), atw, 2, ctw, madeP twiceM, 1, ⟨hkt.cell 36, hkt.cell 37, hkt.cell 38, hkt.cell 39, hkt.cell 40, hkt.cell 41⟩, (by obtain ⟨b, h⟩ := HOtw.out.keep hbt; exact h.rdc), by decide +kernel⟩
    | 7, _ => exact ⟨(0, 0), (1, 1), afa, 1, cfa, madeP farM, 0, ⟨hkt.cell 42, hkt.cell 43, hkt.cell 44, hkt.cell 45, hkt.cell 46, hkt.cell 47⟩, (by obtain ⟨b, h⟩ := HOfa.out.keep hbt; exact h.rdc), by decide +kernel⟩
    | 8, _ => exact ⟨(0, 0), (1, 1), ath, 1, cth, madeP thinM, 0, ⟨hkt.cell 48, hkt.cell 49, hkt.cell 50, hkt.cell 51, hkt.cell 52, hkt.cell 53⟩, (by obtain ⟨b, h⟩ := HOth.out.keep hbt; exact h.rdc), by decide +kernel⟩
    | 9, _ => exact ⟨(0, 0), (1, 1), none, 0, 0, [], 1, ⟨hkt.cell 54, hkt.cell 55, hkt.cell 56, hkt.cell 57, hkt.cell 58, hkt.cell 59⟩, RdC.nil_ _, by decide +kernel⟩)
  generalize hgt : wx.heap.size = gt at *
  generalize wx.alloc (Obj.cells #[.int .u64 1, .int .u64 1, .int .u64 1, .int .u64 2, .slice aA 3 cA, .int .i64 3, .int .u64 1, .int .u64 1, .int .u64 1, .int .u64 2, .slice aB 3 cB, .int .i64 (-1), .int .u64 1, .int .u64 2, .int .u64 1, .int .u64 2, .slice aC 3 cC, .int .i64 0, .int .u64 2, .int .u64 1, .int .u64 1, .int .u64 9, .slice aD 3 cD, .int .i64 0, .int .u64 0, .int .u64 0, .int .u64 0, .int .u64 0, .slice aE 3 cE, .int .i64 0, .int .u64 0, .int .u64 0, .int .u64 1, .int .u64 1, .slice awr 2 cwr, .int .i64 0, .int .u64 0, .int .u64 0, .int .u64 1, .int .u64 1, .slice atw 2 ctw, .int .i64 1, .int .u64 0, .int .u64 0, .int .u64 1, .int .u64 1, .slice afa 1 cfa, .int .i64 0, .int .u64 0, .int .u64 0, .int .u64 1, .int .u64 1, .slice ath 1 cth, .int .i64 0, .int .u64 0, .int .u64 0, .int .u64 1, .int .u64 1, .slice none 0 0, .int .i64 1] 53) = wt at *
  replace HB := Lib.hid (HB.out.trans (hbt.mono (by rw [← hgt]; exact HB.out.size)))
  clear hbt hkt hgt HOwr HOtw HOfa HOth HOA HOB HOC HOD HOE
  go_wp2_with fail
  go_loopw [124] (fun i wr => ∃ k : Nat, k ≤ 10 ∧ i = .int .i64 k ∧ Below wt.heap.size wt wr) (fun i _ => 10 - (intOf i).toNat)
  case atStart => exact ⟨0, Nat.zero_le _, rfl, Below.refl _ _⟩
  case round =>
    obtain ⟨k, hk, rfl, hb⟩ := hrel
    have HBR := Lib.hid hb
    clear hb
    by_cases hlt : k < 10
    · obtain ⟨gb, gt2, a, n, c, l, f, ⟨r0, r1, r2, r3, r4, r5⟩, hrd, hno⟩ := (HRW.out k hlt).keep HBR.out
      have hbo := (Below.refl wr.heap.size wr).alloc (Nat.le_refl _) (Obj.cells #[.int .u64 gb.1, .int .u64 gb.2, .int .u64 gt2.1, .int .u64 gt2.2, .slice a n c, .int .i64 f] 53)
      have HC := Lib.hid (cutB_lit (wr.alloc (Obj.cells #[.int .u64 gb.1, .int .u64 gb.2, .int .u64 gt2.1, .int .u64 gt2.2, .slice a n c, .int .i64 f] 53)) gb gt2 _ l f (hrd.keep hbo) hno)
      have HBO := Lib.hid (HBR.out.trans (hbo.mono HBR.out.size))
      have HLT := Lib.hid hlt
      have i1 : (k : Int) < 10 := by omega
      have i0 : (0 : Int) ≤ (k : Int) := by omega
      clear hk hlt hrd hno hbo
      go_wp2_with fail
      clear r0 r1 r2 r3 r4 r5 i1
      refine HC.out.mono ?_
      rintro e wx ⟨a2, c2, rfl, hb⟩
      have hb2 := (Below.refl wx.heap.size wx).alloc (Nat.le_refl _) (Obj.cells #[.int .u64 0, .int .u64 0, .int .u64 0, .int .u64 0, .int .i64 0, .int .i64 0, .slice a2 0 c2] 30)
      have hz := Blk.new wx 30 #[.int .u64 0, .int .u64 0, .int .u64 0, .int .u64 0, .int .i64 0, .int .i64 0, .slice a2 0 c2]
      have HB2 := Lib.hid (HBO.out.trans ((hb.trans (hb2.mono hb.size)).mono HBO.out.size))
      clear hb hb2 HC
      go_wp2_with fail
      generalize wx.alloc (Obj.cells #[.int .u64 0, .int .u64 0, .int .u64 0, .int .u64 0, .int .i64 0, .int .i64 0, .slice a2 0 c2] 30) = wc at *
      have HZ := Lib.hid hz
      clear hz
      refine wp_region_chain [5] (kv [(5, .is (.agg #[.int .u64 0, .int .u64 0]))]) (fun _ w => Below wc.heap.size wc w) (by kernel_rfl) (by kernel_rfl) (by kernel_rfl) (kv_inh _) (Below.drew (Below.refl _ _)) ?_
      intro ν hν
      have n5 : ν 5 = .agg #[.int .u64 0, .int .u64 0] := hν 5
      clear hν
      refine ch_plain 0 1 1 (by rfl) rfl (by kernel_rfl) (by kernel_rfl) ?_
      apply Exists.intro
      refine ⟨fun st w2 hlo hhi hJ => ?_, ?_⟩
      · clear hlo hhi hJ
        go_simp
        exact And.intro rfl rfl
      simp only [Act.put, List.setIfInBounds_toArray, List.set_cons_succ, List.set_cons_zero, Nat.reduceAdd]
      refine ch_plain 0 1 1 (by rfl) rfl (by kernel_rfl) (by kernel_rfl) ?_
      apply Exists.intro
      refine ⟨fun st w2 hlo hhi hJ => ?_, ?_⟩
      · clear hlo hhi hJ
        go_simp
        exact And.intro rfl rfl
      simp only [Act.put, List.setIfInBounds_toArray, List.set_cons_succ, List.set_cons_zero, Nat.reduceAdd]
      refine ch_plain 0 1 1 (by rfl) rfl (by kernel_rfl) (by kernel_rfl) ?_
      apply Exists.intro
      refine ⟨fun st w2 hlo hhi hJ => ?_, ?_⟩
      · clear hlo hhi hJ
        go_simp
        exact And.intro rfl rfl
      simp only [Act.put, List.setIfInBounds_toArray, List.set_cons_succ, List.set_cons_zero, Nat.reduceAdd]
      refine ch_plain 0 1 1 (by rfl) rfl (by kernel_rfl) (by kernel_rfl) ?_
      apply Exists.intro
      refine ⟨fun st w2 hlo hhi hJ => ?_, ?_⟩
      · clear hlo hhi hJ
        go_simp
        exact And.intro rfl rfl
      simp only [Act.put, List.setIfInBounds_toArray, List.set_cons_succ, List.set_cons_zero, Nat.reduceAdd]
      refine ch_plain 0 1 1 (by rfl) rfl (by kernel_rfl) (by kernel_rfl) ?_
      apply Exists.intro
      refine ⟨fun st w2 hlo hhi hJ => ?_, ?_⟩
      · replace hJ : Below wc.heap.size wc w2 := hJ
        have h2 := (HZ.out.keep hJ).cell 2
        have h3 := (HZ.out.keep hJ).cell 3
        simp at h2 h3
        clear hlo hhi hJ
        go_simp
        exact And.intro rfl rfl
      simp only [Act.put, List.setIfInBounds_toArray, List.set_cons_succ, List.set_cons_zero, Nat.reduceAdd]
      refine ch_special 0 1 (by rfl) rfl (by decide) (by kernel_rfl) (fun w2 hJ => ?_) ?_
      · replace hJ : Below wc.heap.size wc w2 := hJ
        go_simp
        refine (guid_lit 0 0 _).mono ?_
        rintro e w3 ⟨rfl, hb⟩
        exact ⟨_, rfl, rfl, hJ.trans (hb.mono hJ.size)⟩
      rw [n5]
      simp only [Act.put, List.setIfInBounds_toArray, List.set_cons_succ, List.set_cons_zero, Nat.reduceAdd]
      refine ch_plain 0 1 1 (by rfl) rfl (by kernel_rfl) (by kernel_rfl) ?_
      apply Exists.intro
      refine ⟨fun st w2 hlo hhi hJ => ?_, ?_⟩
      · rw [exec_neq 24 24 (.tmp 145) (.tmp 146) rfl #[.int .u64 0, .int .u64 0] #[.int .u64 0, .int .u64 0] (.bool false) rfl rfl (by kernel_rfl) (by kernel_rfl)]
        exact And.intro rfl rfl
      simp only [Act.put, List.setIfInBounds_toArray, List.set_cons_succ, List.set_cons_zero, Nat.reduceAdd]
      refine ch_plain 0 1 1 (by rfl) rfl (by kernel_rfl) (by kernel_rfl) ?_
      apply Exists.intro
      refine ⟨fun st w2 hlo hhi hJ => ?_, ?_⟩
      · clear hlo hhi hJ
        go_simp
        exact And.intro rfl rfl
      simp only [Act.put, List.setIfInBounds_toArray, List.set_cons_succ, List.set_cons_zero, Nat.reduceAdd]
      refine ch_nil (fun w5 hJ => ?_)
      have HB5 := Lib.hid (show Below wc.heap.size wc w5 from hJ)
      clear hJ n5
      go_wp2
      rw [wrap_succ HLT.out (by decide)]
      exact ⟨⟨k + 1, HLT.out, rfl, HB2.out.trans (HB5.out.mono HB2.out.size)⟩, meas_succ HLT.out⟩
    · obtain rfl : k = 10 := by omega
      rw [show ((10 : Nat) : Int) = 10 from rfl]
      replace HB := Lib.hid (HB.out.trans (HBR.out.mono HB.out.size))
      clear hk hlt HRW HBR
      have hmf := HMF.out
      obtain ⟨wx, rfl⟩ : ∃ wx : World, wx = wr := ⟨_, rfl⟩
      go_wp2_with fail
      refine (guid_lit 1 1 _).mono ?_
      rintro e wx ⟨rfl, hb⟩
      replace HB := Lib.hid (HB.out.trans (hb.mono HB.out.size))
      clear hb
      go_wp2_with fail
      refine (guid_lit 2 1 _).mono ?_
      rintro e wx ⟨rfl, hb⟩
      replace HB := Lib.hid (HB.out.trans (hb.mono HB.out.size))
      clear hb
      go_wp2_with fail
      refine (three_lit _).mono ?_
      rintro e wx ⟨aG, cG, rfl, ho, hb⟩
      replace HB := Lib.hid (HB.out.trans (hb.mono HB.out.size))
      obtain ⟨a, c, hrun, hsl⟩ := slice_from ho
      have HRUN := Lib.hid hrun
      clear hb ho
      go_wp2_with (refine wpList_value_run rfl _ (exec_slice1 27 (.tmp 154) (.const (.int .i64 1)) rfl _ _ rfl rfl _ (HRUN.out _)) ?_)
      have hb2 := (Below.refl wx.heap.size wx).alloc (Nat.le_refl _) (Obj.cells #[.int .u64 1, .int .u64 1, .int .u64 2, .int .u64 1, .int .i64 1, .int .i64 3, .slice a 2 c] 30)
      have hk := Blk.new wx 30 #[.int .u64 1, .int .u64 1, .int .u64 2, .int .u64 1, .int .i64 1, .int .i64 3, .slice a 2 c]
      have HGI := Lib.hid (show InPr (wx.alloc (Obj.cells #[.int .u64 1, .int .u64 1, .int .u64 2, .int .u64 1, .int .i64 1, .int .i64 3, .slice a 2 c] 30)) (.agg #[.int .u64 1, .int .u64 1, .int .u64 2, .int .u64 1, .int .i64 1, .int .i64 3, .slice a 2 c]) goodP from ⟨.slice a 2 c, rfl, (hsl.keep hb2).inc, good_wf⟩)
      generalize hgq : wx.heap.size = gq at *
      generalize wx.alloc (Obj.cells #[.int .u64 1, .int .u64 1, .int .u64 2, .int .u64 1, .int .i64 1, .int .i64 3, .slice a 2 c] 30) = wy at *
      replace HB := Lib.hid (HB.out.trans (hb2.mono (by rw [← hgq]; exact HB.out.size)))
      have HGB := Lib.hid hk
      clear hb2 hk hgq hsl
      obtain ⟨wx, rfl⟩ : ∃ wx : World, wx = wy := ⟨_, rfl⟩
      have HAL := Lib.hid (show AllP wx [] from fun _ h => by cases h)
      refine (with_lit 26 (badP 0) _ gq a c HGB.out HGI.out (fun _ _ => rfl) do0 (n := 0) rfl).mono ?_
      rintro e wx ⟨p0, q0, rfl, hi, hb⟩
      replace HB := Lib.hid (HB.out.trans (hb.mono HB.out.size))
      replace HGB := Lib.hid (HGB.out.keep hb)
      replace HGI := Lib.hid (HGI.out.keep hb)
      replace HAL := Lib.hid (HAL.out.keep hb)
      replace HAL := Lib.hid (HAL.out.cons (v := .agg #[.int .u64 (badP 0).b.1, .int .u64 (badP 0).b.2, .int .u64 (badP 0).t.1, .int .u64 (badP 0).t.2, .int .i64 (badP 0).f, .int .i64 (badP 0).a, .slice p0 0 q0]) (p := badP 0) hi)
      clear hb hi
      go_wp2_with fail
      refine (with_lit 27 (badP 1) _ gq a c HGB.out HGI.out (fun _ _ => rfl) do1 (n := 2) rfl).mono ?_
      rintro e wx ⟨p1, q1, rfl, hi, hb⟩
      replace HB := Lib.hid (HB.out.trans (hb.mono HB.out.size))
      replace HGB := Lib.hid (HGB.out.keep hb)
      replace HGI := Lib.hid (HGI.out.keep hb)
      replace HAL := Lib.hid (HAL.out.keep hb)
      replace HAL := Lib.hid (HAL.out.cons (v := .agg #[.int .u64 (badP 1).b.1, .int .u64 (badP 1).b.2, .int .u64 (badP 1).t.1, .int .u64 (badP 1).t.2, .int .i64 (badP 1).f, .int .i64 (badP 1).a, .slice p1 2 q1]) (p := badP 1) hi)
      clear hb hi
      go_wp2_with fail
      refine (with_lit 28 (badP 2) _ gq a c HGB.out HGI.out (fun _ _ => rfl) do2 (n := 2) rfl).mono ?_
      rintro e wx ⟨p2, q2, rfl, hi, hb⟩
      replace HB := Lib.hid (HB.out.trans (hb.mono HB.out.size))
      replace HGB := Lib.hid (HGB.out.keep hb)
      replace HGI := Lib.hid (HGI.out.keep hb)
      replace HAL := Lib.hid (HAL.out.keep hb)
      replace HAL := Lib.hid (HAL.out.cons (v := .agg #[.int .u64 (badP 2).b.1, .int .u64 (badP 2).b.2, .int .u64 (badP 2).t.1, .int .u64 (badP 2).t.2, .int .i64 (badP 2).f, .int .i64 (badP 2).a, .slice p2 2 q2]) (p := badP 2) hi)
      clear hb hi
      go_wp2_with fail
      refine (with_lit 29 (badP 3) _ gq a c HGB.out HGI.out (fun _ _ => rfl) do3 (n := 2) rfl).mono ?_
      rintro e wx ⟨p3, q3, rfl, hi, hb⟩
      replace HB := Lib.hid (HB.out.trans (hb.mono HB.out.size))
      replace HGB := Lib.hid (HGB.out.keep hb)
      replace HGI := Lib.hid (HGI.out.keep hb)
      replace HAL := Lib.hid (HAL.out.keep hb)
      replace HAL := Lib.hid (HAL.out.cons (v := .agg #[.int .u64 (badP 3).b.1, .int .u64 (badP 3).b.2, .int .u64 (badP 3).t.1, .int .u64 (badP 3).t.2, .int .i64 (badP 3).f, .int .i64 (badP 3).a, .slice p3 2 q3]) (p := badP 3) hi)
      clear hb hi
      go_wp2_with fail
      refine (with_lit 30 (badP 4) _ gq a c HGB.out HGI.out (fun _ _ => rfl) do4 (n := 2) rfl).mono ?_
      rintro e wx ⟨p4, q4, rfl, hi, hb⟩
      replace HB := Lib.hid (HB.out.trans (hb.mono HB.out.size))
      replace HGB := Lib.hid (HGB.out.keep hb)
      replace HGI := Lib.hid (HGI.out.keep hb)
      replace HAL := Lib.hid (HAL.out.keep hb)
      replace HAL := Lib.hid (HAL.out.cons (v := .agg #[.int .u64 (badP 4).b.1, .int .u64 (badP 4).b.2, .int .u64 (badP 4).t.1, .int .u64 (badP 4).t.2, .int .i64 (badP 4).f, .int .i64 (badP 4).a, .slice p4 2 q4]) (p := badP 4) hi)
      clear hb hi
      go_wp2_with fail
      refine (with_lit 31 (badP 5) _ gq a c HGB.out HGI.out (fun _ _ => rfl) do5 (n := 3) rfl).mono ?_
      rintro e wx ⟨p5, q5, rfl, hi, hb⟩
      replace HB := Lib.hid (HB.out.trans (hb.mono HB.out.size))
      replace HGB := Lib.hid (HGB.out.keep hb)
      replace HGI := Lib.hid (HGI.out.keep hb)
      replace HAL := Lib.hid (HAL.out.keep hb)
      replace HAL := Lib.hid (HAL.out.cons (v := .agg #[.int .u64 (badP 5).b.1, .int .u64 (badP 5).b.2, .int .u64 (badP 5).t.1, .int .u64 (badP 5).t.2, .int .i64 (badP 5).f, .int .i64 (badP 5).a, .slice p5 3 q5]) (p := badP 5) hi)
      clear hb hi
      go_wp2_with fail
      refine (with_lit 32 (badP 6) _ gq a c HGB.out HGI.out (fun _ _ => rfl) do6 (n := 2) rfl).mono ?_
      rintro e wx ⟨p6, q6, rfl, hi, hb⟩
      replace HB := Lib.hid (HB.out.trans (hb.mono HB.out.size))
      replace HGB := Lib.hid (HGB.out.keep hb)
      replace HGI := Lib.hid (HGI.out.keep hb)
      replace HAL := Lib.hid (HAL.out.keep hb)
      replace HAL := Lib.hid (HAL.out.cons (v := .agg #[.int .u64 (badP 6).b.1, .int .u64 (badP 6).b.2, .int .u64 (badP 6).t.1, .int .u64 (badP 6).t.2, .int .i64 (badP 6).f, .int .i64 (badP 6).a, .slice p6 2 q6]) (p := badP 6) hi)
      clear hb hi
      go_wp2_with fail
      refine (with_lit 33 (badP 7) _ gq a c HGB.out HGI.out (fun _ _ => rfl) do7 (n := 2) rfl).mono ?_
      rintro e wx ⟨p7, q7, rfl, hi, hb⟩
      replace HB := Lib.hid (HB.out.trans (hb.mono HB.out.size))
      replace HGB := Lib.hid (HGB.out.keep hb)
      replace HGI := Lib.hid (HGI.out.keep hb)
      replace HAL := Lib.hid (HAL.out.keep hb)
      replace HAL := Lib.hid (HAL.out.cons (v := .agg #[.int .u64 (badP 7).b.1, .int .u64 (badP 7).b.2, .int .u64 (badP 7).t.1, .int .u64 (badP 7).t.2, .int .i64 (badP 7).f, .int .i64 (badP 7).a, .slice p7 2 q7]) (p := badP 7) hi)
      clear hb hi
      go_wp2_with fail
      refine (with_lit 34 (badP 8) _ gq a c HGB.out HGI.out (fun _ _ => rfl) do8 (n := 2) rfl).mono ?_
      rintro e wx ⟨p8, q8, rfl, hi, hb⟩
      replace HB := Lib.hid (HB.out.trans (hb.mono HB.out.size))
      replace HGB := Lib.hid (HGB.out.keep hb)
      replace HGI := Lib.hid (HGI.out.keep hb)
      replace HAL := Lib.hid (HAL.out.keep hb)
      replace HAL := Lib.hid (HAL.out.cons (v := .agg #[.int .u64 (badP 8).b.1, .int .u64 (badP 8).b.2, .int .u64 (badP 8).t.1, .int .u64 (badP 8).t.2, .int .i64 (badP 8).f, .int .i64 (badP 8).a, .slice p8 2 q8]) (p := badP 8) hi)
      clear hb hi
      go_wp2_with fail
      refine (with_lit 35 (badP 9) _ gq a c HGB.out HGI.out (fun _ _ => rfl) do9 (n := 1) rfl).mono ?_
      rintro e wx ⟨p9, q9, rfl, hi, hb⟩
      replace HB := Lib.hid (HB.out.trans (hb.mono HB.out.size))
      replace HGB := Lib.hid (HGB.out.keep hb)
      replace HGI := Lib.hid (HGI.out.keep hb)
      replace HAL := Lib.hid (HAL.out.keep hb)
      replace HAL := Lib.hid (HAL.out.cons (v := .agg #[.int .u64 (badP 9).b.1, .int .u64 (badP 9).b.2, .int .u64 (badP 9).t.1, .int .u64 (badP 9).t.2, .int .i64 (badP 9).f, .int .i64 (badP 9).a, .slice p9 1 q9]) (p := badP 9) hi)
      clear hb hi
      go_wp2_with fail
      refine (with_lit 36 (badP 10) _ gq a c HGB.out HGI.out (fun _ _ => rfl) do10 (n := 0) rfl).mono ?_
      rintro e wx ⟨p10, q10, rfl, hi, hb⟩
      replace HB := Lib.hid (HB.out.trans (hb.mono HB.out.size))
      replace HGB := Lib.hid (HGB.out.keep hb)
      replace HGI := Lib.hid (HGI.out.keep hb)
      replace HAL := Lib.hid (HAL.out.keep hb)
      replace HAL := Lib.hid (HAL.out.cons (v := .agg #[.int .u64 (badP 10).b.1, .int .u64 (badP 10).b.2, .int .u64 (badP 10).t.1, .int .u64 (badP 10).t.2, .int .i64 (badP 10).f, .int .i64 (badP 10).a, .slice p10 0 q10]) (p := badP 10) hi)
      clear hb hi
      go_wp2_with fail
      have hbt := (Below.refl wx.heap.size wx).alloc (Nat.le_refl _) (Obj.cells #[.int .u64 (badP 0).b.1, .int .u64 (badP 0).b.2, .int .u64 (badP 0).t.1, .int .u64 (badP 0).t.2, .int .i64 (badP 0).f, .int .i64 (badP 0).a, .slice p0 0 q0, .int .u64 (badP 1).b.1, .int .u64 (badP 1).b.2, .int .u64 (badP 1).t.1, .int .u64 (badP 1).t.2, .int .i64 (badP 1).f, .int .i64 (badP 1).a, .slice p1 2 q1, .int .u64 (badP 2).b.1, .int .u64 (badP 2).b.2, .int .u64 (badP 2).t.1, .int .u64 (badP 2).t.2, .int .i64 (badP 2).f, .int .i64 (badP 2).a, .slice p2 2 q2, .int .u64 (badP 3).b.1, .int .u64 (badP 3).b.2, .int .u64 (badP 3).t.1, .int .u64 (badP 3).t.2, .int .i64 (badP 3).f, .int .i64 (badP 3).a, .slice p3 2 q3, .int .u64 (badP 4).b.1, .int .u64 (badP 4).b.2, .int .u64 (badP 4).t.1, .int .u64 (badP 4).t.2, .int .i64 (badP 4).f, .int .i64 (badP 4).a, .slice p4 2 q4, .int .u64 (badP 5).b.1, .int .u64 (badP 5).b.2, .int .u64 (badP 5).t.1, .int .u64 (badP 5).t.2, .int .i64 (badP 5).f, .int .i64 (badP 5).a, .slice p5 3 q5, .int .u64 (badP 6).b.1, .int .u64 (badP 6).b.2, .int .u64 (badP 6).t.1, .int .u64 (badP 6).t.2, .int .i64 (badP 6).f, .int .i64 (badP 6).a, .slice p6 2 q6, .int .u64 (badP 7).b.1, .int .u64 (badP 7).b.2, .int .u64 (badP 7).t.1, .int .u64 (badP 7).t.2, .int .i64 (badP 7).f, .int .i64 (badP 7).a, .slice p7 2 q7, .int .u64 (badP 8).b.1, .int .u64 (badP 8).b.2, .int .u64 (badP 8).t.1, .int .u64 (badP 8).t.2, .int .i64 (badP 8).f, .int .i64 (badP 8).a, .slice p8 2 q8, .int .u64 (badP 9).b.1, .int .u64 (badP 9).b.2, .int .u64 (badP 9).t.1, .int .u64 (badP 9).t.2, .int .i64 (badP 9).f, .int .i64 (badP 9).a, .slice p9 1 q9, .int .u64 (badP 10).b.1, .int .u64 (badP 10).b.2, .int .u64 (badP 10).t.1, .int .u64 (badP 10).t.2, .int .i64 (badP 10).f, .int .i64 (badP 10).a, .slice p10 0 q10] 30)
      have hkt := Blk.new wx 30 #[.int .u64 (badP 0).b.1, .int .u64 (badP 0).b.2, .int .u64 (badP 0).t.1, .int .u64 (badP 0).t.2, .int .i64 (badP 0).f, .int .i64 (badP 0).a, .slice p0 0 q0, .int .u64 (badP 1).b.1, .int .u64 (badP 1).b.2, .int .u64 (badP 1).t.1, .int .u64 (badP 1).t.2, .int .i64 (badP 1).f, .int .i64 (badP 1).a, .slice p1 2 q1, .int .u64 (badP 2).b.1, .int .u64 (badP 2).b.2, .int .u64 (badP 2).t.1, .int .u64 (badP 2).t.2, .int .i64 (badP 2).f, .int .i64 (badP 2).a, .slice p2 2 q2, .int .u64 (badP 3).b.1, .int .u64 (badP 3).b.2, .int .u64 (badP 3).t.1, .int .u64 (badP 3).t.2, .int .i64 (badP 3).f, .int .i64 (badP 3).a, .slice p3 2 q3, .int .u64 (badP 4).b.1, .int .u64 (badP 4).b.2, .int .u64 (badP 4).t.1, .int .u64 (badP 4).t.2, .int .i64 (badP 4).f, .int .i64 (badP 4).a, .slice p4 2 q4, .int .u64 (badP 5).b.1, .int .u64 (badP 5).b.2, .int .u64 (badP 5).t.1, .int .u64 (badP 5).t.2, .int .i64 (badP 5).f, .int .i64 (badP 5).a, .slice p5 3 q5, .int .u64 (badP 6).b.1, .int .u64 (badP 6).b.2, .int .u64 (badP 6).t.1, .int .u64 (badP 6).t.2, .int .i64 (badP 6).f, .int .i64 (badP 6).a, .slice p6 2 q6, .int .u64 (badP 7).b.1, .int .u64 (badP 7).b.2, .int .u64 (badP 7).t.1, .int .u64 (badP 7).t.2, .int .i64 (badP 7).f, .int .i64 (badP 7).a, .slice p7 2 q7, .int .u64 (badP 8).b.1, .int .u64 (badP 8).b.2, .int .u64 (badP 8).t.1, .int .u64 (badP 8).t.2, .int .i64 (badP 8).f, .int .i64 (badP 8).a, .slice p8 2 q8, .int .u64 (badP 9).b.1, .int .u64 (badP 9).b.2, .int .u64 (badP 9).t.1, .int .u64 (badP 9).t.2, .int .i64 (badP 9).f, .int .i64 (badP 9).a, .slice p9 1 q9, .int .u64 (badP 10).b.1, .int .u64 (badP 10).b.2, .int .u64 (badP 10).t.1, .int .u64 (badP 10).t.2, .int .i64 (badP 10).f, .int .i64 (badP 10).a, .slice p10 0 q10]
      have HRP := Lib.hid (show ∀ k, k < 11 → RowP (wx.alloc (Obj.cells #[.int .u64 (badP 0).b.1, .int .u64 (badP 0).b.2, .int .u64 (badP 0).t.1, .int .u64 (badP 0).t.2, .int .i64 (badP 0).f, .int .i64 (badP 0).a, .slice p0 0 q0, .int .u64 (badP 1).b.1, .int .u64 (badP 1).b.2, .int .u64 (badP 1).t.1, .int .u64 (badP 1).t.2, .int .i64 (badP 1).f, .int .i64 (badP 1).a, .slice p1 2 q1, .int .u64 (badP 2).b.1, .int .u64 (badP 2).b.2, .int .u64 (badP 2).t.1, .int .u64 (badP 2).t.2, .int .i64 (badP 2).f, .int .i64 (badP 2).a, .slice p2 2 q2, .int .u64 (badP 3).b.1, .int .u64 (badP 3).b.2, .int .u64 (badP 3).t.1, .int .u64 (badP 3).t.2, .int .i64 (badP 3).f, .int .i64 (badP 3).a, .slice p3 2 q3, .int .u64 (badP 4).b.1, .int .u64 (badP 4).b.2, .int .u64 (badP 4).t.1, .int .u64 (badP 4).t.2, .int .i64 (badP 4).f, .int .i64 (badP 4).a, .slice p4 2 q4, .int .u64 (badP 5).b.1, .int .u64 (badP 5).b.2, .int .u64 (badP 5).t.1, .int .u64 (badP 5).t.2, .int .i64 (badP 5).f, .int .i64 (badP 5).a, .slice p5 3 q5, .int .u64 (badP 6).b.1, .int .u64 (badP 6).b.2, .int .u64 (badP 6).t.1, .int .u64 (badP 6).t.2, .int .i64 (badP 6).f, .int .i64 (badP 6).a, .slice p6 2 q6, .int .u64 (badP 7).b.1, .int .u64 (badP 7).b.2, .int .u64 (badP 7).t.1, .int .u64 (badP 7).t.2, .int .i64 (badP 7).f, .int .i64 (badP 7).a, .slice p7 2 q7, .int .u64 (badP 8).b.1, .int .u64 (badP 8).b.2, .int .u64 (badP 8).t.1, .int .u64 (badP 8).t.2, .int .i64 (badP 8).f, .int .i64 (badP 8).a, .slice p8 2 q8, .int .u64 (badP 9).b.1, .int .u64 (badP 9).b.2, .int .u64 (badP 9).t.1, .int .u64 (badP 9).t.2, .int .i64 (badP 9).f, .int .i64 (badP 9).a, .slice p9 1 q9, .int .u64 (badP 10).b.1, .int .u64 (badP 10).b.2, .int .u64 (badP 10).t.1, .int .u64 (badP 10).t.2, .int .i64 (badP 10).f, .int .i64 (badP 10).a, .slice p10 0 q10] 30)) wx.heap.size k from fun k hk => by
        have hal := HAL.out.keep hbt
        match k, hk with
        | 0, hk => exact ⟨badP 0, p0, 0, q0, ⟨hkt.cell 0, hkt.cell 1, hkt.cell 2, hkt.cell 3, hkt.cell 4, hkt.cell 5, hkt.cell 6⟩, hal (.agg #[.int .u64 (badP 0).b.1, .int .u64 (badP 0).b.2, .int .u64 (badP 0).t.1, .int .u64 (badP 0).t.2, .int .i64 (badP 0).f, .int .i64 (badP 0).a, .slice p0 0 q0], badP 0) (List.mem_of_getElem? (i := 10) rfl), bad_no _ hk⟩
        | 1, hk => exact ⟨badP 1, p1, 2, q1, ⟨hkt.cell 7, hkt.cell 8, hkt.cell 9, hkt.cell 10, hkt.cell 11, hkt.cell 12, hkt.cell 13⟩, hal (.agg #[.int .u64 (badP 1).b.1, .int .u64 (badP 1).b.2, .int .u64 (badP 1).t.1, .int .u64 (badP 1).t.2, .int .i64 (badP 1).f, .int .i64 (badP 1).a, .slice p1 2 q1], badP 1) (List.mem_of_getElem? (i := 9) rfl), bad_no _ hk⟩
        | 2, hk => exact ⟨badP 2, p2, 2, q2, ⟨hkt.cell 14, hkt.cell 15, hkt.cell 16, hkt.cell 17, hkt.cell 18, hkt.cell 19, hkt.cell 20⟩, hal (.agg #[.int .u64 (badP 2).b.1, .int .u64 (badP 2).b.2, .int .u64 (badP 2).t.1, .int .u64 (badP 2).t.2, .int .i64 (badP 2).f, .int .i64 (badP 2).a, .slice p2 2 q2], badP 2) (List.mem_of_getElem? (i := 8) rfl), bad_no _ hk⟩
        | 3, hk => exact ⟨badP 3, p3, 2, q3, ⟨hkt.cell 21, hkt.cell 22, hkt.cell 23, hkt.cell 24, hkt.cell 25, hkt.cell 26, hkt.cell 27⟩, hal (.agg #[.int .u64 (badP 3).b.1, .int .u64 (badP 3).b.2, .int .u64 (badP 3).t.1, .int .u64 (badP 3).t.2, .int .i64 (badP 3).f, .int .i64 (badP 3).a, .slice p3 2 q3], badP 3) (List.mem_of_getElem? (i := 7) rfl), bad_no _ hk⟩
        | 4, hk => exact ⟨badP 4, p4, 2, q4, ⟨hkt.cell 28, hkt.cell 29, hkt.cell 30, hkt.cell 31, hkt.cell 32, hkt.cell 33, hkt.cell 34⟩, hal (.agg #[.int .u64 (badP 4).b.1, .int .u64 (badP 4).b.2, .int .u64 (badP 4).t.1, .int .u64 (badP 4).t.2, .int .i64 (badP 4).f, .int .i64 (badP 4).a, .slice p4 2 q4], badP 4) (List.mem_of_getElem? (i := 6) rfl), bad_no _ hk⟩
        | 5, hk => exact ⟨badP 5, p5, 3, q5, ⟨hkt.cell 35, hkt.cell 36, hkt.cell 37, hkt.cell 38, hkt.cell 39, hkt.cell 40, hkt.cell 41⟩, hal (.agg #[.int .u64 (badP 5).b.1, .int .u64 (badP 5).b.2, .int .u64 (badP 5).t.1, .int .u64 (badP 5).t.2, .int .i64 (badP 5).f, .int .i64 (badP 5).a, .slice p5 3 q5], badP 5) (List.mem_of_getElem? (i := 5) rfl), bad_no _ hk⟩
        | 6, hk => exact ⟨badP 6, p6, 2, q6, ⟨hkt.cell 42, hkt.cell 43, hkt.cell 44, hkt.cell 45, hkt.cell 46, hkt.cell 47, hkt.cell 48⟩, hal (.agg #[.int .u64 (badP 6).b.1, .int .u64 (badP 6).b.2, .int .u64 (badP 6).t.1, .int .u64 (badP 6).t.2, .int .i64 (badP 6).f, .int .i64 (badP 6).a, .slice p6 2 q6], badP 6) (List.mem_of_getElem? (i := 4) rfl), bad_no _ hk⟩
        | 7, hk => exact ⟨badP 7, p7, 2, q7, ⟨hkt.cell 49, hkt.cell 50, hkt.cell 51, hkt.cell 52, hkt.cell 53, hkt.cell 54, hkt.cell 55⟩, hal (.agg #[.int .u64 (badP 7).b.1, .int .u64 (badP 7).b.2, .int .u64 (badP 7).t.1, .int .u64 (badP 7).t.2, .int .i64 (badP 7).f, .int .i64 (badP 7).a, .slice p7 2 q7], badP 7) (List.mem_of_getElem? (i := 3) rfl), bad_no _ hk⟩
        | 8, hk => exact ⟨badP 8, p8, 2, q8, ⟨hkt.cell 56, hkt.cell 57, hkt.cell 58, hkt.cell 59, hkt.cell 60, hkt.cell 61, hkt.cell 62⟩, hal (.agg #[.int .u64 (badP 8).b.1, .int .u64 (badP 8).b.2, .int .u64 (badP 8).t.1, .int .u64 (badP 8).t.2, .int .i64 (badP 8).f, .int .i64 (badP 8).a, .slice p8 2 q8], badP 8) (List.mem_of_getElem? (i := 2) rfl), bad_no _ hk⟩
        | 9, hk => exact ⟨badP 9, p9, 1, q9, ⟨hkt.cell 63, hkt.cell 64, hkt.cell 65, hkt.cell 66, hkt.cell 67, hkt.cell 68, hkt.cell 69⟩, hal (.agg #[.int .u64 (badP 9).b.1, .int .u64 (badP 9).b.2, .int .u64 (badP 9).t.1, .int .u64 (badP 9).t.2, .int .i64 (badP 9).f, .int .i64 (badP 9).a, .slice p9 1 q9], badP 9) (List.mem_of_getElem? (i := 1) rfl), bad_no _ hk⟩
        | 10, hk => exact ⟨badP 10, p10, 0, q10, ⟨hkt.cell 70, hkt.cell 71, hkt.cell 72, hkt.cell 73, hkt.cell 74, hkt.cell 75, hkt.cell 76⟩, hal (.agg #[.int .u64 (badP 10).b.1, .int .u64 (badP 10).b.2, .int .u64 (badP 10).t.1, .int .u64 (badP 10).t.2, .int .i64 (badP 10).f, .int .i64 (badP 10).a, .slice p10 0 q10], badP 10) (List.mem_of_getElem? (i := 0) rfl), bad_no _ hk⟩)
      generalize hgt : wx.heap.size = gs at *
      replace HGB := Lib.hid (HGB.out.keep (by rw [hgt]; exact hbt))
      replace HGI := Lib.hid (HGI.out.keep (by rw [hgt]; exact hbt))
      generalize wx.alloc (Obj.cells #[.int .u64 (badP 0).b.1, .int .u64 (badP 0).b.2, .int .u64 (badP 0).t.1, .int .u64 (badP 0).t.2, .int .i64 (badP 0).f, .int .i64 (badP 0).a, .slice p0 0 q0, .int .u64 (badP 1).b.1, .int .u64 (badP 1).b.2, .int .u64 (badP 1).t.1, .int .u64 (badP 1).t.2, .int .i64 (badP 1).f, .int .i64 (badP 1).a, .slice p1 2 q1, .int .u64 (badP 2).b.1, .int .u64 (badP 2).b.2, .int .u64 (badP 2).t.1, .int .u64 (badP 2).t.2, .int .i64 (badP 2).f, .int .i64 (badP 2).a, .slice p2 2 q2, .int .u64 (badP 3).b.1, .int .u64 (badP 3).b.2, .int .u64 (badP 3).t.1, .int .u64 (badP 3).t.2, .int .i64 (badP 3).f, .int .i64 (badP 3).a, .slice p3 2 q3, .int .u64 (badP 4).b.1, .int .u64 (badP 4).b.2, .int .u64 (badP 4).t.1, .int .u64 (badP 4).t.2, .int .i64 (badP 4).f, .int .i64 (badP 4).a, .slice p4 2 q4, .int .u64 (badP 5).b.1, .int .u64 (badP 5).b.2, .int .u64 (badP 5).t.1, .int .u64 (badP 5).t.2, .int .i64 (badP 5).f, .int .i64 (badP 5).a, .slice p5 3 q5, .int .u64 (badP 6).b.1, .int .u64 (badP 6).b.2, .int .u64 (badP 6).t.1, .int .u64 (badP 6).t.2, .int .i64 (badP 6).f, .int .i64 (badP 6).a, .slice p6 2 q6, .int .u64 (badP 7).b.1, .int .u64 (badP 7).b.2, .int .u64 (badP 7).t.1, .int .u64 (badP 7).t.2, .int .i64 (badP 7).f, .int .i64 (badP 7).a, .slice p7 2 q7, .int .u64 (badP 8).b.1, .int .u64 (badP 8).b.2, .int .u64 (badP 8).t.1, .int .u64 (badP 8).t.2, .int .i64 (badP 8).f, .int .i64 (badP 8).a, .slice p8 2 q8, .int .u64 (badP 9).b.1, .int .u64 (badP 9).b.2, .int .u64 (badP 9).t.1, .int .u64 (badP 9).t.2, .int .i64 (badP 9).f, .int .i64 (badP 9).a, .slice p9 1 q9, .int .u64 (badP 10).b.1, .int .u64 (badP 10).b.2, .int .u64 (badP 10).t.1, .int .u64 (badP 10).t.2, .int .i64 (badP 10).f, .int .i64 (badP 10).a, .slice p10 0 q10] 30) = wt2 at *
      replace HB := Lib.hid (HB.out.trans (hbt.mono (by rw [← hgt]; exact HB.out.size)))
      clear hbt hkt hgt HAL hmf
      go_wp2_with fail
      go_loopw [182] (fun i wr => ∃ k : Nat, k ≤ 11 ∧ i = .int .i64 k ∧ Below wt2.heap.size wt2 wr) (fun i _ => 11 - (intOf i).toNat)
      case atStart => exact ⟨0, Nat.zero_le _, rfl, Below.refl _ _⟩
      case round =>
        obtain ⟨k, hk, rfl, hb⟩ := hrel
        have HBR := Lib.hid hb
        clear hb
        by_cases hlt : k < 11
        · obtain ⟨pR, aR, nR, cR, ⟨r0, r1, r2, r3, r4, r5, r6⟩, hin, hno⟩ := (HRP.out k hlt).keep HBR.out
          have hbo := (Below.refl wr.heap.size wr).alloc (Nat.le_refl _) (Obj.cells #[.int .u64 pR.b.1, .int .u64 pR.b.2, .int .u64 pR.t.1, .int .u64 pR.t.2, .int .i64 pR.f, .int .i64 pR.a, .slice aR nR cR] 30)
          have hkr := Blk.new wr 30 #[.int .u64 pR.b.1, .int .u64 pR.b.2, .int .u64 pR.t.1, .int .u64 pR.t.2, .int .i64 pR.f, .int .i64 pR.a, .slice aR nR cR]
          have HIN := Lib.hid (hin.keep hbo)
          have he1 : encS pR = ByteArray.empty := if_neg hno
          have HCE := Lib.hid (And.intro he1 (checkP_bad hno))
          have HBO := Lib.hid (HBR.out.trans (hbo.mono HBR.out.size))
          have HLT := Lib.hid hlt
          have i1 : (k : Int) < 11 := by omega
          have i0 : (0 : Int) ≤ (k : Int) := by omega
          clear hk hlt hno hbo hin he1
          go_wp2_with fail
          clear r0 r1 r2 r3 r4 r5 r6 i1
          generalize wr.alloc (Obj.cells #[.int .u64 pR.b.1, .int .u64 pR.b.2, .int .u64 pR.t.1, .int .u64 pR.t.2, .int .i64 pR.f, .int .i64 pR.a, .slice aR nR cR] 30) = wc at *
          have HKR := Lib.hid hkr
          clear hkr
          have he := enc_any _ _ pR HIN.out
          rw [HCE.out.1, HCE.out.2] at he
          have HE := Lib.hid he
          clear he
          refine HE.out.mono ?_
          rintro e wx ⟨rfl, hb⟩
          have HB2 := Lib.hid (HBO.out.trans (hb.mono HBO.out.size))
          have hkk := HKR.out.keep hb
          have x0 := hkk.cell 0
          have x1 := hkk.cell 1
          have x2 := hkk.cell 2
          have x3 := hkk.cell 3
          have x4 := hkk.cell 4
          have x5 := hkk.cell 5
          have x6 := hkk.cell 6
          simp at x0 x1 x2 x3 x4 x5 x6
          have hck := check_any _ _ pR (HIN.out.keep hb)
          rw [HCE.out.2] at hck
          have HCK := Lib.hid hck
          clear hb hck hkk HE
          go_wp2_with fail
          refine HCK.out.mono ?_
          rintro e wz ⟨rfl, hb⟩
          have HB3 := Lib.hid (HB2.out.trans (hb.mono HB2.out.size))
          clear hb x0 x1 x2 x3 x4 x5 x6 HCK
          go_wp2
          rw [wrap_succ HLT.out (by decide)]
          exact ⟨⟨k + 1, HLT.out, rfl, HB3.out⟩, meas_succ HLT.out⟩
        · obtain rfl : k = 11 := by omega
          rw [show ((11 : Nat) : Int) = 11 from rfl]
          replace HB := Lib.hid (HB.out.trans (HBR.out.mono HB.out.size))
          replace HGB := Lib.hid (HGB.out.keep HBR.out)
          replace HGI := Lib.hid (HGI.out.keep HBR.out)
          clear hk hlt HRP HBR
          have x0 := HGB.out.cell 0
          have x1 := HGB.out.cell 1
          have x2 := HGB.out.cell 2
          have x3 := HGB.out.cell 3
          have x4 := HGB.out.cell 4
          have x5 := HGB.out.cell 5
          have x6 := HGB.out.cell 6
          simp at x0 x1 x2 x3 x4 x5 x6
          obtain ⟨wx, rfl⟩ : ∃ wx : World, wx = wr := ⟨_, rfl⟩
          go_wp2_with fail
          have he := enc_any _ _ goodP HGI.out
          rw [checkP_ok good_ok] at he
          have hsz := good_size
          obtain ⟨tS, htS⟩ : ∃ x, encS goodP = x := ⟨_, rfl⟩
          rw [htS] at he hsz
          have HTS := Lib.hid htS
          have HSZ := Lib.hid hsz
          have HE := Lib.hid he
          clear he hsz htS
          refine HE.out.mono ?_
          rintro e wx ⟨rfl, hb⟩
          replace HB := Lib.hid (HB.out.trans (hb.mono HB.out.size))
          replace HGB := Lib.hid (HGB.out.keep hb)
          replace HGI := Lib.hid (HGI.out.keep hb)
          replace x0 := cell_later hb x0
          replace x1 := cell_later hb x1
          replace x2 := cell_later hb x2
          replace x3 := cell_later hb x3
          replace x4 := cell_later hb x4
          replace x5 := cell_later hb x5
          replace x6 := cell_later hb x6
          clear hb HE
          go_wp2_with fail
          clear x0 x1 x2 x3 x4 x5 x6
          have hck := check_any _ _ goodP HGI.out
          rw [checkP_ok good_ok] at hck
          have HCK := Lib.hid hck
          clear hck
          refine HCK.out.mono ?_
          rintro e wx ⟨rfl, hb⟩
          replace HB := Lib.hid (HB.out.trans (hb.mono HB.out.size))
          replace HGB := Lib.hid (HGB.out.keep hb)
          replace HGI := Lib.hid (HGI.out.keep hb)
          clear hb HCK
          go_wp2_with fail
          have hb2 := (Below.refl wx.heap.size wx).alloc (Nat.le_refl _) (Obj.cells #[.int .u64 1, .int .u64 1, .int .u64 1, .int .u64 2, .int .u64 0, .int .u64 0, .int .u64 0] 22)
          have hkn := Blk.new wx 22 #[.int .u64 1, .int .u64 1, .int .u64 1, .int .u64 2, .int .u64 0, .int .u64 0, .int .u64 0]
          generalize hgn : wx.heap.size = gn at *
          replace HGB := Lib.hid (HGB.out.keep (by rw [hgn]; exact hb2))
          replace HGI := Lib.hid (HGI.out.keep (by rw [hgn]; exact hb2))
          generalize wx.alloc (Obj.cells #[.int .u64 1, .int .u64 1, .int .u64 1, .int .u64 2, .int .u64 0, .int .u64 0, .int .u64 0] 22) = wn at *
          replace HB := Lib.hid (HB.out.trans (hb2.mono (by rw [← hgn]; exact HB.out.size)))
          have HKN := Lib.hid hkn
          have HR0 := Lib.hid (show strOf (rawL 0) = ByteArray.empty from rfl)
          clear hb2 hkn hgn
          go_loopw [21, 220] (fun s i wr => ∃ k : Nat, k ≤ 7 ∧ i = .int .i64 k ∧ s = .string (strOf (rawL k)) ∧ Below wn.heap.size wn wr) (fun _ i _ => 7 - (intOf i).toNat)
          case atStart => exact ⟨0, Nat.zero_le _, rfl, rfl, Below.refl _ _⟩
          case round =>
            obtain ⟨k, hk, rfl, rfl, hb⟩ := hrel
            have HBR := Lib.hid hb
            clear hb
            by_cases hlt : k < 7
            · have hc : wr.cell? ⟨gn, k, none⟩ = some (.int .u64 ((rawN k : Nat) : Int)) := ((HKN.out.keep HBR.out).cell k).trans (by
                have h7 : k = 0 ∨ k = 1 ∨ k = 2 ∨ k = 3 ∨ k = 4 ∨ k = 5 ∨ k = 6 := by omega
                rcases h7 with rfl | rfl | rfl | rfl | rfl | rfl | rfl <;> rfl)
              have HPN := Lib.hid (fun w => putNum_any (strOf (rawL k)) (rawN k) w (rawN_lt k) (by rw [strOf_size]; have := rawL_le k; unfold maxLen; omega))
              have HSU := Lib.hid (show strOf ((strOf (rawL k)).data.toList ++ Wire.putNum (rawN k)) = strOf (rawL (k + 1)) from rawL_succ k)
              obtain ⟨rn, hrn⟩ : ∃ x, rawN k = x := ⟨_, rfl⟩
              obtain ⟨rs, hrs⟩ : ∃ x, strOf (rawL k) = x := ⟨_, rfl⟩
              rw [hrn] at hc HPN HSU
              rw [hrs] at HPN HSU ⊢
              have HLT := Lib.hid hlt
              have i1 : (k : Int) < 7 := by omega
              have i0 : (0 : Int) ≤ (k : Int) := by omega
              clear hk hlt hrn hrs
              go_wp2_with fail
              clear i1 hc
              refine (HPN.out _).mono ?_
              rintro e wz ⟨rfl, hb⟩
              have HB3 := Lib.hid (HBR.out.trans (hb.mono HBR.out.size))
              rw [HSU.out]
              clear hb
              go_wp2
              rw [wrap_succ HLT.out (by decide)]
              exact ⟨⟨k + 1, HLT.out, rfl, rfl, HB3.out⟩, meas_succ HLT.out⟩
            · obtain rfl : k = 7 := by omega
              rw [show ((7 : Nat) : Int) = 7 from rfl]
              replace HB := Lib.hid (HB.out.trans (HBR.out.mono HB.out.size))
              replace HGB := Lib.hid (HGB.out.keep HBR.out)
              replace HGI := Lib.hid (HGI.out.keep HBR.out)
              obtain ⟨rS, hrS⟩ : ∃ x, strOf (rawL 7) = x := ⟨_, rfl⟩
              rw [hrS]
              have HRS := Lib.hid hrS
              have HRZ := Lib.hid (show rS.size = 11 from by rw [← hrS]; decide +kernel)
              clear hk hlt HBR HKN hrS
              go_wp2_with fail
              obtain ⟨s4, hs4⟩ : ∃ x, strOf (Crc.sealed (rS ++ zB).data.toList) = x := ⟨_, rfl⟩
              obtain ⟨s5, hs5⟩ : ∃ x, strOf (Crc.sealed (rS.extract 0 9).data.toList) = x := ⟨_, rfl⟩
              obtain ⟨s6, hs6⟩ : ∃ x, strOf (Crc.sealed ByteArray.empty.data.toList) = x := ⟨_, rfl⟩
              have H4 := Lib.hid (fun w => seal_any (rS ++ zB) w (by have h := HRZ.out; rw [ByteArray.size_append, h]; decide))
              have H5 := Lib.hid (fun w => seal_any (rS.extract 0 9) w (by have h := HRZ.out; simp [maxLen]; omega))
              have H6 := Lib.hid (fun w => seal_any ByteArray.empty w (by decide))
              rw [hs4] at H4
              rw [hs5] at H5
              rw [hs6] at H6
              have HT := Lib.hid (show ∀ (w : World) (g : Nat), Blk w g 9 #[.string ByteArray.empty, .string (tS.extract 0 89), .string (tS ++ xB), .string (xB ++ tS), .string s4, .string s5, .string s6, .string rS] → ∀ k, k < 8 → RowT w g k from fun w g hb k hk => by
                have hn := badT_no
                have e1 := HTS.out
                have e2 := HRS.out
                subst e1
                subst e2
                subst hs4
                subst hs5
                subst hs6
                match k, hk with
                | 0, hk => exact ⟨_, hb.cell 0, hn 0 hk⟩
                | 1, hk => exact ⟨_, hb.cell 1, hn 1 hk⟩
                | 2, hk => exact ⟨_, hb.cell 2, hn 2 hk⟩
                | 3, hk => exact ⟨_, hb.cell 3, hn 3 hk⟩
                | 4, hk => exact ⟨_, hb.cell 4, hn 4 hk⟩
                | 5, hk => exact ⟨_, hb.cell 5, hn 5 hk⟩
                | 6, hk => exact ⟨_, hb.cell 6, hn 6 hk⟩
                | 7, hk => exact ⟨_, hb.cell 7, hn 7 hk⟩)
              clear hs4 hs5 hs6
              have hxb : xB = ⟨#[120]⟩ := rfl
              have hzb : zB = ⟨#[0]⟩ := rfl
              have HXB := Lib.hid hxb
              have HZB := Lib.hid hzb
              clear hxb hzb
              refine wp_region_chain [11, 14, 15, 17] (kv [(11, .is (.string s4)), (14, .is (.string s5)), (15, .is (.string s6)), (17, .sl 8)]) (JT wr (#[.string ByteArray.empty, .string (tS.extract 0 89), .string (tS ++ xB), .string (xB ++ tS), .string s4, .string s5, .string s6, .string rS])) (by kernel_rfl) (by kernel_rfl) (by kernel_rfl) (kv_inh _) (Below.drew (Below.refl _ _)) ?_
              intro ν hν
              have n11 : ν 11 = .string s4 := hν 11
              have n14 : ν 14 = .string s5 := hν 14
              have n15 : ν 15 = .string s6 := hν 15
              obtain ⟨g17, n17⟩ : ∃ g, ν 17 = .slice (some ⟨g, 0, none⟩) 8 8 := hν 17
              clear hν
              refine ch_plain 0 4 1 (by rfl) rfl (by kernel_rfl) (by kernel_rfl) ?_
              apply Exists.intro
              refine ⟨fun st w2 hlo hhi hJ => ?_, ?_⟩
              · clear hlo hhi hJ
                go_simp
                exact And.intro rfl rfl
              simp only [Act.put, List.setIfInBounds_toArray, List.set_cons_succ, List.set_cons_zero, Nat.reduceAdd]
              refine ch_plain 0 4 1 (by rfl) rfl (by kernel_rfl) (by kernel_rfl) ?_
              apply Exists.intro
              refine ⟨fun st w2 hlo hhi hJ => ?_, ?_⟩
              · clear hlo hhi hJ
                go_simp
                exact And.intro rfl rfl
              simp only [Act.put, List.setIfInBounds_toArray, List.set_cons_succ, List.set_cons_zero, Nat.reduceAdd]
              refine ch_plain 0 4 1 (by rfl) rfl (by kernel_rfl) (by kernel_rfl) ?_
              apply Exists.intro
              refine ⟨fun st w2 hlo hhi hJ => ?_, ?_⟩
              · have hz1 := HSZ.out.1
                clear hlo hhi hJ
                go_simp
                exact And.intro rfl rfl
              simp only [Act.put, List.setIfInBounds_toArray, List.set_cons_succ, List.set_cons_zero, Nat.reduceAdd]
              refine ch_plain 0 4 1 (by rfl) rfl (by kernel_rfl) (by kernel_rfl) ?_
              apply Exists.intro
              refine ⟨fun st w2 hlo hhi hJ => ?_, ?_⟩
              · have hw : IntKind.i64.wrap (89 : Int) = 89 := by decide
                clear hlo hhi hJ
                go_simp
                exact And.intro rfl rfl
              simp only [Act.put, List.setIfInBounds_toArray, List.set_cons_succ, List.set_cons_zero, Nat.reduceAdd]
              refine ch_plain 0 4 1 (by rfl) rfl (by kernel_rfl) (by kernel_rfl) ?_
              apply Exists.intro
              refine ⟨fun st w2 hlo hhi hJ => ?_, ?_⟩
              · have hz1 := HSZ.out.1
                have q1 : (89 : Int) ≤ (tS.size : Int) := by omega
                have q2 : 89 ≤ tS.size := by omega
                clear hlo hhi hJ
                go_simp
                exact And.intro rfl rfl
              simp only [Act.put, List.setIfInBounds_toArray, List.set_cons_succ, List.set_cons_zero, Nat.reduceAdd]
              refine ch_plain 0 4 1 (by rfl) rfl (by kernel_rfl) (by kernel_rfl) ?_
              apply Exists.intro
              refine ⟨fun st w2 hlo hhi hJ => ?_, ?_⟩
              · clear hlo hhi hJ
                go_simp
                exact And.intro rfl rfl
              simp only [Act.put, List.setIfInBounds_toArray, List.set_cons_succ, List.set_cons_zero, Nat.reduceAdd]
              refine ch_plain 0 4 1 (by rfl) rfl (by kernel_rfl) (by kernel_rfl) ?_
              apply Exists.intro
              refine ⟨fun st w2 hlo hhi hJ => ?_, ?_⟩
              · have hz1 := HSZ.out.2
                clear hlo hhi hJ
                go_simp
                exact And.intro rfl rfl
              simp only [Act.put, List.setIfInBounds_toArray, List.set_cons_succ, List.set_cons_zero, Nat.reduceAdd]
              refine ch_plain 0 4 1 (by rfl) rfl (by kernel_rfl) (by kernel_rfl) ?_
              apply Exists.intro
              refine ⟨fun st w2 hlo hhi hJ => ?_, ?_⟩
              · clear hlo hhi hJ
                go_simp
                exact And.intro rfl rfl
              simp only [Act.put, List.setIfInBounds_toArray, List.set_cons_succ, List.set_cons_zero, Nat.reduceAdd]
              refine ch_plain 0 4 1 (by rfl) rfl (by kernel_rfl) (by kernel_rfl) ?_
              apply Exists.intro
              refine ⟨fun st w2 hlo hhi hJ => ?_, ?_⟩
              · have hz1 := HSZ.out.2
                clear hlo hhi hJ
                go_simp
                exact And.intro rfl rfl
              simp only [Act.put, List.setIfInBounds_toArray, List.set_cons_succ, List.set_cons_zero, Nat.reduceAdd]
              refine ch_plain 0 4 1 (by rfl) rfl (by kernel_rfl) (by kernel_rfl) ?_
              apply Exists.intro
              refine ⟨fun st w2 hlo hhi hJ => ?_, ?_⟩
              · clear hlo hhi hJ
                go_simp
                exact And.intro rfl rfl
              simp only [Act.put, List.setIfInBounds_toArray, List.set_cons_succ, List.set_cons_zero, Nat.reduceAdd]
              refine ch_plain 0 4 1 (by rfl) rfl (by kernel_rfl) (by kernel_rfl) ?_
              apply Exists.intro
              refine ⟨fun st w2 hlo hhi hJ => ?_, ?_⟩
              · have hz1 := HRZ.out
                clear hlo hhi hJ
                go_simp
                exact And.intro rfl rfl
              simp only [Act.put, List.setIfInBounds_toArray, List.set_cons_succ, List.set_cons_zero, Nat.reduceAdd]
              refine ch_special 0 1 (by rfl) rfl (by decide) (by kernel_rfl) (fun w2 hJ => ?_) ?_
              · replace hJ : Below wr.heap.size wr w2 := hJ
                go_simp
                refine (H4.out _).mono ?_
                rintro e w3 ⟨rfl, hb⟩
                exact ⟨_, rfl, rfl, hJ.trans (hb.mono hJ.size)⟩
              rw [n11]
              simp only [Act.put, List.setIfInBounds_toArray, List.set_cons_succ, List.set_cons_zero, Nat.reduceAdd]
              refine ch_plain 0 4 1 (by rfl) rfl (by kernel_rfl) (by kernel_rfl) ?_
              apply Exists.intro
              refine ⟨fun st w2 hlo hhi hJ => ?_, ?_⟩
              · clear hlo hhi hJ
                go_simp
                exact And.intro rfl rfl
              simp only [Act.put, List.setIfInBounds_toArray, List.set_cons_succ, List.set_cons_zero, Nat.reduceAdd]
              refine ch_plain 0 4 1 (by rfl) rfl (by kernel_rfl) (by kernel_rfl) ?_
              apply Exists.intro
              refine ⟨fun st w2 hlo hhi hJ => ?_, ?_⟩
              · have hz1 := HRZ.out
                have q1 : (9 : Int) ≤ (rS.size : Int) := by omega
                have q2 : 9 ≤ rS.size := by omega
                clear hlo hhi hJ
                go_simp
                exact And.intro rfl rfl
              simp only [Act.put, List.setIfInBounds_toArray, List.set_cons_succ, List.set_cons_zero, Nat.reduceAdd]
              refine ch_special 1 1 (by rfl) rfl (by decide) (by kernel_rfl) (fun w2 hJ => ?_) ?_
              · replace hJ : Below wr.heap.size wr w2 := hJ
                go_simp
                refine (H5.out _).mono ?_
                rintro e w3 ⟨rfl, hb⟩
                exact ⟨_, rfl, rfl, hJ.trans (hb.mono hJ.size)⟩
              rw [n14]
              simp only [Act.put, List.setIfInBounds_toArray, List.set_cons_succ, List.set_cons_zero, Nat.reduceAdd]
              refine ch_special 2 1 (by rfl) rfl (by decide) (by kernel_rfl) (fun w2 hJ => ?_) ?_
              · replace hJ : Below wr.heap.size wr w2 := hJ
                go_simp
                refine (H6.out _).mono ?_
                rintro e w3 ⟨rfl, hb⟩
                exact ⟨_, rfl, rfl, hJ.trans (hb.mono hJ.size)⟩
              rw [n15]
              simp only [Act.put, List.setIfInBounds_toArray, List.set_cons_succ, List.set_cons_zero, Nat.reduceAdd]
              refine ch_plain 0 4 1 (by rfl) rfl (by kernel_rfl) (by kernel_rfl) ?_
              apply Exists.intro
              refine ⟨fun st w2 hlo hhi hJ => ?_, ?_⟩
              · clear hlo hhi hJ
                go_simp
                exact And.intro rfl rfl
              simp only [Act.put, List.setIfInBounds_toArray, List.set_cons_succ, List.set_cons_zero, Nat.reduceAdd]
              refine ch_special 3 1 (by rfl) rfl (by decide) (by kernel_rfl) (fun w2 hJ => ?_) ?_
              · have hj : Below wr.heap.size wr w2 := hJ
                go_simp
                exact ⟨⟨_, rfl⟩, hj.alloc hj.size _, _, rfl, Blk.new _ _ _⟩
              rw [n17]
              simp only [Act.put, List.setIfInBounds_toArray, List.set_cons_succ, List.set_cons_zero, Nat.reduceAdd]
              refine ch_plain 0 4 1 (by rfl) rfl (by kernel_rfl) (by kernel_rfl) ?_
              apply Exists.intro
              refine ⟨fun st w2 hlo hhi hJ => ?_, ?_⟩
              · clear hlo hhi hJ
                go_simp
                exact And.intro rfl rfl
              simp only [Act.put, List.setIfInBounds_toArray, List.set_cons_succ, List.set_cons_zero, Nat.reduceAdd]
              refine ch_plain 0 4 1 (by rfl) rfl (by kernel_rfl) (by kernel_rfl) ?_
              apply Exists.intro
              refine ⟨fun st w2 hlo hhi hJ => ?_, ?_⟩
              · clear hlo hhi hJ
                go_simp
                exact And.intro rfl rfl
              simp only [Act.put, List.setIfInBounds_toArray, List.set_cons_succ, List.set_cons_zero, Nat.reduceAdd]
              refine ch_nil (fun w5 hJ => ?_)
              have hj : Below wr.heap.size wr w5 ∧ ∃ g, Value.slice (some ⟨g17, 0, none⟩) 8 8 = .slice (some ⟨g, 0, none⟩) 8 8 ∧ Blk w5 g 9 (#[.string ByteArray.empty, .string (tS.extract 0 89), .string (tS ++ xB), .string (xB ++ tS), .string s4, .string s5, .string s6, .string rS]) := by
                have h : Below wr.heap.size wr w5 ∧ ∃ g, ν 17 = .slice (some ⟨g, 0, none⟩) 8 8 ∧ Blk w5 g 9 (#[.string ByteArray.empty, .string (tS.extract 0 89), .string (tS ++ xB), .string (xB ++ tS), .string s4, .string s5, .string s6, .string rS]) := hJ
                rw [n17] at h
                exact h
              obtain ⟨hb, g, he, hk⟩ := hj
              simp only [Value.slice.injEq, Option.some.injEq, Addr.mk.injEq, and_true] at he
              subst he
              have HRT := Lib.hid (HT.out w5 g17 hk)
              replace HB := Lib.hid (HB.out.trans (hb.mono HB.out.size))
              replace HGB := Lib.hid (HGB.out.keep hb)
              replace HGI := Lib.hid (HGI.out.keep hb)
              clear hJ n11 n14 n15 n17 hb hk H4 H5 H6 HT
              go_wp2_with fail
              go_loopw [247] (fun i wq => ∃ k : Nat, k ≤ 8 ∧ i = .int .i64 k ∧ Below w5.heap.size w5 wq) (fun i _ => 8 - (intOf i).toNat)
              case atStart => exact ⟨0, Nat.zero_le _, rfl, Below.refl _ _⟩
              case round =>
                obtain ⟨k, hk, rfl, hb⟩ := hrel
                have HBR := Lib.hid hb
                clear hb
                by_cases hlt : k < 8
                · obtain ⟨t, hc, hno, hts⟩ := (HRT.out k hlt).keep HBR.out
                  have hbn := back_no hno
                  have HD := Lib.hid (fun w => decZ w t (by omega) hbn)
                  have HLT := Lib.hid hlt
                  have i1 : (k : Int) < 8 := by omega
                  have i0 : (0 : Int) ≤ (k : Int) := by omega
                  clear hk hlt hno hts hbn
                  go_wp2_with fail
                  clear i1 hc
                  refine (HD.out _).mono ?_
                  rintro e wz ⟨aq, nq, cq, rfl, hi, hb⟩
                  have hb2 := hb.trans (((Below.refl wz.heap.size wz).alloc (Nat.le_refl _) (Obj.cells #[.int .u64 zeroP.b.1, .int .u64 zeroP.b.2, .int .u64 zeroP.t.1, .int .u64 zeroP.t.2, .int .i64 zeroP.f, .int .i64 zeroP.a, .slice aq nq cq] 30)).mono hb.size)
                  have HB3 := Lib.hid (HBR.out.trans (hb2.mono HBR.out.size))
                  clear hb hb2 hi HD
                  go_wp2
                  rw [wrap_succ HLT.out (by decide)]
                  exact ⟨⟨k + 1, HLT.out, rfl, HB3.out⟩, meas_succ HLT.out⟩
                · obtain rfl : k = 8 := by omega
                  rw [show ((8 : Nat) : Int) = 8 from rfl]
                  replace HB := Lib.hid (HB.out.trans (HBR.out.mono HB.out.size))
                  replace HGB := Lib.hid (HGB.out.keep HBR.out)
                  replace HGI := Lib.hid (HGI.out.keep HBR.out)
                  obtain ⟨wx, rfl⟩ : ∃ wx : World, wx = wr := ⟨_, rfl⟩
                  clear hk hlt HRT HBR
                  have HSL := Lib.hid (fun w => seal_any rS w (by have h := HRZ.out; rw [h]; decide))
                  obtain ⟨s7, hs7⟩ : ∃ x, strOf (Crc.sealed rS.data.toList) = x := ⟨_, rfl⟩
                  rw [hs7] at HSL
                  have hok7 := rawT_ok
                  rw [HRS.out, hs7] at hok7
                  have hby := back_yes hok7.1
                  obtain ⟨p7', hp7⟩ : ∃ x, readP 9 2 (txt s7) = x := ⟨_, rfl⟩
                  rw [hp7] at hby
                  have HD7 := Lib.hid (fun w => decZ w s7 (by have := hok7.2; omega) ⟨hby.1, hby.2.1⟩)
                  clear hs7 hok7 hby hp7
                  go_wp2_with fail
                  refine (HSL.out _).mono ?_
                  rintro e wx ⟨rfl, hb⟩
                  replace HB := Lib.hid (HB.out.trans (hb.mono HB.out.size))
                  replace HGB := Lib.hid (HGB.out.keep hb)
                  replace HGI := Lib.hid (HGI.out.keep hb)
                  clear hb HSL
                  go_wp2_with fail
                  refine (HD7.out _).mono ?_
                  rintro e wx ⟨aq, nq, cq, rfl, hi, hb⟩
                  replace HB := Lib.hid (HB.out.trans (hb.mono HB.out.size))
                  replace HGB := Lib.hid (HGB.out.keep hb)
                  replace HGI := Lib.hid (HGI.out.keep hb)
                  have hb2 := (Below.refl wx.heap.size wx).alloc (Nat.le_refl _) (Obj.cells #[.int .u64 p7'.b.1, .int .u64 p7'.b.2, .int .u64 p7'.t.1, .int .u64 p7'.t.2, .int .i64 p7'.f, .int .i64 p7'.a, .slice aq nq cq] 30)
                  replace HB := Lib.hid (HB.out.trans (hb2.mono HB.out.size))
                  replace HGB := Lib.hid (HGB.out.keep hb2)
                  replace HGI := Lib.hid (HGI.out.keep hb2)
                  have x0 := HGB.out.cell 0
                  have x1 := HGB.out.cell 1
                  have x2 := HGB.out.cell 2
                  have x3 := HGB.out.cell 3
                  have x4 := HGB.out.cell 4
                  have x5 := HGB.out.cell 5
                  have x6 := HGB.out.cell 6
                  simp at x0 x1 x2 x3 x4 x5 x6
                  clear hb hb2 hi HD7
                  go_wp2_with fail
                  clear x0 x1 x2 x3 x4 x5 x6
                  generalize wx.alloc (Obj.cells #[.int .u64 p7'.b.1, .int .u64 p7'.b.2, .int .u64 p7'.t.1, .int .u64 p7'.t.2, .int .i64 p7'.f, .int .i64 p7'.a, .slice aq nq cq] 30) = wv at *
                  have HBV := Lib.hid HGB.out.lt
                  have HGBV := Lib.hid HGB.out
                  have HBVV := Lib.hid HB.out
                  have HGV := Lib.hid HGI.out
                  have HWV := Lib.hid (Below.refl wv.heap.size wv)
                  refine (short_any _ _ goodP HGI.out).mono ?_
                  rintro e wx ⟨⟨vv, rfl, hv⟩, hb⟩
                  rw [good_short] at hv
                  replace HB := Lib.hid (HB.out.trans (hb.mono HB.out.size))
                  replace HGB := Lib.hid (HGB.out.keep hb)
                  replace HGI := Lib.hid (HGI.out.keep hb)
                  have hin := hv.inp
                  obtain ⟨sv, rfl, hs, -⟩ := hv
                  obtain ⟨ao, co, rfl, -⟩ := hs.rd
                  have hs2 : OwC wx wv.heap.size (.slice ao 2 co) gCs := hs
                  have e0 : prV goodP (.slice ao goodP.cs.length co) = .agg #[.int .u64 1, .int .u64 1, .int .u64 2, .int .u64 1, .int .i64 1, .int .i64 3, .slice ao 2 co] := rfl
                  rw [e0]
                  have hb2 := (Below.refl wx.heap.size wx).alloc (Nat.le_refl _) (Obj.cells #[.int .u64 1, .int .u64 1, .int .u64 2, .int .u64 1, .int .i64 1, .int .i64 3, .slice ao 2 co] 30)
                  have hk30 := Blk.new wx 30 #[.int .u64 1, .int .u64 1, .int .u64 2, .int .u64 1, .int .i64 1, .int .i64 3, .slice ao 2 co]
                  have hs3 := hs2.keep hb2
                  have HLV := Lib.hid hb
                  clear hb hs hs2 hin e0
                  go_wp2_with fail
                  generalize hg30 : wx.heap.size = g30 at *
                  replace HB := Lib.hid (HB.out.trans (hb2.mono (by rw [← hg30]; exact HB.out.size)))
                  replace HGB := Lib.hid (HGB.out.keep (by rw [hg30]; exact hb2))
                  replace HGI := Lib.hid (HGI.out.keep (by rw [hg30]; exact hb2))
                  generalize wx.alloc (Obj.cells #[.int .u64 1, .int .u64 1, .int .u64 2, .int .u64 1, .int .i64 1, .int .i64 3, .slice ao 2 co] 30) = w30 at *
                  have HK30 := Lib.hid hk30
                  have HS3 := Lib.hid hs3
                  have HVW := Lib.hid (show Below wv.heap.size wv w30 from HLV.out.trans ((by rw [hg30]; exact hb2 : Below wx.heap.size wx w30).mono HLV.out.size))
                  have HVB := Lib.hid (show wv.heap.size ≤ w30.heap.size from Nat.le_trans HLV.out.size (by rw [hg30]; exact Nat.le_of_lt hk30.lt))
                  clear hb2 hk30 hs3 hg30
                  obtain ⟨q, rfl, hq, -⟩ := HS3.out.setOwn (i := 3) (cs' := otherP.cs) (u := .string d0) (by decide) rfl (cgsL_set1 gCs 1 d0 (by decide))
                  obtain ⟨a9, c9, he9, -, hx9⟩ := HS3.out.rd
                  have hd0 : w30.cell? ⟨q, 1, none⟩ = some (.string d0) := by
                    obtain ⟨g9, off9, e9, -, h9⟩ := hx9 0 (by decide)
                    simp only [Value.slice.injEq] at he9
                    rw [← he9.1] at e9
                    simp only [Option.some.injEq, Addr.mk.injEq, and_true] at e9
                    obtain ⟨rfl, rfl⟩ := e9
                    exact h9
                  have HD0 := Lib.hid hd0
                  have HNE := Lib.hid (show q ≠ g30 from HS3.out.apart HK30.out q rfl)
                  have HQV := Lib.hid hq
                  clear hq he9 hx9 hd0
                  refine wp_region_chain [9] (kv [(9, .is undef)]) (fun l w => match l with | [] => Below w30.heap.size w30 w | _ => OwC w wv.heap.size (.slice (some ⟨q, 0, none⟩) 2 co) otherP.cs ∧ Below wv.heap.size w30 w ∧ Blk w g30 30 #[.int .u64 1, .int .u64 1, .int .u64 2, .int .u64 1, .int .i64 1, .int .i64 3, .slice (some ⟨q, 0, none⟩) 2 co]) (by kernel_rfl) (by kernel_rfl) (by kernel_rfl) (kv_inh _) (Below.drew (Below.refl _ _)) ?_
                  intro ν hν
                  have n9 : ν 9 = undef := hν 9
                  clear hν
                  refine ch_plain 0 1 1 (by rfl) rfl (by kernel_rfl) (by kernel_rfl) ?_
                  apply Exists.intro
                  refine ⟨fun st w2 hlo hhi hJ => ?_, ?_⟩
                  · clear hlo hhi hJ
                    go_simp
                    exact And.intro rfl rfl
                  simp only [Act.put, List.setIfInBounds_toArray, List.set_cons_succ, List.set_cons_zero, Nat.reduceAdd]
                  refine ch_plain 0 0 9 (by rfl) rfl (by kernel_rfl) (by kernel_rfl) ?_
                  apply Exists.intro
                  refine ⟨fun st w2 hlo hhi hJ => ?_, ?_⟩
                  · have hj : Below w30.heap.size w30 w2 := by
                      obtain rfl : st = 0 := by omega
                      exact hJ
                    have hx := (HK30.out.keep hj).cell 6
                    simp at hx
                    clear hj
                    clear hlo hhi hJ
                    go_simp
                    exact And.intro rfl rfl
                  simp only [Act.put, List.setIfInBounds_toArray, List.set_cons_succ, List.set_cons_zero, Nat.reduceAdd]
                  refine ch_plain 0 1 1 (by rfl) rfl (by kernel_rfl) (by kernel_rfl) ?_
                  apply Exists.intro
                  refine ⟨fun st w2 hlo hhi hJ => ?_, ?_⟩
                  · clear hlo hhi hJ
                    go_simp
                    exact And.intro rfl rfl
                  simp only [Act.put, List.setIfInBounds_toArray, List.set_cons_succ, List.set_cons_zero, Nat.reduceAdd]
                  refine ch_plain 0 0 9 (by rfl) rfl (by kernel_rfl) (by kernel_rfl) ?_
                  apply Exists.intro
                  refine ⟨fun st w2 hlo hhi hJ => ?_, ?_⟩
                  · have hj : Below w30.heap.size w30 w2 := by
                      obtain rfl : st = 0 := by omega
                      exact hJ
                    have hx := (HK30.out.keep hj).cell 6
                    simp at hx
                    clear hj
                    clear hlo hhi hJ
                    go_simp
                    exact And.intro rfl rfl
                  simp only [Act.put, List.setIfInBounds_toArray, List.set_cons_succ, List.set_cons_zero, Nat.reduceAdd]
                  refine ch_plain 0 1 1 (by rfl) rfl (by kernel_rfl) (by kernel_rfl) ?_
                  apply Exists.intro
                  refine ⟨fun st w2 hlo hhi hJ => ?_, ?_⟩
                  · clear hlo hhi hJ
                    go_simp
                    exact And.intro rfl rfl
                  simp only [Act.put, List.setIfInBounds_toArray, List.set_cons_succ, List.set_cons_zero, Nat.reduceAdd]
                  refine ch_plain 0 1 1 (by rfl) rfl (by kernel_rfl) (by kernel_rfl) ?_
                  apply Exists.intro
                  refine ⟨fun st w2 hlo hhi hJ => ?_, ?_⟩
                  · clear hlo hhi hJ
                    go_simp
                    exact And.intro rfl rfl
                  simp only [Act.put, List.setIfInBounds_toArray, List.set_cons_succ, List.set_cons_zero, Nat.reduceAdd]
                  refine ch_plain 0 0 9 (by rfl) rfl (by kernel_rfl) (by kernel_rfl) ?_
                  apply Exists.intro
                  refine ⟨fun st w2 hlo hhi hJ => ?_, ?_⟩
                  · have hj : Below w30.heap.size w30 w2 := by
                      obtain rfl : st = 0 := by omega
                      exact hJ
                    have hx := cell_later hj HD0.out
                    clear hj
                    clear hlo hhi hJ
                    go_simp
                    exact And.intro rfl rfl
                  simp only [Act.put, List.setIfInBounds_toArray, List.set_cons_succ, List.set_cons_zero, Nat.reduceAdd]
                  refine ch_plain 0 1 1 (by rfl) rfl (by kernel_rfl) (by kernel_rfl) ?_
                  apply Exists.intro
                  refine ⟨fun st w2 hlo hhi hJ => ?_, ?_⟩
                  · clear hlo hhi hJ
                    go_simp
                    exact And.intro rfl rfl
                  simp only [Act.put, List.setIfInBounds_toArray, List.set_cons_succ, List.set_cons_zero, Nat.reduceAdd]
                  refine ch_plain 0 1 1 (by rfl) rfl (by kernel_rfl) (by kernel_rfl) ?_
                  apply Exists.intro
                  refine ⟨fun st w2 hlo hhi hJ => ?_, ?_⟩
                  · clear hlo hhi hJ
                    go_simp
                    exact And.intro rfl rfl
                  simp only [Act.put, List.setIfInBounds_toArray, List.set_cons_succ, List.set_cons_zero, Nat.reduceAdd]
                  refine ch_special 0 1 (by rfl) rfl (by decide) (by kernel_rfl) (fun w2 hJ => ?_) ?_
                  · have hj : Below w30.heap.size w30 w2 := hJ
                    obtain ⟨q2, e2, -, ⟨z, hz⟩, hf, hn⟩ := (HS3.out.keep hj).setOwn (i := 3) (cs' := otherP.cs) (u := .string d0) (by decide) rfl (cgsL_set1 gCs 1 d0 (by decide))
                    simp only [Option.some.injEq, Addr.mk.injEq, and_true] at e2
                    subst e2
                    have HN := Lib.hid hn
                    have HJ := Lib.hid hj
                    clear hn hJ hj
                    go_simp
                    refine ⟨rfl, ?_⟩
                    exact ⟨HN.out, (HJ.out.mono HVB.out).setCell (p := ⟨q, 3, none⟩) HQV.out _, (HK30.out.keep HJ.out).far (p := ⟨q, 3, none⟩) (fun e => HNE.out e.symm) _⟩
                  rw [n9]
                  simp only [Act.put, Nat.reduceAdd]
                  refine ch_nil (fun w6 hJ => ?_)
                  have hj : OwC w6 wv.heap.size (.slice (some ⟨q, 0, none⟩) 2 co) otherP.cs ∧ Below wv.heap.size w30 w6 ∧ Blk w6 g30 30 #[.int .u64 1, .int .u64 1, .int .u64 2, .int .u64 1, .int .i64 1, .int .i64 3, .slice (some ⟨q, 0, none⟩) 2 co] := hJ
                  clear hJ n9
                  obtain ⟨h1, h2, h3⟩ := hj
                  have HVB6 := Lib.hid (HVW.out.trans h2)
                  have HI6 := Lib.hid (And.intro (HGV.out.keep HVB6.out) (show InPr w6 (.agg #[.int .u64 1, .int .u64 1, .int .u64 2, .int .u64 1, .int .i64 1, .int .i64 3, .slice (some ⟨q, 0, none⟩) 2 co]) otherP from ⟨.slice (some ⟨q, 0, none⟩) 2 co, rfl, h1.rd, ⟨good_wf.b, good_wf.t, good_wf.f, good_wf.a⟩⟩))
                  have hgb := (HGBV.out).below HVB6.out HBV.out
                  have x0 := hgb.cell 0
                  have x1 := hgb.cell 1
                  have x2 := hgb.cell 2
                  have x3 := hgb.cell 3
                  have x4 := hgb.cell 4
                  have x5 := hgb.cell 5
                  have x6 := hgb.cell 6
                  have y0 := h3.cell 0
                  have y1 := h3.cell 1
                  have y2 := h3.cell 2
                  have y3 := h3.cell 3
                  have y4 := h3.cell 4
                  have y5 := h3.cell 5
                  have y6 := h3.cell 6
                  simp at x0 x1 x2 x3 x4 x5 x6 y0 y1 y2 y3 y4 y5 y6
                  replace HB := Lib.hid (HBVV.out.trans (HVB6.out.mono HBVV.out.size))
                  have HSM := Lib.hid (same_any _ _ _ goodP otherP HI6.out.1 HI6.out.2)
                  rw [other_no] at HSM
                  clear h1 h2 h3 hgb
                  go_wp2_with fail
                  clear x0 x1 x2 x3 x4 x5 x6 y0 y1 y2 y3 y4 y5 y6
                  refine HSM.out.mono ?_
                  rintro e wx ⟨rfl, hb⟩
                  replace HB := Lib.hid (HB.out.trans (hb.mono HB.out.size))
                  clear hb
                  go_wp2_with fail
                  refine (works_any _).mono ?_
                  rintro e wx ⟨rfl, hb⟩
                  replace HB := Lib.hid (HB.out.trans (hb.mono HB.out.size))
                  clear hb
                  go_wp2
                  go_ret
                  exact ⟨rfl, HB.out⟩
end Go.Proofs.Ytpfdpodelkleiaa
