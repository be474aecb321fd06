/-
  STREAM: Encode.
-/
import Derived.Test.YtikimmhkfjaijaaQStmC
import Derived.Test.YtikimmhkfjaijaaQWireWalks
import Derived.Test.YtikimmhkfjaijaaQCrcSeal
namespace Go.Proofs.Ytikimmhkfjaijaa
open Go.RowKit Reg Go.ChangeShapes Go.Shelf
attribute [local go_sem] Oper.semAt_some

/-- what is no cells may turn: a block of cells stays -/
theorem Blk.others {A B : World} {row : Option Nat} {g : Nat} {t : TypeId} {cs : Array Value} (h : Blk A g t cs) (hg : A.grownBy B row) (hr : ∀ r, row = some r → ∃ o : Obj, A.heap[r]? = some o ∧ o.isCells = false) : Blk B g t cs := by
  refine (hg.block g h.lt fun e => ?_).trans h
  obtain ⟨o, h1, h2⟩ := hr g e.symm
  unfold Blk at h
  rw [h] at h1
  obtain rfl := Option.some.inj h1
  simp [Obj.isCells] at h2
def numB (p : Prt) (pre : List Nat) : List UInt8 := pre.flatMap fun j => Wire.putNum (numP p j).toNat
theorem numB_snoc (p : Prt) (pre : List Nat) (x : Nat) : numB p (pre ++ [x]) = numB p pre ++ Wire.putNum (numP p x).toNat := by simp [numB]
theorem keeps_of_below {W W' : World} (h : Below W.heap.size W W') : KeepsOthers W W' := ⟨h.size, fun _ _ hk _ => (h.block _ (Array.getElem?_eq_some_iff.1 hk).1).trans hk⟩
theorem KC.of_below {q : Nat} {W W' : World} (h : Below W.heap.size W W') : KC q W W' := ⟨h.mono (Nat.zero_le _), fun _ _ _ _ hb => hb.keep h⟩
theorem KC.set (q i : Nat) (W : World) (u : Value) : KC q W (W.setCell ⟨q, i, none⟩ u) := ⟨(Below.refl 0 W).setCell (Nat.zero_le _) _, fun _ _ _ hb hk => hk.far (p := ⟨q, i, none⟩) hb u⟩
theorem strOf_size (l : List UInt8) : (strOf l).size = l.length := rfl
theorem numB_le (p : Prt) (pre : List Nat) : (numB p pre).length ≤ pre.length * 9 := by
  induction pre with
  | nil => simp [numB]
  | cons x pre ih =>
    have h1 := Wire.putNum_length (numP p x).toNat
    simp only [numB, List.flatMap_cons, List.length_append, List.length_cons] at ih ⊢
    omega
theorem u64_range {z : Int} (h : (Lit.int .u64 z).wf = true) : 0 ≤ z ∧ z < 18446744073709551616 := by
  simp [Lit.wf, IntKind.min, IntKind.max, IntKind.signed, IntKind.bits] at h
  omega
theorem numP_range {p : Prt} (hw : wfPr p) (hok : okP p) (x : Nat) : 0 ≤ numP p x ∧ numP p x < 256 ^ 8 := by
  obtain ⟨-, ⟨a0, a1⟩, ⟨f0, f1⟩, hl, -⟩ := hok
  have b1 := u64_range hw.b.1
  have b2 := u64_range hw.b.2
  have t1 := u64_range hw.t.1
  have t2 := u64_range hw.t.2
  have e : (256 : Int) ^ 8 = 18446744073709551616 := by decide
  rw [e]
  unfold numP
  split <;> omega
def chgB (x : Cg) : List UInt8 := Wire.putNum x.1.toNat ++ Wire.putText x.2.data.toList
def encB (p : Prt) : List UInt8 := numB p (List.range 7) ++ p.cs.flatMap chgB
def encS (p : Prt) : ByteArray := if okP p then strOf (Crc.sealed (encB p)) else ByteArray.empty
theorem mayC_size : ∀ (cs : List Cg) (ab : Int), -1 ≤ ab → mayC ab cs = true → ∀ x ∈ cs, (0 ≤ x.1 ∧ x.1 < 8) ∧ x.2.size = 32
  | [], _, _, _ => by simp
  | y :: cs, ab, hab, h => by
    unfold mayC at h
    split at h
    · cases h
    · rename_i hb
      unfold badC at hb
      have hb2 : ¬ (y.1 ≤ ab ∨ 8 ≤ y.1 ∨ y.2.size ≠ 32) := by simpa using hb
      have hy : (0 ≤ y.1 ∧ y.1 < 8) ∧ y.2.size = 32 := by omega
      intro x hx
      rcases List.mem_cons.1 hx with rfl | hx
      · exact hy
      · exact mayC_size cs y.1 (by omega) h x hx
theorem cg_range (p : Prt) {Z : Nat → Cg} (hZ : ∀ j, p.cs.getD j (0, ByteArray.empty) = Z j) (hok : okP p) {k : Nat} (hk : k < p.cs.length) : (0 ≤ (Z k).1 ∧ (Z k).1 < 8) ∧ (Z k).2.size = 32 := by
  have h := mayC_size p.cs (-1) (by omega) hok.2.2.2.2.2
  rw [← hZ k]
  have e : p.cs.getD k (0, ByteArray.empty) = p.cs[k] := by simp [hk]
  rw [e]
  exact h _ (List.getElem_mem hk)
theorem chg_len (x : Cg) (h : x.2.size = 32) : (chgB x).length ≤ 60 := by
  have h1 := Wire.putNum_length x.1.toNat
  have h2 := Wire.putNum_length x.2.data.toList.length
  have h3 : x.2.data.toList.length = 32 := by rw [Array.length_toList]; exact h
  unfold chgB Wire.putText
  simp only [List.length_append]
  omega
theorem gB_le (p : Prt) {Z : Nat → Cg} (hZ : ∀ j, p.cs.getD j (0, ByteArray.empty) = Z j) (hok : okP p) {G : Nat → List UInt8} (hG : ∀ k, G k = numB p (List.range 7) ++ (p.cs.take k).flatMap chgB) : ∀ {k : Nat}, k ≤ p.cs.length → (G k).length ≤ 63 + k * 60 := by
  intro k
  induction k with
  | zero =>
    intro _
    have := numB_le p (List.range 7)
    rw [hG]
    simp at this ⊢
    omega
  | succ k ih =>
    intro hk
    have h1 := ih (by omega)
    have h2 := chg_len _ (cg_range p hZ hok (show k < p.cs.length by omega)).2
    have e : G (k + 1) = G k ++ chgB (Z k) := by
      rw [hG, hG, List.take_add_one, List.flatMap_append, ← hZ]
      simp [show k < p.cs.length by omega]
    rw [e, List.length_append]
    omega
/-- while a change is put behind the text -/
structure EC (w0 : World) (q : Nat) (s0 s2 : ByteArray) (σ : Nat → Option Value) (w : World) : Prop where
  pre : σ 8 = none → Below w0.heap.size w0 w
  fin : σ 8 ≠ none → KC q w0 w ∧ KeepsOthers w0 w ∧ Below q w0 w ∧ Blk w q 9 #[.string s2]
  dd : ∀ i, i = 0 ∨ i = 4 ∨ i = 7 → σ i = none → σ 8 = none
  str : Blk w0 q 9 #[.string s0]
section
variable {w0 w : World} {q : Nat} {s0 s2 : ByteArray} {σ : Nat → Option Value} {p : Value → Prop}
theorem EC.start (h : Blk w0 q 9 #[.string s0]) : EC w0 q s0 s2 (fun _ => none) w0.drew := ⟨fun _ => (Below.refl _ _).drew, (fun h => absurd rfl h), fun _ _ _ => rfl, h⟩
theorem EC.blk (h : EC w0 q s0 s2 σ w) {b : Nat} {t : TypeId} {cs : Array Value} (hb : Blk w0 b t cs) (hne : b ≠ q) : Blk w b t cs := by
  by_cases e : σ 8 = none
  · exact hb.keep (h.pre e)
  · exact (h.fin e).1.2 b t cs hne hb
theorem EC.load (h : EC w0 q s0 s2 σ w) (h0 : σ 0 = none) : w.cell? ⟨q, 0, none⟩ = some (.string s0) := (h.str.keep (h.pre (h.dd 0 (.inl rfl) h0))).cell 0
theorem EC.next {i : Nat} (hi : i = 0 ∨ i = 4 ∨ i = 7) (h : EC w0 q s0 s2 σ w) (h0 : σ i = none) {w' : World} (hb : Below w.heap.size w w') (u : Value) : EC w0 q s0 s2 (upd σ i u) w' := by
  have h8 := h.dd i hi h0
  have e8 : upd σ i u 8 = none := by rw [upd_other _ _ (by omega), h8]
  exact ⟨fun _ => (h.pre h8).trans (hb.mono (h.pre h8).size), fun e => absurd e8 e, fun _ _ _ => e8, h.str⟩
theorem EC.load_ok (h : EC w0 q s0 s2 σ w) (h0 : σ 0 = none) (hp : p (.string s0)) : SpecialOK Try.prog p (fun u => EC w0 q s0 s2 (upd σ 0 u)) (.ok (.value (.string s0)) w) := ⟨hp, h.next (.inl rfl) h0 (Below.refl _ _) _⟩
theorem EC.call_ok {i : Nat} (hi : i = 0 ∨ i = 4 ∨ i = 7) (h : EC w0 q s0 s2 σ w) (h0 : σ i = none) {f : FuncId} {args : Array Value} {v : Value} (hp : p v) (hc : Calls Try.prog f args w fun e w' => e = .returned v ∧ Below w.heap.size w w') :
    SpecialOK Try.prog p (fun u => EC w0 q s0 s2 (upd σ i u)) (.ok (.enter f args) w) := hc.mono fun _ _ ⟨he, hb⟩ => ⟨v, he, hp, h.next hi h0 hb v⟩
theorem EC.at8 (h : EC w0 q s0 s2 σ w) (h8 : σ 8 = none) : w.cell? ⟨q, 0, none⟩ = some (.string s0) ∧ w.frozen? ⟨q, 0, none⟩ = false := ⟨(h.str.keep (h.pre h8)).cell 0, (h.str.keep (h.pre h8)).frozen 0⟩
theorem EC.store_ok (h : EC w0 q s0 s2 σ w) (h8 : σ 8 = none) (h0 : (σ 0).isSome = true) (h4 : (σ 4).isSome = true) (h7 : (σ 7).isSome = true) (hp : p undef) : SpecialOK Try.prog p (fun u => EC w0 q s0 s2 (upd σ 8 u)) (.ok .skip (w.setCell ⟨q, 0, none⟩ (.string s2))) := by
  have hb := h.pre h8
  refine ⟨hp, fun e => ?_, fun _ => ⟨(KC.of_below hb).trans (KC.set _ _ _ _), (keeps_of_below hb).trans (KeepsOthers.setCell _ _ _), (hb.mono (Nat.le_of_lt h.str.lt)).setCell (Nat.le_refl _) _, (h.str.keep hb).set 0 _⟩, fun i hi e => ?_, h.str⟩
  · rw [upd_same] at e; cases e
  · rw [upd_other _ _ (by omega)] at e
    rcases hi with rfl | rfl | rfl
    · rw [e] at h0; cases h0
    · rw [e] at h4; cases h4
    · rw [e] at h7; cases h7
end
theorem enc_bad (w : World) (v : Value) (p : Prt) (hv : InPr w v p) (hno : ¬ okP p) : Calls Try.prog 72 #[v] w fun e w' => e = .returned (.tuple #[.string (encS p), .int .i64 (checkP p)]) ∧ Below w.heap.size w w' := by
  have h1 : checkP p = 2 := if_neg hno
  have h2 : encS p = ByteArray.empty := if_neg hno
  have hb0 := fun o => (Below.refl w.heap.size w).alloc (Nat.le_refl _) o
  have HCK := Lib.hid (fun o => check_any _ v p (hv.keep (hb0 o)))
  have HBO := Lib.hid hb0
  rw [h2]
  obtain ⟨sv, rfl, hc, -⟩ := hv
  obtain ⟨a, c, rfl, -⟩ := hc
  rw [h1] at HCK ⊢
  unfold prV at HCK ⊢
  clear hb0 h1 h2 hno
  go_enter Try.func72, Try.ntmps72
  go_wp2_with fail
  refine (HCK.out _).mono ?_
  rintro e w2 ⟨rfl, hb⟩
  have HB := Lib.hid ((HBO.out _).trans (hb.mono (HBO.out _).size))
  clear hb
  go_wp2
  go_ret2
  exact ⟨rfl, HB.out⟩
set_option maxRecDepth 100000 in
set_option maxHeartbeats 2000000 in
theorem enc_good (w : World) (v : Value) (p : Prt) (hv : InPr w v p) (hok : okP p) : Calls Try.prog 72 #[v] w fun e w' => e = .returned (.tuple #[.string (encS p), .int .i64 0]) ∧ Below w.heap.size w w' := by
  have h1 : checkP p = 0 := if_pos hok
  have h2 : encS p = strOf (Crc.sealed (encB p)) := if_pos hok
  have hb0 := (Below.refl w.heap.size w).alloc (Nat.le_refl _)
  have HIN := Lib.hid hv
  obtain ⟨sv, rfl, hc, hw⟩ := hv
  obtain ⟨a, c, rfl, hml, hx⟩ := hc
  have HCK := Lib.hid (fun w' (h : Below w.heap.size w w') => check_any _ _ p (HIN.out.keep h))
  rw [h1] at HCK
  have HE := Lib.hid h2
  have HX := Lib.hid hx
  have HWF := Lib.hid hw
  have HOK := Lib.hid hok
  have HBO := Lib.hid hb0
  have hbx := Blk.new w 31 (prA p (.slice a p.cs.length c))
  have HBX := Lib.hid hbx
  have HNU := Lib.hid (fun w' => nums_any p (.slice a p.cs.length c) w')
  unfold prA at HBX
  unfold prV at HCK HNU ⊢
  clear hb0 h1 h2 hx hw hok hbx
  refine (callsIn_wide (n := 3)).1 ?_
  refine callsIn_of_wp_marks Try.func72 rfl trivial ?_ rfl
  simp only [Try.ntmps72, List.size_toArray, List.length_cons, List.length_nil, Nat.reduceAdd, Nat.reduceSub, Array.replicate_succ, Array.replicate_zero, List.push_toArray, List.append_toArray, List.nil_append, List.cons_append]
  gi_wp2_with (refine ⟨trivial, ?_⟩; gi_at_call 31; refine (callsIn_wide.2 (HCK.out _ (HBO.out _))).mono ?_)
  rintro e w2 ⟨rfl, hb⟩
  have HB2 := Lib.hid ((HBO.out _).trans (hb.mono (HBO.out _).size))
  have hbx2 := HBX.out.keep hb
  obtain ⟨q, hq⟩ : ∃ q, q = w2.heap.size := ⟨_, rfl⟩
  have hbq := Blk.new w2 9 #[.string (⟨#[]⟩ : ByteArray)]
  have HBX2 := Lib.hid (hbx2.alloc (Obj.cells #[.string (⟨#[]⟩ : ByteArray)] 9))
  have HBQ := Lib.hid hbq
  have x0 := HBX2.out.cell 0
  have x1 := HBX2.out.cell 1
  have x2 := HBX2.out.cell 2
  have x3 := HBX2.out.cell 3
  have x4 := HBX2.out.cell 4
  have x5 := HBX2.out.cell 5
  have x6 := HBX2.out.cell 6
  simp only [List.getElem?_toArray, List.getElem?_cons_zero, List.getElem?_cons_succ] at x0 x1 x2 x3 x4 x5 x6
  clear hb hbx2 hbq
  gi_wp2_with (refine ⟨trivial, ?_⟩; gi_at_call 78; refine (callsIn_wide.2 (HNU.out _)).mono ?_; rintro e w' ⟨rfl, rfl⟩)
  have hbx3 := HBX2.out.alloc (Obj.cells (prA p (.slice a p.cs.length c)) 31)
  have hbq3 := HBQ.out.alloc (Obj.cells (prA p (.slice a p.cs.length c)) 31)
  have hpt := Blk.newAt (w := w2.alloc (Obj.cells #[.string (⟨#[]⟩ : ByteArray)] 9)) 31 (prA p (.slice a p.cs.length c)) (g := w2.heap.size + 1) (by simp)
  have hbl := ((HB2.out.alloc HB2.out.size (Obj.cells #[.string (⟨#[]⟩ : ByteArray)] 9))).alloc (Nat.le_trans HB2.out.size (by simp)) (Obj.cells (prA p (.slice a p.cs.length c)) 31)
  have hqs := HB2.out.size
  rw [← hq] at hbq3 hpt hqs
  rw [← hq]
  clear x0 x1 x2 x3 x4 x5 x6 HBX2 HBQ
  generalize (w2.alloc (Obj.cells #[.string (⟨#[]⟩ : ByteArray)] 9)).alloc (Obj.cells (prA p (.slice a p.cs.length c)) 31) = W0 at *
  obtain ⟨o1, o2, o3, o4, o5, o6⟩ := HOK.out
  have hcl : p.cs.length ≤ 8 := by omega
  have hbne : q ≠ w.heap.size := by
    have := HBX.out
    have h1 := HB2.out.size
    intro e
    rw [← e] at hbx3
    unfold Blk at hbx3 hbq3
    rw [hbx3] at hbq3
    simp only [Option.some.injEq, Obj.cells.injEq] at hbq3
    exact absurd hbq3.2.1 (by decide)
  have hst := nums_stops 2 (by omega) (q + 1) q p a c ⟨o3.1, Int.le_trans o3.2 o2.2⟩ o2 hcl W0 hpt hbq3.lt
  have HQ := Lib.hid (And.intro hqs (And.intro hbne hbl.size))
  have hwsz := hbl.size
  clear o1 o2 o3 o4 o5 o6 hpt hqs hq hbne
  refine wpIn_rangeFunc_ownH rfl (by omega) (Kp := KC q) (gf := 79) (lb := #[.pointer (some ⟨q + 1, 0, none⟩)]) rfl trivial (enters_of Try.func79 (by kernel_rfl) rfl)
    hst (fun h k => KC.trans h k) (fun W l o o' _ h hc _ => KC.put W l o o' h hc) (Below.refl _ _) (fun _ => rfl)
    (fun pre W => Blk W q 9 #[.string (strOf (numB p pre))] ∧ Blk W w.heap.size 31 #[.int .u64 p.b.1, .int .u64 p.b.2, .int .u64 p.t.1, .int .u64 p.t.2, .int .i64 p.f, .int .i64 p.a, .slice a p.cs.length c] ∧ Below w.heap.size w W)
    (fun _ _ _ => False)
    (OwnFrom.and (Own.from (fun s A B row hs hg hr => hs.others hg hr) _) (OwnFrom.and (Own.from (fun s A B row hs hg hr => hs.others hg hr) _) (ownFrom_below (Nat.le_refl _) hwsz)))
    (fun _ _ _ _ _ hs _ _ => hs)
    ⟨hbq3, hbx3, hbl⟩
    (fun x a' W => a' = { tmps := #[.agg #[.int .u64 p.b.1, .int .u64 p.b.2, .int .u64 p.t.1, .int .u64 p.t.2, .int .i64 p.f, .int .i64 p.a, .slice a p.cs.length c], .pointer (some ⟨w.heap.size, 0, none⟩), .string ⟨#[]⟩, .int .i64 0, .int .i64 0, .pointer (some ⟨q, 0, none⟩), .int .u64 (numP p x), undef, undef,
      .agg #[.int .u64 p.b.1, .int .u64 p.b.2, .int .u64 p.t.1, .int .u64 p.t.2, .int .i64 p.f, .int .i64 p.a, .slice a p.cs.length c], .int .i64 0, .int .i64 0, .bool false, undef, .agg #[.int .u64 p.b.1, .int .u64 p.b.2, .int .u64 p.t.1, .int .u64 p.t.2, .int .i64 p.f, .int .i64 p.a, .slice a p.cs.length c],
      .func (.func 79) #[] #[.pointer (some ⟨q + 1, 0, none⟩)], .int .u64 (numP p x), undef, undef, undef, undef, undef, undef, undef, undef, undef, undef, undef, undef, undef, undef, undef, undef, undef, undef, undef, undef, undef], defers := [] })
    (fun x a' => fun s A B row hs hg hr => hs) ?assign ?body ?done ?stop
  case assign =>
    rintro l pre x W K ⟨hi, hx2, hb⟩ hK
    unfold encN at hK ⊢
    generalize numP p x = nx at *
    gi_wp2
    exact hK _ _ ((KeepsOthers.refl _).from _) (KC.refl _ _) ⟨hi, hx2, hb⟩ rfl
  case body =>
    rintro l pre x a' W hl ⟨r, hr⟩ ⟨hi, hx2, hb⟩ rfl hlt
    have hnr := numP_range HWF.out HOK.out x
    have hsn := numB_snoc p pre x
    have hle := numB_le p pre
    obtain ⟨nn, hnn⟩ : ∃ nn, nn = (numP p x).toNat := ⟨_, rfl⟩
    have hnx : numP p x = (nn : Int) := by omega
    rw [← hnn] at hsn
    rw [hnx]
    have d0 := hi.cell 0
    have hfz := hi.frozen 0
    simp at d0
    have hnl : nn < 256 ^ 8 := by omega
    have hsz : (strOf (numB p pre)).size + 100 ≤ maxLen := by rw [strOf_size]; unfold maxLen; omega
    have HPN := Lib.hid (fun w => putNum_any (strOf (numB p pre)) nn w hnl hsz)
    have HI := Lib.hid hi
    have HX2 := Lib.hid hx2
    have HB := Lib.hid hb
    have HSN := Lib.hid hsn
    have HLT := Lib.hid hlt
    dsimp only
    clear hnr hsn hle hnn hnx hnl hsz hi hx2 hb hlt hr hl
    gi_wp2_with (refine ⟨trivial, ?_⟩; gi_at_call 53; refine (CallsIn.inRound l (callsIn_wide.2 (HPN.out _))).mono ?_; rintro e w' ⟨rfl, hb⟩; have d1 := (HI.out.keep hb).cell 0; have f1 := (HI.out.keep hb).frozen 0; simp at d1)
    have hi2 := (HI.out.keep hb).set 0 (.string (strOf ((strOf (numB p pre)).data.toList ++ Wire.putNum nn)))
    refine ⟨((keeps_of_below hb).trans (KeepsOthers.setCell w' ⟨q, 0, none⟩ _)).from _, ?_, ?_, ?_, ?_⟩
    · exact (KC.of_below hb).trans (KC.set _ _ _ _)
    · rw [HSN.out]
      exact hi2
    · exact (HX2.out.keep hb).far (p := ⟨q, 0, none⟩) (Ne.symm HQ.out.2.1) _
    · exact (HB.out.trans (hb.mono HB.out.size)).setCell (p := ⟨q, 0, none⟩) HQ.out.1 _
  case done =>
    rintro D ys W hD rfl ⟨hi, hx2, hb⟩ hK
    have z6 := hx2.cell 6
    simp at z6
    have HI := Lib.hid hi
    have HX2 := Lib.hid hx2
    have HB := Lib.hid hb
    clear hi hx2 hb
    gi_wp2_with fail
    refine wpIn_wide.2 ?_
    have hxs := HX.out
    have hcl8 := hcl
    generalize hZ : (fun j => p.cs.getD j (0, ByteArray.empty)) = Z
    have hZj : ∀ j, p.cs.getD j (0, ByteArray.empty) = Z j := fun j => by rw [← hZ]
    obtain ⟨G, hG⟩ : ∃ G : Nat → List UInt8, ∀ k, G k = numB p (List.range 7) ++ (p.cs.take k).flatMap chgB := ⟨_, fun _ => rfl⟩
    have HG0 := Lib.hid (show G 0 = numB p (List.range 7) by rw [hG]; simp)
    have HGS := Lib.hid (fun k (hk : k < p.cs.length) => show G (k + 1) = G k ++ chgB (Z k) by
      rw [hG, hG, List.take_add_one, List.flatMap_append, ← hZj]
      simp [hk])
    have HGN := Lib.hid (show G p.cs.length = encB p by rw [hG, List.take_of_length_le (Nat.le_refl _)]; rfl)
    have HGL := Lib.hid (fun k (hk : k ≤ p.cs.length) => gB_le p hZj HOK.out hG hk)
    have HCR := Lib.hid (fun k (hk : k < p.cs.length) => cg_range p hZj HOK.out hk)
    simp only [hZj] at hxs
    have HXS := Lib.hid hxs
    generalize hpc : p.cs.length = n at *
    clear hxs hZ hZj hG hst hbx3 hbq3 hbl z6 hwsz
    go_loopw [23] (fun i wr => ∃ k : Nat, k ≤ n ∧ i = .int .i64 k ∧ Blk wr q 9 #[.string (strOf (G k))] ∧ Below w.heap.size w wr ∧ KeepsOthers W wr) (fun i _ => n - (intOf i).toNat)
    case atStart => exact ⟨0, Nat.zero_le _, rfl, by rw [HG0.out]; exact HI.out, HB.out, KeepsOthers.refl _⟩
    case round =>
      obtain ⟨k, hk, rfl, hi, hb, hko⟩ := hrel
      have HIK := Lib.hid hi
      have HBK := Lib.hid hb
      have HKO := Lib.hid hko
      clear hi hb hko
      by_cases hkn : k < n
      · obtain ⟨g, off, rfl, hc0, hc1⟩ := HXS.out k hkn
        have c0 := cell_later HBK.out hc0
        have c1 := cell_later HBK.out hc1
        have hcr := HCR.out k hkn
        have hgs := HGS.out k hkn
        have hgl := HGL.out k (Nat.le_of_lt hkn)
        generalize Z k = zk at *
        obtain ⟨xb, xd⟩ := zk
        unfold chgB at hgs
        dsimp only at c0 c1 hcr hgs
        obtain ⟨⟨r0, r1⟩, r2⟩ := hcr
        obtain ⟨xn, rfl⟩ : ∃ xn : Nat, xb = xn := ⟨xb.toNat, by omega⟩
        rw [Int.toNat_natCast] at hgs
        have i1 : (k : Int) < (n : Int) := by omega
        have i2 : (n : Int) ≤ 8 := by omega
        have HKN := Lib.hid hkn
        have HGK := Lib.hid hgs
        have hpn : xn < 256 ^ 8 := by omega
        have hs1 : (strOf (G k)).size + 100 ≤ maxLen := by rw [strOf_size]; unfold maxLen; omega
        have HPN := Lib.hid (fun w => putNum_any (strOf (G k)) xn w hpn hs1)
        have hpl := Wire.putNum_length xn
        have HPT := Lib.hid (fun w => putText_any (strOf ((strOf (G k)).data.toList ++ Wire.putNum xn)) xd w (by omega) (by rw [strOf_size, List.length_append]; show (G k).length + _ ≤ _; omega))
        have hxb := Blk.new wr 76 #[.int .i64 (xn : Int), .string xd]
        have HXB := Lib.hid hxb
        have HXN := Lib.hid (show wr.heap.size ≠ q from fun e => by have := HIK.out.lt; omega)
        have hst := (HIK.out.alloc (Obj.cells #[.int .i64 (xn : Int), .string xd] 76))
        have HSTART := Lib.hid (EC.start (s2 := strOf ((strOf ((strOf (G k)).data.toList ++ Wire.putNum xn)).data.toList ++ Wire.putText xd.data.toList)) hst)
        have HBA := Lib.hid ((Below.refl wr.heap.size wr).alloc (Nat.le_refl _) (Obj.cells #[.int .i64 (xn : Int), .string xd] 76))
        have HCV := Lib.hid (show IntKind.u64.wrap (xn : Int) = (xn : Int) ∧ True from ⟨IntWalk.u64_in _ (by omega), trivial⟩)
        clear hc0 hc1 hgs hgl r0 r1 r2 hkn hk hpn hs1 hpl hxb hst
        go_wp2_with fail
        generalize wr.alloc (Obj.cells #[.int .i64 (xn : Int), .string xd] 76) = wx at *
        refine wp_region_spec (fun i => i == 0 || i == 4 || i == 7 || i == 8) (kinds [(0, .is (.string (strOf (G k)))), (4, .is (.string (strOf ((strOf (G k)).data.toList ++ Wire.putNum xn)))), (7, .is (.string (strOf ((strOf ((strOf (G k)).data.toList ++ Wire.putNum xn)).data.toList ++ Wire.putText xd.data.toList)))), (8, .is undef)]) (EC wx q (strOf (G k)) (strOf ((strOf ((strOf (G k)).data.toList ++ Wire.putNum xn)).data.toList ++ Wire.putText xd.data.toList))) (by kernel_rfl) (by kernel_rfl) (kinds_inh _) HSTART.out ?_
        intro ν hν
        have n0 : ν 0 = .string (strOf (G k)) := hν 0
        have n4 : ν 4 = .string (strOf ((strOf (G k)).data.toList ++ Wire.putNum xn)) := hν 4
        have n7 : ν 7 = .string (strOf ((strOf ((strOf (G k)).data.toList ++ Wire.putNum xn)).data.toList ++ Wire.putText xd.data.toList)) := hν 7
        have n8 : ν 8 = undef := hν 8
        clear hν
        refine lex_special (by rfl) rfl (fun σ w2 hA hD hn hC => ?_) ?_
        · have hx := hC.load hn
          go_simp
          exact hC.load_ok hn rfl
        rw [n0]
        simp only [Act.put, List.setIfInBounds_toArray, List.set_cons_succ, List.set_cons_zero, Nat.reduceAdd]
        refine lex_plain (by rfl) rfl ?_
        apply Exists.intro
        refine ⟨fun σ w2 hA hD hC => ?_, ?_⟩
        · clear hA hD hC
          go_simp
          exact And.intro rfl rfl
        simp only [Act.put, List.setIfInBounds_toArray, List.set_cons_succ, List.set_cons_zero, Nat.reduceAdd]
        refine lex_plain (by rfl) rfl ?_
        apply Exists.intro
        refine ⟨fun σ w2 hA hD hC => ?_, ?_⟩
        · have hx := (hC.blk HXB.out HXN.out).cell 0
          simp at hx
          clear hA hD hC
          go_simp
          exact And.intro rfl rfl
        simp only [Act.put, List.setIfInBounds_toArray, List.set_cons_succ, List.set_cons_zero, Nat.reduceAdd]
        refine lex_plain (by rfl) rfl ?_
        apply Exists.intro
        refine ⟨fun σ w2 hA hD hC => ?_, ?_⟩
        · have hx := HCV.out.1
          clear hA hD hC
          go_simp
          exact And.intro rfl rfl
        simp only [Act.put, List.setIfInBounds_toArray, List.set_cons_succ, List.set_cons_zero, Nat.reduceAdd]
        refine lex_special (by rfl) rfl (fun σ w2 hA hD hn hC => ?_) ?_
        · have e0 := got1 hA hD 0 rfl (by kernel_rfl)
          go_simp
          exact hC.call_ok (.inr (.inl rfl)) hn rfl (HPN.out _)
        rw [n4]
        simp only [Act.put, List.setIfInBounds_toArray, List.set_cons_succ, List.set_cons_zero, Nat.reduceAdd]
        refine lex_plain (by rfl) rfl ?_
        apply Exists.intro
        refine ⟨fun σ w2 hA hD hC => ?_, ?_⟩
        · clear hA hD hC
          go_simp
          exact And.intro rfl rfl
        simp only [Act.put, List.setIfInBounds_toArray, List.set_cons_succ, List.set_cons_zero, Nat.reduceAdd]
        refine lex_plain (by rfl) rfl ?_
        apply Exists.intro
        refine ⟨fun σ w2 hA hD hC => ?_, ?_⟩
        · have hx := (hC.blk HXB.out HXN.out).cell 1
          simp at hx
          clear hA hD hC
          go_simp
          exact And.intro rfl rfl
        simp only [Act.put, List.setIfInBounds_toArray, List.set_cons_succ, List.set_cons_zero, Nat.reduceAdd]
        refine lex_special (by rfl) rfl (fun σ w2 hA hD hn hC => ?_) ?_
        · have e4 := got1 hA hD 4 rfl (by kernel_rfl)
          go_simp
          exact hC.call_ok (.inr (.inr rfl)) hn rfl (HPT.out _)
        rw [n7]
        simp only [Act.put, List.setIfInBounds_toArray, List.set_cons_succ, List.set_cons_zero, Nat.reduceAdd]
        refine lex_special (by rfl) rfl (fun σ w2 hA hD hn hC => ?_) ?_
        · have e0 := got1 hA hD 0 rfl (by kernel_rfl)
          have e4 := got1 hA hD 4 rfl (by kernel_rfl)
          have e7 := got1 hA hD 7 rfl (by kernel_rfl)
          obtain ⟨hc9, hf9⟩ := hC.at8 hn
          go_simp
          exact hC.store_ok hn (by rw [e0]; rfl) (by rw [e4]; rfl) (by rw [e7]; rfl) rfl
        rw [n8]
        simp only [Act.put, Nat.reduceAdd]
        refine lex_nil (fun σ w9 hA hall hC => ?_)
        have s8 := hall 8 rfl (by decide)
        rw [n8] at s8
        have HF := Lib.hid (hC.fin (by rw [s8]; simp))
        clear hA hall hC n0 n4 n7 n8 s8
        go_wp2
        clear i1 i2
        refine ⟨⟨k + 1, HKN.out, rfl, ?_, ?_, ?_⟩, meas_succ HKN.out⟩
        · rw [HGK.out, ← List.append_assoc]
          exact HF.out.2.2.2
        · exact HBK.out.trans ((HBA.out.mono HBK.out.size).trans (HF.out.2.2.1.mono HQ.out.1))
        · exact HKO.out.trans ((keeps_of_below HBA.out).trans HF.out.2.1)
      · obtain rfl : k = n := by omega
        have i1 : ¬ ((k : Int) < (k : Int)) := by omega
        have d0 := HIK.out.cell 0
        simp at d0
        clear hkn hk
        go_wp2_with fail
        refine wpIn_wide.2 ?_
        have hsl : (strOf (G k)).size + 4 ≤ maxLen := by rw [strOf_size]; have := HGL.out k (Nat.le_refl _); unfold maxLen; omega
        have HSL := Lib.hid (fun w => seal_any (strOf (G k)) w hsl)
        have HS := Lib.hid (show strOf (Crc.sealed (strOf (G k)).data.toList) = encS p by rw [HE.out, ← HGN.out]; rfl)
        clear hsl
        go_wp2_with fail
        refine (HSL.out _).mono ?_
        rintro e w9 ⟨rfl, hb⟩
        have hK' := (HKO.out.trans (keeps_of_below hb)).same D _ hK rfl
        have hbb := HBK.out.trans (hb.mono HBK.out.size)
        go_wp2
        refine ⟨by simp, .inl ⟨_, _, rfl, run_takeDeferred hK', ?_⟩⟩
        rw [HS.out]
        exact ⟨_, results_tmp2 rfl _ _ _, rfl, hbb.trans (belowK_b (w := W0) HQ.out.2.2 w9 D _ _ hD hK' rfl rfl)⟩
  case stop =>
    rintro D c pre W _ _ h _
    exact h.elim
theorem enc_any (w : World) (v : Value) (p : Prt) (hv : InPr w v p) : Calls Try.prog 72 #[v] w fun e w' => e = .returned (.tuple #[.string (encS p), .int .i64 (checkP p)]) ∧ Below w.heap.size w w' := by
  by_cases h : okP p
  · have e : checkP p = 0 := if_pos h
    rw [e]
    exact enc_good w v p hv h
  · exact enc_bad w v p hv h
end Go.Proofs.Ytikimmhkfjaijaa
