/-
  SMALL FUNCTIONS OF THE LINES' STATEMENTS: a guid, a line, two alike.
-/
import Derived.Test.YtfkgidljgbhccaaLineMergeR
namespace Go.Proofs.Ytfkgidljgbhccaa
open Go.RowKit Reg

set_option maxRecDepth 100000 in
theorem sameR_true (v v' : Value) (z : Ln) (w : World) (hv : InL w v z) (hv' : InL w v' z) :
    Calls Try.prog 10 #[v, v'] w fun e w' => e = .returned (.bool true) ∧ Below w.heap.size w w' := by
  obtain ⟨sl, rfl, hs, -, -⟩ := hv
  obtain ⟨sl', rfl, hs', -, -⟩ := hv'
  have hg := fun w1 hb => guids_any sl sl' z.l z.l w1 (hs.keep (w' := w1) hb) (hs'.keep hb)
  simp only [decide_true] at hg
  have HG := Lib.hid hg
  clear hs hs' hg
  go_enter Try.func10, Try.ntmps10
  go_wp2_with fail
  refine (HG.out _ (((Below.refl _ _).alloc (Nat.le_refl _) _).alloc (by simp) _)).mono ?_
  rintro e w1 ⟨rfl, hb⟩
  have HB := Lib.hid ((((Below.refl w.heap.size w).alloc (Nat.le_refl _) _).alloc (by simp) _).trans (hb.mono (by simp; omega)))
  clear hb HG
  go_wp2
  go_ret
  exact ⟨rfl, HB.out⟩
theorem guid_any (a b : Int) (w : World) : Calls Try.prog 21 #[.int .u64 a, .int .u64 b] w fun e w' => e = .returned (.agg #[.int .u64 a, .int .u64 b]) ∧ Below w.heap.size w w' := by
  go_enter Try.func21, Try.ntmps21
  go_wp2
  refine bodyPost_ret (results_cell_row Try.results21 _ _ w.heap.size 32 _ (0, 0) _ rfl (Blk.new _ _ _) Try.underlying32 rfl (by kernel_rfl)) rfl ⟨rfl, ?_⟩
  exact (Below.refl _ _).alloc (Nat.le_refl _) _
theorem of_any (E : Int) (L : Bool) (a : Option Addr) (n c : Nat) (w : World) : Calls Try.prog 22 #[.int .u64 E, .bool L, .slice a n c] w fun e w' => e = .returned (.agg #[.int .u64 E, .int .i64 0, .bool L, .slice a n c]) ∧ Below w.heap.size w w' := by
  go_enter Try.func22, Try.ntmps22
  go_wp2
  refine bodyPost_ret (results_cell_row Try.results22 _ _ w.heap.size 25 _ (0, 0) _ rfl (Blk.new _ _ _) Try.underlying25 rfl (by kernel_rfl)) rfl ⟨rfl, ?_⟩
  exact (Below.refl _ _).alloc (Nat.le_refl _) _
theorem of_in {w : World} {E : Int} {L : Bool} {sl : Value} {gs : List Gd} (h : InG w sl gs) (hE : (Lit.int .u64 E).wf = true) : InL w (.agg #[.int .u64 E, .int .i64 0, .bool L, sl]) ⟨E, 0, L, gs⟩ := ⟨sl, rfl, h, hE, (by decide : (Lit.int .i64 0).wf = true)⟩
theorem InG.out {w w' : World} {base : Nat} {v : Value} {gs : List Gd} (h : OwG w base v gs) (hh : ∀ b, base ≤ b → b < w.heap.size → w'.heap[b]? = w.heap[b]?) : OwG w' base v gs := by
  refine ⟨⟨h.1.1, ?_⟩, h.2⟩
  rcases h.1.2 with hn | ⟨g, cap, cur, rfl, hg, hh2, rest⟩
  · exact .inl hn
  · exact .inr ⟨g, cap, cur, rfl, hg, (hh g hg (lt_of_block hh2)).trans hh2, rest⟩

instance (g : Gd) : Decidable (wfG g) := by
  unfold wfG
  infer_instance
/-! ### what is said of the values of a region that draws its order -/
inductive Fk where
  | no
  | g (gs : List Gd)
  | l (x : Ln)
def Fk.ok (base : Nat) : Fk → World → Value → Prop
  | .no, _, _ => True
  | .g gs, w, u => OwG w base u gs
  | .l x, w, u => OwL w base u x
def Fof (base : Nat) (L : List (Nat × Fk)) (s : Nat) (w : World) (u : Value) : Prop := ((L.lookup s).getD .no).ok base w u
theorem OwL.out {w w' : World} {base : Nat} {v : Value} {x : Ln} (h : OwL w base v x) (hh : ∀ b, base ≤ b → b < w.heap.size → w'.heap[b]? = w.heap[b]?) : OwL w' base v x := by
  obtain ⟨sl, h1, h2, h3⟩ := h
  exact ⟨sl, h1, InG.out h2 hh, h3⟩
theorem OwL.mono {w : World} {base base' : Nat} {v : Value} {x : Ln} (h : OwL w base v x) (hb : base' ≤ base) : OwL w base' v x := by
  obtain ⟨sl, h1, h2, h3⟩ := h
  exact ⟨sl, h1, h2.mono hb, h3⟩
section
variable {w0 w : World} {vs : List Vr} {L : List (Nat × Fk)} {σ : Nat → Option Value} {k : Nat} {p : Value → Prop}
theorem lit_ok (h : CG w0 vs (Fof w0.heap.size L) σ w) (h0 : σ k = none) (hn : ∀ v ∈ vs, k ≠ v.al ∧ k ≠ v.st) (gs : List Gd) (n : Nat) (cs : Array Value) (hlen : gs.length = n) (hc : cs = (cellsG gs).toArray) (h1 : gs.length ≤ 1000) (hw : ∀ g ∈ gs, wfG g)
    (hF : ∀ w u, OwG w w0.heap.size u gs → Fof w0.heap.size L k w u) (hp : ∀ g, p (.slice (some ⟨g, 0, none⟩) n n)) :
    SpecialOK Try.prog p (fun u => CG w0 vs (Fof w0.heap.size L) (upd σ k u)) (.ok (.value (.slice (some ⟨w.heap.size, 0, none⟩) n n)) (w.alloc (.cells cs 32))) := by
  subst hlen
  subst hc
  refine h.value_ok h0 hn (hp _) ((Below.refl _ _).alloc (Nat.le_refl _) _) fun w'' ho => hF _ _ ?_
  have hw0 : OwG (w.alloc (.cells (cellsG gs).toArray 32)) w.heap.size (.slice (some ⟨w.heap.size, 0, none⟩) gs.length gs.length) gs :=
    ⟨own_new w w.heap.size 32 (cellsG gs).toArray 2 gs.length (by simpa using cellsG_length gs) (Nat.le_refl _) (by unfold maxLen; omega), by unfold maxLen; omega, hw⟩
  exact (InG.out hw0 fun b hb hl => ho b hl fun hA => by have := (h.laid_lt hA).2; omega).mono h.below.size
theorem of_ok (h : CG w0 vs (Fof w0.heap.size L) σ w) (h0 : σ k = none) (hn : ∀ v ∈ vs, k ≠ v.al ∧ k ≠ v.st) (s : Nat) (hns : ∀ v ∈ vs, s ≠ v.al ∧ s ≠ v.st) (E : Int) (b : Bool) (a : Option Addr) (n c : Nat) (hs : σ s = some (.slice a n c)) (gs : List Gd)
    (hE : (Lit.int .u64 E).wf = true) (hFs : ∀ w u, Fof w0.heap.size L s w u → OwG w w0.heap.size u gs) (hF : ∀ w u, OwL w w0.heap.size u ⟨E, 0, b, gs⟩ → Fof w0.heap.size L k w u) (hp : p (.agg #[.int .u64 E, .int .i64 0, .bool b, .slice a n c])) :
    SpecialOK Try.prog p (fun u => CG w0 vs (Fof w0.heap.size L) (upd σ k u)) (.ok (.enter 22 #[.int .u64 E, .bool b, .slice a n c]) w) := by
  refine h.call_ok h0 hn ((of_any E b a n c w).mono ?_)
  rintro e w' ⟨rfl, hb⟩
  refine ⟨_, rfl, hp, hb, fun w'' ho => hF _ _ ⟨_, rfl, hFs _ _ (h.facts s _ hs hns w'' (Out.below hb ho)), hE, (by decide : (Lit.int .i64 0).wf = true)⟩⟩
theorem guid_ok (h : CG w0 vs (Fof w0.heap.size L) σ w) (h0 : σ k = none) (hn : ∀ v ∈ vs, k ≠ v.al ∧ k ≠ v.st) (a b : Int) (hF : ∀ w u, Fof w0.heap.size L k w u) (hp : p (.agg #[.int .u64 a, .int .u64 b])) :
    SpecialOK Try.prog p (fun u => CG w0 vs (Fof w0.heap.size L) (upd σ k u)) (.ok (.enter 21 #[.int .u64 a, .int .u64 b]) w) := by
  refine h.call_ok h0 hn ((guid_any a b w).mono ?_)
  rintro e w' ⟨rfl, hb⟩
  exact ⟨_, rfl, hp, hb, fun w'' _ => hF _ _⟩
theorem merge_ok (h : CG w0 vs (Fof w0.heap.size L) σ w) (h0 : σ k = none) (hn : ∀ v ∈ vs, k ≠ v.al ∧ k ≠ v.st) (s t : Nat) (hns : ∀ v ∈ vs, s ≠ v.al ∧ s ≠ v.st) (hnt : ∀ v ∈ vs, t ≠ v.al ∧ t ≠ v.st) (u1 u2 : Value) (hs : σ s = some u1) (ht : σ t = some u2) (x y z : Ln)
    (hFs : ∀ w u, Fof w0.heap.size L s w u → OwL w w0.heap.size u x) (hFt : ∀ w u, Fof w0.heap.size L t w u → OwL w w0.heap.size u y) (hz : (if further y x = true then y else x) = z) (l1 : x.l.length ≤ 2 ^ 43) (l2 : y.l.length ≤ 2 ^ 43)
    (hF : ∀ w u, OwL w w0.heap.size u z → Fof w0.heap.size L k w u) (hp : ∀ a c, p (.agg #[.int .u64 z.E, .int .i64 z.B, .bool z.L, .slice a z.l.length c])) :
    SpecialOK Try.prog p (fun u => CG w0 vs (Fof w0.heap.size L) (upd σ k u)) (.ok (.enter 11 #[u1, u2]) w) := by
  refine h.call_ok h0 hn ((merge_any u1 u2 x y w (hFs _ _ (h.fact hs hns)).rd (hFt _ _ (h.fact ht hnt)).rd l1 l2).mono ?_)
  rintro e w' ⟨u, rfl, hu, hb⟩
  rw [hz] at hu
  have hu2 := hu
  obtain ⟨sl, rfl, h1, -, -⟩ := hu2
  obtain ⟨a, c, rfl, -, -⟩ := h1.rd.open_
  exact ⟨_, rfl, hp a c, hb, fun w'' ho => hF _ _ ((hu.out fun b hbb hl => ho b hl fun hA => by have := (h.laid_lt hA).2; omega).mono h.below.size)⟩
/-- a call that gives back a number, and only reads -/
theorem num_ok {f : FuncId} {args : Array Value} (h : CG w0 vs (Fof w0.heap.size L) σ w) (h0 : σ k = none) (hn : ∀ v ∈ vs, k ≠ v.al ∧ k ≠ v.st) (r : Value) (hc : Calls Try.prog f args w fun e w' => e = .returned r ∧ Below w.heap.size w w') (hF : ∀ w u, Fof w0.heap.size L k w u) (hp : p r) :
    SpecialOK Try.prog p (fun u => CG w0 vs (Fof w0.heap.size L) (upd σ k u)) (.ok (.enter f args) w) := by
  refine h.call_ok h0 hn (hc.mono ?_)
  rintro e w' ⟨rfl, hb⟩
  exact ⟨_, rfl, hp, hb, fun w'' _ => hF _ _⟩
theorem OwL.slice {base : Nat} {E B : Int} {b : Bool} {sl : Value} {x : Ln} (h : OwL w base (.agg #[.int .u64 E, .int .i64 B, .bool b, sl]) x) : OwG w base sl x.l := by
  obtain ⟨s, e, h1, -, -⟩ := h
  simp only [Value.agg.injEq, Array.mk.injEq, List.cons.injEq, and_true] at e
  rw [e.2.2.2]
  exact h1
theorem InG.take {a : Option Addr} {n c m : Nat} {gs : List Gd} (h : InG w (.slice a n c) gs) (hm : m ≤ gs.length) : InG w (.slice a m c) (gs.take m) := by
  obtain ⟨⟨a', c', e, h0⟩, h1, h2⟩ := h
  simp only [Value.slice.injEq] at e
  obtain ⟨rfl, rfl, rfl⟩ := e
  have hl : (gs.take m).length = m := by rw [List.length_take]; omega
  refine ⟨⟨a, c, by rw [hl], ?_⟩, by omega, fun g hg => h2 g (List.mem_of_mem_take hg)⟩
  rcases h0 with rfl | ⟨hc, g, off, rfl, hx⟩
  · left; simp
  · right
    refine ⟨by omega, g, off, rfl, fun j u hj => ?_⟩
    rw [← cellsG_take, List.getElem?_take] at hj
    split at hj
    · exact hx j u hj
    · cases hj
theorem stays_ok (h : CG w0 vs (Fof w0.heap.size L) σ w) (h0 : σ k = none) (hn : ∀ v ∈ vs, k ≠ v.al ∧ k ≠ v.st) {v : Value} {gs : List Gd} (hv : InG w v gs) (t : Nat) (hnt : ∀ v ∈ vs, t ≠ v.al ∧ t ≠ v.st) (E B : Int) (b : Bool) (sl : Value) (ht : σ t = some (.agg #[.int .u64 E, .int .i64 B, .bool b, sl]))
    (hs : List Gd) (hFt : ∀ w u, Fof w0.heap.size L t w u → OwL w w0.heap.size u ⟨E, B, b, hs⟩) (r : Int) (hr : (stays gs E hs : Int) = r) (hF : ∀ w u, Fof w0.heap.size L k w u) (hp : p (.int .i64 r)) :
    SpecialOK Try.prog p (fun u => CG w0 vs (Fof w0.heap.size L) (upd σ k u)) (.ok (.enter 16 #[v, .agg #[.int .u64 E, .int .i64 B, .bool b, sl]]) w) :=
  num_ok h h0 hn (.int .i64 r) (hr ▸ stays_any v gs E B b sl hs w hv (hFt _ _ (h.fact ht hnt)).slice.rd) hF hp
theorem common_ok (h : CG w0 vs (Fof w0.heap.size L) σ w) (h0 : σ k = none) (hn : ∀ v ∈ vs, k ≠ v.al ∧ k ≠ v.st) {v : Value} {gs : List Gd} (hv : InG w v gs) (t : Nat) (hnt : ∀ v ∈ vs, t ≠ v.al ∧ t ≠ v.st) (E B : Int) (b : Bool) (sl : Value) (ht : σ t = some (.agg #[.int .u64 E, .int .i64 B, .bool b, sl]))
    (hs : List Gd) (hFt : ∀ w u, Fof w0.heap.size L t w u → OwL w w0.heap.size u ⟨E, B, b, hs⟩) (r : Int) (hr : (comm gs hs : Int) = r) (hF : ∀ w u, Fof w0.heap.size L k w u) (hp : p (.int .i64 r)) :
    SpecialOK Try.prog p (fun u => CG w0 vs (Fof w0.heap.size L) (upd σ k u)) (.ok (.enter 14 #[v, .agg #[.int .u64 E, .int .i64 B, .bool b, sl]]) w) :=
  num_ok h h0 hn (.int .i64 r) (hr ▸ common_any v gs E B b sl hs w hv (hFt _ _ (h.fact ht hnt)).slice.rd) hF hp
end
end Go.Proofs.Ytfkgidljgbhccaa
