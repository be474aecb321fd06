/-
  THE REFERENCE'S CHAIN IN MEMORY: its block, its live volume (a row of texts), its snapshots; what stays of it.
-/
import Derived.Test.YtjeebpklinpmfaaChR
import Derived.Test.YtjeebpklinpmfaaChain
namespace Go.Proofs.Ytjeebpklinpmfaa
open Go.RowKit Reg Go.WideShapes Go.ChangeShapes

section
variable {A : Nat → Prop} {w w' : World} {base m n g : Nat} {e e' : TypeId} {v v' : Value} {xs : List Value}
theorem own_cells (ho : w.ownsRow base e m v n xs) (hg : v.ownBlock = some g) : ∃ cs, w.heap[g]? = some (.cells cs e (0, 0)) := by
  rcases ho.2 with ⟨rfl, _⟩ | ⟨g', cap, cur, rfl, hb, hh, _⟩
  · cases hg
  · have : g' = g := by simpa [Value.ownBlock] using hg
    subst this
    exact ⟨cur, hh⟩
theorem own_in (ho : w.ownsRow base e m v n xs) (hg : v.ownBlock = some g) : g < w.heap.size := by
  obtain ⟨cs, hc⟩ := own_cells ho hg
  exact lt_of_block hc
theorem own_kp (h : Kp A w w') (ho : w.ownsRow base e m v n xs) (hA : ∀ g, v.ownBlock = some g → ¬ A g) : w'.ownsRow base e m v n xs := by
  refine ⟨ho.1, ?_⟩
  rcases ho.2 with hn | ⟨g', cap, cur, rfl, hb, hh, rest⟩
  · exact .inl hn
  · exact .inr ⟨g', cap, cur, rfl, hb, (h.2 g' (lt_of_block hh) (hA g' rfl)).trans hh, rest⟩
theorem own_apart {n' m' base' : Nat} {xs' : List Value} (ho : w.ownsRow base e m v n xs) (ho' : w.ownsRow base' e' m' v' n' xs') (he : e ≠ e') (hg : v.ownBlock = some g) : v'.ownBlock ≠ some g := by
  intro hg'
  obtain ⟨cs, h1⟩ := own_cells ho hg
  obtain ⟨cs', h2⟩ := own_cells ho' hg'
  rw [h1] at h2
  simp only [Option.some.injEq, Obj.cells.injEq] at h2
  exact he h2.2.1
theorem own_from (h : w.ownsRow base e m v n xs) (hg : v.ownBlock = some g) : base ≤ g := by
  rcases h.2 with ⟨rfl, _⟩ | ⟨g', cap, cur, rfl, hb, _⟩
  · cases hg
  · have : g' = g := by simpa [Value.ownBlock] using hg
    omega
theorem own_slice (h : w.ownsRow base e m v n xs) : ∃ a c, v = .slice a n c := by
  rcases h.2 with ⟨rfl, rfl⟩ | ⟨g, cap, cur, rfl, _⟩
  · exact ⟨none, 0, rfl⟩
  · exact ⟨_, cap, rfl⟩
theorem own_block_ (h : w.ownsRow base e m v n xs) (hn : 0 < n) : ∃ g cap, v = .slice (some ⟨g, 0, none⟩) n cap ∧ base ≤ g := by
  rcases h.2 with ⟨rfl, h0⟩ | ⟨g, cap, cur, rfl, hg, _⟩
  · omega
  · exact ⟨g, cap, rfl, hg⟩
end
section
variable {base q g m n : Nat} {w w' : World} {t t' : TypeId} {v : Value} {xs : List Value} {cs : Array Value}
theorem own_ne (ho : w.ownsRow base t m v n xs) (hb : Blk w q t' cs) (he : t ≠ t') (hg : v.ownBlock = some g) : g ≠ q := by
  rintro rfl
  obtain ⟨cs', h1⟩ := own_cells ho hg
  unfold Blk at hb
  rw [h1] at hb
  simp only [Option.some.injEq, Obj.cells.injEq] at hb
  exact he hb.2.1
end
theorem kp_cell (w : World) (g i : Nat) (u : Value) : Kp (· = g) w (w.setCell ⟨g, i, none⟩ u) := ⟨(Below.refl 0 w).setCell (Nat.zero_le _) _, fun b _ hn => Below.heap_setCell w _ _ b hn⟩
theorem below_cell (w : World) (g i : Nat) (u : Value) : Below g w (w.setCell ⟨g, i, none⟩ u) := (Below.refl g w).setCell (p := ⟨g, i, none⟩) (Nat.le_refl g) u

/-- a snapshot of the reference, and where its blocks lie -/
structure Rs where
  g : Gd
  bl : List ByteArray
  a : Option Addr
  c : Nat
  hid : Bool
abbrev Rs.iv (e : Rs) : Value := .slice e.a e.bl.length e.c
def Rs.cells (e : Rs) : List Value := [.int .u64 e.g.1, .int .u64 e.g.2, e.iv, .bool e.hid]
def rs0 : Rs := ⟨(0, 0), [], none, 0, false⟩
def cellsR (es : List Rs) : List Value := es.flatMap Rs.cells
theorem cellsR_snoc (es : List Rs) (e : Rs) : cellsR (es ++ [e]) = cellsR es ++ e.cells := by simp [cellsR]
theorem cellsR_len (es : List Rs) : (cellsR es).length = es.length * 4 := by
  induction es with
  | nil => rfl
  | cons e es ih =>
    have e1 : cellsR (e :: es) = e.cells ++ cellsR es := rfl
    rw [e1, List.length_append, ih, List.length_cons]
    show 4 + _ = _
    omega
theorem cellsR_at : ∀ (es : List Rs) (j i : Nat), j < es.length → i < 4 → (cellsR es)[j * 4 + i]? = (es.getD j rs0).cells[i]?
  | [], _, _, hj, _ => by simp at hj
  | e :: es, 0, i, _, hi => by
    show (e.cells ++ cellsR es)[0 * 4 + i]? = _
    rw [Nat.zero_mul, Nat.zero_add, List.getElem?_append_left (by show i < 4; exact hi)]
    simp
  | e :: es, j + 1, i, hj, hi => by
    show (e.cells ++ cellsR es)[(j + 1) * 4 + i]? = _
    rw [List.getElem?_append_right (by show 4 ≤ _; omega)]
    have := cellsR_at es j i (by simpa using hj) hi
    have e4 : (j + 1) * 4 + i - e.cells.length = j * 4 + i := by show (j + 1) * 4 + i - 4 = _; omega
    rw [e4, this]
    simp
theorem cellsR_take : ∀ (es : List Rs) (m : Nat), (cellsR es).take (m * 4) = cellsR (es.take m)
  | [], m => by simp [cellsR]
  | e :: es, 0 => by simp [cellsR]
  | e :: es, m + 1 => by
    have ih := cellsR_take es m
    show (e.cells ++ cellsR es).take ((m + 1) * 4) = e.cells ++ cellsR (es.take m)
    have e1 : (m + 1) * 4 = e.cells.length + m * 4 := by show _ = 4 + m * 4; omega
    rw [e1, List.take_length_add_append, ih]
theorem cellsR_hide : ∀ (es : List Rs) (k : Nat), k < es.length → cellsR (es.set k { es.getD k rs0 with hid := true }) = (cellsR es).set (k * 4 + 3) (.bool true)
  | [], k, h => by simp at h
  | e :: es, 0, _ => by simp [cellsR, Rs.cells]
  | e :: es, k + 1, h => by
    have ih := cellsR_hide es k (by simpa using h)
    show e.cells ++ cellsR (es.set k { (e :: es).getD (k + 1) rs0 with hid := true }) = (e.cells ++ cellsR es).set ((k + 1) * 4 + 3) _
    have e1 : (e :: es).getD (k + 1) rs0 = es.getD k rs0 := by simp
    have e4 : e.cells.length = 4 := rfl
    rw [e1, ih, List.set_append_right _ _ (by omega), e4, show (k + 1) * 4 + 3 - 4 = k * 4 + 3 by omega]
/-- v owns the row es -/
def OwR (w : World) (base : Nat) (v : Value) (es : List Rs) : Prop := w.ownsRow base 88 4 v es.length (cellsR es)
theorem rs_info : (Try.prog.info? 88).map (fun i => (i.zero, i.size, i.bytes)) = some (some (.agg #[.int .u64 0, .int .u64 0, .slice none 0 0, .bool false]), 4, 48) := by kernel_rfl
theorem rs_one (e : Rs) : ∀ u ∈ e.cells, u.oneCell' = true := by
  intro u hu
  simp only [Rs.cells, List.mem_cons, List.not_mem_nil, or_false] at hu
  rcases hu with rfl | rfl | rfl | rfl <;> rfl
theorem OwR.nil_ (w : World) (base : Nat) : OwR w base (.slice none 0 0) [] := World.ownsRow_nil _ _ _ _
section
variable {w w' : World} {base : Nat} {v u : Value} {es : List Rs} {e : Rs}
/-- append, of one snapshot -/
theorem app_rs (ty : TypeId) (ho : OwR w base v es) (hu : ∃ g, u = .slice (some ⟨g, 0, none⟩) 1 1 ∧ Blk w g 88 e.cells.toArray) (hn : es.length + 1 ≤ 2 ^ 30) (hbase : base ≤ w.heap.size) :
    ∃ v' w', (Builtin.append_ #[82, 82] ty #[v, u]).run Try.prog w = .ok v' w' ∧ OwR w' base v' (es ++ [e]) ∧ w.grownBy w' v.ownBlock := by
  obtain ⟨i, hi, hz0, hz1, hz2⟩ := info_parts rs_info
  obtain ⟨g, rfl, hb⟩ := hu
  have hu : w.ownsRow 0 88 4 (.slice (some ⟨g, 0, none⟩) 1 1) 1 e.cells := ⟨rfl, .inr ⟨g, 1, e.cells.toArray, rfl, Nat.zero_le _, hb, Nat.le_refl _, by unfold maxLen; omega, rfl, rfl⟩⟩
  obtain ⟨v', w', h1, h2⟩ := app_own _ base 82 ty 88 i (.agg #[.int .u64 0, .int .u64 0, .slice none 0 0, .bool false]) 4 48 Try.underlying82 hi hz0 hz1 hz2 rfl (by decide) ho (Rd.of_own hu) (rs_one e) (by unfold maxLen; omega) (by omega) hbase
  refine ⟨v', w', h1, ?_, h2.2.1⟩
  unfold OwR
  rw [cellsR_snoc, List.length_append]
  exact h2.1
theorem OwR.cut {a : Option Addr} {n c m : Nat} (h : OwR w base (.slice a n c) es) (hm : m ≤ es.length) : OwR w base (.slice a m c) (es.take m) := by
  unfold OwR at h ⊢
  have hl : (es.take m).length = m := by rw [List.length_take]; omega
  rw [hl, ← cellsR_take]
  refine ⟨by rw [List.length_take, cellsR_len]; omega, ?_⟩
  rcases h.2 with ⟨e, h0⟩ | ⟨g, cap, cur, e, hg, hh, hc, hx, hs, ht⟩
  · simp only [Value.slice.injEq] at e
    obtain ⟨rfl, rfl, rfl⟩ := e
    obtain rfl : m = 0 := by omega
    exact .inl ⟨rfl, rfl⟩
  · simp only [Value.slice.injEq] at e
    obtain ⟨rfl, -, rfl⟩ := e
    refine .inr ⟨g, c, cur, rfl, hg, hh, by omega, hx, hs, ?_⟩
    rw [← ht, List.take_take, Nat.min_eq_left (by omega)]
theorem OwR.hide {gl n cap : Nat} (h : OwR w base (.slice (some ⟨gl, 0, none⟩) n cap) es) (k : Nat) (hk : k < es.length) :
    OwR (w.setCell ⟨gl, k * 4 + 3, none⟩ (.bool true)) base (.slice (some ⟨gl, 0, none⟩) n cap) (es.set k { es.getD k rs0 with hid := true }) := by
  unfold OwR at h ⊢
  obtain rfl : n = es.length := by
    obtain ⟨_, _, e⟩ := own_slice h
    simp only [Value.slice.injEq] at e
    exact e.2.1
  rw [List.length_set, cellsR_hide es k hk]
  exact (World.ownsRow.stored h (k * 4 + 3) (.bool true)).1
/-- a snapshot's cells -/
theorem OwR.at_ {gl n cap : Nat} (h : OwR w base (.slice (some ⟨gl, 0, none⟩) n cap) es) (k : Nat) (hk : k < es.length) : w.cell? ⟨gl, k * 4, none⟩ = some (.int .u64 (es.getD k rs0).g.1) ∧ w.cell? ⟨gl, k * 4 + 1, none⟩ = some (.int .u64 (es.getD k rs0).g.2) ∧
    w.cell? ⟨gl, k * 4 + 2, none⟩ = some (es.getD k rs0).iv ∧ w.cell? ⟨gl, k * 4 + 3, none⟩ = some (.bool (es.getD k rs0).hid) := by
  unfold OwR at h
  have hl : n = es.length := by
    obtain ⟨_, _, e⟩ := own_slice h
    simp only [Value.slice.injEq] at e
    exact e.2.1
  subst hl
  have hcell : ∀ i, i < 4 → w.cell? ⟨gl, k * 4 + i, none⟩ = (es.getD k rs0).cells[i]? := fun i hi => by
    rw [← cellsR_at es k i hk hi]
    exact World.ownsRow.cellAt h (k * 4 + i) (by omega)
  exact ⟨hcell 0 (by omega), hcell 1 (by omega), hcell 2 (by omega), hcell 3 (by omega)⟩
end
def Apart (u v : Value) : Prop := ∀ b, u.ownBlock = some b → v.ownBlock ≠ some b
/-- block br holds the reference's chain: the live volume 'now' (the value nv), the snapshots es (the value sv); all of it lies from block B on -/
structure Rm (w : World) (B br : Nat) (nv sv : Value) (now : List ByteArray) (es : List Rs) : Prop where
  obj : Blk w br 84 #[nv, sv]
  now : OwT w B nv now
  row : OwR w B sv es
  bl : ∀ e ∈ es, OwT w B e.iv e.bl
  ap : ∀ e ∈ es, Apart nv e.iv
  br : B ≤ br
section
variable {A : Nat → Prop} {w w' w'' : World} {B br : Nat} {nv sv : Value} {now : List ByteArray} {es : List Rs}
theorem OwT.kp {base : Nat} {v : Value} {zs : List ByteArray} (ho : OwT w base v zs) (h : Kp A w w') (hA : ∀ g, v.ownBlock = some g → ¬ A g) : OwT w' base v zs := ⟨own_kp h ho.1 hA, ho.2⟩
theorem OwT.slice_ {base : Nat} {v : Value} {zs : List ByteArray} (h : OwT w base v zs) : ∃ a c, v = .slice a zs.length c := own_slice h.1
theorem Rm.keep (h : Rm w B br nv sv now es) (hb : Below w.heap.size w w') : Rm w' B br nv sv now es :=
  ⟨h.obj.keep hb, h.now.keep hb, own_kp (Kp.of_below hb) h.row fun _ _ h => h, fun e he => (h.bl e he).keep hb, h.ap, h.br⟩
/-- what turns in the reference's memory is of its types -/
def OthR (w w' : World) : Prop := ∀ q t cs, t ≠ 84 → t ≠ 88 → t ≠ 9 → Blk w q t cs → Blk w' q t cs
structure FR (B : Nat) (w w' : World) : Prop where
  below : Below B w w'
  oth : OthR w w'
theorem FR.refl (B : Nat) (w : World) : FR B w w := ⟨Below.refl _ _, fun _ _ _ _ _ _ h => h⟩
theorem FR.trans (h : FR B w w') (h' : FR B w' w'') : FR B w w'' := ⟨h.below.trans h'.below, fun q t cs h1 h2 h3 h4 => h'.oth q t cs h1 h2 h3 (h.oth q t cs h1 h2 h3 h4)⟩
theorem FR.of_below (hb : Below w.heap.size w w') (hB : B ≤ w.heap.size) : FR B w w' := ⟨hb.mono hB, fun _ _ _ _ _ _ h => h.keep hb⟩
theorem blk_type {q : Nat} {t t' : TypeId} {cs cs' : Array Value} (h : Blk w q t cs) (h' : Blk w q t' cs') : t = t' := by
  unfold Blk at h h'
  rw [h] at h'
  simp only [Option.some.injEq, Obj.cells.injEq] at h'
  exact h'.2.1
theorem FR.of_kp {q : Nat} {t : TypeId} {cs : Array Value} (hk : Kp (· = q) w w') (hb : Blk w q t cs) (ht : t = 84 ∨ t = 88 ∨ t = 9) (hq : B ≤ q) : FR B w w' :=
  ⟨hk.below (fun b hb => by omega) (Nat.le_of_lt (Nat.lt_of_le_of_lt hq hb.lt)), fun q' t' cs' h1 h2 h3 h4 => hk.blk h4 fun e => by
    subst e
    have := blk_type hb h4
    subst this
    rcases ht with h | h | h
    · exact h1 h
    · exact h2 h
    · exact h3 h⟩
theorem FR.of_row {row : Value} {t : TypeId} {m n : Nat} {xs : List Value} (hk : Kp (fun b => row.ownBlock = some b) w w') (ho : w.ownsRow B t m row n xs) (ht : t = 84 ∨ t = 88 ∨ t = 9) (hB : B ≤ w.heap.size) : FR B w w' :=
  ⟨hk.below (fun b hb => own_from ho hb) hB, fun q' t' cs' h1 h2 h3 h4 => hk.blk h4 fun e => by
    obtain ⟨cs, hc⟩ := own_cells ho e
    have := blk_type (show Blk w q' t cs from hc) h4
    subst this
    rcases ht with h | h | h
    · exact h1 h
    · exact h2 h
    · exact h3 h⟩
theorem Rm.base (h : Rm w B br nv sv now es) : B ≤ w.heap.size := Nat.le_of_lt (Nat.lt_of_le_of_lt h.br h.obj.lt)
/-- the program's steps leave it -/
theorem own_oth {m n base : Nat} {t : TypeId} {v : Value} {xs : List Value} (ho : w.ownsRow base t m v n xs) (hw : Oth w w') (h1 : t ≠ 72) (h2 : t ≠ 74) : w'.ownsRow base t m v n xs := by
  refine ⟨ho.1, ?_⟩
  rcases ho.2 with hn | ⟨g', cap, cur, rfl, hb, hh, rest⟩
  · exact .inl hn
  · exact .inr ⟨g', cap, cur, rfl, hb, hw g' t cur h1 h2 hh, rest⟩
theorem Rm.oth (h : Rm w B br nv sv now es) (hw : Oth w w') : Rm w' B br nv sv now es :=
  ⟨hw _ _ _ (by decide) (by decide) h.obj, ⟨own_oth h.now.1 hw (by decide) (by decide), h.now.2⟩, own_oth h.row hw (by decide) (by decide), fun e he => ⟨own_oth (h.bl e he).1 hw (by decide) (by decide), (h.bl e he).2⟩, h.ap, h.br⟩
/-- the reference's steps leave the program's chain -/
theorem Ho.fr {w0 : World} {bc : Nat} {C : Ch} (h : Ho B w0 w bc C) (hf : FR B w w') : Ho B w0 w' bc C := by
  obtain ⟨sl, h1, h2⟩ := h.ex
  refine ⟨⟨sl, ⟨hf.oth _ _ _ (by decide) (by decide) (by decide) h1.obj, ⟨h1.snaps.1, h1.snaps.2.1, ?_⟩, h1.n, h1.live⟩, h2⟩, h.bc, h.below.trans hf.below, Nat.le_trans h.size hf.below.size⟩
  rcases h1.snaps.2.2 with h3 | ⟨g, cap, cur, e, hb, rest⟩
  · exact .inl h3
  · exact .inr ⟨g, cap, cur, e, hf.oth _ _ _ (by decide) (by decide) (by decide) hb, rest⟩
end
/-! ### the two chains tell the same -/
def tailE (n : Nat) (v : Vo) : Prop := v.drop n = List.replicate (8 - n) ByteArray.empty
structure Lk (C : Ch) (now : List ByteArray) (es : List Rs) : Prop where
  n : 1 ≤ C.n ∧ C.n ≤ 8
  live : wfV C.live
  wf : ∀ s ∈ C.snaps, wfS s
  len : C.snaps.length ≤ 20
  now : now = C.live.take C.n
  sn : es.map (fun e => (e.g, e.bl, e.hid)) = C.snaps.map (fun s => (s.g, s.vol.take C.n, s.hid))
  tl : tailE C.n C.live
  ts : ∀ s ∈ C.snaps, tailE C.n s.vol
section
variable {C : Ch} {now : List ByteArray} {es : List Rs}
theorem Lk.elen (h : Lk C now es) : es.length = C.snaps.length := by
  have := congrArg List.length h.sn
  simpa using this
theorem Lk.nlen (h : Lk C now es) : now.length = C.n := by
  rw [h.now, List.length_take, h.live.1]
  have := h.n.2
  omega
theorem Lk.at_ (h : Lk C now es) (k : Nat) (hk : k < es.length) : (es.getD k rs0).g = (C.snaps.getD k nosn).g ∧ (es.getD k rs0).bl = (C.snaps.getD k nosn).vol.take C.n ∧ (es.getD k rs0).hid = (C.snaps.getD k nosn).hid := by
  have hk2 : k < C.snaps.length := by rw [← h.elen]; exact hk
  have := congrArg (fun l => l[k]?) h.sn
  simp [hk, hk2] at this
  simpa [hk, hk2] using this
end
end Go.Proofs.Ytjeebpklinpmfaa
