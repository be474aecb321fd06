/-
  WHAT ModelStays KEEPS TRUE, from act to act: the model, the list that was, the guids seen, their images. No walk in it.
-/
import Derived.Test.YtfeinafbimpjnaaModelDo
import Derived.Test.YtfeinafbimpjnaaModelFar
namespace Go.Proofs.Ytfeinafbimpjnaa
open Go.RowKit Reg Go.WideShapes Go.ChangeShapes

section
variable {A : Nat → Prop} {w w' : World} {base m n g : Nat} {e e' : TypeId} {v v' : Value} {xs : List Value}
theorem own_cells (ho : w.ownsRow base e m v n xs) (hg : v.ownBlock = some g) : ∃ cs, w.heap[g]? = some (.cells cs e (0, 0)) := by
  rcases ho.2 with ⟨rfl, _⟩ | ⟨g', cap, cur, rfl, hb, hh, _⟩
  · cases hg
  · have : g' = g := by simpa [Value.ownBlock] using hg
    subst this
    exact ⟨cur, hh⟩
theorem own_in (ho : w.ownsRow base e m v n xs) (hg : v.ownBlock = some g) : g < w.heap.size := by
  obtain ⟨cs, hc⟩ := own_cells ho hg
  exact lt_of_block hc
theorem own_kp (h : Kp A w w') (ho : w.ownsRow base e m v n xs) (hA : ∀ g, v.ownBlock = some g → ¬ A g) : w'.ownsRow base e m v n xs := by
  refine ⟨ho.1, ?_⟩
  rcases ho.2 with hn | ⟨g', cap, cur, rfl, hb, hh, rest⟩
  · exact .inl hn
  · exact .inr ⟨g', cap, cur, rfl, hb, (h.2 g' (lt_of_block hh) (hA g' rfl)).trans hh, rest⟩
theorem own_apart {n' m' base' : Nat} {xs' : List Value} (ho : w.ownsRow base e m v n xs) (ho' : w.ownsRow base' e' m' v' n' xs') (he : e ≠ e') (hg : v.ownBlock = some g) : v'.ownBlock ≠ some g := by
  intro hg'
  obtain ⟨cs, h1⟩ := own_cells ho hg
  obtain ⟨cs', h2⟩ := own_cells ho' hg'
  rw [h1] at h2
  simp only [Option.some.injEq, Obj.cells.injEq] at h2
  exact he h2.2.1
theorem Md.own_far {bm bl bi : Nat} {S : Mdl} (h : Md w bm bl bi S) (ho : w.ownsRow base e m v n xs) (he : e ≠ 59) (hg : v.ownBlock = some g) : ¬ fp bm bl bi g := by
  intro hf
  obtain ⟨cs, h1⟩ := own_cells ho hg
  exact he (h.typed g e cs hf h1)
theorem Kp.of_grown {row : Option Nat} (h : w.grownBy w' row) (hr : ∀ k, row = some k → base ≤ k) (hb : base ≤ w.heap.size) : Kp (fun b => row = some b) w w' :=
  ⟨(below_grown h hb hr).mono (Nat.zero_le _), fun b hlt hn => h.block b hlt (fun e => hn e.symm)⟩
theorem Md.lsb_lt {bm bl bi : Nat} {S : Mdl} (h : Md w bm bl bi S) (hg : lsb w bm = some g) : g < w.heap.size := by
  obtain ⟨sl, h1, h2⟩ := h.obj
  have c3 := h1.cell 3
  simp at c3
  unfold lsb at hg
  rw [c3] at hg
  exact own_in h2.1 hg
theorem Md.fp_lt' {bm bl bi : Nat} {S : Mdl} (h : Md w bm bl bi S) (hg : fp bm bl bi g) : g < w.heap.size := by
  rcases hg with rfl | rfl | rfl
  · obtain ⟨sl, h1, _⟩ := h.obj
    exact h1.lt
  · obtain ⟨F, h3, _⟩ := h.live
    exact h3.lt
  · obtain ⟨F, h3, _⟩ := h.img
    exact h3.lt
/-- the model stays where its own blocks stay -/
theorem Md.kp {bm bl bi : Nat} {S : Mdl} (h : Md w bm bl bi S) (hk : Kp A w w') (hA : ∀ b, fp bm bl bi b → ¬ A b) (hL : ∀ g, lsb w bm = some g → ¬ A g) : Md w' bm bl bi S := by
  obtain ⟨sl, h1, h2⟩ := h.obj
  have c3 := h1.cell 3
  simp at c3
  obtain ⟨F, h3, h4⟩ := h.live
  obtain ⟨G, h5, h6⟩ := h.img
  refine ⟨h.n, ⟨sl, hk.blk h1 (hA _ (.inl rfl)), own_kp hk h2.1 (fun g hg => hL g ?_), h2.2⟩, ⟨F, h3.of_heap (hk.2 _ h3.lt (hA _ (.inr (.inl rfl)))), h4⟩, ⟨G, h5.of_heap (hk.2 _ h5.lt (hA _ (.inr (.inr rfl)))), h6⟩, h.ne, h.wl, h.wi, h.len⟩
  unfold lsb
  rw [c3]
  exact hg
end
/-- the acts of ModelStays -/
def Mdl.act (S : Mdl) (x : Ac) : Mdl :=
  if x.what = 0 then S.begin x.epoch x.g else if x.what = 1 ∨ x.what = 2 then S.write x.epoch x.block (letS x.letter x.short) else if x.what = 3 then S.snap x.g else if x.what = 4 then S.commit (x.l.take (min x.l.length 40)) else S
/-- what is there stays -/
structure Mono (S S' : Mdl) : Prop where
  n : S'.n = S.n
  img : ∀ g v, S.img g = some v → S'.img g = some v
  list : S'.list.take S.list.length = S.list
theorem Mono.refl (S : Mdl) : Mono S S := ⟨rfl, fun _ _ h => h, List.take_length⟩
theorem Mono.begin (S : Mdl) (e : Int) (g : Gd) : Mono S (S.begin e g) := by
  unfold Mdl.begin
  split
  · exact .refl S
  · exact ⟨rfl, fun _ _ h => h, List.take_length⟩
theorem Mono.write (S : Mdl) (e b : Int) (d : ByteArray) : Mono S (S.write e b d) := by
  unfold Mdl.write
  split
  · cases S.live e with
    | none => exact .refl S
    | some v => exact ⟨rfl, fun _ _ h => h, List.take_length⟩
  · exact .refl S
theorem Mono.snap (S : Mdl) (g : Gd) : Mono S (S.snap g) := by
  unfold Mdl.snap
  cases hl : S.live g.1 with
  | none => exact .refl S
  | some v =>
    cases hi : S.img g with
    | some v' => exact .refl S
    | none =>
      refine ⟨rfl, fun g' v' h => ?_, List.take_length⟩
      have hne : g' ≠ g := fun e => by subst e; rw [hi] at h; cases h
      exact (up_other S.img v hne).trans h
theorem Mono.commit (S : Mdl) (l : List Gd) : Mono S (S.commit l) := by
  unfold Mdl.commit
  split
  · exact .refl S
  · split
    case isTrue h =>
      refine ⟨rfl, fun _ _ h => h, ?_⟩
      unfold begB at h
      simp at h
      exact h.2.symm
    case isFalse => exact .refl S
theorem Mono.act (S : Mdl) (x : Ac) : Mono S (S.act x) := by
  unfold Mdl.act
  split
  · exact .begin _ _ _
  · split
    · exact .write _ _ _ _
    · split
      · exact .snap _ _
      · split
        · exact .commit _ _
        · exact .refl S
theorem Mono.image {S S' : Mdl} (h : Mono S S') {g : Gd} (hs : (S.img g).isSome = true) : S'.image g = S.image g ∧ (S'.img g).isSome = true := by
  obtain ⟨v, hv⟩ := Option.isSome_iff_exists.1 hs
  have h' := h.img g v hv
  unfold Mdl.image
  rw [h', hv, h.n]
  exact ⟨rfl, rfl⟩
theorem image_len {S : Mdl} {g : Gd} (hn : S.n = 3) (hs : (S.img g).isSome = true) : (S.image g).length = 3 := by
  obtain ⟨v, hv⟩ := Option.isSome_iff_exists.1 hs
  unfold Mdl.image
  rw [hv]
  simp only [imgS_len]
  rw [hn]
  rfl
/-- between two statements of the loop -/
structure StI (w0 w : World) (bm bl bi : Nat) (S : Mdl) (L : List Gd) (us ui ul : Value) (gs : List Gd) (vals : List Value) : Prop where
  below : Below w0.heap.size w0 w
  md : Md w bm bl bi S
  n3 : S.n = 3
  fpge : ∀ b, fp bm bl bi b → w0.heap.size ≤ b
  seen : OwG w w0.heap.size us gs
  lst : OwG w w0.heap.size ul L
  row : w.ownsRow w0.heap.size 42 1 ui vals.length vals
  len : vals.length ≤ gs.length
  each : ∀ q, q < vals.length → OwT w w0.heap.size (vals.getD q (.bool false)) (S.image (gs.getD q (0, 0))) ∧ (S.img (gs.getD q (0, 0))).isSome = true
  far : ∀ g, us.ownBlock = some g → lsb w bm ≠ some g ∧ ul.ownBlock ≠ some g
section
variable {w0 w w' : World} {bm bl bi : Nat} {S S' : Mdl} {L gs : List Gd} {us ui ul : Value} {vals : List Value}
theorem own_below {base m n : Nat} {e : TypeId} {v : Value} {xs : List Value} (hb : Below w.heap.size w w') (ho : w.ownsRow base e m v n xs) : w'.ownsRow base e m v n xs :=
  own_kp (A := fun _ => False) (.of_below hb) ho fun _ _ h => h
theorem StI.base (h : StI w0 w bm bl bi S L us ui ul gs vals) : w0.heap.size ≤ w.heap.size := h.below.size
theorem lsb_of_heap (h : w'.heap[bm]? = w.heap[bm]?) : lsb w' bm = lsb w bm := by
  unfold lsb World.cell?
  rw [h]
theorem StI.keep (h : StI w0 w bm bl bi S L us ui ul gs vals) (hb : Below w.heap.size w w') : StI w0 w' bm bl bi S L us ui ul gs vals := by
  refine ⟨h.below.trans (hb.mono h.base), h.md.keep hb, h.n3, h.fpge, h.seen.keep hb, h.lst.keep hb, own_below hb h.row, h.len, fun q hq => ⟨(h.each q hq).1.keep hb, (h.each q hq).2⟩, fun g hg => ?_⟩
  rw [lsb_of_heap (hb.block bm (h.md.fp_lt' (.inl rfl)))]
  exact h.far g hg
theorem StI.start (hb : Below w0.heap.size w0 w) (hm : Md w bm bl bi (Mdl.new 3)) (hf : ∀ b, fp bm bl bi b → w0.heap.size ≤ b) : StI w0 w bm bl bi (Mdl.new 3) [] (.slice none 0 0) (.slice none 0 0) (.slice none 0 0) [] [] :=
  ⟨hb, hm, rfl, hf, OwG.nil_ _ _, OwG.nil_ _ _, World.ownsRow_nil _ _ _ _, Nat.le_refl _, (fun q hq => absurd hq (Nat.not_lt_zero q)), (fun g hg => by cases hg)⟩
theorem StI.act (h : StI w0 w bm bl bi S L us ui ul gs vals) (hm : Md w' bm bl bi S') (hk : Kp (fp bm bl bi) w w') (hl : Ls bm w w') (hmo : Mono S S') : StI w0 w' bm bl bi S' L us ui ul gs vals := by
  refine ⟨h.below.trans (hk.below h.fpge h.base), hm, hmo.n.trans h.n3, h.fpge, ⟨own_kp hk h.seen.1 fun g hg => h.md.own_far h.seen.1 (by decide) hg, h.seen.2⟩, ⟨own_kp hk h.lst.1 fun g hg => h.md.own_far h.lst.1 (by decide) hg, h.lst.2⟩, own_kp hk h.row fun g hg => h.md.own_far h.row (by decide) hg, h.len, fun q hq => ?_, fun g hg => ?_⟩
  · have h1 := (h.each q hq).1
    have h2 := hmo.image (h.each q hq).2
    rw [h2.1]
    exact ⟨⟨own_kp hk h1.1 fun g hg => h.md.own_far h1.1 (by decide) hg, h1.2⟩, h2.2⟩
  · refine ⟨?_, (h.far g hg).2⟩
    rcases hl with hl | hl
    · rw [hl]
      exact (h.far g hg).1
    · intro e
      have h1 := hl g e
      have h2 := own_in h.seen.1 hg
      omega
/-- the list, taken anew -/
theorem StI.list (h : StI w0 w bm bl bi S L us ui ul gs vals) {u : Value} {L' : List Gd} (hu : OwG w' w.heap.size u L') (hb : Below w.heap.size w w') : StI w0 w' bm bl bi S L' us ui u gs vals := by
  have h' := h.keep hb
  refine ⟨h'.below, h'.md, h'.n3, h'.fpge, h'.seen, hu.mono h.base, h'.row, h'.len, h'.each, fun g hg => ⟨(h'.far g hg).1, fun e => ?_⟩⟩
  have h1 := hu.from_ e
  have h2 := own_in h.seen.1 hg
  omega
/-- one more seen -/
theorem StI.see (h : StI w0 w bm bl bi S L us ui ul gs vals) {g : Gd} {us' : Value} (ha : AppG w w0.heap.size us (gs ++ [g]) us' w') : StI w0 w' bm bl bi S L us' ui ul (gs ++ [g]) vals := by
  have hk := Kp.of_grown ha.2.1 (own_block h.seen.1) h.base
  have hb := below_grown ha.2.1 h.base (own_block h.seen.1)
  have apart : ∀ {e : TypeId} {m n : Nat} {v : Value} {xs : List Value}, e ≠ 34 → w.ownsRow w0.heap.size e m v n xs → ∀ b, v.ownBlock = some b → ¬ us.ownBlock = some b := fun he ho b hb => own_apart ho h.seen.1 he hb
  have hmd : Md w' bm bl bi S := h.md.kp hk (fun b hf e => h.md.own_far h.seen.1 (by decide) e hf) (fun b hl e => (h.far b e).1 hl)
  have hbm : w'.heap[bm]? = w.heap[bm]? := hk.2 bm (h.md.fp_lt' (.inl rfl)) fun e => h.md.own_far h.seen.1 (by decide) e (.inl rfl)
  refine ⟨h.below.trans hb, hmd, h.n3, h.fpge, ha.1, ⟨own_kp hk h.lst.1 fun b hl e => (h.far b e).2 hl, h.lst.2⟩, own_kp hk h.row (apart (by decide) h.row), by rw [List.length_append]; have := h.len; omega, fun q hq => ?_, fun b hb => ?_⟩
  · have hq' : q < gs.length := Nat.lt_of_lt_of_le hq h.len
    have h1 := (h.each q hq).1
    have e1 : (gs ++ [g]).getD q (0, 0) = gs.getD q (0, 0) := by simp [hq', List.getElem?_append_left hq']
    rw [e1]
    exact ⟨⟨own_kp hk h1.1 (apart (by decide) h1.1), h1.2⟩, (h.each q hq).2⟩
  · rw [lsb_of_heap hbm]
    rcases ha.2.2 with e | ⟨g', e1, e2⟩
    · rw [e] at hb
      exact h.far b hb
    · rw [e1] at hb
      obtain rfl := Option.some.inj hb
      exact ⟨fun e => by have := h.md.lsb_lt e; omega, fun e => by have := h.lst.lt e; omega⟩
/-- its image -/
theorem StI.add (h : StI w0 w bm bl bi S L us ui ul gs vals) {u ui' : Value} (hlen : vals.length < gs.length) (hu : OwT w w0.heap.size u (S.image (gs.getD vals.length (0, 0)))) (hs : (S.img (gs.getD vals.length (0, 0))).isSome = true)
    (ha : w'.ownsRow w0.heap.size 42 1 ui' (vals.length + 1) (vals ++ [u]) ∧ w.grownBy w' ui.ownBlock) : StI w0 w' bm bl bi S L us ui' ul gs (vals ++ [u]) := by
  have hk := Kp.of_grown ha.2 (own_block h.row) h.base
  have hb := below_grown ha.2 h.base (own_block h.row)
  have apart : ∀ {e : TypeId} {m n base : Nat} {v : Value} {xs : List Value}, e ≠ 42 → w.ownsRow base e m v n xs → ∀ b, v.ownBlock = some b → ¬ ui.ownBlock = some b := fun he ho b hb => own_apart ho h.row he hb
  have hmd : Md w' bm bl bi S := by
    refine h.md.kp hk (fun b hf e => h.md.own_far h.row (by decide) e hf) (fun b hl e => ?_)
    obtain ⟨sl, h1, h2⟩ := h.md.obj
    have c3 := h1.cell 3
    simp at c3
    unfold lsb at hl
    rw [c3] at hl
    exact apart (by decide) h2.1 b hl e
  have hbm : w'.heap[bm]? = w.heap[bm]? := hk.2 bm (h.md.fp_lt' (.inl rfl)) fun e => h.md.own_far h.row (by decide) e (.inl rfl)
  have l1 : (vals ++ [u]).length = vals.length + 1 := by simp
  refine ⟨h.below.trans hb, hmd, h.n3, h.fpge, ⟨own_kp hk h.seen.1 (apart (by decide) h.seen.1), h.seen.2⟩, ⟨own_kp hk h.lst.1 (apart (by decide) h.lst.1), h.lst.2⟩, by rw [l1]; exact ha.1, by rw [l1]; exact hlen, fun q hq => ?_, fun b hb => ?_⟩
  · rcases Nat.lt_or_ge q vals.length with hq' | hq'
    · have h1 := (h.each q hq').1
      have e1 : (vals ++ [u]).getD q (.bool false) = vals.getD q (.bool false) := by simp [hq', List.getElem?_append_left hq']
      rw [e1]
      exact ⟨⟨own_kp hk h1.1 (apart (by decide) h1.1), h1.2⟩, (h.each q hq').2⟩
    · have hqe : q = vals.length := by rw [l1] at hq; omega
      subst hqe
      have e1 : (vals ++ [u]).getD vals.length (.bool false) = u := by simp
      rw [e1]
      exact ⟨⟨own_kp hk hu.1 (apart (by decide) hu.1), hu.2⟩, hs⟩
  · rw [lsb_of_heap hbm]
    exact h.far b hb
theorem row_info : (Try.prog.info? 42).map (fun i => (i.zero, i.size, i.bytes)) = some (some (.slice none 0 0), 1, 24) := by kernel_rfl
/-- append, of one slice of strings -/
theorem app_row {base n : Nat} {v : Value} {xs : List Value} (ty : TypeId) {a : Option Addr} {l c : Nat} (ho : w.ownsRow base 42 1 v n xs) (hn : n + 1 ≤ 2 ^ 40) (hbase : base ≤ w.heap.size) :
    ∃ v' w', (Builtin.append_ #[49, 49] ty #[v, .slice (some ⟨w.heap.size, 0, none⟩) 1 1]).run Try.prog (w.alloc (.cells #[.slice a l c] 42)) = .ok v' w' ∧
      w'.ownsRow base 42 1 v' (n + 1) (xs ++ [.slice a l c]) ∧ (w.alloc (.cells #[.slice a l c] 42)).grownBy w' v.ownBlock := by
  obtain ⟨i, hi, hz0, hz1, hz2⟩ := info_parts row_info
  have hu := own_new w w.heap.size 42 #[.slice a l c] 1 1 rfl (Nat.le_refl _) (by decide)
  obtain ⟨v', w', h1, h2⟩ := app_own _ base 49 ty 42 i (.slice none 0 0) 1 24 Try.underlying49 hi hz0 hz1 hz2 rfl (by decide) (own_below ((Below.refl _ _).alloc (Nat.le_refl _) _) ho) (Rd.of_own hu) (by simp [Value.oneCell']) (by unfold maxLen; omega) (by omega) (by simp; omega)
  exact ⟨v', w', h1, h2.1, h2.2.1⟩
theorem app_guid {base : Nat} {v : Value} {gs : List Gd} (ty : TypeId) (g : Gd) (ho : OwG w base v gs) (hg : wfG g) (hn : gs.length + 1 ≤ 2 ^ 40) (hbase : base ≤ w.heap.size) :
    ∃ v' w', (Builtin.append_ #[29, 29] ty #[v, .slice (some ⟨w.heap.size, 0, none⟩) 1 1]).run Try.prog (w.alloc (.cells #[.int .u64 g.1, .int .u64 g.2] 34)) = .ok v' w' ∧
      AppG (w.alloc (.cells #[.int .u64 g.1, .int .u64 g.2] 34)) base v (gs ++ [g]) v' w' :=
  app_guids ty (ho.keep ((Below.refl _ _).alloc (Nat.le_refl _) _)) (InG.litAt w [g] #[.int .u64 g.1, .int .u64 g.2] w.heap.size rfl rfl (by simp) (by simpa using hg)) (by simp; omega) (by simp; omega)
theorem StI.stepq (h : StI w0 w bm bl bi S L us ui ul gs vals) (hm : Md w' bm bl bi S') (hk : Kp (fq bl bi) w w') (hmo : Mono S S') : StI w0 w' bm bl bi S' L us ui ul gs vals := by
  obtain ⟨sl, h1, _⟩ := h.md.obj
  exact h.act hm (hk.mono fun b hb => Or.inr hb) (Ls.of_heap (hk.2 bm (h.md.fp_lt' (.inl rfl)) (by rintro (e | e); exact h.md.ne_l h1 e; exact h.md.ne_i h1 e))) hmo
/-- a block that is none of the model's -/
theorem Blk.fq {q : Nat} {t : TypeId} {cs : Array Value} (hb : Blk w q t cs) (hk : Kp (fq bl bi) w w') (hq : ¬ fp bm bl bi q) : Blk w' q t cs := hk.blk hb fun e => hq (.inr e)
theorem StI.see_own (h : StI w0 w bm bl bi S L us ui ul gs vals) {g : Gd} {us' : Value} (ha : AppG w w0.heap.size us (gs ++ [g]) us' w') {b : Nat} {v : Value} {zs : List ByteArray} (ho : OwT w b v zs) : OwT w' b v zs :=
  ⟨own_kp (Kp.of_grown ha.2.1 (own_block h.seen.1) h.base) ho.1 (fun _ hb => own_apart ho.1 h.seen.1 (by decide) hb), ho.2⟩
/-- the row of images, as it is read -/
theorem row_open {base : Nat} {e : TypeId} {v : Value} (h : w.ownsRow base e 1 v vals.length vals) : ∃ a c, v = .slice a vals.length c ∧ ∀ q, q < vals.length → ∃ g, a = some ⟨g, 0, none⟩ ∧ w.cell? ⟨g, q, none⟩ = some (vals.getD q (.bool false)) := by
  rcases h.2 with ⟨rfl, h0⟩ | ⟨g, cap, cur, rfl, _⟩
  · exact ⟨none, 0, by rw [h0], fun q hq => by omega⟩
  · refine ⟨_, cap, rfl, fun q hq => ⟨g, rfl, ?_⟩⟩
    rw [h.cellAt q (by omega)]
    simp [hq]
/-- three blocks, in a row of strings -/
theorem OwT.three {base : Nat} {v : Value} {zs : List ByteArray} (h : OwT w base v zs) (hl : zs.length = 3) : ∃ g cap, v = .slice (some ⟨g, 0, none⟩) 3 cap ∧ 3 ≤ cap ∧ ∀ j, j < 3 → w.cell? ⟨g, j, none⟩ = some (.string (zs.getD j ByteArray.empty)) := by
  obtain ⟨g, cap, rfl, _, _, _, hc⟩ := h.block (by omega)
  have hcap : 3 ≤ cap := by
    rcases h.1.2 with ⟨h1, h0⟩ | ⟨g', cap', cur, h1, _, _, h2, _⟩
    · omega
    · simp only [Value.slice.injEq] at h1
      omega
  exact ⟨g, cap, by rw [hl], hcap, fun j hj => hc j (by omega)⟩
end
end Go.Proofs.Ytfeinafbimpjnaa
