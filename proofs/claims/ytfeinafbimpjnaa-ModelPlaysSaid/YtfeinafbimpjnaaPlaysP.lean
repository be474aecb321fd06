/-
  THE MODEL AND THE DOCUMENT'S MODEL SAY THE SAME. No walk in it.
-/
import Derived.Test.YtfeinafbimpjnaaRefM7
namespace Go.Proofs.Ytfeinafbimpjnaa
open Go.RowKit Reg Go.WideShapes Go.ChangeShapes

/-- what a list of keys and texts says of a key -/
def lkup {α : Type} [DecidableEq α] (ks : List α) (ts : List Txs) (k : α) : Option Txs := if ix ks k < ks.length then some (ts.getD (ix ks k) []) else none
section
variable {α : Type} [DecidableEq α] {ks : List α} {ts : List Txs} {k x : α} {t : Txs}
theorem lkup_snoc (hl : ts.length = ks.length) (hk : ¬ ix ks k < ks.length) : lkup (ks ++ [k]) (ts ++ [t]) x = if x = k then some t else lkup ks ts x := by
  have e1 : ix ks k = ks.length := by have := ix_le ks k; omega
  unfold lkup
  by_cases hx : x = k
  · subst hx
    rw [ix_new _ _ _ e1, if_pos rfl, if_pos rfl, if_pos (by simp), ← hl]
    simp
  · rw [if_neg hx]
    by_cases h : ix ks x < ks.length
    · rw [ix_old _ _ _ h, if_pos h, if_pos (by simp; omega)]
      have h1 : ix ks x < ts.length := by omega
      simp [List.getElem?_append_left h1]
    · have e2 : ix ks x = ks.length := by have := ix_le ks x; omega
      rw [ix_new _ _ _ e2, if_neg (c := k = x) (fun e => hx e.symm), if_neg h, if_neg (by simp)]
theorem lkup_set (d : α) (hl : ts.length = ks.length) (hk : ix ks k < ks.length) : lkup ks (ts.set (ix ks k) t) x = if x = k then some t else lkup ks ts x := by
  unfold lkup
  by_cases hx : x = k
  · subst hx
    rw [if_pos hk, if_pos rfl]
    have h1 : ix ks x < ts.length := by omega
    simp [h1]
  · rw [if_neg hx]
    by_cases h : ix ks x < ks.length
    · rw [if_pos h, if_pos h]
      have hne : ix ks k ≠ ix ks x := fun e => hx (by rw [← ix_at ks x d h, ← e, ix_at ks k d hk])
      simp [List.getElem?_set_ne hne]
    · rw [if_neg h, if_neg h]
end
/-- both say the same -/
structure Sm (S : Mdl) (R : Rf) : Prop where
  n : R.n = S.n
  ll : R.lt.length = R.lk.length
  li : R.it.length = R.ik.length
  live : ∀ e, lkup R.lk R.lt e = (S.live e).map fun v => imgS v S.n.toNat
  img : ∀ g, lkup R.ik R.it g = (S.img g).map fun v => imgS v S.n.toNat
  com : R.com = S.list
def Rf.new (n : Int) : Rf := ⟨n, [], [], [], [], []⟩
theorem Sm.new (n : Int) : Sm (Mdl.new n) (Rf.new n) := ⟨rfl, rfl, rfl, fun _ => rfl, fun _ => rfl, rfl⟩
section
variable {S : Mdl} {R : Rf}
theorem Sm.has (h : Sm S R) (g : Gd) : R.has g = (S.img g).isSome := by
  have := h.img g
  unfold lkup at this
  unfold Rf.has
  cases hi : S.img g with
  | none =>
    rw [hi] at this
    split at this
    · cases this
    · rename_i hn; simp [hn]
  | some v =>
    rw [hi] at this
    split at this
    · rename_i hn; simp [hn]
    · cases this
theorem Sm.image (h : Sm S R) (g : Gd) : R.image g = S.image g := by
  have := h.img g
  unfold lkup at this
  unfold Rf.image Mdl.image
  cases hi : S.img g with
  | none =>
    rw [hi] at this
    split at this
    · cases this
    · rename_i hn; rw [if_neg hn]
  | some v =>
    rw [hi] at this
    split at this
    · rename_i hn; rw [if_pos hn]; exact Option.some.inj this
    · cases this
theorem Sm.live_iff (h : Sm S R) (e : Int) : ix R.lk e < R.lk.length ↔ (S.live e).isSome = true := by
  have := h.live e
  unfold lkup at this
  cases hi : S.live e with
  | none =>
    rw [hi] at this
    split at this
    · cases this
    · rename_i hn; simp [hn]
  | some v =>
    rw [hi] at this
    split at this
    · rename_i hn; simp [hn]
    · cases this
theorem Sm.live_get (h : Sm S R) {e : Int} {v : Vol} (hv : S.live e = some v) : R.lt.getD (ix R.lk e) [] = imgS v S.n.toNat := by
  have := h.live e
  unfold lkup at this
  rw [hv, if_pos ((h.live_iff e).2 (by rw [hv]; rfl))] at this
  exact Option.some.inj this
theorem Sm.taken (h : Sm S R) (l : List Gd) : R.taken l = S.taken l := by
  unfold Rf.taken Mdl.taken
  rw [h.com]
theorem Sm.commit (h : Sm S R) (l : List Gd) : Sm (S.commit l) (R.commit l) := by
  unfold Mdl.commit Rf.commit
  rw [h.com]
  split
  · exact h
  · split
    · exact ⟨h.n, h.ll, h.li, h.live, h.img, rfl⟩
    · exact h
theorem blk_zeroV {k : Nat} (hk : k < 8) : blk zeroV k = List.replicate 32 0 := by
  unfold blk zeroV
  rw [List.drop_replicate, List.take_replicate, Nat.min_eq_left (by omega)]
theorem imgS_zero {n : Nat} (hn : n ≤ 8) : imgS zeroV n = List.replicate n Z0 := by
  unfold imgS
  apply List.ext_getElem (by simp)
  intro i h1 h2
  have hi : i < n := by simpa using h1
  simp only [List.getElem_map, List.getElem_range, List.getElem_replicate]
  rw [blk_zeroV (by omega)]
  rfl
theorem bytesI_len (d : ByteArray) : (bytesI d).length = d.size := by simp [bytesI]
theorem strOfNums_bytesI (d : ByteArray) : strOfNums (bytesI d) = d := by
  apply ByteArray.ext
  apply Array.ext'
  unfold strOfNums bytesI
  simp only [List.map_map]
  have : (fun (z : Int) => UInt8.ofNat z.toNat) ∘ (fun (x : UInt8) => (x.toNat : Int)) = id := by
    funext x
    simp
  first
    | (rw [this]; simp)
    | simp [Function.comp_def]
theorem blk_put {v : Vol} {b k : Nat} {d : ByteArray} (hv : wfV v) (hd : d.size = 32) (hb : b < 8) : blk (putV v b d) k = if k = b then bytesI d else blk v k := by
  have hl := bytesI_len d
  have h1 : (v.take (32 * b)).length = 32 * b := by rw [List.length_take, hv.1]; omega
  unfold blk putV
  apply List.ext_getElem?
  intro i
  by_cases hi : i < 32
  · rw [List.getElem?_take_of_lt hi, List.getElem?_drop]
    by_cases e : k = b
    · subst e
      rw [if_pos rfl, List.append_assoc, List.getElem?_append_right (by omega), h1, List.getElem?_append_left (by omega)]
      congr 1
      omega
    · rw [if_neg e, List.getElem?_take_of_lt hi, List.getElem?_drop]
      rcases Nat.lt_or_gt_of_ne e with h | h
      · rw [List.append_assoc, List.getElem?_append_left (by omega), List.getElem?_take_of_lt (by omega)]
      · rw [List.getElem?_append_right (by rw [List.length_append]; omega), List.length_append, h1, hl, hd, List.getElem?_drop]
        congr 1
        omega
  · rw [List.getElem?_eq_none (by rw [List.length_take]; omega)]
    split
    · rw [List.getElem?_eq_none (by omega)]
    · rw [List.getElem?_eq_none (by rw [List.length_take]; omega)]
theorem imgS_at (v : Vol) (n i : Nat) (h : i < (imgS v n).length) : (imgS v n)[i] = strOfNums (blk v i) := by simp [imgS]
theorem imgS_put {v : Vol} {b n : Nat} {d : ByteArray} (hv : wfV v) (hd : d.size = 32) (hn : n ≤ 8) (hb : b < n) : imgS (putV v b d) n = (imgS v n).set b d := by
  apply List.ext_getElem (by simp [imgS])
  intro i h1 h2
  have hi : i < n := by simpa [imgS] using h1
  rw [List.getElem_set, imgS_at _ _ _ h1, imgS_at v n i (by simpa [imgS] using hi), blk_put hv hd (by omega)]
  by_cases e : i = b
  · rw [if_pos e, if_pos e.symm, strOfNums_bytesI]
  · rw [if_neg e, if_neg (fun h => e h.symm)]
theorem Sm.begin (h : Sm S R) (hn : S.n ≤ 8) (e : Int) (g : Gd) : Sm (S.begin e g) (R.begin e g) := by
  unfold Mdl.begin Rf.begin
  by_cases hl : ix R.lk e < R.lk.length
  · rw [if_pos hl, if_pos ((h.live_iff e).1 hl)]
    exact h
  · rw [if_neg hl, if_neg (fun q => hl ((h.live_iff e).2 q))]
    refine ⟨h.n, by simp [h.ll], h.li, fun e' => ?_, h.img, h.com⟩
    show lkup (R.lk ++ [e]) (R.lt ++ [_]) e' = Option.map _ (up S.live e ((S.img g).getD zeroV) e')
    rw [lkup_snoc h.ll hl]
    unfold up
    split
    · rw [h.has, h.image]
      unfold Mdl.image
      cases S.img g with
      | none => simp [h.n, imgS_zero (show S.n.toNat ≤ 8 by omega)]
      | some v => simp
    · exact h.live e'
theorem Sm.snap (h : Sm S R) (g : Gd) : Sm (S.snap g) (R.snap g) := by
  unfold Mdl.snap Rf.snap
  cases hl : S.live g.1 with
  | none =>
    rw [if_neg (fun q => by have := (h.live_iff g.1).1 q.1; rw [hl] at this; cases this)]
    exact h
  | some v =>
    have hlt : ix R.lk g.1 < R.lk.length := (h.live_iff g.1).2 (by rw [hl]; rfl)
    cases hi : S.img g with
    | some v' =>
      rw [if_neg (fun q => by have := q.2; rw [h.has, hi] at this; cases this)]
      exact h
    | none =>
      have hh : R.has g = false := by rw [h.has, hi]; rfl
      have hni : ¬ ix R.ik g < R.ik.length := fun q => by
        unfold Rf.has at hh
        rw [decide_eq_true q] at hh
        cases hh
      rw [if_pos ⟨hlt, hh⟩, h.live_get hl]
      refine ⟨h.n, h.ll, by simp [Rf.snapped, h.li], h.live, fun g' => ?_, h.com⟩
      show lkup (R.ik ++ [g]) (R.it ++ [_]) g' = Option.map _ (up S.img g v g')
      rw [lkup_snoc h.li hni]
      unfold up
      split
      · rfl
      · exact h.img g'
theorem Sm.write (h : Sm S R) (hn : S.n ≤ 8) (hw : ∀ e v, S.live e = some v → wfV v) (e b : Int) (d : ByteArray) : Sm (S.write e b d) (R.write e b d) := by
  unfold Mdl.write Rf.write
  by_cases hc : 0 ≤ b ∧ b < S.n ∧ d.size = 32
  · rw [if_pos hc]
    cases hl : S.live e with
    | none =>
      rw [if_neg (fun q => by have := (h.live_iff e).1 q.1; rw [hl] at this; cases this)]
      exact h
    | some v =>
      have hlt : ix R.lk e < R.lk.length := (h.live_iff e).2 (by rw [hl]; rfl)
      rw [if_pos ⟨hlt, hc.1, by rw [h.n]; exact hc.2.1, hc.2.2⟩, h.live_get hl]
      refine ⟨h.n, by simp [h.ll], h.li, fun e' => ?_, h.img, h.com⟩
      show lkup R.lk (R.lt.set _ _) e' = Option.map _ (up S.live e (putV v b.toNat d) e')
      rw [lkup_set 0 h.ll hlt]
      unfold up
      split
      · show _ = some (imgS (putV v b.toNat d) S.n.toNat)
        rw [imgS_put (hw e v hl) hc.2.2 (by omega) (by omega)]
      · exact h.live e'
  · rw [if_neg hc, if_neg (fun q => hc ⟨q.2.1, by rw [← h.n]; exact q.2.2.1, q.2.2.2⟩)]
    exact h
end
/-- the acts of ModelPlays, to the document's model -/
def Rf.act (R : Rf) (x : Ac) : Rf :=
  if x.what = 0 then R.begin x.epoch x.g else if x.what = 1 ∨ x.what = 2 then R.write x.epoch x.block (letS x.letter x.short) else if x.what = 3 then R.snap x.g else if x.what = 4 then R.commit (x.l.take (min x.l.length 40)) else R
theorem Sm.act {S : Mdl} {R : Rf} (h : Sm S R) (hn : S.n ≤ 8) (hw : ∀ e v, S.live e = some v → wfV v) (x : Ac) : Sm (S.act x) (R.act x) := by
  unfold Mdl.act Rf.act
  split
  · exact h.begin hn _ _
  · split
    · exact h.write hn hw _ _ _
    · split
      · exact h.snap _
      · split
        · exact h.commit _
        · exact h
theorem Rf.act_lk (R : Rf) (x : Ac) : (R.act x).lk.length ≤ R.lk.length + 1 ∧ (R.act x).ik.length ≤ R.ik.length + 1 := by
  unfold Rf.act Rf.begin Rf.write Rf.snap Rf.commit Rf.snapped
  repeat' split
  all_goals simp
/-- between two statements of the loop -/
structure PLI (w0 w : World) (bm bl bi q : Nat) (S : Mdl) (R : Rf) : Prop where
  below : Below w0.heap.size w0 w
  md : Md w bm bl bi S
  rm : RM w w0.heap.size q R
  fpge : ∀ b, fp bm bl bi b → w0.heap.size ≤ b
section
variable {w0 w w' : World} {bm bl bi q : Nat} {S S' : Mdl} {R R' : Rf}
theorem PLI.base (h : PLI w0 w bm bl bi q S R) : w0.heap.size ≤ w.heap.size := h.below.size
theorem PLI.keep (h : PLI w0 w bm bl bi q S R) (hb : Below w.heap.size w w') : PLI w0 w' bm bl bi q S R :=
  ⟨h.below.trans (hb.mono h.base), h.md.keep hb, h.rm.keep hb, h.fpge⟩
/-- a type that no block of the model's has -/
theorem Md.lsb_ty (h : Md w bm bl bi S) {g : Nat} (hg : lsb w bm = some g) : ∃ cs, w.heap[g]? = some (.cells cs 34 (0, 0)) := by
  obtain ⟨sl, h1, h2⟩ := h.obj
  have c3 := h1.cell 3
  simp at c3
  unfold lsb at hg
  rw [c3] at hg
  exact own_cells h2.1 hg
theorem RMx.fpk {base : Nat} {sl si sc : Value} {lv iv : List Value} (h : RMx w base q R sl si sc lv iv) (hm : Md w bm bl bi S) (hk : Kp (fp bm bl bi) w w') : RMx w' base q R sl si sc lv iv :=
  h.kp hk (fun b cs t hb hc => by
    have := hm.typed b t cs hb hc
    subst this
    decide) fun g hg => hm.own_far h.rc.1 (by decide) hg
theorem PLI.model (h : PLI w0 w bm bl bi q S R) (hm : Md w' bm bl bi S') (hk : Kp (fp bm bl bi) w w') : PLI w0 w' bm bl bi q S' R := by
  obtain ⟨sl, si, sc, lv, iv, hx⟩ := h.rm
  exact ⟨h.below.trans (hk.below h.fpge h.base), hm, ⟨sl, si, sc, lv, iv, hx.fpk h.md hk⟩, h.fpge⟩
theorem PLI.modelq (h : PLI w0 w bm bl bi q S R) (hm : Md w' bm bl bi S') (hk : Kp (fq bl bi) w w') : PLI w0 w' bm bl bi q S' R := h.model hm (hk.mono fun _ hb => Or.inr hb)
theorem Kr.md {base : Nat} (hk : Kr base w w') (h : Md w bm bl bi S) : Md w' bm bl bi S := by
  refine h.kp hk (fun b hf ha => ?_) (fun g hg ha => ?_)
  · obtain ⟨-, cs, t, h1, h2⟩ := ha
    have := h.typed b t cs hf h1
    subst this
    revert h2
    unfold T4
    decide
  · obtain ⟨-, cs, t, h1, h2⟩ := ha
    obtain ⟨cs', h3⟩ := h.lsb_ty hg
    rw [h1] at h3
    simp only [Option.some.injEq, Obj.cells.injEq] at h3
    have := h3.2.1
    subst this
    revert h2
    unfold T4
    decide
theorem Kr.below {base : Nat} (hk : Kr base w w') (hb : base ≤ w.heap.size) : Below base w w' := Kp.below hk (fun _ ha => ha.1) hb
theorem PLI.ref (h : PLI w0 w bm bl bi q S R) (hr : RM w' w0.heap.size q R') (hk : Kr w0.heap.size w w') : PLI w0 w' bm bl bi q S R' :=
  ⟨h.below.trans (hk.below h.base), hk.md h.md, hr, h.fpge⟩
/-- a block of a type that the document's model turns not -/
theorem Blk.kr {base g : Nat} {t : TypeId} {cs : Array Value} (hb : Blk w g t cs) (hk : Kr base w w') (ht : ¬ T4 t) : Blk w' g t cs := hk.blk hb fun ha => by
  obtain ⟨-, cs', t', h1, h2⟩ := ha
  unfold Blk at hb
  rw [hb] at h1
  simp only [Option.some.injEq, Obj.cells.injEq] at h1
  exact ht (h1.2.1 ▸ h2)
end
end Go.Proofs.Ytfeinafbimpjnaa
