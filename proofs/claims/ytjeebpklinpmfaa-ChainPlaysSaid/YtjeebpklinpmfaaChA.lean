/-
  A CHAIN IN MEMORY: its block, its snapshots; what stays of it.
-/
import Derived.Test.YtjeebpklinpmfaaCmp
import Derived.Test.YtjeebpklinpmfaaTexts
import Derived.Deep.MidRow
import Derived.ArgAppend
namespace Go.Proofs.Ytjeebpklinpmfaa
open Go.RowKit Reg Go.WideShapes Go.ChangeShapes

/-- only the blocks A have turned, of those that were there -/
def Kp (A : Nat → Prop) (w w' : World) : Prop := Below 0 w w' ∧ ∀ b, b < w.heap.size → ¬ A b → w'.heap[b]? = w.heap[b]?
section
variable {A : Nat → Prop} {w w' w'' : World} {B : Nat}
theorem Kp.refl (A : Nat → Prop) (w : World) : Kp A w w := ⟨Below.refl _ _, fun _ _ _ => rfl⟩
theorem Kp.size (h : Kp A w w') : w.heap.size ≤ w'.heap.size := h.1.size
theorem Kp.trans (h : Kp A w w') (h' : Kp A w' w'') : Kp A w w'' := ⟨h.1.trans h'.1, fun b hb hA => (h'.2 b (Nat.lt_of_lt_of_le hb h.size) hA).trans (h.2 b hb hA)⟩
theorem Kp.of_below (h : Below w.heap.size w w') : Kp A w w' := ⟨h.mono (Nat.zero_le _), fun b hb _ => h.block b hb⟩
theorem Kp.below (h : Kp A w w') (hA : ∀ b, A b → B ≤ b) (hB : B ≤ w.heap.size) : Below B w w' :=
  ⟨h.1.os, h.1.tape, h.1.output, h.size, fun b hb => h.2 b (by omega) fun ha => by have := hA b ha; omega⟩
theorem Kp.blk {g : Nat} {t : TypeId} {cs : Array Value} (h : Kp A w w') (hb : Blk w g t cs) (hA : ¬ A g) : Blk w' g t cs := (h.2 g hb.lt hA).trans hb
theorem Kp.mono {A' : Nat → Prop} (h : Kp A w w') (hA : ∀ b, A b → A' b) : Kp A' w w' := ⟨h.1, fun b hb hn => h.2 b hb fun ha => hn (hA b ha)⟩
theorem Kp.of_grown {row : Option Nat} (h : w.grownBy w' row) : Kp (fun b => row = some b) w w' :=
  ⟨⟨h.os, h.tape, h.output, h.size, fun i hi => by omega⟩, fun b hlt hn => h.block b hlt (fun e => hn e.symm)⟩
/-- where nothing that was there turns -/
theorem Kp.to_below (h : Kp A w w') (hA : ∀ b, b < w.heap.size → ¬ A b) : Below w.heap.size w w' := ⟨h.1.os, h.1.tape, h.1.output, h.size, fun b hb => h.2 b hb (hA b hb)⟩
end

/-- a volume: its eight blocks -/
abbrev Vo := List ByteArray
def voL (v : Vo) : List Value := v.map Value.string
def zB : ByteArray := strOf (List.replicate 32 0)
def zeroVo (n : Nat) : Vo := List.replicate n zB ++ List.replicate (8 - n) ByteArray.empty
structure Sn where
  vol : Vo
  g : Gd
  hid : Bool
def snL (s : Sn) : List Value := voL s.vol ++ [.int .u64 s.g.1, .int .u64 s.g.2, .bool s.hid]
def snsL (l : List Sn) : List Value := l.flatMap snL
structure Ch where
  live : Vo
  n : Nat
  snaps : List Sn
def chL (C : Ch) (sl : Value) : List Value := voL C.live ++ [.int .i64 C.n, sl]
def nosn : Sn := ⟨zeroVo 0, (0, 0), false⟩
def wfV (v : Vo) : Prop := v.length = 8 ∧ ∀ s ∈ v, s.size ≤ 32
structure wfS (s : Sn) : Prop where
  vol : wfV s.vol
  g : wfG s.g
theorem zB_size : zB.size = 32 := by decide
theorem zeroVo_wf {n : Nat} (h : n ≤ 8) : wfV (zeroVo n) := by
  refine ⟨by simp [zeroVo]; omega, fun s hs => ?_⟩
  simp only [zeroVo, List.mem_append] at hs
  rcases hs with hs | hs
  · rw [List.eq_of_mem_replicate hs, zB_size]; omega
  · rw [List.eq_of_mem_replicate hs]; exact Nat.zero_le _
theorem nosn_wf : wfS nosn := ⟨zeroVo_wf (by omega), rfl, rfl⟩
theorem voL_length {v : Vo} (h : wfV v) : (voL v).length = 8 := by simp [voL, h.1]
theorem voL_one (v : Vo) : ∀ u ∈ voL v, u.oneCell' = true := texts_one v
theorem snL_length {s : Sn} (h : wfS s) : (snL s).length = 11 := by simp [snL, voL_length h.vol]
theorem snL_one (s : Sn) : ∀ u ∈ snL s, u.oneCell' = true := by
  intro u hu
  simp only [snL, List.mem_append, List.mem_cons, List.not_mem_nil, or_false] at hu
  rcases hu with hu | rfl | rfl | rfl
  · exact voL_one _ u hu
  all_goals rfl
theorem snsL_length {l : List Sn} (h : ∀ s ∈ l, wfS s) : (snsL l).length = l.length * 11 := by
  induction l with
  | nil => rfl
  | cons s l ih =>
    have h1 := snL_length (h s List.mem_cons_self)
    have h2 := ih fun x hx => h x (List.mem_cons_of_mem _ hx)
    simp only [snsL, List.flatMap_cons, List.length_append, List.length_cons] at h2 ⊢
    omega
theorem snsL_append (l m : List Sn) : snsL (l ++ m) = snsL l ++ snsL m := by simp [snsL]
theorem snsL_one (l : List Sn) : ∀ u ∈ snsL l, u.oneCell' = true := by
  intro u hu
  simp only [snsL, List.mem_flatMap] at hu
  obtain ⟨s, _, hu⟩ := hu
  exact snL_one s u hu
theorem snsL_take {l : List Sn} (h : ∀ s ∈ l, wfS s) (m : Nat) : (snsL l).take (m * 11) = snsL (l.take m) := by
  induction l generalizing m with
  | nil => simp [snsL]
  | cons s l ih =>
    cases m with
    | zero => simp [snsL]
    | succ m =>
      have h1 := snL_length (h s List.mem_cons_self)
      have h2 := ih (fun x hx => h x (List.mem_cons_of_mem _ hx)) m
      have e : (m + 1) * 11 = (snL s).length + m * 11 := by omega
      have e1 : ∀ l, snsL (s :: l) = snL s ++ snsL l := fun _ => rfl
      rw [e, List.take_succ_cons, e1, e1, List.take_length_add_append, h2]
theorem snsL_at {l : List Sn} (h : ∀ s ∈ l, wfS s) : ∀ (j : Nat), j < l.length → ∀ i u, (snL (l.getD j nosn))[i]? = some u → (snsL l)[j * 11 + i]? = some u := by
  induction l with
  | nil => intro j hj; simp at hj
  | cons s l ih =>
    intro j hj i u hu
    have h1 := snL_length (h s List.mem_cons_self)
    have e1 : snsL (s :: l) = snL s ++ snsL l := rfl
    rw [e1]
    cases j with
    | zero =>
      have hi : i < (snL s).length := (List.getElem?_eq_some_iff.1 hu).1
      rw [Nat.zero_mul, Nat.zero_add, List.getElem?_append_left hi]
      exact hu
    | succ j =>
      rw [List.getElem?_append_right (by omega)]
      have := ih (fun x hx => h x (List.mem_cons_of_mem _ hx)) j (by simpa using hj) i u hu
      rw [← this]
      congr 1
      omega
theorem wf_getD {l : List Sn} (h : ∀ s ∈ l, wfS s) (j : Nat) : wfS (l.getD j nosn) := by
  rcases Nat.lt_or_ge j l.length with q | q
  · simp [q]; exact h _ (List.getElem_mem q)
  · rw [show l.getD j nosn = nosn from by simp [List.getElem?_eq_none q]]; exact nosn_wf
theorem chL_length {C : Ch} (h : wfV C.live) (sl : Value) : (chL C sl).length = 10 := by simp [chL, voL_length h]

/-- v holds the snapshots xs: as many as there is room for, or in a row of their own -/
def OwS (w : World) (v : Value) (xs : List Sn) : Prop :=
  (∀ s ∈ xs, wfS s) ∧ xs.length ≤ 20 ∧ ((v = .slice none 0 0 ∧ xs = []) ∨ ∃ g cap cur, v = .slice (some ⟨g, 0, none⟩) xs.length cap ∧ Blk w g 74 cur ∧ xs.length ≤ cap ∧ cap ≤ maxLen ∧
    xs.length * 11 ≤ cur.size ∧ cur.toList.take (xs.length * 11) = snsL xs ∧ (cap = xs.length ∨ cur.size = cap * 11))
theorem snap_info : (Try.prog.info? 74).map (fun i => (i.zero, i.size, i.bytes)) = some (some (.agg (snL ⟨List.replicate 8 ByteArray.empty, (0, 0), false⟩).toArray), 11, 152) := by kernel_rfl
section
variable {w w' : World} {v v' : Value} {xs : List Sn}
theorem OwS.lt (h : OwS w v xs) {b : Nat} (hb : v.ownBlock = some b) : b < w.heap.size := by
  rcases h.2.2 with ⟨rfl, _⟩ | ⟨g, cap, cur, rfl, hk, _⟩
  · cases hb
  · obtain rfl : g = b := by simpa [Value.ownBlock] using hb
    exact hk.lt
theorem OwS.blk (h : OwS w v xs) {b : Nat} (hb : v.ownBlock = some b) : ∃ cs, Blk w b 74 cs := by
  rcases h.2.2 with ⟨rfl, _⟩ | ⟨g, cap, cur, rfl, hk, _⟩
  · cases hb
  · obtain rfl : g = b := by simpa [Value.ownBlock] using hb
    exact ⟨_, hk⟩
theorem OwS.kp {A : Nat → Prop} (h : OwS w v xs) (hk : Kp A w w') (hA : ∀ b, v.ownBlock = some b → ¬ A b) : OwS w' v xs := by
  refine ⟨h.1, h.2.1, ?_⟩
  rcases h.2.2 with h2 | ⟨g, cap, cur, rfl, hb, rest⟩
  · exact .inl h2
  · exact .inr ⟨g, cap, cur, rfl, hk.blk hb (hA g rfl), rest⟩
theorem OwS.keep (h : OwS w v xs) (hb : Below w.heap.size w w') : OwS w' v xs := h.kp (A := fun _ => False) (Kp.of_below hb) (fun _ _ h => h)
theorem OwS.nil_ (w : World) : OwS w (.slice none 0 0) [] := ⟨by simp, by simp, .inl ⟨rfl, rfl⟩⟩
/-- its address and room, and its cells -/
theorem OwS.open_ (h : OwS w v xs) : ∃ a c, v = .slice a xs.length c ∧ xs.length ≤ c ∧ c ≤ maxLen ∧ ∀ j, j < xs.length → ∃ g, a = some ⟨g, 0, none⟩ ∧ v.ownBlock = some g ∧ w.rangeAt g (j * 11) (snL (xs.getD j nosn)) := by
  rcases h.2.2 with ⟨rfl, rfl⟩ | ⟨g, cap, cur, rfl, hb, hc, hm, hs, ht, _⟩
  · exact ⟨none, 0, rfl, Nat.le_refl _, Nat.zero_le _, fun j hj => by simp at hj⟩
  · refine ⟨_, cap, rfl, hc, hm, fun j hj => ⟨g, rfl, rfl, fun i u hu => ?_⟩⟩
    have h1 := snsL_at h.1 j hj i u hu
    rw [← ht, List.getElem?_take] at h1
    split at h1
    · rw [hb.cell, ← h1]
      simp
    · cases h1
theorem OwS.of_own {base : Nat} (h : w.ownsRow base 74 11 v xs.length (snsL xs)) (h1 : ∀ s ∈ xs, wfS s) (h2 : xs.length ≤ 20) : OwS w v xs := by
  refine ⟨h1, h2, ?_⟩
  rcases h.2 with ⟨rfl, h0⟩ | ⟨g, cap, cur, rfl, _, hh, hn, hm, hcs, hx⟩
  · exact .inl ⟨rfl, List.length_eq_zero_iff.1 h0⟩
  · refine .inr ⟨g, cap, cur, rfl, hh, hn, hm, ?_, hx, .inr hcs⟩
    rw [hcs]
    exact Nat.mul_le_mul_right _ hn
/-- what an append leaves -/
def AppS (w : World) (v : Value) (xs : List Sn) (v' : Value) (w' : World) : Prop := OwS w' v' xs ∧ w.grownBy w' v.ownBlock ∧ (∀ b, v'.ownBlock = some b → v.ownBlock = some b ∨ w.heap.size ≤ b)
theorem app_snap {u : Value} {s : Sn} (ty : TypeId) (ho : OwS w v xs) (hu : ∃ g c, u = .slice (some ⟨g, 0, none⟩) 1 c ∧ w.rangeAt g 0 (snL s)) (hs : wfS s) (hn : xs.length < 20) :
    ∃ v' w', (Builtin.append_ #[70, 70] ty #[v, u]).run Try.prog w = .ok v' w' ∧ AppS w v (xs ++ [s]) v' w' := by
  obtain ⟨i, hi, hz0, hz1, hz2⟩ := info_parts snap_info
  obtain ⟨g0, c0, rfl, hr⟩ := hu
  have hl := snL_length hs
  have e1 : snsL [s] = snL s := by simp [snsL]
  have hwf : ∀ z ∈ xs ++ [s], wfS z := fun z hz => by
    rcases List.mem_append.1 hz with hz | hz
    · exact ho.1 z hz
    · rw [List.mem_singleton] at hz
      rw [hz]
      exact hs
  have hr' : ∀ j u, (snL s)[j]? = some u → w.cell? ((⟨g0, 0, none⟩ : Addr).add j) = some u := fun j u h => by
    rw [addr_add]
    exact hr j u h
  have hlen : (xs ++ [s]).length ≤ 20 := by simp; omega
  rcases ho.2.2 with ⟨rfl, rfl⟩ | ⟨g, cap, cur, rfl, hb, hc, hm, hsz, ht, hor⟩
  · obtain ⟨v', w', h1, h2, h3, _, h5⟩ := run_append_own_at (P := Try.prog) w 0 70 ty 74 i _ 11 152 Try.underlying70 hi hz0 hz1 hz2 rfl (by decide) (.slice none 0 0) 0 [] (World.ownsRow_nil _ _ _ _) ⟨g0, 0, none⟩ 1 c0 (snL s) hl hr' (snL_one s) (by unfold maxLen; omega) (by omega) (Nat.zero_le _)
    refine ⟨v', w', h1, ⟨OwS.of_own (base := 0) (by simpa [e1] using h2) hwf hlen, h3, fun b hb => ?_⟩⟩
    rcases h5 with h5 | h5
    · rw [h5] at hb; exact .inl hb
    · rw [h5] at hb; exact .inr (Nat.le_of_eq (Option.some.inj hb))
  · by_cases hcap : cap = xs.length
    · subst hcap
      have hold : ∀ j u, (snsL xs)[j]? = some u → w.cell? ((⟨g, 0, none⟩ : Addr).add j) = some u := fun j u h => by
        rw [← ht, List.getElem?_take] at h
        split at h
        · rw [addr_add, hb.cell, ← h]
          simp
        · cases h
      obtain ⟨v', w', h1, h2, h3⟩ := run_append_arg_grows (P := Try.prog) w 70 ty 74 i _ 11 152 Try.underlying70 hi hz0 hz1 hz2 rfl (by decide) ⟨g, 0, none⟩ xs.length xs.length (snsL xs) (snsL_length ho.1) hold ⟨g0, 0, none⟩ 1 c0 (snL s) hl hr' (by omega) (by unfold maxLen; omega) (by omega)
      refine ⟨v', w', h1, ⟨OwS.of_own (base := w.heap.size) (by rw [snsL_append, e1, List.length_append]; exact h2) hwf hlen, ⟨h3.os, h3.tape, h3.output, h3.size, fun k hk _ => h3.block k hk (by simp)⟩, fun b hb => .inr ?_⟩⟩
      exact (h2.lt b hb).1
    · have hcs : cur.size = cap * 11 := hor.resolve_left hcap
      have hown : w.ownsRow 0 74 11 (.slice (some ⟨g, 0, none⟩) xs.length cap) xs.length (snsL xs) := ⟨snsL_length ho.1, .inr ⟨g, cap, cur, rfl, Nat.zero_le _, hb, hc, hm, hcs, ht⟩⟩
      obtain ⟨v', w', h1, h2, h3, _, h5⟩ := run_append_own_at (P := Try.prog) w 0 70 ty 74 i _ 11 152 Try.underlying70 hi hz0 hz1 hz2 rfl (by decide) _ _ _ hown ⟨g0, 0, none⟩ 1 c0 (snL s) hl hr' (snL_one s) (by unfold maxLen; omega) (by omega) (Nat.zero_le _)
      refine ⟨v', w', h1, ⟨OwS.of_own (base := 0) (by rw [snsL_append, e1, List.length_append]; exact h2) hwf hlen, h3, fun b hb => ?_⟩⟩
      rcases h5 with h5 | h5
      · rw [h5] at hb; exact .inl hb
      · rw [h5] at hb; exact .inr (Nat.le_of_eq (Option.some.inj hb))
end
/-- block bc holds the chain C, its list of snapshots is the value sl -/
structure Cm (w : World) (bc : Nat) (sl : Value) (C : Ch) : Prop where
  obj : Blk w bc 72 (chL C sl).toArray
  snaps : OwS w sl C.snaps
  n : 1 ≤ C.n ∧ C.n ≤ 8
  live : wfV C.live
/-- the blocks of a chain -/
def fpC (bc : Nat) (sl : Value) (b : Nat) : Prop := b = bc ∨ sl.ownBlock = some b
/-- the list's block behind a step -/
def Fr (w : World) (sl sl' : Value) : Prop := ∀ b, sl'.ownBlock = some b → sl.ownBlock = some b ∨ w.heap.size ≤ b
section
variable {w w' : World} {bc : Nat} {sl : Value} {C : Ch}
theorem Cm.kp {A : Nat → Prop} (h : Cm w bc sl C) (hk : Kp A w w') (h1 : ¬ A bc) (h2 : ∀ b, sl.ownBlock = some b → ¬ A b) : Cm w' bc sl C := ⟨hk.blk h.obj h1, h.snaps.kp hk h2, h.n, h.live⟩
theorem Cm.keep (h : Cm w bc sl C) (hb : Below w.heap.size w w') : Cm w' bc sl C := h.kp (A := fun _ => False) (Kp.of_below hb) (fun h => h) (fun _ _ h => h)
theorem Cm.c8 (h : Cm w bc sl C) : w.cell? ⟨bc, 8, none⟩ = some (.int .i64 C.n) := by
  rw [h.obj.cell]
  simp [chL, voL_length h.live]
theorem Cm.c9 (h : Cm w bc sl C) : w.cell? ⟨bc, 9, none⟩ = some sl := by
  rw [h.obj.cell]
  simp [chL, voL_length h.live]
theorem Cm.rng (h : Cm w bc sl C) : w.rangeAt bc 0 (voL C.live) := fun j u hu => by
  have hj := (List.getElem?_eq_some_iff.1 hu).1
  rw [h.obj.cell]
  simp [chL, List.getElem?_append_left hj, hu]
theorem Cm.ne_own (h : Cm w bc sl C) {b : Nat} (hb : sl.ownBlock = some b) : b ≠ bc := by
  rintro rfl
  obtain ⟨cs, h1⟩ := h.snaps.blk hb
  have h2 := h.obj
  unfold Blk at h1 h2
  rw [h1] at h2
  simp only [Option.some.injEq, Obj.cells.injEq] at h2
  exact absurd h2.2.1 (by decide)
end
theorem vol_size : (Try.prog.info? 68).map (·.size) = some 8 := by kernel_rfl
theorem chain_size : (Try.prog.info? 72).map (·.size) = some 10 := by kernel_rfl
theorem snap_size : (Try.prog.info? 74).map (·.size) = some 11 := by kernel_rfl
end Go.Proofs.Ytjeebpklinpmfaa
