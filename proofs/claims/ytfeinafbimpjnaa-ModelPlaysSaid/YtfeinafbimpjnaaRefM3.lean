/-
  THE DOCUMENT'S MODEL: what its methods turn of memory; Commit, Write.
-/
import Derived.Test.YtfeinafbimpjnaaRefM2
namespace Go.Proofs.Ytfeinafbimpjnaa
open Go.RowKit Reg Go.WideShapes Go.ChangeShapes

/-- the types of the blocks that the methods turn -/
def T4 (t : TypeId) : Prop := t = 31 ∨ t = 68 ∨ t = 71 ∨ t = 9
def A4 (base : Nat) (w : World) (b : Nat) : Prop := base ≤ b ∧ ∃ cs t, w.heap[b]? = some (.cells cs t (0, 0)) ∧ T4 t
/-- only such blocks, from 'base' on, have turned -/
def Kr (base : Nat) (w w' : World) : Prop := Kp (A4 base w) w w'
section
variable {A : Nat → Prop} {base q g i m n : Nat} {w w' w'' : World} {t t' : TypeId} {v u : Value} {xs : List Value} {cs : Array Value}
theorem Kr.of_below (h : Below w.heap.size w w') : Kr base w w' := Kp.of_below h
theorem Kr.trans (h : Kr base w w') (h' : Kr base w' w'') : Kr base w w'' := by
  refine ⟨h.1.trans h'.1, fun b hb hA => ?_⟩
  have e1 := h.2 b hb hA
  refine (h'.2 b (Nat.lt_of_lt_of_le hb h.size) fun ha => hA ?_).trans e1
  obtain ⟨h1, cs, t, h2, h3⟩ := ha
  exact ⟨h1, cs, t, e1 ▸ h2, h3⟩
theorem own_ne (ho : w.ownsRow base t m v n xs) (hb : Blk w q t' cs) (he : t ≠ t') (hg : v.ownBlock = some g) : g ≠ q := by
  rintro rfl
  obtain ⟨cs', h1⟩ := own_cells ho hg
  unfold Blk at hb
  rw [h1] at hb
  simp only [Option.some.injEq, Obj.cells.injEq] at hb
  exact he hb.2.1
theorem setCell_other (a : Addr) (u : Value) (b : Nat) (h : b ≠ a.block) : (w.setCell a u).heap[b]? = w.heap[b]? := by
  simp only [World.setCell, Array.getElem?_modify]
  rw [if_neg (fun e => h e.symm)]
theorem Kp.cell (w : World) (q i : Nat) (u : Value) : Kp (· = q) w (w.setCell ⟨q, i, none⟩ u) :=
  ⟨(Below.refl 0 w).setCell (Nat.zero_le _) _, fun b _ hn => setCell_other _ _ b hn⟩
/-- a row grown, then a cell set -/
theorem Kp.grown_set {row : Option Nat} (hg : w.grownBy w' row) (hb : base ≤ w.heap.size) (hr : ∀ k, row = some k → base ≤ k) (q i : Nat) (u : Value) : Kp (fun b => row = some b ∨ b = q) w (w'.setCell ⟨q, i, none⟩ u) :=
  ((Kp.of_grown hg hr hb).mono fun _ h => Or.inl h).trans ((Kp.cell w' q i u).mono fun _ h => Or.inr h)
theorem Kr.of_kp (h : Kp A w w') (hA : ∀ b, b < w.heap.size → A b → A4 base w b) : Kr base w w' := ⟨h.1, fun b hb hn => h.2 b hb fun ha => hn (hA b hb ha)⟩
theorem A4.own (ho : w.ownsRow base t m v n xs) (ht : T4 t) (hg : v.ownBlock = some g) : A4 base w g := by
  obtain ⟨cs, hc⟩ := own_cells ho hg
  exact ⟨own_block ho g hg, cs, t, hc, ht⟩
end
section
variable {w w' : World} {base q : Nat} {R : Rf} {sl si sc : Value} {lv iv : List Value}
theorem RMx.q4 (h : RMx w base q R sl si sc lv iv) : A4 base w q := ⟨h.qb, _, _, h.obj, .inl rfl⟩
/-- one more live -/
theorem RMx.addL (h : RMx w base q R sl si sc lv iv) (hb : base ≤ w.heap.size) {e : Int} {u sl' : Value} {zs : Txs} (hu : OwT w base u zs) (hz : zs.length = R.n.toNat)
    (hfar : ∀ g, u.ownBlock = some g → (∀ j, j < R.lk.length → (lv.getD j nilV).ownBlock ≠ some g) ∧ ∀ j, j < R.ik.length → (iv.getD j nilV).ownBlock ≠ some g)
    (ha : w'.ownsRow base 68 2 sl' (R.lk.length + 1) (cellsL R.lk lv ++ [.int .u64 e, u])) (hg : w.grownBy w' sl.ownBlock) :
    RMx (w'.setCell ⟨q, 1, none⟩ sl') base q { R with lk := R.lk ++ [e], lt := R.lt ++ [zs] } sl' si sc (lv ++ [u]) iv ∧ Kr base w (w'.setCell ⟨q, 1, none⟩ sl') := by
  have hk := Kp.grown_set hg hb (own_block h.rl) q 1 sl'
  have hq : w'.heap[q]? = w.heap[q]? := (Kp.of_grown hg (own_block h.rl) hb).2 q h.obj.lt fun e => own_ne h.rl h.obj (by decide) e rfl
  have ow : ∀ {b m n : Nat} {t : TypeId} {v : Value} {xs : List Value}, t ≠ 68 → t ≠ 31 → w.ownsRow b t m v n xs → (w'.setCell ⟨q, 1, none⟩ sl').ownsRow b t m v n xs := fun h1 h2 ho =>
    own_kp hk ho fun g hg => by
      rintro (e | e)
      · exact own_apart ho h.rl h1 hg e
      · exact own_ne ho h.obj h2 hg e
  have hobj : Blk (w'.setCell ⟨q, 1, none⟩ sl') q 31 #[.int .i64 R.n, sl', si, sc] := (show Blk w' q _ _ from hq.trans h.obj).set 1 sl'
  have hrow := own_kp (Kp.cell w' q 1 sl') ha fun g hg e => own_ne ha (show Blk w' q _ _ from hq.trans h.obj) (by decide) hg e
  have l1 : (R.lk ++ [e]).length = R.lk.length + 1 := by simp
  have gold : ∀ j, j < R.lk.length → (lv ++ [u]).getD j nilV = lv.getD j nilV ∧ (R.lt ++ [zs]).getD j [] = R.lt.getD j [] := fun j hj => by
    have h1 : j < lv.length := by rw [h.ll.1]; exact hj
    have h2 : j < R.lt.length := by rw [h.ll.2]; exact hj
    constructor
    · simp [List.getElem?_append_left h1]
    · simp [List.getElem?_append_left h2]
  have gnew : (lv ++ [u]).getD R.lk.length nilV = u ∧ (R.lt ++ [zs]).getD R.lk.length [] = zs := by
    constructor
    · rw [← h.ll.1]; simp
    · rw [← h.ll.2]; simp
  refine ⟨⟨h.n, h.qb, hobj, ?_, ow (by decide) (by decide) h.ri, ⟨ow (by decide) (by decide) h.rc.1, h.rc.2⟩, ⟨by simp [h.ll.1], by simp [h.ll.2]⟩, h.li, ?_, ?_, ?_, ?_⟩, ?_⟩
  · show World.ownsRow _ base _ 2 sl' (R.lk ++ [e]).length (cellsL (R.lk ++ [e]) (lv ++ [u]))
    rw [l1, cellsL_snoc _ _ _ _ h.ll.1]
    exact hrow
  · intro j hj
    simp only [l1] at hj
    rcases Nat.lt_succ_iff_lt_or_eq.1 hj with hj | rfl
    · simp only [(gold j hj).1, (gold j hj).2]
      exact ⟨⟨ow (by decide) (by decide) (h.el j hj).1.1, (h.el j hj).1.2⟩, (h.el j hj).2⟩
    · simp only [gnew.1, gnew.2]
      exact ⟨⟨ow (by decide) (by decide) hu.1, hu.2⟩, hz⟩
  · intro j hj
    exact ⟨⟨ow (by decide) (by decide) (h.ei j hj).1.1, (h.ei j hj).1.2⟩, (h.ei j hj).2⟩
  · intro j k g hj hk hjk hgj
    simp only [l1] at hj hk
    rcases Nat.lt_succ_iff_lt_or_eq.1 hj with hj | rfl
    · rw [(gold j hj).1] at hgj
      rcases Nat.lt_succ_iff_lt_or_eq.1 hk with hk | rfl
      · rw [(gold k hk).1]
        exact h.dl j k g hj hk hjk hgj
      · rw [gnew.1]
        exact fun e => (hfar g e).1 j hj hgj
    · rw [gnew.1] at hgj
      rcases Nat.lt_succ_iff_lt_or_eq.1 hk with hk | rfl
      · rw [(gold k hk).1]
        exact (hfar g hgj).1 k hk
      · omega
  · intro j k g hj hk hgj
    simp only [l1] at hj
    rcases Nat.lt_succ_iff_lt_or_eq.1 hj with hj | rfl
    · rw [(gold j hj).1] at hgj
      exact h.di j k g hj hk hgj
    · rw [gnew.1] at hgj
      exact (hfar g hgj).2 k hk
  · refine Kr.of_kp hk ?_
    rintro b _ (e | rfl)
    · exact A4.own h.rl (.inr (.inl rfl)) e
    · exact h.q4
/-- one more image -/
theorem RMx.addI (h : RMx w base q R sl si sc lv iv) (hb : base ≤ w.heap.size) {e : Gd} {u si' : Value} {zs : Txs} (hu : OwT w base u zs) (hz : zs.length = R.n.toNat)
    (hfar : ∀ g, u.ownBlock = some g → (∀ j, j < R.lk.length → (lv.getD j nilV).ownBlock ≠ some g))
    (ha : w'.ownsRow base 71 3 si' (R.ik.length + 1) (cellsI R.ik iv ++ [.int .u64 e.1, .int .u64 e.2, u])) (hg : w.grownBy w' si.ownBlock) :
    RMx (w'.setCell ⟨q, 2, none⟩ si') base q { R with ik := R.ik ++ [e], it := R.it ++ [zs] } sl si' sc lv (iv ++ [u]) ∧ Kr base w (w'.setCell ⟨q, 2, none⟩ si') := by
  have hk := Kp.grown_set hg hb (own_block h.ri) q 2 si'
  have hq : w'.heap[q]? = w.heap[q]? := (Kp.of_grown hg (own_block h.ri) hb).2 q h.obj.lt fun e => own_ne h.ri h.obj (by decide) e rfl
  have ow : ∀ {b m n : Nat} {t : TypeId} {v : Value} {xs : List Value}, t ≠ 71 → t ≠ 31 → w.ownsRow b t m v n xs → (w'.setCell ⟨q, 2, none⟩ si').ownsRow b t m v n xs := fun h1 h2 ho =>
    own_kp hk ho fun g hg => by
      rintro (e | e)
      · exact own_apart ho h.ri h1 hg e
      · exact own_ne ho h.obj h2 hg e
  have hobj : Blk (w'.setCell ⟨q, 2, none⟩ si') q 31 #[.int .i64 R.n, sl, si', sc] := (show Blk w' q _ _ from hq.trans h.obj).set 2 si'
  have hrow := own_kp (Kp.cell w' q 2 si') ha fun g hg e => own_ne ha (show Blk w' q _ _ from hq.trans h.obj) (by decide) hg e
  have l1 : (R.ik ++ [e]).length = R.ik.length + 1 := by simp
  have gold : ∀ j, j < R.ik.length → (iv ++ [u]).getD j nilV = iv.getD j nilV ∧ (R.it ++ [zs]).getD j [] = R.it.getD j [] := fun j hj => by
    have h1 : j < iv.length := by rw [h.li.1]; exact hj
    have h2 : j < R.it.length := by rw [h.li.2]; exact hj
    constructor
    · simp [List.getElem?_append_left h1]
    · simp [List.getElem?_append_left h2]
  have gnew : (iv ++ [u]).getD R.ik.length nilV = u ∧ (R.it ++ [zs]).getD R.ik.length [] = zs := by
    constructor
    · rw [← h.li.1]; simp
    · rw [← h.li.2]; simp
  refine ⟨⟨h.n, h.qb, hobj, ow (by decide) (by decide) h.rl, ?_, ⟨ow (by decide) (by decide) h.rc.1, h.rc.2⟩, h.ll, ⟨by simp [h.li.1], by simp [h.li.2]⟩, ?_, ?_, h.dl, ?_⟩, ?_⟩
  · show World.ownsRow _ base _ 3 si' (R.ik ++ [e]).length (cellsI (R.ik ++ [e]) (iv ++ [u]))
    rw [l1, cellsI_snoc _ _ _ _ h.li.1]
    exact hrow
  · intro j hj
    exact ⟨⟨ow (by decide) (by decide) (h.el j hj).1.1, (h.el j hj).1.2⟩, (h.el j hj).2⟩
  · intro j hj
    simp only [l1] at hj
    rcases Nat.lt_succ_iff_lt_or_eq.1 hj with hj | rfl
    · simp only [(gold j hj).1, (gold j hj).2]
      exact ⟨⟨ow (by decide) (by decide) (h.ei j hj).1.1, (h.ei j hj).1.2⟩, (h.ei j hj).2⟩
    · simp only [gnew.1, gnew.2]
      exact ⟨⟨ow (by decide) (by decide) hu.1, hu.2⟩, hz⟩
  · intro j k g hj hk hgj
    simp only [l1] at hk
    rcases Nat.lt_succ_iff_lt_or_eq.1 hk with hk | rfl
    · rw [(gold k hk).1]
      exact h.di j k g hj hk hgj
    · rw [gnew.1]
      exact fun e => hfar g e j hj hgj
  · refine Kr.of_kp hk ?_
    rintro b _ (e | rfl)
    · exact A4.own h.ri (.inr (.inr (.inl rfl))) e
    · exact h.q4
/-- the list of what is committed, another one -/
theorem RMx.com (h : RMx w base q R sl si sc lv iv) {sc' : Value} {l : List Gd} (hc : OwG w base sc' l) : RMx (w.setCell ⟨q, 3, none⟩ sc') base q { R with com := l } sl si sc' lv iv ∧ Kr base w (w.setCell ⟨q, 3, none⟩ sc') := by
  have hk := Kp.cell w q 3 sc'
  have ow : ∀ {b m n : Nat} {t : TypeId} {v : Value} {xs : List Value}, t ≠ 31 → w.ownsRow b t m v n xs → (w.setCell ⟨q, 3, none⟩ sc').ownsRow b t m v n xs := fun h2 ho =>
    own_kp hk ho fun g hg e => own_ne ho h.obj h2 hg e
  refine ⟨⟨h.n, h.qb, h.obj.set 3 sc', ow (by decide) h.rl, ow (by decide) h.ri, ⟨ow (by decide) hc.1, hc.2⟩, h.ll, h.li, fun j hj => ⟨⟨ow (by decide) (h.el j hj).1.1, (h.el j hj).1.2⟩, (h.el j hj).2⟩, fun j hj => ⟨⟨ow (by decide) (h.ei j hj).1.1, (h.ei j hj).1.2⟩, (h.ei j hj).2⟩, h.dl, h.di⟩, ?_⟩
  refine Kr.of_kp hk ?_
  rintro b _ rfl
  exact h.q4
/-- a block of a live, another one -/
theorem RMx.put (h : RMx w base q R sl si sc lv iv) {i b g c l : Nat} (hi : i < R.lk.length) (hv : lv.getD i nilV = .slice (some ⟨g, 0, none⟩) l c) {d : ByteArray} (hd : d.size ≤ maxLen) :
    RMx (w.setCell ⟨g, b, none⟩ (.string d)) base q { R with lt := R.lt.set i ((R.lt.getD i []).set b d) } sl si sc lv iv ∧ Kr base w (w.setCell ⟨g, b, none⟩ (.string d)) := by
  have hk := Kp.cell w g b (.string d)
  have hoi := (h.el i hi).1
  rw [hv] at hoi
  have hgo : (Value.slice (some ⟨g, 0, none⟩) l c).ownBlock = some g := rfl
  have hset := hoi.set b d hd
  have ow : ∀ {b' m n : Nat} {t : TypeId} {v : Value} {xs : List Value}, w.ownsRow b' t m v n xs → v.ownBlock ≠ some g → (w.setCell ⟨g, b, none⟩ (.string d)).ownsRow b' t m v n xs := fun ho h2 =>
    own_kp hk ho fun g' hg e => h2 (by rw [hg, e])
  have ap : ∀ {b' m n : Nat} {t : TypeId} {v : Value} {xs : List Value}, w.ownsRow b' t m v n xs → t ≠ 9 → v.ownBlock ≠ some g := fun ho he e => own_apart ho hoi.1 he e hgo
  have hl : i < R.lt.length := by rw [h.ll.2]; exact hi
  refine ⟨⟨h.n, h.qb, hk.blk h.obj fun e => own_ne hoi.1 h.obj (by decide) hgo e.symm, ow h.rl (ap h.rl (by decide)), ow h.ri (ap h.ri (by decide)), ⟨ow h.rc.1 (ap h.rc.1 (by decide)), h.rc.2⟩, ⟨h.ll.1, by simp [h.ll.2]⟩, h.li, fun j hj => ?_, fun j hj => ⟨⟨ow (h.ei j hj).1.1 (h.di i j g hi hj (by rw [hv]; rfl)), (h.ei j hj).1.2⟩, (h.ei j hj).2⟩, h.dl, h.di⟩, ?_⟩
  · by_cases e : j = i
    · subst e
      have e1 : (R.lt.set j ((R.lt.getD j []).set b d)).getD j [] = (R.lt.getD j []).set b d := by simp [hl]
      simp only [e1]
      rw [hv]
      exact ⟨hset, by rw [List.length_set]; exact (h.el j hj).2⟩
    · have e1 : (R.lt.set i ((R.lt.getD i []).set b d)).getD j [] = R.lt.getD j [] := by simp [List.getElem?_set_ne (fun q => e q.symm)]
      simp only [e1]
      exact ⟨⟨ow (h.el j hj).1.1 (h.dl i j g hi hj (fun q => e q.symm) (by rw [hv]; rfl)), (h.el j hj).1.2⟩, (h.el j hj).2⟩
  · refine Kr.of_kp hk ?_
    rintro b' _ rfl
    exact A4.own hoi.1 (.inr (.inr (.inr rfl))) hgo
end
end Go.Proofs.Ytfeinafbimpjnaa
