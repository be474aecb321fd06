/-
  THE DOCUMENT'S MODEL (lists alone) IN MEMORY; what is read of it.
-/
import Derived.Test.YtfeinafbimpjnaaModelStaysP
namespace Go.Proofs.Ytfeinafbimpjnaa
open Go.RowKit Reg Go.WideShapes Go.ChangeShapes

abbrev Txs := List ByteArray
structure Rf where
  n : Int
  lk : List Int
  lt : List Txs
  ik : List Gd
  it : List Txs
  com : List Gd
def nilV : Value := .slice none 0 0
def cellsL : List Int → List Value → List Value
  | e :: es, v :: vs => .int .u64 e :: v :: cellsL es vs
  | _, _ => []
def cellsI : List Gd → List Value → List Value
  | g :: gs, v :: vs => .int .u64 g.1 :: .int .u64 g.2 :: v :: cellsI gs vs
  | _, _ => []
theorem cellsL_length : ∀ (es : List Int) (vs : List Value), vs.length = es.length → (cellsL es vs).length = es.length * 2
  | [], _, _ => rfl
  | e :: es, v :: vs, h => by
    have := cellsL_length es vs (by simpa using h)
    simp only [cellsL, List.length_cons, this]
    omega
theorem cellsI_length : ∀ (es : List Gd) (vs : List Value), vs.length = es.length → (cellsI es vs).length = es.length * 3
  | [], _, _ => rfl
  | e :: es, v :: vs, h => by
    have := cellsI_length es vs (by simpa using h)
    simp only [cellsI, List.length_cons, this]
    omega
theorem cellsL_at : ∀ (es : List Int) (vs : List Value), vs.length = es.length → ∀ j, j < es.length → (cellsL es vs)[j * 2]? = some (.int .u64 (es.getD j 0)) ∧ (cellsL es vs)[j * 2 + 1]? = some (vs.getD j nilV)
  | e :: es, v :: vs, h, j, hj => by
    cases j with
    | zero => exact ⟨rfl, rfl⟩
    | succ j =>
      have := cellsL_at es vs (by simpa using h) j (by simpa using hj)
      rw [show (j + 1) * 2 = j * 2 + 1 + 1 by omega]
      simpa [cellsL] using this
theorem cellsI_at : ∀ (es : List Gd) (vs : List Value), vs.length = es.length → ∀ j, j < es.length →
    (cellsI es vs)[j * 3]? = some (.int .u64 (es.getD j (0, 0)).1) ∧ (cellsI es vs)[j * 3 + 1]? = some (.int .u64 (es.getD j (0, 0)).2) ∧ (cellsI es vs)[j * 3 + 2]? = some (vs.getD j nilV)
  | e :: es, v :: vs, h, j, hj => by
    cases j with
    | zero => exact ⟨rfl, rfl, rfl⟩
    | succ j =>
      have := cellsI_at es vs (by simpa using h) j (by simpa using hj)
      rw [show (j + 1) * 3 = j * 3 + 1 + 1 + 1 by omega]
      simpa [cellsI] using this
theorem cellsL_snoc : ∀ (es : List Int) (vs : List Value) (e : Int) (v : Value), vs.length = es.length → cellsL (es ++ [e]) (vs ++ [v]) = cellsL es vs ++ [.int .u64 e, v]
  | [], [], e, v, _ => rfl
  | [], _ :: _, _, _, h => by simp at h
  | _ :: _, [], _, _, h => by simp at h
  | e' :: es, v' :: vs, e, v, h => by
    have := cellsL_snoc es vs e v (by simpa using h)
    simp only [List.cons_append, cellsL, this]
theorem cellsI_snoc : ∀ (es : List Gd) (vs : List Value) (e : Gd) (v : Value), vs.length = es.length → cellsI (es ++ [e]) (vs ++ [v]) = cellsI es vs ++ [.int .u64 e.1, .int .u64 e.2, v]
  | [], [], e, v, _ => rfl
  | [], _ :: _, _, _, h => by simp at h
  | _ :: _, [], _, _, h => by simp at h
  | e' :: es, v' :: vs, e, v, h => by
    have := cellsI_snoc es vs e v (by simpa using h)
    simp only [List.cons_append, cellsI, this]
/-- the place of the first that is a; the length, if none is -/
def ix {α : Type} [DecidableEq α] : List α → α → Nat
  | [], _ => 0
  | x :: xs, a => if x = a then 0 else ix xs a + 1
section
variable {α : Type} [DecidableEq α]
theorem ix_le : ∀ (l : List α) (a : α), ix l a ≤ l.length
  | [], _ => Nat.le_refl _
  | x :: xs, a => by
    have := ix_le xs a
    unfold ix
    split <;> simp <;> omega
theorem ix_ne : ∀ (l : List α) (a d : α) (j : Nat), j < ix l a → l.getD j d ≠ a
  | [], _, _, _, h => by simp [ix] at h
  | x :: xs, a, d, j, h => by
    unfold ix at h
    split at h
    · omega
    · rename_i hx
      cases j with
      | zero => simpa using hx
      | succ j => simpa using ix_ne xs a d j (by omega)
theorem ix_at : ∀ (l : List α) (a d : α), ix l a < l.length → l.getD (ix l a) d = a
  | x :: xs, a, d, h => by
    unfold ix at h ⊢
    split
    · rename_i hx; simpa using hx
    · rename_i hx
      rw [if_neg hx] at h
      simpa using ix_at xs a d (by simpa using h)
theorem ix_old : ∀ (l : List α) (a b : α), ix l a < l.length → ix (l ++ [b]) a = ix l a
  | x :: xs, a, b, h => by
    simp only [List.cons_append, ix] at h ⊢
    split
    · rfl
    · rename_i hx
      rw [if_neg hx] at h
      rw [ix_old xs a b (by simpa using h)]
theorem ix_new : ∀ (l : List α) (a b : α), ix l a = l.length → ix (l ++ [b]) a = if b = a then l.length else l.length + 1
  | [], a, b, _ => by simp [ix]
  | x :: xs, a, b, h => by
    simp only [List.cons_append, ix] at h ⊢
    split at h
    · simp at h
    · rename_i hx
      rw [if_neg hx, ix_new xs a b (by simpa using h)]
      split <;> simp
end
structure RMx (w : World) (base q : Nat) (R : Rf) (sl si sc : Value) (lv iv : List Value) : Prop where
  n : 1 ≤ R.n ∧ R.n ≤ 8
  qb : base ≤ q
  obj : Blk w q 31 #[.int .i64 R.n, sl, si, sc]
  rl : w.ownsRow base 68 2 sl R.lk.length (cellsL R.lk lv)
  ri : w.ownsRow base 71 3 si R.ik.length (cellsI R.ik iv)
  rc : OwG w base sc R.com
  ll : lv.length = R.lk.length ∧ R.lt.length = R.lk.length
  li : iv.length = R.ik.length ∧ R.it.length = R.ik.length
  el : ∀ j, j < R.lk.length → OwT w base (lv.getD j nilV) (R.lt.getD j []) ∧ (R.lt.getD j []).length = R.n.toNat
  ei : ∀ j, j < R.ik.length → OwT w base (iv.getD j nilV) (R.it.getD j []) ∧ (R.it.getD j []).length = R.n.toNat
  dl : ∀ j k g, j < R.lk.length → k < R.lk.length → j ≠ k → (lv.getD j nilV).ownBlock = some g → (lv.getD k nilV).ownBlock ≠ some g
  di : ∀ j k g, j < R.lk.length → k < R.ik.length → (lv.getD j nilV).ownBlock = some g → (iv.getD k nilV).ownBlock ≠ some g
def RM (w : World) (base q : Nat) (R : Rf) : Prop := ∃ sl si sc lv iv, RMx w base q R sl si sc lv iv
section
variable {w w' : World} {base q : Nat} {R : Rf} {sl si sc : Value} {lv iv : List Value}
theorem RMx.kp {A : Nat → Prop} (h : RMx w base q R sl si sc lv iv) (hk : Kp A w w') (hA : ∀ b cs t, A b → w.heap[b]? = some (.cells cs t (0, 0)) → t ≠ 31 ∧ t ≠ 68 ∧ t ≠ 71 ∧ t ≠ 9)
    (hC : ∀ g, sc.ownBlock = some g → ¬ A g) : RMx w' base q R sl si sc lv iv := by
  have ow : ∀ {b m n : Nat} {t : TypeId} {v : Value} {xs : List Value}, w.ownsRow b t m v n xs → t = 68 ∨ t = 71 ∨ t = 9 → w'.ownsRow b t m v n xs := fun ho ht =>
    own_kp hk ho fun g hg ha => by
      obtain ⟨cs, hc⟩ := own_cells ho hg
      have := hA g cs _ ha hc
      rcases ht with e | e | e
      · exact this.2.1 e
      · exact this.2.2.1 e
      · exact this.2.2.2 e
  exact ⟨h.n, h.qb, hk.blk h.obj fun ha => (hA q _ _ ha h.obj).1 rfl, ow h.rl (.inl rfl), ow h.ri (.inr (.inl rfl)), ⟨own_kp hk h.rc.1 hC, h.rc.2⟩, h.ll, h.li, fun j hj => ⟨⟨ow (h.el j hj).1.1 (.inr (.inr rfl)), (h.el j hj).1.2⟩, (h.el j hj).2⟩, fun j hj => ⟨⟨ow (h.ei j hj).1.1 (.inr (.inr rfl)), (h.ei j hj).1.2⟩, (h.ei j hj).2⟩, h.dl, h.di⟩
theorem RMx.keep (h : RMx w base q R sl si sc lv iv) (hb : Below w.heap.size w w') : RMx w' base q R sl si sc lv iv :=
  h.kp (A := fun _ => False) (.of_below hb) (fun _ _ _ h => h.elim) (fun _ _ h => h)
theorem RM.keep (h : RM w base q R) (hb : Below w.heap.size w w') : RM w' base q R := by
  obtain ⟨sl, si, sc, lv, iv, h⟩ := h
  exact ⟨sl, si, sc, lv, iv, h.keep hb⟩
/-- the row of lives, as it is read -/
theorem RMx.openL (h : RMx w base q R sl si sc lv iv) : ∃ a c, sl = .slice a R.lk.length c ∧ ∀ j, j < R.lk.length → ∃ g, a = some ⟨g, 0, none⟩ ∧ w.cell? ⟨g, j * 2, none⟩ = some (.int .u64 (R.lk.getD j 0)) ∧ w.cell? ⟨g, j * 2 + 1, none⟩ = some (lv.getD j nilV) := by
  have hr := h.rl
  rcases hr.2 with ⟨rfl, h0⟩ | ⟨g, cap, cur, rfl, _⟩
  · exact ⟨none, 0, by rw [h0], fun j hj => by omega⟩
  · refine ⟨_, cap, rfl, fun j hj => ⟨g, rfl, ?_, ?_⟩⟩
    · rw [hr.cellAt (j * 2) (by omega)]; exact (cellsL_at R.lk lv h.ll.1 j hj).1
    · rw [hr.cellAt (j * 2 + 1) (by omega)]; exact (cellsL_at R.lk lv h.ll.1 j hj).2
theorem RMx.openI (h : RMx w base q R sl si sc lv iv) : ∃ a c, si = .slice a R.ik.length c ∧ ∀ j, j < R.ik.length → ∃ g, a = some ⟨g, 0, none⟩ ∧ w.cell? ⟨g, j * 3, none⟩ = some (.int .u64 (R.ik.getD j (0, 0)).1) ∧ w.cell? ⟨g, j * 3 + 1, none⟩ = some (.int .u64 (R.ik.getD j (0, 0)).2) ∧ w.cell? ⟨g, j * 3 + 2, none⟩ = some (iv.getD j nilV) := by
  have hr := h.ri
  rcases hr.2 with ⟨rfl, h0⟩ | ⟨g, cap, cur, rfl, _⟩
  · exact ⟨none, 0, by rw [h0], fun j hj => by omega⟩
  · refine ⟨_, cap, rfl, fun j hj => ⟨g, rfl, ?_, ?_, ?_⟩⟩
    · rw [hr.cellAt (j * 3) (by omega)]; exact (cellsI_at R.ik iv h.li.1 j hj).1
    · rw [hr.cellAt (j * 3 + 1) (by omega)]; exact (cellsI_at R.ik iv h.li.1 j hj).2.1
    · rw [hr.cellAt (j * 3 + 2) (by omega)]; exact (cellsI_at R.ik iv h.li.1 j hj).2.2
end
def Rf.ep (R : Rf) (e : Int) : Int := if ix R.lk e < R.lk.length then (ix R.lk e : Nat) else -1
def Rf.has (R : Rf) (g : Gd) : Bool := decide (ix R.ik g < R.ik.length)
def Rf.image (R : Rf) (g : Gd) : Txs := if ix R.ik g < R.ik.length then R.it.getD (ix R.ik g) [] else []
set_option maxRecDepth 100000 in
theorem epoch_any (w : World) (base q : Nat) (R : Rf) (e : Int) (h : RM w base q R) (h80 : R.lk.length ≤ 1000) :
    Calls Try.prog 27 #[.pointer (some ⟨q, 0, none⟩), .int .u64 e] w fun e' w' => e' = .returned (.int .i64 (R.ep e)) ∧ Below w.heap.size w w' := by
  obtain ⟨sl, si, sc, lv, iv, h⟩ := h
  obtain ⟨la, lc, rfl, hx⟩ := h.openL
  have c1 := h.obj.cell 1
  simp at c1
  have hne := ix_ne R.lk e 0
  have hat := ix_at R.lk e 0
  have hle := ix_le R.lk e
  unfold Rf.ep
  generalize ix R.lk e = i at *
  have hx : ∀ j, j < R.lk.length → ∃ g, la = some ⟨g, 0, none⟩ ∧ w.cell? ⟨g, j * 2, none⟩ = some (.int .u64 (R.lk.getD j 0)) := fun j hj => by
    obtain ⟨g, h1, h2, _⟩ := hx j hj
    exact ⟨g, h1, h2⟩
  generalize hZ : (fun j => R.lk.getD j 0) = Z at *
  have g1 : ∀ j, R.lk.getD j 0 = Z j := fun j => by subst hZ; rfl
  simp only [g1] at hx hne hat
  clear g1 hZ h
  generalize R.lk.length = n at *
  have HX := Lib.hid hx
  have HN := Lib.hid hne
  have HA := Lib.hid hat
  have HL := Lib.hid hle
  have H80 := Lib.hid h80
  have C1 := Lib.hid c1
  obtain ⟨res, hres⟩ : ∃ z : Int, z = if i < n then (i : Int) else -1 := ⟨_, rfl⟩
  rw [← hres]
  have HRES := Lib.hid hres
  clear hx hne hat hle h80 c1 hres
  go_enter Try.func27, Try.ntmps27
  go_wp2_with fail
  go_loopw [5] (fun t wr => ∃ k : Nat, k ≤ i ∧ t = .int .i64 k ∧ Below w.heap.size w wr) (fun t _ => n - (intOf t).toNat)
  case atStart => exact ⟨0, Nat.zero_le _, rfl, Below.refl _ _⟩
  case round =>
    obtain ⟨k, hk, rfl, hb⟩ := hrel
    have HB := Lib.hid hb
    clear hb
    have c1 := cell_later HB.out C1.out
    have h80 := H80.out
    have hle := HL.out
    by_cases hki : k < i
    · obtain ⟨g, rfl, hc⟩ := HX.out k (by omega)
      have hc := cell_later HB.out hc
      have hz := HN.out k hki
      have i1 : (k : Int) < (n : Int) := by omega
      have z1 : (Z k == e) = false := by simpa using hz
      have HKN := Lib.hid hki
      clear hz hki hle
      go_wp2
      have hki := HKN.out
      have hle := HL.out
      refine ⟨⟨k + 1, by omega, by go_num, HB.out⟩, by simp [intOf]; omega⟩
    · obtain rfl : k = i := by omega
      by_cases hin : k < n
      · obtain ⟨g, rfl, hc⟩ := HX.out k hin
        have hc := cell_later HB.out hc
        have hz := HA.out hin
        have i1 : (k : Int) < (n : Int) := by omega
        rw [hz] at hc
        have HR := Lib.hid (HRES.out.trans (if_pos hin))
        clear hz hki hle hk hin
        go_wp2
        go_ret
        exact ⟨by rw [HR.out]; rfl, HB.out⟩
      · have i1 : ¬ ((k : Int) < (n : Int)) := by omega
        have HR := Lib.hid (HRES.out.trans (if_neg hin))
        clear hki hle hk hin
        go_wp2
        go_ret
        exact ⟨by rw [HR.out]; rfl, HB.out⟩
end Go.Proofs.Ytfeinafbimpjnaa
