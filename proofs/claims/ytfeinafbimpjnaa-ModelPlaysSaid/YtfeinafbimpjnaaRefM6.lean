/-
  THE DOCUMENT'S MODEL: Snap (a region that draws its order, calls, lays, appends and stores).
-/
import Derived.Test.YtfeinafbimpjnaaRefM5
namespace Go.Proofs.Ytfeinafbimpjnaa
open Go.RowKit Reg Go.WideShapes Go.ChangeShapes

theorem lt_of_cell {w : World} {b o : Nat} {v : Value} (h : w.cell? ⟨b, o, none⟩ = some v) : b < w.heap.size := by
  by_cases hlt : b < w.heap.size
  · exact hlt
  · unfold World.cell? at h
    rw [Array.getElem?_eq_none (by simpa using hlt)] at h
    cases h
def Rf.snapped (R : Rf) (g : Gd) (zs : Txs) : Rf := { R with ik := R.ik ++ [g], it := R.it ++ [zs] }
structure SN (w0 : World) (base q qx gl : Nat) (R : Rf) (sl si sc ui : Value) (lv iv : List Value) (g : Gd) (i : Nat) (zs : Txs) (σ : Nat → Option Value) (w : World) : Prop where
  kr : Kr base w0 w
  d4 : σ 17 ≠ none → σ 4 ≠ none
  d14 : σ 16 ≠ none → σ 14 ≠ none
  d16 : σ 17 ≠ none → σ 16 ≠ none
  d20 : σ 17 = none → σ 20 = none
  m0 : σ 17 = none → RMx w base q R sl si sc lv iv
  bx : Blk w qx 34 #[.int .u64 g.1, .int .u64 g.2]
  q1 : w.cell? ⟨q, 1, none⟩ = some sl
  lc : w.cell? ⟨gl, i * 2 + 1, none⟩ = some ui
  it : OwT w base ui zs
  cp : ∀ u, σ 14 = some u → OwT w w0.heap.size u zs
  lit : ∀ u u14, σ 16 = some u → σ 14 = some u14 → σ 17 = none → Rd w 3 u 1 [.int .u64 g.1, .int .u64 g.2, u14]
  m1 : ∀ u u14, σ 17 = some u → σ 14 = some u14 → σ 20 = none → ∃ wa, RMx wa base q R sl si sc lv iv ∧ base ≤ wa.heap.size ∧ Kr base w0 wa ∧ OwT wa w0.heap.size u14 zs ∧
    w.ownsRow base 71 3 u (R.ik.length + 1) (cellsI R.ik iv ++ [.int .u64 g.1, .int .u64 g.2, u14]) ∧ wa.grownBy w si.ownBlock
  m2 : σ 20 ≠ none → RM w base q (R.snapped g zs)
section
variable {w0 w w' : World} {base q qx gl i : Nat} {R : Rf} {sl si sc ui : Value} {lv iv : List Value} {g : Gd} {zs : Txs} {σ : Nat → Option Value} {u : Value} {p : Value → Prop}
theorem SN.start (h : RMx w0 base q R sl si sc lv iv) (hb : Blk w0 qx 34 #[.int .u64 g.1, .int .u64 g.2]) (hl : w0.cell? ⟨gl, i * 2 + 1, none⟩ = some ui) (ht : OwT w0 base ui zs) : SN w0 base q qx gl R sl si sc ui lv iv g i zs (fun _ => none) w0.drew := by
  have hd : Below w0.heap.size w0 w0.drew := (Below.refl _ _).drew
  have c1 := (h.obj.keep hd).cell 1
  exact ⟨.of_below hd, fun h => absurd rfl h, fun h => absurd rfl h, fun h => absurd rfl h, fun _ => rfl, fun _ => h.keep hd, hb.keep hd, by simpa using c1, cell_later hd hl, ht.keep hd, (fun _ h => by cases h), (fun _ _ h => by cases h), (fun _ _ h => by cases h), fun h => absurd rfl h⟩
theorem SN.grow (h : SN w0 base q qx gl R sl si sc ui lv iv g i zs σ w) {k : Nat} (hk : k = 4 ∨ k = 14 ∨ k = 16) (h17 : σ 17 = none) (hb : Below w.heap.size w w') (h14 : k = 16 → σ 14 ≠ none) (h14n : k = 14 → σ 16 = none)
    (hc : k = 14 → OwT w' w0.heap.size u zs) (hl : k = 16 → ∀ u14, σ 14 = some u14 → Rd w' 3 u 1 [.int .u64 g.1, .int .u64 g.2, u14]) : SN w0 base q qx gl R sl si sc ui lv iv g i zs (upd σ k u) w' := by
  have e17 : upd σ k u 17 = σ 17 := upd_other _ _ (by omega)
  have e20 : upd σ k u 20 = σ 20 := upd_other _ _ (by omega)
  have h20 := h.d20 h17
  refine ⟨h.kr.trans (.of_below hb), ?_, ?_, ?_, ?_, fun _ => (h.m0 h17).keep hb, h.bx.keep hb, cell_later hb h.q1, cell_later hb h.lc, h.it.keep hb, ?_, ?_, ?_, ?_⟩
  all_goals try simp only [e17, e20, h17, h20]
  · exact fun h => absurd rfl h
  · rcases hk with rfl | rfl | rfl
    · rw [upd_other _ _ (by decide), upd_other _ _ (by decide)]
      exact h.d14
    · rw [upd_same]
      exact fun _ e => by cases e
    · rw [upd_other _ _ (show (14 : Nat) ≠ 16 by decide)]
      exact fun _ => h14 rfl
  · exact fun h => absurd rfl h
  · exact fun _ => trivial
  · intro x hx
    rcases hk with rfl | rfl | rfl
    · rw [upd_other _ _ (by decide)] at hx
      exact (h.cp x hx).keep hb
    · rw [upd_same] at hx
      obtain rfl := Option.some.inj hx
      exact hc rfl
    · rw [upd_other _ _ (by decide)] at hx
      exact (h.cp x hx).keep hb
  · intro x y hx hy _
    rcases hk with rfl | rfl | rfl
    · rw [upd_other _ _ (by decide)] at hx hy
      exact (h.lit x y hx hy h17).keep hb
    · rw [upd_other _ _ (by decide), h14n rfl] at hx
      cases hx
    · rw [upd_same] at hx
      rw [upd_other _ _ (by decide)] at hy
      obtain rfl := Option.some.inj hx
      exact hl rfl y hy
  · exact fun _ _ e => by cases e
  · exact fun h => absurd rfl h
theorem SN.none17 (h : SN w0 base q qx gl R sl si sc ui lv iv g i zs σ w) (h16 : σ 16 = none) : σ 17 = none := Decidable.byContradiction fun e => h.d16 e h16
theorem SN.load (h : SN w0 base q qx gl R sl si sc ui lv iv g i zs σ w) (hn : σ 4 = none) (hp : p si) : SpecialOK Try.prog p (fun u => SN w0 base q qx gl R sl si sc ui lv iv g i zs (upd σ 4 u)) (.ok (.value si) w) :=
  ⟨hp, h.grow (.inl rfl) (Decidable.byContradiction fun e => h.d4 e hn) (Below.refl _ _) (fun e => by cases e) (fun e => by cases e) (fun e => by cases e) (fun e => by cases e)⟩
theorem SN.copy (h : SN w0 base q qx gl R sl si sc ui lv iv g i zs σ w) (hn : σ 14 = none) (hl : zs.length ≤ 2 ^ 20) (hp : ∀ a c, p (.slice a zs.length c)) : SpecialOK Try.prog p (fun u => SN w0 base q qx gl R sl si sc ui lv iv g i zs (upd σ 14 u)) (.ok (.enter 28 #[ui]) w) := by
  have h16 : σ 16 = none := Decidable.byContradiction fun e => h.d14 e hn
  refine (copied_any w ui zs h.it.rd hl).mono ?_
  rintro e w' ⟨u, rfl, ho, hb⟩
  obtain ⟨a, c, rfl, -, -⟩ := ho.rd.open_
  exact ⟨_, rfl, hp a c, h.grow (.inr (.inl rfl)) (h.none17 h16) hb (fun e => by cases e) (fun _ => h16) (fun _ => ho.mono h.kr.size) (fun e => by cases e)⟩
theorem SN.lay (h : SN w0 base q qx gl R sl si sc ui lv iv g i zs σ w) (hn : σ 16 = none) {a : Option Addr} {n c : Nat} (h14 : σ 14 = some (.slice a n c)) (cc : Array Value) (hc : cc = #[.int .u64 g.1, .int .u64 g.2, .slice a n c]) (hp : ∀ b, p (.slice (some ⟨b, 0, none⟩) 1 1)) :
    SpecialOK Try.prog p (fun u => SN w0 base q qx gl R sl si sc ui lv iv g i zs (upd σ 16 u)) (.ok (.value (.slice (some ⟨w.heap.size, 0, none⟩) 1 1)) (w.alloc (.cells cc 71))) := by
  subst hc
  refine ⟨hp _, h.grow (.inr (.inr rfl)) (h.none17 hn) ((Below.refl _ _).alloc (Nat.le_refl _) _) (fun _ => by rw [h14]; simp) (fun e => by cases e) (fun e => by cases e) fun _ u14 h => ?_⟩
  rw [h14] at h
  obtain rfl := Option.some.inj h
  exact Rd.of_own (own_new w w.heap.size 71 #[.int .u64 g.1, .int .u64 g.2, .slice a n c] 3 1 rfl (Nat.le_refl _) (by decide))
theorem SN.app (h : SN w0 base q qx gl R sl si sc ui lv iv g i zs σ w) (hbase : base ≤ w0.heap.size) (hgl : sl.ownBlock = some gl) (hn : σ 17 = none) (h4 : σ 4 ≠ none) {a : Option Addr} {n c : Nat} (h14 : σ 14 = some (.slice a n c)) (h16 : σ 16 = some u) (hl : R.ik.length ≤ 1000) (ty : TypeId) (hp : ∀ a c, p (.slice a (R.ik.length + 1) c)) :
    ∃ v' w', (Builtin.append_ #[28, 28] ty #[si, u]).run Try.prog w = .ok v' w' ∧ SpecialOK Try.prog p (fun u => SN w0 base q qx gl R sl si sc ui lv iv g i zs (upd σ 17 u)) (.ok (.value v') w') := by
  have hm := h.m0 hn
  have hbw : base ≤ w.heap.size := Nat.le_trans hbase h.kr.size
  obtain ⟨v', w', hr, ha⟩ := app_image (base := base) ty (v := si) hm.ri (by omega) hbw (h.lit u _ h16 h14 hn)
  have hk := Kp.of_grown ha.2.1 (own_block hm.ri) hbw
  have h20 := h.d20 hn
  have ow : ∀ {b m n : Nat} {t : TypeId} {v : Value} {xs : List Value}, t ≠ 71 → w.ownsRow b t m v n xs → w'.ownsRow b t m v n xs := fun h1 ho =>
    own_kp hk ho fun g hg e => own_apart ho hm.ri h1 hg e
  have cl : ∀ {b o : Nat} {v : Value}, si.ownBlock ≠ some b → w.cell? ⟨b, o, none⟩ = some v → w'.cell? ⟨b, o, none⟩ = some v := fun hne hc => by
    have hb : w'.heap[_]? = w.heap[_]? := hk.2 _ (lt_of_cell hc) hne
    unfold World.cell? at hc ⊢
    rw [hb]
    exact hc
  obtain ⟨va, vc, rfl⟩ := own_slice ha.1
  refine ⟨_, w', hr, hp va vc, h.kr.trans (Kr.of_kp hk fun b _ e => A4.own hm.ri (.inr (.inr (.inl rfl))) e), ?_, ?_, ?_, ?_, ?_, hk.blk h.bx fun e => own_ne hm.ri h.bx (by decide) e rfl, cl (fun e => own_ne hm.ri hm.obj (by decide) e rfl) h.q1, cl (fun e => own_apart hm.ri hm.rl (by decide) e hgl) h.lc, ⟨ow (by decide) h.it.1, h.it.2⟩, ?_, ?_, ?_, ?_⟩
  all_goals try simp only [upd_same, upd_other _ _ (show (4 : Nat) ≠ 17 by decide), upd_other _ _ (show (14 : Nat) ≠ 17 by decide), upd_other _ _ (show (16 : Nat) ≠ 17 by decide), upd_other _ _ (show (20 : Nat) ≠ 17 by decide), h20]
  · exact fun _ => h4
  · exact h.d14
  · exact fun _ => by rw [h16]; simp
  · exact fun e => by cases e
  · exact fun e => by cases e
  · exact fun x hx => ⟨ow (by decide) (h.cp x hx).1, (h.cp x hx).2⟩
  · exact fun _ _ _ _ e => by cases e
  · intro x y hx hy _
    obtain rfl := Option.some.inj hx
    rw [h14] at hy
    obtain rfl := Option.some.inj hy
    exact ⟨w, hm, hbw, h.kr, h.cp _ h14, ha.1, ha.2.1⟩
  · exact fun e => absurd rfl e
theorem SN.blk (h : SN w0 base q qx gl R sl si sc ui lv iv g i zs σ w) {u14 : Value} (h17 : σ 17 = some u) (h14 : σ 14 = some u14) (hn : σ 20 = none) : Blk w q 31 #[.int .i64 R.n, sl, si, sc] := by
  obtain ⟨wa, h1, h2, _, _, _, h6⟩ := h.m1 u u14 h17 h14 hn
  exact h1.blkI h2 h6
theorem SN.store (h : SN w0 base q qx gl R sl si sc ui lv iv g i zs σ w) (h0 : RMx w0 base q R sl si sc lv iv) (hbase : base ≤ w0.heap.size) (hgl : sl.ownBlock = some gl) (hz : zs.length = R.n.toNat) {u14 : Value} (h17 : σ 17 = some u) (h14 : σ 14 = some u14) (hn : σ 20 = none) (hp : p undef) :
    SpecialOK Try.prog p (fun u => SN w0 base q qx gl R sl si sc ui lv iv g i zs (upd σ 20 u)) (.ok .skip (w.setCell ⟨q, 2, none⟩ u)) := by
  obtain ⟨wa, h1, h2, h3, h4, h5, h6⟩ := h.m1 u u14 h17 h14 hn
  have hblk := h1.blkI h2 h6
  have hfin := h1.addI h2 (e := g) (h4.mono hbase) hz (fun b hb j hj e => by
    have := own_block h4.1 b hb
    have := own_in (h0.el j hj).1.1 e
    omega) h5 h6
  have hk := Kp.cell w q 2 u
  have ow : ∀ {b m n : Nat} {t : TypeId} {v : Value} {xs : List Value}, t ≠ 31 → w.ownsRow b t m v n xs → (w.setCell ⟨q, 2, none⟩ u).ownsRow b t m v n xs := fun h2 ho =>
    own_kp hk ho fun g hg e => own_ne ho hblk h2 hg e
  have c1 := (hblk.set 2 u).cell 1
  have hq4 : gl ≠ q := fun e => own_ne h0.rl h0.obj (by decide) hgl e
  have hlc : (w.setCell ⟨q, 2, none⟩ u).cell? ⟨gl, i * 2 + 1, none⟩ = some ui := by
    have hb := hk.2 gl (lt_of_cell h.lc) hq4
    have := h.lc
    unfold World.cell? at this ⊢
    rw [hb]
    exact this
  refine ⟨hp, h3.trans hfin.2, ?_, ?_, ?_, ?_, ?_, hk.blk h.bx (fun e => ?_), by simpa using c1, hlc, ⟨ow (by decide) h.it.1, h.it.2⟩, ?_, ?_, ?_, ?_⟩
  rotate_left 5
  · subst e
    have h7 := h.bx
    unfold Blk at h7 hblk
    rw [h7] at hblk
    simp only [Option.some.injEq, Obj.cells.injEq] at hblk
    exact absurd hblk.2.1 (by decide)
  rotate_left 4
  all_goals try simp only [upd_same, upd_other _ _ (show (4 : Nat) ≠ 20 by decide), upd_other _ _ (show (14 : Nat) ≠ 20 by decide), upd_other _ _ (show (16 : Nat) ≠ 20 by decide), upd_other _ _ (show (17 : Nat) ≠ 20 by decide), h17]
  · exact fun _ => h.d4 (by rw [h17]; simp)
  · exact h.d14
  · exact fun _ => h.d16 (by rw [h17]; simp)
  · exact fun e => by cases e
  · exact fun e => by cases e
  · exact fun x hx => ⟨ow (by decide) (h.cp x hx).1, (h.cp x hx).2⟩
  · exact fun _ _ _ _ e => by cases e
  · exact fun _ _ _ _ e => by cases e
  · exact fun _ => ⟨_, _, _, _, _, hfin.1⟩
end
end Go.Proofs.Ytfeinafbimpjnaa
