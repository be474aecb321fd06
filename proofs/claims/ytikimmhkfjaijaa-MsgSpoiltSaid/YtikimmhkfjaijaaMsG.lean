/-
  MESSAGES: the lists of a message while it is laid or read (printed by wip/gen-msgg.py).
-/
import Derived.Test.YtikimmhkfjaijaaMsF
namespace Go.Proofs.Ytikimmhkfjaijaa
open Go.RowKit Reg Go.ChangeShapes

theorem row_apart {s j k i i' : Nat} (hi : i < s) (hi' : i' < s) (h : j * s + i = k * s + i') : j = k ∧ i = i' := by
  rcases Nat.lt_trichotomy j k with q | q | q
  · have := Nat.mul_le_mul_right s (show j + 1 ≤ k from q)
    rw [Nat.succ_mul] at this
    omega
  · subst q
    omega
  · have := Nat.mul_le_mul_right s (show k + 1 ≤ j from q)
    rw [Nat.succ_mul] at this
    omega
theorem RowsM.set1 {W : World} {Z : Nat → Prop} {md : Md} {size n : Nat} {fz : Nat → Bool} {R : Nat → List Value} {w : World} {g off c k i : Nat} (h : RowsM W Z md size n fz R w (.slice (some ⟨g, off, none⟩) n c)) (hk : k < n) (hi : i < size) (u : Value) :
    RowsM W Z md size n fz (fun j => if j = k then (R j).set i u else R j) (w.setCell ⟨g, off + k * size + i, none⟩ u) (.slice (some ⟨g, off, none⟩) n c) := by
  obtain ⟨a, c', h1, h2, h3, h4⟩ := h
  simp only [Value.slice.injEq, true_and] at h1
  obtain ⟨rfl, rfl⟩ := h1
  refine ⟨_, _, rfl, h2, h3, fun j hj => ?_⟩
  obtain ⟨g', off', k1, k2, k3, k4, k5⟩ := h4 j hj
  simp only [Option.some.injEq, Addr.mk.injEq, and_true] at k1
  obtain ⟨rfl, rfl⟩ := k1
  refine ⟨_, _, rfl, k2, k3, k4, fun i' hi' => ?_⟩
  obtain ⟨⟨v, r1, r2⟩, r3⟩ := k5 i' hi'
  refine ⟨?_, fun hr => by rw [World.frozen?_setCell]; exact r3 hr⟩
  by_cases e : j = k ∧ i' = i
  · obtain ⟨rfl, rfl⟩ := e
    refine ⟨u, ?_, World.cell?_setCell_same _ _ _ r2⟩
    dsimp only
    rw [if_pos rfl, List.getElem?_set_self]
    exact (List.getElem?_eq_some_iff.1 r1).1
  · refine ⟨v, ?_, ?_⟩
    · dsimp only
      by_cases ejk : j = k
      · rw [if_pos ejk, List.getElem?_set_ne (by omega)]
        exact r1
      · rw [if_neg ejk]
        exact r1
    · rw [World.cell?_setCell_other _ _ _ _ (fun e2 => ?_)]
      · exact r2
      · simp only [Addr.mk.injEq, true_and, and_true] at e2
        have := row_apart hi' hi (show j * size + i' = k * size + i by omega)
        exact e this
theorem RowsM.congr {W : World} {Z : Nat → Prop} {md : Md} {size n : Nat} {fz : Nat → Bool} {R R' : Nat → List Value} {w : World} {v : Value} (h : RowsM W Z md size n fz R w v) (e : ∀ j, j < n → R' j = R j) : RowsM W Z md size n fz R' w v := by
  obtain ⟨a, c, h1, h2, h3, h4⟩ := h
  refine ⟨a, c, h1, h2, h3, fun j hj => ?_⟩
  obtain ⟨g, off, k1, k2, k3, k4, k5⟩ := h4 j hj
  refine ⟨g, off, k1, k2, k3, k4, fun i hi => ?_⟩
  rw [e j hj]
  exact k5 i hi
theorem RowsM.none_ {W : World} {Z : Nat → Prop} {md : Md} {size : Nat} {fz : Nat → Bool} {R : Nat → List Value} {w w' : World} {v : Value} (h : RowsM W Z md size 0 fz R w v) : RowsM W Z md size 0 fz R w' v := by
  obtain ⟨a, c, h1, h2, h3, h4⟩ := h
  exact ⟨a, c, h1, h2, h3, fun j hj => by omega⟩
theorem InC.none_ {w w' : World} {v : Value} (h : InC w v []) : InC w' v [] := by
  obtain ⟨a, c, h1, h2, h3⟩ := h
  exact ⟨a, c, h1, h2, fun j hj => by simp at hj⟩
theorem RowsM.slice_ {W : World} {Z : Nat → Prop} {md : Md} {size n : Nat} {fz : Nat → Bool} {R : Nat → List Value} {w : World} {v : Value} (h : RowsM W Z md size n fz R w v) : ∃ a c, v = .slice a n c ∧ (n = 0 ∨ n ≤ c) ∧ n ≤ maxLen := by
  obtain ⟨a, c, h1, h2, h3, h4⟩ := h
  exact ⟨a, c, h1, h2, h3⟩
theorem RowsM.at_ {W : World} {Z : Nat → Prop} {md : Md} {size n : Nat} {fz : Nat → Bool} {R : Nat → List Value} {w : World} {a : Option Addr} {c : Nat} (h : RowsM W Z md size n fz R w (.slice a n c)) {j : Nat} (hj : j < n) :
    ∃ g off, a = some ⟨g, off, none⟩ ∧ ¬ Z g ∧ ¬ md.near g ∧ (md.isRd = true → W.heap.size ≤ g) ∧ ∀ i, i < size → (∃ u, (R j)[i]? = some u ∧ w.cell? ⟨g, off + j * size + i, none⟩ = some u) ∧ (md.isRd = true ∨ fz i = true → w.frozen? ⟨g, off + j * size + i, none⟩ = false) := by
  obtain ⟨a', c', h1, h2, h3, h4⟩ := h
  simp only [Value.slice.injEq, true_and] at h1
  obtain ⟨rfl, rfl⟩ := h1
  exact h4 j hj
/-- rows that have just been made -/
theorem RowsM.made {W : World} {Z : Nat → Prop} {md : Md} {size n g : Nat} {fz : Nat → Bool} {w : World} {t : TypeId} (zs : List Value) (hzs : zs.length = size) (hb : Blk w g t (madeCells zs.toArray (n * size))) (hn : n ≤ 8192) (hZ : ¬ Z g) (hm : ¬ md.near g) (hW : W.heap.size ≤ g) :
    RowsM W Z md size n fz (fun _ => zs) w (.slice (some ⟨g, 0, none⟩) n n) := by
  refine ⟨_, _, rfl, .inr (Nat.le_refl _), Nat.le_trans hn (by decide), fun j hj => ⟨g, 0, rfl, hZ, hm, fun _ => hW, fun i hi => ⟨?_, fun _ => hb.frozen _⟩⟩⟩
  have hlt : j * size + i < n * size := by
    have := Nat.mul_le_mul_right size (show j + 1 ≤ n from hj)
    rw [Nat.succ_mul] at this
    omega
  refine ⟨zs[i], by rw [List.getElem?_eq_getElem], ?_⟩
  rw [hb.cell, Nat.zero_add]
  unfold madeCells
  rw [Array.getElem?_map, Array.getElem?_range]
  have hmod : (j * size + i) % size = i := by rw [Nat.mul_comm, Nat.mul_add_mod]; exact Nat.mod_eq_of_lt hi
  have hi2 : i < zs.length := by omega
  simp [hlt, hzs, hmod]
  rw [List.getElem?_eq_getElem hi2]
  rfl
section
variable {W : World} {fb mb : Nat} {Z : Nat → Prop} {B : Nat} {S S' : Sf} {m m' : Ms} {w w' : World}
/-- only what is fields' own has turned -/
theorem FS.turn (h : FS W fb mb Z B S m w) {B' : Nat} (hk : Kp (Zf fb S.m) w w') (hf : Fd w' fb mb S') (ha : Alike S S') (hsz : S'.m.sz ≤ B') : FS W fb mb Z B' S' m w' := by
  obtain ⟨se, sl, sc, hb, h1, h2, h3⟩ := h.ls
  have hz : ∀ b, ¬ Z b → ¬ Zf fb S.m b := fun b hb e => hb (h.zz b e)
  have hzf : Zf fb S'.m = Zf fb S.m := by funext b; unfold Zf; rw [ha.2.1]
  exact ⟨h.kp.trans (hk.mono h.zz), hf, by rw [hzf]; exact h.zz, h.zm, by rw [hzf]; exact h.zl, h.ne, by rw [ha.1]; exact h.far, hsz, se, sl, sc, hk.blk hb (h.pt 0).nz, h1.next hk hz ha, h2.next hk hz ha, h3.next hk hz⟩
theorem FS.zfb (h : FS W fb mb Z B S m w) : Z fb := h.zz fb (.inl rfl)
/-- the kind of slots does not matter -/
theorem FS.z_lt (h : FS W fb mb Z B S m w) {b : Nat} (hb : Z b) : b < w.heap.size := by
  rcases h.zl b hb with e | e
  · obtain ⟨se, sl, sc, hb, -⟩ := h.ls
    rw [e]
    exact hb.lt
  · exact Zf_lt h.fd e

theorem FS.slG (h : FS W fb mb Z B S m w) : ∃ a c, w.cell? ⟨mb, 12, none⟩ = some (.slice a m.l.l.length c) ∧ (m.l.l.length = 0 ∨ m.l.l.length ≤ c) ∧ m.l.l.length ≤ maxLen ∧ w.frozen? ⟨mb, 12, none⟩ = false ∧ GRow W Z S.m m.l.l w (.slice a m.l.l.length c) := by
  obtain ⟨se, sl, sc, hb, h1, h2, h3⟩ := h.ls
  obtain ⟨a, c, e, hc, hn⟩ := h2.1.slice_
  subst e
  exact ⟨a, c, by rw [hb.cell]; rfl, hc, hn, hb.frozen _, h2⟩
/-- a cell of a row, set -/
theorem FS.virtG (h : FS W fb mb Z B S m w) {g off n c k i : Nat} (hsl : w.cell? ⟨mb, 12, none⟩ = some (.slice (some ⟨g, off, none⟩) n c)) (hk : k < m.l.l.length) (hi : i < 2) (x : Gd) (hx : wfG x) (u : Value) (hset : gdL x = (gdL (m.l.l.getD k (0, 0))).set i u)
    (hlay : S.m.isRd = false → x = m.l.l.getD k (0, 0)) (hrd : S.m.isRd = true → m.es = [] ∧ m.p.cs = []) : FS W fb mb Z B S { m with l := { m.l with l := m.l.l.set k x } } (w.setCell ⟨g, off + k * 2 + i, none⟩ u) := by
  obtain ⟨a, c', hc, -, hn8, -, hrow⟩ := h.slG
  rw [hsl] at hc
  simp only [Option.some.injEq, Value.slice.injEq] at hc
  obtain ⟨rfl, rfl, rfl⟩ := hc
  obtain ⟨g', off', e, hz, hnear, hw, hcells⟩ := hrow.1.at_ hk
  simp only [Option.some.injEq, Addr.mk.injEq, and_true] at e
  obtain ⟨rfl, rfl⟩ := e
  obtain ⟨⟨u0, hu0, hcell⟩, hfz⟩ := hcells i hi
  cases hr : S.m.isRd with
  | false =>
    have hxe := hlay hr
    have hu : u = u0 := by
      have h1 : ((gdL (m.l.l.getD k (0, 0))).set i u)[i]? = some u := by
        rw [List.getElem?_set_self]
        exact (List.getElem?_eq_some_iff.1 hu0).1
      rw [← hset, hxe, hu0] at h1
      exact (Option.some.inj h1).symm
    rw [hu, setCell_same hcell, hxe]
    have e2 : m.l.l.set k (m.l.l.getD k (0, 0)) = m.l.l := by
      rw [List.getD_eq_getElem?_getD, List.getElem?_eq_getElem hk]
      exact List.set_getElem_self hk
    rw [e2]
    exact h
  | true =>
    obtain ⟨o1, o2⟩ := hrd hr
    obtain ⟨se, sl, sc, hb, h1, h2, h3⟩ := h.ls
    have hgm : g ≠ mb := fun e => hz (e ▸ h.zm)
    have hgf : g ≠ fb := fun e => hz (e ▸ h.zfb)
    have hsl2 : sl = .slice (some ⟨g, off, none⟩) m.l.l.length c := by
      have := hb.cell 12
      rw [hsl] at this
      exact (Option.some.inj this).symm
    subst hsl2
    have hset2 : GRow W Z S.m (m.l.l.set k x) (w.setCell ⟨g, off + k * 2 + i, none⟩ u) (.slice (some ⟨g, off, none⟩) m.l.l.length c) := by
      refine ⟨?_, fun y hy => ?_⟩
      · have := (hrow.1.set1 hk hi u).congr (R' := fun j => gdL ((m.l.l.set k x).getD j (0, 0))) fun j hj => by
          by_cases e : j = k
          · subst e
            rw [if_pos rfl, ← hset, List.getD_eq_getElem?_getD, List.getElem?_set_self hj]
            rfl
          · rw [if_neg e, List.getD_eq_getElem?_getD, List.getElem?_set_ne (fun q => e q.symm), ← List.getD_eq_getElem?_getD]
        rw [List.length_set]
        exact this
      · rcases List.mem_or_eq_of_mem_set hy with q | q
        · exact hrow.2 y q
        · rw [q]; exact hx
    refine ⟨h.kp.fresh (p := ⟨g, off + k * 2 + i, none⟩) (hw hr) u, ⟨h.fd.1.far (fun e => hgf e.symm) _, Md.ok_kp (A := fun b => b = g) h.fd.2.1 (Kp.at _ _ _) (fun b hb e => hnear (e ▸ hb)), h.fd.2.2⟩, h.zz, h.zm, h.zl, h.ne, h.far, h.sz, se, .slice (some ⟨g, off, none⟩) m.l.l.length c, sc, hb.far (fun e => hgm e.symm) _, ?_, hset2, ?_⟩
    · exact ⟨by have := h1.1; rw [o1] at this ⊢; exact this.none_, h1.2⟩
    · exact ⟨by have := h3.1; rw [o2] at this ⊢; exact this.none_, by rw [o2]; exact fun h0 => absurd h0 (by decide), h3.2.2⟩
def szG (S : Sf) (l : List Gd) : List Gd := if freshF S l.length = true then List.replicate (szN S l.length) (0, 0) else l
theorem szG_le {S : Sf} {l : List Gd} (h : l.length ≤ 8192) : (szG S l).length ≤ 8192 := by
  unfold szG
  split
  · rename_i q
    rw [List.length_replicate]
    exact (fresh_n q).1
  · exact h
theorem FS.sizedG (h : FS W fb mb Z B S m w) (hn : m.l.l.length ≤ 8192) (hB : B ≤ 900000) : Calls Try.prog 59 #[.pointer (some ⟨fb, 0, none⟩), .pointer (some ⟨mb, 12, none⟩)] w fun e w' =>
    ∃ a c, e = .returned (.slice a (szG S m.l.l).length c) ∧ FS W fb mb Z (B + 9) (intF S (m.l.l.length : Nat)).1 { m with l := { m.l with l := szG S m.l.l } } w' ∧ w'.cell? ⟨mb, 12, none⟩ = some (.slice a (szG S m.l.l).length c) := by
  obtain ⟨a, c, hc, -, -, hf, hrow⟩ := h.slG
  refine (fsizedG_any w fb mb S mb 12 m.l.l.length c a h.fd hc hn (h.pt _) hf (by have := h.sz; omega)).mono ?_
  rintro e w' ⟨sl', rfl, hk, hfd, hcase⟩
  have ha : Alike S (intF S (m.l.l.length : Nat)).1 := alike_num _ _ _
  have hsz : (intF S (m.l.l.length : Nat)).1.m.sz ≤ B + 9 := by have := h.sz; exact Nat.le_trans (numF_sz S.m _) (by omega)
  obtain ⟨se, sl, sc, hb, h1, h2, h3⟩ := h.ls
  have hz : ∀ b, ¬ Z b → ¬ (b = mb ∨ Zf fb S.m b) := fun b hb e => hb (e.elim (fun q => q ▸ h.zm) (h.zz b))
  have hkw : Kp (fun b => b = mb ∨ Zf fb S.m b) w w' := ((Kp.at w ⟨mb, 12, none⟩ sl').mono fun b e => .inl e).trans (hk.mono fun b e => .inr e)
  have hzf : Zf fb (intF S (m.l.l.length : Nat)).1.m = Zf fb S.m := by funext b; unfold Zf; rw [ha.2.1]
  have hblk : Blk w' mb 33 ((msA m se sl sc).setIfInBounds 12 sl') := blk_after hk hb (h.pt 0).nz
  have hrow' : ∃ a' c', sl' = .slice a' (szG S m.l.l).length c' ∧ GRow W Z (intF S (m.l.l.length : Nat)).1.m (szG S m.l.l) w' sl' := by
    rcases hcase with ⟨hfr, rfl⟩ | ⟨hfr, g, rfl, hg, hbg⟩
    · unfold szG
      rw [if_neg (by rw [hfr]; decide)]
      exact ⟨a, c, rfl, hrow.next hkw hz ha⟩
    · unfold szG
      rw [if_pos hfr]
      have hN := (fresh_n hfr).1
      refine ⟨_, _, by rw [List.length_replicate], ?_, fun y hy => by rw [(List.mem_replicate.1 hy).2]; exact ⟨rfl, rfl⟩⟩
      rw [List.length_replicate]
      have hzg : ¬ Z g := fun hzg => by have := h.z_lt hzg; omega
      have hng : ¬ (intF S (m.l.l.length : Nat)).1.m.near g := fun hng => by rw [ha.1] at hng; have := h.fd.near_lt hng; omega
      refine (RowsM.made (fz := noF) [.int .u64 0, .int .u64 0] rfl hbg hN hzg hng (Nat.le_trans h.kp.size hg)).congr fun j hj => ?_
      rw [List.getD_eq_getElem?_getD, List.getElem?_replicate, if_pos hj]
      rfl
  obtain ⟨a', c', rfl, hrw⟩ := hrow'
  refine ⟨a', c', rfl, ⟨h.kp.trans (hkw.mono fun b e => e.elim (fun q => q ▸ h.zm) (h.zz b)), hfd, by rw [hzf]; exact h.zz, h.zm, by rw [hzf]; exact h.zl, h.ne, by rw [ha.1]; exact h.far, hsz, se, .slice a' (szG S m.l.l).length c', sc, hblk, h1.next hkw hz ha, hrw, h3.next hkw hz⟩, ?_⟩
  rw [hblk.cell]
  rfl

theorem FS.slE (h : FS W fb mb Z B S m w) : ∃ a c, w.cell? ⟨mb, 4, none⟩ = some (.slice a m.es.length c) ∧ (m.es.length = 0 ∨ m.es.length ≤ c) ∧ m.es.length ≤ maxLen ∧ w.frozen? ⟨mb, 4, none⟩ = false ∧ ERow W Z S.m m.es w (.slice a m.es.length c) := by
  obtain ⟨se, sl, sc, hb, h1, h2, h3⟩ := h.ls
  obtain ⟨a, c, e, hc, hn⟩ := h1.1.slice_
  subst e
  exact ⟨a, c, by rw [hb.cell]; rfl, hc, hn, hb.frozen _, h1⟩
/-- a cell of a row, set -/
theorem FS.virtE (h : FS W fb mb Z B S m w) {g off n c k i : Nat} (hsl : w.cell? ⟨mb, 4, none⟩ = some (.slice (some ⟨g, off, none⟩) n c)) (hk : k < m.es.length) (hi : i < 4) (x : En) (hx : wfE x) (u : Value) (hset : enL x = (enL (m.es.getD k en0)).set i u)
    (hlay : S.m.isRd = false → x = m.es.getD k en0) (hrd : S.m.isRd = true → m.l.l = [] ∧ m.p.cs = []) : FS W fb mb Z B S { m with es := m.es.set k x } (w.setCell ⟨g, off + k * 4 + i, none⟩ u) := by
  obtain ⟨a, c', hc, -, hn8, -, hrow⟩ := h.slE
  rw [hsl] at hc
  simp only [Option.some.injEq, Value.slice.injEq] at hc
  obtain ⟨rfl, rfl, rfl⟩ := hc
  obtain ⟨g', off', e, hz, hnear, hw, hcells⟩ := hrow.1.at_ hk
  simp only [Option.some.injEq, Addr.mk.injEq, and_true] at e
  obtain ⟨rfl, rfl⟩ := e
  obtain ⟨⟨u0, hu0, hcell⟩, hfz⟩ := hcells i hi
  cases hr : S.m.isRd with
  | false =>
    have hxe := hlay hr
    have hu : u = u0 := by
      have h1 : ((enL (m.es.getD k en0)).set i u)[i]? = some u := by
        rw [List.getElem?_set_self]
        exact (List.getElem?_eq_some_iff.1 hu0).1
      rw [← hset, hxe, hu0] at h1
      exact (Option.some.inj h1).symm
    rw [hu, setCell_same hcell, hxe]
    have e2 : m.es.set k (m.es.getD k en0) = m.es := by
      rw [List.getD_eq_getElem?_getD, List.getElem?_eq_getElem hk]
      exact List.set_getElem_self hk
    rw [e2]
    exact h
  | true =>
    obtain ⟨o1, o2⟩ := hrd hr
    obtain ⟨se, sl, sc, hb, h1, h2, h3⟩ := h.ls
    have hgm : g ≠ mb := fun e => hz (e ▸ h.zm)
    have hgf : g ≠ fb := fun e => hz (e ▸ h.zfb)
    have hsl2 : se = .slice (some ⟨g, off, none⟩) m.es.length c := by
      have := hb.cell 4
      rw [hsl] at this
      exact (Option.some.inj this).symm
    subst hsl2
    have hset2 : ERow W Z S.m (m.es.set k x) (w.setCell ⟨g, off + k * 4 + i, none⟩ u) (.slice (some ⟨g, off, none⟩) m.es.length c) := by
      refine ⟨?_, fun y hy => ?_⟩
      · have := (hrow.1.set1 hk hi u).congr (R' := fun j => enL ((m.es.set k x).getD j en0)) fun j hj => by
          by_cases e : j = k
          · subst e
            rw [if_pos rfl, ← hset, List.getD_eq_getElem?_getD, List.getElem?_set_self hj]
            rfl
          · rw [if_neg e, List.getD_eq_getElem?_getD, List.getElem?_set_ne (fun q => e q.symm), ← List.getD_eq_getElem?_getD]
        rw [List.length_set]
        exact this
      · rcases List.mem_or_eq_of_mem_set hy with q | q
        · exact hrow.2 y q
        · rw [q]; exact hx
    refine ⟨h.kp.fresh (p := ⟨g, off + k * 4 + i, none⟩) (hw hr) u, ⟨h.fd.1.far (fun e => hgf e.symm) _, Md.ok_kp (A := fun b => b = g) h.fd.2.1 (Kp.at _ _ _) (fun b hb e => hnear (e ▸ hb)), h.fd.2.2⟩, h.zz, h.zm, h.zl, h.ne, h.far, h.sz, .slice (some ⟨g, off, none⟩) m.es.length c, sl, sc, hb.far (fun e => hgm e.symm) _, hset2, ?_, ?_⟩
    · exact ⟨by have := h2.1; rw [o1] at this ⊢; exact this.none_, h2.2⟩
    · exact ⟨by have := h3.1; rw [o2] at this ⊢; exact this.none_, by rw [o2]; exact fun h0 => absurd h0 (by decide), h3.2.2⟩
def szE (S : Sf) (l : List En) : List En := if freshF S l.length = true then List.replicate (szN S l.length) en0 else l
theorem szE_le {S : Sf} {l : List En} (h : l.length ≤ 8192) : (szE S l).length ≤ 8192 := by
  unfold szE
  split
  · rename_i q
    rw [List.length_replicate]
    exact (fresh_n q).1
  · exact h
theorem FS.sizedE (h : FS W fb mb Z B S m w) (hn : m.es.length ≤ 8192) (hB : B ≤ 900000) : Calls Try.prog 69 #[.pointer (some ⟨fb, 0, none⟩), .pointer (some ⟨mb, 4, none⟩)] w fun e w' =>
    ∃ a c, e = .returned (.slice a (szE S m.es).length c) ∧ FS W fb mb Z (B + 9) (intF S (m.es.length : Nat)).1 { m with es := szE S m.es } w' ∧ w'.cell? ⟨mb, 4, none⟩ = some (.slice a (szE S m.es).length c) := by
  obtain ⟨a, c, hc, -, -, hf, hrow⟩ := h.slE
  refine (fsizedE_any w fb mb S mb 4 m.es.length c a h.fd hc hn (h.pt _) hf (by have := h.sz; omega)).mono ?_
  rintro e w' ⟨sl', rfl, hk, hfd, hcase⟩
  have ha : Alike S (intF S (m.es.length : Nat)).1 := alike_num _ _ _
  have hsz : (intF S (m.es.length : Nat)).1.m.sz ≤ B + 9 := by have := h.sz; exact Nat.le_trans (numF_sz S.m _) (by omega)
  obtain ⟨se, sl, sc, hb, h1, h2, h3⟩ := h.ls
  have hz : ∀ b, ¬ Z b → ¬ (b = mb ∨ Zf fb S.m b) := fun b hb e => hb (e.elim (fun q => q ▸ h.zm) (h.zz b))
  have hkw : Kp (fun b => b = mb ∨ Zf fb S.m b) w w' := ((Kp.at w ⟨mb, 4, none⟩ sl').mono fun b e => .inl e).trans (hk.mono fun b e => .inr e)
  have hzf : Zf fb (intF S (m.es.length : Nat)).1.m = Zf fb S.m := by funext b; unfold Zf; rw [ha.2.1]
  have hblk : Blk w' mb 33 ((msA m se sl sc).setIfInBounds 4 sl') := blk_after hk hb (h.pt 0).nz
  have hrow' : ∃ a' c', sl' = .slice a' (szE S m.es).length c' ∧ ERow W Z (intF S (m.es.length : Nat)).1.m (szE S m.es) w' sl' := by
    rcases hcase with ⟨hfr, rfl⟩ | ⟨hfr, g, rfl, hg, hbg⟩
    · unfold szE
      rw [if_neg (by rw [hfr]; decide)]
      exact ⟨a, c, rfl, hrow.next hkw hz ha⟩
    · unfold szE
      rw [if_pos hfr]
      have hN := (fresh_n hfr).1
      refine ⟨_, _, by rw [List.length_replicate], ?_, fun y hy => by rw [(List.mem_replicate.1 hy).2]; exact ⟨rfl, rfl, rfl, rfl⟩⟩
      rw [List.length_replicate]
      have hzg : ¬ Z g := fun hzg => by have := h.z_lt hzg; omega
      have hng : ¬ (intF S (m.es.length : Nat)).1.m.near g := fun hng => by rw [ha.1] at hng; have := h.fd.near_lt hng; omega
      refine (RowsM.made (fz := kindF) [.int .u64 0, .int .i64 0, .int .u64 0, .int .u64 0] rfl hbg hN hzg hng (Nat.le_trans h.kp.size hg)).congr fun j hj => ?_
      rw [List.getD_eq_getElem?_getD, List.getElem?_replicate, if_pos hj]
      rfl
  obtain ⟨a', c', rfl, hrw⟩ := hrow'
  refine ⟨a', c', rfl, ⟨h.kp.trans (hkw.mono fun b e => e.elim (fun q => q ▸ h.zm) (h.zz b)), hfd, by rw [hzf]; exact h.zz, h.zm, by rw [hzf]; exact h.zl, h.ne, by rw [ha.1]; exact h.far, hsz, .slice a' (szE S m.es).length c', sl, sc, hblk, hrw, h2.next hkw hz ha, h3.next hkw hz⟩, ?_⟩
  rw [hblk.cell]
  rfl
end
end Go.Proofs.Ytikimmhkfjaijaa
