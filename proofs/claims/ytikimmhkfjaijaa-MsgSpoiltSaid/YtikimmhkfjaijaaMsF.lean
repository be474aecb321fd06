/-
  MESSAGES: a message in memory while its fields are laid or read; single fields (printed by wip/gen-msgf.py).
-/
import Derived.Test.YtikimmhkfjaijaaMsE
import Derived.Test.YtikimmhkfjaijaaQLnB
import Derived.Test.YtikimmhkfjaijaaQStmP
namespace Go.Proofs.Ytikimmhkfjaijaa
open Go.RowKit Reg Go.ChangeShapes

/-- an entry: term, kind, guid -/
structure En where
  T : Int
  K : Int
  g : Gd
  deriving DecidableEq
def enL (e : En) : List Value := [.int .u64 e.T, .int .i64 e.K, .int .u64 e.g.1, .int .u64 e.g.2]
def en0 : En := ⟨0, 0, (0, 0)⟩
def wfE (e : En) : Prop := (Lit.int .u64 e.T).wf = true ∧ (Lit.int .i64 e.K).wf = true ∧ wfG e.g
/-- a message, plainly -/
structure Ms where
  K : Int
  T : Int
  P : Int
  PT : Int
  es : List En
  C : Int
  Y : Bool
  M : Int
  S : Int
  l : Ln
  n : Int
  la : Gd
  ta : Gd
  N : Int
  p : Prt
def msA (m : Ms) (se sl sc : Value) : Array Value :=
  #[.int .i64 m.K, .int .u64 m.T, .int .i64 m.P, .int .u64 m.PT, se, .int .i64 m.C, .bool m.Y, .int .i64 m.M, .int .i64 m.S,
    .int .u64 m.l.E, .int .i64 m.l.B, .bool m.l.L, sl, .int .i64 m.n, .int .u64 m.la.1, .int .u64 m.la.2, .int .u64 m.ta.1, .int .u64 m.ta.2, .int .i64 m.N,
    .int .u64 m.p.b.1, .int .u64 m.p.b.2, .int .u64 m.p.t.1, .int .u64 m.p.t.2, .int .i64 m.p.f, .int .i64 m.p.a, sc]
/-- v is a list of n rows, R j the j-th's cells; far from what turns; free where it must be (fz) or where it is read -/
def RowsM (W : World) (Z : Nat → Prop) (md : Md) (size n : Nat) (fz : Nat → Bool) (R : Nat → List Value) (w : World) (v : Value) : Prop :=
  ∃ a c, v = .slice a n c ∧ (n = 0 ∨ n ≤ c) ∧ n ≤ maxLen ∧ ∀ j, j < n → ∃ g off, a = some ⟨g, off, none⟩ ∧ ¬ Z g ∧ ¬ md.near g ∧ (md.isRd = true → W.heap.size ≤ g) ∧
    ∀ i, i < size → (∃ u, (R j)[i]? = some u ∧ w.cell? ⟨g, off + j * size + i, none⟩ = some u) ∧ (md.isRd = true ∨ fz i = true → w.frozen? ⟨g, off + j * size + i, none⟩ = false)
theorem RowsM.kp {W : World} {Z : Nat → Prop} {md : Md} {size n : Nat} {fz : Nat → Bool} {R : Nat → List Value} {w w' : World} {v : Value} {A : Nat → Prop} (h : RowsM W Z md size n fz R w v) (hk : Kp A w w') (hA : ∀ b, ¬ Z b → ¬ A b) : RowsM W Z md size n fz R w' v := by
  obtain ⟨a, c, h1, h2, h3, h4⟩ := h
  refine ⟨a, c, h1, h2, h3, fun j hj => ?_⟩
  obtain ⟨g, off, k1, k2, k3, k4, k5⟩ := h4 j hj
  refine ⟨g, off, k1, k2, k3, k4, fun i hi => ?_⟩
  obtain ⟨⟨u, r1, r2⟩, r3⟩ := k5 i hi
  have hb := hk.2 g (World.block_lt_of_cell? w _ r2) (hA g k2)
  exact ⟨⟨u, r1, (World.cell?_of_block (a := ⟨g, off + j * size + i, none⟩) hb).trans r2⟩, fun hr => (World.frozen?_of_block (a := ⟨g, off + j * size + i, none⟩) hb).trans (r3 hr)⟩
theorem RowsM.md {W : World} {Z : Nat → Prop} {md md' : Md} {size n : Nat} {fz : Nat → Bool} {R : Nat → List Value} {w : World} {v : Value} (h : RowsM W Z md size n fz R w v) (h1 : md'.near = md.near) (h2 : md'.isRd = md.isRd) : RowsM W Z md' size n fz R w v := by
  unfold RowsM at h ⊢
  rw [h1, h2]
  exact h
def gdL (g : Gd) : List Value := [.int .u64 g.1, .int .u64 g.2]
def noF : Nat → Bool := fun _ => false
def kindF : Nat → Bool := fun i => i == 1
def GRow (W : World) (Z : Nat → Prop) (md : Md) (gs : List Gd) (w : World) (v : Value) : Prop := RowsM W Z md 2 gs.length noF (fun j => gdL (gs.getD j (0, 0))) w v ∧ ∀ g ∈ gs, wfG g
def ERow (W : World) (Z : Nat → Prop) (md : Md) (es : List En) (w : World) (v : Value) : Prop := RowsM W Z md 4 es.length kindF (fun j => enL (es.getD j en0)) w v ∧ ∀ e ∈ es, wfE e
/-- what the block of a slice is -/
def slB : Value → Option Nat
  | .slice (some p) _ _ => some p.block
  | _ => none
def CRow (Z : Nat → Prop) (p : Prt) (w : World) (v : Value) : Prop := InC w v p.cs ∧ (0 < p.cs.length → ∀ b, slB v = some b → ¬ Z b) ∧ wfPr p
theorem InC.kp {w w' : World} {v : Value} {cs : List Cg} {A : Nat → Prop} (h : InC w v cs) (hk : Kp A w w') (hA : 0 < cs.length → ∀ b, slB v = some b → ¬ A b) : InC w' v cs := by
  obtain ⟨a, c, rfl, hm, hx⟩ := h
  refine ⟨a, c, rfl, hm, fun j hj => ?_⟩
  obtain ⟨g, off, rfl, h1, h2⟩ := hx j hj
  have hb := hk.2 g (World.block_lt_of_cell? w _ h1) (hA (by omega) g rfl)
  exact ⟨g, off, rfl, (World.cell?_of_block (a := ⟨g, _, none⟩) hb).trans h1, (World.cell?_of_block (a := ⟨g, _, none⟩) hb).trans h2⟩
/-- the message m in block mb, fields in block fb; W: where it all began; Z: what may turn of it; B: how much is laid at most -/
structure FS (W : World) (fb mb : Nat) (Z : Nat → Prop) (B : Nat) (S : Sf) (m : Ms) (w : World) : Prop where
  kp : Kp Z W w
  fd : Fd w fb mb S
  zz : ∀ b, Zf fb S.m b → Z b
  zm : Z mb
  zl : ∀ b, Z b → b = mb ∨ Zf fb S.m b
  ne : mb ≠ fb
  far : ¬ S.m.near mb
  sz : S.m.sz ≤ B
  ls : ∃ se sl sc, Blk w mb 33 (msA m se sl sc) ∧ ERow W Z S.m m.es w se ∧ GRow W Z S.m m.l.l w sl ∧ CRow Z m.p w sc
section
variable {W : World} {fb mb : Nat} {Z : Nat → Prop} {B : Nat} {S S' : Sf} {m m' : Ms} {w w' : World}
theorem FS.slots (h : FS W fb mb Z B S m w) : w.cell? ⟨fb, 0, none⟩ = some (.pointer (some ⟨mb, 0, none⟩)) := by rw [h.fd.1.cell]; rfl
theorem FS.pt (h : FS W fb mb Z B S m w) (o : Nat) : PtOk w fb S.m mb o := by
  obtain ⟨se, sl, sc, hb, -⟩ := h.ls
  exact pt_of hb h.ne h.far
/-- of the same kind -/
def Alike (S S' : Sf) : Prop := S'.m.near = S.m.near ∧ S'.m.at_ = S.m.at_ ∧ S'.m.isRd = S.m.isRd
theorem Alike.refl (S : Sf) : Alike S S := ⟨rfl, rfl, rfl⟩
theorem Alike.trans {S S' S'' : Sf} (h : Alike S S') (h' : Alike S' S'') : Alike S S'' := ⟨h'.1.trans h.1, h'.2.1.trans h.2.1, h'.2.2.trans h.2.2⟩
theorem alike_num (S : Sf) (n : Nat) (b : Bool) : Alike S ⟨(numF S.m n).1, b⟩ := ⟨numF_near _ _, numF_at _ _, numF_isRd _ _⟩
theorem ERow.next {es : List En} {v : Value} {A : Nat → Prop} (h : ERow W Z S.m es w v) (hk : Kp A w w') (hA : ∀ b, ¬ Z b → ¬ A b) (ha : Alike S S') : ERow W Z S'.m es w' v := ⟨(h.1.kp hk hA).md ha.1 ha.2.2, h.2⟩
theorem GRow.next {gs : List Gd} {v : Value} {A : Nat → Prop} (h : GRow W Z S.m gs w v) (hk : Kp A w w') (hA : ∀ b, ¬ Z b → ¬ A b) (ha : Alike S S') : GRow W Z S'.m gs w' v := ⟨(h.1.kp hk hA).md ha.1 ha.2.2, h.2⟩
theorem CRow.next {p : Prt} {v : Value} {A : Nat → Prop} (h : CRow Z p w v) (hk : Kp A w w') (hA : ∀ b, ¬ Z b → ¬ A b) : CRow Z p w' v := ⟨h.1.kp hk fun hp b hb => hA b (h.2.1 hp b hb), h.2⟩
/-- a cell of the message has turned -/
theorem FS.put (h : FS W fb mb Z B S m w) {o B' : Nat} {u : Value} (hk : Kp (Zf fb S.m) (w.setCell ⟨mb, o, none⟩ u) w') (hf : Fd w' fb mb S') (ha : Alike S S') (hsz : S'.m.sz ≤ B')
    (hA : ∀ se sl sc, (msA m se sl sc).setIfInBounds o u = msA m' se sl sc) (he : m'.es = m.es) (hg : m'.l.l = m.l.l) (hc : m'.p = m.p) : FS W fb mb Z B' S' m' w' := by
  obtain ⟨se, sl, sc, hb, h1, h2, h3⟩ := h.ls
  have hz : ∀ b, ¬ Z b → ¬ (b = mb ∨ Zf fb S.m b) := fun b hb e => hb (e.elim (fun q => q ▸ h.zm) (h.zz b))
  have hkw : Kp (fun b => b = mb ∨ Zf fb S.m b) w w' := ((Kp.at w ⟨mb, o, none⟩ u).mono fun b e => .inl e).trans (hk.mono fun b e => .inr e)
  have hzf : Zf fb S'.m = Zf fb S.m := by funext b; unfold Zf; rw [ha.2.1]
  refine ⟨h.kp.trans (hkw.mono fun b e => e.elim (fun q => q ▸ h.zm) (h.zz b)), hf, by rw [hzf]; exact h.zz, h.zm, by rw [hzf]; exact h.zl, h.ne, by rw [ha.1]; exact h.far, hsz, se, sl, sc, ?_, ?_, ?_, ?_⟩
  · rw [← hA]
    exact blk_after hk hb (h.pt o).nz
  · rw [he]; exact h1.next hkw hz ha
  · rw [hg]; exact h2.next hkw hz ha
  · rw [hc]; exact h3.next hkw hz
/-- two cells side by side have turned -/
theorem FS.put2 (h : FS W fb mb Z B S m w) {o B' : Nat} {u v : Value} (hk : Kp (Zf fb S.m) ((w.setCell ⟨mb, o, none⟩ u).setCell ⟨mb, o + 1, none⟩ v) w') (hf : Fd w' fb mb S') (ha : Alike S S') (hsz : S'.m.sz ≤ B')
    (hA : ∀ se sl sc, ((msA m se sl sc).setIfInBounds o u).setIfInBounds (o + 1) v = msA m' se sl sc) (he : m'.es = m.es) (hg : m'.l.l = m.l.l) (hc : m'.p = m.p) : FS W fb mb Z B' S' m' w' := by
  obtain ⟨se, sl, sc, hb, h1, h2, h3⟩ := h.ls
  have hz : ∀ b, ¬ Z b → ¬ (b = mb ∨ Zf fb S.m b) := fun b hb e => hb (e.elim (fun q => q ▸ h.zm) (h.zz b))
  have hkw : Kp (fun b => b = mb ∨ Zf fb S.m b) w w' := (((Kp.at w ⟨mb, o, none⟩ u).mono fun b e => .inl e).trans ((Kp.at _ ⟨mb, o + 1, none⟩ v).mono fun b e => .inl e)).trans (hk.mono fun b e => .inr e)
  have hzf : Zf fb S'.m = Zf fb S.m := by funext b; unfold Zf; rw [ha.2.1]
  refine ⟨h.kp.trans (hkw.mono fun b e => e.elim (fun q => q ▸ h.zm) (h.zz b)), hf, by rw [hzf]; exact h.zz, h.zm, by rw [hzf]; exact h.zl, h.ne, by rw [ha.1]; exact h.far, hsz, se, sl, sc, ?_, ?_, ?_, ?_⟩
  · rw [← hA]
    exact hk.blk ((hb.set o u).set (o + 1) v) (h.pt o).nz
  · rw [he]; exact h1.next hkw hz ha
  · rw [hg]; exact h2.next hkw hz ha
  · rw [hc]; exact h3.next hkw hz
theorem FS.cellAt (h : FS W fb mb Z B S m w) {o : Nat} {u : Value} (hA : ∀ se sl sc, (msA m se sl sc)[o]? = some u) : w.cell? ⟨mb, o, none⟩ = some u ∧ w.frozen? ⟨mb, o, none⟩ = false := by
  obtain ⟨se, sl, sc, hb, -⟩ := h.ls
  exact ⟨by rw [hb.cell]; exact hA _ _ _, hb.frozen o⟩
theorem u64_nat {x : Int} (h : (Lit.int .u64 x).wf = true) : ∃ n : Nat, x = n ∧ n < 256 ^ 8 := by
  have h2 : (decide ((0 : Int) ≤ x) && decide (x ≤ 18446744073709551615)) = true := h
  simp only [Bool.and_eq_true, decide_eq_true_eq] at h2
  refine ⟨x.toNat, by omega, ?_⟩
  rw [p256]
  omega
theorem nat_u64 {n : Nat} (h : n < 256 ^ 8) : (Lit.int .u64 (n : Int)).wf = true := by
  rw [p256] at h
  show (decide ((0 : Int) ≤ (n : Int)) && decide ((n : Int) ≤ 18446744073709551615)) = true
  rw [decide_eq_true (by omega), decide_eq_true (by omega)]
  rfl
/-- a number, as it is laid or read -/
def numS (S : Sf) (x : Int) : Sf × Int := (⟨(numF S.m x.toNat).1, S.bad⟩, ((numF S.m x.toNat).2 : Nat))
theorem FS.num (h : FS W fb mb Z B S m w) (o : Nat) (x : Int) (hx : (Lit.int .u64 x).wf = true) (hA0 : ∀ se sl sc, (msA m se sl sc)[o]? = some (.int .u64 x)) (hA : ∀ se sl sc, (msA m se sl sc).setIfInBounds o (.int .u64 (numS S x).2) = msA m' se sl sc)
    (he : m'.es = m.es) (hg : m'.l.l = m.l.l) (hc : m'.p = m.p) (hB : B ≤ 900000) :
    Calls Try.prog 36 #[.pointer (some ⟨fb, 0, none⟩), .slice (some ⟨w.heap.size, 0, none⟩) 1 1] (w.alloc (.cells #[.pointer (some ⟨mb, o, none⟩)] 85)) fun e w' =>
      e = .returned (.tuple #[]) ∧ FS W fb mb Z (B + 9) (numS S x).1 m' w' := by
  obtain ⟨n, rfl, hn⟩ := u64_nat hx
  refine (num1_any w fb mb S mb o n h.fd (h.cellAt hA0).1 hn (h.pt o) (by have := h.sz; omega)).mono ?_
  rintro e w' ⟨rfl, h1, h2⟩
  exact ⟨rfl, h.put h1 h2 (alike_num _ _ _) (by have := numF_sz S.m n; have := h.sz; exact Nat.le_trans (numF_sz S.m n) (by omega)) hA he hg hc⟩
theorem FS.int (h : FS W fb mb Z B S m w) (o : Nat) (x : Int) (hx : 0 ≤ x ∧ x ≤ 8192) (hA0 : ∀ se sl sc, (msA m se sl sc)[o]? = some (.int .i64 x)) (hA : ∀ se sl sc, (msA m se sl sc).setIfInBounds o (.int .i64 (intF S x).2) = msA m' se sl sc)
    (he : m'.es = m.es) (hg : m'.l.l = m.l.l) (hc : m'.p = m.p) (hB : B ≤ 900000) :
    Calls Try.prog 22 #[.pointer (some ⟨fb, 0, none⟩), .slice (some ⟨w.heap.size, 0, none⟩) 1 1] (w.alloc (.cells #[.pointer (some ⟨mb, o, none⟩)] 70)) fun e w' =>
      e = .returned (.tuple #[]) ∧ FS W fb mb Z (B + 9) (intF S x).1 m' w' := by
  obtain ⟨n, rfl⟩ : ∃ n : Nat, x = n := ⟨x.toNat, by omega⟩
  have h0 := h.cellAt hA0
  refine (fints_any w fb mb S mb o n h.fd h0.1 (by omega) (h.pt o) h0.2 (by have := h.sz; omega)).mono ?_
  rintro e w' ⟨rfl, h1, h2⟩
  exact ⟨rfl, h.put h1 h2 (alike_num _ _ _) (by have := h.sz; exact Nat.le_trans (numF_sz S.m n) (by omega)) hA he hg hc⟩
theorem FS.yes (h : FS W fb mb Z B S m w) (o : Nat) (b : Bool) (hA0 : ∀ se sl sc, (msA m se sl sc)[o]? = some (.bool b)) (hA : ∀ se sl sc, (msA m se sl sc).setIfInBounds o (.bool (yesF S b).2) = msA m' se sl sc)
    (he : m'.es = m.es) (hg : m'.l.l = m.l.l) (hc : m'.p = m.p) (hB : B ≤ 900000) :
    Calls Try.prog 54 #[.pointer (some ⟨fb, 0, none⟩), .pointer (some ⟨mb, o, none⟩)] w fun e w' =>
      e = .returned (.tuple #[]) ∧ FS W fb mb Z (B + 9) (yesF S b).1 m' w' := by
  have h0 := h.cellAt hA0
  refine (fyes_any w fb mb S mb o b h.fd h0.1 (h.pt o) h0.2 (by have := h.sz; omega)).mono ?_
  rintro e w' ⟨rfl, h1, h2⟩
  exact ⟨rfl, h.put h1 h2 (alike_num _ _ _) (by have := h.sz; exact Nat.le_trans (numF_sz S.m _) (by omega)) hA he hg hc⟩
theorem FS.stamp (h : FS W fb mb Z B S m w) (hx : 0 ≤ m.S ∧ m.S ≤ 9223372036854775807) (hB : B ≤ 900000) :
    Calls Try.prog 56 #[.pointer (some ⟨fb, 0, none⟩)] w fun e w' =>
      e = .returned (.tuple #[]) ∧ FS W fb mb Z (B + 9) (stF S m.S).1 { m with S := (stF S m.S).2 } w' := by
  obtain ⟨n, hn⟩ : ∃ n : Nat, m.S = n := ⟨m.S.toNat, by omega⟩
  have h0 := h.cellAt (o := 8) (u := .int .i64 m.S) fun _ _ _ => rfl
  rw [hn] at h0 ⊢
  refine (fstamp_any w fb mb S n h.fd h0.1 (by omega) (h.pt 8) h0.2 (by have := h.sz; omega)).mono ?_
  rintro e w' ⟨rfl, h1, h2⟩
  exact ⟨rfl, h.put h1 h2 (alike_num _ _ _) (by have := h.sz; exact Nat.le_trans (numF_sz S.m _) (by omega)) (fun _ _ _ => rfl) rfl rfl rfl⟩
/-- a guid, as it is laid or read -/
def gdS (S : Sf) (g : Gd) : Sf × Gd := ((gdF S g.1.toNat g.2.toNat).1, (((gdF S g.1.toNat g.2.toNat).2.1 : Nat), ((gdF S g.1.toNat g.2.toNat).2.2 : Nat)))
theorem alike_gd (S : Sf) (g : Gd) : Alike S (gdS S g).1 := (alike_num S g.1.toNat S.bad).trans (alike_num _ g.2.toNat S.bad)
theorem gdS_sz (S : Sf) (g : Gd) : (gdS S g).1.m.sz ≤ S.m.sz + 18 := by
  have h1 := numF_sz S.m g.1.toNat
  have h2 := numF_sz (numF S.m g.1.toNat).1 g.2.toNat
  show (numF (numF S.m g.1.toNat).1 g.2.toNat).1.sz ≤ _
  omega
theorem gdS_wf {S : Sf} {g : Gd} (h : wfG g) : wfG (gdS S g).2 := by
  obtain ⟨a, b⟩ := g
  obtain ⟨x, h1, h2⟩ := u64_nat h.1
  obtain ⟨y, h3, h4⟩ := u64_nat h.2
  dsimp only at h1 h3
  subst h1; subst h3
  exact ⟨nat_u64 (numF_lt _ _ h2), nat_u64 (numF_lt _ _ h4)⟩
theorem FS.guid (h : FS W fb mb Z B S m w) (o : Nat) (g : Gd) (hg0 : wfG g) (hA0 : ∀ se sl sc, (msA m se sl sc)[o]? = some (.int .u64 g.1)) (hA1 : ∀ se sl sc, (msA m se sl sc)[o + 1]? = some (.int .u64 g.2))
    (hA : ∀ se sl sc, ((msA m se sl sc).setIfInBounds o (.int .u64 (gdS S g).2.1)).setIfInBounds (o + 1) (.int .u64 (gdS S g).2.2) = msA m' se sl sc)
    (he : m'.es = m.es) (hg : m'.l.l = m.l.l) (hc : m'.p = m.p) (hB : B ≤ 900000) :
    Calls Try.prog 57 #[.pointer (some ⟨fb, 0, none⟩), .pointer (some ⟨mb, o, none⟩)] w fun e w' =>
      e = .returned (.tuple #[]) ∧ FS W fb mb Z (B + 18) (gdS S g).1 m' w' := by
  obtain ⟨a, b⟩ := g
  obtain ⟨x, h1, h2⟩ := u64_nat hg0.1
  obtain ⟨y, h3, h4⟩ := u64_nat hg0.2
  dsimp only at h1 h3
  subst h1; subst h3
  refine (fguid_any w fb mb S mb o x y h.fd (h.cellAt hA0).1 (h.cellAt hA1).1 h2 h4 (h.pt o) (h.pt (o + 1)) (by have := h.sz; omega)).mono ?_
  rintro e w' ⟨rfl, k1, k2⟩
  exact ⟨rfl, h.put2 k1 k2 (alike_gd S (x, y)) (by have := h.sz; have := gdS_sz S (x, y); omega) hA he hg hc⟩
end
end Go.Proofs.Ytikimmhkfjaijaa
