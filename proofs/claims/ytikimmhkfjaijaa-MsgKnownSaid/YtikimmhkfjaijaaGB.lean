/-
  MESSAGES: MsF, MsG, MsH, MsI, MsJ, in one text (merged by wip/merge.py).
-/
import Derived.Test.YtikimmhkfjaijaaGA
import Derived.Test.YtikimmhkfjaijaaQLnB
import Derived.Test.YtikimmhkfjaijaaQStmP
namespace Go.Proofs.Ytikimmhkfjaijaa
open Go.RowKit Reg Go.ChangeShapes

/-- an entry: term, kind, guid -/
structure En where
  T : Int
  K : Int
  g : Gd
  deriving DecidableEq
def enL (e : En) : List Value := [.int .u64 e.T, .int .i64 e.K, .int .u64 e.g.1, .int .u64 e.g.2]
def en0 : En := ⟨0, 0, (0, 0)⟩
def wfE (e : En) : Prop := (Lit.int .u64 e.T).wf = true ∧ (Lit.int .i64 e.K).wf = true ∧ wfG e.g
/-- a message, plainly -/
structure Ms where
  K : Int
  T : Int
  P : Int
  PT : Int
  es : List En
  C : Int
  Y : Bool
  M : Int
  S : Int
  l : Ln
  n : Int
  la : Gd
  ta : Gd
  N : Int
  p : Prt
def msA (m : Ms) (se sl sc : Value) : Array Value :=
  #[.int .i64 m.K, .int .u64 m.T, .int .i64 m.P, .int .u64 m.PT, se, .int .i64 m.C, .bool m.Y, .int .i64 m.M, .int .i64 m.S,
    .int .u64 m.l.E, .int .i64 m.l.B, .bool m.l.L, sl, .int .i64 m.n, .int .u64 m.la.1, .int .u64 m.la.2, .int .u64 m.ta.1, .int .u64 m.ta.2, .int .i64 m.N,
    .int .u64 m.p.b.1, .int .u64 m.p.b.2, .int .u64 m.p.t.1, .int .u64 m.p.t.2, .int .i64 m.p.f, .int .i64 m.p.a, sc]
/-- v is a list of n rows, R j the j-th's cells; far from what turns; free where it must be (fz) or where it is read -/
def RowsM (W : World) (Z : Nat → Prop) (md : Md) (size n : Nat) (fz : Nat → Bool) (R : Nat → List Value) (w : World) (v : Value) : Prop :=
  ∃ a c, v = .slice a n c ∧ (n = 0 ∨ n ≤ c) ∧ n ≤ maxLen ∧ ∀ j, j < n → ∃ g off, a = some ⟨g, off, none⟩ ∧ ¬ Z g ∧ ¬ md.near g ∧ (md.isRd = true → W.heap.size ≤ g) ∧
    ∀ i, i < size → (∃ u, (R j)[i]? = some u ∧ w.cell? ⟨g, off + j * size + i, none⟩ = some u) ∧ (md.isRd = true ∨ fz i = true → w.frozen? ⟨g, off + j * size + i, none⟩ = false)
theorem RowsM.kp {W : World} {Z : Nat → Prop} {md : Md} {size n : Nat} {fz : Nat → Bool} {R : Nat → List Value} {w w' : World} {v : Value} {A : Nat → Prop} (h : RowsM W Z md size n fz R w v) (hk : Kp A w w') (hA : ∀ b, ¬ Z b → ¬ A b) : RowsM W Z md size n fz R w' v := by
  obtain ⟨a, c, h1, h2, h3, h4⟩ := h
  refine ⟨a, c, h1, h2, h3, fun j hj => ?_⟩
  obtain ⟨g, off, k1, k2, k3, k4, k5⟩ := h4 j hj
  refine ⟨g, off, k1, k2, k3, k4, fun i hi => ?_⟩
  obtain ⟨⟨u, r1, r2⟩, r3⟩ := k5 i hi
  have hb := hk.2 g (World.block_lt_of_cell? w _ r2) (hA g k2)
  exact ⟨⟨u, r1, (World.cell?_of_block (a := ⟨g, off + j * size + i, none⟩) hb).trans r2⟩, fun hr => (World.frozen?_of_block (a := ⟨g, off + j * size + i, none⟩) hb).trans (r3 hr)⟩
theorem RowsM.md {W : World} {Z : Nat → Prop} {md md' : Md} {size n : Nat} {fz : Nat → Bool} {R : Nat → List Value} {w : World} {v : Value} (h : RowsM W Z md size n fz R w v) (h1 : md'.near = md.near) (h2 : md'.isRd = md.isRd) : RowsM W Z md' size n fz R w v := by
  unfold RowsM at h ⊢
  rw [h1, h2]
  exact h
def gdL (g : Gd) : List Value := [.int .u64 g.1, .int .u64 g.2]
def noF : Nat → Bool := fun _ => false
def kindF : Nat → Bool := fun i => i == 1
def GRow (W : World) (Z : Nat → Prop) (md : Md) (gs : List Gd) (w : World) (v : Value) : Prop := RowsM W Z md 2 gs.length noF (fun j => gdL (gs.getD j (0, 0))) w v ∧ ∀ g ∈ gs, wfG g
def ERow (W : World) (Z : Nat → Prop) (md : Md) (es : List En) (w : World) (v : Value) : Prop := RowsM W Z md 4 es.length kindF (fun j => enL (es.getD j en0)) w v ∧ ∀ e ∈ es, wfE e
/-- what the block of a slice is -/
def slB : Value → Option Nat
  | .slice (some p) _ _ => some p.block
  | _ => none
def CRow (Z : Nat → Prop) (p : Prt) (w : World) (v : Value) : Prop := InC w v p.cs ∧ (0 < p.cs.length → ∀ b, slB v = some b → ¬ Z b) ∧ wfPr p
theorem InC.kp {w w' : World} {v : Value} {cs : List Cg} {A : Nat → Prop} (h : InC w v cs) (hk : Kp A w w') (hA : 0 < cs.length → ∀ b, slB v = some b → ¬ A b) : InC w' v cs := by
  obtain ⟨a, c, rfl, hm, hx⟩ := h
  refine ⟨a, c, rfl, hm, fun j hj => ?_⟩
  obtain ⟨g, off, rfl, h1, h2⟩ := hx j hj
  have hb := hk.2 g (World.block_lt_of_cell? w _ h1) (hA (by omega) g rfl)
  exact ⟨g, off, rfl, (World.cell?_of_block (a := ⟨g, _, none⟩) hb).trans h1, (World.cell?_of_block (a := ⟨g, _, none⟩) hb).trans h2⟩
/-- the message m in block mb, fields in block fb; W: where it all began; Z: what may turn of it; B: how much is laid at most -/
structure FS (W : World) (fb mb : Nat) (Z : Nat → Prop) (B : Nat) (S : Sf) (m : Ms) (w : World) : Prop where
  kp : Kp Z W w
  fd : Fd w fb mb S
  zz : ∀ b, Zf fb S.m b → Z b
  zm : Z mb
  zl : ∀ b, Z b → b = mb ∨ Zf fb S.m b
  ne : mb ≠ fb
  far : ¬ S.m.near mb
  sz : S.m.sz ≤ B
  ls : ∃ se sl sc, Blk w mb 33 (msA m se sl sc) ∧ ERow W Z S.m m.es w se ∧ GRow W Z S.m m.l.l w sl ∧ CRow Z m.p w sc
section
variable {W : World} {fb mb : Nat} {Z : Nat → Prop} {B : Nat} {S S' : Sf} {m m' : Ms} {w w' : World}
theorem FS.slots (h : FS W fb mb Z B S m w) : w.cell? ⟨fb, 0, none⟩ = some (.pointer (some ⟨mb, 0, none⟩)) := by rw [h.fd.1.cell]; rfl
theorem FS.pt (h : FS W fb mb Z B S m w) (o : Nat) : PtOk w fb S.m mb o := by
  obtain ⟨se, sl, sc, hb, -⟩ := h.ls
  exact pt_of hb h.ne h.far
/-- of the same kind -/
def Alike (S S' : Sf) : Prop := S'.m.near = S.m.near ∧ S'.m.at_ = S.m.at_ ∧ S'.m.isRd = S.m.isRd
theorem Alike.refl (S : Sf) : Alike S S := ⟨rfl, rfl, rfl⟩
theorem Alike.trans {S S' S'' : Sf} (h : Alike S S') (h' : Alike S' S'') : Alike S S'' := ⟨h'.1.trans h.1, h'.2.1.trans h.2.1, h'.2.2.trans h.2.2⟩
theorem alike_num (S : Sf) (n : Nat) (b : Bool) : Alike S ⟨(numF S.m n).1, b⟩ := ⟨numF_near _ _, numF_at _ _, numF_isRd _ _⟩
theorem ERow.next {es : List En} {v : Value} {A : Nat → Prop} (h : ERow W Z S.m es w v) (hk : Kp A w w') (hA : ∀ b, ¬ Z b → ¬ A b) (ha : Alike S S') : ERow W Z S'.m es w' v := ⟨(h.1.kp hk hA).md ha.1 ha.2.2, h.2⟩
theorem GRow.next {gs : List Gd} {v : Value} {A : Nat → Prop} (h : GRow W Z S.m gs w v) (hk : Kp A w w') (hA : ∀ b, ¬ Z b → ¬ A b) (ha : Alike S S') : GRow W Z S'.m gs w' v := ⟨(h.1.kp hk hA).md ha.1 ha.2.2, h.2⟩
theorem CRow.next {p : Prt} {v : Value} {A : Nat → Prop} (h : CRow Z p w v) (hk : Kp A w w') (hA : ∀ b, ¬ Z b → ¬ A b) : CRow Z p w' v := ⟨h.1.kp hk fun hp b hb => hA b (h.2.1 hp b hb), h.2⟩
/-- a cell of the message has turned -/
theorem FS.put (h : FS W fb mb Z B S m w) {o B' : Nat} {u : Value} (hk : Kp (Zf fb S.m) (w.setCell ⟨mb, o, none⟩ u) w') (hf : Fd w' fb mb S') (ha : Alike S S') (hsz : S'.m.sz ≤ B')
    (hA : ∀ se sl sc, (msA m se sl sc).setIfInBounds o u = msA m' se sl sc) (he : m'.es = m.es) (hg : m'.l.l = m.l.l) (hc : m'.p = m.p) : FS W fb mb Z B' S' m' w' := by
  obtain ⟨se, sl, sc, hb, h1, h2, h3⟩ := h.ls
  have hz : ∀ b, ¬ Z b → ¬ (b = mb ∨ Zf fb S.m b) := fun b hb e => hb (e.elim (fun q => q ▸ h.zm) (h.zz b))
  have hkw : Kp (fun b => b = mb ∨ Zf fb S.m b) w w' := ((Kp.at w ⟨mb, o, none⟩ u).mono fun b e => .inl e).trans (hk.mono fun b e => .inr e)
  have hzf : Zf fb S'.m = Zf fb S.m := by funext b; unfold Zf; rw [ha.2.1]
  refine ⟨h.kp.trans (hkw.mono fun b e => e.elim (fun q => q ▸ h.zm) (h.zz b)), hf, by rw [hzf]; exact h.zz, h.zm, by rw [hzf]; exact h.zl, h.ne, by rw [ha.1]; exact h.far, hsz, se, sl, sc, ?_, ?_, ?_, ?_⟩
  · rw [← hA]
    exact blk_after hk hb (h.pt o).nz
  · rw [he]; exact h1.next hkw hz ha
  · rw [hg]; exact h2.next hkw hz ha
  · rw [hc]; exact h3.next hkw hz
/-- two cells side by side have turned -/
theorem FS.put2 (h : FS W fb mb Z B S m w) {o B' : Nat} {u v : Value} (hk : Kp (Zf fb S.m) ((w.setCell ⟨mb, o, none⟩ u).setCell ⟨mb, o + 1, none⟩ v) w') (hf : Fd w' fb mb S') (ha : Alike S S') (hsz : S'.m.sz ≤ B')
    (hA : ∀ se sl sc, ((msA m se sl sc).setIfInBounds o u).setIfInBounds (o + 1) v = msA m' se sl sc) (he : m'.es = m.es) (hg : m'.l.l = m.l.l) (hc : m'.p = m.p) : FS W fb mb Z B' S' m' w' := by
  obtain ⟨se, sl, sc, hb, h1, h2, h3⟩ := h.ls
  have hz : ∀ b, ¬ Z b → ¬ (b = mb ∨ Zf fb S.m b) := fun b hb e => hb (e.elim (fun q => q ▸ h.zm) (h.zz b))
  have hkw : Kp (fun b => b = mb ∨ Zf fb S.m b) w w' := (((Kp.at w ⟨mb, o, none⟩ u).mono fun b e => .inl e).trans ((Kp.at _ ⟨mb, o + 1, none⟩ v).mono fun b e => .inl e)).trans (hk.mono fun b e => .inr e)
  have hzf : Zf fb S'.m = Zf fb S.m := by funext b; unfold Zf; rw [ha.2.1]
  refine ⟨h.kp.trans (hkw.mono fun b e => e.elim (fun q => q ▸ h.zm) (h.zz b)), hf, by rw [hzf]; exact h.zz, h.zm, by rw [hzf]; exact h.zl, h.ne, by rw [ha.1]; exact h.far, hsz, se, sl, sc, ?_, ?_, ?_, ?_⟩
  · rw [← hA]
    exact hk.blk ((hb.set o u).set (o + 1) v) (h.pt o).nz
  · rw [he]; exact h1.next hkw hz ha
  · rw [hg]; exact h2.next hkw hz ha
  · rw [hc]; exact h3.next hkw hz
theorem FS.cellAt (h : FS W fb mb Z B S m w) {o : Nat} {u : Value} (hA : ∀ se sl sc, (msA m se sl sc)[o]? = some u) : w.cell? ⟨mb, o, none⟩ = some u ∧ w.frozen? ⟨mb, o, none⟩ = false := by
  obtain ⟨se, sl, sc, hb, -⟩ := h.ls
  exact ⟨by rw [hb.cell]; exact hA _ _ _, hb.frozen o⟩
theorem u64_nat {x : Int} (h : (Lit.int .u64 x).wf = true) : ∃ n : Nat, x = n ∧ n < 256 ^ 8 := by
  have h2 : (decide ((0 : Int) ≤ x) && decide (x ≤ 18446744073709551615)) = true := h
  simp only [Bool.and_eq_true, decide_eq_true_eq] at h2
  refine ⟨x.toNat, by omega, ?_⟩
  rw [p256]
  omega
theorem nat_u64 {n : Nat} (h : n < 256 ^ 8) : (Lit.int .u64 (n : Int)).wf = true := by
  rw [p256] at h
  show (decide ((0 : Int) ≤ (n : Int)) && decide ((n : Int) ≤ 18446744073709551615)) = true
  rw [decide_eq_true (by omega), decide_eq_true (by omega)]
  rfl
/-- a number, as it is laid or read -/
def numS (S : Sf) (x : Int) : Sf × Int := (⟨(numF S.m x.toNat).1, S.bad⟩, ((numF S.m x.toNat).2 : Nat))
theorem FS.num (h : FS W fb mb Z B S m w) (o : Nat) (x : Int) (hx : (Lit.int .u64 x).wf = true) (hA0 : ∀ se sl sc, (msA m se sl sc)[o]? = some (.int .u64 x)) (hA : ∀ se sl sc, (msA m se sl sc).setIfInBounds o (.int .u64 (numS S x).2) = msA m' se sl sc)
    (he : m'.es = m.es) (hg : m'.l.l = m.l.l) (hc : m'.p = m.p) (hB : B ≤ 900000) :
    Calls Try.prog 36 #[.pointer (some ⟨fb, 0, none⟩), .slice (some ⟨w.heap.size, 0, none⟩) 1 1] (w.alloc (.cells #[.pointer (some ⟨mb, o, none⟩)] 85)) fun e w' =>
      e = .returned (.tuple #[]) ∧ FS W fb mb Z (B + 9) (numS S x).1 m' w' := by
  obtain ⟨n, rfl, hn⟩ := u64_nat hx
  refine (num1_any w fb mb S mb o n h.fd (h.cellAt hA0).1 hn (h.pt o) (by have := h.sz; omega)).mono ?_
  rintro e w' ⟨rfl, h1, h2⟩
  exact ⟨rfl, h.put h1 h2 (alike_num _ _ _) (by have := numF_sz S.m n; have := h.sz; exact Nat.le_trans (numF_sz S.m n) (by omega)) hA he hg hc⟩
theorem FS.int (h : FS W fb mb Z B S m w) (o : Nat) (x : Int) (hx : 0 ≤ x ∧ x ≤ 8192) (hA0 : ∀ se sl sc, (msA m se sl sc)[o]? = some (.int .i64 x)) (hA : ∀ se sl sc, (msA m se sl sc).setIfInBounds o (.int .i64 (intF S x).2) = msA m' se sl sc)
    (he : m'.es = m.es) (hg : m'.l.l = m.l.l) (hc : m'.p = m.p) (hB : B ≤ 900000) :
    Calls Try.prog 22 #[.pointer (some ⟨fb, 0, none⟩), .slice (some ⟨w.heap.size, 0, none⟩) 1 1] (w.alloc (.cells #[.pointer (some ⟨mb, o, none⟩)] 70)) fun e w' =>
      e = .returned (.tuple #[]) ∧ FS W fb mb Z (B + 9) (intF S x).1 m' w' := by
  obtain ⟨n, rfl⟩ : ∃ n : Nat, x = n := ⟨x.toNat, by omega⟩
  have h0 := h.cellAt hA0
  refine (fints_any w fb mb S mb o n h.fd h0.1 (by omega) (h.pt o) h0.2 (by have := h.sz; omega)).mono ?_
  rintro e w' ⟨rfl, h1, h2⟩
  exact ⟨rfl, h.put h1 h2 (alike_num _ _ _) (by have := h.sz; exact Nat.le_trans (numF_sz S.m n) (by omega)) hA he hg hc⟩
theorem FS.yes (h : FS W fb mb Z B S m w) (o : Nat) (b : Bool) (hA0 : ∀ se sl sc, (msA m se sl sc)[o]? = some (.bool b)) (hA : ∀ se sl sc, (msA m se sl sc).setIfInBounds o (.bool (yesF S b).2) = msA m' se sl sc)
    (he : m'.es = m.es) (hg : m'.l.l = m.l.l) (hc : m'.p = m.p) (hB : B ≤ 900000) :
    Calls Try.prog 54 #[.pointer (some ⟨fb, 0, none⟩), .pointer (some ⟨mb, o, none⟩)] w fun e w' =>
      e = .returned (.tuple #[]) ∧ FS W fb mb Z (B + 9) (yesF S b).1 m' w' := by
  have h0 := h.cellAt hA0
  refine (fyes_any w fb mb S mb o b h.fd h0.1 (h.pt o) h0.2 (by have := h.sz; omega)).mono ?_
  rintro e w' ⟨rfl, h1, h2⟩
  exact ⟨rfl, h.put h1 h2 (alike_num _ _ _) (by have := h.sz; exact Nat.le_trans (numF_sz S.m _) (by omega)) hA he hg hc⟩
theorem FS.stamp (h : FS W fb mb Z B S m w) (hx : 0 ≤ m.S ∧ m.S ≤ 9223372036854775807) (hB : B ≤ 900000) :
    Calls Try.prog 56 #[.pointer (some ⟨fb, 0, none⟩)] w fun e w' =>
      e = .returned (.tuple #[]) ∧ FS W fb mb Z (B + 9) (stF S m.S).1 { m with S := (stF S m.S).2 } w' := by
  obtain ⟨n, hn⟩ : ∃ n : Nat, m.S = n := ⟨m.S.toNat, by omega⟩
  have h0 := h.cellAt (o := 8) (u := .int .i64 m.S) fun _ _ _ => rfl
  rw [hn] at h0 ⊢
  refine (fstamp_any w fb mb S n h.fd h0.1 (by omega) (h.pt 8) h0.2 (by have := h.sz; omega)).mono ?_
  rintro e w' ⟨rfl, h1, h2⟩
  exact ⟨rfl, h.put h1 h2 (alike_num _ _ _) (by have := h.sz; exact Nat.le_trans (numF_sz S.m _) (by omega)) (fun _ _ _ => rfl) rfl rfl rfl⟩
/-- a guid, as it is laid or read -/
def gdS (S : Sf) (g : Gd) : Sf × Gd := ((gdF S g.1.toNat g.2.toNat).1, (((gdF S g.1.toNat g.2.toNat).2.1 : Nat), ((gdF S g.1.toNat g.2.toNat).2.2 : Nat)))
theorem alike_gd (S : Sf) (g : Gd) : Alike S (gdS S g).1 := (alike_num S g.1.toNat S.bad).trans (alike_num _ g.2.toNat S.bad)
theorem gdS_sz (S : Sf) (g : Gd) : (gdS S g).1.m.sz ≤ S.m.sz + 18 := by
  have h1 := numF_sz S.m g.1.toNat
  have h2 := numF_sz (numF S.m g.1.toNat).1 g.2.toNat
  show (numF (numF S.m g.1.toNat).1 g.2.toNat).1.sz ≤ _
  omega
theorem gdS_wf {S : Sf} {g : Gd} (h : wfG g) : wfG (gdS S g).2 := by
  obtain ⟨a, b⟩ := g
  obtain ⟨x, h1, h2⟩ := u64_nat h.1
  obtain ⟨y, h3, h4⟩ := u64_nat h.2
  dsimp only at h1 h3
  subst h1; subst h3
  exact ⟨nat_u64 (numF_lt _ _ h2), nat_u64 (numF_lt _ _ h4)⟩
theorem FS.guid (h : FS W fb mb Z B S m w) (o : Nat) (g : Gd) (hg0 : wfG g) (hA0 : ∀ se sl sc, (msA m se sl sc)[o]? = some (.int .u64 g.1)) (hA1 : ∀ se sl sc, (msA m se sl sc)[o + 1]? = some (.int .u64 g.2))
    (hA : ∀ se sl sc, ((msA m se sl sc).setIfInBounds o (.int .u64 (gdS S g).2.1)).setIfInBounds (o + 1) (.int .u64 (gdS S g).2.2) = msA m' se sl sc)
    (he : m'.es = m.es) (hg : m'.l.l = m.l.l) (hc : m'.p = m.p) (hB : B ≤ 900000) :
    Calls Try.prog 57 #[.pointer (some ⟨fb, 0, none⟩), .pointer (some ⟨mb, o, none⟩)] w fun e w' =>
      e = .returned (.tuple #[]) ∧ FS W fb mb Z (B + 18) (gdS S g).1 m' w' := by
  obtain ⟨a, b⟩ := g
  obtain ⟨x, h1, h2⟩ := u64_nat hg0.1
  obtain ⟨y, h3, h4⟩ := u64_nat hg0.2
  dsimp only at h1 h3
  subst h1; subst h3
  refine (fguid_any w fb mb S mb o x y h.fd (h.cellAt hA0).1 (h.cellAt hA1).1 h2 h4 (h.pt o) (h.pt (o + 1)) (by have := h.sz; omega)).mono ?_
  rintro e w' ⟨rfl, k1, k2⟩
  exact ⟨rfl, h.put2 k1 k2 (alike_gd S (x, y)) (by have := h.sz; have := gdS_sz S (x, y); omega) hA he hg hc⟩
end
end Go.Proofs.Ytikimmhkfjaijaa
namespace Go.Proofs.Ytikimmhkfjaijaa
open Go.RowKit Reg Go.ChangeShapes

theorem row_apart {s j k i i' : Nat} (hi : i < s) (hi' : i' < s) (h : j * s + i = k * s + i') : j = k ∧ i = i' := by
  rcases Nat.lt_trichotomy j k with q | q | q
  · have := Nat.mul_le_mul_right s (show j + 1 ≤ k from q)
    rw [Nat.succ_mul] at this
    omega
  · subst q
    omega
  · have := Nat.mul_le_mul_right s (show k + 1 ≤ j from q)
    rw [Nat.succ_mul] at this
    omega
theorem RowsM.set1 {W : World} {Z : Nat → Prop} {md : Md} {size n : Nat} {fz : Nat → Bool} {R : Nat → List Value} {w : World} {g off c k i : Nat} (h : RowsM W Z md size n fz R w (.slice (some ⟨g, off, none⟩) n c)) (hk : k < n) (hi : i < size) (u : Value) :
    RowsM W Z md size n fz (fun j => if j = k then (R j).set i u else R j) (w.setCell ⟨g, off + k * size + i, none⟩ u) (.slice (some ⟨g, off, none⟩) n c) := by
  obtain ⟨a, c', h1, h2, h3, h4⟩ := h
  simp only [Value.slice.injEq, true_and] at h1
  obtain ⟨rfl, rfl⟩ := h1
  refine ⟨_, _, rfl, h2, h3, fun j hj => ?_⟩
  obtain ⟨g', off', k1, k2, k3, k4, k5⟩ := h4 j hj
  simp only [Option.some.injEq, Addr.mk.injEq, and_true] at k1
  obtain ⟨rfl, rfl⟩ := k1
  refine ⟨_, _, rfl, k2, k3, k4, fun i' hi' => ?_⟩
  obtain ⟨⟨v, r1, r2⟩, r3⟩ := k5 i' hi'
  refine ⟨?_, fun hr => by rw [World.frozen?_setCell]; exact r3 hr⟩
  by_cases e : j = k ∧ i' = i
  · obtain ⟨rfl, rfl⟩ := e
    refine ⟨u, ?_, World.cell?_setCell_same _ _ _ r2⟩
    dsimp only
    rw [if_pos rfl, List.getElem?_set_self]
    exact (List.getElem?_eq_some_iff.1 r1).1
  · refine ⟨v, ?_, ?_⟩
    · dsimp only
      by_cases ejk : j = k
      · rw [if_pos ejk, List.getElem?_set_ne (by omega)]
        exact r1
      · rw [if_neg ejk]
        exact r1
    · rw [World.cell?_setCell_other _ _ _ _ (fun e2 => ?_)]
      · exact r2
      · simp only [Addr.mk.injEq, true_and, and_true] at e2
        have := row_apart hi' hi (show j * size + i' = k * size + i by omega)
        exact e this
theorem RowsM.congr {W : World} {Z : Nat → Prop} {md : Md} {size n : Nat} {fz : Nat → Bool} {R R' : Nat → List Value} {w : World} {v : Value} (h : RowsM W Z md size n fz R w v) (e : ∀ j, j < n → R' j = R j) : RowsM W Z md size n fz R' w v := by
  obtain ⟨a, c, h1, h2, h3, h4⟩ := h
  refine ⟨a, c, h1, h2, h3, fun j hj => ?_⟩
  obtain ⟨g, off, k1, k2, k3, k4, k5⟩ := h4 j hj
  refine ⟨g, off, k1, k2, k3, k4, fun i hi => ?_⟩
  rw [e j hj]
  exact k5 i hi
theorem RowsM.none_ {W : World} {Z : Nat → Prop} {md : Md} {size : Nat} {fz : Nat → Bool} {R : Nat → List Value} {w w' : World} {v : Value} (h : RowsM W Z md size 0 fz R w v) : RowsM W Z md size 0 fz R w' v := by
  obtain ⟨a, c, h1, h2, h3, h4⟩ := h
  exact ⟨a, c, h1, h2, h3, fun j hj => by omega⟩
theorem InC.none_ {w w' : World} {v : Value} (h : InC w v []) : InC w' v [] := by
  obtain ⟨a, c, h1, h2, h3⟩ := h
  exact ⟨a, c, h1, h2, fun j hj => by simp at hj⟩
theorem RowsM.slice_ {W : World} {Z : Nat → Prop} {md : Md} {size n : Nat} {fz : Nat → Bool} {R : Nat → List Value} {w : World} {v : Value} (h : RowsM W Z md size n fz R w v) : ∃ a c, v = .slice a n c ∧ (n = 0 ∨ n ≤ c) ∧ n ≤ maxLen := by
  obtain ⟨a, c, h1, h2, h3, h4⟩ := h
  exact ⟨a, c, h1, h2, h3⟩
theorem RowsM.at_ {W : World} {Z : Nat → Prop} {md : Md} {size n : Nat} {fz : Nat → Bool} {R : Nat → List Value} {w : World} {a : Option Addr} {c : Nat} (h : RowsM W Z md size n fz R w (.slice a n c)) {j : Nat} (hj : j < n) :
    ∃ g off, a = some ⟨g, off, none⟩ ∧ ¬ Z g ∧ ¬ md.near g ∧ (md.isRd = true → W.heap.size ≤ g) ∧ ∀ i, i < size → (∃ u, (R j)[i]? = some u ∧ w.cell? ⟨g, off + j * size + i, none⟩ = some u) ∧ (md.isRd = true ∨ fz i = true → w.frozen? ⟨g, off + j * size + i, none⟩ = false) := by
  obtain ⟨a', c', h1, h2, h3, h4⟩ := h
  simp only [Value.slice.injEq, true_and] at h1
  obtain ⟨rfl, rfl⟩ := h1
  exact h4 j hj
/-- rows that have just been made -/
theorem RowsM.made {W : World} {Z : Nat → Prop} {md : Md} {size n g : Nat} {fz : Nat → Bool} {w : World} {t : TypeId} (zs : List Value) (hzs : zs.length = size) (hb : Blk w g t (madeCells zs.toArray (n * size))) (hn : n ≤ 8192) (hZ : ¬ Z g) (hm : ¬ md.near g) (hW : W.heap.size ≤ g) :
    RowsM W Z md size n fz (fun _ => zs) w (.slice (some ⟨g, 0, none⟩) n n) := by
  refine ⟨_, _, rfl, .inr (Nat.le_refl _), Nat.le_trans hn (by decide), fun j hj => ⟨g, 0, rfl, hZ, hm, fun _ => hW, fun i hi => ⟨?_, fun _ => hb.frozen _⟩⟩⟩
  have hlt : j * size + i < n * size := by
    have := Nat.mul_le_mul_right size (show j + 1 ≤ n from hj)
    rw [Nat.succ_mul] at this
    omega
  refine ⟨zs[i], by rw [List.getElem?_eq_getElem], ?_⟩
  rw [hb.cell, Nat.zero_add]
  unfold madeCells
  rw [Array.getElem?_map, Array.getElem?_range]
  have hmod : (j * size + i) % size = i := by rw [Nat.mul_comm, Nat.mul_add_mod]; exact Nat.mod_eq_of_lt hi
  have hi2 : i < zs.length := by omega
  simp [hlt, hzs, hmod]
  rw [List.getElem?_eq_getElem hi2]
  rfl
section
variable {W : World} {fb mb : Nat} {Z : Nat → Prop} {B : Nat} {S S' : Sf} {m m' : Ms} {w w' : World}
/-- only what is fields' own has turned -/
theorem FS.turn (h : FS W fb mb Z B S m w) {B' : Nat} (hk : Kp (Zf fb S.m) w w') (hf : Fd w' fb mb S') (ha : Alike S S') (hsz : S'.m.sz ≤ B') : FS W fb mb Z B' S' m w' := by
  obtain ⟨se, sl, sc, hb, h1, h2, h3⟩ := h.ls
  have hz : ∀ b, ¬ Z b → ¬ Zf fb S.m b := fun b hb e => hb (h.zz b e)
  have hzf : Zf fb S'.m = Zf fb S.m := by funext b; unfold Zf; rw [ha.2.1]
  exact ⟨h.kp.trans (hk.mono h.zz), hf, by rw [hzf]; exact h.zz, h.zm, by rw [hzf]; exact h.zl, h.ne, by rw [ha.1]; exact h.far, hsz, se, sl, sc, hk.blk hb (h.pt 0).nz, h1.next hk hz ha, h2.next hk hz ha, h3.next hk hz⟩
theorem FS.zfb (h : FS W fb mb Z B S m w) : Z fb := h.zz fb (.inl rfl)
/-- the kind of slots does not matter -/
theorem FS.z_lt (h : FS W fb mb Z B S m w) {b : Nat} (hb : Z b) : b < w.heap.size := by
  rcases h.zl b hb with e | e
  · obtain ⟨se, sl, sc, hb, -⟩ := h.ls
    rw [e]
    exact hb.lt
  · exact Zf_lt h.fd e

theorem FS.slG (h : FS W fb mb Z B S m w) : ∃ a c, w.cell? ⟨mb, 12, none⟩ = some (.slice a m.l.l.length c) ∧ (m.l.l.length = 0 ∨ m.l.l.length ≤ c) ∧ m.l.l.length ≤ maxLen ∧ w.frozen? ⟨mb, 12, none⟩ = false ∧ GRow W Z S.m m.l.l w (.slice a m.l.l.length c) := by
  obtain ⟨se, sl, sc, hb, h1, h2, h3⟩ := h.ls
  obtain ⟨a, c, e, hc, hn⟩ := h2.1.slice_
  subst e
  exact ⟨a, c, by rw [hb.cell]; rfl, hc, hn, hb.frozen _, h2⟩
/-- a cell of a row, set -/
theorem FS.virtG (h : FS W fb mb Z B S m w) {g off n c k i : Nat} (hsl : w.cell? ⟨mb, 12, none⟩ = some (.slice (some ⟨g, off, none⟩) n c)) (hk : k < m.l.l.length) (hi : i < 2) (x : Gd) (hx : wfG x) (u : Value) (hset : gdL x = (gdL (m.l.l.getD k (0, 0))).set i u)
    (hlay : S.m.isRd = false → x = m.l.l.getD k (0, 0)) (hrd : S.m.isRd = true → m.es = [] ∧ m.p.cs = []) : FS W fb mb Z B S { m with l := { m.l with l := m.l.l.set k x } } (w.setCell ⟨g, off + k * 2 + i, none⟩ u) := by
  obtain ⟨a, c', hc, -, hn8, -, hrow⟩ := h.slG
  rw [hsl] at hc
  simp only [Option.some.injEq, Value.slice.injEq] at hc
  obtain ⟨rfl, rfl, rfl⟩ := hc
  obtain ⟨g', off', e, hz, hnear, hw, hcells⟩ := hrow.1.at_ hk
  simp only [Option.some.injEq, Addr.mk.injEq, and_true] at e
  obtain ⟨rfl, rfl⟩ := e
  obtain ⟨⟨u0, hu0, hcell⟩, hfz⟩ := hcells i hi
  cases hr : S.m.isRd with
  | false =>
    have hxe := hlay hr
    have hu : u = u0 := by
      have h1 : ((gdL (m.l.l.getD k (0, 0))).set i u)[i]? = some u := by
        rw [List.getElem?_set_self]
        exact (List.getElem?_eq_some_iff.1 hu0).1
      rw [← hset, hxe, hu0] at h1
      exact (Option.some.inj h1).symm
    rw [hu, setCell_same hcell, hxe]
    have e2 : m.l.l.set k (m.l.l.getD k (0, 0)) = m.l.l := by
      rw [List.getD_eq_getElem?_getD, List.getElem?_eq_getElem hk]
      exact List.set_getElem_self hk
    rw [e2]
    exact h
  | true =>
    obtain ⟨o1, o2⟩ := hrd hr
    obtain ⟨se, sl, sc, hb, h1, h2, h3⟩ := h.ls
    have hgm : g ≠ mb := fun e => hz (e ▸ h.zm)
    have hgf : g ≠ fb := fun e => hz (e ▸ h.zfb)
    have hsl2 : sl = .slice (some ⟨g, off, none⟩) m.l.l.length c := by
      have := hb.cell 12
      rw [hsl] at this
      exact (Option.some.inj this).symm
    subst hsl2
    have hset2 : GRow W Z S.m (m.l.l.set k x) (w.setCell ⟨g, off + k * 2 + i, none⟩ u) (.slice (some ⟨g, off, none⟩) m.l.l.length c) := by
      refine ⟨?_, fun y hy => ?_⟩
      · have := (hrow.1.set1 hk hi u).congr (R' := fun j => gdL ((m.l.l.set k x).getD j (0, 0))) fun j hj => by
          by_cases e : j = k
          · subst e
            rw [if_pos rfl, ← hset, List.getD_eq_getElem?_getD, List.getElem?_set_self hj]
            rfl
          · rw [if_neg e, List.getD_eq_getElem?_getD, List.getElem?_set_ne (fun q => e q.symm), ← List.getD_eq_getElem?_getD]
        rw [List.length_set]
        exact this
      · rcases List.mem_or_eq_of_mem_set hy with q | q
        · exact hrow.2 y q
        · rw [q]; exact hx
    refine ⟨h.kp.fresh (p := ⟨g, off + k * 2 + i, none⟩) (hw hr) u, ⟨h.fd.1.far (fun e => hgf e.symm) _, Md.ok_kp (A := fun b => b = g) h.fd.2.1 (Kp.at _ _ _) (fun b hb e => hnear (e ▸ hb)), h.fd.2.2⟩, h.zz, h.zm, h.zl, h.ne, h.far, h.sz, se, .slice (some ⟨g, off, none⟩) m.l.l.length c, sc, hb.far (fun e => hgm e.symm) _, ?_, hset2, ?_⟩
    · exact ⟨by have := h1.1; rw [o1] at this ⊢; exact this.none_, h1.2⟩
    · exact ⟨by have := h3.1; rw [o2] at this ⊢; exact this.none_, by rw [o2]; exact fun h0 => absurd h0 (by decide), h3.2.2⟩
def szG (S : Sf) (l : List Gd) : List Gd := if freshF S l.length = true then List.replicate (szN S l.length) (0, 0) else l
theorem szG_le {S : Sf} {l : List Gd} (h : l.length ≤ 8192) : (szG S l).length ≤ 8192 := by
  unfold szG
  split
  · rename_i q
    rw [List.length_replicate]
    exact (fresh_n q).1
  · exact h
theorem FS.sizedG (h : FS W fb mb Z B S m w) (hn : m.l.l.length ≤ 8192) (hB : B ≤ 900000) : Calls Try.prog 59 #[.pointer (some ⟨fb, 0, none⟩), .pointer (some ⟨mb, 12, none⟩)] w fun e w' =>
    ∃ a c, e = .returned (.slice a (szG S m.l.l).length c) ∧ FS W fb mb Z (B + 9) (intF S (m.l.l.length : Nat)).1 { m with l := { m.l with l := szG S m.l.l } } w' ∧ w'.cell? ⟨mb, 12, none⟩ = some (.slice a (szG S m.l.l).length c) := by
  obtain ⟨a, c, hc, -, -, hf, hrow⟩ := h.slG
  refine (fsizedG_any w fb mb S mb 12 m.l.l.length c a h.fd hc hn (h.pt _) hf (by have := h.sz; omega)).mono ?_
  rintro e w' ⟨sl', rfl, hk, hfd, hcase⟩
  have ha : Alike S (intF S (m.l.l.length : Nat)).1 := alike_num _ _ _
  have hsz : (intF S (m.l.l.length : Nat)).1.m.sz ≤ B + 9 := by have := h.sz; exact Nat.le_trans (numF_sz S.m _) (by omega)
  obtain ⟨se, sl, sc, hb, h1, h2, h3⟩ := h.ls
  have hz : ∀ b, ¬ Z b → ¬ (b = mb ∨ Zf fb S.m b) := fun b hb e => hb (e.elim (fun q => q ▸ h.zm) (h.zz b))
  have hkw : Kp (fun b => b = mb ∨ Zf fb S.m b) w w' := ((Kp.at w ⟨mb, 12, none⟩ sl').mono fun b e => .inl e).trans (hk.mono fun b e => .inr e)
  have hzf : Zf fb (intF S (m.l.l.length : Nat)).1.m = Zf fb S.m := by funext b; unfold Zf; rw [ha.2.1]
  have hblk : Blk w' mb 33 ((msA m se sl sc).setIfInBounds 12 sl') := blk_after hk hb (h.pt 0).nz
  have hrow' : ∃ a' c', sl' = .slice a' (szG S m.l.l).length c' ∧ GRow W Z (intF S (m.l.l.length : Nat)).1.m (szG S m.l.l) w' sl' := by
    rcases hcase with ⟨hfr, rfl⟩ | ⟨hfr, g, rfl, hg, hbg⟩
    · unfold szG
      rw [if_neg (by rw [hfr]; decide)]
      exact ⟨a, c, rfl, hrow.next hkw hz ha⟩
    · unfold szG
      rw [if_pos hfr]
      have hN := (fresh_n hfr).1
      refine ⟨_, _, by rw [List.length_replicate], ?_, fun y hy => by rw [(List.mem_replicate.1 hy).2]; exact ⟨rfl, rfl⟩⟩
      rw [List.length_replicate]
      have hzg : ¬ Z g := fun hzg => by have := h.z_lt hzg; omega
      have hng : ¬ (intF S (m.l.l.length : Nat)).1.m.near g := fun hng => by rw [ha.1] at hng; have := h.fd.near_lt hng; omega
      refine (RowsM.made (fz := noF) [.int .u64 0, .int .u64 0] rfl hbg hN hzg hng (Nat.le_trans h.kp.size hg)).congr fun j hj => ?_
      rw [List.getD_eq_getElem?_getD, List.getElem?_replicate, if_pos hj]
      rfl
  obtain ⟨a', c', rfl, hrw⟩ := hrow'
  refine ⟨a', c', rfl, ⟨h.kp.trans (hkw.mono fun b e => e.elim (fun q => q ▸ h.zm) (h.zz b)), hfd, by rw [hzf]; exact h.zz, h.zm, by rw [hzf]; exact h.zl, h.ne, by rw [ha.1]; exact h.far, hsz, se, .slice a' (szG S m.l.l).length c', sc, hblk, h1.next hkw hz ha, hrw, h3.next hkw hz⟩, ?_⟩
  rw [hblk.cell]
  rfl

theorem FS.slE (h : FS W fb mb Z B S m w) : ∃ a c, w.cell? ⟨mb, 4, none⟩ = some (.slice a m.es.length c) ∧ (m.es.length = 0 ∨ m.es.length ≤ c) ∧ m.es.length ≤ maxLen ∧ w.frozen? ⟨mb, 4, none⟩ = false ∧ ERow W Z S.m m.es w (.slice a m.es.length c) := by
  obtain ⟨se, sl, sc, hb, h1, h2, h3⟩ := h.ls
  obtain ⟨a, c, e, hc, hn⟩ := h1.1.slice_
  subst e
  exact ⟨a, c, by rw [hb.cell]; rfl, hc, hn, hb.frozen _, h1⟩
/-- a cell of a row, set -/
theorem FS.virtE (h : FS W fb mb Z B S m w) {g off n c k i : Nat} (hsl : w.cell? ⟨mb, 4, none⟩ = some (.slice (some ⟨g, off, none⟩) n c)) (hk : k < m.es.length) (hi : i < 4) (x : En) (hx : wfE x) (u : Value) (hset : enL x = (enL (m.es.getD k en0)).set i u)
    (hlay : S.m.isRd = false → x = m.es.getD k en0) (hrd : S.m.isRd = true → m.l.l = [] ∧ m.p.cs = []) : FS W fb mb Z B S { m with es := m.es.set k x } (w.setCell ⟨g, off + k * 4 + i, none⟩ u) := by
  obtain ⟨a, c', hc, -, hn8, -, hrow⟩ := h.slE
  rw [hsl] at hc
  simp only [Option.some.injEq, Value.slice.injEq] at hc
  obtain ⟨rfl, rfl, rfl⟩ := hc
  obtain ⟨g', off', e, hz, hnear, hw, hcells⟩ := hrow.1.at_ hk
  simp only [Option.some.injEq, Addr.mk.injEq, and_true] at e
  obtain ⟨rfl, rfl⟩ := e
  obtain ⟨⟨u0, hu0, hcell⟩, hfz⟩ := hcells i hi
  cases hr : S.m.isRd with
  | false =>
    have hxe := hlay hr
    have hu : u = u0 := by
      have h1 : ((enL (m.es.getD k en0)).set i u)[i]? = some u := by
        rw [List.getElem?_set_self]
        exact (List.getElem?_eq_some_iff.1 hu0).1
      rw [← hset, hxe, hu0] at h1
      exact (Option.some.inj h1).symm
    rw [hu, setCell_same hcell, hxe]
    have e2 : m.es.set k (m.es.getD k en0) = m.es := by
      rw [List.getD_eq_getElem?_getD, List.getElem?_eq_getElem hk]
      exact List.set_getElem_self hk
    rw [e2]
    exact h
  | true =>
    obtain ⟨o1, o2⟩ := hrd hr
    obtain ⟨se, sl, sc, hb, h1, h2, h3⟩ := h.ls
    have hgm : g ≠ mb := fun e => hz (e ▸ h.zm)
    have hgf : g ≠ fb := fun e => hz (e ▸ h.zfb)
    have hsl2 : se = .slice (some ⟨g, off, none⟩) m.es.length c := by
      have := hb.cell 4
      rw [hsl] at this
      exact (Option.some.inj this).symm
    subst hsl2
    have hset2 : ERow W Z S.m (m.es.set k x) (w.setCell ⟨g, off + k * 4 + i, none⟩ u) (.slice (some ⟨g, off, none⟩) m.es.length c) := by
      refine ⟨?_, fun y hy => ?_⟩
      · have := (hrow.1.set1 hk hi u).congr (R' := fun j => enL ((m.es.set k x).getD j en0)) fun j hj => by
          by_cases e : j = k
          · subst e
            rw [if_pos rfl, ← hset, List.getD_eq_getElem?_getD, List.getElem?_set_self hj]
            rfl
          · rw [if_neg e, List.getD_eq_getElem?_getD, List.getElem?_set_ne (fun q => e q.symm), ← List.getD_eq_getElem?_getD]
        rw [List.length_set]
        exact this
      · rcases List.mem_or_eq_of_mem_set hy with q | q
        · exact hrow.2 y q
        · rw [q]; exact hx
    refine ⟨h.kp.fresh (p := ⟨g, off + k * 4 + i, none⟩) (hw hr) u, ⟨h.fd.1.far (fun e => hgf e.symm) _, Md.ok_kp (A := fun b => b = g) h.fd.2.1 (Kp.at _ _ _) (fun b hb e => hnear (e ▸ hb)), h.fd.2.2⟩, h.zz, h.zm, h.zl, h.ne, h.far, h.sz, .slice (some ⟨g, off, none⟩) m.es.length c, sl, sc, hb.far (fun e => hgm e.symm) _, hset2, ?_, ?_⟩
    · exact ⟨by have := h2.1; rw [o1] at this ⊢; exact this.none_, h2.2⟩
    · exact ⟨by have := h3.1; rw [o2] at this ⊢; exact this.none_, by rw [o2]; exact fun h0 => absurd h0 (by decide), h3.2.2⟩
def szE (S : Sf) (l : List En) : List En := if freshF S l.length = true then List.replicate (szN S l.length) en0 else l
theorem szE_le {S : Sf} {l : List En} (h : l.length ≤ 8192) : (szE S l).length ≤ 8192 := by
  unfold szE
  split
  · rename_i q
    rw [List.length_replicate]
    exact (fresh_n q).1
  · exact h
theorem FS.sizedE (h : FS W fb mb Z B S m w) (hn : m.es.length ≤ 8192) (hB : B ≤ 900000) : Calls Try.prog 69 #[.pointer (some ⟨fb, 0, none⟩), .pointer (some ⟨mb, 4, none⟩)] w fun e w' =>
    ∃ a c, e = .returned (.slice a (szE S m.es).length c) ∧ FS W fb mb Z (B + 9) (intF S (m.es.length : Nat)).1 { m with es := szE S m.es } w' ∧ w'.cell? ⟨mb, 4, none⟩ = some (.slice a (szE S m.es).length c) := by
  obtain ⟨a, c, hc, -, -, hf, hrow⟩ := h.slE
  refine (fsizedE_any w fb mb S mb 4 m.es.length c a h.fd hc hn (h.pt _) hf (by have := h.sz; omega)).mono ?_
  rintro e w' ⟨sl', rfl, hk, hfd, hcase⟩
  have ha : Alike S (intF S (m.es.length : Nat)).1 := alike_num _ _ _
  have hsz : (intF S (m.es.length : Nat)).1.m.sz ≤ B + 9 := by have := h.sz; exact Nat.le_trans (numF_sz S.m _) (by omega)
  obtain ⟨se, sl, sc, hb, h1, h2, h3⟩ := h.ls
  have hz : ∀ b, ¬ Z b → ¬ (b = mb ∨ Zf fb S.m b) := fun b hb e => hb (e.elim (fun q => q ▸ h.zm) (h.zz b))
  have hkw : Kp (fun b => b = mb ∨ Zf fb S.m b) w w' := ((Kp.at w ⟨mb, 4, none⟩ sl').mono fun b e => .inl e).trans (hk.mono fun b e => .inr e)
  have hzf : Zf fb (intF S (m.es.length : Nat)).1.m = Zf fb S.m := by funext b; unfold Zf; rw [ha.2.1]
  have hblk : Blk w' mb 33 ((msA m se sl sc).setIfInBounds 4 sl') := blk_after hk hb (h.pt 0).nz
  have hrow' : ∃ a' c', sl' = .slice a' (szE S m.es).length c' ∧ ERow W Z (intF S (m.es.length : Nat)).1.m (szE S m.es) w' sl' := by
    rcases hcase with ⟨hfr, rfl⟩ | ⟨hfr, g, rfl, hg, hbg⟩
    · unfold szE
      rw [if_neg (by rw [hfr]; decide)]
      exact ⟨a, c, rfl, hrow.next hkw hz ha⟩
    · unfold szE
      rw [if_pos hfr]
      have hN := (fresh_n hfr).1
      refine ⟨_, _, by rw [List.length_replicate], ?_, fun y hy => by rw [(List.mem_replicate.1 hy).2]; exact ⟨rfl, rfl, rfl, rfl⟩⟩
      rw [List.length_replicate]
      have hzg : ¬ Z g := fun hzg => by have := h.z_lt hzg; omega
      have hng : ¬ (intF S (m.es.length : Nat)).1.m.near g := fun hng => by rw [ha.1] at hng; have := h.fd.near_lt hng; omega
      refine (RowsM.made (fz := kindF) [.int .u64 0, .int .i64 0, .int .u64 0, .int .u64 0] rfl hbg hN hzg hng (Nat.le_trans h.kp.size hg)).congr fun j hj => ?_
      rw [List.getD_eq_getElem?_getD, List.getElem?_replicate, if_pos hj]
      rfl
  obtain ⟨a', c', rfl, hrw⟩ := hrow'
  refine ⟨a', c', rfl, ⟨h.kp.trans (hkw.mono fun b e => e.elim (fun q => q ▸ h.zm) (h.zz b)), hfd, by rw [hzf]; exact h.zz, h.zm, by rw [hzf]; exact h.zl, h.ne, by rw [ha.1]; exact h.far, hsz, .slice a' (szE S m.es).length c', sl, sc, hblk, hrw, h2.next hkw hz ha, h3.next hkw hz⟩, ?_⟩
  rw [hblk.cell]
  rfl
end
end Go.Proofs.Ytikimmhkfjaijaa
namespace Go.Proofs.Ytikimmhkfjaijaa
open Go.RowKit Reg Go.ChangeShapes

theorem lay_num {m : Md} (h : m.isRd = false) (n : Nat) : (numF m n).2 = n := by
  cases m with
  | lay s => rfl
  | rd r st => cases h
theorem lay_gd {S : Sf} (h : S.m.isRd = false) {g : Gd} (hg : wfG g) : (gdS S g).2 = g := by
  obtain ⟨a, b⟩ := g
  obtain ⟨x, h1, h2⟩ := u64_nat hg.1
  obtain ⟨y, h3, h4⟩ := u64_nat hg.2
  dsimp only at h1 h3
  subst h1; subst h3
  have e1 := lay_num h x
  have e2 := lay_num (m := (numF S.m x).1) (by rw [numF_isRd]; exact h) y
  simp only [gdS, gdF, Int.toNat_natCast, e1, e2]
theorem getD_set_self {α : Type} {l : List α} {k : Nat} {x d : α} (h : k < l.length) : (l.set k x).getD k d = x := by
  rw [List.getD_eq_getElem?_getD, List.getElem?_set_self h]
  rfl
theorem mem_getD {α : Type} {l : List α} {k : Nat} {d : α} (h : k < l.length) : l.getD k d ∈ l := by
  rw [List.getD_eq_getElem?_getD, List.getElem?_eq_getElem h]
  exact List.getElem_mem h
section
variable {W : World} {fb mb : Nat} {Z : Nat → Prop} {B : Nat} {S S' : Sf} {m m' : Ms} {w w' : World}
theorem FS.mono (h : FS W fb mb Z B S m w) {B' : Nat} (hb : B ≤ B') : FS W fb mb Z B' S m w := ⟨h.kp, h.fd, h.zz, h.zm, h.zl, h.ne, h.far, Nat.le_trans h.sz hb, h.ls⟩
theorem FS.nz (h : FS W fb mb Z B S m w) {g : Nat} (hz : ¬ Z g) : g ≠ mb ∧ g ≠ fb ∧ ¬ Zf fb S.m g := ⟨fun e => hz (e ▸ h.zm), fun e => hz (e ▸ h.zfb), fun e => hz (h.zz g e)⟩
theorem cell_far {g o mb p : Nat} {w : World} {u v : Value} (hc : w.cell? ⟨mb, p, none⟩ = some v) (h : g ≠ mb) : (w.setCell ⟨g, o, none⟩ u).cell? ⟨mb, p, none⟩ = some v := by
  rw [World.cell?_setCell_other _ _ _ _ (fun e => by simp only [Addr.mk.injEq] at e; exact h e.1)]
  exact hc
theorem cell_turn (h : FS W fb mb Z B S m w) {w1 w' : World} {p : Nat} {v : Value} (hk : Kp (Zf fb S.m) w1 w') (hc : w1.cell? ⟨mb, p, none⟩ = some v) : w'.cell? ⟨mb, p, none⟩ = some v := by
  rw [World.cell?_of_block (a := ⟨mb, p, none⟩) (hk.2 mb (World.block_lt_of_cell? w1 _ hc) (h.pt 0).nz)]
  exact hc
/-- the k-th guid of the line's list -/
theorem FS.guidAt (h : FS W fb mb Z B S m w) {a : Option Addr} {n c k : Nat} (hsl : w.cell? ⟨mb, 12, none⟩ = some (.slice a n c)) (hk : k < m.l.l.length) (hrd : S.m.isRd = true → m.es = [] ∧ m.p.cs = []) (hB : B ≤ 900000) :
    ∃ g off, a = some ⟨g, off, none⟩ ∧ Calls Try.prog 57 #[.pointer (some ⟨fb, 0, none⟩), .pointer (some ⟨g, off + k * 2, none⟩)] w fun e w' =>
      e = .returned (.tuple #[]) ∧ FS W fb mb Z (B + 18) (gdS S (m.l.l.getD k (0, 0))).1 { m with l := { m.l with l := m.l.l.set k (gdS S (m.l.l.getD k (0, 0))).2 } } w' ∧ w'.cell? ⟨mb, 12, none⟩ = some (.slice a n c) := by
  obtain ⟨a', c', hc, -, hn8, -, hrow⟩ := h.slG
  rw [hsl] at hc
  simp only [Option.some.injEq, Value.slice.injEq] at hc
  obtain ⟨rfl, rfl, rfl⟩ := hc
  obtain ⟨g, off, rfl, hz, hnear, hw, hcells⟩ := hrow.1.at_ hk
  obtain ⟨⟨u0, r0, c0⟩, f0⟩ := hcells 0 (by omega)
  obtain ⟨⟨u1, r1, c1⟩, f1⟩ := hcells 1 (by omega)
  have hwf : wfG (m.l.l.getD k (0, 0)) := hrow.2 _ (mem_getD hk)
  have hlay := fun hr => lay_gd (S := S) hr hwf
  have halike := alike_gd S (m.l.l.getD k (0, 0))
  have hsz18 := gdS_sz S (m.l.l.getD k (0, 0))
  have hwf2 := gdS_wf (S := S) hwf
  obtain ⟨G, hG⟩ : ∃ G, G = gdS S (m.l.l.getD k (0, 0)) := ⟨_, rfl⟩
  rw [← hG] at hlay halike hsz18 hwf2 ⊢
  obtain ⟨x, y, hxy⟩ : ∃ x y, m.l.l.getD k (0, 0) = (x, y) := ⟨_, _, rfl⟩
  simp only [hxy, gdL, List.getElem?_cons_zero, List.getElem?_cons_succ, Option.some.injEq] at r0 r1
  subst r0; subst r1
  rw [hxy] at hG hlay hwf
  obtain ⟨xn, e1, l1⟩ := u64_nat hwf.1
  obtain ⟨yn, e2, l2⟩ := u64_nat hwf.2
  dsimp only at e1 e2
  subst e1; subst e2
  obtain ⟨n1, n2, n3⟩ := h.nz hz
  refine ⟨g, off, rfl, (fguid_any w fb mb S g (off + k * 2) xn yn h.fd c0 c1 l1 l2 ⟨n2, hnear, fun hr => f0 (.inl hr)⟩ ⟨n2, hnear, fun hr => f1 (.inl hr)⟩ (by have := h.sz; omega)).mono ?_⟩
  rintro e w' ⟨rfl, hkp, hfd⟩
  have hGe : G = ((gdF S xn yn).1, ((((gdF S xn yn).2.1 : Nat) : Int), (((gdF S xn yn).2.2 : Nat) : Int))) := hG
  have v1 := h.virtG hsl hk (i := 0) (by omega) (G.2.1, (yn : Int)) ⟨hwf2.1, hwf.2⟩ (.int .u64 G.2.1) (by rw [hxy]; rfl) (fun hr => by rw [hxy, hlay hr]) hrd
  have v2 := v1.virtG (cell_far hsl n1) (by simpa using hk) (i := 1) (by omega) G.2 hwf2 (.int .u64 G.2.2) (by simp only; rw [getD_set_self hk]; rfl) (fun hr => by simp only; rw [getD_set_self hk, hlay hr]) hrd
  simp only [List.set_set] at v2
  have hkp2 : Kp (Zf fb S.m) ((w.setCell ⟨g, off + k * 2 + 0, none⟩ (.int .u64 G.2.1)).setCell ⟨g, off + k * 2 + 1, none⟩ (.int .u64 G.2.2)) w' := by rw [hGe]; exact hkp
  refine ⟨rfl, v2.turn hkp2 (by rw [hGe]; exact hfd) halike (by have := h.sz; omega), ?_⟩
  exact cell_turn v2 hkp2 (cell_far (cell_far hsl n1) n1)
/-- the k-th entry: its term, its kind, its guid -/
theorem FS.enT (h : FS W fb mb Z B S m w) {a : Option Addr} {n c k : Nat} (hsl : w.cell? ⟨mb, 4, none⟩ = some (.slice a n c)) (hk : k < m.es.length) (hrd : S.m.isRd = true → m.l.l = [] ∧ m.p.cs = []) (hB : B ≤ 900000) :
    ∃ g off, a = some ⟨g, off, none⟩ ∧ Calls Try.prog 36 #[.pointer (some ⟨fb, 0, none⟩), .slice (some ⟨w.heap.size, 0, none⟩) 1 1] (w.alloc (.cells #[.pointer (some ⟨g, off + k * 4, none⟩)] 85)) fun e w' =>
      e = .returned (.tuple #[]) ∧ FS W fb mb Z (B + 9) (numS S (m.es.getD k en0).T).1 { m with es := m.es.set k { m.es.getD k en0 with T := (numS S (m.es.getD k en0).T).2 } } w' ∧ w'.cell? ⟨mb, 4, none⟩ = some (.slice a n c) := by
  obtain ⟨a', c', hc, -, hn8, -, hrow⟩ := h.slE
  rw [hsl] at hc
  simp only [Option.some.injEq, Value.slice.injEq] at hc
  obtain ⟨rfl, rfl, rfl⟩ := hc
  obtain ⟨g, off, rfl, hz, hnear, hw, hcells⟩ := hrow.1.at_ hk
  obtain ⟨⟨u0, r0, c0⟩, f0⟩ := hcells 0 (by omega)
  have hwf : wfE (m.es.getD k en0) := hrow.2 _ (mem_getD hk)
  obtain ⟨e0, he0⟩ : ∃ e0, e0 = m.es.getD k en0 := ⟨_, rfl⟩
  rw [← he0] at hwf ⊢
  simp only [← he0, enL, List.getElem?_cons_zero, Option.some.injEq] at r0
  subst r0
  obtain ⟨x, e1, l1⟩ := u64_nat hwf.1
  obtain ⟨T, K, q⟩ := e0
  dsimp only at e1
  subst e1
  obtain ⟨n1, n2, n3⟩ := h.nz hz
  refine ⟨g, off, rfl, (num1_any w fb mb S g (off + k * 4) x h.fd c0 l1 ⟨n2, hnear, fun hr => f0 (.inl hr)⟩ (by have := h.sz; omega)).mono ?_⟩
  rintro e w' ⟨rfl, hkp, hfd⟩
  have v1 := h.virtE hsl hk (i := 0) (by omega) ⟨(numS S x).2, K, q⟩ ⟨nat_u64 (numF_lt _ _ l1), hwf.2⟩ (.int .u64 (numS S x).2) (by rw [← he0]; rfl) (fun hr => by rw [← he0]; simp only [numS, Int.toNat_natCast, lay_num hr]) hrd
  have hkp2 : Kp (Zf fb S.m) (w.setCell ⟨g, off + k * 4 + 0, none⟩ (.int .u64 (numS S x).2)) w' := hkp
  exact ⟨rfl, v1.turn hkp2 hfd (alike_num _ _ _) (by have := h.sz; exact Nat.le_trans (numF_sz S.m x) (by omega)), cell_turn v1 hkp2 (cell_far hsl n1)⟩
theorem lay_int {S : Sf} (h : S.m.isRd = false) {x : Int} (hx : 0 ≤ x ∧ x ≤ 8192) : (intF S x).2 = x := by
  show wrap64 ((numF S.m x.toNat).2 : Nat) = x
  rw [lay_num h, IntWalk.wrap64_in _ (by omega)]
  omega
theorem FS.enK (h : FS W fb mb Z B S m w) {a : Option Addr} {n c k : Nat} (hsl : w.cell? ⟨mb, 4, none⟩ = some (.slice a n c)) (hk : k < m.es.length) (hx : 0 ≤ (m.es.getD k en0).K ∧ (m.es.getD k en0).K ≤ 8192) (hrd : S.m.isRd = true → m.l.l = [] ∧ m.p.cs = []) (hB : B ≤ 900000) :
    ∃ g off, a = some ⟨g, off, none⟩ ∧ Calls Try.prog 22 #[.pointer (some ⟨fb, 0, none⟩), .slice (some ⟨w.heap.size, 0, none⟩) 1 1] (w.alloc (.cells #[.pointer (some ⟨g, off + k * 4 + 1, none⟩)] 70)) fun e w' =>
      e = .returned (.tuple #[]) ∧ FS W fb mb Z (B + 9) (intF S (m.es.getD k en0).K).1 { m with es := m.es.set k { m.es.getD k en0 with K := (intF S (m.es.getD k en0).K).2 } } w' ∧ w'.cell? ⟨mb, 4, none⟩ = some (.slice a n c) := by
  obtain ⟨a', c', hc, -, hn8, -, hrow⟩ := h.slE
  rw [hsl] at hc
  simp only [Option.some.injEq, Value.slice.injEq] at hc
  obtain ⟨rfl, rfl, rfl⟩ := hc
  obtain ⟨g, off, rfl, hz, hnear, hw, hcells⟩ := hrow.1.at_ hk
  obtain ⟨⟨u0, r0, c0⟩, f0⟩ := hcells 1 (by omega)
  have hwf : wfE (m.es.getD k en0) := hrow.2 _ (mem_getD hk)
  obtain ⟨e0, he0⟩ : ∃ e0, e0 = m.es.getD k en0 := ⟨_, rfl⟩
  rw [← he0] at hwf hx ⊢
  simp only [← he0, enL, List.getElem?_cons_zero, List.getElem?_cons_succ, Option.some.injEq] at r0
  subst r0
  obtain ⟨T, K, q⟩ := e0
  dsimp only at hx
  obtain ⟨x, rfl⟩ : ∃ x : Nat, K = x := ⟨K.toNat, by omega⟩
  obtain ⟨n1, n2, n3⟩ := h.nz hz
  refine ⟨g, off, rfl, (fints_any w fb mb S g (off + k * 4 + 1) x h.fd c0 (by omega) ⟨n2, hnear, fun hr => f0 (.inl hr)⟩ (f0 (.inr rfl)) (by have := h.sz; omega)).mono ?_⟩
  rintro e w' ⟨rfl, hkp, hfd⟩
  have v1 := h.virtE hsl hk (i := 1) (by omega) ⟨T, (intF S x).2, q⟩ ⟨hwf.1, wrap64_wf _, hwf.2.2⟩ (.int .i64 (intF S x).2) (by rw [← he0]; rfl) (fun hr => by rw [← he0, lay_int hr hx]) hrd
  exact ⟨rfl, v1.turn hkp hfd (alike_num _ _ _) (by have := h.sz; exact Nat.le_trans (numF_sz S.m x) (by omega)), cell_turn v1 hkp (cell_far hsl n1)⟩
theorem FS.enG (h : FS W fb mb Z B S m w) {a : Option Addr} {n c k : Nat} (hsl : w.cell? ⟨mb, 4, none⟩ = some (.slice a n c)) (hk : k < m.es.length) (hrd : S.m.isRd = true → m.l.l = [] ∧ m.p.cs = []) (hB : B ≤ 900000) :
    ∃ g off, a = some ⟨g, off, none⟩ ∧ Calls Try.prog 57 #[.pointer (some ⟨fb, 0, none⟩), .pointer (some ⟨g, off + k * 4 + 2, none⟩)] w fun e w' =>
      e = .returned (.tuple #[]) ∧ FS W fb mb Z (B + 18) (gdS S (m.es.getD k en0).g).1 { m with es := m.es.set k { m.es.getD k en0 with g := (gdS S (m.es.getD k en0).g).2 } } w' ∧ w'.cell? ⟨mb, 4, none⟩ = some (.slice a n c) := by
  obtain ⟨a', c', hc, -, hn8, -, hrow⟩ := h.slE
  rw [hsl] at hc
  simp only [Option.some.injEq, Value.slice.injEq] at hc
  obtain ⟨rfl, rfl, rfl⟩ := hc
  obtain ⟨g, off, rfl, hz, hnear, hw, hcells⟩ := hrow.1.at_ hk
  obtain ⟨⟨u0, r0, c0⟩, f0⟩ := hcells 2 (by omega)
  obtain ⟨⟨u1, r1, c1⟩, f1⟩ := hcells 3 (by omega)
  have hwf : wfE (m.es.getD k en0) := hrow.2 _ (mem_getD hk)
  obtain ⟨e0, he0⟩ : ∃ e0, e0 = m.es.getD k en0 := ⟨_, rfl⟩
  rw [← he0] at hwf ⊢
  have hlay := fun hr => lay_gd (S := S) hr hwf.2.2
  have halike := alike_gd S e0.g
  have hsz18 := gdS_sz S e0.g
  have hwf2 := gdS_wf (S := S) hwf.2.2
  obtain ⟨G, hG⟩ : ∃ G, G = gdS S e0.g := ⟨_, rfl⟩
  rw [← hG] at hlay halike hsz18 hwf2 ⊢
  obtain ⟨T, K, x, y⟩ := e0
  simp only [← he0, enL, List.getElem?_cons_zero, List.getElem?_cons_succ, Option.some.injEq] at r0 r1
  subst r0; subst r1
  dsimp only at hG hlay hwf
  obtain ⟨xn, e1, l1⟩ := u64_nat hwf.2.2.1
  obtain ⟨yn, e2, l2⟩ := u64_nat hwf.2.2.2
  dsimp only at e1 e2
  subst e1; subst e2
  obtain ⟨n1, n2, n3⟩ := h.nz hz
  refine ⟨g, off, rfl, (fguid_any w fb mb S g (off + k * 4 + 2) xn yn h.fd c0 c1 l1 l2 ⟨n2, hnear, fun hr => f0 (.inl hr)⟩ ⟨n2, hnear, fun hr => f1 (.inl hr)⟩ (by have := h.sz; omega)).mono ?_⟩
  rintro e w' ⟨rfl, hkp, hfd⟩
  have hGe : G = ((gdF S xn yn).1, ((((gdF S xn yn).2.1 : Nat) : Int), (((gdF S xn yn).2.2 : Nat) : Int))) := hG
  have v1 := h.virtE hsl hk (i := 2) (by omega) ⟨T, K, (G.2.1, (yn : Int))⟩ ⟨hwf.1, hwf.2.1, hwf2.1, hwf.2.2.2⟩ (.int .u64 G.2.1) (by rw [← he0]; rfl) (fun hr => by rw [← he0, hlay hr]) hrd
  have v2 := v1.virtE (cell_far hsl n1) (by simpa using hk) (i := 3) (by omega) ⟨T, K, G.2⟩ ⟨hwf.1, hwf.2.1, hwf2⟩ (.int .u64 G.2.2) (by simp only; rw [getD_set_self hk]; rfl) (fun hr => by simp only; rw [getD_set_self hk, hlay hr]) hrd
  simp only [List.set_set] at v2
  have hkp2 : Kp (Zf fb S.m) ((w.setCell ⟨g, off + k * 4 + 2, none⟩ (.int .u64 G.2.1)).setCell ⟨g, off + k * 4 + 3, none⟩ (.int .u64 G.2.2)) w' := by rw [hGe]; exact hkp
  refine ⟨rfl, v2.turn hkp2 (by rw [hGe]; exact hfd) halike (by have := h.sz; omega), ?_⟩
  exact cell_turn v2 hkp2 (cell_far (cell_far hsl n1) n1)
end
end Go.Proofs.Ytikimmhkfjaijaa
namespace Go.Proofs.Ytikimmhkfjaijaa
open Go.RowKit Reg Go.ChangeShapes

/-- a list's guids, one behind the other -/
def gLp (S : Sf) (l : List Gd) : Nat → Sf × List Gd
  | 0 => (S, l)
  | k + 1 => ((gdS (gLp S l k).1 ((gLp S l k).2.getD k (0, 0))).1, (gLp S l k).2.set k (gdS (gLp S l k).1 ((gLp S l k).2.getD k (0, 0))).2)
theorem gLp_len (S : Sf) (l : List Gd) : ∀ k, (gLp S l k).2.length = l.length
  | 0 => rfl
  | k + 1 => by rw [gLp, List.length_set, gLp_len S l k]
theorem gLp_isRd (S : Sf) (l : List Gd) : ∀ k, (gLp S l k).1.m.isRd = S.m.isRd
  | 0 => rfl
  | k + 1 => by rw [gLp, (alike_gd _ _).2.2, gLp_isRd S l k]
def enS (S : Sf) (e : En) : Sf × En :=
  ((gdS (intF (numS S e.T).1 e.K).1 e.g).1, ⟨(numS S e.T).2, (intF (numS S e.T).1 e.K).2, (gdS (intF (numS S e.T).1 e.K).1 e.g).2⟩)
def eLp (S : Sf) (l : List En) : Nat → Sf × List En
  | 0 => (S, l)
  | k + 1 => ((enS (eLp S l k).1 ((eLp S l k).2.getD k en0)).1, (eLp S l k).2.set k (enS (eLp S l k).1 ((eLp S l k).2.getD k en0)).2)
theorem eLp_len (S : Sf) (l : List En) : ∀ k, (eLp S l k).2.length = l.length
  | 0 => rfl
  | k + 1 => by rw [eLp, List.length_set, eLp_len S l k]
theorem eLp_isRd (S : Sf) (l : List En) : ∀ k, (eLp S l k).1.m.isRd = S.m.isRd
  | 0 => rfl
  | k + 1 => by rw [eLp]; exact ((alike_gd _ _).2.2.trans (alike_num (numS _ _).1 _ _).2.2).trans ((alike_num _ _ _).2.2.trans (eLp_isRd S l k))
theorem eLp_rest (S : Sf) (l : List En) : ∀ k j, k ≤ j → (eLp S l k).2.getD j en0 = l.getD j en0
  | 0, _, _ => rfl
  | k + 1, j, h => by
    rw [eLp, List.getD_eq_getElem?_getD, List.getElem?_set_ne (by omega), ← List.getD_eq_getElem?_getD]
    exact eLp_rest S l k j (by omega)
def lineF (S : Sf) (m : Ms) : Sf × Ms :=
  ((gLp (intF (yesF (intF (numS S m.l.E).1 m.l.B).1 m.l.L).1 (m.l.l.length : Nat)).1 (szG (yesF (intF (numS S m.l.E).1 m.l.B).1 m.l.L).1 m.l.l) (szG (yesF (intF (numS S m.l.E).1 m.l.B).1 m.l.L).1 m.l.l).length).1,
    { m with l := ⟨(numS S m.l.E).2, (intF (numS S m.l.E).1 m.l.B).2, (yesF (intF (numS S m.l.E).1 m.l.B).1 m.l.L).2, (gLp (intF (yesF (intF (numS S m.l.E).1 m.l.B).1 m.l.L).1 (m.l.l.length : Nat)).1 (szG (yesF (intF (numS S m.l.E).1 m.l.B).1 m.l.L).1 m.l.l) (szG (yesF (intF (numS S m.l.E).1 m.l.B).1 m.l.L).1 m.l.l).length).2⟩ })
def entF (S : Sf) (m : Ms) : Sf × Ms :=
  ((eLp (intF S (m.es.length : Nat)).1 (szE S m.es) (szE S m.es).length).1, { m with es := (eLp (intF S (m.es.length : Nat)).1 (szE S m.es) (szE S m.es).length).2 })
section
variable {W : World} {fb mb : Nat} {Z : Nat → Prop} {B : Nat} {S S' : Sf} {m m' : Ms} {w w' : World}
theorem alike_isRd_int (S : Sf) (x : Int) : (intF S x).1.m.isRd = S.m.isRd := numF_isRd _ _
theorem alike_isRd_num (S : Sf) (x : Int) : (numS S x).1.m.isRd = S.m.isRd := numF_isRd _ _
theorem alike_isRd_yes (S : Sf) (b : Bool) : (yesF S b).1.m.isRd = S.m.isRd := numF_isRd _ _
set_option maxHeartbeats 1000000 in
theorem line_any (h : FS W fb mb Z B S m w) (hE : (Lit.int .u64 m.l.E).wf = true) (hLB : 0 ≤ m.l.B ∧ m.l.B ≤ 8192) (hL : m.l.l.length ≤ 8192) (hrd : S.m.isRd = true → m.es = [] ∧ m.p.cs = []) (hB : B ≤ 500000) :
    Calls Try.prog 43 #[.pointer (some ⟨fb, 0, none⟩)] w fun e w' => e = .returned (.tuple #[]) ∧ FS W fb mb Z (B + 200000) (lineF S m).1 (lineF S m).2 w' := by
  obtain ⟨a1, ha1⟩ : ∃ a1, a1 = numS S m.l.E := ⟨_, rfl⟩
  obtain ⟨a2, ha2⟩ : ∃ a2, a2 = intF a1.1 m.l.B := ⟨_, rfl⟩
  obtain ⟨a3, ha3⟩ : ∃ a3, a3 = yesF a2.1 m.l.L := ⟨_, rfl⟩
  obtain ⟨l1, hl1⟩ : ∃ l1, l1 = szG a3.1 m.l.l := ⟨_, rfl⟩
  obtain ⟨P, hP⟩ : ∃ P : Nat → Sf × List Gd, P = gLp (intF a3.1 (m.l.l.length : Nat)).1 l1 := ⟨_, rfl⟩
  have hgoal : lineF S m = ((P l1.length).1, { m with l := ⟨a1.2, a2.2, a3.2, (P l1.length).2⟩ }) := by rw [hP, hl1, ha3, ha2, ha1]; rfl
  rw [hgoal]
  have r3 : a3.1.m.isRd = S.m.isRd := by rw [ha3, alike_isRd_yes, ha2, alike_isRd_int, ha1, alike_isRd_num]
  have HN : Hid (l1.length ≤ 8192) := Lib.hid (by rw [hl1]; exact szG_le hL)
  have HC0 := Lib.hid h.slots
  have H1 := Lib.hid (h.num (m' := { m with l := { m.l with E := a1.2 } }) 9 m.l.E hE (fun _ _ _ => rfl) (fun _ _ _ => by rw [ha1]; rfl) rfl rfl rfl (by omega))
  rw [← ha1] at H1
  have H2 := Lib.hid (fun w2 (h2 : FS W fb mb Z (B + 9) a1.1 { m with l := { m.l with E := a1.2 } } w2) => h2.int (m' := { m with l := { m.l with E := a1.2, B := a2.2 } }) 10 m.l.B hLB (fun _ _ _ => rfl) (fun _ _ _ => by rw [ha2]; rfl) rfl rfl rfl (by omega))
  rw [← ha2] at H2
  have H3 := Lib.hid (fun w2 (h2 : FS W fb mb Z (B + 9 + 9) a2.1 { m with l := { m.l with E := a1.2, B := a2.2 } } w2) => h2.yes (m' := { m with l := { m.l with E := a1.2, B := a2.2, L := a3.2 } }) 11 m.l.L (fun _ _ _ => rfl) (fun _ _ _ => by rw [ha3]; rfl) rfl rfl rfl (by omega))
  rw [← ha3] at H3
  have H4 := Lib.hid (fun w2 (h2 : FS W fb mb Z (B + 9 + 9 + 9) a3.1 { m with l := { m.l with E := a1.2, B := a2.2, L := a3.2 } } w2) => h2.sizedG hL (by omega))
  dsimp only at H4
  rw [← hl1] at H4
  have hP0 : P 0 = ((intF a3.1 (m.l.l.length : Nat)).1, l1) := by rw [hP]; rfl
  have HP1 : Hid (∀ k, P (k + 1) = ((gdS (P k).1 ((P k).2.getD k (0, 0))).1, (P k).2.set k (gdS (P k).1 ((P k).2.getD k (0, 0))).2)) := Lib.hid fun k => by rw [hP]; rfl
  have HPL : Hid (∀ k, (P k).2.length = l1.length) := Lib.hid fun k => by rw [hP, gLp_len]
  have HPR : Hid (∀ k, (P k).1.m.isRd = S.m.isRd) := Lib.hid fun k => by rw [hP, gLp_isRd, alike_isRd_int, r3]
  have HP0 := Lib.hid hP0
  have HRD := Lib.hid hrd
  have HB := Lib.hid hB
  clear hgoal hP hP0 hl1 ha1 ha2 ha3 r3 h hE hLB hL hrd hB
  go_enter Try.func43, Try.ntmps43
  have c0 := HC0.out
  go_wp2_with fail
  refine H1.out.mono ?_
  rintro e w1 ⟨rfl, h1⟩
  have c1 := h1.slots
  have G1 := Lib.hid h1
  clear c0 HC0 h1
  go_wp2_with fail
  refine (H2.out w1 G1.out).mono ?_
  rintro e w2 ⟨rfl, h2⟩
  have c2 := h2.slots
  have G2 := Lib.hid h2
  clear c1 G1 h2
  go_wp2_with fail
  refine (H3.out w2 G2.out).mono ?_
  rintro e w3 ⟨rfl, h3⟩
  have c3 := h3.slots
  have G3 := Lib.hid h3
  clear c2 G2 h3
  go_wp2_with fail
  refine (H4.out w3 G3.out).mono ?_
  rintro e w4 ⟨a, c, rfl, h4, hsl⟩
  have G4 := Lib.hid h4
  have HSL := Lib.hid hsl
  clear c3 G3 h4 hsl
  generalize hn : l1.length = n at *
  have HNE := Lib.hid hn
  clear hn
  go_wp2_with fail
  go_loopw [44] (fun i wr => ∃ (k : Nat), k ≤ n ∧ i = .int .i64 k ∧ FS W fb mb Z (B + 36 + 18 * k) (P k).1 { m with l := ⟨a1.2, a2.2, a3.2, (P k).2⟩ } wr ∧ wr.cell? ⟨mb, 12, none⟩ = some (.slice a n c)) (fun i _ => n - (intOf i).toNat)
  case atStart => exact ⟨0, Nat.zero_le _, rfl, by rw [HP0.out]; exact G4.out, HSL.out⟩
  case round =>
    obtain ⟨k, hk, rfl, h5, hs5⟩ := hrel
    by_cases hkn : k < n
    · have hkl : k < (P k).2.length := by rw [HPL.out]; exact hkn
      obtain ⟨g, off, rfl, hcall⟩ := h5.guidAt hs5 (k := k) hkl (fun hr => HRD.out (by rw [← HPR.out k]; exact hr)) (by have := HB.out; have := HN.out; omega)
      have c5 := h5.slots
      have HCALL := Lib.hid hcall
      have HK := Lib.hid hkn
      have i1 : (k : Int) < (n : Int) := by omega
      have i9 : wrap64 ((k : Int) + 1) = (k : Int) + 1 := IntWalk.wrap64_in _ (by have := HN.out; omega)
      have I9 := Lib.hid i9
      clear i9 hkl hcall h5 hs5 hk hkn
      go_wp2_with fail
      refine HCALL.out.mono ?_
      rintro e w6 ⟨rfl, h6, hs6⟩
      have G6 := Lib.hid (And.intro h6 hs6)
      clear h6 hs6 c5
      go_wp2
      rw [I9.out]
      refine ⟨⟨k + 1, HK.out, rfl, ?_, G6.out.2⟩, meas_succ HK.out⟩
      rw [HP1.out]
      exact G6.out.1.mono (by omega)
    · obtain rfl : k = n := by omega
      have i1 : ¬ ((k : Int) < (k : Int)) := by omega
      have G5 := Lib.hid h5
      clear hkn hk h5 hs5
      go_wp2
      refine bodyPost_end (results_none rfl _ _ _) rfl ?_
      rw [HNE.out]
      exact ⟨rfl, G5.out.mono (B' := B + 200000) (by have := HN.out; omega)⟩
set_option maxHeartbeats 1000000 in
theorem ent_any (h : FS W fb mb Z B S m w) (hK : ∀ e ∈ m.es, 0 ≤ e.K ∧ e.K ≤ 8192) (hL : m.es.length ≤ 8192) (hrd : S.m.isRd = true → m.l.l = [] ∧ m.p.cs = []) (hB : B ≤ 300000) :
    Calls Try.prog 55 #[.pointer (some ⟨fb, 0, none⟩)] w fun e w' => e = .returned (.tuple #[]) ∧ FS W fb mb Z (B + 400000) (entF S m).1 (entF S m).2 w' := by
  obtain ⟨l1, hl1⟩ : ∃ l1, l1 = szE S m.es := ⟨_, rfl⟩
  obtain ⟨P, hP⟩ : ∃ P : Nat → Sf × List En, P = eLp (intF S (m.es.length : Nat)).1 l1 := ⟨_, rfl⟩
  have hgoal : entF S m = ((P l1.length).1, { m with es := (P l1.length).2 }) := by rw [hP, hl1]; rfl
  rw [hgoal]
  have HN : Hid (l1.length ≤ 8192) := Lib.hid (by rw [hl1]; exact szE_le hL)
  have HC0 := Lib.hid h.slots
  have H4 := Lib.hid (h.sizedE hL (by omega))
  rw [← hl1] at H4
  have hP0 : P 0 = ((intF S (m.es.length : Nat)).1, l1) := by rw [hP]; rfl
  have HP1 : Hid (∀ k, P (k + 1) = ((enS (P k).1 ((P k).2.getD k en0)).1, (P k).2.set k (enS (P k).1 ((P k).2.getD k en0)).2)) := Lib.hid fun k => by rw [hP]; rfl
  have HPL : Hid (∀ k, (P k).2.length = l1.length) := Lib.hid fun k => by rw [hP, eLp_len]
  have HPR : Hid (∀ k, (P k).1.m.isRd = S.m.isRd) := Lib.hid fun k => by rw [hP, eLp_isRd, alike_isRd_int]
  have HPK : Hid (∀ k, k < l1.length → 0 ≤ ((P k).2.getD k en0).K ∧ ((P k).2.getD k en0).K ≤ 8192) := Lib.hid fun k hk => by
    rw [hP, eLp_rest _ _ k k (Nat.le_refl _), hl1]
    rw [hl1] at hk
    unfold szE at hk ⊢
    split
    · rename_i q
      rw [if_pos q] at hk
      rw [List.length_replicate] at hk
      rw [List.getD_eq_getElem?_getD, List.getElem?_replicate, if_pos hk]
      exact ⟨Int.le_refl _, by decide⟩
    · rename_i q
      rw [if_neg q] at hk
      exact hK _ (mem_getD hk)
  have HP0 := Lib.hid hP0
  have HRD := Lib.hid hrd
  have HB := Lib.hid hB
  clear hgoal hP hP0 hl1 h hK hL hrd hB
  go_enter Try.func55, Try.ntmps55
  have c0 := HC0.out
  go_wp2_with fail
  refine H4.out.mono ?_
  rintro e w4 ⟨a, c, rfl, h4, hsl⟩
  have G4 := Lib.hid h4
  have HSL := Lib.hid hsl
  clear c0 HC0 H4 h4 hsl
  generalize hn : l1.length = n at *
  have HNE := Lib.hid hn
  clear hn
  go_wp2_with fail
  go_loopw [14] (fun i wr => ∃ (k : Nat), k ≤ n ∧ i = .int .i64 k ∧ FS W fb mb Z (B + 9 + 36 * k) (P k).1 { m with es := (P k).2 } wr ∧ wr.cell? ⟨mb, 4, none⟩ = some (.slice a n c)) (fun i _ => n - (intOf i).toNat)
  case atStart => exact ⟨0, Nat.zero_le _, rfl, by rw [HP0.out]; exact G4.out, HSL.out⟩
  case round =>
    obtain ⟨k, hk, rfl, h5, hs5⟩ := hrel
    by_cases hkn : k < n
    · have hkl : k < (P k).2.length := by rw [HPL.out]; exact hkn
      have hbB : B + 9 + 36 * k ≤ 800000 := by have := HB.out; have := HN.out; omega
      have hrk := HPR.out k
      have hpk := HPK.out k hkn
      have hp1 := HP1.out k
      generalize P k = Pk at *
      obtain ⟨Sk, lk⟩ := Pk
      dsimp only at *
      obtain ⟨e0, he0⟩ : ∃ e0, e0 = lk.getD k en0 := ⟨_, rfl⟩
      rw [← he0] at hpk hp1
      obtain ⟨g, off, rfl, hcall⟩ := h5.enT hs5 (k := k) hkl (fun hr => HRD.out (by rw [← hrk]; exact hr)) (by omega)
      dsimp only at hcall
      rw [← he0] at hcall
      have HC2 := Lib.hid (fun w6 (h6 : FS W fb mb Z (B + 9 + 36 * k + 9) (numS Sk e0.T).1 { m with es := lk.set k { e0 with T := (numS Sk e0.T).2 } } w6) (hs6 : w6.cell? ⟨mb, 4, none⟩ = some (.slice (some ⟨g, off, none⟩) n c)) => by
        have q := h6.enK hs6 (k := k) (by simpa using hkl) (by simp only; rw [getD_set_self hkl]; exact hpk) (fun hr => HRD.out (by rw [← hrk, ← alike_isRd_num Sk e0.T]; exact hr)) (by omega)
        simp only [getD_set_self hkl, List.set_set] at q
        obtain ⟨g', off', e, q⟩ := q
        simp only [Option.some.injEq, Addr.mk.injEq, and_true] at e
        obtain ⟨rfl, rfl⟩ := e
        exact q)
      have HC3 := Lib.hid (fun w6 (h6 : FS W fb mb Z (B + 9 + 36 * k + 9 + 9) (intF (numS Sk e0.T).1 e0.K).1 { m with es := lk.set k { e0 with T := (numS Sk e0.T).2, K := (intF (numS Sk e0.T).1 e0.K).2 } } w6) (hs6 : w6.cell? ⟨mb, 4, none⟩ = some (.slice (some ⟨g, off, none⟩) n c)) => by
        have q := h6.enG hs6 (k := k) (by simpa using hkl) (fun hr => HRD.out (by rw [← hrk, ← alike_isRd_num Sk e0.T, ← alike_isRd_int (numS Sk e0.T).1 e0.K]; exact hr)) (by omega)
        simp only [getD_set_self hkl, List.set_set] at q
        obtain ⟨g', off', e, q⟩ := q
        simp only [Option.some.injEq, Addr.mk.injEq, and_true] at e
        obtain ⟨rfl, rfl⟩ := e
        exact q)
      have c5 := h5.slots
      have HCALL := Lib.hid hcall
      have HK := Lib.hid hkn
      have i1 : (k : Int) < (n : Int) := by omega
      have i9 : wrap64 ((k : Int) + 1) = (k : Int) + 1 := IntWalk.wrap64_in _ (by have := HN.out; omega)
      have I9 := Lib.hid i9
      have HP1K := Lib.hid hp1
      clear i9 hkl hcall h5 hs5 hk hkn hbB hrk hpk hp1 he0
      go_wp2_with fail
      refine HCALL.out.mono ?_
      rintro e w6 ⟨rfl, h6, hs6⟩
      have c6 := h6.slots
      have G6 := Lib.hid (And.intro h6 hs6)
      clear h6 hs6 c5
      go_wp2_with fail
      refine (HC2.out w6 G6.out.1 G6.out.2).mono ?_
      rintro e w7 ⟨rfl, h7, hs7⟩
      have c7 := h7.slots
      have G7 := Lib.hid (And.intro h7 hs7)
      clear h7 hs7 c6
      go_wp2_with fail
      refine (HC3.out w7 G7.out.1 G7.out.2).mono ?_
      rintro e w8 ⟨rfl, h8, hs8⟩
      have G8 := Lib.hid (And.intro h8 hs8)
      clear h8 hs8 c7
      go_wp2
      rw [I9.out]
      refine ⟨⟨k + 1, HK.out, rfl, ?_, G8.out.2⟩, meas_succ HK.out⟩
      rw [HP1K.out]
      exact G8.out.1.mono (by omega)
    · obtain rfl : k = n := by omega
      have i1 : ¬ ((k : Int) < (k : Int)) := by omega
      have G5 := Lib.hid h5
      clear hkn hk h5 hs5
      go_wp2
      refine bodyPost_end (results_none rfl _ _ _) rfl ?_
      rw [HNE.out]
      exact ⟨rfl, G5.out.mono (B' := B + 400000) (by have := HN.out; omega)⟩
end
end Go.Proofs.Ytikimmhkfjaijaa
namespace Go.Proofs.Ytikimmhkfjaijaa
open Go.RowKit Reg Go.ChangeShapes

theorem exec_store_mid {P : Program} {o : Oper} {a : Act} {w : World} (ty : TypeId) (x y : Operand) (ho : o.op = .store ty x y) (g off : Nat) (cells : Array Value) (hx : a.eval x = .pointer (some ⟨g, off, none⟩)) (hy : a.eval y = .agg cells)
    (ht : w.there g off cells.size) (hi : (P.info? ty).map (·.size) = some cells.size) (h1 : cells.all (·.oneCell') = true) :
    (execOp a.eval o).run P w = .ok .skip (w.setCells g off cells.toList) := by
  unfold execOp
  simp only [ho, hx, hy, Instr.storeAt, Instr.sureAddr, Sem.run_bind, Sem.run_pure, Result.andThen_ok, run_storeVar_mid w g off ty cells ht hi h1]
theorem kp_setCells (b : Nat) : ∀ (vs : List Value) (o : Nat) (w : World), Kp (· = b) w (w.setCells b o vs)
  | [], _, w => Kp.refl _ w
  | u :: vs, o, w => by
    have h1 : Kp (· = b) w (w.setCell ⟨b, o, none⟩ u) := ⟨(Below.refl 0 w).setCell (Nat.zero_le _) _, fun i _ hn => Below.heap_setCell w _ _ i hn⟩
    exact h1.trans (kp_setCells b vs (o + 1) _)
def setMany : Array Value → Nat → List Value → Array Value
  | cs, _, [] => cs
  | cs, o, u :: us => setMany (cs.setIfInBounds o u) (o + 1) us
theorem blk_setCells {g : Nat} {t : TypeId} : ∀ (vs : List Value) (o : Nat) (w : World) (cs : Array Value), Blk w g t cs → Blk (w.setCells g o vs) g t (setMany cs o vs)
  | [], _, _, _, h => h
  | u :: vs, o, _, _, h => blk_setCells vs (o + 1) _ _ (h.set o u)

def prL (p : Prt) (sc : Value) : List Value := [.int .u64 p.b.1, .int .u64 p.b.2, .int .u64 p.t.1, .int .u64 p.t.2, .int .i64 p.f, .int .i64 p.a, sc]
theorem prL_one (p : Prt) (a : Option Addr) (n c : Nat) : ((prL p (.slice a n c)).toArray.all fun x => x.oneCell') = true := by
  rw [← Array.all_toList]
  rfl
theorem msA_part (m : Ms) (p : Prt) (se sl sc sv : Value) : setMany (msA m se sl sc) 19 (prL p sv) = msA { m with p := p } se sl sv := by simp [setMany, msA, prL]
def partF (S : Sf) (m : Ms) : Sf × Ms :=
  match S.m with
  | .lay s => (⟨.lay (s ++ Wire.putText (encS m.p).data.toList), S.bad || decide (checkP m.p ≠ 0)⟩, m)
  | .rd r st => (⟨.rd r (Wire.text st).2, S.bad || decide (decE 9 2 (strOf (Wire.text st).1) ≠ 0)⟩, { m with p := decP 9 2 (strOf (Wire.text st).1) })
theorem putNum_le (n : Nat) : (Wire.putNum n).length ≤ 9 := Wire.putNum_length n
theorem chgs_le : ∀ cs : List Cg, (∀ x ∈ cs, x.2.size = 32) → (cs.flatMap chgB).length ≤ 50 * cs.length
  | [], _ => by simp
  | x :: cs, h => by
    have h1 := chgs_le cs (fun y hy => h y (List.mem_cons_of_mem _ hy))
    have h2 := h x List.mem_cons_self
    have h3 := putNum_le x.1.toNat
    have h4 := putNum_le x.2.data.toList.length
    have h5 : x.2.data.toList.length = 32 := by rw [Array.length_toList]; exact h2
    have h6 : (chgB x).length ≤ 50 := by
      simp only [chgB, Wire.putText, List.length_append]
      omega
    simp only [List.flatMap_cons, List.length_append, List.length_cons]
    omega
theorem encB_le {p : Prt} (hok : okP p) : (encB p).length ≤ 163 := by
  have h1 := numB_le p (List.range 7)
  have h2 := chgs_le p.cs (fun x hx => (mayC_size p.cs (-1) (by decide) hok.2.2.2.2.2 x hx).2)
  have h3 := hok.2.2.2.1
  simp only [encB, List.length_append, List.length_range] at h1 ⊢
  omega
theorem encS_le (p : Prt) : (encS p).size ≤ 167 := by
  unfold encS
  split
  · rename_i h
    have := encB_le h
    rw [size_strOf, Crc.length_sealed]
    omega
  · exact Nat.zero_le _
theorem text_len (st : Wire.St) {w : World} {r : Nat} (h : Rdr w r st) : (Wire.text st).1.length ≤ 1152921504606846976 := by
  unfold Wire.text
  split
  · simp
  · rename_i l hl
    split
    · simp
    · rw [List.length_take]
      have hle : l.length ≤ 1152921504606846976 := by
        cases st with
        | none => cases hl
        | some l0 =>
          obtain ⟨g, off, c, b, _, _, h3, _⟩ := h
          cases l0 with
          | nil => cases hl
          | cons k r0 =>
            simp only [Wire.num] at hl
            split at hl
            · cases hl
            · simp only [Option.some.injEq] at hl
              rw [← hl, List.length_drop]
              simp only [List.length_cons] at h3
              omega
      omega
section
variable {W : World} {fb mb : Nat} {Z : Nat → Prop} {B : Nat} {S S' : Sf} {m m' : Ms} {w w' : World}
theorem slB_own {base : Nat} {sv : Value} {cs : List Cg} (h : OwC w base sv cs) {b : Nat} (hb : slB sv = some b) : base ≤ b := by
  rcases h.1.2 with ⟨rfl, _⟩ | ⟨g, cap, cur, rfl, hg, _⟩
  · cases hb
  · simp only [slB, Option.some.injEq] at hb
    omega
/-- the part has been stored -/
theorem FS.part (h : FS W fb mb Z B S m w) (p : Prt) (sv : Value) (hc : CRow Z p w sv) : FS W fb mb Z B S { m with p := p } (w.setCells mb 19 (prL p sv)) := by
  obtain ⟨se, sl, sc, hb, h1, h2, h3⟩ := h.ls
  have hk := kp_setCells mb (prL p sv) 19 w
  have hz : ∀ b, ¬ Z b → ¬ b = mb := fun b hb e => hb (e ▸ h.zm)
  refine ⟨h.kp.trans (hk.mono fun b e => e ▸ h.zm), h.fd.kp hk (fun b hb e => ?_), h.zz, h.zm, h.zl, h.ne, h.far, h.sz, se, sl, sv, ?_, h1.next hk hz (Alike.refl S), h2.next hk hz (Alike.refl S), hc.next hk hz⟩
  · rcases hb with q | q
    · exact h.ne (e.symm.trans q)
    · exact h.far (e ▸ q)
  · have := blk_setCells (prL p sv) 19 w _ hb
    rw [msA_part] at this
    exact this
/-- 'f.bad = b' -/
theorem FS.badTo (h : FS W fb mb Z B S m w) (b : Bool) : FS W fb mb Z B ⟨S.m, b⟩ m (w.setCell ⟨fb, 3, none⟩ (.bool b)) := by
  refine h.turn ((Kp.at w ⟨fb, 3, none⟩ _).mono fun b e => .inl e) ⟨h.fd.1.set 3 _, Md.ok_kp (A := fun b => b = fb) h.fd.2.1 (Kp.at _ _ _) (fun b hb e => h.fd.2.2 (e ▸ hb)), h.fd.2.2⟩ ⟨rfl, rfl, rfl⟩ h.sz
theorem FS.slotC (h : FS W fb mb Z B S m w) : ∃ sc, (∃ a c, sc = .slice a m.p.cs.length c) ∧ w.rangeAt mb 19 (prL m.p sc) ∧ CRow Z m.p w sc ∧ w.there mb 19 7 := by
  obtain ⟨se, sl, sc, hb, h1, h2, h3⟩ := h.ls
  have h4 := h3.1
  obtain ⟨a, c, rfl, -, -⟩ := h4
  refine ⟨_, ⟨a, c, rfl⟩, fun j v hj => ?_, h3, hb.there (by show 19 + 7 ≤ 26; decide)⟩
  rw [hb.cell]
  have hj7 : j < 7 := by
    rcases Nat.lt_or_ge j 7 with q | q
    · exact q
    · rw [List.getElem?_eq_none (by exact q)] at hj; cases hj
  match j, hj7 with
  | 0, _ => exact hj
  | 1, _ => exact hj
  | 2, _ => exact hj
  | 3, _ => exact hj
  | 4, _ => exact hj
  | 5, _ => exact hj
  | 6, _ => exact hj
set_option maxRecDepth 100000 in
set_option maxHeartbeats 1000000 in
theorem part_any (h : FS W fb mb Z B S m w) (hB : B ≤ 900000) :
    Calls Try.prog 58 #[.pointer (some ⟨fb, 0, none⟩)] w fun e w' => e = .returned (.tuple #[]) ∧ FS W fb mb Z (B + 200) (partF S m).1 (partF S m).2 w' := by
  obtain ⟨md, bad⟩ := S
  cases md with
  | lay s =>
    obtain ⟨sc, ⟨sa, scc, rfl⟩, hrng, hcr, -⟩ := h.slotC
    have hin : InPr w (prV m.p (.slice sa m.p.cs.length scc)) m.p := ⟨_, rfl, hcr.1, hcr.2.2⟩
    have HENC := Lib.hid (enc_any w _ m.p hin)
    have hss : s.length ≤ 900000 := Nat.le_trans h.sz hB
    have hes := encS_le m.p
    obtain ⟨O2, hO2⟩ : ∃ O2, O2 = strOf (s ++ Wire.putText (encS m.p).data.toList) := ⟨_, rfl⟩
    have HPT : Hid (∀ w2, Calls Try.prog 73 #[.string (strOf s), .string (encS m.p)] w2 fun e w' => e = .returned (.string O2) ∧ Below w2.heap.size w2 w') := Lib.hid fun w2 => by
      have := putText_any (strOf s) (encS m.p) w2 (by omega) (by rw [size_strOf]; omega)
      rw [strOf_list, ← hO2] at this
      exact this
    have hfs : ∀ w2, Below w.heap.size w w2 → ∀ b, FS W fb mb Z (B + 200) ⟨.lay (s ++ Wire.putText (encS m.p).data.toList), b⟩ m ((w2.setCell ⟨fb, 1, none⟩ (.string O2)).setCell ⟨fb, 3, none⟩ (.bool b)) := fun w2 h2 b => by
      have hk : Kp (Zf fb (Md.lay s)) w (w2.setCell ⟨fb, 1, none⟩ (.string O2)) := (Kp.of_below h2).trans ((Kp.at _ _ _).mono fun b e => .inl e)
      have hfd := ((h.fd.1.keep h2).set 1 (.string O2))
      have h3 : FS W fb mb Z (B + 200) ⟨.lay (s ++ Wire.putText (encS m.p).data.toList), bad⟩ m (w2.setCell ⟨fb, 1, none⟩ (.string O2)) := by
        refine h.turn hk ⟨?_, trivial, h.fd.2.2⟩ ⟨rfl, rfl, rfl⟩ ?_
        · rw [hO2] at hfd ⊢
          exact hfd
        · have := putNum_le (encS m.p).data.toList.length
          have h5 : (encS m.p).data.toList.length = (encS m.p).size := Array.length_toList
          have := h.sz
          simp only [Md.sz, Wire.putText, List.length_append] at this ⊢
          omega
      exact h3.badTo b
    have HFS := Lib.hid hfs
    have c0 := h.slots
    have c1 : w.cell? ⟨fb, 1, none⟩ = some (.string (strOf s)) := by rw [h.fd.1.cell]; rfl
    have c2 : w.cell? ⟨fb, 2, none⟩ = some (.pointer none) := by rw [h.fd.1.cell]; rfl
    have c3 : w.cell? ⟨fb, 3, none⟩ = some (.bool bad) := by rw [h.fd.1.cell]; rfl
    have f1 := h.fd.1.frozen 1
    have HFB := Lib.hid h.fd.1
    have HRNG := Lib.hid hrng
    have hgoal : partF ⟨.lay s, bad⟩ m = (⟨.lay (s ++ Wire.putText (encS m.p).data.toList), bad || decide (checkP m.p ≠ 0)⟩, m) := rfl
    rw [hgoal]
    clear hgoal hfs hO2 hes hss hin hcr hrng h hB
    generalize checkP m.p = z at *
    generalize encS m.p = E at *
    have HSI : Hid ((Try.prog.info? 31).map (·.size) = some (prL m.p (.slice sa m.p.cs.length scc)).length) := Lib.hid part_size
    have hpl : Value.agg (prL m.p (.slice sa m.p.cs.length scc)).toArray = prV m.p (.slice sa m.p.cs.length scc) := rfl
    generalize hprl : prL m.p (.slice sa m.p.cs.length scc) = pl at *
    go_enter Try.func58, Try.ntmps58
    go_wp2_with (first | refine wpList_load_mid rfl 31 _ rfl mb 19 rfl pl _ HRNG.out Try.underlying31 rfl HSI.out ?_)
    refine HENC.out.mono ?_
    rintro e w2 ⟨rfl, hb2⟩
    have d1 := cell_later hb2 c1
    have f2 := (HFB.out.keep hb2).frozen 1
    have HB2 := Lib.hid hb2
    clear hb2 hpl hprl c0 c2
    go_wp2_with fail
    refine (HPT.out _).mono ?_
    rintro e w3 ⟨rfl, hb3⟩
    have hb4 := HB2.out.trans (hb3.mono HB2.out.size)
    have d1 := cell_later hb4 c1
    have d3 := cell_later hb4 c3
    have f3 := (HFB.out.keep hb4).frozen 1
    have f33 := (HFB.out.keep hb4).frozen 3
    have HFW := Lib.hid (HFS.out w3 hb4)
    clear hb3 hb4 c1 c3 f1 f2 HB2 HFS
    cases bad with
    | true =>
      have HR := Lib.hid (HFW.out true)
      clear HFW
      go_wp2
      refine bodyPost_end (results_none rfl _ _ _) rfl ?_
      exact ⟨rfl, HR.out⟩
    | false =>
      by_cases hz : z = 0
      · subst hz
        have HR := Lib.hid (HFW.out false)
        clear HFW
        go_wp2
        refine bodyPost_end (results_none rfl _ _ _) rfl ?_
        exact ⟨rfl, HR.out⟩
      · have HR := Lib.hid (HFW.out true)
        have hne : (z != 0) = true := by simpa using hz
        have hd : decide (z ≠ 0) = true := decide_eq_true hz
        have HD := Lib.hid hd
        clear HFW hd
        go_wp2
        refine bodyPost_end (results_none rfl _ _ _) rfl ?_
        rw [HD.out]
        exact ⟨rfl, HR.out⟩
  | rd r st =>
    have hrd : Rdr w r st := h.fd.2.1
    have htl := text_len st hrd
    obtain ⟨T, hT⟩ : ∃ T, T = strOf (Wire.text st).1 := ⟨_, rfl⟩
    obtain ⟨st2, hst2⟩ : ∃ st2, st2 = (Wire.text st).2 := ⟨_, rfl⟩
    have HTX := Lib.hid (fun w2 (h2 : Below w.heap.size w w2) => text_any r st w2 (hrd.keep h2))
    have HDEC := Lib.hid (fun w2 => dec_any w2 T (by rw [hT, size_strOf]; exact htl))
    unfold TextPost at HTX
    unfold DecT at HDEC
    rw [← hT, ← hst2] at HTX
    obtain ⟨P, hP⟩ : ∃ P, P = decP 9 2 T := ⟨_, rfl⟩
    obtain ⟨z, hz⟩ : ∃ z, z = decE 9 2 T := ⟨_, rfl⟩
    rw [← hP, ← hz] at HDEC
    have hgoal : partF ⟨.rd r st, bad⟩ m = (⟨.rd r st2, bad || decide (z ≠ 0)⟩, { m with p := P }) := by rw [hst2, hz, hP, hT]; rfl
    rw [hgoal]
    have hzlt : ∀ b, Z b → b < w.heap.size := fun b hb => h.z_lt hb
    have HSTEP : Hid (∀ w2 w3, Below w.heap.size w w2 → w2.grownBy w3 (some r) → Rdr w3 r st2 → FS W fb mb Z (B + 200) ⟨.rd r st2, bad⟩ m w3) := Lib.hid fun w2 w3 h2 h3 h4 => by
      have hk : Kp (Zf fb (Md.rd r st)) w w3 := (Kp.of_below h2).trans ((Kp.of_row h3).mono fun b e => .inr e)
      refine h.turn hk ⟨?_, h4, h.fd.2.2⟩ ⟨rfl, rfl, rfl⟩ (Nat.zero_le _)
      exact (Kp.of_row h3).blk (h.fd.1.keep h2) (fun e => h.fd.2.2 (.inl e))
    have HFB := Lib.hid h.fd.1
    have HH := Lib.hid h
    have HZL := Lib.hid hzlt
    have c2 : w.cell? ⟨fb, 2, none⟩ = some (.pointer (some ⟨r, 0, none⟩)) := by rw [h.fd.1.cell]; rfl
    have HSI : Hid ((Try.prog.info? 31).map (·.size) = some 7) := Lib.hid part_size
    clear hgoal hzlt hz hP hT hst2 htl hrd h hB
    go_enter Try.func58, Try.ntmps58
    go_wp2_with fail
    refine wp_region_chain [8, 9, 15] (kv [(8, .is (.string T)), (9, .ex (fun u => ∃ a c, u = .tuple #[.agg (prL P (.slice a P.cs.length c)).toArray, .int .i64 z]) ⟨_, none, 0, rfl⟩), (15, .is undef)]) (fun l w2 => match l with | [] => Below w.heap.size w w2 | [_] => FS W fb mb Z (B + 200) ⟨.rd r st2, bad⟩ m w2 ∧ w.heap.size ≤ w2.heap.size | [_, v] => FS W fb mb Z (B + 200) ⟨.rd r st2, bad⟩ m w2 ∧ ∃ sv, v = .tuple #[.agg (prL P sv).toArray, .int .i64 z] ∧ CRow Z P w2 sv | _ => FS W fb mb Z (B + 200) ⟨.rd r st2, bad⟩ { m with p := P } w2) (by kernel_rfl) (by kernel_rfl) (by kernel_rfl) (kv_inh _) (Below.drew (Below.refl _ _)) ?_
    intro ν hν
    have n8 : ν 8 = .string T := hν 8
    obtain ⟨a9, c9, n9⟩ : ∃ a c, ν 9 = .tuple #[.agg (prL P (.slice a P.cs.length c)).toArray, .int .i64 z] := hν 9
    have n15 : ν 15 = undef := hν 15
    clear hν
    refine ch_plain 0 3 6 (by rfl) rfl (by kernel_rfl) (by kernel_rfl) ?_
    apply Exists.intro
    refine ⟨fun st w2 hlo hhi hJ => ?_, ?_⟩
    · clear hlo hhi hJ
      go_simp
      exact And.intro rfl rfl
    simp only [Act.put, List.setIfInBounds_toArray, List.set_cons_succ, List.set_cons_zero, Nat.reduceAdd]
    refine ch_plain 0 3 6 (by rfl) rfl (by kernel_rfl) (by kernel_rfl) ?_
    apply Exists.intro
    refine ⟨fun st w2 hlo hhi hJ => ?_, ?_⟩
    · clear hlo hhi hJ
      go_simp
      exact And.intro rfl rfl
    simp only [Act.put, List.setIfInBounds_toArray, List.set_cons_succ, List.set_cons_zero, Nat.reduceAdd]
    refine ch_plain 0 3 6 (by rfl) rfl (by kernel_rfl) (by kernel_rfl) ?_
    apply Exists.intro
    refine ⟨fun st w2 hlo hhi hJ => ?_, ?_⟩
    · clear hlo hhi hJ
      go_simp
      exact And.intro rfl rfl
    simp only [Act.put, List.setIfInBounds_toArray, List.set_cons_succ, List.set_cons_zero, Nat.reduceAdd]
    refine ch_plain 0 2 6 (by rfl) rfl (by kernel_rfl) (by kernel_rfl) ?_
    apply Exists.intro
    refine ⟨fun st w2 hlo hhi hJ => ?_, ?_⟩
    · have y0 : w2.cell? ⟨fb, 0, none⟩ = some (.pointer (some ⟨mb, 0, none⟩)) := by
        have q : st = 0 ∨ st = 1 ∨ st = 2 := by omega
        rcases q with rfl | rfl | rfl
        · have hj : Below w.heap.size w w2 := hJ
          exact cell_later hj HH.out.slots
        · have hj : FS W fb mb Z (B + 200) ⟨.rd r st2, bad⟩ m w2 ∧ _ := hJ
          exact hj.1.slots
        · have hj : FS W fb mb Z (B + 200) ⟨.rd r st2, bad⟩ m w2 ∧ _ := hJ
          exact hj.1.slots
      clear hlo hhi hJ
      go_simp
      exact And.intro rfl rfl
    simp only [Act.put, List.setIfInBounds_toArray, List.set_cons_succ, List.set_cons_zero, Nat.reduceAdd]
    refine ch_plain 0 3 6 (by rfl) rfl (by kernel_rfl) (by kernel_rfl) ?_
    apply Exists.intro
    refine ⟨fun st w2 hlo hhi hJ => ?_, ?_⟩
    · clear hlo hhi hJ
      go_simp
      exact And.intro rfl rfl
    simp only [Act.put, List.setIfInBounds_toArray, List.set_cons_succ, List.set_cons_zero, Nat.reduceAdd]
    refine ch_plain 0 3 6 (by rfl) rfl (by kernel_rfl) (by kernel_rfl) ?_
    apply Exists.intro
    refine ⟨fun st w2 hlo hhi hJ => ?_, ?_⟩
    · clear hlo hhi hJ
      go_simp
      exact And.intro rfl rfl
    simp only [Act.put, List.setIfInBounds_toArray, List.set_cons_succ, List.set_cons_zero, Nat.reduceAdd]
    refine ch_plain 0 3 6 (by rfl) rfl (by kernel_rfl) (by kernel_rfl) ?_
    apply Exists.intro
    refine ⟨fun st w2 hlo hhi hJ => ?_, ?_⟩
    · clear hlo hhi hJ
      go_simp
      exact And.intro rfl rfl
    simp only [Act.put, List.setIfInBounds_toArray, List.set_cons_succ, List.set_cons_zero, Nat.reduceAdd]
    refine ch_plain 0 0 6 (by rfl) rfl (by kernel_rfl) (by kernel_rfl) ?_
    apply Exists.intro
    refine ⟨fun st w2 hlo hhi hJ => ?_, ?_⟩
    · have hj : Below w.heap.size w w2 := by
        obtain rfl : st = 0 := by omega
        exact hJ
      have y2 := cell_later hj c2
      clear hj
      clear hlo hhi hJ
      go_simp
      exact And.intro rfl rfl
    simp only [Act.put, List.setIfInBounds_toArray, List.set_cons_succ, List.set_cons_zero, Nat.reduceAdd]
    refine ch_special 0 6 (by rfl) rfl (by decide) (by kernel_rfl) (fun w2 hJ => ?_) ?_
    · have hj : Below w.heap.size w w2 := hJ
      go_simp
      refine (HTX.out w2 hj).mono ?_
      rintro e w3 ⟨rfl, h3, h4⟩
      exact ⟨_, rfl, rfl, HSTEP.out w2 w3 hj h4 h3, Nat.le_trans hj.size h4.size⟩
    rw [n8]
    simp only [Act.put, List.setIfInBounds_toArray, List.set_cons_succ, List.set_cons_zero, Nat.reduceAdd]
    refine ch_special 1 6 (by rfl) rfl (by decide) (by kernel_rfl) (fun w2 hJ => ?_) ?_
    · have hj : FS W fb mb Z (B + 200) ⟨.rd r st2, bad⟩ m w2 ∧ w.heap.size ≤ w2.heap.size := hJ
      go_simp
      refine (HDEC.out w2).mono ?_
      rintro e w3 ⟨v, rfl, ⟨sv, rfl, hown, hwf⟩, hb⟩
      obtain ⟨a, c, hsv⟩ : ∃ a c, sv = .slice a P.cs.length c := by
        obtain ⟨a, c, e, -⟩ := hown.rd
        exact ⟨a, c, e⟩
      refine ⟨_, rfl, ⟨a, c, by rw [hsv]; rfl⟩, hj.1.turn (Kp.of_below hb) (hj.1.fd.keep hb) (Alike.refl _) hj.1.sz, sv, rfl, hown.rd, fun _ b hb2 hzb => ?_, hwf⟩
      have h1 := slB_own hown hb2
      have h2 := HZL.out b hzb
      omega
    rw [n9]
    simp only [Act.put, List.setIfInBounds_toArray, List.set_cons_succ, List.set_cons_zero, Nat.reduceAdd]
    refine ch_plain 0 3 6 (by rfl) rfl (by kernel_rfl) (by kernel_rfl) ?_
    apply Exists.intro
    refine ⟨fun st w2 hlo hhi hJ => ?_, ?_⟩
    · clear hlo hhi hJ
      go_simp
      exact And.intro rfl rfl
    simp only [Act.put, List.setIfInBounds_toArray, List.set_cons_succ, List.set_cons_zero, Nat.reduceAdd]
    refine ch_plain 0 3 6 (by rfl) rfl (by kernel_rfl) (by kernel_rfl) ?_
    apply Exists.intro
    refine ⟨fun st w2 hlo hhi hJ => ?_, ?_⟩
    · clear hlo hhi hJ
      go_simp
      exact And.intro rfl rfl
    simp only [Act.put, List.setIfInBounds_toArray, List.set_cons_succ, List.set_cons_zero, Nat.reduceAdd]
    refine ch_plain 0 3 6 (by rfl) rfl (by kernel_rfl) (by kernel_rfl) ?_
    apply Exists.intro
    refine ⟨fun st w2 hlo hhi hJ => ?_, ?_⟩
    · clear hlo hhi hJ
      go_simp
      exact And.intro rfl rfl
    simp only [Act.put, List.setIfInBounds_toArray, List.set_cons_succ, List.set_cons_zero, Nat.reduceAdd]
    refine ch_plain 0 3 6 (by rfl) rfl (by kernel_rfl) (by kernel_rfl) ?_
    apply Exists.intro
    refine ⟨fun st w2 hlo hhi hJ => ?_, ?_⟩
    · clear hlo hhi hJ
      go_simp
      exact And.intro rfl rfl
    simp only [Act.put, List.setIfInBounds_toArray, List.set_cons_succ, List.set_cons_zero, Nat.reduceAdd]
    refine ch_plain 0 3 6 (by rfl) rfl (by kernel_rfl) (by kernel_rfl) ?_
    apply Exists.intro
    refine ⟨fun st w2 hlo hhi hJ => ?_, ?_⟩
    · clear hlo hhi hJ
      go_simp
      exact And.intro rfl rfl
    simp only [Act.put, List.setIfInBounds_toArray, List.set_cons_succ, List.set_cons_zero, Nat.reduceAdd]
    refine ch_special 2 6 (by rfl) rfl (by decide) (by kernel_rfl) (fun w2 hJ => ?_) ?_
    · have hj : FS W fb mb Z (B + 200) ⟨.rd r st2, bad⟩ m w2 ∧ ∃ sv, ν 9 = .tuple #[.agg (prL P sv).toArray, .int .i64 z] ∧ CRow Z P w2 sv := hJ
      have hf := hj.1
      have hj2 := hj.2
      clear hj hJ
      refine hj2.elim fun sv hj3 => ?_
      have hsv := hj3.1
      have hcr := hj3.2
      clear hj3
      rw [n9] at hsv
      have hsv2 : sv = .slice a9 P.cs.length c9 := by
        simp only [Value.tuple.injEq, Value.agg.injEq, prL, Array.mk.injEq, List.cons.injEq, true_and, and_true] at hsv
        exact hsv.symm
      subst hsv2
      obtain ⟨sc, -, -, -, hth⟩ := hf.slotC
      rw [exec_store_mid 31 (.tmp 23) (.tmp 20) rfl mb 19 (prL P (.slice a9 P.cs.length c9)).toArray rfl rfl hth HSI.out (prL_one _ _ _ _)]
      exact ⟨rfl, hf.part P _ hcr⟩
    rw [n15]
    simp only [Act.put, Nat.reduceAdd]
    refine ch_plain 0 3 6 (by rfl) rfl (by kernel_rfl) (by kernel_rfl) ?_
    apply Exists.intro
    refine ⟨fun st w2 hlo hhi hJ => ?_, ?_⟩
    · clear hlo hhi hJ
      go_simp
      exact And.intro rfl rfl
    simp only [Act.put, Nat.reduceAdd]
    refine ch_nil (fun w9 hJ => ?_)
    have HF9 : Hid (FS W fb mb Z (B + 200) ⟨.rd r st2, bad⟩ { m with p := P } w9) := Lib.hid hJ
    clear hJ n8 n9 n15
    have d3 : w9.cell? ⟨fb, 3, none⟩ = some (.bool bad) := by rw [HF9.out.fd.1.cell]; rfl
    have f3 := HF9.out.fd.1.frozen 3
    have HFW := Lib.hid (fun b => HF9.out.badTo b)
    clear HF9 c2
    cases bad with
    | true =>
      have HR := Lib.hid (HFW.out true)
      clear HFW
      go_wp2
      refine bodyPost_end (results_none rfl _ _ _) rfl ?_
      exact ⟨rfl, HR.out⟩
    | false =>
      by_cases hz : z = 0
      · subst hz
        have HR := Lib.hid (HFW.out false)
        clear HFW
        go_wp2
        refine bodyPost_end (results_none rfl _ _ _) rfl ?_
        exact ⟨rfl, HR.out⟩
      · have HR := Lib.hid (HFW.out true)
        have hne : (z != 0) = true := by simpa using hz
        have hd : decide (z ≠ 0) = true := decide_eq_true hz
        have HD := Lib.hid hd
        clear HFW hd
        go_wp2
        refine bodyPost_end (results_none rfl _ _ _) rfl ?_
        exact ⟨rfl, HR.out⟩
end
end Go.Proofs.Ytikimmhkfjaijaa
