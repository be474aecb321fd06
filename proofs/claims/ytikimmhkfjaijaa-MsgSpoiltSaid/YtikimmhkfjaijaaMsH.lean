/-
  MESSAGES: lineage and entries, laid or read (printed by wip/gen-msgh.py).
-/
import Derived.Test.YtikimmhkfjaijaaMsG
namespace Go.Proofs.Ytikimmhkfjaijaa
open Go.RowKit Reg Go.ChangeShapes

theorem lay_num {m : Md} (h : m.isRd = false) (n : Nat) : (numF m n).2 = n := by
  cases m with
  | lay s => rfl
  | rd r st => cases h
theorem lay_gd {S : Sf} (h : S.m.isRd = false) {g : Gd} (hg : wfG g) : (gdS S g).2 = g := by
  obtain ⟨a, b⟩ := g
  obtain ⟨x, h1, h2⟩ := u64_nat hg.1
  obtain ⟨y, h3, h4⟩ := u64_nat hg.2
  dsimp only at h1 h3
  subst h1; subst h3
  have e1 := lay_num h x
  have e2 := lay_num (m := (numF S.m x).1) (by rw [numF_isRd]; exact h) y
  simp only [gdS, gdF, Int.toNat_natCast, e1, e2]
theorem getD_set_self {α : Type} {l : List α} {k : Nat} {x d : α} (h : k < l.length) : (l.set k x).getD k d = x := by
  rw [List.getD_eq_getElem?_getD, List.getElem?_set_self h]
  rfl
theorem mem_getD {α : Type} {l : List α} {k : Nat} {d : α} (h : k < l.length) : l.getD k d ∈ l := by
  rw [List.getD_eq_getElem?_getD, List.getElem?_eq_getElem h]
  exact List.getElem_mem h
section
variable {W : World} {fb mb : Nat} {Z : Nat → Prop} {B : Nat} {S S' : Sf} {m m' : Ms} {w w' : World}
theorem FS.mono (h : FS W fb mb Z B S m w) {B' : Nat} (hb : B ≤ B') : FS W fb mb Z B' S m w := ⟨h.kp, h.fd, h.zz, h.zm, h.zl, h.ne, h.far, Nat.le_trans h.sz hb, h.ls⟩
theorem FS.nz (h : FS W fb mb Z B S m w) {g : Nat} (hz : ¬ Z g) : g ≠ mb ∧ g ≠ fb ∧ ¬ Zf fb S.m g := ⟨fun e => hz (e ▸ h.zm), fun e => hz (e ▸ h.zfb), fun e => hz (h.zz g e)⟩
theorem cell_far {g o mb p : Nat} {w : World} {u v : Value} (hc : w.cell? ⟨mb, p, none⟩ = some v) (h : g ≠ mb) : (w.setCell ⟨g, o, none⟩ u).cell? ⟨mb, p, none⟩ = some v := by
  rw [World.cell?_setCell_other _ _ _ _ (fun e => by simp only [Addr.mk.injEq] at e; exact h e.1)]
  exact hc
theorem cell_turn (h : FS W fb mb Z B S m w) {w1 w' : World} {p : Nat} {v : Value} (hk : Kp (Zf fb S.m) w1 w') (hc : w1.cell? ⟨mb, p, none⟩ = some v) : w'.cell? ⟨mb, p, none⟩ = some v := by
  rw [World.cell?_of_block (a := ⟨mb, p, none⟩) (hk.2 mb (World.block_lt_of_cell? w1 _ hc) (h.pt 0).nz)]
  exact hc
/-- the k-th guid of the line's list -/
theorem FS.guidAt (h : FS W fb mb Z B S m w) {a : Option Addr} {n c k : Nat} (hsl : w.cell? ⟨mb, 12, none⟩ = some (.slice a n c)) (hk : k < m.l.l.length) (hrd : S.m.isRd = true → m.es = [] ∧ m.p.cs = []) (hB : B ≤ 900000) :
    ∃ g off, a = some ⟨g, off, none⟩ ∧ Calls Try.prog 57 #[.pointer (some ⟨fb, 0, none⟩), .pointer (some ⟨g, off + k * 2, none⟩)] w fun e w' =>
      e = .returned (.tuple #[]) ∧ FS W fb mb Z (B + 18) (gdS S (m.l.l.getD k (0, 0))).1 { m with l := { m.l with l := m.l.l.set k (gdS S (m.l.l.getD k (0, 0))).2 } } w' ∧ w'.cell? ⟨mb, 12, none⟩ = some (.slice a n c) := by
  obtain ⟨a', c', hc, -, hn8, -, hrow⟩ := h.slG
  rw [hsl] at hc
  simp only [Option.some.injEq, Value.slice.injEq] at hc
  obtain ⟨rfl, rfl, rfl⟩ := hc
  obtain ⟨g, off, rfl, hz, hnear, hw, hcells⟩ := hrow.1.at_ hk
  obtain ⟨⟨u0, r0, c0⟩, f0⟩ := hcells 0 (by omega)
  obtain ⟨⟨u1, r1, c1⟩, f1⟩ := hcells 1 (by omega)
  have hwf : wfG (m.l.l.getD k (0, 0)) := hrow.2 _ (mem_getD hk)
  have hlay := fun hr => lay_gd (S := S) hr hwf
  have halike := alike_gd S (m.l.l.getD k (0, 0))
  have hsz18 := gdS_sz S (m.l.l.getD k (0, 0))
  have hwf2 := gdS_wf (S := S) hwf
  obtain ⟨G, hG⟩ : ∃ G, G = gdS S (m.l.l.getD k (0, 0)) := ⟨_, rfl⟩
  rw [← hG] at hlay halike hsz18 hwf2 ⊢
  obtain ⟨x, y, hxy⟩ : ∃ x y, m.l.l.getD k (0, 0) = (x, y) := ⟨_, _, rfl⟩
  simp only [hxy, gdL, List.getElem?_cons_zero, List.getElem?_cons_succ, Option.some.injEq] at r0 r1
  subst r0; subst r1
  rw [hxy] at hG hlay hwf
  obtain ⟨xn, e1, l1⟩ := u64_nat hwf.1
  obtain ⟨yn, e2, l2⟩ := u64_nat hwf.2
  dsimp only at e1 e2
  subst e1; subst e2
  obtain ⟨n1, n2, n3⟩ := h.nz hz
  refine ⟨g, off, rfl, (fguid_any w fb mb S g (off + k * 2) xn yn h.fd c0 c1 l1 l2 ⟨n2, hnear, fun hr => f0 (.inl hr)⟩ ⟨n2, hnear, fun hr => f1 (.inl hr)⟩ (by have := h.sz; omega)).mono ?_⟩
  rintro e w' ⟨rfl, hkp, hfd⟩
  have hGe : G = ((gdF S xn yn).1, ((((gdF S xn yn).2.1 : Nat) : Int), (((gdF S xn yn).2.2 : Nat) : Int))) := hG
  have v1 := h.virtG hsl hk (i := 0) (by omega) (G.2.1, (yn : Int)) ⟨hwf2.1, hwf.2⟩ (.int .u64 G.2.1) (by rw [hxy]; rfl) (fun hr => by rw [hxy, hlay hr]) hrd
  have v2 := v1.virtG (cell_far hsl n1) (by simpa using hk) (i := 1) (by omega) G.2 hwf2 (.int .u64 G.2.2) (by simp only; rw [getD_set_self hk]; rfl) (fun hr => by simp only; rw [getD_set_self hk, hlay hr]) hrd
  simp only [List.set_set] at v2
  have hkp2 : Kp (Zf fb S.m) ((w.setCell ⟨g, off + k * 2 + 0, none⟩ (.int .u64 G.2.1)).setCell ⟨g, off + k * 2 + 1, none⟩ (.int .u64 G.2.2)) w' := by rw [hGe]; exact hkp
  refine ⟨rfl, v2.turn hkp2 (by rw [hGe]; exact hfd) halike (by have := h.sz; omega), ?_⟩
  exact cell_turn v2 hkp2 (cell_far (cell_far hsl n1) n1)
/-- the k-th entry: its term, its kind, its guid -/
theorem FS.enT (h : FS W fb mb Z B S m w) {a : Option Addr} {n c k : Nat} (hsl : w.cell? ⟨mb, 4, none⟩ = some (.slice a n c)) (hk : k < m.es.length) (hrd : S.m.isRd = true → m.l.l = [] ∧ m.p.cs = []) (hB : B ≤ 900000) :
    ∃ g off, a = some ⟨g, off, none⟩ ∧ Calls Try.prog 36 #[.pointer (some ⟨fb, 0, none⟩), .slice (some ⟨w.heap.size, 0, none⟩) 1 1] (w.alloc (.cells #[.pointer (some ⟨g, off + k * 4, none⟩)] 85)) fun e w' =>
      e = .returned (.tuple #[]) ∧ FS W fb mb Z (B + 9) (numS S (m.es.getD k en0).T).1 { m with es := m.es.set k { m.es.getD k en0 with T := (numS S (m.es.getD k en0).T).2 } } w' ∧ w'.cell? ⟨mb, 4, none⟩ = some (.slice a n c) := by
  obtain ⟨a', c', hc, -, hn8, -, hrow⟩ := h.slE
  rw [hsl] at hc
  simp only [Option.some.injEq, Value.slice.injEq] at hc
  obtain ⟨rfl, rfl, rfl⟩ := hc
  obtain ⟨g, off, rfl, hz, hnear, hw, hcells⟩ := hrow.1.at_ hk
  obtain ⟨⟨u0, r0, c0⟩, f0⟩ := hcells 0 (by omega)
  have hwf : wfE (m.es.getD k en0) := hrow.2 _ (mem_getD hk)
  obtain ⟨e0, he0⟩ : ∃ e0, e0 = m.es.getD k en0 := ⟨_, rfl⟩
  rw [← he0] at hwf ⊢
  simp only [← he0, enL, List.getElem?_cons_zero, Option.some.injEq] at r0
  subst r0
  obtain ⟨x, e1, l1⟩ := u64_nat hwf.1
  obtain ⟨T, K, q⟩ := e0
  dsimp only at e1
  subst e1
  obtain ⟨n1, n2, n3⟩ := h.nz hz
  refine ⟨g, off, rfl, (num1_any w fb mb S g (off + k * 4) x h.fd c0 l1 ⟨n2, hnear, fun hr => f0 (.inl hr)⟩ (by have := h.sz; omega)).mono ?_⟩
  rintro e w' ⟨rfl, hkp, hfd⟩
  have v1 := h.virtE hsl hk (i := 0) (by omega) ⟨(numS S x).2, K, q⟩ ⟨nat_u64 (numF_lt _ _ l1), hwf.2⟩ (.int .u64 (numS S x).2) (by rw [← he0]; rfl) (fun hr => by rw [← he0]; simp only [numS, Int.toNat_natCast, lay_num hr]) hrd
  have hkp2 : Kp (Zf fb S.m) (w.setCell ⟨g, off + k * 4 + 0, none⟩ (.int .u64 (numS S x).2)) w' := hkp
  exact ⟨rfl, v1.turn hkp2 hfd (alike_num _ _ _) (by have := h.sz; exact Nat.le_trans (numF_sz S.m x) (by omega)), cell_turn v1 hkp2 (cell_far hsl n1)⟩
theorem lay_int {S : Sf} (h : S.m.isRd = false) {x : Int} (hx : 0 ≤ x ∧ x ≤ 8192) : (intF S x).2 = x := by
  show wrap64 ((numF S.m x.toNat).2 : Nat) = x
  rw [lay_num h, IntWalk.wrap64_in _ (by omega)]
  omega
theorem FS.enK (h : FS W fb mb Z B S m w) {a : Option Addr} {n c k : Nat} (hsl : w.cell? ⟨mb, 4, none⟩ = some (.slice a n c)) (hk : k < m.es.length) (hx : 0 ≤ (m.es.getD k en0).K ∧ (m.es.getD k en0).K ≤ 8192) (hrd : S.m.isRd = true → m.l.l = [] ∧ m.p.cs = []) (hB : B ≤ 900000) :
    ∃ g off, a = some ⟨g, off, none⟩ ∧ Calls Try.prog 22 #[.pointer (some ⟨fb, 0, none⟩), .slice (some ⟨w.heap.size, 0, none⟩) 1 1] (w.alloc (.cells #[.pointer (some ⟨g, off + k * 4 + 1, none⟩)] 70)) fun e w' =>
      e = .returned (.tuple #[]) ∧ FS W fb mb Z (B + 9) (intF S (m.es.getD k en0).K).1 { m with es := m.es.set k { m.es.getD k en0 with K := (intF S (m.es.getD k en0).K).2 } } w' ∧ w'.cell? ⟨mb, 4, none⟩ = some (.slice a n c) := by
  obtain ⟨a', c', hc, -, hn8, -, hrow⟩ := h.slE
  rw [hsl] at hc
  simp only [Option.some.injEq, Value.slice.injEq] at hc
  obtain ⟨rfl, rfl, rfl⟩ := hc
  obtain ⟨g, off, rfl, hz, hnear, hw, hcells⟩ := hrow.1.at_ hk
  obtain ⟨⟨u0, r0, c0⟩, f0⟩ := hcells 1 (by omega)
  have hwf : wfE (m.es.getD k en0) := hrow.2 _ (mem_getD hk)
  obtain ⟨e0, he0⟩ : ∃ e0, e0 = m.es.getD k en0 := ⟨_, rfl⟩
  rw [← he0] at hwf hx ⊢
  simp only [← he0, enL, List.getElem?_cons_zero, List.getElem?_cons_succ, Option.some.injEq] at r0
  subst r0
  obtain ⟨T, K, q⟩ := e0
  dsimp only at hx
  obtain ⟨x, rfl⟩ : ∃ x : Nat, K = x := ⟨K.toNat, by omega⟩
  obtain ⟨n1, n2, n3⟩ := h.nz hz
  refine ⟨g, off, rfl, (fints_any w fb mb S g (off + k * 4 + 1) x h.fd c0 (by omega) ⟨n2, hnear, fun hr => f0 (.inl hr)⟩ (f0 (.inr rfl)) (by have := h.sz; omega)).mono ?_⟩
  rintro e w' ⟨rfl, hkp, hfd⟩
  have v1 := h.virtE hsl hk (i := 1) (by omega) ⟨T, (intF S x).2, q⟩ ⟨hwf.1, wrap64_wf _, hwf.2.2⟩ (.int .i64 (intF S x).2) (by rw [← he0]; rfl) (fun hr => by rw [← he0, lay_int hr hx]) hrd
  exact ⟨rfl, v1.turn hkp hfd (alike_num _ _ _) (by have := h.sz; exact Nat.le_trans (numF_sz S.m x) (by omega)), cell_turn v1 hkp (cell_far hsl n1)⟩
theorem FS.enG (h : FS W fb mb Z B S m w) {a : Option Addr} {n c k : Nat} (hsl : w.cell? ⟨mb, 4, none⟩ = some (.slice a n c)) (hk : k < m.es.length) (hrd : S.m.isRd = true → m.l.l = [] ∧ m.p.cs = []) (hB : B ≤ 900000) :
    ∃ g off, a = some ⟨g, off, none⟩ ∧ Calls Try.prog 57 #[.pointer (some ⟨fb, 0, none⟩), .pointer (some ⟨g, off + k * 4 + 2, none⟩)] w fun e w' =>
      e = .returned (.tuple #[]) ∧ FS W fb mb Z (B + 18) (gdS S (m.es.getD k en0).g).1 { m with es := m.es.set k { m.es.getD k en0 with g := (gdS S (m.es.getD k en0).g).2 } } w' ∧ w'.cell? ⟨mb, 4, none⟩ = some (.slice a n c) := by
  obtain ⟨a', c', hc, -, hn8, -, hrow⟩ := h.slE
  rw [hsl] at hc
  simp only [Option.some.injEq, Value.slice.injEq] at hc
  obtain ⟨rfl, rfl, rfl⟩ := hc
  obtain ⟨g, off, rfl, hz, hnear, hw, hcells⟩ := hrow.1.at_ hk
  obtain ⟨⟨u0, r0, c0⟩, f0⟩ := hcells 2 (by omega)
  obtain ⟨⟨u1, r1, c1⟩, f1⟩ := hcells 3 (by omega)
  have hwf : wfE (m.es.getD k en0) := hrow.2 _ (mem_getD hk)
  obtain ⟨e0, he0⟩ : ∃ e0, e0 = m.es.getD k en0 := ⟨_, rfl⟩
  rw [← he0] at hwf ⊢
  have hlay := fun hr => lay_gd (S := S) hr hwf.2.2
  have halike := alike_gd S e0.g
  have hsz18 := gdS_sz S e0.g
  have hwf2 := gdS_wf (S := S) hwf.2.2
  obtain ⟨G, hG⟩ : ∃ G, G = gdS S e0.g := ⟨_, rfl⟩
  rw [← hG] at hlay halike hsz18 hwf2 ⊢
  obtain ⟨T, K, x, y⟩ := e0
  simp only [← he0, enL, List.getElem?_cons_zero, List.getElem?_cons_succ, Option.some.injEq] at r0 r1
  subst r0; subst r1
  dsimp only at hG hlay hwf
  obtain ⟨xn, e1, l1⟩ := u64_nat hwf.2.2.1
  obtain ⟨yn, e2, l2⟩ := u64_nat hwf.2.2.2
  dsimp only at e1 e2
  subst e1; subst e2
  obtain ⟨n1, n2, n3⟩ := h.nz hz
  refine ⟨g, off, rfl, (fguid_any w fb mb S g (off + k * 4 + 2) xn yn h.fd c0 c1 l1 l2 ⟨n2, hnear, fun hr => f0 (.inl hr)⟩ ⟨n2, hnear, fun hr => f1 (.inl hr)⟩ (by have := h.sz; omega)).mono ?_⟩
  rintro e w' ⟨rfl, hkp, hfd⟩
  have hGe : G = ((gdF S xn yn).1, ((((gdF S xn yn).2.1 : Nat) : Int), (((gdF S xn yn).2.2 : Nat) : Int))) := hG
  have v1 := h.virtE hsl hk (i := 2) (by omega) ⟨T, K, (G.2.1, (yn : Int))⟩ ⟨hwf.1, hwf.2.1, hwf2.1, hwf.2.2.2⟩ (.int .u64 G.2.1) (by rw [← he0]; rfl) (fun hr => by rw [← he0, hlay hr]) hrd
  have v2 := v1.virtE (cell_far hsl n1) (by simpa using hk) (i := 3) (by omega) ⟨T, K, G.2⟩ ⟨hwf.1, hwf.2.1, hwf2⟩ (.int .u64 G.2.2) (by simp only; rw [getD_set_self hk]; rfl) (fun hr => by simp only; rw [getD_set_self hk, hlay hr]) hrd
  simp only [List.set_set] at v2
  have hkp2 : Kp (Zf fb S.m) ((w.setCell ⟨g, off + k * 4 + 2, none⟩ (.int .u64 G.2.1)).setCell ⟨g, off + k * 4 + 3, none⟩ (.int .u64 G.2.2)) w' := by rw [hGe]; exact hkp
  refine ⟨rfl, v2.turn hkp2 (by rw [hGe]; exact hfd) halike (by have := h.sz; omega), ?_⟩
  exact cell_turn v2 hkp2 (cell_far (cell_far hsl n1) n1)
end
end Go.Proofs.Ytikimmhkfjaijaa
