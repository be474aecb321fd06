/-
  MESSAGES: MsTV, MsW, in one text (merged by wip/merge.py).
-/
import Derived.Test.YtikimmhkfjaijaaGD
namespace Go.Proofs.Ytikimmhkfjaijaa
open Go.RowKit Reg Go.ChangeShapes

def nB (x : Int) : List UInt8 := Wire.putNum x.toNat
def gdB (g : Gd) : List UInt8 := nB g.1 ++ nB g.2
def enB (e : En) : List UInt8 := nB e.T ++ (nB e.K ++ gdB e.g)
def lineB (l : Ln) : List UInt8 := nB l.E ++ (nB l.B ++ (Wire.putNum (b01 l.L) ++ (nB (l.l.length : Nat) ++ l.l.flatMap gdB)))
def partB (p : Prt) : List UInt8 := Wire.putText (encS p).data.toList
def askB (m : Ms) : List UInt8 := nB m.T ++ (nB m.P ++ nB m.PT)
def voteB (m : Ms) : List UInt8 := nB m.T ++ Wire.putNum (b01 m.Y)
def entsB (es : List En) : List UInt8 := nB (es.length : Nat) ++ es.flatMap enB
def appsB (m : Ms) : List UInt8 := askB m ++ (entsB m.es ++ (nB m.C ++ nB m.S))
def appdB (m : Ms) : List UInt8 := voteB m ++ (nB m.M ++ nB m.S)
def pullL (m : Ms) : List UInt8 := lineB m.l ++ (nB m.n ++ (gdB m.la ++ (gdB m.ta ++ nB m.N)))
def partL (m : Ms) : List UInt8 := lineB m.l ++ partB m.p
def bodyB (m : Ms) : List UInt8 := if m.K = 1 then askB m else if m.K = 2 then voteB m else if m.K = 3 then appsB m else if m.K = 4 then appdB m else if m.K = 5 then pullL m else if m.K = 6 then partL m else lineB m.l
/-- a message's bytes -/
def bytesM (m : Ms) : List UInt8 := nB m.K ++ bodyB m
/-! ### going by bytes -/
def Lm (s : List UInt8) : Sf := ⟨.lay s, false⟩
def Rm (r : Nat) (l : List UInt8) : Sf := ⟨.rd r (some l), false⟩
/-- S goes by the bytes X to S' -/
def Goes (S : Sf) (X : List UInt8) (S' : Sf) : Prop := (∃ s, S = Lm s ∧ S' = Lm (s ++ X)) ∨ ∃ r t, S = Rm r (X ++ t) ∧ S' = Rm r t
theorem Goes.parts {S S' : Sf} {X Y : List UInt8} (h : Goes S (X ++ Y) S') : ∃ S1, Goes S X S1 ∧ Goes S1 Y S' ∧ S1.m.isRd = S.m.isRd := by
  rcases h with ⟨s, rfl, rfl⟩ | ⟨r, t, rfl, rfl⟩
  · exact ⟨Lm (s ++ X), .inl ⟨s, rfl, rfl⟩, .inl ⟨s ++ X, rfl, by rw [List.append_assoc]⟩, rfl⟩
  · exact ⟨Rm r (Y ++ t), .inr ⟨r, Y ++ t, by rw [List.append_assoc], rfl⟩, .inr ⟨r, t, rfl, rfl⟩, rfl⟩
theorem Goes.nil_ {S S' : Sf} (h : Goes S [] S') : S' = S := by
  rcases h with ⟨s, rfl, rfl⟩ | ⟨r, t, rfl, rfl⟩
  · rw [List.append_nil]
  · rfl
theorem go_numF {S S' : Sf} {x n : Nat} (h : Goes S (Wire.putNum x) S') (hx : x < 256 ^ 8) (hn : S.m.isRd = false → n = x) : numF S.m n = (S'.m, x) ∧ S'.bad = false ∧ S.bad = false := by
  rcases h with ⟨s, rfl, rfl⟩ | ⟨r, t, rfl, rfl⟩
  · have := hn rfl
    subst this
    exact ⟨rfl, rfl, rfl⟩
  · refine ⟨?_, rfl, rfl⟩
    show (Md.rd r (Wire.num (some (Wire.putNum x ++ t))).2, (Wire.num (some (Wire.putNum x ++ t))).1) = _
    rw [Wire.num_put x hx t]
    rfl
theorem u64_toNat {x : Int} (h : u64 x) : ((x.toNat : Nat) : Int) = x ∧ x.toNat < 256 ^ 8 := by
  obtain ⟨n, rfl, hn⟩ := u64_nat h
  exact ⟨rfl, hn⟩
theorem go_num {S S' : Sf} {x y : Int} (h : Goes S (nB x) S') (hx : u64 x) (hy : S.m.isRd = false → y = x) : numS S y = (S', x) := by
  obtain ⟨h1, h2⟩ := u64_toNat hx
  obtain ⟨g1, g2, g3⟩ := go_numF h h2 (n := y.toNat) (fun q => by rw [hy q])
  unfold numS
  rw [g1, g3, h1]
  cases S'
  simp_all
theorem go_int {S S' : Sf} {x y : Int} (h : Goes S (nB x) S') (hx : in8 x) (hy : S.m.isRd = false → y = x) : intF S y = (S', x) := by
  have h1 : ((x.toNat : Nat) : Int) = x := Int.toNat_of_nonneg hx.1
  have h3 : x.toNat ≤ 8192 := by have := hx.2; omega
  have h2 : x.toNat < 256 ^ 8 := by rw [p256]; omega
  obtain ⟨g1, g2, g3⟩ := go_numF h h2 (n := y.toNat) (fun q => by rw [hy q])
  unfold intF
  rw [g1, g3]
  have e1 : decide (8192 < x.toNat) = false := decide_eq_false (by omega)
  have e2 : wrap64 ((x.toNat : Nat) : Int) = x := by rw [h1]; exact IntWalk.wrap64_in _ (by have := hx.1; have := hx.2; omega)
  show ((⟨S'.m, false || decide (8192 < x.toNat)⟩ : Sf), wrap64 ((x.toNat : Nat) : Int)) = _
  rw [e1, e2]
  cases S'
  simp_all
theorem go_st {S S' : Sf} {x y : Int} (h : Goes S (nB x) S') (hx : 0 ≤ x ∧ x ≤ 9223372036854775807) (hy : S.m.isRd = false → y = x) : stF S y = (S', x) := by
  have h1 : ((x.toNat : Nat) : Int) = x := Int.toNat_of_nonneg hx.1
  have h2 : x.toNat < 256 ^ 8 := by rw [p256]; have := hx.2; omega
  obtain ⟨g1, g2, g3⟩ := go_numF h h2 (n := y.toNat) (fun q => by rw [hy q])
  unfold stF
  rw [g1, g3]
  have e2 : wrap64 ((x.toNat : Nat) : Int) = x := by rw [h1]; exact IntWalk.wrap64_in _ (by have := hx.1; have := hx.2; omega)
  show ((⟨S'.m, false⟩ : Sf), wrap64 ((x.toNat : Nat) : Int)) = _
  rw [e2]
  cases S'
  simp_all
theorem go_yes {S S' : Sf} {x y : Bool} (h : Goes S (Wire.putNum (b01 x)) S') (hy : S.m.isRd = false → y = x) : yesF S y = (S', x) := by
  have hb : b01 x ≤ 1 := by unfold b01; split <;> omega
  have h' : Goes S (nB ((b01 x : Nat) : Int)) S' := h
  have g := go_int (y := ((b01 y : Nat) : Int)) h' ⟨by omega, by omega⟩ (fun q => by rw [hy q])
  unfold yesF
  rw [g]
  have e1 : decide (1 < ((b01 x : Nat) : Int)) = false := decide_eq_false (by omega)
  have e2 : (((b01 x : Nat) : Int) == 1) = x := by cases x <;> rfl
  have hbad : S'.bad = false := by rcases h with ⟨s, rfl, rfl⟩ | ⟨r, t, rfl, rfl⟩ <;> rfl
  show ((⟨S'.m, S'.bad || decide (1 < ((b01 x : Nat) : Int))⟩ : Sf), ((b01 x : Nat) : Int) == 1) = _
  rw [e1, e2, hbad]
  cases S'
  simp_all
theorem go_gd {S S' : Sf} {x y : Gd} (h : Goes S (gdB x) S') (hx : wfG x) (hy : S.m.isRd = false → y = x) : gdS S y = (S', x) := by
  obtain ⟨S1, h1, h2, hr⟩ := Goes.parts h
  have g1 := go_num (y := y.1) h1 hx.1 (fun q => by rw [hy q])
  have g2 := go_num (y := y.2) h2 hx.2 (fun q => by rw [hy (by rw [← hr]; exact q)])
  unfold numS at g1 g2
  simp only [Prod.mk.injEq] at g1 g2
  obtain ⟨a1, a2⟩ := g1
  obtain ⟨b1, b2⟩ := g2
  unfold gdS gdF
  rw [← a1] at b1 b2
  dsimp only at b1 b2 ⊢
  rw [a2, b2, ← b1]
theorem go_en {S S' : Sf} {x y : En} (h : Goes S (enB x) S') (hx : wfE x) (hk : in8 x.K) (hy : S.m.isRd = false → y = x) : enS S y = (S', x) := by
  obtain ⟨S1, h1, h2, hr⟩ := Goes.parts h
  obtain ⟨S2, h3, h4, hr2⟩ := Goes.parts h2
  have g1 := go_num (y := y.T) h1 hx.1 (fun q => by rw [hy q])
  have g2 := go_int (y := y.K) h3 hk (fun q => by rw [hy (by rw [← hr]; exact q)])
  have g3 := go_gd (y := y.g) h4 hx.2.2 (fun q => by rw [hy (by rw [← hr, ← hr2]; exact q)])
  unfold enS
  rw [g1]
  dsimp only
  rw [g2]
  dsimp only
  rw [g3]
theorem go_gLp {S S' : Sf} {l l0 : List Gd} (hw : ∀ g ∈ l, wfG g) (hl : l0.length = l.length) (h : Goes S (l.flatMap gdB) S') (hy : S.m.isRd = false → l0 = l) : gLp S l0 l.length = (S', l) := by
  have key : ∀ k, k ≤ l.length → ∃ Sk, Goes S ((l.take k).flatMap gdB) Sk ∧ Goes Sk ((l.drop k).flatMap gdB) S' ∧ Sk.m.isRd = S.m.isRd ∧ gLp S l0 k = (Sk, l.take k ++ l0.drop k) := by
    intro k
    induction k with
    | zero =>
      intro _
      obtain ⟨S1, h1, h2, hr⟩ := Goes.parts (X := []) h
      have := h1.nil_
      subst this
      exact ⟨S1, h1, h2, rfl, rfl⟩
    | succ k ih =>
      intro hk
      obtain ⟨Sk, h1, h2, hr, h3⟩ := ih (by omega)
      have hlt : k < l.length := hk
      rw [List.drop_eq_getElem_cons hlt, List.flatMap_cons] at h2
      obtain ⟨S1, k1, k2, hr1⟩ := Goes.parts h2
      have hlk : (l.take k ++ l0.drop k).getD k (0, 0) = l0.getD k (0, 0) := by
        rw [List.getD_eq_getElem?_getD, List.getElem?_append_right (by simp; omega), List.getElem?_drop, List.getD_eq_getElem?_getD]
        congr 2
        simp
        omega
      have g := go_gd (y := l0.getD k (0, 0)) k1 (hw _ (List.getElem_mem hlt)) (fun q => by rw [hy (by rw [← hr]; exact q), List.getD_eq_getElem?_getD, List.getElem?_eq_getElem hlt]; rfl)
      refine ⟨S1, ?_, k2, hr1.trans hr, ?_⟩
      · rw [List.take_succ_eq_append_getElem hlt, List.flatMap_append]
        have e1 : [l[k]].flatMap gdB = gdB l[k] := by simp
        rw [e1]
        clear h3 g k2 h2
        rcases h1 with ⟨s, rfl, rfl⟩ | ⟨r, t, rfl, rfl⟩
        · rcases k1 with ⟨s', e, rfl⟩ | ⟨r', t', e, rfl⟩
          · simp only [Lm, Sf.mk.injEq, Md.lay.injEq, and_true] at e
            subst e
            exact .inl ⟨s, rfl, by rw [List.append_assoc]⟩
          · simp [Lm, Rm] at e
        · rcases k1 with ⟨s', e, rfl⟩ | ⟨r', t', e, rfl⟩
          · simp [Lm, Rm] at e
          · simp only [Rm, Sf.mk.injEq, Md.rd.injEq, Option.some.injEq, and_true] at e
            obtain ⟨rfl, rfl⟩ := e
            exact .inr ⟨_, t', by rw [List.append_assoc], rfl⟩
      · unfold gLp
        rw [h3]
        dsimp only
        rw [hlk, g]
        dsimp only
        congr 1
        have hd : l0.drop k = l0[k]'(by omega) :: l0.drop (k + 1) := List.drop_eq_getElem_cons (by omega)
        rw [List.take_succ_eq_append_getElem hlt, List.set_append_right _ _ (by simp; omega), hd]
        have e0 : k - (l.take k).length = 0 := by simp; omega
        rw [e0, List.set_cons_zero, List.append_assoc]
        rfl
  obtain ⟨Sk, h1, h2, hr, h3⟩ := key l.length (Nat.le_refl _)
  rw [List.drop_length] at h2
  have := Goes.nil_ (by simpa using h2)
  subst this
  rw [h3, List.take_length, ← hl, List.drop_length, List.append_nil]
theorem go_eLp {S S' : Sf} {l l0 : List En} (hw : ∀ g ∈ l, wfE g) (hkk : ∀ g ∈ l, in8 g.K) (hl : l0.length = l.length) (h : Goes S (l.flatMap enB) S') (hy : S.m.isRd = false → l0 = l) : eLp S l0 l.length = (S', l) := by
  have key : ∀ k, k ≤ l.length → ∃ Sk, Goes S ((l.take k).flatMap enB) Sk ∧ Goes Sk ((l.drop k).flatMap enB) S' ∧ Sk.m.isRd = S.m.isRd ∧ eLp S l0 k = (Sk, l.take k ++ l0.drop k) := by
    intro k
    induction k with
    | zero =>
      intro _
      obtain ⟨S1, h1, h2, hr⟩ := Goes.parts (X := []) h
      have := h1.nil_
      subst this
      exact ⟨S1, h1, h2, rfl, rfl⟩
    | succ k ih =>
      intro hk
      obtain ⟨Sk, h1, h2, hr, h3⟩ := ih (by omega)
      have hlt : k < l.length := hk
      rw [List.drop_eq_getElem_cons hlt, List.flatMap_cons] at h2
      obtain ⟨S1, k1, k2, hr1⟩ := Goes.parts h2
      have hlk : (l.take k ++ l0.drop k).getD k en0 = l0.getD k en0 := by
        rw [List.getD_eq_getElem?_getD, List.getElem?_append_right (by simp; omega), List.getElem?_drop, List.getD_eq_getElem?_getD]
        congr 2
        simp
        omega
      have g := go_en (y := l0.getD k en0) k1 (hw _ (List.getElem_mem hlt)) (hkk _ (List.getElem_mem hlt)) (fun q => by rw [hy (by rw [← hr]; exact q), List.getD_eq_getElem?_getD, List.getElem?_eq_getElem hlt]; rfl)
      refine ⟨S1, ?_, k2, hr1.trans hr, ?_⟩
      · rw [List.take_succ_eq_append_getElem hlt, List.flatMap_append]
        have e1 : [l[k]].flatMap enB = enB l[k] := by simp
        rw [e1]
        clear h3 g k2 h2
        rcases h1 with ⟨s, rfl, rfl⟩ | ⟨r, t, rfl, rfl⟩
        · rcases k1 with ⟨s', e, rfl⟩ | ⟨r', t', e, rfl⟩
          · simp only [Lm, Sf.mk.injEq, Md.lay.injEq, and_true] at e
            subst e
            exact .inl ⟨s, rfl, by rw [List.append_assoc]⟩
          · simp [Lm, Rm] at e
        · rcases k1 with ⟨s', e, rfl⟩ | ⟨r', t', e, rfl⟩
          · simp [Lm, Rm] at e
          · simp only [Rm, Sf.mk.injEq, Md.rd.injEq, Option.some.injEq, and_true] at e
            obtain ⟨rfl, rfl⟩ := e
            exact .inr ⟨_, t', by rw [List.append_assoc], rfl⟩
      · unfold eLp
        rw [h3]
        dsimp only
        rw [hlk, g]
        dsimp only
        congr 1
        have hd : l0.drop k = l0[k]'(by omega) :: l0.drop (k + 1) := List.drop_eq_getElem_cons (by omega)
        rw [List.take_succ_eq_append_getElem hlt, List.set_append_right _ _ (by simp; omega), hd]
        have e0 : k - (l.take k).length = 0 := by simp; omega
        rw [e0, List.set_cons_zero, List.append_assoc]
        rfl
  obtain ⟨Sk, h1, h2, hr, h3⟩ := key l.length (Nat.le_refl _)
  rw [List.drop_length] at h2
  have := Goes.nil_ (by simpa using h2)
  subst this
  rw [h3, List.take_length, ← hl, List.drop_length, List.append_nil]
theorem fresh_rd {S : Sf} {k n : Nat} {S' : Sf} (h : intF S (k : Nat) = (S', (n : Int))) (hr : S.m.isRd = true) (hb : S'.bad = false) : freshF S k = true ∧ szN S k = n := by
  unfold freshF szN
  rw [h]
  dsimp only
  rw [hr, hb]
  exact ⟨rfl, by simp⟩
theorem Goes.bad {S S' : Sf} {X : List UInt8} (h : Goes S X S') : S.bad = false ∧ S'.bad = false ∧ S'.m.isRd = S.m.isRd := by
  rcases h with ⟨s, rfl, rfl⟩ | ⟨r, t, rfl, rfl⟩ <;> exact ⟨rfl, rfl, rfl⟩
theorem go_szG {S S' : Sf} {l l0 : List Gd} (h : Goes S (nB (l.length : Nat)) S') (hl : l.length ≤ 8192) (hy : S.m.isRd = false → l0 = l) : intF S (l0.length : Nat) = (S', (l.length : Int)) ∧ (szG S l0).length = l.length ∧ (S.m.isRd = false → szG S l0 = l) := by
  have g := go_int (y := (l0.length : Nat)) h ⟨by omega, by omega⟩ (fun q => by rw [hy q])
  refine ⟨g, ?_⟩
  unfold szG
  cases hr : S.m.isRd with
  | true =>
    obtain ⟨f1, f2⟩ := fresh_rd g hr h.bad.2.1
    rw [if_pos f1, f2, List.length_replicate]
    exact ⟨rfl, fun q => by cases q⟩
  | false =>
    have f1 : freshF S l0.length = false := by unfold freshF; rw [hr]; rfl
    rw [if_neg (by rw [f1]; decide), hy hr]
    exact ⟨rfl, fun _ => rfl⟩
theorem go_szE {S S' : Sf} {l l0 : List En} (h : Goes S (nB (l.length : Nat)) S') (hl : l.length ≤ 8192) (hy : S.m.isRd = false → l0 = l) : intF S (l0.length : Nat) = (S', (l.length : Int)) ∧ (szE S l0).length = l.length ∧ (S.m.isRd = false → szE S l0 = l) := by
  have g := go_int (y := (l0.length : Nat)) h ⟨by omega, by omega⟩ (fun q => by rw [hy q])
  refine ⟨g, ?_⟩
  unfold szE
  cases hr : S.m.isRd with
  | true =>
    obtain ⟨f1, f2⟩ := fresh_rd g hr h.bad.2.1
    rw [if_pos f1, f2, List.length_replicate]
    exact ⟨rfl, fun q => by cases q⟩
  | false =>
    have f1 : freshF S l0.length = false := by unfold freshF; rw [hr]; rfl
    rw [if_neg (by rw [f1]; decide), hy hr]
    exact ⟨rfl, fun _ => rfl⟩
/-- what a line's fields want -/
structure LnOk (l : Ln) : Prop where
  E : u64 l.E
  B : in8 l.B
  len : l.l.length ≤ 8192
  wf : ∀ g ∈ l.l, wfG g
theorem lineF_parts {S S1 S2 S3 S4 S5 : Sf} {m : Ms} {e b : Int} {ll : Bool} {l1 l2 : List Gd} {k : Int} (h1 : numS S m.l.E = (S1, e)) (h2 : intF S1 m.l.B = (S2, b)) (h3 : yesF S2 m.l.L = (S3, ll)) (h4 : intF S3 (m.l.l.length : Nat) = (S4, k)) (h5 : szG S3 m.l.l = l1) (h6 : gLp S4 l1 l1.length = (S5, l2)) :
    lineF S m = (S5, p_l m ⟨e, b, ll, l2⟩) := by
  unfold lineF
  rw [h1]
  dsimp only
  rw [h2]
  dsimp only
  rw [h3]
  dsimp only
  rw [h4, h5]
  dsimp only
  rw [h6]
  rfl
theorem go_line {S S' : Sf} {m : Ms} {l : Ln} (h : Goes S (lineB l) S') (hl : LnOk l) (hy : S.m.isRd = false → m.l = l) : lineF S m = (S', p_l m l) := by
  obtain ⟨S1, k1, h, r1⟩ := Goes.parts h
  obtain ⟨S2, k2, h, r2⟩ := Goes.parts h
  obtain ⟨S3, k3, h, r3⟩ := Goes.parts h
  obtain ⟨S4, k4, k5, r4⟩ := Goes.parts h
  have g1 := go_num (y := m.l.E) k1 hl.E (fun q => by rw [hy q])
  have g2 := go_int (y := m.l.B) k2 hl.B (fun q => by rw [hy (by rw [← r1]; exact q)])
  have g3 := go_yes (y := m.l.L) k3 (fun q => by rw [hy (by rw [← r1, ← r2]; exact q)])
  have y4 : S3.m.isRd = false → m.l.l = l.l := fun q => by rw [hy (by rw [← r1, ← r2, ← r3]; exact q)]
  obtain ⟨g4, g5, g6⟩ := go_szG k4 hl.len y4
  obtain ⟨l1, hl1⟩ : ∃ l1, szG S3 m.l.l = l1 := ⟨_, rfl⟩
  rw [hl1] at g5 g6
  have g7 := go_gLp (l0 := l1) hl.wf g5 k5 (fun q => g6 (by rw [← r4]; exact q))
  rw [← g5] at g7
  rw [lineF_parts g1 g2 g3 g4 hl1 g7]
theorem entF_parts {S S4 S5 : Sf} {m : Ms} {l1 l2 : List En} {k : Int} (h4 : intF S (m.es.length : Nat) = (S4, k)) (h5 : szE S m.es = l1) (h6 : eLp S4 l1 l1.length = (S5, l2)) : entF S m = (S5, p_es m l2) := by
  unfold entF
  rw [h4, h5]
  dsimp only
  rw [h6]
  rfl
theorem go_ents {S S' : Sf} {m : Ms} {es : List En} (h : Goes S (entsB es) S') (hw : ∀ e ∈ es, wfE e) (hk : ∀ e ∈ es, in8 e.K) (hl : es.length ≤ 8192) (hy : S.m.isRd = false → m.es = es) : entF S m = (S', p_es m es) := by
  obtain ⟨S4, k4, k5, r4⟩ := Goes.parts h
  obtain ⟨g4, g5, g6⟩ := go_szE k4 hl hy
  obtain ⟨l1, hl1⟩ : ∃ l1, szE S m.es = l1 := ⟨_, rfl⟩
  rw [hl1] at g5 g6
  have g7 := go_eLp (l0 := l1) hw hk g5 k5 (fun q => g6 (by rw [← r4]; exact q))
  rw [← g5] at g7
  exact entF_parts g4 hl1 g7
theorem okP_of {p : Prt} (h : checkP p = 0) : okP p := by
  unfold checkP at h
  by_cases q : okP p
  · exact q
  · rw [if_neg q] at h; cases h
theorem go_part {S S' : Sf} {m : Ms} {p : Prt} (h : Goes S (partB p) S') (hp : checkP p = 0) (hw : wfPr p) (hy : S.m.isRd = false → m.p = p) : partF S m = (S', p_p m p) := by
  have hok := okP_of hp
  rcases h with ⟨s, rfl, rfl⟩ | ⟨r, t, rfl, rfl⟩
  · have e := hy rfl
    subst e
    show ((⟨.lay (s ++ Wire.putText (encS m.p).data.toList), false || decide (checkP m.p ≠ 0)⟩ : Sf), m) = _
    rw [hp]
    rfl
  · have hlen : (encS p).data.toList.length < 256 ^ 8 := by
      have h1 := encS_le p
      have h2 : (encS p).data.toList.length = (encS p).size := Array.length_toList
      rw [h2, p256]
      omega
    have ht := Wire.text_put _ hlen t
    obtain ⟨d1, d2⟩ := dec_enc hw hok 9 2 (by decide) (by decide)
    show ((⟨.rd r (Wire.text (some (partB p ++ t))).2, false || decide (decE 9 2 (strOf (Wire.text (some (partB p ++ t))).1) ≠ 0)⟩ : Sf), p_p m (decP 9 2 (strOf (Wire.text (some (partB p ++ t))).1))) = _
    unfold partB
    rw [ht]
    dsimp only
    rw [strOf_data, d1, d2]
    rfl
theorem fw_T {S S' : Sf} {m : Ms} {x : Int} (h : Goes S (nB x) S') (hx : u64 x) (hy : S.m.isRd = false → m.T = x) : iT (S, m) = (S', p_T m x) := by
  show ((numS S m.T).1, p_T m (numS S m.T).2) = _
  rw [go_num h hx hy]
theorem fw_P {S S' : Sf} {m : Ms} {x : Int} (h : Goes S (nB x) S') (hx : in8 x) (hy : S.m.isRd = false → m.P = x) : iP (S, m) = (S', p_P m x) := by
  show ((intF S m.P).1, p_P m (intF S m.P).2) = _
  rw [go_int h hx hy]
theorem fw_PT {S S' : Sf} {m : Ms} {x : Int} (h : Goes S (nB x) S') (hx : u64 x) (hy : S.m.isRd = false → m.PT = x) : iPT (S, m) = (S', p_PT m x) := by
  show ((numS S m.PT).1, p_PT m (numS S m.PT).2) = _
  rw [go_num h hx hy]
theorem fw_Y {S S' : Sf} {m : Ms} {x : Bool} (h : Goes S (Wire.putNum (b01 x)) S') (hy : S.m.isRd = false → m.Y = x) : iY (S, m) = (S', p_Y m x) := by
  show ((yesF S m.Y).1, p_Y m (yesF S m.Y).2) = _
  rw [go_yes h  hy]
theorem fw_C {S S' : Sf} {m : Ms} {x : Int} (h : Goes S (nB x) S') (hx : in8 x) (hy : S.m.isRd = false → m.C = x) : iC (S, m) = (S', p_C m x) := by
  show ((intF S m.C).1, p_C m (intF S m.C).2) = _
  rw [go_int h hx hy]
theorem fw_M {S S' : Sf} {m : Ms} {x : Int} (h : Goes S (nB x) S') (hx : in8 x) (hy : S.m.isRd = false → m.M = x) : iM (S, m) = (S', p_M m x) := by
  show ((intF S m.M).1, p_M m (intF S m.M).2) = _
  rw [go_int h hx hy]
theorem fw_L {S S' : Sf} {m : Ms} {x : Int} (h : Goes S (nB x) S') (hx : in8 x) (hy : S.m.isRd = false → m.n = x) : iL (S, m) = (S', p_n m x) := by
  show ((intF S m.n).1, p_n m (intF S m.n).2) = _
  rw [go_int h hx hy]
theorem fw_N {S S' : Sf} {m : Ms} {x : Int} (h : Goes S (nB x) S') (hx : in8 x) (hy : S.m.isRd = false → m.N = x) : iN (S, m) = (S', p_N m x) := by
  show ((intF S m.N).1, p_N m (intF S m.N).2) = _
  rw [go_int h hx hy]
theorem fw_S {S S' : Sf} {m : Ms} {x : Int} (h : Goes S (nB x) S') (hx : 0 ≤ x ∧ x ≤ 9223372036854775807) (hy : S.m.isRd = false → m.S = x) : iS (S, m) = (S', p_S m x) := by
  show ((stF S m.S).1, p_S m (stF S m.S).2) = _
  rw [go_st h hx hy]
theorem fw_La {S S' : Sf} {m : Ms} {x : Gd} (h : Goes S (gdB x) S') (hx : wfG x) (hy : S.m.isRd = false → m.la = x) : iLa (S, m) = (S', p_la m x) := by
  show ((gdS S m.la).1, p_la m (gdS S m.la).2) = _
  rw [go_gd h hx hy]
theorem fw_Ta {S S' : Sf} {m : Ms} {x : Gd} (h : Goes S (gdB x) S') (hx : wfG x) (hy : S.m.isRd = false → m.ta = x) : iTa (S, m) = (S', p_ta m x) := by
  show ((gdS S m.ta).1, p_ta m (gdS S m.ta).2) = _
  rw [go_gd h hx hy]
theorem fw_K {S S' : Sf} {m : Ms} {x : Int} (h : Goes S (nB x) S') (hx : in8 x) (hy : S.m.isRd = false → m.K = x) : iK (S, m) = (S', p_K m x) := by
  show ((intF S m.K).1, p_K m (intF S m.K).2) = _
  rw [go_int h hx hy]
/-- what the fields of a message want -/
structure MsOk (m : Ms) : Prop where
  may : mayM m = true
  wf : wfM m
  es : ∀ e ∈ m.es, wfE e
  gs : ∀ g ∈ m.l.l, wfG g
theorem MsOk.line {m : Ms} (h : MsOk m) (hk : 4 < m.K) : LnOk m.l := by
  have h1 := checkL_ok (mayM_l h.may hk)
  exact ⟨h.wf.E, ⟨h1.2.1, by omega⟩, by omega, h.gs⟩
/-- its kind's fields are those of m -/
def setOwn (m0 m : Ms) : Ms :=
  if m.K = 1 then p_PT (p_P (p_T m0 m.T) m.P) m.PT
  else if m.K = 2 then p_Y (p_T m0 m.T) m.Y
  else if m.K = 3 then p_S (p_C (p_es (p_PT (p_P (p_T m0 m.T) m.P) m.PT) m.es) m.C) m.S
  else if m.K = 4 then p_S (p_M (p_Y (p_T m0 m.T) m.Y) m.M) m.S
  else if m.K = 5 then p_N (p_ta (p_la (p_n (p_l m0 m.l) m.n) m.la) m.ta) m.N
  else if m.K = 6 then p_p (p_l m0 m.l) m.p
  else p_l m0 m.l
theorem p_T_self (m : Ms) : p_T m m.T = m := by cases m; rfl
theorem p_P_self (m : Ms) : p_P m m.P = m := by cases m; rfl
theorem p_PT_self (m : Ms) : p_PT m m.PT = m := by cases m; rfl
theorem p_es_self (m : Ms) : p_es m m.es = m := by cases m; rfl
theorem p_C_self (m : Ms) : p_C m m.C = m := by cases m; rfl
theorem p_Y_self (m : Ms) : p_Y m m.Y = m := by cases m; rfl
theorem p_M_self (m : Ms) : p_M m m.M = m := by cases m; rfl
theorem p_S_self (m : Ms) : p_S m m.S = m := by cases m; rfl
theorem p_l_self (m : Ms) : p_l m m.l = m := by cases m; rfl
theorem p_n_self (m : Ms) : p_n m m.n = m := by cases m; rfl
theorem p_la_self (m : Ms) : p_la m m.la = m := by cases m; rfl
theorem p_ta_self (m : Ms) : p_ta m m.ta = m := by cases m; rfl
theorem p_N_self (m : Ms) : p_N m m.N = m := by cases m; rfl
theorem p_p_self (m : Ms) : p_p m m.p = m := by cases m; rfl
theorem setOwn_self (m : Ms) : setOwn m m = m := by
  unfold setOwn
  rw [p_T_self, p_l_self, p_P_self, p_PT_self, p_Y_self, p_es_self, p_C_self, p_S_self, p_M_self, p_S_self, p_n_self, p_la_self, p_ta_self, p_N_self, p_p_self]
  simp only [ite_self]
theorem go_ask {S S' : Sf} {m0 m : Ms} (h : Goes S (askB m) S') (hT : u64 m.T) (hP : in8 m.P) (hPT : u64 m.PT) (hy : S.m.isRd = false → m0 = m) : askF S m0 = (S', p_PT (p_P (p_T m0 m.T) m.P) m.PT) := by
  obtain ⟨S1, k1, h, r1⟩ := Goes.parts h
  obtain ⟨S2, k2, k3, r2⟩ := Goes.parts h
  unfold askF
  rw [fw_T k1 hT (fun q => by rw [hy q]), fw_P k2 hP (fun q => by rw [hy (by rw [← r1]; exact q)]; rfl), fw_PT k3 hPT (fun q => by rw [hy (by rw [← r1, ← r2]; exact q)]; rfl)]
theorem go_vote {S S' : Sf} {m0 m : Ms} (h : Goes S (voteB m) S') (hT : u64 m.T) (hy : S.m.isRd = false → m0 = m) : voteF S m0 = (S', p_Y (p_T m0 m.T) m.Y) := by
  obtain ⟨S1, k1, k2, r1⟩ := Goes.parts h
  unfold voteF
  rw [fw_T k1 hT (fun q => by rw [hy q]), fw_Y k2 (fun q => by rw [hy (by rw [← r1]; exact q)]; rfl)]
theorem go_all {S S' : Sf} {m0 m : Ms} (hm : MsOk m) (h0 : m0.K = m.K) (h : Goes S (bodyB m) S') (hy : S.m.isRd = false → m0 = m) : allF S m0 = (S', setOwn m0 m) := by
  have hK := mayM_K hm.may
  have hok := okIn_lay hm.may hm.wf
  unfold allF
  rw [h0]
  by_cases k1 : m.K = 1
  · unfold setOwn
    unfold bodyB at h
    rw [if_pos k1] at h ⊢
    rw [if_pos k1]
    exact go_ask h (hok.T (by omega)) (hok.P (by omega)).1 (hok.P (by omega)).2 hy
  by_cases k2 : m.K = 2
  · unfold setOwn
    unfold bodyB at h
    rw [if_neg k1, if_pos k2] at h ⊢
    rw [if_neg k1, if_pos k2]
    exact go_vote h (hok.T (by omega)) hy
  by_cases k3 : m.K = 3
  · unfold setOwn
    unfold bodyB at h
    rw [if_neg k1, if_neg k2, if_pos k3] at h ⊢
    rw [if_neg k1, if_neg k2, if_pos k3]
    obtain ⟨S1, g1, h, r1⟩ := Goes.parts h
    obtain ⟨S2, g2, h, r2⟩ := Goes.parts h
    obtain ⟨S3, g3, g4, r3⟩ := Goes.parts h
    unfold appendsF
    rw [go_ask g1 (hok.T (by omega)) (hok.P (by omega)).1 (hok.P (by omega)).2 hy]
    dsimp only
    rw [go_ents g2 hm.es (hok.es k3).1 (hok.es k3).2.1 (fun q => by rw [hy (by rw [← r1]; exact q)]; rfl)]
    rw [fw_C g3 (hok.es k3).2.2 (fun q => by rw [hy (by rw [← r1, ← r2]; exact q)]; rfl), fw_S g4 (hok.S (by omega)) (fun q => by rw [hy (by rw [← r1, ← r2, ← r3]; exact q)]; rfl)]
  by_cases k4 : m.K = 4
  · unfold setOwn
    unfold bodyB at h
    rw [if_neg k1, if_neg k2, if_neg k3, if_pos k4] at h ⊢
    rw [if_neg k1, if_neg k2, if_neg k3, if_pos k4]
    obtain ⟨S1, g1, h, r1⟩ := Goes.parts h
    obtain ⟨S2, g2, g3, r2⟩ := Goes.parts h
    unfold appendedF
    rw [go_vote g1 (hok.T (by omega)) hy, fw_M g2 (hok.M k4) (fun q => by rw [hy (by rw [← r1]; exact q)]; rfl), fw_S g3 (hok.S (by omega)) (fun q => by rw [hy (by rw [← r1, ← r2]; exact q)]; rfl)]
  by_cases k5 : m.K = 5
  · unfold setOwn
    unfold bodyB at h
    rw [if_neg k1, if_neg k2, if_neg k3, if_neg k4, if_pos k5] at h ⊢
    rw [if_neg k1, if_neg k2, if_neg k3, if_neg k4, if_pos k5]
    obtain ⟨S1, g1, h, r1⟩ := Goes.parts h
    obtain ⟨S2, g2, h, r2⟩ := Goes.parts h
    obtain ⟨S3, g3, h, r3⟩ := Goes.parts h
    obtain ⟨S4, g4, g5, r4⟩ := Goes.parts h
    unfold pullF
    rw [go_line g1 (hm.line (by omega)) (fun q => by rw [hy q]), fw_L g2 (hok.pu k5).1 (fun q => by rw [hy (by rw [← r1]; exact q)]; rfl), fw_La g3 (hok.pu k5).2.1 (fun q => by rw [hy (by rw [← r1, ← r2]; exact q)]; rfl),
      fw_Ta g4 (hok.pu k5).2.2.1 (fun q => by rw [hy (by rw [← r1, ← r2, ← r3]; exact q)]; rfl), fw_N g5 (hok.pu k5).2.2.2 (fun q => by rw [hy (by rw [← r1, ← r2, ← r3, ← r4]; exact q)]; rfl)]
  by_cases k6 : m.K = 6
  · unfold setOwn
    unfold bodyB at h
    rw [if_neg k1, if_neg k2, if_neg k3, if_neg k4, if_neg k5, if_pos k6] at h ⊢
    rw [if_neg k1, if_neg k2, if_neg k3, if_neg k4, if_neg k5, if_pos k6]
    obtain ⟨S1, g1, g2, r1⟩ := Goes.parts h
    unfold partedF
    rw [go_line g1 (hm.line (by omega)) (fun q => by rw [hy q])]
    dsimp only
    rw [go_part g2 (mayM_part hm.may k6) hm.wf.p (fun q => by rw [hy (by rw [← r1]; exact q)]; rfl)]
  · have k7 : m.K = 7 := by omega
    unfold setOwn
    unfold bodyB at h
    rw [if_neg k1, if_neg k2, if_neg k3, if_neg k4, if_neg k5, if_neg k6] at h ⊢
    rw [if_neg k1, if_neg k2, if_neg k3, if_neg k4, if_neg k5, if_neg k6, if_pos k7]
    exact go_line h (hm.line (by omega)) (fun q => by rw [hy q])
/-- the message with its kind's fields alone -/
def ownM (m : Ms) : Ms := setOwn (p_K zeroM m.K) m
theorem layF_eq {m : Ms} (hm : MsOk m) : layF m = (Lm (bytesM m), m) := by
  have hg : Goes (Lm []) (nB m.K ++ bodyB m) (Lm (bytesM m)) := .inl ⟨[], rfl, rfl⟩
  obtain ⟨S1, k1, k2, r1⟩ := Goes.parts hg
  have g1 := fw_K (m := m) k1 (in8_K hm.may) (fun _ => rfl)
  have g2 := go_all hm (m0 := p_K m m.K) rfl k2 (fun _ => rfl)
  unfold layF
  rw [show (⟨.lay [], false⟩ : Sf) = Lm [] from rfl, g1]
  dsimp only
  rw [g2]
  congr 1
  exact setOwn_self m
theorem rdF_eq {m : Ms} (hm : MsOk m) (r : Nat) (t : List UInt8) : rdF r (bytesM m ++ t) = (Rm r t, ownM m) := by
  have hg : Goes (Rm r (bytesM m ++ t)) (nB m.K ++ bodyB m) (Rm r t) := .inr ⟨r, t, rfl, rfl⟩
  obtain ⟨S1, k1, k2, r1⟩ := Goes.parts hg
  have g1 := fw_K (m := zeroM) k1 (in8_K hm.may) (fun q => by cases q)
  have g2 := go_all hm (m0 := p_K zeroM m.K) rfl k2 (fun q => by rw [r1] at q; cases q)
  unfold rdF
  rw [show (⟨.rd r (some (bytesM m ++ t)), false⟩ : Sf) = Rm r (bytesM m ++ t) from rfl, g1]
  dsimp only
  exact g2
theorem lay_ok {m : Ms} (hm : MsOk m) : layS m = strOf (bytesM m) ∧ layBad m = false := by
  have h := layF_eq hm
  exact ⟨layS_of h, layBad_of h⟩
theorem read_ok {m : Ms} (hm : MsOk m) (t : List UInt8) : readM (bytesM m ++ t) = ownM m ∧ readOk (bytesM m ++ t) = decide (t = []) := by
  have h := rdF_eq hm 0 t
  refine ⟨readM_of h, (readOk_of h).trans ?_⟩
  show (!false && endB (some t)) = _
  unfold endB
  by_cases q : t = []
  · subst q; rfl
  · rw [decide_eq_false q, decide_eq_false (fun e => q (Option.some.inj e))]; rfl
theorem checkB_ok {m : Ms} (hm : MsOk m) : checkB m = true ↔ ownM m = m := by
  obtain ⟨h1, h2⟩ := lay_ok hm
  obtain ⟨h3, h4⟩ := read_ok hm []
  rw [List.append_nil] at h3 h4
  unfold checkB
  rw [hm.may, h2, h1, strOf_list, h3, h4, ← sameM_iff]
  rfl

theorem num_inv {st : Wire.St} {n : Nat} {t : List UInt8} (h : Wire.num st = (n, some t)) : st = some (Wire.putNum n ++ t) ∧ n < 256 ^ 8 := by
  cases st with
  | none => simp [Wire.num] at h
  | some l =>
    cases l with
    | nil => simp [Wire.num] at h
    | cons k r =>
      simp only [Wire.num] at h
      split at h
      · simp at h
      · rename_i hc
        have hc1 : ¬ 8 < k.toNat := fun e => hc (.inl e)
        have hc2 : ¬ r.length < k.toNat := fun e => hc (.inr (.inl e))
        have hc3 : 0 < k.toNat → r[0]? ≠ some 0 := fun e1 e2 => hc (.inr (.inr ⟨e1, e2⟩))
        simp only [Prod.mk.injEq, Option.some.injEq] at h
        obtain ⟨hn, ht⟩ := h
        have hn2 : Wire.nums (Wire.be (r.take k.toNat)) = r.take k.toNat := by
          refine Wire.nums_be _ (by simp; omega) ?_
          by_cases e : k.toNat = 0
          · simp [e]
          · rw [List.getElem?_take_of_lt (by omega)]; exact hc3 (by omega)
        refine ⟨?_, ?_⟩
        · rw [← hn, ← ht]
          unfold Wire.putNum
          rw [hn2, List.length_take, Nat.min_eq_left (by omega)]
          simp
        · rw [← hn]
          refine Nat.lt_of_lt_of_le (Wire.be_lt _) (Nat.pow_le_pow_right (by omega) (by rw [List.length_take]; omega))
theorem text_inv {st : Wire.St} {x t : List UInt8} (h : Wire.text st = (x, some t)) : st = some (Wire.putText x ++ t) := by
  unfold Wire.text at h
  split at h
  · simp at h
  · rename_i l hl
    split at h
    · simp at h
    · rename_i hlen
      simp only [Prod.mk.injEq, Option.some.injEq] at h
      obtain ⟨h1, h2⟩ := h
      have h3 := num_inv (st := st) (n := (Wire.num st).1) (t := l) (by rw [← hl])
      have hx : x.length = (Wire.num st).1 := by rw [← h1, List.length_take]; omega
      rw [h3.1]
      unfold Wire.putText
      rw [hx, List.append_assoc, ← h1, ← h2, List.take_append_drop]
/-- reading is at a good end -/
def Good (S : Sf) : Prop := ∃ r t, S = Rm r t
theorem Goes.trans {S S1 S2 : Sf} {X Y : List UInt8} (h : Goes S X S1) (k : Goes S1 Y S2) : Goes S (X ++ Y) S2 := by
  rcases h with ⟨s, rfl, rfl⟩ | ⟨r, t, rfl, rfl⟩
  · rcases k with ⟨s', e, rfl⟩ | ⟨r', t', e, rfl⟩
    · simp only [Lm, Sf.mk.injEq, Md.lay.injEq, and_true] at e
      subst e
      exact .inl ⟨s, rfl, by rw [List.append_assoc]⟩
    · simp [Lm, Rm] at e
  · rcases k with ⟨s', e, rfl⟩ | ⟨r', t', e, rfl⟩
    · simp [Lm, Rm] at e
    · simp only [Rm, Sf.mk.injEq, Md.rd.injEq, Option.some.injEq, and_true] at e
      obtain ⟨rfl, rfl⟩ := e
      exact .inr ⟨_, t', by rw [List.append_assoc], rfl⟩
theorem Goes.good {S S' : Sf} {X : List UInt8} (h : Goes S X S') (hr : S.m.isRd = true) : Good S := by
  rcases h with ⟨s, rfl, rfl⟩ | ⟨r, t, rfl, rfl⟩
  · cases hr
  · exact ⟨_, _, rfl⟩
theorem inv_numF {S : Sf} {n x : Nat} {b : Bool} {M : Md} (hr : S.m.isRd = true) (h : numF S.m n = (M, x)) (hg : Good ⟨M, b⟩) (hb : S.bad = false) : Goes S (Wire.putNum x) ⟨M, b⟩ ∧ x < 256 ^ 8 := by
  obtain ⟨md, bad⟩ := S
  dsimp only at hb
  subst hb
  obtain ⟨r, t, hg⟩ := hg
  cases md with
  | lay s => cases hr
  | rd r' st =>
    simp only [Rm, Sf.mk.injEq] at hg
    obtain ⟨rfl, rfl⟩ := hg
    simp only [numF, Prod.mk.injEq, Md.rd.injEq] at h
    obtain ⟨⟨rfl, h1⟩, h2⟩ := h
    have h3 := num_inv (st := st) (n := x) (t := t) (by rw [← h1, ← h2])
    exact ⟨.inr ⟨r', t, by unfold Rm; rw [h3.1], rfl⟩, h3.2⟩
theorem inv_num {S S' : Sf} {x y : Int} (hr : S.m.isRd = true) (h : numS S y = (S', x)) (hg : Good S') : Goes S (nB x) S' ∧ u64 x := by
  unfold numS at h
  simp only [Prod.mk.injEq] at h
  obtain ⟨h1, h2⟩ := h
  have hb : S.bad = false := by
    obtain ⟨r, t, e⟩ := hg
    rw [e] at h1
    have := congrArg Sf.bad h1
    exact this
  have h3 := inv_numF (M := (numF S.m y.toNat).1) (x := (numF S.m y.toNat).2) (b := S.bad) hr rfl (by rw [h1]; exact hg) hb
  rw [h1] at h3
  rw [← h2]
  exact ⟨h3.1, nat_u64 h3.2⟩
theorem inv_int {S S' : Sf} {x y : Int} (hr : S.m.isRd = true) (h : intF S y = (S', x)) (hg : Good S') : Goes S (nB x) S' ∧ in8 x := by
  unfold intF at h
  simp only [Prod.mk.injEq] at h
  obtain ⟨h1, h2⟩ := h
  have hb : (S.bad || decide (8192 < (numF S.m y.toNat).2)) = false := by
    obtain ⟨r, t, e⟩ := hg
    rw [e] at h1
    have := congrArg Sf.bad h1
    exact this
  rw [Bool.or_eq_false_iff, decide_eq_false_iff_not] at hb
  have h3 := inv_numF (M := (numF S.m y.toNat).1) (x := (numF S.m y.toNat).2) (b := (S.bad || decide (8192 < (numF S.m y.toNat).2))) hr rfl (by rw [h1]; exact hg) hb.1
  rw [h1] at h3
  have e : x = (((numF S.m y.toNat).2 : Nat) : Int) := by rw [← h2]; exact IntWalk.wrap64_in _ (by omega)
  rw [e]
  exact ⟨h3.1, by constructor <;> omega⟩
theorem inv_st {S S' : Sf} {x y : Int} (hr : S.m.isRd = true) (h : stF S y = (S', x)) (hg : Good S') (h0 : 0 ≤ x) : Goes S (nB x) S' := by
  unfold stF at h
  simp only [Prod.mk.injEq] at h
  obtain ⟨h1, h2⟩ := h
  have hb : S.bad = false := by
    obtain ⟨r, t, e⟩ := hg
    rw [e] at h1
    have := congrArg Sf.bad h1
    exact this
  have h3 := inv_numF (M := (numF S.m y.toNat).1) (x := (numF S.m y.toNat).2) (b := S.bad) hr rfl (by rw [h1]; exact hg) hb
  rw [h1] at h3
  have hlt := h3.2
  rw [p256] at hlt
  have e : x = (((numF S.m y.toNat).2 : Nat) : Int) := by
    rw [← h2] at h0 ⊢
    unfold wrap64 at h0 ⊢
    omega
  rw [e]
  exact h3.1
theorem inv_yes {S S' : Sf} {x y : Bool} (hr : S.m.isRd = true) (h : yesF S y = (S', x)) (hg : Good S') : Goes S (Wire.putNum (b01 x)) S' := by
  obtain ⟨S1, k, hS1⟩ : ∃ S1 k, intF S ((b01 y : Nat) : Int) = (S1, k) := ⟨_, _, rfl⟩
  unfold yesF at h
  rw [hS1] at h
  simp only [Prod.mk.injEq] at h
  obtain ⟨h1, h2⟩ := h
  have hb : (S1.bad || decide (1 < k)) = false := by
    obtain ⟨r, t, e⟩ := hg
    rw [e] at h1
    have := congrArg Sf.bad h1
    exact this
  have hb2 := hb
  rw [Bool.or_eq_false_iff, decide_eq_false_iff_not] at hb
  have e1 : S' = S1 := by
    rw [← h1, hb2]
    cases S1
    simp_all
  subst e1
  have h3 := inv_int hr hS1 hg
  have e2 : k = ((b01 x : Nat) : Int) := by
    have h4 := h3.2
    rw [← h2]
    have hk : k = 0 ∨ k = 1 := by
      have := h4.1
      omega
    rcases hk with rfl | rfl <;> rfl
  have h5 := h3.1
  rw [e2] at h5
  exact h5
theorem gdS_parts (S : Sf) (y : Gd) : ∃ S1, numS S y.1 = (S1, (gdS S y).2.1) ∧ numS S1 y.2 = ((gdS S y).1, (gdS S y).2.2) ∧ S1.m.isRd = S.m.isRd := ⟨_, rfl, rfl, alike_isRd_num S y.1⟩
theorem inv_gd {S S' : Sf} {x y : Gd} (hr : S.m.isRd = true) (h : gdS S y = (S', x)) (hg : Good S') : Goes S (gdB x) S' := by
  obtain ⟨S1, h1, h2, hr1⟩ := gdS_parts S y
  rw [h] at h1 h2
  dsimp only at h1 h2
  have k2 := (inv_num (by rw [hr1]; exact hr) h2 hg).1
  have k1 := (inv_num hr h1 (k2.good (by rw [hr1]; exact hr))).1
  exact k1.trans k2
theorem enS_parts (S : Sf) (y : En) : ∃ S1 S2, numS S y.T = (S1, (enS S y).2.T) ∧ intF S1 y.K = (S2, (enS S y).2.K) ∧ gdS S2 y.g = ((enS S y).1, (enS S y).2.g) ∧ S1.m.isRd = S.m.isRd ∧ S2.m.isRd = S.m.isRd :=
  ⟨_, _, rfl, rfl, rfl, alike_isRd_num S y.T, (alike_isRd_int _ _).trans (alike_isRd_num S y.T)⟩
theorem inv_en {S S' : Sf} {x y : En} (hr : S.m.isRd = true) (h : enS S y = (S', x)) (hg : Good S') : Goes S (enB x) S' := by
  obtain ⟨S1, S2, h1, h2, h3, hr1, hr2⟩ := enS_parts S y
  rw [h] at h1 h2 h3
  dsimp only at h1 h2 h3
  have k3 := inv_gd (by rw [hr2]; exact hr) h3 hg
  have k2 := (inv_int (by rw [hr1]; exact hr) h2 (k3.good (by rw [hr2]; exact hr))).1
  have k1 := (inv_num hr h1 (k2.good (by rw [hr1]; exact hr))).1
  exact k1.trans (k2.trans k3)
theorem inv_gLp {S : Sf} {l0 : List Gd} (hr : S.m.isRd = true) : ∀ k, k ≤ l0.length → Good (gLp S l0 k).1 → Goes S (((gLp S l0 k).2.take k).flatMap gdB) (gLp S l0 k).1
  | 0, _, hg => by
    obtain ⟨r, t, e⟩ := hg
    have e' : S = Rm r t := e
    exact .inr ⟨r, t, e', e⟩
  | k + 1, hk, hg => by
    obtain ⟨⟨Sk, lk⟩, hX⟩ : ∃ X, gLp S l0 k = X := ⟨_, rfl⟩
    have hrk : Sk.m.isRd = true := by have := gLp_isRd S l0 k; rw [hX] at this; exact this.trans hr
    have hlen : lk.length = l0.length := by have := gLp_len S l0 k; rw [hX] at this; exact this
    obtain ⟨⟨S', g⟩, hY⟩ : ∃ Y, gdS Sk (lk.getD k (0, 0)) = Y := ⟨_, rfl⟩
    have e : gLp S l0 (k + 1) = (S', lk.set k g) := by
      unfold gLp
      rw [hX]
      dsimp only
      rw [hY]
    rw [e] at hg ⊢
    dsimp only at hg ⊢
    have k2 := inv_gd hrk hY hg
    have ih := inv_gLp (l0 := l0) hr k (by omega) (by rw [hX]; exact k2.good hrk)
    rw [hX] at ih
    dsimp only at ih
    have e2 : (lk.set k g).take (k + 1) = lk.take k ++ [g] := by
      have hk2 : k < (lk.set k g).length := by rw [List.length_set]; omega
      rw [List.take_succ_eq_append_getElem hk2, List.take_set_of_le (Nat.le_refl k), List.getElem_set_self]
    rw [e2, List.flatMap_append]
    have e3 : [g].flatMap gdB = gdB g := by simp
    rw [e3]
    exact ih.trans k2
theorem inv_eLp {S : Sf} {l0 : List En} (hr : S.m.isRd = true) : ∀ k, k ≤ l0.length → Good (eLp S l0 k).1 → Goes S (((eLp S l0 k).2.take k).flatMap enB) (eLp S l0 k).1
  | 0, _, hg => by
    obtain ⟨r, t, e⟩ := hg
    have e' : S = Rm r t := e
    exact .inr ⟨r, t, e', e⟩
  | k + 1, hk, hg => by
    obtain ⟨⟨Sk, lk⟩, hX⟩ : ∃ X, eLp S l0 k = X := ⟨_, rfl⟩
    have hrk : Sk.m.isRd = true := by have := eLp_isRd S l0 k; rw [hX] at this; exact this.trans hr
    have hlen : lk.length = l0.length := by have := eLp_len S l0 k; rw [hX] at this; exact this
    obtain ⟨⟨S', g⟩, hY⟩ : ∃ Y, enS Sk (lk.getD k en0) = Y := ⟨_, rfl⟩
    have e : eLp S l0 (k + 1) = (S', lk.set k g) := by
      unfold eLp
      rw [hX]
      dsimp only
      rw [hY]
    rw [e] at hg ⊢
    dsimp only at hg ⊢
    have k2 := inv_en hrk hY hg
    have ih := inv_eLp (l0 := l0) hr k (by omega) (by rw [hX]; exact k2.good hrk)
    rw [hX] at ih
    dsimp only at ih
    have e2 : (lk.set k g).take (k + 1) = lk.take k ++ [g] := by
      have hk2 : k < (lk.set k g).length := by rw [List.length_set]; omega
      rw [List.take_succ_eq_append_getElem hk2, List.take_set_of_le (Nat.le_refl k), List.getElem_set_self]
    rw [e2, List.flatMap_append]
    have e3 : [g].flatMap enB = enB g := by simp
    rw [e3]
    exact ih.trans k2
theorem bw_T {q : Sf × Ms} (hr : q.1.m.isRd = true) (hg : Good (iT q).1) : Goes q.1 (nB (iT q).2.T) (iT q).1 := by
  obtain ⟨⟨S1, x⟩, hX⟩ : ∃ X, numS q.1 q.2.T = X := ⟨_, rfl⟩
  have e : iT q = (S1, p_T q.2 x) := by
    unfold iT
    rw [hX]
  rw [e] at hg ⊢
  exact (inv_num hr hX hg).1
theorem bw_P {q : Sf × Ms} (hr : q.1.m.isRd = true) (hg : Good (iP q).1) : Goes q.1 (nB (iP q).2.P) (iP q).1 := by
  obtain ⟨⟨S1, x⟩, hX⟩ : ∃ X, intF q.1 q.2.P = X := ⟨_, rfl⟩
  have e : iP q = (S1, p_P q.2 x) := by
    unfold iP
    rw [hX]
  rw [e] at hg ⊢
  exact (inv_int hr hX hg).1
theorem bw_PT {q : Sf × Ms} (hr : q.1.m.isRd = true) (hg : Good (iPT q).1) : Goes q.1 (nB (iPT q).2.PT) (iPT q).1 := by
  obtain ⟨⟨S1, x⟩, hX⟩ : ∃ X, numS q.1 q.2.PT = X := ⟨_, rfl⟩
  have e : iPT q = (S1, p_PT q.2 x) := by
    unfold iPT
    rw [hX]
  rw [e] at hg ⊢
  exact (inv_num hr hX hg).1
theorem bw_Y {q : Sf × Ms} (hr : q.1.m.isRd = true) (hg : Good (iY q).1) : Goes q.1 (Wire.putNum (b01 (iY q).2.Y)) (iY q).1 := by
  obtain ⟨⟨S1, x⟩, hX⟩ : ∃ X, yesF q.1 q.2.Y = X := ⟨_, rfl⟩
  have e : iY q = (S1, p_Y q.2 x) := by
    unfold iY
    rw [hX]
  rw [e] at hg ⊢
  exact inv_yes hr hX hg
theorem bw_C {q : Sf × Ms} (hr : q.1.m.isRd = true) (hg : Good (iC q).1) : Goes q.1 (nB (iC q).2.C) (iC q).1 := by
  obtain ⟨⟨S1, x⟩, hX⟩ : ∃ X, intF q.1 q.2.C = X := ⟨_, rfl⟩
  have e : iC q = (S1, p_C q.2 x) := by
    unfold iC
    rw [hX]
  rw [e] at hg ⊢
  exact (inv_int hr hX hg).1
theorem bw_M {q : Sf × Ms} (hr : q.1.m.isRd = true) (hg : Good (iM q).1) : Goes q.1 (nB (iM q).2.M) (iM q).1 := by
  obtain ⟨⟨S1, x⟩, hX⟩ : ∃ X, intF q.1 q.2.M = X := ⟨_, rfl⟩
  have e : iM q = (S1, p_M q.2 x) := by
    unfold iM
    rw [hX]
  rw [e] at hg ⊢
  exact (inv_int hr hX hg).1
theorem bw_L {q : Sf × Ms} (hr : q.1.m.isRd = true) (hg : Good (iL q).1) : Goes q.1 (nB (iL q).2.n) (iL q).1 := by
  obtain ⟨⟨S1, x⟩, hX⟩ : ∃ X, intF q.1 q.2.n = X := ⟨_, rfl⟩
  have e : iL q = (S1, p_n q.2 x) := by
    unfold iL
    rw [hX]
  rw [e] at hg ⊢
  exact (inv_int hr hX hg).1
theorem bw_N {q : Sf × Ms} (hr : q.1.m.isRd = true) (hg : Good (iN q).1) : Goes q.1 (nB (iN q).2.N) (iN q).1 := by
  obtain ⟨⟨S1, x⟩, hX⟩ : ∃ X, intF q.1 q.2.N = X := ⟨_, rfl⟩
  have e : iN q = (S1, p_N q.2 x) := by
    unfold iN
    rw [hX]
  rw [e] at hg ⊢
  exact (inv_int hr hX hg).1
theorem bw_S {q : Sf × Ms} (hr : q.1.m.isRd = true) (hg : Good (iS q).1) (h0 : 0 ≤ (iS q).2.S) : Goes q.1 (nB (iS q).2.S) (iS q).1 := by
  obtain ⟨⟨S1, x⟩, hX⟩ : ∃ X, stF q.1 q.2.S = X := ⟨_, rfl⟩
  have e : iS q = (S1, p_S q.2 x) := by
    unfold iS
    rw [hX]
  rw [e] at hg h0 ⊢
  exact inv_st hr hX hg h0
theorem bw_La {q : Sf × Ms} (hr : q.1.m.isRd = true) (hg : Good (iLa q).1) : Goes q.1 (gdB (iLa q).2.la) (iLa q).1 := by
  obtain ⟨⟨S1, x⟩, hX⟩ : ∃ X, gdS q.1 q.2.la = X := ⟨_, rfl⟩
  have e : iLa q = (S1, p_la q.2 x) := by
    unfold iLa
    rw [hX]
  rw [e] at hg ⊢
  exact inv_gd hr hX hg
theorem bw_Ta {q : Sf × Ms} (hr : q.1.m.isRd = true) (hg : Good (iTa q).1) : Goes q.1 (gdB (iTa q).2.ta) (iTa q).1 := by
  obtain ⟨⟨S1, x⟩, hX⟩ : ∃ X, gdS q.1 q.2.ta = X := ⟨_, rfl⟩
  have e : iTa q = (S1, p_ta q.2 x) := by
    unfold iTa
    rw [hX]
  rw [e] at hg ⊢
  exact inv_gd hr hX hg
theorem bw_K {q : Sf × Ms} (hr : q.1.m.isRd = true) (hg : Good (iK q).1) : Goes q.1 (nB (iK q).2.K) (iK q).1 := by
  obtain ⟨⟨S1, x⟩, hX⟩ : ∃ X, intF q.1 q.2.K = X := ⟨_, rfl⟩
  have e : iK q = (S1, p_K q.2 x) := by
    unfold iK
    rw [hX]
  rw [e] at hg ⊢
  exact (inv_int hr hX hg).1
theorem lineF_ex (S : Sf) (m : Ms) : ∃ S1 S2 S3 S4 k, numS S m.l.E = (S1, (lineF S m).2.l.E) ∧ intF S1 m.l.B = (S2, (lineF S m).2.l.B) ∧ yesF S2 m.l.L = (S3, (lineF S m).2.l.L) ∧ intF S3 (m.l.l.length : Nat) = (S4, k) ∧
    gLp S4 (szG S3 m.l.l) (szG S3 m.l.l).length = ((lineF S m).1, (lineF S m).2.l.l) ∧ S1.m.isRd = S.m.isRd ∧ S2.m.isRd = S.m.isRd ∧ S3.m.isRd = S.m.isRd ∧ S4.m.isRd = S.m.isRd := by
  obtain ⟨⟨S1, e⟩, h1⟩ : ∃ X, numS S m.l.E = X := ⟨_, rfl⟩
  obtain ⟨⟨S2, b⟩, h2⟩ : ∃ X, intF S1 m.l.B = X := ⟨_, rfl⟩
  obtain ⟨⟨S3, ll⟩, h3⟩ : ∃ X, yesF S2 m.l.L = X := ⟨_, rfl⟩
  obtain ⟨⟨S4, k⟩, h4⟩ : ∃ X, intF S3 (m.l.l.length : Nat) = X := ⟨_, rfl⟩
  obtain ⟨l1, h5⟩ : ∃ l1, szG S3 m.l.l = l1 := ⟨_, rfl⟩
  obtain ⟨⟨S5, l2⟩, h6⟩ : ∃ X, gLp S4 l1 l1.length = X := ⟨_, rfl⟩
  have h := lineF_parts h1 h2 h3 h4 h5 h6
  have r1 : S1.m.isRd = S.m.isRd := by have := alike_isRd_num S m.l.E; rwa [h1] at this
  have r2 : S2.m.isRd = S1.m.isRd := by have := alike_isRd_int S1 m.l.B; rwa [h2] at this
  have r3 : S3.m.isRd = S2.m.isRd := by have := alike_isRd_yes S2 m.l.L; rwa [h3] at this
  have r4 : S4.m.isRd = S3.m.isRd := by have := alike_isRd_int S3 (m.l.l.length : Nat); rwa [h4] at this
  rw [h]
  exact ⟨S1, S2, S3, S4, k, h1, h2, h3, h4, by rw [h5]; exact h6, r1, r2.trans r1, r3.trans (r2.trans r1), r4.trans (r3.trans (r2.trans r1))⟩
theorem bw_line {S : Sf} {m : Ms} (hr : S.m.isRd = true) (hg : Good (lineF S m).1) : Goes S (lineB (lineF S m).2.l) (lineF S m).1 := by
  obtain ⟨S1, S2, S3, S4, k, h1, h2, h3, h4, h6, r1, r2, r3, r4⟩ := lineF_ex S m
  have k6 : Goes S4 ((lineF S m).2.l.l.flatMap gdB) (lineF S m).1 := by
    have h := inv_gLp (S := S4) (l0 := szG S3 m.l.l) (by rw [r4]; exact hr) (szG S3 m.l.l).length (Nat.le_refl _) (by rw [h6]; exact hg)
    have hl : (lineF S m).2.l.l.length = (szG S3 m.l.l).length := by have := gLp_len S4 (szG S3 m.l.l) (szG S3 m.l.l).length; rwa [h6] at this
    rw [h6] at h
    dsimp only at h
    rw [← hl, List.take_length] at h
    exact h
  have g4 := k6.good (by rw [r4]; exact hr)
  have k4 := inv_int (by rw [r3]; exact hr) h4 g4
  have hlen : k = (((lineF S m).2.l.l.length : Nat) : Int) := by
    have hl : (lineF S m).2.l.l.length = (szG S3 m.l.l).length := by have := gLp_len S4 (szG S3 m.l.l) (szG S3 m.l.l).length; rwa [h6] at this
    have hk : ((k.toNat : Nat) : Int) = k := Int.toNat_of_nonneg k4.2.1
    obtain ⟨f1, f2⟩ := fresh_rd (k := m.l.l.length) (n := k.toNat) (S' := S4) (by rw [hk]; exact h4) (by rw [r3]; exact hr) (by obtain ⟨r, t, e⟩ := g4; rw [e]; rfl)
    rw [hl]
    unfold szG
    rw [if_pos f1, f2, List.length_replicate, hk]
  have k3 := inv_yes (by rw [r2]; exact hr) h3 (k4.1.good (by rw [r3]; exact hr))
  have k2 := (inv_int (by rw [r1]; exact hr) h2 (k3.good (by rw [r2]; exact hr))).1
  have k1 := (inv_num hr h1 (k2.good (by rw [r1]; exact hr))).1
  have k4' := k4.1
  rw [hlen] at k4'
  exact k1.trans (k2.trans (k3.trans (k4'.trans k6)))
theorem entF_ex (S : Sf) (m : Ms) : ∃ S4 k, intF S (m.es.length : Nat) = (S4, k) ∧ eLp S4 (szE S m.es) (szE S m.es).length = ((entF S m).1, (entF S m).2.es) ∧ S4.m.isRd = S.m.isRd := by
  obtain ⟨⟨S4, k⟩, h4⟩ : ∃ X, intF S (m.es.length : Nat) = X := ⟨_, rfl⟩
  obtain ⟨l1, h5⟩ : ∃ l1, szE S m.es = l1 := ⟨_, rfl⟩
  obtain ⟨⟨S5, l2⟩, h6⟩ : ∃ X, eLp S4 l1 l1.length = X := ⟨_, rfl⟩
  have h := entF_parts h4 h5 h6
  have r4 : S4.m.isRd = S.m.isRd := by have := alike_isRd_int S (m.es.length : Nat); rwa [h4] at this
  rw [h]
  exact ⟨S4, k, h4, by rw [h5]; exact h6, r4⟩
theorem bw_ents {S : Sf} {m : Ms} (hr : S.m.isRd = true) (hg : Good (entF S m).1) : Goes S (entsB (entF S m).2.es) (entF S m).1 := by
  obtain ⟨S4, k, h4, h6, r4⟩ := entF_ex S m
  have hl : (entF S m).2.es.length = (szE S m.es).length := by have := eLp_len S4 (szE S m.es) (szE S m.es).length; rwa [h6] at this
  have k6 : Goes S4 ((entF S m).2.es.flatMap enB) (entF S m).1 := by
    have h := inv_eLp (S := S4) (l0 := szE S m.es) (by rw [r4]; exact hr) (szE S m.es).length (Nat.le_refl _) (by rw [h6]; exact hg)
    rw [h6] at h
    dsimp only at h
    rw [← hl, List.take_length] at h
    exact h
  have g4 := k6.good (by rw [r4]; exact hr)
  have k4 := inv_int hr h4 g4
  have hlen : k = (((entF S m).2.es.length : Nat) : Int) := by
    have hk : ((k.toNat : Nat) : Int) = k := Int.toNat_of_nonneg k4.2.1
    obtain ⟨f1, f2⟩ := fresh_rd (k := m.es.length) (n := k.toNat) (S' := S4) (by rw [hk]; exact h4) hr (by obtain ⟨r, t, e⟩ := g4; rw [e]; rfl)
    rw [hl]
    unfold szE
    rw [if_pos f1, f2, List.length_replicate, hk]
  have k4' := k4.1
  rw [hlen] at k4'
  exact k4'.trans k6
theorem bw_part {S : Sf} {m : Ms} (hr : S.m.isRd = true) (hg : Good (partF S m).1) : Goes S (partB (partF S m).2.p) (partF S m).1 := by
  obtain ⟨md, b⟩ := S
  cases md with
  | lay s => cases hr
  | rd r st =>
    obtain ⟨⟨x, st2⟩, hX⟩ : ∃ X, Wire.text st = X := ⟨_, rfl⟩
    have e : partF ⟨.rd r st, b⟩ m = (⟨.rd r st2, b || decide (decE 9 2 (strOf x) ≠ 0)⟩, p_p m (decP 9 2 (strOf x))) := by
      show ((⟨.rd r (Wire.text st).2, b || decide (decE 9 2 (strOf (Wire.text st).1) ≠ 0)⟩ : Sf), p_p m (decP 9 2 (strOf (Wire.text st).1))) = _
      rw [hX]
    rw [e] at hg ⊢
    dsimp only at hg ⊢
    obtain ⟨r', t, hg⟩ := hg
    simp only [Rm, Sf.mk.injEq, Md.rd.injEq] at hg
    obtain ⟨⟨rfl, rfl⟩, hb⟩ := hg
    have hb2 := hb
    rw [Bool.or_eq_false_iff, decide_eq_false_iff_not] at hb
    obtain ⟨rfl, hb3⟩ := hb
    have hok : decOk 9 2 (strOf x) := by
      by_cases q : decOk 9 2 (strOf x)
      · exact q
      · exfalso
        apply hb3
        unfold decE
        rw [if_neg q]
        decide
    have hti := text_inv hX
    have hp : partB (decP 9 2 (strOf x)) = Wire.putText x := by
      unfold partB decP
      rw [if_pos hok, hok.2.2, strOf_list]
    rw [p_p_p, hp, hb2]
    exact .inr ⟨r, t, by unfold Rm; rw [hti], rfl⟩
theorem partF_l (S : Sf) (m : Ms) : (partF S m).2.l = m.l := by
  obtain ⟨md, b⟩ := S
  cases md <;> rfl
theorem partF_K (S : Sf) (m : Ms) : (partF S m).2.K = m.K := by
  obtain ⟨md, b⟩ := S
  cases md <;> rfl
theorem bw_ask {S : Sf} {m0 : Ms} (hr : S.m.isRd = true) (hg : Good (askF S m0).1) : Goes S (askB (askF S m0).2) (askF S m0).1 := by
  obtain ⟨q0, e0⟩ : ∃ q : Sf × Ms, (S, m0) = q := ⟨_, rfl⟩
  have r0 : q0.1.m.isRd = true := by rw [← e0]; exact hr
  obtain ⟨q1, e1⟩ : ∃ q, iT q0 = q := ⟨_, rfl⟩
  have r1 : q1.1.m.isRd = true := by rw [← e1]; exact (iT_alike q0).2.2.trans r0
  obtain ⟨q2, e2⟩ : ∃ q, iP q1 = q := ⟨_, rfl⟩
  have r2 : q2.1.m.isRd = true := by rw [← e2]; exact (iP_alike q1).2.2.trans r1
  obtain ⟨q3, e3⟩ : ∃ q, iPT q2 = q := ⟨_, rfl⟩
  have r3 : q3.1.m.isRd = true := by rw [← e3]; exact (iPT_alike q2).2.2.trans r2
  have e : askF S m0 = q3 := by
    unfold askF
    rw [e0, e1, e2, e3]
  rw [e] at hg ⊢
  have k3 := bw_PT (q := q2) r2 (by rw [e3]; exact hg)
  rw [e3] at k3
  have k2 := bw_P (q := q1) r1 (by rw [e2]; exact (k3.good r2))
  rw [e2] at k2
  have k1 := bw_T (q := q0) r0 (by rw [e1]; exact (k2.good r1))
  rw [e1] at k1
  have x1 : q3.2.T = q1.2.T := by rw [← e3, iPT_2, p_PT_T, ← e2, iP_2, p_P_T]
  have x2 : q3.2.P = q2.2.P := by rw [← e3, iPT_2, p_PT_P]
  have k0 : Goes S (nB q1.2.T) q1.1 := by rw [← e0] at k1; exact k1
  unfold askB
  rw [x1, x2]
  exact k0.trans (k2.trans k3)
theorem bw_vote {S : Sf} {m0 : Ms} (hr : S.m.isRd = true) (hg : Good (voteF S m0).1) : Goes S (voteB (voteF S m0).2) (voteF S m0).1 := by
  obtain ⟨q0, e0⟩ : ∃ q : Sf × Ms, (S, m0) = q := ⟨_, rfl⟩
  have r0 : q0.1.m.isRd = true := by rw [← e0]; exact hr
  obtain ⟨q1, e1⟩ : ∃ q, iT q0 = q := ⟨_, rfl⟩
  have r1 : q1.1.m.isRd = true := by rw [← e1]; exact (iT_alike q0).2.2.trans r0
  obtain ⟨q2, e2⟩ : ∃ q, iY q1 = q := ⟨_, rfl⟩
  have r2 : q2.1.m.isRd = true := by rw [← e2]; exact (iY_alike q1).2.2.trans r1
  have e : voteF S m0 = q2 := by
    unfold voteF
    rw [e0, e1, e2]
  rw [e] at hg ⊢
  have k2 := bw_Y (q := q1) r1 (by rw [e2]; exact hg)
  rw [e2] at k2
  have k1 := bw_T (q := q0) r0 (by rw [e1]; exact (k2.good r1))
  rw [e1] at k1
  have x1 : q2.2.T = q1.2.T := by rw [← e2, iY_2, p_Y_T]
  have k0 : Goes S (nB q1.2.T) q1.1 := by rw [← e0] at k1; exact k1
  unfold voteB
  rw [x1]
  exact k0.trans k2
theorem bw_apps {S : Sf} {m0 : Ms} (hr : S.m.isRd = true) (hg : Good (appendsF S m0).1) (h0 : 0 ≤ (appendsF S m0).2.S) : Goes S (appsB (appendsF S m0).2) (appendsF S m0).1 := by
  obtain ⟨q0, e0⟩ : ∃ q : Sf × Ms, askF S m0 = q := ⟨_, rfl⟩
  have r0 : q0.1.m.isRd = true := by rw [← e0]; exact (askF_alike S m0).2.2.trans hr
  obtain ⟨q1, e1⟩ : ∃ q, entF q0.1 q0.2 = q := ⟨_, rfl⟩
  have r1 : q1.1.m.isRd = true := by rw [← e1]; exact (entF_alike _ _).2.2.trans r0
  obtain ⟨q2, e2⟩ : ∃ q, iC q1 = q := ⟨_, rfl⟩
  have r2 : q2.1.m.isRd = true := by rw [← e2]; exact (iC_alike q1).2.2.trans r1
  obtain ⟨q3, e3⟩ : ∃ q, iS q2 = q := ⟨_, rfl⟩
  have r3 : q3.1.m.isRd = true := by rw [← e3]; exact (iS_alike q2).2.2.trans r2
  have e : appendsF S m0 = q3 := by
    unfold appendsF
    rw [e0, e1, e2, e3]
  rw [e] at hg h0 ⊢
  have k3 := bw_S (q := q2) r2 (by rw [e3]; exact hg) (by rw [e3]; exact h0)
  rw [e3] at k3
  have k2 := bw_C (q := q1) r1 (by rw [e2]; exact (k3.good r2))
  rw [e2] at k2
  have k1 := bw_ents (S := q0.1) (m := q0.2) r0 (by rw [e1]; exact (k2.good r1))
  rw [e1] at k1
  have x1 : q3.2.es = q1.2.es := by rw [← e3, iS_2, p_S_es, ← e2, iC_2, p_C_es]
  have x2 : q3.2.C = q2.2.C := by rw [← e3, iS_2, p_S_C]
  have y0 : askB q3.2 = askB q0.2 := by
    unfold askB
    rw [← e3, iS_2, p_S_T, p_S_P, p_S_PT, ← e2, iC_2, p_C_T, p_C_P, p_C_PT, ← e1, entF_2, p_es_T, p_es_P, p_es_PT]
  have k0 := bw_ask (S := S) (m0 := m0) hr (by rw [e0]; exact (k1.good r0))
  rw [e0] at k0
  unfold appsB
  rw [y0, x1, x2]
  exact k0.trans (k1.trans (k2.trans k3))
theorem bw_appd {S : Sf} {m0 : Ms} (hr : S.m.isRd = true) (hg : Good (appendedF S m0).1) (h0 : 0 ≤ (appendedF S m0).2.S) : Goes S (appdB (appendedF S m0).2) (appendedF S m0).1 := by
  obtain ⟨q0, e0⟩ : ∃ q : Sf × Ms, voteF S m0 = q := ⟨_, rfl⟩
  have r0 : q0.1.m.isRd = true := by rw [← e0]; exact (voteF_alike S m0).2.2.trans hr
  obtain ⟨q1, e1⟩ : ∃ q, iM q0 = q := ⟨_, rfl⟩
  have r1 : q1.1.m.isRd = true := by rw [← e1]; exact (iM_alike q0).2.2.trans r0
  obtain ⟨q2, e2⟩ : ∃ q, iS q1 = q := ⟨_, rfl⟩
  have r2 : q2.1.m.isRd = true := by rw [← e2]; exact (iS_alike q1).2.2.trans r1
  have e : appendedF S m0 = q2 := by
    unfold appendedF
    rw [e0, e1, e2]
  rw [e] at hg h0 ⊢
  have k2 := bw_S (q := q1) r1 (by rw [e2]; exact hg) (by rw [e2]; exact h0)
  rw [e2] at k2
  have k1 := bw_M (q := q0) r0 (by rw [e1]; exact (k2.good r1))
  rw [e1] at k1
  have x1 : q2.2.M = q1.2.M := by rw [← e2, iS_2, p_S_M]
  have y0 : voteB q2.2 = voteB q0.2 := by
    unfold voteB
    rw [← e2, iS_2, p_S_T, p_S_Y, ← e1, iM_2, p_M_T, p_M_Y]
  have k0 := bw_vote (S := S) (m0 := m0) hr (by rw [e0]; exact (k1.good r0))
  rw [e0] at k0
  unfold appdB
  rw [y0, x1]
  exact k0.trans (k1.trans k2)
theorem bw_pull {S : Sf} {m0 : Ms} (hr : S.m.isRd = true) (hg : Good (pullF S m0).1) : Goes S (pullL (pullF S m0).2) (pullF S m0).1 := by
  obtain ⟨q0, e0⟩ : ∃ q : Sf × Ms, lineF S m0 = q := ⟨_, rfl⟩
  have r0 : q0.1.m.isRd = true := by rw [← e0]; exact (lineF_alike S m0).2.2.trans hr
  obtain ⟨q1, e1⟩ : ∃ q, iL q0 = q := ⟨_, rfl⟩
  have r1 : q1.1.m.isRd = true := by rw [← e1]; exact (iL_alike q0).2.2.trans r0
  obtain ⟨q2, e2⟩ : ∃ q, iLa q1 = q := ⟨_, rfl⟩
  have r2 : q2.1.m.isRd = true := by rw [← e2]; exact (iLa_alike q1).2.2.trans r1
  obtain ⟨q3, e3⟩ : ∃ q, iTa q2 = q := ⟨_, rfl⟩
  have r3 : q3.1.m.isRd = true := by rw [← e3]; exact (iTa_alike q2).2.2.trans r2
  obtain ⟨q4, e4⟩ : ∃ q, iN q3 = q := ⟨_, rfl⟩
  have r4 : q4.1.m.isRd = true := by rw [← e4]; exact (iN_alike q3).2.2.trans r3
  have e : pullF S m0 = q4 := by
    unfold pullF
    rw [e0, e1, e2, e3, e4]
  rw [e] at hg ⊢
  have k4 := bw_N (q := q3) r3 (by rw [e4]; exact hg)
  rw [e4] at k4
  have k3 := bw_Ta (q := q2) r2 (by rw [e3]; exact (k4.good r3))
  rw [e3] at k3
  have k2 := bw_La (q := q1) r1 (by rw [e2]; exact (k3.good r2))
  rw [e2] at k2
  have k1 := bw_L (q := q0) r0 (by rw [e1]; exact (k2.good r1))
  rw [e1] at k1
  have x1 : q4.2.n = q1.2.n := by rw [← e4, iN_2, p_N_n, ← e3, iTa_2, p_ta_n, ← e2, iLa_2, p_la_n]
  have x2 : q4.2.la = q2.2.la := by rw [← e4, iN_2, p_N_la, ← e3, iTa_2, p_ta_la]
  have x3 : q4.2.ta = q3.2.ta := by rw [← e4, iN_2, p_N_ta]
  have y0 : q4.2.l = q0.2.l := by rw [← e4, iN_2, p_N_l, ← e3, iTa_2, p_ta_l, ← e2, iLa_2, p_la_l, ← e1, iL_2, p_n_l]
  have k0 := bw_line (S := S) (m := m0) hr (by rw [e0]; exact (k1.good r0))
  rw [e0] at k0
  unfold pullL
  rw [y0, x1, x2, x3]
  exact k0.trans (k1.trans (k2.trans (k3.trans k4)))
theorem bw_parted {S : Sf} {m0 : Ms} (hr : S.m.isRd = true) (hg : Good (partedF S m0).1) : Goes S (partL (partedF S m0).2) (partedF S m0).1 := by
  obtain ⟨q0, e0⟩ : ∃ q : Sf × Ms, lineF S m0 = q := ⟨_, rfl⟩
  have r0 : q0.1.m.isRd = true := by rw [← e0]; exact (lineF_alike S m0).2.2.trans hr
  obtain ⟨q1, e1⟩ : ∃ q, partF q0.1 q0.2 = q := ⟨_, rfl⟩
  have r1 : q1.1.m.isRd = true := by rw [← e1]; exact (partF_alike _ _).2.2.trans r0
  have e : partedF S m0 = q1 := by
    unfold partedF
    rw [e0, e1]
  rw [e] at hg ⊢
  have k1 := bw_part (S := q0.1) (m := q0.2) r0 (by rw [e1]; exact hg)
  rw [e1] at k1
  have y0 : q1.2.l = q0.2.l := by rw [← e1, partF_l]
  have k0 := bw_line (S := S) (m := m0) hr (by rw [e0]; exact (k1.good r0))
  rw [e0] at k0
  unfold partL
  rw [y0]
  exact k0.trans k1
theorem askF_K (S : Sf) (m : Ms) : (askF S m).2.K = m.K := by simp only [askF, iPT_2, iP_2, iT_2, p_PT_K, p_P_K, p_T_K]
theorem voteF_K (S : Sf) (m : Ms) : (voteF S m).2.K = m.K := by simp only [voteF, iY_2, iT_2, p_Y_K, p_T_K]
theorem lineF_K (S : Sf) (m : Ms) : (lineF S m).2.K = m.K := by obtain ⟨l, h⟩ := lineF_2 S m; rw [h, p_l_K]
theorem appendsF_K (S : Sf) (m : Ms) : (appendsF S m).2.K = m.K := by
  unfold appendsF
  rw [iS_2, p_S_K, iC_2, p_C_K, entF_2, p_es_K, askF_K]
theorem appendedF_K (S : Sf) (m : Ms) : (appendedF S m).2.K = m.K := by
  unfold appendedF
  rw [iS_2, p_S_K, iM_2, p_M_K, voteF_K]
theorem pullF_K (S : Sf) (m : Ms) : (pullF S m).2.K = m.K := by
  unfold pullF
  rw [iN_2, p_N_K, iTa_2, p_ta_K, iLa_2, p_la_K, iL_2, p_n_K, lineF_K]
theorem partedF_K (S : Sf) (m : Ms) : (partedF S m).2.K = m.K := by
  unfold partedF
  rw [partF_K, lineF_K]
theorem bw_all {S : Sf} {m0 : Ms} (hr : S.m.isRd = true) (hg : Good (allF S m0).1) (h0 : m0.K = 3 ∨ m0.K = 4 → 0 ≤ (allF S m0).2.S) : Goes S (bodyB (allF S m0).2) (allF S m0).1 ∧ (allF S m0).2.K = m0.K := by
  obtain ⟨X, hX⟩ : ∃ X, allF S m0 = X := ⟨_, rfl⟩
  rw [hX] at hg h0 ⊢
  unfold allF at hX
  by_cases k1 : m0.K = 1
  · rw [if_pos k1] at hX
    have e : X.2.K = m0.K := by rw [← hX]; exact askF_K S m0
    refine ⟨?_, e⟩
    unfold bodyB
    rw [e, if_pos k1, ← hX]
    exact bw_ask hr (by rw [hX]; exact hg)
  rw [if_neg k1] at hX
  by_cases k2 : m0.K = 2
  · rw [if_pos k2] at hX
    have e : X.2.K = m0.K := by rw [← hX]; exact voteF_K S m0
    refine ⟨?_, e⟩
    unfold bodyB
    rw [e, if_neg k1, if_pos k2, ← hX]
    exact bw_vote hr (by rw [hX]; exact hg)
  rw [if_neg k2] at hX
  by_cases k3 : m0.K = 3
  · rw [if_pos k3] at hX
    have e : X.2.K = m0.K := by rw [← hX]; exact appendsF_K S m0
    refine ⟨?_, e⟩
    have h0' := h0 (.inl k3)
    unfold bodyB
    rw [e, if_neg k1, if_neg k2, if_pos k3, ← hX]
    exact bw_apps hr (by rw [hX]; exact hg) (by rw [hX]; exact h0')
  rw [if_neg k3] at hX
  by_cases k4 : m0.K = 4
  · rw [if_pos k4] at hX
    have e : X.2.K = m0.K := by rw [← hX]; exact appendedF_K S m0
    refine ⟨?_, e⟩
    have h0' := h0 (.inr k4)
    unfold bodyB
    rw [e, if_neg k1, if_neg k2, if_neg k3, if_pos k4, ← hX]
    exact bw_appd hr (by rw [hX]; exact hg) (by rw [hX]; exact h0')
  rw [if_neg k4] at hX
  by_cases k5 : m0.K = 5
  · rw [if_pos k5] at hX
    have e : X.2.K = m0.K := by rw [← hX]; exact pullF_K S m0
    refine ⟨?_, e⟩
    unfold bodyB
    rw [e, if_neg k1, if_neg k2, if_neg k3, if_neg k4, if_pos k5, ← hX]
    exact bw_pull hr (by rw [hX]; exact hg)
  rw [if_neg k5] at hX
  by_cases k6 : m0.K = 6
  · rw [if_pos k6] at hX
    have e : X.2.K = m0.K := by rw [← hX]; exact partedF_K S m0
    refine ⟨?_, e⟩
    unfold bodyB
    rw [e, if_neg k1, if_neg k2, if_neg k3, if_neg k4, if_neg k5, if_pos k6, ← hX]
    exact bw_parted hr (by rw [hX]; exact hg)
  rw [if_neg k6] at hX
  by_cases k7 : m0.K = 7
  · rw [if_pos k7] at hX
    have e : X.2.K = m0.K := by rw [← hX]; exact lineF_K S m0
    refine ⟨?_, e⟩
    unfold bodyB
    rw [e, if_neg k1, if_neg k2, if_neg k3, if_neg k4, if_neg k5, if_neg k6, ← hX]
    exact bw_line hr (by rw [hX]; exact hg)
  · rw [if_neg k7] at hX
    obtain ⟨r, t, e⟩ := hg
    rw [← hX] at e
    have := congrArg Sf.bad e
    cases this

/-! ### lists stay of their kinds -/
def wfLs (m : Ms) : Prop := (∀ e ∈ m.es, wfE e) ∧ ∀ g ∈ m.l.l, wfG g
theorem gLp_wf {S : Sf} {l : List Gd} (h : ∀ g ∈ l, wfG g) : ∀ k, ∀ g ∈ (gLp S l k).2, wfG g
  | 0 => h
  | k + 1 => by
    have ih := gLp_wf (S := S) h k
    unfold gLp
    intro g hg
    dsimp only at hg
    rcases List.mem_or_eq_of_mem_set hg with q | q
    · exact ih g q
    · rw [q]
      refine gdS_wf ?_
      by_cases hk : k < (gLp S l k).2.length
      · exact ih _ (mem_getD hk)
      · rw [List.getD_eq_getElem?_getD, List.getElem?_eq_none (by omega)]
        exact ⟨rfl, rfl⟩
theorem enS_wf {S : Sf} {e : En} (h : wfE e) : wfE (enS S e).2 := ⟨u64_num h.1, i64_int _ _, gdS_wf h.2.2⟩
theorem eLp_wf {S : Sf} {l : List En} (h : ∀ e ∈ l, wfE e) : ∀ k, ∀ e ∈ (eLp S l k).2, wfE e
  | 0 => h
  | k + 1 => by
    have ih := eLp_wf (S := S) h k
    unfold eLp
    intro g hg
    dsimp only at hg
    rcases List.mem_or_eq_of_mem_set hg with q | q
    · exact ih g q
    · rw [q]
      refine enS_wf ?_
      by_cases hk : k < (eLp S l k).2.length
      · exact ih _ (mem_getD hk)
      · rw [List.getD_eq_getElem?_getD, List.getElem?_eq_none (by omega)]
        exact ⟨rfl, rfl, rfl, rfl⟩
theorem szG_wf {S : Sf} {l : List Gd} (h : ∀ g ∈ l, wfG g) : ∀ g ∈ szG S l, wfG g := by
  unfold szG
  split
  · intro g hg
    rw [(List.mem_replicate.1 hg).2]
    exact ⟨rfl, rfl⟩
  · exact h
theorem szE_wf {S : Sf} {l : List En} (h : ∀ e ∈ l, wfE e) : ∀ e ∈ szE S l, wfE e := by
  unfold szE
  split
  · intro g hg
    rw [(List.mem_replicate.1 hg).2]
    exact ⟨rfl, rfl, rfl, rfl⟩
  · exact h
theorem lineF_ls {q : Sf × Ms} (h : wfLs q.2) : wfLs (lineF q.1 q.2).2 := by
  obtain ⟨S1, S2, S3, S4, k, -, -, -, -, h6, -, -, -, -⟩ := lineF_ex q.1 q.2
  refine ⟨by rw [lineF_es]; exact h.1, ?_⟩
  have := gLp_wf (S := S4) (szG_wf (S := S3) h.2) (szG S3 q.2.l.l).length
  rw [h6] at this
  exact this
theorem entF_ls {q : Sf × Ms} (h : wfLs q.2) : wfLs (entF q.1 q.2).2 := by
  obtain ⟨S4, k, -, h6, -⟩ := entF_ex q.1 q.2
  refine ⟨?_, by rw [entF_2, p_es_l]; exact h.2⟩
  have := eLp_wf (S := S4) (szE_wf (S := q.1) h.1) (szE q.1 q.2.es).length
  rw [h6] at this
  exact this
theorem partF_ls {q : Sf × Ms} (h : wfLs q.2) : wfLs (partF q.1 q.2).2 := by
  obtain ⟨⟨md, b⟩, m⟩ := q
  cases md <;> exact h
theorem iT_ls {q : Sf × Ms} (h : wfLs q.2) : wfLs (iT q).2 := by
  unfold wfLs at h ⊢
  rw [show (iT q).2.es = q.2.es from p_T_es _ _, show (iT q).2.l = q.2.l from p_T_l _ _]
  exact h
theorem iP_ls {q : Sf × Ms} (h : wfLs q.2) : wfLs (iP q).2 := by
  unfold wfLs at h ⊢
  rw [show (iP q).2.es = q.2.es from p_P_es _ _, show (iP q).2.l = q.2.l from p_P_l _ _]
  exact h
theorem iPT_ls {q : Sf × Ms} (h : wfLs q.2) : wfLs (iPT q).2 := by
  unfold wfLs at h ⊢
  rw [show (iPT q).2.es = q.2.es from p_PT_es _ _, show (iPT q).2.l = q.2.l from p_PT_l _ _]
  exact h
theorem iY_ls {q : Sf × Ms} (h : wfLs q.2) : wfLs (iY q).2 := by
  unfold wfLs at h ⊢
  rw [show (iY q).2.es = q.2.es from p_Y_es _ _, show (iY q).2.l = q.2.l from p_Y_l _ _]
  exact h
theorem iC_ls {q : Sf × Ms} (h : wfLs q.2) : wfLs (iC q).2 := by
  unfold wfLs at h ⊢
  rw [show (iC q).2.es = q.2.es from p_C_es _ _, show (iC q).2.l = q.2.l from p_C_l _ _]
  exact h
theorem iM_ls {q : Sf × Ms} (h : wfLs q.2) : wfLs (iM q).2 := by
  unfold wfLs at h ⊢
  rw [show (iM q).2.es = q.2.es from p_M_es _ _, show (iM q).2.l = q.2.l from p_M_l _ _]
  exact h
theorem iL_ls {q : Sf × Ms} (h : wfLs q.2) : wfLs (iL q).2 := by
  unfold wfLs at h ⊢
  rw [show (iL q).2.es = q.2.es from p_n_es _ _, show (iL q).2.l = q.2.l from p_n_l _ _]
  exact h
theorem iN_ls {q : Sf × Ms} (h : wfLs q.2) : wfLs (iN q).2 := by
  unfold wfLs at h ⊢
  rw [show (iN q).2.es = q.2.es from p_N_es _ _, show (iN q).2.l = q.2.l from p_N_l _ _]
  exact h
theorem iS_ls {q : Sf × Ms} (h : wfLs q.2) : wfLs (iS q).2 := by
  unfold wfLs at h ⊢
  rw [show (iS q).2.es = q.2.es from p_S_es _ _, show (iS q).2.l = q.2.l from p_S_l _ _]
  exact h
theorem iLa_ls {q : Sf × Ms} (h : wfLs q.2) : wfLs (iLa q).2 := by
  unfold wfLs at h ⊢
  rw [show (iLa q).2.es = q.2.es from p_la_es _ _, show (iLa q).2.l = q.2.l from p_la_l _ _]
  exact h
theorem iTa_ls {q : Sf × Ms} (h : wfLs q.2) : wfLs (iTa q).2 := by
  unfold wfLs at h ⊢
  rw [show (iTa q).2.es = q.2.es from p_ta_es _ _, show (iTa q).2.l = q.2.l from p_ta_l _ _]
  exact h
theorem iK_ls {q : Sf × Ms} (h : wfLs q.2) : wfLs (iK q).2 := by
  unfold wfLs at h ⊢
  rw [show (iK q).2.es = q.2.es from p_K_es _ _, show (iK q).2.l = q.2.l from p_K_l _ _]
  exact h
theorem askF_ls {q : Sf × Ms} (h : wfLs q.2) : wfLs (askF q.1 q.2).2 := iPT_ls (iP_ls (iT_ls (q := (q.1, q.2)) h))
theorem voteF_ls {q : Sf × Ms} (h : wfLs q.2) : wfLs (voteF q.1 q.2).2 := iY_ls (iT_ls (q := (q.1, q.2)) h)
theorem allF_ls {q : Sf × Ms} (h : wfLs q.2) : wfLs (allF q.1 q.2).2 := by
  unfold allF
  split; · exact askF_ls h
  split; · exact voteF_ls h
  split; · exact iS_ls (iC_ls (entF_ls (askF_ls h)))
  split; · exact iS_ls (iM_ls (voteF_ls h))
  split; · exact iN_ls (iTa_ls (iLa_ls (iL_ls (lineF_ls h))))
  split; · exact partF_ls (lineF_ls h)
  split; · exact lineF_ls h
  exact h
theorem readM_ls (l : List UInt8) : wfLs (readM l) := by
  have h : wfLs (iK (⟨.rd 0 (some l), false⟩, zeroM)).2 := iK_ls (q := (⟨.rd 0 (some l), false⟩, zeroM)) ⟨(fun e he => by cases he), fun e he => by cases he⟩
  obtain ⟨X, hX⟩ : ∃ X, iK (⟨.rd 0 (some l), false⟩, zeroM) = X := ⟨_, rfl⟩
  rw [hX] at h
  rw [readM_of (rdF_of hX)]
  exact allF_ls h
theorem readM_ok {l : List UInt8} (h : mayM (readM l) = true) : MsOk (readM l) := ⟨h, readM_wf l, (readM_ls l).1, (readM_ls l).2⟩
/-- bytes that are taken are those that would be laid -/
theorem read_back {l : List UInt8} (hok : readOk l = true) (hm : mayM (readM l) = true) : bytesM (readM l) = l := by
  obtain ⟨q0, e0⟩ : ∃ q : Sf × Ms, ((⟨.rd 0 (some l), false⟩ : Sf), zeroM) = q := ⟨_, rfl⟩
  obtain ⟨q1, e1⟩ : ∃ q, iK q0 = q := ⟨_, rfl⟩
  have h1 : rdF 0 l = allF q1.1 q1.2 := rdF_of (by rw [e0, e1])
  obtain ⟨X, hX⟩ : ∃ X, allF q1.1 q1.2 = X := ⟨_, rfl⟩
  rw [hX] at h1
  rw [readOk_of h1] at hok
  rw [readM_of h1] at hm ⊢
  rw [Bool.and_eq_true, Bool.not_eq_true'] at hok
  obtain ⟨hb, hend⟩ := hok
  have r0 : q0.1.m.isRd = true := by rw [← e0]; rfl
  have r1 : q1.1.m.isRd = true := by rw [← e1]; exact (iK_alike q0).2.2.trans r0
  have rX : X.1.m.isRd = true := by rw [← hX]; exact (allF_alike _ _).2.2.trans r1
  have hX1 : ∃ r, X.1 = Rm r [] := by
    obtain ⟨⟨md, b⟩, m⟩ := X
    dsimp only at hb hend rX ⊢
    subst hb
    cases md with
    | lay s => cases rX
    | rd r st =>
      have : st = some [] := by
        unfold endB at hend
        exact of_decide_eq_true hend
      subst this
      exact ⟨r, rfl⟩
  obtain ⟨r, hXr⟩ := hX1
  have hg : Good X.1 := ⟨r, [], hXr⟩
  have hS : q1.2.K = 3 ∨ q1.2.K = 4 → 0 ≤ X.2.S := by
    intro hk
    have hKX : X.2.K = q1.2.K := by
      rw [← hX]
      unfold allF
      split; · exact askF_K _ _
      split; · exact voteF_K _ _
      split; · exact appendsF_K _ _
      split; · exact appendedF_K _ _
      split; · exact pullF_K _ _
      split; · exact partedF_K _ _
      split; · exact lineF_K _ _
      rfl
    exact (mayM_a hm (by omega)).S
  have k2 := bw_all (S := q1.1) (m0 := q1.2) r1 (by rw [hX]; exact hg) (by rw [hX]; exact hS)
  rw [hX] at k2
  have k1 := bw_K (q := q0) r0 (by rw [e1]; exact k2.1.good r1)
  rw [e1] at k1
  have k3 := k1.trans k2.1
  rw [← k2.2, ← e0] at k3
  rcases k3 with ⟨s, e, -⟩ | ⟨r', t, e, e'⟩
  · simp [Lm] at e
  · rw [hXr] at e'
    simp only [Rm, Sf.mk.injEq, Md.rd.injEq, Option.some.injEq, and_true] at e e'
    obtain ⟨-, rfl⟩ := e'
    rw [List.append_nil] at e
    exact e.2.symm
/-! ### bytes with their sum -/
theorem textL_sealed (l : List UInt8) : textL (strOf (Crc.sealed l)) = l := by
  unfold textL
  rw [strOf_list, size_strOf, Crc.length_sealed, Nat.add_sub_cancel]
  unfold Crc.sealed
  rw [List.take_left']
  rfl
theorem decOk_sealed (l : List UInt8) : decOkM (strOf (Crc.sealed l)) = (readOk l && checkB (readM l)) := by
  unfold decOkM
  rw [textL_sealed, strOf_list, Crc.opens_sealed, Bool.true_and]
theorem enc_dec {m : Ms} (hm : MsOk m) (h : checkB m = true) : decOkM (encM m) = true ∧ decM (encM m) = m ∧ encM m = strOf (Crc.sealed (bytesM m)) := by
  obtain ⟨h1, -⟩ := lay_ok hm
  have he : encM m = strOf (Crc.sealed (bytesM m)) := by
    unfold encM
    rw [if_pos h, h1, strOf_list]
  obtain ⟨h3, h4⟩ := read_ok hm []
  rw [List.append_nil] at h3 h4
  have h5 := (checkB_ok hm).1 h
  rw [h5] at h3
  have hd : decOkM (encM m) = true := by rw [he, decOk_sealed, h3, h4, h]; rfl
  refine ⟨hd, ?_, he⟩
  unfold decM
  rw [if_pos hd, he, textL_sealed, h3]
theorem dec_enc2 {s : ByteArray} (h : decOkM s = true) : MsOk (decM s) ∧ checkB (decM s) = true ∧ encM (decM s) = s := by
  have hd : decM s = readM (textL s) := by unfold decM; rw [if_pos h]
  unfold decOkM at h
  rw [Bool.and_eq_true, Bool.and_eq_true] at h
  obtain ⟨h1, h2, h3⟩ := h
  rw [hd]
  have hok := readM_ok (checkB_may h3)
  refine ⟨hok, h3, ?_⟩
  rw [(enc_dec hok h3).2.2, read_back h2 (checkB_may h3)]
  unfold Crc.opens at h1
  rw [Bool.and_eq_true, decide_eq_true_iff, decide_eq_true_iff] at h1
  have hs : s.data.toList.length = s.size := Array.length_toList
  rw [hs] at h1
  unfold textL
  rw [h1.2, strOf_data]
/-- no beginning of a message's bytes is one's -/
theorem pre_bad {m : Ms} (hm : MsOk m) {i : Nat} (hi : i < (bytesM m).length) : (readOk ((bytesM m).take i) && checkB (readM ((bytesM m).take i))) = false := by
  cases hb : (readOk ((bytesM m).take i) && checkB (readM ((bytesM m).take i))) with
  | false => rfl
  | true =>
    exfalso
    rw [Bool.and_eq_true] at hb
    have hok := readM_ok (checkB_may hb.2)
    have h1 := read_back hb.1 (checkB_may hb.2)
    obtain ⟨-, h2⟩ := read_ok hok ((bytesM m).drop i)
    rw [h1, List.take_append_drop] at h2
    obtain ⟨-, h3⟩ := read_ok hm []
    rw [List.append_nil] at h3
    rw [h3] at h2
    have h4 : (bytesM m).drop i = [] := of_decide_eq_true h2.symm
    have := congrArg List.length h4
    rw [List.length_drop] at this
    simp at this
    omega
theorem more_bad {m : Ms} (hm : MsOk m) (b : UInt8) : readOk (bytesM m ++ [b]) = false := by
  rw [(read_ok hm [b]).2]
  rfl
/-- what is cut off behind is not opened, or is no message -/
theorem cut_sum {m : Ms} (hm : MsOk m) (hp : 0 < (bytesM m).length) : decOkM (strOf ((Crc.sealed (bytesM m)).take ((bytesM m).length + 3))) = false := by
  unfold decOkM
  have e : textL (strOf ((Crc.sealed (bytesM m)).take ((bytesM m).length + 3))) = (bytesM m).take ((bytesM m).length - 1) := by
    unfold textL
    rw [strOf_list, size_strOf, List.length_take, Crc.length_sealed, Nat.min_eq_left (by omega), List.take_take, Nat.min_eq_left (by omega)]
    unfold Crc.sealed
    rw [List.take_append_of_le_length (by omega)]
    congr 1
  rw [e, pre_bad hm (by omega), Bool.and_false]
theorem bytes_pos (m : Ms) : 0 < (bytesM m).length := by
  unfold bytesM nB Wire.putNum
  simp
end Go.Proofs.Ytikimmhkfjaijaa
namespace Go.Proofs.Ytikimmhkfjaijaa
open Go.RowKit Reg Go.ChangeShapes

def msV (m : Ms) : Array Value := msA m (.slice none 0 0) (.slice none 0 0) (.slice none 0 0)
theorem lit_in {m : Ms} (w : World) (he : m.es = []) (hl : m.l.l = []) (hc : m.p.cs = []) (hw : wfM m) : InMs w (.agg (msV m)) m :=
  ⟨.slice none 0 0, .slice none 0 0, .slice none 0 0, rfl, by rw [he]; exact ⟨none, 0, rfl, .inl rfl, Nat.zero_le _, (fun e he => by cases he), fun j hj => by cases hj⟩, by rw [hl]; exact InG.nil_ _, by rw [hc]; exact InC.nil_ _ _ _, hw⟩
/-- a yes of the term 1 -/
def voteM : Ms := ⟨2, 1, 0, 0, [], 0, true, 0, 0, ⟨0, 0, false, []⟩, 0, (0, 0), (0, 0), 0, zeroP⟩
def vote0 : Ms := ⟨2, 0, 0, 0, [], 0, false, 0, 0, ⟨0, 0, false, []⟩, 0, (0, 0), (0, 0), 0, zeroP⟩
theorem voteM_wf : wfM voteM := ⟨rfl, rfl, rfl, rfl, rfl, rfl, rfl, rfl, rfl, rfl, ⟨rfl, rfl⟩, ⟨rfl, rfl⟩, rfl, zero_wf⟩
theorem vote0_wf : wfM vote0 := ⟨rfl, rfl, rfl, rfl, rfl, rfl, rfl, rfl, rfl, rfl, ⟨rfl, rfl⟩, ⟨rfl, rfl⟩, rfl, zero_wf⟩
theorem voteM_may : mayM voteM = true := by decide +kernel
theorem vote0_may : mayM vote0 = false := by decide +kernel
theorem voteM_ok : MsOk voteM := ⟨voteM_may, voteM_wf, (fun e he => by cases he), fun e he => by cases he⟩
theorem voteM_check : checkB voteM = true := (checkB_ok voteM_ok).2 (by rfl)
theorem voteM_bytes : bytesM voteM = [1, 2, 1, 1, 1, 1] := by decide +kernel
theorem vote_enc : encM voteM = strOf (Crc.sealed [1, 2, 1, 1, 1, 1]) ∧ decM (encM voteM) = voteM ∧ decZ (encM voteM) = 0 ∧ checkM voteM = 0 := by
  obtain ⟨h1, h2, h3⟩ := enc_dec voteM_ok voteM_check
  refine ⟨by rw [h3, voteM_bytes], h2, ?_, ?_⟩
  · unfold decZ; rw [if_pos h1]
  · unfold checkM; rw [if_pos voteM_check]
theorem vote0_check : checkM vote0 = 2 := by
  unfold checkM checkB
  rw [vote0_may, Bool.false_and, if_neg (by decide)]
theorem zero_bytes : readOk [0] = false := by decide +kernel
theorem zero_dec : decZ (strOf (Crc.sealed [0])) = 4 := by
  unfold decZ
  rw [decOk_sealed, zero_bytes, Bool.false_and, if_neg (by decide)]
theorem same_vote : sameM voteM voteM = true := sameM_iff.2 rfl
theorem same_zero : sameM voteM zeroM = false := by
  cases h : sameM voteM zeroM with
  | false => rfl
  | true =>
    have := congrArg Ms.K (sameM_iff.1 h)
    cases this
theorem msV_one (m : Ms) : ((msV m).all fun x => x.oneCell') = true := msA_one _ _ _ _ _ _ _ _ _ _
theorem msV_size (m : Ms) : (Try.prog.info? 33).map (·.size) = some (msV m).size := msg_size m (.slice none 0 0) (.slice none 0 0) (.slice none 0 0)
def voteA : Array Value := #[.int .i64 2, .int .u64 1, .int .i64 0, .int .u64 0, .slice none 0 0, .int .i64 0, .bool true, .int .i64 0, .int .i64 0, .int .u64 0, .int .i64 0, .bool false, .slice none 0 0, .int .i64 0, .int .u64 0, .int .u64 0, .int .u64 0, .int .u64 0, .int .i64 0, .int .u64 0, .int .u64 0, .int .u64 0, .int .u64 0, .int .i64 0, .int .i64 0, .slice none 0 0]
theorem voteA_eq : voteA = msV voteM := rfl
theorem voteA_size : (Try.prog.info? 33).map (·.size) = some voteA.size := by rw [voteA_eq]; exact msV_size voteM
theorem results_cell1 {P : Program} {fn : Func} {tmps : Array Value} {w : World} {k : Nat} {ty : TypeId} {g : Nat} {t : TypeId} {cs : Array Value} {d : TypeDesc} (hr : fn.results = #[.cell k ty]) (ht : tmps.getD k undef = .pointer (some ⟨g, 0, none⟩)) (hb : Blk w g t cs)
    (hu : P.underlying ty = some d) (hd : (match d with | .struct _ | .array _ _ => true | _ => false) = true) (hi : (P.info? ty).map (·.size) = some cs.size) : (results fn tmps).run P w = .ok (.agg cs) w := by
  have := run_loadVar_row (P := P) w g t ty cs (0, 0) d hb hu hd hi
  have ht2 : tmps[k]?.getD undef = .pointer (some ⟨g, 0, none⟩) := by simpa using ht
  simp [results, hr, ht2, asAddr, this]
theorem mvote_any (w : World) : Calls Try.prog 14 #[] w fun e w' => e = .returned (.agg (msV voteM)) ∧ Below w.heap.size w w' := by
  rw [← voteA_eq]
  have HZ := Lib.hid (Blk.new w 33 zeroA)
  have HB := Lib.hid ((Below.refl w.heap.size w).alloc (Nat.le_refl _) (Obj.cells zeroA 33))
  have HFIN : Hid (∀ w2, w2 = (w.alloc (.cells zeroA 33)).setRow w.heap.size voteA → Blk w2 w.heap.size 33 voteA ∧ Below w.heap.size w w2) := Lib.hid fun w2 h => by
    rw [h]
    exact ⟨HZ.out.row _, Below.setRow HB.out (Nat.le_refl _) _⟩
  have HS := Lib.hid voteA_size
  have HO := Lib.hid (show (voteA.all fun x => x.oneCell') = true by rw [voteA_eq]; exact msV_one voteM)
  go_enter Try.func14, Try.ntmps14
  go_wp2_with (first | refine wpList_store_then rfl 33 _ _ rfl w.heap.size voteA rfl rfl 33 _ HZ.out HS.out rfl HO.out ?_)
  refine Later.mk fun w4 hw4 => ?_
  have HF := Lib.hid (HFIN.out w4 hw4)
  clear hw4
  go_wp2
  refine bodyPost_ret (results_cell1 (ty := 33) (g := w.heap.size) (k := 0) rfl rfl HF.out.1 Try.underlying33 rfl HS.out) rfl ?_
  exact ⟨rfl, HF.out.2⟩
set_option maxRecDepth 100000 in
set_option maxHeartbeats 4000000 in
theorem works_any (w : World) : Calls Try.prog 7 #[] w fun e w' => e = .returned (.bool true) ∧ Below w.heap.size w w' := by
  obtain ⟨v1, v2, v3, v4⟩ := vote_enc
  obtain ⟨E, hE⟩ : ∃ E, E = strOf (Crc.sealed [1, 2, 1, 1, 1, 1]) := ⟨_, rfl⟩
  obtain ⟨Z, hZ⟩ : ∃ E, E = strOf (Crc.sealed [0]) := ⟨_, rfl⟩
  have hsz : E.size ≤ 1152921504606846976 ∧ Z.size ≤ 1152921504606846976 := by
    rw [hE, hZ, size_strOf, size_strOf, Crc.length_sealed, Crc.length_sealed]
    exact ⟨by decide, by decide⟩
  rw [v1] at v2 v3
  rw [← hE] at v1 v2 v3
  have z3 := zero_dec
  rw [← hZ] at z3
  have HENC := Lib.hid (fun w2 => mencode_any w2 (.agg (msV voteM)) voteM (lit_in w2 rfl rfl rfl voteM_wf))
  rw [v1, v4] at HENC
  have HDEC := Lib.hid (fun w2 => mdecode_any w2 E hsz.1)
  rw [v2, v3] at HDEC
  have HDZ := Lib.hid (fun w2 => mdecode_any w2 Z hsz.2)
  rw [z3] at HDZ
  unfold DecM at HDEC HDZ
  have HSZ := Lib.hid (fun w2 => seal_any (strOf [0]) w2 (by unfold maxLen; rw [size_strOf]; decide))
  rw [strOf_list, ← hZ] at HSZ
  have HSE := Lib.hid (fun w2 => seal_any (strOf [1, 2, 1, 1, 1, 1]) w2 (by unfold maxLen; rw [size_strOf]; decide))
  rw [strOf_list, ← hE] at HSE
  have HCK := Lib.hid (fun w2 => mcheck_any w2 (.agg (msV vote0)) vote0 (lit_in w2 rfl rfl rfl vote0_wf))
  rw [vote0_check] at HCK
  have HS1 := Lib.hid (fun w2 u (h : InMs w2 u voteM) => msame_any w2 u (.agg (msV voteM)) voteM voteM h (lit_in w2 rfl rfl rfl voteM_wf))
  rw [same_vote] at HS1
  have HS2 := Lib.hid (fun w2 u (h : InMs w2 u voteM) => msame_any w2 u (.agg (msV zeroM)) voteM zeroM h (lit_in w2 rfl rfl rfl zeroM_wf))
  rw [same_zero] at HS2
  have HV := Lib.hid mvote_any
  have hEE : (E.toList == E.toList) = true := by simp
  clear hE hZ hsz v1 v2 v3 v4 z3
  go_enter Try.func7, Try.ntmps7
  go_wp2_with fail
  refine (HV.out _).mono ?_
  rintro e w1 ⟨rfl, hb⟩
  have HB1 := Lib.hid hb
  clear hb
  go_wp2_with fail
  refine (HENC.out _).mono ?_
  rintro e w2 ⟨rfl, hb⟩
  have HB2 := Lib.hid (HB1.out.trans (hb.mono HB1.out.size))
  clear hb HENC
  go_wp2_with fail
  refine (HDEC.out _).mono ?_
  rintro e w3 ⟨u, rfl, hu, hb⟩
  obtain ⟨ua, b1, b2, b3, d1, d2, d3, rfl, uone, usz, uma, -, -, -, -⟩ := ms_cells hu
  have HB3 := Lib.hid (HB2.out.trans (hb.mono HB2.out.size))
  have HU := Lib.hid hu
  have UONE := Lib.hid uone
  have USZ := Lib.hid usz
  have USZ2 : Hid (zeroA.size = ua.size) := Lib.hid (by rw [uma]; rfl)
  clear hb hu uone usz uma HDEC
  have HZ := Lib.hid (Blk.new w3 33 zeroA)
  go_wp2_with (first | refine wpList_store_then rfl 33 _ _ rfl w3.heap.size ua rfl rfl 33 _ HZ.out USZ.out USZ2.out UONE.out ?_)
  refine Later.mk fun w4 hw4 => ?_
  have hal : Below w3.heap.size w3 w4 := by
    rw [hw4]
    exact Below.setRow ((Below.refl w3.heap.size w3).alloc (Nat.le_refl _) (Obj.cells zeroA 33)) (Nat.le_refl _) _
  have HUA : Hid (Blk w4 w3.heap.size 33 ua) := Lib.hid (by rw [hw4]; exact HZ.out.row _)
  have HU4 := Lib.hid (HU.out.keep hal)
  have HB4 := Lib.hid (HB3.out.trans (hal.mono HB3.out.size))
  clear hal hw4 HZ HU
  go_wp2_with fail
  refine (HSZ.out _).mono ?_
  rintro e w5 ⟨rfl, hb⟩
  have HB5 := Lib.hid (HB4.out.trans (hb.mono HB4.out.size))
  have HUA5 := Lib.hid (HUA.out.keep hb)
  have HU5 := Lib.hid (HU4.out.keep hb)
  clear hb
  go_wp2_with fail
  refine (HDZ.out _).mono ?_
  rintro e w6 ⟨y, rfl, hy, hb⟩
  obtain ⟨ya, b1, b2, b3, d1, d2, d3, rfl, yone, ysz, yma, -, -, -, -⟩ := ms_cells hy
  have HB6 := Lib.hid (HB5.out.trans (hb.mono HB5.out.size))
  have HUA6 := Lib.hid (HUA5.out.keep hb)
  have HU6 := Lib.hid (HU5.out.keep hb)
  have YONE := Lib.hid yone
  have YSZ := Lib.hid ysz
  have YSZ2 : Hid (zeroA.size = ya.size) := Lib.hid (by rw [yma]; rfl)
  clear hb hy yone ysz yma HDZ HUA HU4 HUA5 HU5
  have HZ := Lib.hid (Blk.new w6 33 zeroA)
  go_wp2_with (first | refine wpList_store_then rfl 33 _ _ rfl w6.heap.size ya rfl rfl 33 _ HZ.out YSZ.out YSZ2.out YONE.out ?_)
  refine Later.mk fun w7 hw7 => ?_
  have hal : Below w6.heap.size w6 w7 := by
    rw [hw7]
    exact Below.setRow ((Below.refl w6.heap.size w6).alloc (Nat.le_refl _) (Obj.cells zeroA 33)) (Nat.le_refl _) _
  have HUA7 := Lib.hid (HUA6.out.keep hal)
  have HU7 := Lib.hid (HU6.out.keep hal)
  have HB7 := Lib.hid (HB6.out.trans (hal.mono HB6.out.size))
  clear hal hw7 HZ HUA6 HU6
  go_wp2_with fail
  refine wp_region_chain [4, 13, 14, 19, 28] (kv [(4, .is (.string E)), (13, .is (.agg (msV voteM))), (14, .is (.bool true)), (19, .is (.bool false)), (28, .is (.int .i64 2))]) (fun _ w => Below (w7).heap.size (w7) w) (by kernel_rfl) (by kernel_rfl) (by kernel_rfl) (kv_inh _) (Below.drew (Below.refl _ _)) ?_
  intro ν hν
  have n4 : ν 4 = .string E := hν 4
  have n13 : ν 13 = .agg (msV voteM) := hν 13
  have n14 : ν 14 = .bool true := hν 14
  have n19 : ν 19 = .bool false := hν 19
  have n28 : ν 28 = .int .i64 2 := hν 28
  clear hν
  refine ch_plain 0 5 1 (by rfl) rfl (by kernel_rfl) (by kernel_rfl) ?_
  apply Exists.intro
  refine ⟨fun st w2 hlo hhi hJ => ?_, ?_⟩
  · clear hlo hhi hJ
    go_simp
    exact And.intro rfl rfl
  simp only [Act.put, List.setIfInBounds_toArray, List.set_cons_succ, List.set_cons_zero, Nat.reduceAdd]
  refine ch_plain 0 5 1 (by rfl) rfl (by kernel_rfl) (by kernel_rfl) ?_
  apply Exists.intro
  refine ⟨fun st w2 hlo hhi hJ => ?_, ?_⟩
  · clear hlo hhi hJ
    go_simp
    exact And.intro rfl rfl
  simp only [Act.put, List.setIfInBounds_toArray, List.set_cons_succ, List.set_cons_zero, Nat.reduceAdd]
  refine ch_plain 0 5 1 (by rfl) rfl (by kernel_rfl) (by kernel_rfl) ?_
  apply Exists.intro
  refine ⟨fun st w2 hlo hhi hJ => ?_, ?_⟩
  · clear hlo hhi hJ
    go_simp
    exact And.intro rfl rfl
  simp only [Act.put, List.setIfInBounds_toArray, List.set_cons_succ, List.set_cons_zero, Nat.reduceAdd]
  refine ch_plain 0 5 1 (by rfl) rfl (by kernel_rfl) (by kernel_rfl) ?_
  apply Exists.intro
  refine ⟨fun st w2 hlo hhi hJ => ?_, ?_⟩
  · clear hlo hhi hJ
    go_simp
    exact And.intro rfl rfl
  simp only [Act.put, List.setIfInBounds_toArray, List.set_cons_succ, List.set_cons_zero, Nat.reduceAdd]
  refine ch_special 0 6 (by rfl) rfl (by decide) (by kernel_rfl) (fun w2 hJ => ?_) ?_
  · replace hJ : Below (w7).heap.size (w7) w2 := hJ
    go_simp
    refine (HSE.out w2).mono ?_
    rintro e w3 ⟨rfl, hb⟩
    exact ⟨_, rfl, rfl, hJ.trans (hb.mono hJ.size)⟩
  rw [n4]
  simp only [Act.put, List.setIfInBounds_toArray, List.set_cons_succ, List.set_cons_zero, Nat.reduceAdd]
  refine ch_plain 0 5 1 (by rfl) rfl (by kernel_rfl) (by kernel_rfl) ?_
  apply Exists.intro
  refine ⟨fun st w2 hlo hhi hJ => ?_, ?_⟩
  · clear hlo hhi hJ
    go_simp
    exact And.intro rfl rfl
  simp only [Act.put, List.setIfInBounds_toArray, List.set_cons_succ, List.set_cons_zero, Nat.reduceAdd]
  refine ch_plain 0 5 1 (by rfl) rfl (by kernel_rfl) (by kernel_rfl) ?_
  apply Exists.intro
  refine ⟨fun st w2 hlo hhi hJ => ?_, ?_⟩
  · clear hlo hhi hJ
    go_simp
    exact And.intro rfl rfl
  simp only [Act.put, List.setIfInBounds_toArray, List.set_cons_succ, List.set_cons_zero, Nat.reduceAdd]
  refine ch_plain 0 5 1 (by rfl) rfl (by kernel_rfl) (by kernel_rfl) ?_
  apply Exists.intro
  refine ⟨fun st w2 hlo hhi hJ => ?_, ?_⟩
  · clear hlo hhi hJ
    go_simp
    exact And.intro rfl rfl
  simp only [Act.put, List.setIfInBounds_toArray, List.set_cons_succ, List.set_cons_zero, Nat.reduceAdd]
  refine ch_plain 0 5 1 (by rfl) rfl (by kernel_rfl) (by kernel_rfl) ?_
  apply Exists.intro
  refine ⟨fun st w2 hlo hhi hJ => ?_, ?_⟩
  · clear hlo hhi hJ
    go_simp
    exact And.intro rfl rfl
  simp only [Act.put, List.setIfInBounds_toArray, List.set_cons_succ, List.set_cons_zero, Nat.reduceAdd]
  refine ch_plain 0 5 1 (by rfl) rfl (by kernel_rfl) (by kernel_rfl) ?_
  apply Exists.intro
  refine ⟨fun st w2 hlo hhi hJ => ?_, ?_⟩
  · clear hlo hhi hJ
    go_simp
    exact And.intro rfl rfl
  simp only [Act.put, List.setIfInBounds_toArray, List.set_cons_succ, List.set_cons_zero, Nat.reduceAdd]
  refine ch_plain 0 5 1 (by rfl) rfl (by kernel_rfl) (by kernel_rfl) ?_
  apply Exists.intro
  refine ⟨fun st w2 hlo hhi hJ => ?_, ?_⟩
  · clear hlo hhi hJ
    go_simp
    exact And.intro rfl rfl
  simp only [Act.put, List.setIfInBounds_toArray, List.set_cons_succ, List.set_cons_zero, Nat.reduceAdd]
  refine ch_plain 0 5 1 (by rfl) rfl (by kernel_rfl) (by kernel_rfl) ?_
  apply Exists.intro
  refine ⟨fun st w2 hlo hhi hJ => ?_, ?_⟩
  · clear hlo hhi hJ
    go_simp
    exact And.intro rfl rfl
  simp only [Act.put, List.setIfInBounds_toArray, List.set_cons_succ, List.set_cons_zero, Nat.reduceAdd]
  refine ch_plain 0 5 1 (by rfl) rfl (by kernel_rfl) (by kernel_rfl) ?_
  apply Exists.intro
  refine ⟨fun st w2 hlo hhi hJ => ?_, ?_⟩
  · have hJ' : Below w7.heap.size w7 w2 := hJ
    have hy := HUA7.out.keep hJ'
    clear hlo hhi hJ hJ'
    rw [exec_load_blk 33 _ rfl w3.heap.size rfl _ hy Try.underlying33 rfl USZ.out]
    exact And.intro rfl rfl
  simp only [Act.put, List.setIfInBounds_toArray, List.set_cons_succ, List.set_cons_zero, Nat.reduceAdd]
  refine ch_special 1 6 (by rfl) rfl (by decide) (by kernel_rfl) (fun w2 hJ => ?_) ?_
  · replace hJ : Below (w7).heap.size (w7) w2 := hJ
    go_simp
    refine (HV.out w2).mono ?_
    rintro e w3 ⟨rfl, hb⟩
    exact ⟨_, rfl, rfl, hJ.trans (hb.mono hJ.size)⟩
  rw [n13]
  simp only [Act.put, List.setIfInBounds_toArray, List.set_cons_succ, List.set_cons_zero, Nat.reduceAdd]
  refine ch_special 2 6 (by rfl) rfl (by decide) (by kernel_rfl) (fun w2 hJ => ?_) ?_
  · replace hJ : Below (w7).heap.size (w7) w2 := hJ
    go_simp
    refine (HS1.out w2 _ (HU7.out.keep hJ)).mono ?_
    rintro e w3 ⟨rfl, hb⟩
    exact ⟨_, rfl, rfl, hJ.trans (hb.mono hJ.size)⟩
  rw [n14]
  simp only [Act.put, List.setIfInBounds_toArray, List.set_cons_succ, List.set_cons_zero, Nat.reduceAdd]
  refine ch_plain 0 5 1 (by rfl) rfl (by kernel_rfl) (by kernel_rfl) ?_
  apply Exists.intro
  refine ⟨fun st w2 hlo hhi hJ => ?_, ?_⟩
  · clear hlo hhi hJ
    go_simp
    exact And.intro rfl rfl
  simp only [Act.put, List.setIfInBounds_toArray, List.set_cons_succ, List.set_cons_zero, Nat.reduceAdd]
  refine ch_plain 0 5 1 (by rfl) rfl (by kernel_rfl) (by kernel_rfl) ?_
  apply Exists.intro
  refine ⟨fun st w2 hlo hhi hJ => ?_, ?_⟩
  · clear hlo hhi hJ
    go_simp
    exact And.intro rfl rfl
  simp only [Act.put, List.setIfInBounds_toArray, List.set_cons_succ, List.set_cons_zero, Nat.reduceAdd]
  refine ch_plain 0 5 1 (by rfl) rfl (by kernel_rfl) (by kernel_rfl) ?_
  apply Exists.intro
  refine ⟨fun st w2 hlo hhi hJ => ?_, ?_⟩
  · have hJ' : Below w7.heap.size w7 w2 := hJ
    have hy := HUA7.out.keep hJ'
    clear hlo hhi hJ hJ'
    rw [exec_load_blk 33 _ rfl w3.heap.size rfl _ hy Try.underlying33 rfl USZ.out]
    exact And.intro rfl rfl
  simp only [Act.put, List.setIfInBounds_toArray, List.set_cons_succ, List.set_cons_zero, Nat.reduceAdd]
  refine ch_plain 0 5 1 (by rfl) rfl (by kernel_rfl) (by kernel_rfl) ?_
  apply Exists.intro
  refine ⟨fun st w2 hlo hhi hJ => ?_, ?_⟩
  · clear hlo hhi hJ
    go_simp
    exact And.intro rfl rfl
  simp only [Act.put, List.setIfInBounds_toArray, List.set_cons_succ, List.set_cons_zero, Nat.reduceAdd]
  refine ch_special 3 6 (by rfl) rfl (by decide) (by kernel_rfl) (fun w2 hJ => ?_) ?_
  · replace hJ : Below (w7).heap.size (w7) w2 := hJ
    go_simp
    refine (HS2.out w2 _ (HU7.out.keep hJ)).mono ?_
    rintro e w3 ⟨rfl, hb⟩
    exact ⟨_, rfl, rfl, hJ.trans (hb.mono hJ.size)⟩
  rw [n19]
  simp only [Act.put, List.setIfInBounds_toArray, List.set_cons_succ, List.set_cons_zero, Nat.reduceAdd]
  refine ch_plain 0 5 1 (by rfl) rfl (by kernel_rfl) (by kernel_rfl) ?_
  apply Exists.intro
  refine ⟨fun st w2 hlo hhi hJ => ?_, ?_⟩
  · clear hlo hhi hJ
    go_simp
    exact And.intro rfl rfl
  simp only [Act.put, List.setIfInBounds_toArray, List.set_cons_succ, List.set_cons_zero, Nat.reduceAdd]
  refine ch_plain 0 5 1 (by rfl) rfl (by kernel_rfl) (by kernel_rfl) ?_
  apply Exists.intro
  refine ⟨fun st w2 hlo hhi hJ => ?_, ?_⟩
  · clear hlo hhi hJ
    go_simp
    exact And.intro rfl rfl
  simp only [Act.put, List.setIfInBounds_toArray, List.set_cons_succ, List.set_cons_zero, Nat.reduceAdd]
  refine ch_plain 0 5 1 (by rfl) rfl (by kernel_rfl) (by kernel_rfl) ?_
  apply Exists.intro
  refine ⟨fun st w2 hlo hhi hJ => ?_, ?_⟩
  · clear hlo hhi hJ
    go_simp
    exact And.intro rfl rfl
  simp only [Act.put, List.setIfInBounds_toArray, List.set_cons_succ, List.set_cons_zero, Nat.reduceAdd]
  refine ch_plain 0 5 1 (by rfl) rfl (by kernel_rfl) (by kernel_rfl) ?_
  apply Exists.intro
  refine ⟨fun st w2 hlo hhi hJ => ?_, ?_⟩
  · clear hlo hhi hJ
    go_simp
    exact And.intro rfl rfl
  simp only [Act.put, List.setIfInBounds_toArray, List.set_cons_succ, List.set_cons_zero, Nat.reduceAdd]
  refine ch_plain 0 5 1 (by rfl) rfl (by kernel_rfl) (by kernel_rfl) ?_
  apply Exists.intro
  refine ⟨fun st w2 hlo hhi hJ => ?_, ?_⟩
  · clear hlo hhi hJ
    go_simp
    exact And.intro rfl rfl
  simp only [Act.put, List.setIfInBounds_toArray, List.set_cons_succ, List.set_cons_zero, Nat.reduceAdd]
  refine ch_plain 0 5 1 (by rfl) rfl (by kernel_rfl) (by kernel_rfl) ?_
  apply Exists.intro
  refine ⟨fun st w2 hlo hhi hJ => ?_, ?_⟩
  · clear hlo hhi hJ
    go_simp
    exact And.intro rfl rfl
  simp only [Act.put, List.setIfInBounds_toArray, List.set_cons_succ, List.set_cons_zero, Nat.reduceAdd]
  refine ch_plain 0 5 1 (by rfl) rfl (by kernel_rfl) (by kernel_rfl) ?_
  apply Exists.intro
  refine ⟨fun st w2 hlo hhi hJ => ?_, ?_⟩
  · clear hlo hhi hJ
    go_simp
    exact And.intro rfl rfl
  simp only [Act.put, List.setIfInBounds_toArray, List.set_cons_succ, List.set_cons_zero, Nat.reduceAdd]
  refine ch_plain 0 5 1 (by rfl) rfl (by kernel_rfl) (by kernel_rfl) ?_
  apply Exists.intro
  refine ⟨fun st w2 hlo hhi hJ => ?_, ?_⟩
  · clear hlo hhi hJ
    go_simp
    exact And.intro rfl rfl
  simp only [Act.put, List.setIfInBounds_toArray, List.set_cons_succ, List.set_cons_zero, Nat.reduceAdd]
  refine ch_special 4 6 (by rfl) rfl (by decide) (by kernel_rfl) (fun w2 hJ => ?_) ?_
  · replace hJ : Below (w7).heap.size (w7) w2 := hJ
    go_simp
    refine (HCK.out w2).mono ?_
    rintro e w3 ⟨rfl, hb⟩
    exact ⟨_, rfl, rfl, hJ.trans (hb.mono hJ.size)⟩
  rw [n28]
  simp only [Act.put, List.setIfInBounds_toArray, List.set_cons_succ, List.set_cons_zero, Nat.reduceAdd]
  refine ch_plain 0 5 1 (by rfl) rfl (by kernel_rfl) (by kernel_rfl) ?_
  apply Exists.intro
  refine ⟨fun st w2 hlo hhi hJ => ?_, ?_⟩
  · clear hlo hhi hJ
    go_simp
    exact And.intro rfl rfl
  simp only [Act.put, List.setIfInBounds_toArray, List.set_cons_succ, List.set_cons_zero, Nat.reduceAdd]
  refine ch_plain 0 5 1 (by rfl) rfl (by kernel_rfl) (by kernel_rfl) ?_
  apply Exists.intro
  refine ⟨fun st w2 hlo hhi hJ => ?_, ?_⟩
  · clear hlo hhi hJ
    go_simp
    exact And.intro rfl rfl
  simp only [Act.put, List.setIfInBounds_toArray, List.set_cons_succ, List.set_cons_zero, Nat.reduceAdd]
  refine ch_plain 0 5 1 (by rfl) rfl (by kernel_rfl) (by kernel_rfl) ?_
  apply Exists.intro
  refine ⟨fun st w2 hlo hhi hJ => ?_, ?_⟩
  · clear hlo hhi hJ
    go_simp
    exact And.intro rfl rfl
  simp only [Act.put, Nat.reduceAdd]
  refine ch_nil (fun w5 hJ => ?_)
  replace hJ : Below (w7).heap.size (w7) w5 := hJ
  clear n4 n13 n14 n19 n28
  have HB8 := Lib.hid (HB7.out.trans (hJ.mono HB7.out.size))
  clear hJ
  go_wp2
  go_ret
  exact ⟨rfl, HB8.out⟩
end Go.Proofs.Ytikimmhkfjaijaa
