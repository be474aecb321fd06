/-
  MESSAGES: lineage and entries walked, laying or reading (printed by wip/gen-msgi.py).
-/
import Derived.Test.YtikimmhkfjaijaaMsH
namespace Go.Proofs.Ytikimmhkfjaijaa
open Go.RowKit Reg Go.ChangeShapes

/-- a list's guids, one behind the other -/
def gLp (S : Sf) (l : List Gd) : Nat → Sf × List Gd
  | 0 => (S, l)
  | k + 1 => ((gdS (gLp S l k).1 ((gLp S l k).2.getD k (0, 0))).1, (gLp S l k).2.set k (gdS (gLp S l k).1 ((gLp S l k).2.getD k (0, 0))).2)
theorem gLp_len (S : Sf) (l : List Gd) : ∀ k, (gLp S l k).2.length = l.length
  | 0 => rfl
  | k + 1 => by rw [gLp, List.length_set, gLp_len S l k]
theorem gLp_isRd (S : Sf) (l : List Gd) : ∀ k, (gLp S l k).1.m.isRd = S.m.isRd
  | 0 => rfl
  | k + 1 => by rw [gLp, (alike_gd _ _).2.2, gLp_isRd S l k]
def enS (S : Sf) (e : En) : Sf × En :=
  ((gdS (intF (numS S e.T).1 e.K).1 e.g).1, ⟨(numS S e.T).2, (intF (numS S e.T).1 e.K).2, (gdS (intF (numS S e.T).1 e.K).1 e.g).2⟩)
def eLp (S : Sf) (l : List En) : Nat → Sf × List En
  | 0 => (S, l)
  | k + 1 => ((enS (eLp S l k).1 ((eLp S l k).2.getD k en0)).1, (eLp S l k).2.set k (enS (eLp S l k).1 ((eLp S l k).2.getD k en0)).2)
theorem eLp_len (S : Sf) (l : List En) : ∀ k, (eLp S l k).2.length = l.length
  | 0 => rfl
  | k + 1 => by rw [eLp, List.length_set, eLp_len S l k]
theorem eLp_isRd (S : Sf) (l : List En) : ∀ k, (eLp S l k).1.m.isRd = S.m.isRd
  | 0 => rfl
  | k + 1 => by rw [eLp]; exact ((alike_gd _ _).2.2.trans (alike_num (numS _ _).1 _ _).2.2).trans ((alike_num _ _ _).2.2.trans (eLp_isRd S l k))
theorem eLp_rest (S : Sf) (l : List En) : ∀ k j, k ≤ j → (eLp S l k).2.getD j en0 = l.getD j en0
  | 0, _, _ => rfl
  | k + 1, j, h => by
    rw [eLp, List.getD_eq_getElem?_getD, List.getElem?_set_ne (by omega), ← List.getD_eq_getElem?_getD]
    exact eLp_rest S l k j (by omega)
def lineF (S : Sf) (m : Ms) : Sf × Ms :=
  ((gLp (intF (yesF (intF (numS S m.l.E).1 m.l.B).1 m.l.L).1 (m.l.l.length : Nat)).1 (szG (yesF (intF (numS S m.l.E).1 m.l.B).1 m.l.L).1 m.l.l) (szG (yesF (intF (numS S m.l.E).1 m.l.B).1 m.l.L).1 m.l.l).length).1,
    { m with l := ⟨(numS S m.l.E).2, (intF (numS S m.l.E).1 m.l.B).2, (yesF (intF (numS S m.l.E).1 m.l.B).1 m.l.L).2, (gLp (intF (yesF (intF (numS S m.l.E).1 m.l.B).1 m.l.L).1 (m.l.l.length : Nat)).1 (szG (yesF (intF (numS S m.l.E).1 m.l.B).1 m.l.L).1 m.l.l) (szG (yesF (intF (numS S m.l.E).1 m.l.B).1 m.l.L).1 m.l.l).length).2⟩ })
def entF (S : Sf) (m : Ms) : Sf × Ms :=
  ((eLp (intF S (m.es.length : Nat)).1 (szE S m.es) (szE S m.es).length).1, { m with es := (eLp (intF S (m.es.length : Nat)).1 (szE S m.es) (szE S m.es).length).2 })
section
variable {W : World} {fb mb : Nat} {Z : Nat → Prop} {B : Nat} {S S' : Sf} {m m' : Ms} {w w' : World}
theorem alike_isRd_int (S : Sf) (x : Int) : (intF S x).1.m.isRd = S.m.isRd := numF_isRd _ _
theorem alike_isRd_num (S : Sf) (x : Int) : (numS S x).1.m.isRd = S.m.isRd := numF_isRd _ _
theorem alike_isRd_yes (S : Sf) (b : Bool) : (yesF S b).1.m.isRd = S.m.isRd := numF_isRd _ _
set_option maxHeartbeats 1000000 in
theorem line_any (h : FS W fb mb Z B S m w) (hE : (Lit.int .u64 m.l.E).wf = true) (hLB : 0 ≤ m.l.B ∧ m.l.B ≤ 8192) (hL : m.l.l.length ≤ 8192) (hrd : S.m.isRd = true → m.es = [] ∧ m.p.cs = []) (hB : B ≤ 500000) :
    Calls Try.prog 43 #[.pointer (some ⟨fb, 0, none⟩)] w fun e w' => e = .returned (.tuple #[]) ∧ FS W fb mb Z (B + 200000) (lineF S m).1 (lineF S m).2 w' := by
  obtain ⟨a1, ha1⟩ : ∃ a1, a1 = numS S m.l.E := ⟨_, rfl⟩
  obtain ⟨a2, ha2⟩ : ∃ a2, a2 = intF a1.1 m.l.B := ⟨_, rfl⟩
  obtain ⟨a3, ha3⟩ : ∃ a3, a3 = yesF a2.1 m.l.L := ⟨_, rfl⟩
  obtain ⟨l1, hl1⟩ : ∃ l1, l1 = szG a3.1 m.l.l := ⟨_, rfl⟩
  obtain ⟨P, hP⟩ : ∃ P : Nat → Sf × List Gd, P = gLp (intF a3.1 (m.l.l.length : Nat)).1 l1 := ⟨_, rfl⟩
  have hgoal : lineF S m = ((P l1.length).1, { m with l := ⟨a1.2, a2.2, a3.2, (P l1.length).2⟩ }) := by rw [hP, hl1, ha3, ha2, ha1]; rfl
  rw [hgoal]
  have r3 : a3.1.m.isRd = S.m.isRd := by rw [ha3, alike_isRd_yes, ha2, alike_isRd_int, ha1, alike_isRd_num]
  have HN : Hid (l1.length ≤ 8192) := Lib.hid (by rw [hl1]; exact szG_le hL)
  have HC0 := Lib.hid h.slots
  have H1 := Lib.hid (h.num (m' := { m with l := { m.l with E := a1.2 } }) 9 m.l.E hE (fun _ _ _ => rfl) (fun _ _ _ => by rw [ha1]; rfl) rfl rfl rfl (by omega))
  rw [← ha1] at H1
  have H2 := Lib.hid (fun w2 (h2 : FS W fb mb Z (B + 9) a1.1 { m with l := { m.l with E := a1.2 } } w2) => h2.int (m' := { m with l := { m.l with E := a1.2, B := a2.2 } }) 10 m.l.B hLB (fun _ _ _ => rfl) (fun _ _ _ => by rw [ha2]; rfl) rfl rfl rfl (by omega))
  rw [← ha2] at H2
  have H3 := Lib.hid (fun w2 (h2 : FS W fb mb Z (B + 9 + 9) a2.1 { m with l := { m.l with E := a1.2, B := a2.2 } } w2) => h2.yes (m' := { m with l := { m.l with E := a1.2, B := a2.2, L := a3.2 } }) 11 m.l.L (fun _ _ _ => rfl) (fun _ _ _ => by rw [ha3]; rfl) rfl rfl rfl (by omega))
  rw [← ha3] at H3
  have H4 := Lib.hid (fun w2 (h2 : FS W fb mb Z (B + 9 + 9 + 9) a3.1 { m with l := { m.l with E := a1.2, B := a2.2, L := a3.2 } } w2) => h2.sizedG hL (by omega))
  dsimp only at H4
  rw [← hl1] at H4
  have hP0 : P 0 = ((intF a3.1 (m.l.l.length : Nat)).1, l1) := by rw [hP]; rfl
  have HP1 : Hid (∀ k, P (k + 1) = ((gdS (P k).1 ((P k).2.getD k (0, 0))).1, (P k).2.set k (gdS (P k).1 ((P k).2.getD k (0, 0))).2)) := Lib.hid fun k => by rw [hP]; rfl
  have HPL : Hid (∀ k, (P k).2.length = l1.length) := Lib.hid fun k => by rw [hP, gLp_len]
  have HPR : Hid (∀ k, (P k).1.m.isRd = S.m.isRd) := Lib.hid fun k => by rw [hP, gLp_isRd, alike_isRd_int, r3]
  have HP0 := Lib.hid hP0
  have HRD := Lib.hid hrd
  have HB := Lib.hid hB
  clear hgoal hP hP0 hl1 ha1 ha2 ha3 r3 h hE hLB hL hrd hB
  go_enter Try.func43, Try.ntmps43
  have c0 := HC0.out
  go_wp2_with fail
  refine H1.out.mono ?_
  rintro e w1 ⟨rfl, h1⟩
  have c1 := h1.slots
  have G1 := Lib.hid h1
  clear c0 HC0 h1
  go_wp2_with fail
  refine (H2.out w1 G1.out).mono ?_
  rintro e w2 ⟨rfl, h2⟩
  have c2 := h2.slots
  have G2 := Lib.hid h2
  clear c1 G1 h2
  go_wp2_with fail
  refine (H3.out w2 G2.out).mono ?_
  rintro e w3 ⟨rfl, h3⟩
  have c3 := h3.slots
  have G3 := Lib.hid h3
  clear c2 G2 h3
  go_wp2_with fail
  refine (H4.out w3 G3.out).mono ?_
  rintro e w4 ⟨a, c, rfl, h4, hsl⟩
  have G4 := Lib.hid h4
  have HSL := Lib.hid hsl
  clear c3 G3 h4 hsl
  generalize hn : l1.length = n at *
  have HNE := Lib.hid hn
  clear hn
  go_wp2_with fail
  go_loopw [44] (fun i wr => ∃ (k : Nat), k ≤ n ∧ i = .int .i64 k ∧ FS W fb mb Z (B + 36 + 18 * k) (P k).1 { m with l := ⟨a1.2, a2.2, a3.2, (P k).2⟩ } wr ∧ wr.cell? ⟨mb, 12, none⟩ = some (.slice a n c)) (fun i _ => n - (intOf i).toNat)
  case atStart => exact ⟨0, Nat.zero_le _, rfl, by rw [HP0.out]; exact G4.out, HSL.out⟩
  case round =>
    obtain ⟨k, hk, rfl, h5, hs5⟩ := hrel
    by_cases hkn : k < n
    · have hkl : k < (P k).2.length := by rw [HPL.out]; exact hkn
      obtain ⟨g, off, rfl, hcall⟩ := h5.guidAt hs5 (k := k) hkl (fun hr => HRD.out (by rw [← HPR.out k]; exact hr)) (by have := HB.out; have := HN.out; omega)
      have c5 := h5.slots
      have HCALL := Lib.hid hcall
      have HK := Lib.hid hkn
      have i1 : (k : Int) < (n : Int) := by omega
      have i9 : wrap64 ((k : Int) + 1) = (k : Int) + 1 := IntWalk.wrap64_in _ (by have := HN.out; omega)
      have I9 := Lib.hid i9
      clear i9 hkl hcall h5 hs5 hk hkn
      go_wp2_with fail
      refine HCALL.out.mono ?_
      rintro e w6 ⟨rfl, h6, hs6⟩
      have G6 := Lib.hid (And.intro h6 hs6)
      clear h6 hs6 c5
      go_wp2
      rw [I9.out]
      refine ⟨⟨k + 1, HK.out, rfl, ?_, G6.out.2⟩, meas_succ HK.out⟩
      rw [HP1.out]
      exact G6.out.1.mono (by omega)
    · obtain rfl : k = n := by omega
      have i1 : ¬ ((k : Int) < (k : Int)) := by omega
      have G5 := Lib.hid h5
      clear hkn hk h5 hs5
      go_wp2
      refine bodyPost_end (results_none rfl _ _ _) rfl ?_
      rw [HNE.out]
      exact ⟨rfl, G5.out.mono (B' := B + 200000) (by have := HN.out; omega)⟩
set_option maxHeartbeats 1000000 in
theorem ent_any (h : FS W fb mb Z B S m w) (hK : ∀ e ∈ m.es, 0 ≤ e.K ∧ e.K ≤ 8192) (hL : m.es.length ≤ 8192) (hrd : S.m.isRd = true → m.l.l = [] ∧ m.p.cs = []) (hB : B ≤ 300000) :
    Calls Try.prog 55 #[.pointer (some ⟨fb, 0, none⟩)] w fun e w' => e = .returned (.tuple #[]) ∧ FS W fb mb Z (B + 400000) (entF S m).1 (entF S m).2 w' := by
  obtain ⟨l1, hl1⟩ : ∃ l1, l1 = szE S m.es := ⟨_, rfl⟩
  obtain ⟨P, hP⟩ : ∃ P : Nat → Sf × List En, P = eLp (intF S (m.es.length : Nat)).1 l1 := ⟨_, rfl⟩
  have hgoal : entF S m = ((P l1.length).1, { m with es := (P l1.length).2 }) := by rw [hP, hl1]; rfl
  rw [hgoal]
  have HN : Hid (l1.length ≤ 8192) := Lib.hid (by rw [hl1]; exact szE_le hL)
  have HC0 := Lib.hid h.slots
  have H4 := Lib.hid (h.sizedE hL (by omega))
  rw [← hl1] at H4
  have hP0 : P 0 = ((intF S (m.es.length : Nat)).1, l1) := by rw [hP]; rfl
  have HP1 : Hid (∀ k, P (k + 1) = ((enS (P k).1 ((P k).2.getD k en0)).1, (P k).2.set k (enS (P k).1 ((P k).2.getD k en0)).2)) := Lib.hid fun k => by rw [hP]; rfl
  have HPL : Hid (∀ k, (P k).2.length = l1.length) := Lib.hid fun k => by rw [hP, eLp_len]
  have HPR : Hid (∀ k, (P k).1.m.isRd = S.m.isRd) := Lib.hid fun k => by rw [hP, eLp_isRd, alike_isRd_int]
  have HPK : Hid (∀ k, k < l1.length → 0 ≤ ((P k).2.getD k en0).K ∧ ((P k).2.getD k en0).K ≤ 8192) := Lib.hid fun k hk => by
    rw [hP, eLp_rest _ _ k k (Nat.le_refl _), hl1]
    rw [hl1] at hk
    unfold szE at hk ⊢
    split
    · rename_i q
      rw [if_pos q] at hk
      rw [List.length_replicate] at hk
      rw [List.getD_eq_getElem?_getD, List.getElem?_replicate, if_pos hk]
      exact ⟨Int.le_refl _, by decide⟩
    · rename_i q
      rw [if_neg q] at hk
      exact hK _ (mem_getD hk)
  have HP0 := Lib.hid hP0
  have HRD := Lib.hid hrd
  have HB := Lib.hid hB
  clear hgoal hP hP0 hl1 h hK hL hrd hB
  go_enter Try.func55, Try.ntmps55
  have c0 := HC0.out
  go_wp2_with fail
  refine H4.out.mono ?_
  rintro e w4 ⟨a, c, rfl, h4, hsl⟩
  have G4 := Lib.hid h4
  have HSL := Lib.hid hsl
  clear c0 HC0 H4 h4 hsl
  generalize hn : l1.length = n at *
  have HNE := Lib.hid hn
  clear hn
  go_wp2_with fail
  go_loopw [14] (fun i wr => ∃ (k : Nat), k ≤ n ∧ i = .int .i64 k ∧ FS W fb mb Z (B + 9 + 36 * k) (P k).1 { m with es := (P k).2 } wr ∧ wr.cell? ⟨mb, 4, none⟩ = some (.slice a n c)) (fun i _ => n - (intOf i).toNat)
  case atStart => exact ⟨0, Nat.zero_le _, rfl, by rw [HP0.out]; exact G4.out, HSL.out⟩
  case round =>
    obtain ⟨k, hk, rfl, h5, hs5⟩ := hrel
    by_cases hkn : k < n
    · have hkl : k < (P k).2.length := by rw [HPL.out]; exact hkn
      have hbB : B + 9 + 36 * k ≤ 800000 := by have := HB.out; have := HN.out; omega
      have hrk := HPR.out k
      have hpk := HPK.out k hkn
      have hp1 := HP1.out k
      generalize P k = Pk at *
      obtain ⟨Sk, lk⟩ := Pk
      dsimp only at *
      obtain ⟨e0, he0⟩ : ∃ e0, e0 = lk.getD k en0 := ⟨_, rfl⟩
      rw [← he0] at hpk hp1
      obtain ⟨g, off, rfl, hcall⟩ := h5.enT hs5 (k := k) hkl (fun hr => HRD.out (by rw [← hrk]; exact hr)) (by omega)
      dsimp only at hcall
      rw [← he0] at hcall
      have HC2 := Lib.hid (fun w6 (h6 : FS W fb mb Z (B + 9 + 36 * k + 9) (numS Sk e0.T).1 { m with es := lk.set k { e0 with T := (numS Sk e0.T).2 } } w6) (hs6 : w6.cell? ⟨mb, 4, none⟩ = some (.slice (some ⟨g, off, none⟩) n c)) => by
        have q := h6.enK hs6 (k := k) (by simpa using hkl) (by simp only; rw [getD_set_self hkl]; exact hpk) (fun hr => HRD.out (by rw [← hrk, ← alike_isRd_num Sk e0.T]; exact hr)) (by omega)
        simp only [getD_set_self hkl, List.set_set] at q
        obtain ⟨g', off', e, q⟩ := q
        simp only [Option.some.injEq, Addr.mk.injEq, and_true] at e
        obtain ⟨rfl, rfl⟩ := e
        exact q)
      have HC3 := Lib.hid (fun w6 (h6 : FS W fb mb Z (B + 9 + 36 * k + 9 + 9) (intF (numS Sk e0.T).1 e0.K).1 { m with es := lk.set k { e0 with T := (numS Sk e0.T).2, K := (intF (numS Sk e0.T).1 e0.K).2 } } w6) (hs6 : w6.cell? ⟨mb, 4, none⟩ = some (.slice (some ⟨g, off, none⟩) n c)) => by
        have q := h6.enG hs6 (k := k) (by simpa using hkl) (fun hr => HRD.out (by rw [← hrk, ← alike_isRd_num Sk e0.T, ← alike_isRd_int (numS Sk e0.T).1 e0.K]; exact hr)) (by omega)
        simp only [getD_set_self hkl, List.set_set] at q
        obtain ⟨g', off', e, q⟩ := q
        simp only [Option.some.injEq, Addr.mk.injEq, and_true] at e
        obtain ⟨rfl, rfl⟩ := e
        exact q)
      have c5 := h5.slots
      have HCALL := Lib.hid hcall
      have HK := Lib.hid hkn
      have i1 : (k : Int) < (n : Int) := by omega
      have i9 : wrap64 ((k : Int) + 1) = (k : Int) + 1 := IntWalk.wrap64_in _ (by have := HN.out; omega)
      have I9 := Lib.hid i9
      have HP1K := Lib.hid hp1
      clear i9 hkl hcall h5 hs5 hk hkn hbB hrk hpk hp1 he0
      go_wp2_with fail
      refine HCALL.out.mono ?_
      rintro e w6 ⟨rfl, h6, hs6⟩
      have c6 := h6.slots
      have G6 := Lib.hid (And.intro h6 hs6)
      clear h6 hs6 c5
      go_wp2_with fail
      refine (HC2.out w6 G6.out.1 G6.out.2).mono ?_
      rintro e w7 ⟨rfl, h7, hs7⟩
      have c7 := h7.slots
      have G7 := Lib.hid (And.intro h7 hs7)
      clear h7 hs7 c6
      go_wp2_with fail
      refine (HC3.out w7 G7.out.1 G7.out.2).mono ?_
      rintro e w8 ⟨rfl, h8, hs8⟩
      have G8 := Lib.hid (And.intro h8 hs8)
      clear h8 hs8 c7
      go_wp2
      rw [I9.out]
      refine ⟨⟨k + 1, HK.out, rfl, ?_, G8.out.2⟩, meas_succ HK.out⟩
      rw [HP1K.out]
      exact G8.out.1.mono (by omega)
    · obtain rfl : k = n := by omega
      have i1 : ¬ ((k : Int) < (k : Int)) := by omega
      have G5 := Lib.hid h5
      clear hkn hk h5 hs5
      go_wp2
      refine bodyPost_end (results_none rfl _ _ _) rfl ?_
      rw [HNE.out]
      exact ⟨rfl, G5.out.mono (B' := B + 400000) (by have := HN.out; omega)⟩
end
end Go.Proofs.Ytikimmhkfjaijaa
