/-
  MESSAGES: MsRP, MsRF, MsRG, MsRH, MsReads, in one text (merged by wip/merge.py).
-/
import Derived.Test.YtikimmhkfjaijaaGreatGE
import Derived.Test.YtikimmhkfjaijaaGreatGG
namespace Go.Proofs.YtikimmhkfjaijaaGreat
open Go.RowKit Reg Go.ChangeShapes

/-- a small number; greater ones are 1001 -/
def smV (st : Wire.St) : Nat := if 1000 < (Wire.num st).1 then 1001 else (Wire.num st).1
def yesV (st : Wire.St) : Bool := decide ((Wire.num st).1 = 1)
def yesS (st : Wire.St) : Wire.St := if 1 < (Wire.num st).1 then none else nx st
def stV (st : Wire.St) : Int := wrap64 ((Wire.num st).1 : Nat)
def gdsR : Nat → Wire.St → List Gd × Wire.St
  | 0, st => ([], st)
  | _ + 1, none => ([], none)
  | k + 1, some l => (gdOf (some l) :: (gdsR k (nx (nx (some l)))).1, (gdsR k (nx (nx (some l)))).2)
def enOf (st : Wire.St) : En := ⟨((Wire.num st).1 : Nat), (smV (nx st) : Nat), gdOf (nx (nx st))⟩
def enN (st : Wire.St) : Wire.St := nx (nx (nx (nx st)))
def ensR : Nat → Wire.St → List En × Wire.St
  | 0, st => ([], st)
  | _ + 1, none => ([], none)
  | k + 1, some l => (enOf (some l) :: (ensR k (enN (some l))).1, (ensR k (enN (some l))).2)
theorem gdsR_none (k : Nat) : gdsR k none = ([], none) := by cases k <;> rfl
theorem ensR_none (k : Nat) : ensR k none = ([], none) := by cases k <;> rfl
/-- a line: what is read, and what is left -/
def lnL (st : Wire.St) : Ln := ⟨((Wire.num st).1 : Nat), (smV (nx st) : Nat), yesV (nx (nx st)), (gdsR (smV (yesS (nx (nx st)))) (nx (yesS (nx (nx st))))).1⟩
def lnS (st : Wire.St) : Wire.St := (gdsR (smV (yesS (nx (nx st)))) (nx (yesS (nx (nx st))))).2
def ln0 : Ln := ⟨0, 0, false, []⟩
def ptP (st : Wire.St) : Prt := decP 99 9 (strOf (Wire.text st).1)
def ptS (st : Wire.St) : Wire.St := if decE 99 9 (strOf (Wire.text st).1) = 0 then (Wire.text st).2 else none
/-- what the reference reads of a kind's fields -/
def RD (s : Wire.St) (m : Ms) (st : Wire.St) : Prop :=
  (m.K = 1 → m = ⟨1, ((Wire.num s).1 : Nat), (smV (nx s) : Nat), ((Wire.num (nx (nx s))).1 : Nat), [], 0, false, 0, 0, ln0, 0, (0, 0), (0, 0), 0, zeroP⟩ ∧ st = nx (nx (nx s))) ∧
  (m.K = 2 → m = ⟨2, ((Wire.num s).1 : Nat), 0, 0, [], 0, yesV (nx s), 0, 0, ln0, 0, (0, 0), (0, 0), 0, zeroP⟩ ∧ st = yesS (nx s)) ∧
  (m.K = 3 → m = ⟨3, ((Wire.num s).1 : Nat), (smV (nx s) : Nat), ((Wire.num (nx (nx s))).1 : Nat), (ensR (smV (nx (nx (nx s)))) (nx (nx (nx (nx s))))).1,
      (smV (ensR (smV (nx (nx (nx s)))) (nx (nx (nx (nx s))))).2 : Nat), false, 0, stV (nx (ensR (smV (nx (nx (nx s)))) (nx (nx (nx (nx s))))).2), ln0, 0, (0, 0), (0, 0), 0, zeroP⟩ ∧
      st = nx (nx (ensR (smV (nx (nx (nx s)))) (nx (nx (nx (nx s))))).2)) ∧
  (m.K = 4 → m = ⟨4, ((Wire.num s).1 : Nat), 0, 0, [], 0, yesV (nx s), (smV (yesS (nx s)) : Nat), stV (nx (yesS (nx s))), ln0, 0, (0, 0), (0, 0), 0, zeroP⟩ ∧ st = nx (nx (yesS (nx s)))) ∧
  (m.K = 5 → m = ⟨5, 0, 0, 0, [], 0, false, 0, 0, lnL s, (smV (lnS s) : Nat), gdOf (nx (lnS s)), gdOf (nx (nx (nx (lnS s)))), (smV (nx (nx (nx (nx (nx (lnS s)))))) : Nat), zeroP⟩ ∧ st = nx (nx (nx (nx (nx (nx (lnS s))))))) ∧
  (m.K = 6 → m = ⟨6, 0, 0, 0, [], 0, false, 0, 0, lnL s, 0, (0, 0), (0, 0), 0, ptP (lnS s)⟩ ∧ st = ptS (lnS s)) ∧
  (m.K = 7 → m = ⟨7, 0, 0, 0, [], 0, false, 0, 0, lnL s, 0, (0, 0), (0, 0), 0, zeroP⟩ ∧ st = lnS s)
def RDA (l : List UInt8) (m : Ms) (st : Wire.St) : Prop := m.K = (smV (some l) : Nat) ∧ RD (nx (some l)) m st
/-! ### backward -/
theorem bk_num {st : Wire.St} {t : List UInt8} (h : nx st = some t) : st = some (nB ((Wire.num st).1 : Nat) ++ t) := (num_inv (st := st) (n := (Wire.num st).1) (t := t) (Prod.ext rfl h)).1
theorem sm_small {st : Wire.St} (hs : (smV st : Int) ≤ 1000) : smV st = (Wire.num st).1 := by
  unfold smV at hs ⊢
  split at hs
  · omega
  · rename_i h; rw [if_neg h]
theorem bk_sm {st : Wire.St} {t : List UInt8} (h : nx st = some t) (hs : (smV st : Int) ≤ 1000) : st = some (nB (smV st : Nat) ++ t) := by
  have := bk_num h
  rw [sm_small hs]
  exact this
theorem bk_yes {st : Wire.St} {t : List UInt8} (h : yesS st = some t) : st = some (Wire.putNum (b01 (yesV st)) ++ t) := by
  unfold yesS at h
  split at h
  · cases h
  · rename_i h1
    have h2 := bk_num h
    have h3 : b01 (yesV st) = (Wire.num st).1 := by
      unfold b01 yesV
      by_cases e : (Wire.num st).1 = 1
      · rw [decide_eq_true e, if_pos rfl, e]
      · rw [decide_eq_false e, if_neg (by decide)]; omega
    rw [h3]
    exact h2
theorem bk_gd {st : Wire.St} {t : List UInt8} (h : nx (nx st) = some t) : st = some (gdB (gdOf st) ++ t) := by
  have h1 := bk_num h
  have h2 := bk_num h1
  unfold gdB gdOf
  rw [List.append_assoc]
  exact h2
theorem bk_gds : ∀ (k : Nat) (st : Wire.St) (t : List UInt8), (gdsR k st).2 = some t → (gdsR k st).1.length = k ∧ st = some ((gdsR k st).1.flatMap gdB ++ t)
  | 0, st, t, h => ⟨rfl, h⟩
  | k + 1, none, t, h => by cases h
  | k + 1, some l, t, h => by
    obtain ⟨h1, h2⟩ := bk_gds k (nx (nx (some l))) t h
    have h3 := bk_gd h2
    refine ⟨?_, ?_⟩
    · show (gdOf (some l) :: (gdsR k (nx (nx (some l)))).1).length = k + 1
      rw [List.length_cons, h1]
    · show some l = some ((gdOf (some l) :: (gdsR k (nx (nx (some l)))).1).flatMap gdB ++ t)
      rw [List.flatMap_cons, List.append_assoc]
      exact h3
theorem bk_en {st : Wire.St} {t : List UInt8} (h : enN st = some t) (hk : (enOf st).K ≤ 1000) : st = some (enB (enOf st) ++ t) := by
  have h1 := bk_gd (st := nx (nx st)) h
  have h2 := bk_sm h1 hk
  have h3 := bk_num h2
  unfold enB enOf
  rw [List.append_assoc, List.append_assoc]
  exact h3
theorem bk_ens : ∀ (k : Nat) (st : Wire.St) (t : List UInt8), (ensR k st).2 = some t → (∀ e ∈ (ensR k st).1, e.K ≤ 1000) → (ensR k st).1.length = k ∧ st = some ((ensR k st).1.flatMap enB ++ t)
  | 0, st, t, h, _ => ⟨rfl, h⟩
  | k + 1, none, t, h, _ => by cases h
  | k + 1, some l, t, h, hk => by
    have hk' : ∀ e ∈ enOf (some l) :: (ensR k (enN (some l))).1, e.K ≤ 1000 := hk
    obtain ⟨h1, h2⟩ := bk_ens k (enN (some l)) t h fun e he => hk' e (List.mem_cons_of_mem _ he)
    have h3 := bk_en h2 (hk' _ List.mem_cons_self)
    refine ⟨?_, ?_⟩
    · show (enOf (some l) :: (ensR k (enN (some l))).1).length = k + 1
      rw [List.length_cons, h1]
    · show some l = some ((enOf (some l) :: (ensR k (enN (some l))).1).flatMap enB ++ t)
      rw [List.flatMap_cons, List.append_assoc]
      exact h3
theorem bk_ln {st : Wire.St} {t : List UInt8} (h : lnS st = some t) (hB : (lnL st).B ≤ 1000) (hl : (lnL st).l.length ≤ 1000) : st = some (lineB (lnL st) ++ t) := by
  obtain ⟨h1, h2⟩ := bk_gds _ _ t h
  have e : (lnL st).l = (gdsR (smV (yesS (nx (nx st)))) (nx (yesS (nx (nx st))))).1 := rfl
  rw [e, h1] at hl
  have h3 := bk_sm h2 (by omega)
  have h4 := bk_yes h3
  have h5 := bk_sm h4 hB
  have h6 := bk_num h5
  unfold lineB
  rw [e, h1, List.append_assoc, List.append_assoc, List.append_assoc, List.append_assoc]
  exact h6
theorem bk_part {st : Wire.St} {t : List UInt8} (h : ptS st = some t) : st = some (partB (ptP st) ++ t) := by
  unfold ptS at h
  split at h
  · rename_i hz
    have hok : decOk 99 9 (strOf (Wire.text st).1) := by
      by_cases q : decOk 99 9 (strOf (Wire.text st).1)
      · exact q
      · exfalso
        unfold decE at hz
        rw [if_neg q] at hz
        cases hz
    have h1 := text_inv (st := st) (x := (Wire.text st).1) (t := t) (Prod.ext rfl h)
    have hp : partB (ptP st) = Wire.putText (Wire.text st).1 := by
      unfold partB ptP decP
      rw [if_pos hok, hok.2.2, strOf_list]
    rw [hp]
    exact h1
  · cases h
theorem bk_st {st : Wire.St} {t : List UInt8} (h : nx st = some t) (h0 : 0 ≤ stV st) : st = some (nB (stV st) ++ t) := by
  obtain ⟨h1, h2⟩ := num_inv (st := st) (n := (Wire.num st).1) (t := t) (Prod.ext rfl h)
  have e : stV st = ((Wire.num st).1 : Nat) := by
    unfold stV at h0 ⊢
    rw [p256] at h2
    generalize (Wire.num st).1 = n at *
    unfold wrap64 at h0 ⊢
    omega
  rw [e]
  exact h1
theorem bk_all {l : List UInt8} {m : Ms} (h : RDA l m (some [])) (hm : mayM m = true) : l = bytesM m := by
  obtain ⟨hK, h1, h2, h3, h4, h5, h6, h7⟩ := h
  have hk := mayM_K hm
  have fin : nx (some l) = some (bodyB m) → l = bytesM m := fun q => by
    have := bk_sm q (by omega)
    rw [← hK] at this
    exact Option.some.inj this
  refine fin ?_
  clear fin
  generalize nx (some l) = s at *
  clear hK
  have hA := fun h : m.K ≤ 4 => mayM_a hm h
  have hL := fun h : 4 < m.K => checkL_ok (mayM_l hm h)
  have hks := fun h : m.K ≤ 4 => logC_kinds (mayM_a hm h).log
  have hpl := fun h : m.K = 5 => pullB_ok (mayM_pull hm h)
  clear hm
  unfold bodyB
  rcases (show m.K = 1 ∨ m.K = 2 ∨ m.K = 3 ∨ m.K = 4 ∨ m.K = 5 ∨ m.K = 6 ∨ m.K = 7 by omega) with k | k | k | k | k | k | k
  · obtain ⟨e, f⟩ := h1 k
    have := (hA (by omega)).P
    subst e
    dsimp only at this
    have g1 := bk_num f.symm
    have g2 := bk_sm g1 (by omega)
    have g3 := bk_num g2
    rw [if_pos rfl]
    unfold askB
    rw [List.append_nil] at g3
    exact g3
  · obtain ⟨e, f⟩ := h2 k
    subst e
    have g1 := bk_yes f.symm
    have g2 := bk_num g1
    rw [if_neg (by dsimp only; decide), if_pos rfl]
    unfold voteB
    rw [List.append_nil] at g2
    exact g2
  · obtain ⟨e, f⟩ := h3 k
    have ha := hA (by omega)
    have hes := hks (by omega)
    subst e
    have a1 := ha.P
    have a2 := ha.C
    have a3 := ha.S
    have a4 := ha.len
    dsimp only at a1 a2 a3 a4 hes
    have g1 := bk_st f.symm a3
    have g2 := bk_sm g1 (by omega)
    obtain ⟨gl, g3⟩ := bk_ens _ _ _ g2 fun e he => by have := hes e he; omega
    rw [gl] at a4
    have g4 := bk_sm g3 (by omega)
    have g5 := bk_num g4
    have g6 := bk_sm g5 (by omega)
    have g7 := bk_num g6
    rw [if_neg (by dsimp only; decide), if_neg (by dsimp only; decide), if_pos rfl]
    unfold appsB askB entsB
    dsimp only
    rw [gl, List.append_assoc, List.append_assoc, List.append_assoc]
    rw [List.append_nil] at g7
    exact g7
  · obtain ⟨e, f⟩ := h4 k
    have ha := hA (by omega)
    subst e
    have a1 := ha.M
    have a3 := ha.S
    dsimp only at a1 a3
    have g1 := bk_st f.symm a3
    have g2 := bk_sm g1 (by omega)
    have g3 := bk_yes g2
    have g4 := bk_num g3
    rw [if_neg (by dsimp only; decide), if_neg (by dsimp only; decide), if_neg (by dsimp only; decide), if_pos rfl]
    unfold appdB voteB
    dsimp only
    rw [List.append_assoc]
    rw [List.append_nil] at g4
    exact g4
  · obtain ⟨e, f⟩ := h5 k
    have ha := hL (by omega)
    have hp := hpl (by omega)
    subst e
    dsimp only at ha hp
    have g1 := bk_sm f.symm (by omega)
    have g2 := bk_gd g1
    have g3 := bk_gd g2
    have g4 := bk_sm g3 (by omega)
    have g5 := bk_ln g4 (by omega) (by omega)
    rw [if_neg (by dsimp only; decide), if_neg (by dsimp only; decide), if_neg (by dsimp only; decide), if_neg (by dsimp only; decide), if_pos rfl]
    unfold pullL
    dsimp only
    rw [List.append_nil] at g5
    exact g5
  · obtain ⟨e, f⟩ := h6 k
    have ha := hL (by omega)
    subst e
    dsimp only at ha
    have g1 := bk_part f.symm
    have g2 := bk_ln g1 (by omega) (by omega)
    rw [if_neg (by dsimp only; decide), if_neg (by dsimp only; decide), if_neg (by dsimp only; decide), if_neg (by dsimp only; decide), if_neg (by dsimp only; decide), if_pos rfl]
    unfold partL
    dsimp only
    rw [List.append_nil] at g2
    exact g2
  · obtain ⟨e, f⟩ := h7 k
    have ha := hL (by omega)
    subst e
    dsimp only at ha
    have g2 := bk_ln f.symm (by omega) (by omega)
    rw [if_neg (by dsimp only; decide), if_neg (by dsimp only; decide), if_neg (by dsimp only; decide), if_neg (by dsimp only; decide), if_neg (by dsimp only; decide), if_neg (by dsimp only; decide)]
    dsimp only
    rw [List.append_nil] at g2
    exact g2
/-! ### forward -/
theorem fw_num {x : Int} (hx : u64 x) (t : List UInt8) : (((Wire.num (some (nB x ++ t))).1 : Nat) : Int) = x ∧ nx (some (nB x ++ t)) = some t := by
  obtain ⟨h1, h2⟩ := u64_toNat hx
  have h := Wire.num_put x.toNat h2 t
  unfold nx nB
  rw [h]
  exact ⟨h1, rfl⟩
theorem fw_sm {x : Int} (hx : 0 ≤ x ∧ x ≤ 1000) (t : List UInt8) : ((smV (some (nB x ++ t)) : Nat) : Int) = x ∧ nx (some (nB x ++ t)) = some t := by
  have h3 : x.toNat ≤ 1000 := by omega
  have h := Wire.num_put x.toNat (by rw [p256]; omega) t
  unfold nx nB smV
  rw [h]
  dsimp only
  rw [if_neg (by omega)]
  exact ⟨by omega, rfl⟩
theorem fw_yes (b : Bool) (t : List UInt8) : yesV (some (Wire.putNum (b01 b) ++ t)) = b ∧ yesS (some (Wire.putNum (b01 b) ++ t)) = some t := by
  have hb : b01 b ≤ 1 := by unfold b01; split <;> omega
  have h := Wire.num_put (b01 b) (by rw [p256]; omega) t
  unfold yesV yesS nx
  rw [h]
  dsimp only
  rw [if_neg (by omega)]
  refine ⟨?_, rfl⟩
  cases b <;> rfl
theorem fw_gd {g : Gd} (hg : wfG g) (t : List UInt8) : gdOf (some (gdB g ++ t)) = g ∧ nx (nx (some (gdB g ++ t))) = some t := by
  have h1 := fw_num hg.1 (nB g.2 ++ t)
  have h2 := fw_num hg.2 t
  unfold gdB gdOf
  rw [List.append_assoc, h1.1, h1.2, h2.1, h2.2]
  exact ⟨rfl, rfl⟩
theorem fw_gds : ∀ (l : List Gd) (t : List UInt8), (∀ g ∈ l, wfG g) → gdsR l.length (some (l.flatMap gdB ++ t)) = (l, some t)
  | [], _, _ => rfl
  | g :: l, t, h => by
    have h1 := fw_gd (h g List.mem_cons_self) (l.flatMap gdB ++ t)
    have h2 := fw_gds l t fun x hx => h x (List.mem_cons_of_mem _ hx)
    rw [List.flatMap_cons, List.append_assoc, List.length_cons]
    unfold gdsR
    rw [h1.1, h1.2, h2]
theorem fw_en {e : En} (he : wfE e) (hk : 0 ≤ e.K ∧ e.K ≤ 1000) (t : List UInt8) : enOf (some (enB e ++ t)) = e ∧ enN (some (enB e ++ t)) = some t := by
  have h1 := fw_num he.1 (nB e.K ++ (gdB e.g ++ t))
  have h2 := fw_sm hk (gdB e.g ++ t)
  have h3 := fw_gd he.2.2 t
  unfold enB enOf enN
  rw [List.append_assoc, List.append_assoc, h1.1, h1.2, h2.1, h2.2, h3.1, h3.2]
  exact ⟨rfl, rfl⟩
theorem fw_ens : ∀ (l : List En) (t : List UInt8), (∀ e ∈ l, wfE e) → (∀ e ∈ l, 0 ≤ e.K ∧ e.K ≤ 1000) → ensR l.length (some (l.flatMap enB ++ t)) = (l, some t)
  | [], _, _, _ => rfl
  | g :: l, t, h, hk => by
    have h1 := fw_en (h g List.mem_cons_self) (hk g List.mem_cons_self) (l.flatMap enB ++ t)
    have h2 := fw_ens l t (fun x hx => h x (List.mem_cons_of_mem _ hx)) fun x hx => hk x (List.mem_cons_of_mem _ hx)
    rw [List.flatMap_cons, List.append_assoc, List.length_cons]
    unfold ensR
    rw [h1.1, h1.2, h2]
theorem fw_ln {x : Ln} (hx : LnOk x) (hB : x.B ≤ 1000) (hl : x.l.length ≤ 1000) (t : List UInt8) : lnL (some (lineB x ++ t)) = x ∧ lnS (some (lineB x ++ t)) = some t := by
  obtain ⟨E, B, L, l⟩ := x
  obtain ⟨hE, hB0, -, hg⟩ := hx
  dsimp only at hE hB hB0 hl hg
  have h1 := fw_num hE (nB B ++ (Wire.putNum (b01 L) ++ (nB (l.length : Nat) ++ (l.flatMap gdB ++ t))))
  have h2 := fw_sm (x := B) ⟨hB0.1, hB⟩ (Wire.putNum (b01 L) ++ (nB (l.length : Nat) ++ (l.flatMap gdB ++ t)))
  have h3 := fw_yes L (nB (l.length : Nat) ++ (l.flatMap gdB ++ t))
  have h4 := fw_sm (x := (l.length : Nat)) ⟨by omega, by omega⟩ (l.flatMap gdB ++ t)
  have h5 := fw_gds l t hg
  have h6 : smV (some (nB (l.length : Nat) ++ (l.flatMap gdB ++ t))) = l.length := by have := h4.1; omega
  unfold lineB lnL lnS
  dsimp only
  rw [List.append_assoc, List.append_assoc, List.append_assoc, List.append_assoc, h1.1, h1.2, h2.1, h2.2, h3.1, h3.2, h6, h4.2, h5]
  exact ⟨rfl, rfl⟩
theorem fw_part {p : Prt} (hp : checkP p = 0) (hw : wfPr p) (t : List UInt8) : ptP (some (partB p ++ t)) = p ∧ ptS (some (partB p ++ t)) = some t := by
  have hok := okP_of hp
  have hlen : (encS p).data.toList.length < 256 ^ 8 := by
    have h1 := encS_le p
    have h2 : (encS p).data.toList.length = (encS p).size := Array.length_toList
    rw [h2, p256]
    omega
  have ht := Wire.text_put _ hlen t
  obtain ⟨d1, d2⟩ := dec_enc hw hok 99 9 (by decide) (by decide)
  unfold ptP ptS partB
  rw [ht]
  dsimp only
  rw [strOf_data, d1, d2]
  exact ⟨rfl, if_pos rfl⟩
theorem fw_st {x : Int} (hx : 0 ≤ x ∧ x ≤ 9223372036854775807) (t : List UInt8) : stV (some (nB x ++ t)) = x ∧ nx (some (nB x ++ t)) = some t := by
  have h1 : ((x.toNat : Nat) : Int) = x := Int.toNat_of_nonneg hx.1
  have h2 : x.toNat < 256 ^ 8 := by rw [p256]; have := hx.2; omega
  have h := Wire.num_put x.toNat h2 t
  unfold stV nx nB
  rw [h]
  dsimp only
  rw [h1]
  exact ⟨IntWalk.wrap64_in _ (by have := hx.1; have := hx.2; omega), rfl⟩
theorem fw_all {m m' : Ms} {st : Wire.St} (hm : MsOk m) (h : RDA (bytesM m) m' st) : m' = ownM m ∧ st = some [] := by
  obtain ⟨hK, h1, h2, h3, h4, h5, h6, h7⟩ := h
  have hk := mayM_K hm.may
  have q0 := fw_sm (x := m.K) ⟨by omega, by omega⟩ (bodyB m)
  have q1 : nx (some (bytesM m)) = some (bodyB m) := q0.2
  have q2 : m'.K = m.K := hK.trans q0.1
  rw [q1, q2] at h1 h2 h3 h4 h5 h6 h7
  clear hK q0 q1
  have hA := fun h : m.K ≤ 4 => mayM_a hm.may h
  have hw := hm.wf
  unfold ownM setOwn
  unfold bodyB at h1 h2 h3 h4 h5 h6 h7
  rcases (show m.K = 1 ∨ m.K = 2 ∨ m.K = 3 ∨ m.K = 4 ∨ m.K = 5 ∨ m.K = 6 ∨ m.K = 7 by omega) with k | k | k | k | k | k | k
  · obtain ⟨e, f⟩ := h1 k
    have ha := (hA (by omega)).P
    rw [if_pos k] at e f ⊢
    unfold askB at e f
    have g1 := fw_num hw.T (nB m.P ++ nB m.PT)
    have g2 := fw_sm (x := m.P) ⟨ha.1, by omega⟩ (nB m.PT)
    have g3 := fw_num hw.PT []
    rw [List.append_nil] at g3
    rw [g1.1, g1.2, g2.1, g2.2, g3.1] at e
    rw [g1.2, g2.2, g3.2] at f
    rw [k]
    exact ⟨e, f⟩
  · obtain ⟨e, f⟩ := h2 k
    rw [if_neg (by omega), if_pos k] at e f ⊢
    unfold voteB at e f
    have g1 := fw_num hw.T (Wire.putNum (b01 m.Y))
    have g2 := fw_yes m.Y []
    rw [List.append_nil] at g2
    rw [g1.1, g1.2, g2.1] at e
    rw [g1.2, g2.2] at f
    rw [k]
    exact ⟨e, f⟩
  · obtain ⟨e, f⟩ := h3 k
    have ha := hA (by omega)
    have hks := logC_kinds ha.log
    have hes := hm.es
    rw [if_neg (by omega), if_neg (by omega), if_pos k] at e f ⊢
    unfold appsB askB entsB at e f
    simp only [List.append_assoc] at e f
    have g1 := fw_num hw.T (nB m.P ++ (nB m.PT ++ (nB (m.es.length : Nat) ++ (m.es.flatMap enB ++ (nB m.C ++ nB m.S)))))
    have g2 := fw_sm (x := m.P) ⟨ha.P.1, by have := ha.P.2; omega⟩ (nB m.PT ++ (nB (m.es.length : Nat) ++ (m.es.flatMap enB ++ (nB m.C ++ nB m.S))))
    have g3 := fw_num hw.PT (nB (m.es.length : Nat) ++ (m.es.flatMap enB ++ (nB m.C ++ nB m.S)))
    have g4 := fw_sm (x := (m.es.length : Nat)) ⟨by omega, by have := ha.len; omega⟩ (m.es.flatMap enB ++ (nB m.C ++ nB m.S))
    have g4' : smV (some (nB (m.es.length : Nat) ++ (m.es.flatMap enB ++ (nB m.C ++ nB m.S)))) = m.es.length := by have := g4.1; omega
    have g5 := fw_ens m.es (nB m.C ++ nB m.S) hes fun e he => by have := hks e he; omega
    have g6 := fw_sm (x := m.C) ⟨ha.C.1, by have := ha.C.2; omega⟩ (nB m.S)
    have g7 := fw_st (x := m.S) ⟨ha.S, upto_i64 hw.S⟩ []
    rw [List.append_nil] at g7
    rw [g1.1, g1.2, g2.1, g2.2, g3.1, g3.2, g4', g4.2, g5] at e
    rw [g1.2, g2.2, g3.2, g4', g4.2, g5] at f
    dsimp only at e f
    rw [g6.1, g6.2, g7.1] at e
    rw [g6.2, g7.2] at f
    rw [k]
    exact ⟨e, f⟩
  · obtain ⟨e, f⟩ := h4 k
    have ha := hA (by omega)
    rw [if_neg (by omega), if_neg (by omega), if_neg (by omega), if_pos k] at e f ⊢
    unfold appdB voteB at e f
    simp only [List.append_assoc] at e f
    have g1 := fw_num hw.T (Wire.putNum (b01 m.Y) ++ (nB m.M ++ nB m.S))
    have g2 := fw_yes m.Y (nB m.M ++ nB m.S)
    have g6 := fw_sm (x := m.M) ⟨ha.M.1, by have := ha.M.2; omega⟩ (nB m.S)
    have g7 := fw_st (x := m.S) ⟨ha.S, upto_i64 hw.S⟩ []
    rw [List.append_nil] at g7
    rw [g1.1, g1.2, g2.1, g2.2, g6.1, g6.2, g7.1] at e
    rw [g1.2, g2.2, g6.2, g7.2] at f
    rw [k]
    exact ⟨e, f⟩
  · obtain ⟨e, f⟩ := h5 k
    have hl := checkL_ok (mayM_l hm.may (by omega))
    have hp := pullB_ok (mayM_pull hm.may k)
    rw [if_neg (by omega), if_neg (by omega), if_neg (by omega), if_neg (by omega), if_pos k] at e f ⊢
    unfold pullL at e f
    have g1 := fw_ln (hm.line (by omega)) (by omega) (by omega) (nB m.n ++ (gdB m.la ++ (gdB m.ta ++ nB m.N)))
    have g2 := fw_sm (x := m.n) ⟨hp.1.1, by omega⟩ (gdB m.la ++ (gdB m.ta ++ nB m.N))
    have g3 := fw_gd hw.la (gdB m.ta ++ nB m.N)
    have g4 := fw_gd hw.ta (nB m.N)
    have g5 := fw_sm (x := m.N) ⟨hp.2.1, by omega⟩ []
    rw [List.append_nil] at g5
    rw [g1.1, g1.2, g2.1, g2.2, g3.1, g3.2, g4.1, g4.2, g5.1] at e
    rw [g1.2, g2.2, g3.2, g4.2, g5.2] at f
    rw [k]
    exact ⟨e, f⟩
  · obtain ⟨e, f⟩ := h6 k
    have hl := checkL_ok (mayM_l hm.may (by omega))
    rw [if_neg (by omega), if_neg (by omega), if_neg (by omega), if_neg (by omega), if_neg (by omega), if_pos k] at e f ⊢
    unfold partL at e f
    have g1 := fw_ln (hm.line (by omega)) (by omega) (by omega) (partB m.p)
    have g2 := fw_part (mayM_part hm.may k) hw.p []
    rw [List.append_nil] at g2
    rw [g1.1, g1.2, g2.1] at e
    rw [g1.2, g2.2] at f
    rw [k]
    exact ⟨e, f⟩
  · obtain ⟨e, f⟩ := h7 k
    have hl := checkL_ok (mayM_l hm.may (by omega))
    rw [if_neg (by omega), if_neg (by omega), if_neg (by omega), if_neg (by omega), if_neg (by omega), if_neg (by omega)] at e f ⊢
    have g1 := fw_ln (hm.line (by omega)) (by omega) (by omega) []
    rw [List.append_nil] at g1
    rw [g1.1] at e
    rw [g1.2] at f
    rw [k]
    exact ⟨e, f⟩
/-! ### with their sum -/
theorem rf_good {s : ByteArray} {m : Ms} (ho : Crc.opens s.data.toList = true) (h : RDA (textL s) m (some [])) (hm : MsOk m) (hc : checkB m = true) : decM s = m ∧ decZ s = 0 := by
  have h1 := bk_all h hm.may
  obtain ⟨g1, g2, g3⟩ := enc_dec hm hc
  have hs : encM m = s := by
    rw [g3, ← h1]
    unfold Crc.opens at ho
    rw [Bool.and_eq_true, decide_eq_true_iff, decide_eq_true_iff] at ho
    have hs : s.data.toList.length = s.size := Array.length_toList
    rw [hs] at ho
    unfold textL
    rw [ho.2, strOf_data]
  rw [hs] at g1 g2
  exact ⟨g2, by unfold decZ; rw [if_pos g1]⟩
theorem rf_bad {s : ByteArray} (h : Crc.opens s.data.toList = false ∨ ∃ m st, RDA (textL s) m st ∧ (st ≠ some [] ∨ checkB m = false)) : decM s = zeroM ∧ decZ s = 4 := by
  have hd : decOkM s = false := by
    cases hq : decOkM s with
    | false => rfl
    | true =>
      exfalso
      obtain ⟨g1, g2, g3⟩ := dec_enc2 hq
      obtain ⟨-, -, g4⟩ := enc_dec g1 g2
      rw [g3] at g4
      have ht : textL s = bytesM (decM s) := by
        have := textL_sealed (bytesM (decM s))
        rw [← g4] at this
        exact this
      rcases h with ho | ⟨m, st, hr, hb⟩
      · unfold decOkM at hq
        rw [ho] at hq
        cases hq
      · rw [ht] at hr
        obtain ⟨e1, e2⟩ := fw_all g1 hr
        rw [(checkB_ok g1).1 g2] at e1
        rcases hb with hb | hb
        · exact hb e2
        · rw [e1, g2] at hb
          cases hb
  unfold decM decZ
  rw [hd]
  exact ⟨rfl, rfl⟩
end Go.Proofs.YtikimmhkfjaijaaGreat
namespace Go.Proofs.YtikimmhkfjaijaaGreat
open Go.RowKit Reg Go.ChangeShapes

/-- what a reading function leaves: its value, the reader's state; of what was there nothing but the reader has turned -/
def RdPost (w : World) (r : Nat) (v : Value) (st : Wire.St) (e : Ending) (w' : World) : Prop := e = .returned v ∧ RdR w' r st ∧ w.grownBy w' (some r)
theorem RdR.blk {w : World} {r : Nat} {st : Wire.St} (h : RdR w r st) : ∃ s b, Blk w r 68 #[.string s, .bool b] := by
  cases st with
  | none => obtain ⟨s, h⟩ := h; exact ⟨s, _, h⟩
  | some l => exact ⟨_, _, h.2⟩
theorem RdR.flag {w : World} {r : Nat} {st : Wire.St} (h : RdR w r st) : w.cell? ⟨r, 1, none⟩ = some (.bool (decide (st = none))) := by
  cases st with
  | none => obtain ⟨s, h⟩ := h; rw [h.cell]; rfl
  | some l => rw [h.2.cell]; rfl
theorem sm_le (st : Wire.St) : smV st ≤ 1001 := by
  unfold smV
  split <;> omega
set_option maxRecDepth 100000 in
theorem rsmall_any (r : Nat) (st : Wire.St) (w : World) (h : RdR w r st) : Calls Tryz.prog 62 #[.pointer (some ⟨r, 0, none⟩)] w (RdPost w r (.int .i64 (smV st : Nat)) (nx st)) := by
  have HN := Lib.hid (refNum_any r st w h)
  obtain ⟨k, hk⟩ : ∃ k, k = smV st := ⟨_, rfl⟩
  rw [← hk]
  unfold smV at hk
  have HKK := Lib.hid hk
  clear hk
  have HNX := Lib.hid (show nx st = (Wire.num st).2 from rfl)
  clear h
  generalize nx st = s2 at *
  unfold NumPostR at HN
  go_enter Tryz.func62, Tryz.ntmps62
  go_wp2_with fail
  refine HN.out.mono ?_
  rintro e w2 ⟨rfl, h1, h2⟩
  rw [← HNX.out] at h1
  have H := Lib.hid (And.intro h1 h2)
  clear h1 h2 HN HNX
  generalize (Wire.num st).1 = n at *
  have hk := HKK.out
  clear HKK
  by_cases hn : 1000 < n
  · rw [if_pos hn] at hk
    have HK := Lib.hid hk
    have i1 : (1000 : Int) < (n : Int) := by omega
    clear hk
    go_wp2
    go_ret
    exact ⟨by rw [HK.out]; rfl, H.out.1, H.out.2⟩
  · rw [if_neg hn] at hk
    have HK := Lib.hid hk
    have i1 : ¬ (1000 : Int) < (n : Int) := by omega
    have i2 : IntKind.i64.wrap (n : Int) = (n : Int) := IntWalk.i64_in _ (by omega)
    have i3 : wrap64 (n : Int) = (n : Int) := IntWalk.wrap64_in _ (by omega)
    clear hk
    go_wp2
    go_ret
    exact ⟨by rw [HK.out]; rfl, H.out.1, H.out.2⟩
set_option maxRecDepth 100000 in
theorem ryes_any (r : Nat) (st : Wire.St) (w : World) (h : RdR w r st) : Calls Tryz.prog 65 #[.pointer (some ⟨r, 0, none⟩)] w (RdPost w r (.bool (yesV st)) (yesS st)) := by
  have HN := Lib.hid (refNum_any r st w h)
  obtain ⟨b, hb⟩ : ∃ b, b = yesV st := ⟨_, rfl⟩
  obtain ⟨s3, hs⟩ : ∃ k, k = yesS st := ⟨_, rfl⟩
  rw [← hb, ← hs]
  unfold yesV at hb
  unfold yesS at hs
  have HBB := Lib.hid hb
  have HSS := Lib.hid hs
  clear hb hs
  have HNX := Lib.hid (show nx st = (Wire.num st).2 from rfl)
  clear h
  generalize nx st = s2 at *
  unfold NumPostR at HN
  go_enter Tryz.func65, Tryz.ntmps65
  go_wp2_with fail
  refine HN.out.mono ?_
  rintro e w2 ⟨rfl, h1, h2⟩
  rw [← HNX.out] at h1
  have H := Lib.hid (And.intro h1 h2)
  clear h1 h2 HN HNX
  generalize (Wire.num st).1 = n at *
  have hb := HBB.out
  have hs := HSS.out
  clear HBB HSS
  by_cases hn : 1 < n
  · rw [if_pos hn] at hs
    rw [decide_eq_false (by omega)] at hb
    obtain ⟨sx, bx, hbk⟩ := H.out.1.blk
    have c1 : w2.cell? ⟨r, 1, none⟩ = some (.bool bx) := hbk.cell 1
    have f1 := hbk.frozen 1
    have HBK := Lib.hid hbk
    have i1 : (1 : Int) < (n : Int) := by omega
    have i2 : ((n : Int) == 1) = false := beq_eq_false_iff_ne.2 (by omega)
    subst hb hs
    clear hbk
    go_wp2
    go_ret
    exact ⟨rfl, ⟨sx, HBK.out.set 1 (.bool true)⟩, grownBy_trans H.out.2 (grownBy_set _ _ _ _)⟩
  · rw [if_neg hn] at hs
    have i1 : ¬ (1 : Int) < (n : Int) := by omega
    have i2 : ((n : Int) == 1) = b := by
      rw [hb]
      by_cases q : n = 1
      · subst q; rfl
      · rw [decide_eq_false q]; exact beq_eq_false_iff_ne.2 (by omega)
    subst hs
    clear hb
    go_wp2
    go_ret
    exact ⟨rfl, H.out.1, H.out.2⟩
set_option maxRecDepth 100000 in
theorem rdguid_any (r : Nat) (st : Wire.St) (w : World) (h : RdR w r st) : Calls Tryz.prog 66 #[.pointer (some ⟨r, 0, none⟩)] w (RdPost w r (.agg #[.int .u64 (gdOf st).1, .int .u64 (gdOf st).2]) (nx (nx st))) := by
  have hrl := h.lt
  have hb0 := (Below.refl w.heap.size w).alloc (Nat.le_refl _) (Obj.cells #[.int .u64 0, .int .u64 0] 28)
  have hg1 := Blk.new w 28 #[.int .u64 0, .int .u64 0]
  have h1 := h.keep hb0
  have HB0 := Lib.hid hb0
  have HR := Lib.hid h1
  have HG := Lib.hid hg1
  have HRL := Lib.hid hrl
  clear h hb0 hg1 h1 hrl
  go_enter Tryz.func66, Tryz.ntmps66
  go_wp2_with fail
  generalize w.alloc (Obj.cells #[.int .u64 0, .int .u64 0] 28) = w1 at *
  refine (refNum_any r st w1 HR.out).mono ?_
  rintro e w2 ⟨rfl, h1, h2⟩
  have H1 := Lib.hid (show RdR w2 r (nx st) from h1)
  have H2 := Lib.hid h2
  have HG2 := Lib.hid ((Kp.of_row h2).blk HG.out (A := (· = r)) (fun e => by have := HRL.out; omega))
  clear h1 h2
  go_wp2_with fail
  refine (refNum_any r (nx st) w2 H1.out).mono ?_
  rintro e w3 ⟨rfl, h1, h2⟩
  have H3 := Lib.hid (show RdR w3 r (nx (nx st)) from h1)
  have H4 := Lib.hid (grownBy_trans H2.out h2)
  have HG3 := Lib.hid ((Kp.of_row h2).blk HG2.out (A := (· = r)) (fun e => by have := HRL.out; omega))
  have HGD := Lib.hid (show gdOf st = ((((Wire.num st).1 : Nat) : Int), (((Wire.num (nx st)).1 : Nat) : Int)) from rfl)
  clear h1 h2
  generalize (Wire.num st).1 = n1 at *
  generalize (Wire.num (nx st)).1 = n2 at *
  go_wp2_with (refine wpList_store_then rfl 28 _ _ rfl w.heap.size #[.int .u64 (n1 : Int), .int .u64 (n2 : Int)] rfl rfl 28 _ HG3.out (by kernel_rfl) rfl (by rw [← Array.all_toList]; rfl) ?_)
  refine Later.mk fun w9 hw9 => ?_
  have H9 := Lib.hid (show RdR w9 r (nx (nx st)) ∧ w.grownBy w9 (some r) ∧ Blk w9 w.heap.size 28 #[.int .u64 (n1 : Int), .int .u64 (n2 : Int)] by
    rw [hw9]
    refine ⟨H3.out.below (Below.setRow (Below.refl _ _) (Nat.le_refl _) _) HRL.out, ?_, HG3.out.row _⟩
    have hg := grownBy_trans (grownBy_below (row := some r) HB0.out) H4.out
    exact ⟨hg.os, hg.tape, hg.output, by simpa [World.setRow] using hg.size, fun i hi hr => by
      have := hg.block i hi hr
      rw [← this]
      simp only [World.setRow, Array.getElem?_modify]
      rw [if_neg (by omega)]⟩)
  clear hw9
  go_wp2
  refine bodyPost_ret (results_cell1 (ty := 28) (g := w.heap.size) (k := 2) rfl rfl H9.out.2.2 Tryz.underlying28 rfl (by kernel_rfl)) rfl ⟨by rw [HGD.out], H9.out.1, H9.out.2.1⟩
theorem rend_any (r : Nat) (st : Wire.St) (w : World) (h : RdR w r st) : Calls Tryz.prog 41 #[.pointer (some ⟨r, 0, none⟩)] w fun e w' => e = .returned (.bool (endB st)) ∧ w = w' := by
  have c1 := h.flag
  cases st with
  | none =>
    clear h
    go_enter Tryz.func41, Tryz.ntmps41
    go_wp2
    go_ret
    exact ⟨rfl, rfl⟩
  | some l =>
    have c0 : w.cell? ⟨r, 0, none⟩ = some (.string (strOf l)) := h.2.cell 0
    obtain ⟨b, hb⟩ : ∃ b, b = endB (some l) := ⟨_, rfl⟩
    have he : ((strOf l).toList == (ByteArray.empty).toList) = b := by
      rw [hb, Bool.eq_iff_iff, str_iff]
      unfold endB
      rw [decide_eq_true_iff]
      constructor
      · intro q
        have := congrArg (fun s : ByteArray => s.data.toList) q
        simp only [strOf_list] at this
        rw [this]
        rfl
      · intro q
        rw [Option.some.inj q]
        rfl
    have e0 : ByteArray.empty.toList = [] := by simp
    have he2 : (strOf l).toList.isEmpty = b := by
      rw [← he, e0]
      cases (strOf l).toList <;> rfl
    rw [← hb]
    have HE2 := Lib.hid he2
    clear h hb he he2 e0
    generalize strOf l = s at *
    go_enter Tryz.func41, Tryz.ntmps41
    go_wp2
    go_ret
    exact ⟨by rw [← HE2.out]; rfl, rfl⟩
theorem Kp.trans_row {A : Nat → Prop} {r : Nat} {w0 w w' : World} (h : Kp A w0 w) (hg : w.grownBy w' (some r)) (hr : A r) : Kp A w0 w' := h.trans ((Kp.of_row hg).mono fun b hb => by rw [hb]; exact hr)
theorem own_kp {A : Nat → Prop} {w w' : World} {base e m n : Nat} {v : Value} {xs : List Value} (h : Kp A w w') (ho : w.ownsRow base e m v n xs) (hA : ∀ b, base ≤ b → ¬ A b) : w'.ownsRow base e m v n xs := by
  refine ⟨ho.1, ?_⟩
  rcases ho.2 with hn | ⟨g', cap, cur, rfl, hb, hh, rest⟩
  · exact .inl hn
  · exact .inr ⟨g', cap, cur, rfl, hb, (h.2 g' (lt_of_block hh) (hA g' hb)).trans hh, rest⟩
theorem gdOf_wf (st : Wire.St) : wfG (gdOf st) := ⟨num_wf _, num_wf _⟩
theorem kp_cell (w : World) (g i : Nat) (u : Value) : Kp (· = g) w (w.setCell ⟨g, i, none⟩ u) := ⟨(Below.refl 0 w).setCell (Nat.zero_le _) _, fun b _ hn => Below.heap_setCell w _ _ b hn⟩
theorem kp_setRow (w : World) (k : Nat) (ds : Array Value) : Kp (· = k) w (w.setRow k ds) := ⟨Below.setRow (Below.refl 0 w) (Nat.zero_le _) _, fun b _ hn => by
  simp only [World.setRow, Array.getElem?_modify]
  rw [if_neg (fun e => hn e.symm)]⟩
theorem OwG.farRow_ {w : World} {base k : Nat} {v : Value} {gs : List Gd} (h : OwG w base v gs) (hk : k < base) (ds : Array Value) : OwG (w.setRow k ds) base v gs := ⟨own_kp (kp_setRow w k ds) h.1 fun b hb e => by omega, h.2⟩
theorem OwG.mono_ {w : World} {base base' : Nat} {v : Value} {gs : List Gd} (h : OwG w base v gs) (hb : base' ≤ base) : OwG w base' v gs := by
  refine ⟨⟨h.1.1, ?_⟩, h.2⟩
  rcases h.1.2 with hn | ⟨g, cap, cur, rfl, hg, rest⟩
  · exact .inl hn
  · exact .inr ⟨g, cap, cur, rfl, Nat.le_trans hb hg, rest⟩
theorem line_one (a b : Int) (c : Bool) (sp : Option Addr) (n m : Nat) : ((#[.int .u64 a, .int .i64 b, .bool c, .slice sp n m] : Array Value).all fun x => x.oneCell') = true := by
  rw [← Array.all_toList]
  rfl
/-- while a line is read: the reader, the line in block P, its list -/
structure DL (W : World) (r P : Nat) (st : Wire.St) (cs : Array Value) (w : World) : Prop where
  rd : RdR w r st
  bp : Blk w P 26 cs
  kp : Kp (fun b => b = r ∨ b = P) W w
  o1 : r < P
  o2 : P < W.heap.size
section
variable {W w w' : World} {r P : Nat} {st st' : Wire.St} {cs : Array Value}
theorem DL.read (h : DL W r P st cs w) (hg : w.grownBy w' (some r)) (hr : RdR w' r st') : DL W r P st' cs w' := by
  have h1 := h.o1
  exact ⟨hr, (Kp.of_row hg).blk h.bp (A := (· = r)) (by omega), h.kp.trans_row hg (.inl rfl), h1, h.o2⟩
theorem DL.set (h : DL W r P st cs w) (i : Nat) (u : Value) : DL W r P st (cs.setIfInBounds i u) (w.setCell ⟨P, i, none⟩ u) := by
  have h1 := h.o1
  exact ⟨h.rd.set (by omega) _ _, h.bp.set i u, h.kp.set (p := ⟨P, i, none⟩) (.inr rfl) u, h1, h.o2⟩
theorem DL.keep (h : DL W r P st cs w) (hb : Below w.heap.size w w') : DL W r P st cs w' := ⟨h.rd.keep hb, h.bp.keep hb, h.kp.ext (hb.mono h.kp.size), h.o1, h.o2⟩
theorem DL.above (h : DL W r P st cs w) (hb : Below W.heap.size w w') : DL W r P st cs w' := by
  have h1 := h.o1
  have h3 := h.o2
  exact ⟨h.rd.below hb (by omega), h.bp.below hb h3, h.kp.ext hb, h1, h3⟩
theorem OwG.kp {A : Nat → Prop} {base : Nat} {v : Value} {gs : List Gd} (h : OwG w base v gs) (hk : Kp A w w') (hA : ∀ b, base ≤ b → ¬ A b) : OwG w' base v gs := ⟨own_kp hk h.1 hA, h.2⟩
end
/-- 'l.List = append(l.List, readGuid(r))' -/
def JL (W : World) (r P : Nat) (st1 st2 : Wire.St) (c0 : Value → Array Value) (sl : Value) (gs : List Gd) (x : Gd) : List Value → World → Prop
  | [], w => DL W r P st1 (c0 sl) w ∧ OwG w W.heap.size sl gs
  | [_], w => DL W r P st2 (c0 sl) w ∧ OwG w W.heap.size sl gs
  | [_, u], w => DL W r P st2 (c0 sl) w ∧ OwG w W.heap.size sl gs ∧ InG w u [x]
  | [_, _, u], w => DL W r P st2 (c0 sl) w ∧ OwG w W.heap.size u (gs ++ [x])
  | [_, _, u, _], w => DL W r P st2 (c0 u) w ∧ OwG w W.heap.size u (gs ++ [x])
  | _, _ => False
theorem gds_step (k : Nat) (l : List UInt8) (T : List Gd) (st' : Wire.St) (gs : List Gd) (h : gs ++ (gdsR (k + 1) (some l)).1 = T ∧ (gdsR (k + 1) (some l)).2 = st') : (gs ++ [gdOf (some l)]) ++ (gdsR k (nx (nx (some l)))).1 = T ∧ (gdsR k (nx (nx (some l)))).2 = st' := by
  obtain ⟨h1, h2⟩ := h
  refine ⟨?_, h2⟩
  rw [← h1, List.append_assoc]
  rfl
set_option maxRecDepth 100000 in
set_option maxHeartbeats 4000000 in
theorem rdline_any (r : Nat) (st : Wire.St) (w : World) (h : RdR w r st) : Calls Tryz.prog 64 #[.pointer (some ⟨r, 0, none⟩)] w fun e w' => ∃ sl, e = .returned (.agg #[.int .u64 (lnL st).E, .int .i64 (lnL st).B, .bool (lnL st).L, sl]) ∧ OwG w' w.heap.size sl (lnL st).l ∧ RdR w' r (lnS st) ∧ w.grownBy w' (some r) := by
  obtain ⟨x, hx⟩ : ∃ x, x = lnL st := ⟨_, rfl⟩
  obtain ⟨s9, hs9⟩ : ∃ x, x = lnS st := ⟨_, rfl⟩
  rw [← hx, ← hs9]
  unfold lnL at hx
  unfold lnS at hs9
  have HX := Lib.hid hx
  have HS := Lib.hid hs9
  have hrl := h.lt
  have hb1 := ((Below.refl w.heap.size w).alloc (Nat.le_refl _) (Obj.cells #[.int .u64 0, .int .i64 0, .bool false, .slice none 0 0] 26)).alloc (by simp) (Obj.cells #[.int .u64 0, .int .i64 0, .bool false, .slice none 0 0] 26)
  have hz1 : Blk ((w.alloc (Obj.cells #[.int .u64 0, .int .i64 0, .bool false, .slice none 0 0] 26)).alloc (Obj.cells #[.int .u64 0, .int .i64 0, .bool false, .slice none 0 0] 26)) w.heap.size 26 #[.int .u64 0, .int .i64 0, .bool false, .slice none 0 0] := (Blk.new w _ _).alloc _
  have hl1 : Blk ((w.alloc (Obj.cells #[.int .u64 0, .int .i64 0, .bool false, .slice none 0 0] 26)).alloc (Obj.cells #[.int .u64 0, .int .i64 0, .bool false, .slice none 0 0] 26)) (w.heap.size + 1) 26 #[.int .u64 0, .int .i64 0, .bool false, .slice none 0 0] := Blk.newAt (w := w.alloc (Obj.cells #[.int .u64 0, .int .i64 0, .bool false, .slice none 0 0] 26)) _ _ (by simp)
  have hsz : ((w.alloc (Obj.cells #[.int .u64 0, .int .i64 0, .bool false, .slice none 0 0] 26)).alloc (Obj.cells #[.int .u64 0, .int .i64 0, .bool false, .slice none 0 0] 26)).heap.size = w.heap.size + 1 + 1 := by simp
  have HSZ := Lib.hid hsz
  have HD := Lib.hid (show DL ((w.alloc (Obj.cells #[.int .u64 0, .int .i64 0, .bool false, .slice none 0 0] 26)).alloc (Obj.cells #[.int .u64 0, .int .i64 0, .bool false, .slice none 0 0] 26)) r (w.heap.size + 1) st #[.int .u64 0, .int .i64 0, .bool false, .slice none 0 0] ((w.alloc (Obj.cells #[.int .u64 0, .int .i64 0, .bool false, .slice none 0 0] 26)).alloc (Obj.cells #[.int .u64 0, .int .i64 0, .bool false, .slice none 0 0] 26)) from ⟨h.keep hb1, hl1, Kp.refl _ _, by omega, by omega⟩)
  have HB1 := Lib.hid hb1
  have HZ1 := Lib.hid hz1
  have HRL := Lib.hid hrl
  clear hx hs9 h hb1 hz1 hl1 hrl hsz
  go_enter Tryz.func64, Tryz.ntmps64
  go_upto_region 2 with fail
  generalize (w.alloc (Obj.cells #[.int .u64 0, .int .i64 0, .bool false, .slice none 0 0] 26)).alloc (Obj.cells #[.int .u64 0, .int .i64 0, .bool false, .slice none 0 0] 26) = W at *
  go_wp2_with fail
  refine (refNum_any r st W HD.out.rd).mono ?_
  rintro e w2 ⟨rfl, h1, h2⟩
  replace HD := Lib.hid (HD.out.read (st' := nx st) h2 h1)
  clear h1 h2
  generalize hn1 : (Wire.num st).1 = n1 at *
  clear hn1
  have c0 := HD.out.bp.cell 0
  have f0 := HD.out.bp.frozen 0
  simp at c0
  replace HD := Lib.hid (HD.out.set 0 (.int .u64 (n1 : Int)))
  generalize hs1 : nx st = s1 at *
  clear hs1
  go_wp2_with fail
  clear c0 f0
  generalize w2.setCell ⟨w.heap.size + 1, 0, none⟩ (.int .u64 (n1 : Int)) = w3 at *
  refine (rsmall_any r s1 w3 HD.out.rd).mono ?_
  rintro e w4 ⟨rfl, h1, h2⟩
  replace HD := Lib.hid (HD.out.read h2 h1)
  clear h1 h2
  generalize hB : smV s1 = B at *
  generalize hs2 : nx s1 = s2 at *
  clear hB hs2
  have c1 := HD.out.bp.cell 1
  have f1 := HD.out.bp.frozen 1
  simp at c1
  replace HD := Lib.hid (HD.out.set 1 (.int .i64 (B : Int)))
  go_wp2_with fail
  clear c1 f1
  generalize w4.setCell ⟨w.heap.size + 1, 1, none⟩ (.int .i64 (B : Int)) = w5 at *
  refine (ryes_any r s2 w5 HD.out.rd).mono ?_
  rintro e w6 ⟨rfl, h1, h2⟩
  replace HD := Lib.hid (HD.out.read h2 h1)
  clear h1 h2
  generalize hL : yesV s2 = L at *
  generalize hs3 : yesS s2 = s3 at *
  clear hL hs3
  have c2 := HD.out.bp.cell 2
  have f2 := HD.out.bp.frozen 2
  simp at c2
  replace HD := Lib.hid (HD.out.set 2 (.bool L))
  go_wp2_with fail
  clear c2 f2
  generalize w6.setCell ⟨w.heap.size + 1, 2, none⟩ (.bool L) = w7 at *
  refine (rsmall_any r s3 w7 HD.out.rd).mono ?_
  rintro e w8 ⟨rfl, h1, h2⟩
  replace HD := Lib.hid (HD.out.read h2 h1)
  clear h1 h2
  have HNL := Lib.hid (sm_le s3)
  generalize hn : smV s3 = n at *
  generalize hs4 : nx s3 = s4 at *
  clear hn hs4
  obtain ⟨c0, hc0⟩ : ∃ c0 : Value → Array Value, ∀ sl, c0 sl = #[.int .u64 (n1 : Int), .int .i64 (B : Int), .bool L, sl] := ⟨_, fun _ => rfl⟩
  have hd := HD.out
  rw [show ((((#[.int .u64 0, .int .i64 0, .bool false, .slice none 0 0] : Array Value).setIfInBounds 0 (.int .u64 (n1 : Int))).setIfInBounds 1 (.int .i64 (B : Int))).setIfInBounds 2 (.bool L)) = c0 (.slice none 0 0) from (hc0 _).symm] at hd
  replace HD := Lib.hid hd
  have HC0 := Lib.hid hc0
  have HLX0 := Lib.hid (show x.E = (n1 : Int) ∧ x.B = (B : Int) ∧ x.L = L from by rw [HX.out]; exact ⟨rfl, rfl, rfl⟩)
  clear hd hc0
  generalize hP : w.heap.size + 1 = P at *
  have HP := Lib.hid hP
  clear hP
  go_wp2_with fail
  go_loopw [5] (fun i wr => ∃ (k : Nat) (sl : Value) (gs : List Gd) (sk : Wire.St), k ≤ n ∧ gs.length = k ∧ i = .int .i64 k ∧ DL W r P sk (c0 sl) wr ∧ OwG wr W.heap.size sl gs ∧ (gs ++ (gdsR (n - k) sk).1 = x.l ∧ (gdsR (n - k) sk).2 = s9)) (fun i _ => n - (intOf i).toNat)
  case atStart => exact ⟨0, _, [], s4, Nat.zero_le _, rfl, rfl, HD.out, OwG.nil_ _ _, by rw [HX.out]; exact rfl, HS.out.symm⟩
  case round =>
    obtain ⟨k, sl, gs, sk, hk, hgl, rfl, hd, ho, hg⟩ := hrel
    clear HD
    have HD := Lib.hid hd
    have HO := Lib.hid ho
    have HG := Lib.hid hg
    have HGL := Lib.hid hgl
    have y1 := hd.rd.flag
    clear hd ho hg hgl
    have hdec : (k < n ∧ ∃ l, sk = some l) ∨ (k < n ∧ sk = none) ∨ k = n := by
      by_cases q : k < n
      · cases sk with
        | none => exact .inr (.inl ⟨q, rfl⟩)
        | some l => exact .inl ⟨q, l, rfl⟩
      · exact .inr (.inr (by omega))
    have HEND : Hid ((k < n ∧ sk = none) ∨ k = n → gs = x.l ∧ sk = s9) := Lib.hid (fun q => by
      have h := HG.out
      rcases q with ⟨q, rfl⟩ | rfl
      · rw [gdsR_none] at h
        exact ⟨by rw [← h.1, List.append_nil], h.2⟩
      · rw [Nat.sub_self] at h
        exact ⟨by rw [← h.1]; exact (List.append_nil _).symm, h.2⟩)
    rcases hdec with ⟨hkn, l, rfl⟩ | ⟨hkn, rfl⟩ | rfl
    · have i1 : (k : Int) < (n : Int) := by omega
      have y2 : wr.cell? ⟨r, 1, none⟩ = some (.bool false) := y1
      have HKN := Lib.hid hkn
      have I9 := Lib.hid (show wrap64 ((k : Int) + 1) = (k : Int) + 1 from IntWalk.wrap64_in _ (by have := HNL.out; omega))
      have HSTEP := Lib.hid (gds_step (n - (k + 1)) l x.l s9 gs (by have h := HG.out; rwa [show n - k = n - (k + 1) + 1 from by omega] at h))
      have HLE := Lib.hid (show gs.length + [gdOf (some l)].length ≤ 2 ^ 43 from by rw [HGL.out]; have := HNL.out; simp; omega)
      have HWG := Lib.hid (gdOf_wf (some l))
      have HRG := Lib.hid (fun w h => rdguid_any r (some l) w h)
      unfold RdPost at HRG
      clear hkn y1 hk HG HEND
      generalize nx (nx (some l)) = sn at *
      generalize gdOf (some l) = g at *
      obtain ⟨g1, g2⟩ := g
      generalize some l = sk at *
      go_wp2_with fail
      clear i1 y2
      refine wp_region_chain [3, 4, 5, 7] (kv [(3, .is (.agg #[.int .u64 g1, .int .u64 g2])), (4, .sl 1), (5, .sla (gs.length + 1)), (7, .is undef)]) (JL W r P sk sn c0 sl gs (g1, g2)) (by kernel_rfl) (by kernel_rfl) (by kernel_rfl) (kv_inh _) (⟨HD.out.keep (Below.drew (Below.refl _ _)), HO.out.keep (Below.drew (Below.refl _ _))⟩) ?_
      intro ν hν
      have n3 : ν 3 = .agg #[.int .u64 g1, .int .u64 g2] := hν 3
      obtain ⟨gq, n4⟩ : ∃ g, ν 4 = .slice (some ⟨g, 0, none⟩) 1 1 := hν 4
      obtain ⟨a7, c7, n5⟩ : ∃ a c, ν 5 = .slice a (gs.length + 1) c := hν 5
      have n7 : ν 7 = undef := hν 7
      clear hν
      refine ch_plain 0 4 1 (by rfl) rfl (by kernel_rfl) (by kernel_rfl) ?_
      apply Exists.intro
      refine ⟨fun st w2 hlo hhi hJ => ?_, ?_⟩
      · clear hlo hhi hJ
        go_simp
        exact And.intro rfl rfl
      simp only [Act.put, List.setIfInBounds_toArray, List.set_cons_succ, List.set_cons_zero, Nat.reduceAdd]
      refine ch_plain 0 2 1 (by rfl) rfl (by kernel_rfl) (by kernel_rfl) ?_
      apply Exists.intro
      refine ⟨fun st w2 hlo hhi hJ => ?_, ?_⟩
      · have hj : Blk w2 P 26 (c0 sl) := by
          have h1 : st = 0 ∨ st = 1 ∨ st = 2 := by omega
          rcases h1 with rfl | rfl | rfl
          · have hj : DL W r P _ (c0 sl) w2 ∧ _ := hJ
            exact hj.1.bp
          · have hj : DL W r P _ (c0 sl) w2 ∧ _ := hJ
            exact hj.1.bp
          · have hj : DL W r P _ (c0 sl) w2 ∧ _ := hJ
            exact hj.1.bp
        rw [HC0.out] at hj
        have hx := hj.cell 3
        simp at hx
        clear hj
        clear hlo hhi hJ
        go_simp
        exact And.intro rfl rfl
      simp only [Act.put, List.setIfInBounds_toArray, List.set_cons_succ, List.set_cons_zero, Nat.reduceAdd]
      refine ch_plain 0 4 1 (by rfl) rfl (by kernel_rfl) (by kernel_rfl) ?_
      apply Exists.intro
      refine ⟨fun st w2 hlo hhi hJ => ?_, ?_⟩
      · clear hlo hhi hJ
        go_simp
        exact And.intro rfl rfl
      simp only [Act.put, List.setIfInBounds_toArray, List.set_cons_succ, List.set_cons_zero, Nat.reduceAdd]
      refine ch_special 0 1 (by rfl) rfl (by decide) (by kernel_rfl) (fun w2 hJ => ?_) ?_
      · have hj : DL W r P sk (c0 sl) w2 ∧ OwG w2 W.heap.size sl gs := hJ
        go_simp
        refine (HRG.out w2 hj.1.rd).mono ?_
        rintro e w3 ⟨rfl, h1, h2⟩
        exact ⟨_, rfl, rfl, hj.1.read h2 h1, hj.2.kp (Kp.of_row h2) (fun b hb e => by have h3 := hj.1.o1; have h4 := hj.1.o2; omega)⟩
      rw [n3]
      simp only [Act.put, List.setIfInBounds_toArray, List.set_cons_succ, List.set_cons_zero, Nat.reduceAdd]
      refine ch_special 1 2 (by rfl) rfl (by decide) (by kernel_rfl) (fun w2 hJ => ?_) ?_
      · have hj : DL W r P sn (c0 sl) w2 ∧ OwG w2 W.heap.size sl gs := hJ
        go_simp
        have hbb := (Below.refl w2.heap.size w2).alloc (Nat.le_refl _) (Obj.cells #[.int .u64 g1, .int .u64 g2] 28)
        exact ⟨⟨_, rfl⟩, hj.1.keep hbb, hj.2.keep hbb, InG.litAt w2 [(g1, g2)] #[.int .u64 g1, .int .u64 g2] w2.heap.size rfl rfl (by simp) (by intro z hz; rw [List.mem_singleton.1 hz]; exact HWG.out)⟩
      rw [n4]
      simp only [Act.put, List.setIfInBounds_toArray, List.set_cons_succ, List.set_cons_zero, Nat.reduceAdd]
      refine ch_special 2 1 (by rfl) rfl (by decide) (by kernel_rfl) (fun w2 hJ => ?_) ?_
      · have hj : DL W r P sn (c0 sl) w2 ∧ OwG w2 W.heap.size sl gs ∧ InG w2 (ν 4) [(g1, g2)] := hJ
        have hws := hj.1.kp.size
        obtain ⟨v', w', hr, hp⟩ := app_guids (w := w2) 24 hj.2.1 hj.2.2 HLE.out hws
        rw [n4] at hr
        rw [exec_append (.tmp 30) (.tmp 33) 24 rfl sl (.slice (some ⟨gq, 0, none⟩) 1 1) rfl rfl v' hr]
        obtain ⟨a8, c8, e8⟩ := hp.1.rd.slice_
        have hbx := hp.below hj.2.1 hws
        exact ⟨⟨a8, c8, by rw [e8, List.length_append]; rfl⟩, hj.1.above hbx, hp.1⟩
      rw [n5]
      simp only [Act.put, List.setIfInBounds_toArray, List.set_cons_succ, List.set_cons_zero, Nat.reduceAdd]
      refine ch_plain 0 4 1 (by rfl) rfl (by kernel_rfl) (by kernel_rfl) ?_
      apply Exists.intro
      refine ⟨fun st w2 hlo hhi hJ => ?_, ?_⟩
      · clear hlo hhi hJ
        go_simp
        exact And.intro rfl rfl
      simp only [Act.put, List.setIfInBounds_toArray, List.set_cons_succ, List.set_cons_zero, Nat.reduceAdd]
      refine ch_special 3 1 (by rfl) rfl (by decide) (by kernel_rfl) (fun w2 hJ => ?_) ?_
      · have hj : DL W r P sn (c0 sl) w2 ∧ OwG w2 W.heap.size (ν 5) (gs ++ [(g1, g2)]) := hJ
        have hbp := hj.1.bp
        rw [HC0.out] at hbp
        have hx := hbp.cell 3
        have hf := hbp.frozen 3
        simp at hx
        have HJ := Lib.hid hj
        clear hj hJ hbp
        go_simp
        refine ⟨rfl, ?_⟩
        show DL W r P sn (c0 (.slice a7 (gs.length + 1) c7)) _ ∧ OwG _ W.heap.size (.slice a7 (gs.length + 1) c7) (gs ++ [(g1, g2)])
        rw [← n5]
        have hs := HJ.out.1.set 3 (ν 5)
        rw [HC0.out] at hs
        rw [HC0.out]
        exact ⟨hs, HJ.out.2.kp (A := (· = P)) (kp_cell _ _ _ _) (fun b hb e => by have h4 := HJ.out.1.o2; omega)⟩
      rw [n7]
      simp only [Act.put, Nat.reduceAdd]
      refine ch_nil (fun w5 hJ => ?_)
      have HF := Lib.hid (show DL W r P sn (c0 (ν 5)) w5 ∧ OwG w5 W.heap.size (ν 5) (gs ++ [(g1, g2)]) from hJ)
      clear hJ n3 n4 n5 n7
      go_wp2
      rw [I9.out]
      exact ⟨⟨k + 1, ν 5, gs ++ [(g1, g2)], sn, HKN.out, by rw [List.length_append, HGL.out]; rfl, rfl, HF.out.1, HF.out.2, HSTEP.out⟩, meas_succ HKN.out⟩
    · obtain ⟨e1, e2⟩ := HEND.out (.inl ⟨hkn, rfl⟩)
      replace HD := Lib.hid (show DL W r P s9 (c0 sl) wr from e2 ▸ HD.out)
      subst e1
      have i1 : (k : Int) < (n : Int) := by omega
      have y2 : wr.cell? ⟨r, 1, none⟩ = some (.bool true) := y1
      clear hkn y1 hk HG HEND e2
      obtain ⟨a3, c3, hsl⟩ := HO.out.rd.slice_
      subst hsl
      have hbp := HD.out.bp
      rw [HC0.out] at hbp
      have z0 := hbp.cell 0
      have z1 := hbp.cell 1
      have z2 := hbp.cell 2
      have z3 := hbp.cell 3
      simp at z0 z1 z2 z3
      have hzz := HD.out.kp.blk HZ1.out (by have := HP.out; have := HRL.out; omega)
      have HBE := Lib.hid (HD.out.kp)
      have HZZ := Lib.hid hzz
      have HLX := Lib.hid (show x.E = (n1 : Int) ∧ x.B = (B : Int) ∧ x.L = L from HLX0.out)
      clear hbp hzz
      go_wp2_with (first | refine wpList_store_then rfl 26 _ _ rfl w.heap.size #[.int .u64 (n1 : Int), .int .i64 (B : Int), .bool L, .slice a3 x.l.length c3] rfl rfl 26 _ HZZ.out (by kernel_rfl) rfl (line_one _ _ _ _ _ _) ?_)
      refine Later.mk fun w9 hw9 => ?_
      have H9 := Lib.hid (show RdR w9 r s9 ∧ OwG w9 w.heap.size (.slice a3 x.l.length c3) x.l ∧ w.grownBy w9 (some r) ∧ Blk w9 w.heap.size 26 #[.int .u64 (n1 : Int), .int .i64 (B : Int), .bool L, .slice a3 x.l.length c3] by
        have e1 := HP.out
        have e2 := HRL.out
        have e3 := HSZ.out
        rw [hw9]
        refine ⟨HD.out.rd.below (Below.setRow (Below.refl _ _) (Nat.le_refl _) _) e2, (HO.out.farRow_ (by omega) _).mono_ (by omega), ?_, HZZ.out.row _⟩
        have hk := HBE.out
        refine ⟨hk.1.os.trans HB1.out.os, hk.1.tape.trans HB1.out.tape, hk.1.output.trans HB1.out.output, ?_, fun i hi hr => ?_⟩
        · have := hk.size
          simp only [World.setRow, Array.size_modify]
          omega
        · have h3 : i ≠ r := fun q => hr (by rw [q])
          simp only [World.setRow, Array.getElem?_modify]
          rw [if_neg (by omega), hk.2 i (by omega) (by omega)]
          exact HB1.out.block i hi)
      clear hw9
      go_wp2
      refine bodyPost_ret (results_cell1 (ty := 26) (g := w.heap.size) (k := 2) rfl rfl H9.out.2.2.2 Tryz.underlying26 rfl (by kernel_rfl)) rfl ?_
      exact ⟨_, by rw [HLX.out.1, HLX.out.2.1, HLX.out.2.2], H9.out.2.1, H9.out.1, H9.out.2.2.1⟩
    · obtain ⟨e1, e2⟩ := HEND.out (.inr rfl)
      replace HD := Lib.hid (show DL W r P s9 (c0 sl) wr from e2 ▸ HD.out)
      subst e1
      clear y1 hk HG HEND e2
      obtain ⟨a3, c3, hsl⟩ := HO.out.rd.slice_
      subst hsl
      have hbp := HD.out.bp
      rw [HC0.out] at hbp
      have z0 := hbp.cell 0
      have z1 := hbp.cell 1
      have z2 := hbp.cell 2
      have z3 := hbp.cell 3
      simp at z0 z1 z2 z3
      have hzz := HD.out.kp.blk HZ1.out (by have := HP.out; have := HRL.out; omega)
      have HBE := Lib.hid (HD.out.kp)
      have HZZ := Lib.hid hzz
      have HLX := Lib.hid (show x.E = (n1 : Int) ∧ x.B = (B : Int) ∧ x.L = L from HLX0.out)
      clear hbp hzz
      go_wp2_with (first | refine wpList_store_then rfl 26 _ _ rfl w.heap.size #[.int .u64 (n1 : Int), .int .i64 (B : Int), .bool L, .slice a3 x.l.length c3] rfl rfl 26 _ HZZ.out (by kernel_rfl) rfl (line_one _ _ _ _ _ _) ?_)
      refine Later.mk fun w9 hw9 => ?_
      have H9 := Lib.hid (show RdR w9 r s9 ∧ OwG w9 w.heap.size (.slice a3 x.l.length c3) x.l ∧ w.grownBy w9 (some r) ∧ Blk w9 w.heap.size 26 #[.int .u64 (n1 : Int), .int .i64 (B : Int), .bool L, .slice a3 x.l.length c3] by
        have e1 := HP.out
        have e2 := HRL.out
        have e3 := HSZ.out
        rw [hw9]
        refine ⟨HD.out.rd.below (Below.setRow (Below.refl _ _) (Nat.le_refl _) _) e2, (HO.out.farRow_ (by omega) _).mono_ (by omega), ?_, HZZ.out.row _⟩
        have hk := HBE.out
        refine ⟨hk.1.os.trans HB1.out.os, hk.1.tape.trans HB1.out.tape, hk.1.output.trans HB1.out.output, ?_, fun i hi hr => ?_⟩
        · have := hk.size
          simp only [World.setRow, Array.size_modify]
          omega
        · have h3 : i ≠ r := fun q => hr (by rw [q])
          simp only [World.setRow, Array.getElem?_modify]
          rw [if_neg (by omega), hk.2 i (by omega) (by omega)]
          exact HB1.out.block i hi)
      clear hw9
      go_wp2
      refine bodyPost_ret (results_cell1 (ty := 26) (g := w.heap.size) (k := 2) rfl rfl H9.out.2.2.2 Tryz.underlying26 rfl (by kernel_rfl)) rfl ?_
      exact ⟨_, by rw [HLX.out.1, HLX.out.2.1, HLX.out.2.2], H9.out.2.1, H9.out.1, H9.out.2.2.1⟩
end Go.Proofs.YtikimmhkfjaijaaGreat
namespace Go.Proofs.YtikimmhkfjaijaaGreat
open Go.RowKit Reg Go.ChangeShapes

/-! ### entries of one's own -/
def ensL (es : List En) : List Value := es.flatMap enL
theorem ensL_length (l : List En) : (ensL l).length = l.length * 4 := by
  induction l with
  | nil => rfl
  | cons x l ih =>
    have e : ensL (x :: l) = enL x ++ ensL l := rfl
    have e2 : (enL x).length = 4 := rfl
    rw [e, List.length_append, e2, List.length_cons, ih]
    omega
theorem ensL_append (l m : List En) : ensL (l ++ m) = ensL l ++ ensL m := by simp [ensL]
theorem enL_one (e : En) : ∀ u ∈ enL e, u.oneCell' = true := by
  intro u hu
  simp only [enL, List.mem_cons, List.not_mem_nil, or_false] at hu
  rcases hu with rfl | rfl | rfl | rfl <;> rfl
theorem ensL_at (l : List En) : ∀ j i, j < l.length → i < 4 → (ensL l)[j * 4 + i]? = (enL (l.getD j en0))[i]? := by
  induction l with
  | nil => intro j i hj; simp at hj
  | cons x l ih =>
    intro j i hj hi
    have e : ensL (x :: l) = enL x ++ ensL l := rfl
    have e2 : (enL x).length = 4 := rfl
    cases j with
    | zero =>
      rw [e, Nat.zero_mul, Nat.zero_add, List.getElem?_append_left (by omega)]
      rfl
    | succ j =>
      rw [e, List.getElem?_append_right (by omega), e2, show (j + 1) * 4 + i - 4 = j * 4 + i from by omega, ih j i (by simpa using hj) hi]
      rfl
/-- v owns the entries es, in a row from block 'base' on -/
def OwN (w : World) (base : Nat) (v : Value) (es : List En) : Prop := w.ownsRow base 53 4 v es.length (ensL es) ∧ es.length ≤ maxLen ∧ ∀ e ∈ es, wfE e
theorem ent_info : (Tryz.prog.info? 53).map (fun i => (i.zero, i.size, i.bytes)) = some (some (.agg #[.int .u64 0, .int .i64 0, .int .u64 0, .int .u64 0]), 4, 32) := by kernel_rfl
section
variable {A : Nat → Prop} {w w' : World} {base base' : Nat} {v u : Value} {es : List En} {e : En}
theorem OwN.nil_ (w : World) (base : Nat) : OwN w base (.slice none 0 0) [] := ⟨World.ownsRow_nil _ _ _ _, Nat.zero_le _, fun e he => by cases he⟩
theorem OwN.kp (h : OwN w base v es) (hk : Kp A w w') (hA : ∀ b, base ≤ b → ¬ A b) : OwN w' base v es := ⟨own_kp hk h.1 hA, h.2⟩
theorem OwN.keep (h : OwN w base v es) (hb : Below w.heap.size w w') : OwN w' base v es := h.kp (A := fun _ => False) (Kp.of_below hb) fun _ _ h => h
theorem OwN.mono (h : OwN w base v es) (hb : base' ≤ base) : OwN w base' v es := by
  refine ⟨⟨h.1.1, ?_⟩, h.2⟩
  rcases h.1.2 with hn | ⟨g, cap, cur, rfl, hg, rest⟩
  · exact .inl hn
  · exact .inr ⟨g, cap, cur, rfl, Nat.le_trans hb hg, rest⟩
theorem OwN.ine (h : OwN w base v es) : InE w v es := by
  have hr := Rd.of_own h.1
  rcases h.1.2 with ⟨rfl, h0⟩ | ⟨g, cap, cur, rfl, hg, hh, hc, hm, rest⟩
  · exact ⟨none, 0, by rw [h0], .inl h0, h.2.1, h.2.2, fun j hj => by omega⟩
  · rcases hr.2 with ⟨hq, h0⟩ | ⟨g', off, c, hq, hcc, hx⟩
    · cases hq
    · simp only [Value.slice.injEq, Option.some.injEq, Addr.mk.injEq, and_true, true_and] at hq
      obtain ⟨⟨rfl, rfl⟩, rfl⟩ := hq
      have hb : Blk w g 53 cur := hh
      refine ⟨_, cap, rfl, .inr hcc, h.2.1, h.2.2, fun j hj => ⟨g, 0, rfl, fun i hi => ?_, hb.frozen _⟩⟩
      obtain ⟨x, hx2⟩ := enL_at (es.getD j en0) hi
      rw [hx2, Nat.add_assoc]
      exact hx _ _ ((ensL_at es j i hj hi).trans hx2)
theorem OwN.slice_ (h : OwN w base v es) : ∃ a c, v = .slice a es.length c := h.ine.slice_
theorem OwN.block (h : OwN w base v es) : ∀ k, v.ownBlock = some k → base ≤ k := own_block h.1
theorem app_en (ty : TypeId) (ho : OwN w base v es) (he : wfE e) (hu : ∃ g, u = .slice (some ⟨g, 0, none⟩) 1 1 ∧ Blk w g 53 (enL e).toArray) (hn : es.length + 1 ≤ 2 ^ 30) (hbase : base ≤ w.heap.size) :
    ∃ v' w', (Builtin.append_ #[23, 23] ty #[v, u]).run Tryz.prog w = .ok v' w' ∧ OwN w' base v' (es ++ [e]) ∧ Below base w w' := by
  obtain ⟨i, hi, hz0, hz1, hz2⟩ := info_parts ent_info
  obtain ⟨g, rfl, hb⟩ := hu
  have hu : w.ownsRow 0 53 4 (.slice (some ⟨g, 0, none⟩) 1 1) 1 (enL e) := ⟨rfl, .inr ⟨g, 1, (enL e).toArray, rfl, Nat.zero_le _, hb, Nat.le_refl _, by unfold maxLen; omega, rfl, rfl⟩⟩
  obtain ⟨v', w', h1, h2⟩ := app_own _ base 23 ty 53 i (.agg #[.int .u64 0, .int .i64 0, .int .u64 0, .int .u64 0]) 4 32 Tryz.underlying23 hi hz0 hz1 hz2 rfl (by decide) ho.1 (Rd.of_own hu) (enL_one e) (by unfold maxLen; omega) (by omega) hbase
  refine ⟨v', w', h1, ⟨?_, by rw [List.length_append]; simp; unfold maxLen; omega, fun x hx => ?_⟩, below_grown h2.2.1 hbase (own_block ho.1)⟩
  · rw [ensL_append, List.length_append, show ensL [e] = enL e from List.append_nil _]
    exact h2.1
  · rcases List.mem_append.1 hx with hx | hx
    · exact ho.2.2 x hx
    · rw [List.mem_singleton.1 hx]; exact he
end
/-- while a message is read: the reader, the message in block M -/
structure DMs (W : World) (r M : Nat) (st : Wire.St) (cs : Array Value) (w : World) : Prop where
  rd : RdR w r st
  bp : Blk w M 33 cs
  kp : Kp (fun b => b = r ∨ b = M) W w
  o1 : r < M
  o2 : M < W.heap.size
section
variable {W w w' : World} {r M : Nat} {st st' : Wire.St} {cs : Array Value}
theorem DMs.read (h : DMs W r M st cs w) (hg : w.grownBy w' (some r)) (hr : RdR w' r st') : DMs W r M st' cs w' := by
  have h1 := h.o1
  exact ⟨hr, (Kp.of_row hg).blk h.bp (A := (· = r)) (by omega), h.kp.trans_row hg (.inl rfl), h1, h.o2⟩
theorem DMs.set (h : DMs W r M st cs w) (i : Nat) (u : Value) : DMs W r M st (cs.setIfInBounds i u) (w.setCell ⟨M, i, none⟩ u) := by
  have h1 := h.o1
  exact ⟨h.rd.set (by omega) _ _, h.bp.set i u, h.kp.set (p := ⟨M, i, none⟩) (.inr rfl) u, h1, h.o2⟩
theorem DMs.keep (h : DMs W r M st cs w) (hb : Below w.heap.size w w') : DMs W r M st cs w' := ⟨h.rd.keep hb, h.bp.keep hb, h.kp.ext (hb.mono h.kp.size), h.o1, h.o2⟩
theorem DMs.above (h : DMs W r M st cs w) (hb : Below W.heap.size w w') : DMs W r M st cs w' := by
  have h1 := h.o1
  have h3 := h.o2
  exact ⟨h.rd.below hb (by omega), h.bp.below hb h3, h.kp.ext hb, h1, h3⟩
theorem DMs.far (h : DMs W r M st cs w) {b : Nat} (hb : W.heap.size ≤ b) : b ≠ r ∧ b ≠ M := by
  have h1 := h.o1
  have h3 := h.o2
  exact ⟨by omega, by omega⟩
theorem OwG.setM {base : Nat} {v : Value} {gs : List Gd} (h : OwG w base v gs) (hM : M < base) (i : Nat) (u : Value) : OwG (w.setCell ⟨M, i, none⟩ u) base v gs := h.kp (A := (· = M)) (kp_cell _ _ _ _) fun b hb e => by omega
theorem OwG.row_ {base : Nat} {v : Value} {gs : List Gd} (h : OwG w base v gs) (hr : r < base) (hg : w.grownBy w' (some r)) : OwG w' base v gs := h.kp (Kp.of_row hg) fun b hb e => by omega
theorem OwN.setM {base : Nat} {v : Value} {es : List En} (h : OwN w base v es) (hM : M < base) (i : Nat) (u : Value) : OwN (w.setCell ⟨M, i, none⟩ u) base v es := h.kp (A := (· = M)) (kp_cell _ _ _ _) fun b hb e => by omega
theorem OwC.kp_ {A : Nat → Prop} {base : Nat} {v : Value} {gs : List Cg} (h : OwC w base v gs) (hk : Kp A w w') (hA : ∀ b, base ≤ b → ¬ A b) : OwC w' base v gs := ⟨own_kp hk h.1 hA, h.2⟩
theorem OwN.row_ {base : Nat} {v : Value} {es : List En} (h : OwN w base v es) (hr : r < base) (hg : w.grownBy w' (some r)) : OwN w' base v es := h.kp (Kp.of_row hg) fun b hb e => by omega
end
theorem rtext_len {w : World} {r : Nat} {st : Wire.St} (h : RdR w r st) : (Wire.text st).1.length ≤ 1152921504606846976 := by
  obtain ⟨x, hx⟩ : ∃ x, Wire.text st = x := ⟨_, rfl⟩
  obtain ⟨x1, x2⟩ := x
  rw [hx]
  cases x2 with
  | none =>
    have : x1 = [] := by
      unfold Wire.text at hx
      split at hx
      · exact (Prod.mk.inj hx).1.symm
      · split at hx
        · exact (Prod.mk.inj hx).1.symm
        · cases (Prod.mk.inj hx).2
    rw [this]
    exact Nat.zero_le _
  | some t =>
    have h2 := text_inv hx
    subst h2
    have h3 := h.1
    rw [List.length_append] at h3
    unfold Wire.putText at h3
    rw [List.length_append] at h3
    dsimp only
    omega
theorem stv_wrap (st : Wire.St) : IntKind.i64.wrap (((Wire.num st).1 : Nat) : Int) = stV st := by
  unfold stV
  generalize (((Wire.num st).1 : Nat) : Int) = x
  rw [IntKind.wrap_i64]
  unfold wrap64
  omega
theorem sm_wf (st : Wire.St) : (Lit.int .i64 ((smV st : Nat) : Int)).wf = true := lit_len (by have := sm_le st; unfold maxLen; omega)
theorem st_wf (st : Wire.St) : (Lit.int .i64 (stV st)).wf = true := RowKit.wrap64_wf _
theorem ens_step (k : Nat) (l : List UInt8) (T : List En) (st' : Wire.St) (es : List En) (h : es ++ (ensR (k + 1) (some l)).1 = T ∧ (ensR (k + 1) (some l)).2 = st') : (es ++ [enOf (some l)]) ++ (ensR k (enN (some l))).1 = T ∧ (ensR k (enN (some l))).2 = st' := by
  obtain ⟨h1, h2⟩ := h
  refine ⟨?_, h2⟩
  rw [← h1, List.append_assoc]
  rfl
theorem enOf_wf (st : Wire.St) : wfE (enOf st) := ⟨num_wf _, sm_wf _, gdOf_wf _⟩
/-- 'm.Entries = append(m.Entries, Entry{term, kind, readGuid(r)})' -/
def JN (W : World) (r M : Nat) (st1 st2 : Wire.St) (c0 : Value → Array Value) (sl : Value) (es : List En) (x : En) : List Value → World → Prop
  | [], w => DMs W r M st1 (c0 sl) w ∧ OwN w W.heap.size sl es
  | [_], w => DMs W r M st2 (c0 sl) w ∧ OwN w W.heap.size sl es
  | [_, u], w => DMs W r M st2 (c0 sl) w ∧ OwN w W.heap.size sl es ∧ (∃ g, u = .slice (some ⟨g, 0, none⟩) 1 1 ∧ Blk w g 53 (enL x).toArray)
  | [_, _, u], w => DMs W r M st2 (c0 sl) w ∧ OwN w W.heap.size u (es ++ [x])
  | [_, _, u, _], w => DMs W r M st2 (c0 u) w ∧ OwN w W.heap.size u (es ++ [x])
  | _, _ => False
/-- what read leaves -/
def ReadPost (w : World) (r : Nat) (l : List UInt8) (e : Ending) (w' : World) : Prop := ∃ ua m st', e = .returned (.agg ua) ∧ (∀ w'', Kp (fun b => b < w.heap.size) w' w'' → InMs w'' (.agg ua) m) ∧ RDA l m st' ∧ RdR w' r st' ∧ w.grownBy w' (some r)
set_option maxRecDepth 100000 in
set_option maxHeartbeats 16000000 in
theorem read2_any (r : Nat) (l : List UInt8) (w : World) (h : RdR w r (some l)) : Calls Tryz.prog 40 #[.pointer (some ⟨r, 0, none⟩)] w (ReadPost w r l) := by
  have hrl := h.lt
  have hb0 := (Below.refl w.heap.size w).alloc (Nat.le_refl _) (Obj.cells #[.int .i64 0, .int .u64 0, .int .i64 0, .int .u64 0, .slice none 0 0, .int .i64 0, .bool false, .int .i64 0, .int .i64 0, .int .u64 0, .int .i64 0, .bool false, .slice none 0 0, .int .i64 0, .int .u64 0, .int .u64 0, .int .u64 0, .int .u64 0, .int .i64 0, .int .u64 0, .int .u64 0, .int .u64 0, .int .u64 0, .int .i64 0, .int .i64 0, .slice none 0 0] 33)
  have hz0 : Blk (w.alloc (Obj.cells #[.int .i64 0, .int .u64 0, .int .i64 0, .int .u64 0, .slice none 0 0, .int .i64 0, .bool false, .int .i64 0, .int .i64 0, .int .u64 0, .int .i64 0, .bool false, .slice none 0 0, .int .i64 0, .int .u64 0, .int .u64 0, .int .u64 0, .int .u64 0, .int .i64 0, .int .u64 0, .int .u64 0, .int .u64 0, .int .u64 0, .int .i64 0, .int .i64 0, .slice none 0 0] 33)) w.heap.size 33 zeroA := Blk.new w _ _
  have HB0 := Lib.hid hb0
  have HZ0 := Lib.hid hz0
  have HR := Lib.hid (h.keep hb0)
  have HRL := Lib.hid hrl
  obtain ⟨K, hK⟩ : ∃ K : Int, K = (smV (some l) : Nat) := ⟨_, rfl⟩
  obtain ⟨s, hs⟩ : ∃ s, s = nx (some l) := ⟨_, rfl⟩
  have HPOST : Hid (∀ e w', (∃ ua m st', e = .returned (.agg ua) ∧ (∀ w'', Kp (fun b => b < w.heap.size) w' w'' → InMs w'' (.agg ua) m) ∧ (m.K = K ∧ RD s m st') ∧ RdR w' r st' ∧ w.grownBy w' (some r)) → ReadPost w r l e w') := Lib.hid (fun e w' q => by
    rw [hK, hs] at q
    exact q)
  have HK0 := Lib.hid (show 0 ≤ K ∧ K ≤ 1001 from by have := sm_le (some l); omega)
  have HKW := Lib.hid (show i64 K from by rw [hK]; exact sm_wf _)
  have HSM := Lib.hid (fun w h => rsmall_any r (some l) w h)
  rw [← hK, ← hs] at HSM
  unfold RdPost at HSM
  have HLS := Lib.hid (litA_size K)
  have HLO := Lib.hid (litA_one K)
  refine Calls.mono ?_ HPOST.out
  clear h hb0 hz0 hrl hK hs HPOST
  generalize some l = st at *
  go_enter Tryz.func40, Tryz.ntmps40
  go_upto_region 1 with fail
  generalize w.alloc (Obj.cells #[.int .i64 0, .int .u64 0, .int .i64 0, .int .u64 0, .slice none 0 0, .int .i64 0, .bool false, .int .i64 0, .int .i64 0, .int .u64 0, .int .i64 0, .bool false, .slice none 0 0, .int .i64 0, .int .u64 0, .int .u64 0, .int .u64 0, .int .u64 0, .int .i64 0, .int .u64 0, .int .u64 0, .int .u64 0, .int .u64 0, .int .i64 0, .int .i64 0, .slice none 0 0] 33) = w1 at *
  go_wp2_with fail
  refine (HSM.out w1 HR.out).mono ?_
  rintro e w2 ⟨rfl, h1, h2⟩
  have HZ2 := Lib.hid (Blk.new w2 33 #[.int .i64 0, .int .u64 0, .int .i64 0, .int .u64 0, .slice none 0 0, .int .i64 0, .bool false, .int .i64 0, .int .i64 0, .int .u64 0, .int .i64 0, .bool false, .slice none 0 0, .int .i64 0, .int .u64 0, .int .u64 0, .int .u64 0, .int .u64 0, .int .i64 0, .int .u64 0, .int .u64 0, .int .u64 0, .int .u64 0, .int .i64 0, .int .i64 0, .slice none 0 0])
  have hrow := h2
  have HFIN : Hid (∀ W, W = (w2.alloc (Obj.cells #[.int .i64 0, .int .u64 0, .int .i64 0, .int .u64 0, .slice none 0 0, .int .i64 0, .bool false, .int .i64 0, .int .i64 0, .int .u64 0, .int .i64 0, .bool false, .slice none 0 0, .int .i64 0, .int .u64 0, .int .u64 0, .int .u64 0, .int .u64 0, .int .i64 0, .int .u64 0, .int .u64 0, .int .u64 0, .int .u64 0, .int .i64 0, .int .i64 0, .slice none 0 0] 33)).setRow w2.heap.size (litA K) → DMs W r w2.heap.size s (msA (p_K zeroM K) (.slice none 0 0) (.slice none 0 0) (.slice none 0 0)) W ∧ Blk W w.heap.size 33 zeroA ∧ w.heap.size < w2.heap.size ∧ r < w.heap.size ∧ w.grownBy W (some r)) := Lib.hid fun W hW => by
    have hrl := HRL.out
    have hz := (Kp.of_row h2).blk HZ0.out (A := (· = r)) (by omega)
    have hlt := hz.lt
    have hsz := h1.lt
    have hbb : Below w2.heap.size w2 W := by rw [hW]; exact Below.setRow ((Below.refl w2.heap.size w2).alloc (Nat.le_refl _) _) (Nat.le_refl _) _
    refine ⟨⟨h1.keep hbb, ?_, Kp.refl _ _, by omega, ?_⟩, hz.keep hbb, hlt, hrl, ?_⟩
    · rw [hW, ← litA_eq]; exact HZ2.out.row _
    · rw [hW]; simp [World.setRow]
    · exact grownBy_trans (grownBy_trans (grownBy_below HB0.out) h2) (grownBy_below hbb)
  clear h1 h2 hrow HSM HR HZ0 HB0
  go_wp2_with (first | refine wpList_store_then rfl 33 _ _ rfl w2.heap.size (litA K) rfl rfl 33 _ HZ2.out HLS.out rfl HLO.out ?_)
  refine Later.mk fun W hW => ?_
  obtain ⟨hd, hz, ho1, ho2, hg0⟩ := HFIN.out W hW
  have HD := Lib.hid hd
  have HZ := Lib.hid hz
  have HO := Lib.hid (And.intro ho1 ho2)
  have HG0 := Lib.hid hg0
  clear hW hd hz ho1 ho2 hg0 HFIN HZ2 HLS HLO
  generalize w2.heap.size = M at *
  have hk := HK0.out
  rcases (show K = 1 ∨ K = 2 ∨ K = 3 ∨ K = 4 ∨ K = 5 ∨ K = 6 ∨ K = 7 ∨ K = 0 ∨ 7 < K by omega) with k | k | k | k | k | k | k | k | k
  · have HKK := Lib.hid k
    clear k hk
    have p0 : W.cell? ⟨M, 0, none⟩ = some (.int .i64 K) := by rw [HD.out.bp.cell]; rfl
    rw [HKK.out] at p0
    go_wp2_with fail
    clear p0
    refine (refNum_any r (s) _ HD.out.rd).mono ?_
    rintro e w3 ⟨rfl, h1, h2⟩
    replace HD := Lib.hid (HD.out.read h2 h1)
    clear h1 h2
    have p0 : w3.cell? ⟨M, 0, none⟩ = some (.int .i64 K) := by rw [HD.out.bp.cell]; rfl
    rw [HKK.out] at p0
    have c1 : w3.cell? ⟨M, 1, none⟩ = some (.int .u64 0) := by rw [HD.out.bp.cell]; rfl
    have f1 := HD.out.bp.frozen 1
    have hd := (HD.out).set 1 (.int .u64 ((Wire.num (s)).1 : Nat))
    rw [st9_T] at hd
    replace HD := Lib.hid hd
    clear hd
    go_wp2_with fail
    generalize (w3).setCell ⟨M, 1, none⟩ (.int .u64 ((Wire.num (s)).1 : Nat)) = w4 at *
    clear p0 c1 f1
    refine (rsmall_any r (nx (s)) _ HD.out.rd).mono ?_
    rintro e w5 ⟨rfl, h1, h2⟩
    replace HD := Lib.hid (HD.out.read h2 h1)
    clear h1 h2
    have p0 : w5.cell? ⟨M, 0, none⟩ = some (.int .i64 K) := by rw [HD.out.bp.cell]; rfl
    rw [HKK.out] at p0
    have c2 : w5.cell? ⟨M, 2, none⟩ = some (.int .i64 0) := by rw [HD.out.bp.cell]; rfl
    have f2 := HD.out.bp.frozen 2
    have hd := (HD.out).set 2 (.int .i64 (smV (nx (s)) : Nat))
    rw [st9_P] at hd
    replace HD := Lib.hid hd
    clear hd
    go_wp2_with fail
    generalize (w5).setCell ⟨M, 2, none⟩ (.int .i64 (smV (nx (s)) : Nat)) = w6 at *
    clear p0 c2 f2
    refine (refNum_any r (nx (nx (s))) _ HD.out.rd).mono ?_
    rintro e w7 ⟨rfl, h1, h2⟩
    replace HD := Lib.hid (HD.out.read h2 h1)
    clear h1 h2
    have p0 : w7.cell? ⟨M, 0, none⟩ = some (.int .i64 K) := by rw [HD.out.bp.cell]; rfl
    rw [HKK.out] at p0
    have c3 : w7.cell? ⟨M, 3, none⟩ = some (.int .u64 0) := by rw [HD.out.bp.cell]; rfl
    have f3 := HD.out.bp.frozen 3
    have hd := (HD.out).set 3 (.int .u64 ((Wire.num (nx (nx (s)))).1 : Nat))
    rw [st9_PT] at hd
    replace HD := Lib.hid hd
    clear hd
    go_upto_region 35 with fail
    generalize (w7).setCell ⟨M, 3, none⟩ (.int .u64 ((Wire.num (nx (nx (s)))).1 : Nat)) = w8 at *
    clear p0 c3 f3
    have HSZ := Lib.hid (msg_size (p_PT (p_P (p_T (p_K zeroM K) ((Wire.num (s)).1 : Nat)) (smV (nx (s)) : Nat)) ((Wire.num (nx (nx (s)))).1 : Nat)) (.slice none 0 0) (.slice none 0 0) (.slice none 0 0))
    have HON9 : Hid ((msA (p_PT (p_P (p_T (p_K zeroM K) ((Wire.num (s)).1 : Nat)) (smV (nx (s)) : Nat)) ((Wire.num (nx (nx (s)))).1 : Nat)) (.slice none 0 0) (.slice none 0 0) (.slice none 0 0)).all (fun x => x.oneCell') = true) := Lib.hid (by exact msA_one _ _ _ _ _ _ _ _ _ _)
    have HZZ := Lib.hid (HD.out.kp.blk HZ.out (by have := HO.out; omega))
    have HEQ : Hid (∀ wz, Kp (fun b => b ≤ w.heap.size) w8 wz → InMs wz (.agg (msA (p_PT (p_P (p_T (p_K zeroM K) ((Wire.num (s)).1 : Nat)) (smV (nx (s)) : Nat)) ((Wire.num (nx (nx (s)))).1 : Nat)) (.slice none 0 0) (.slice none 0 0) (.slice none 0 0))) (p_PT (p_P (p_T (p_K zeroM K) ((Wire.num (s)).1 : Nat)) (smV (nx (s)) : Nat)) ((Wire.num (nx (nx (s)))).1 : Nat))) := Lib.hid (by
      intro wz hk
      refine ⟨_, _, _, rfl, ?_, ?_, ?_, ((((zeroM_wf.K_ HKW.out).T_ (num_wf _)).P_ (sm_wf _)).PT_ (num_wf _))⟩
      · exact InE.nil0 _
      · exact InG.nil_ _
      · exact InC.nil_ _ _ _)
    have HRD : Hid (((p_PT (p_P (p_T (p_K zeroM K) ((Wire.num (s)).1 : Nat)) (smV (nx (s)) : Nat)) ((Wire.num (nx (nx (s)))).1 : Nat))).K = K ∧ RD s (p_PT (p_P (p_T (p_K zeroM K) ((Wire.num (s)).1 : Nat)) (smV (nx (s)) : Nat)) ((Wire.num (nx (nx (s)))).1 : Nat)) (nx (nx (nx (s))))) := Lib.hid (by
      refine ⟨rfl, ?_⟩
      have hk := HKK.out
      exact ⟨fun _ => ⟨by rw [hk]; rfl, rfl⟩, fun q => absurd q (by show ¬ K = 2; omega), fun q => absurd q (by show ¬ K = 3; omega), fun q => absurd q (by show ¬ K = 4; omega), fun q => absurd q (by show ¬ K = 5; omega), fun q => absurd q (by show ¬ K = 6; omega), fun q => absurd q (by show ¬ K = 7; omega)⟩)
    generalize hmm : (p_PT (p_P (p_T (p_K zeroM K) ((Wire.num (s)).1 : Nat)) (smV (nx (s)) : Nat)) ((Wire.num (nx (nx (s)))).1 : Nat)) = mm at *
    clear hmm
    generalize msA mm (.slice none 0 0) (.slice none 0 0) (.slice none 0 0) = ua at *
    have HUZ : Hid (zeroA.size = ua.size) := Lib.hid (by have h1 := HSZ.out; have h2 := zeroA_size; rw [h2] at h1; exact Option.some.inj h1)
    go_wp2_with (first | refine wpList_wanted_run (by rfl) (.agg ua) (exec_load_blk 33 _ rfl M rfl _ HD.out.bp Tryz.underlying33 rfl HSZ.out) ?_ | refine wpList_store_then rfl 33 _ _ rfl w.heap.size ua rfl rfl 33 _ HZZ.out HSZ.out HUZ.out HON9.out ?_)
    refine Later.mk fun wz hwz => ?_
    have H9 : Hid (Blk wz w.heap.size 33 ua ∧ (∀ w'', Kp (fun b => b < w.heap.size) wz w'' → InMs w'' (.agg ua) mm) ∧ RdR wz r (nx (nx (nx (s)))) ∧ w.grownBy wz (some r)) := Lib.hid (by
      have hk9 : Kp (· = w.heap.size) w8 wz := by rw [hwz]; exact kp_setRow _ _ _
      have ho := HO.out
      have hrr : Below w.heap.size w8 wz := hk9.below (fun b hb => Nat.le_of_eq hb.symm) (Nat.le_of_lt HZZ.out.lt)
      refine ⟨by rw [hwz]; exact HZZ.out.row _, fun w'' q => HEQ.out w'' ((hk9.mono fun b hb => Nat.le_of_eq hb).trans (q.mono fun b hb => Nat.le_of_lt hb)), HD.out.rd.below hrr ho.2, ?_⟩
      have hg := HG0.out
      have hkp := HD.out.kp
      refine ⟨hk9.1.os.trans (hkp.1.os.trans hg.os), hk9.1.tape.trans (hkp.1.tape.trans hg.tape), hk9.1.output.trans (hkp.1.output.trans hg.output), Nat.le_trans hg.size (Nat.le_trans hkp.size hk9.size), fun i hi hr => ?_⟩
      have h3 : i ≠ r := fun q => hr (by rw [q])
      have h4 := hg.size
      rw [hk9.2 i (by have := hkp.size; omega) (by omega), hkp.2 i (by omega) (by omega)]
      exact hg.block i hi hr)
    clear hwz
    go_wp2
    refine bodyPost_ret (results_cell1 (ty := 33) (g := w.heap.size) (k := 2) rfl rfl H9.out.1 Tryz.underlying33 rfl HSZ.out) rfl ?_
    exact ⟨ua, mm, _, rfl, H9.out.2.1, HRD.out, H9.out.2.2.1, H9.out.2.2.2⟩
  · have HKK := Lib.hid k
    clear k hk
    have p0 : W.cell? ⟨M, 0, none⟩ = some (.int .i64 K) := by rw [HD.out.bp.cell]; rfl
    rw [HKK.out] at p0
    go_wp2_with fail
    clear p0
    refine (refNum_any r (s) _ HD.out.rd).mono ?_
    rintro e w3 ⟨rfl, h1, h2⟩
    replace HD := Lib.hid (HD.out.read h2 h1)
    clear h1 h2
    have p0 : w3.cell? ⟨M, 0, none⟩ = some (.int .i64 K) := by rw [HD.out.bp.cell]; rfl
    rw [HKK.out] at p0
    have c1 : w3.cell? ⟨M, 1, none⟩ = some (.int .u64 0) := by rw [HD.out.bp.cell]; rfl
    have f1 := HD.out.bp.frozen 1
    have hd := (HD.out).set 1 (.int .u64 ((Wire.num (s)).1 : Nat))
    rw [st9_T] at hd
    replace HD := Lib.hid hd
    clear hd
    go_wp2_with fail
    generalize (w3).setCell ⟨M, 1, none⟩ (.int .u64 ((Wire.num (s)).1 : Nat)) = w4 at *
    clear p0 c1 f1
    refine (ryes_any r (nx (s)) _ HD.out.rd).mono ?_
    rintro e w5 ⟨rfl, h1, h2⟩
    replace HD := Lib.hid (HD.out.read h2 h1)
    clear h1 h2
    have p0 : w5.cell? ⟨M, 0, none⟩ = some (.int .i64 K) := by rw [HD.out.bp.cell]; rfl
    rw [HKK.out] at p0
    have c6 : w5.cell? ⟨M, 6, none⟩ = some (.bool false) := by rw [HD.out.bp.cell]; rfl
    have f6 := HD.out.bp.frozen 6
    have hd := (HD.out).set 6 (.bool (yesV (nx (s))))
    rw [st9_Y] at hd
    replace HD := Lib.hid hd
    clear hd
    go_upto_region 35 with fail
    generalize (w5).setCell ⟨M, 6, none⟩ (.bool (yesV (nx (s)))) = w6 at *
    clear p0 c6 f6
    have HSZ := Lib.hid (msg_size (p_Y (p_T (p_K zeroM K) ((Wire.num (s)).1 : Nat)) (yesV (nx (s)))) (.slice none 0 0) (.slice none 0 0) (.slice none 0 0))
    have HON9 : Hid ((msA (p_Y (p_T (p_K zeroM K) ((Wire.num (s)).1 : Nat)) (yesV (nx (s)))) (.slice none 0 0) (.slice none 0 0) (.slice none 0 0)).all (fun x => x.oneCell') = true) := Lib.hid (by exact msA_one _ _ _ _ _ _ _ _ _ _)
    have HZZ := Lib.hid (HD.out.kp.blk HZ.out (by have := HO.out; omega))
    have HEQ : Hid (∀ wz, Kp (fun b => b ≤ w.heap.size) w6 wz → InMs wz (.agg (msA (p_Y (p_T (p_K zeroM K) ((Wire.num (s)).1 : Nat)) (yesV (nx (s)))) (.slice none 0 0) (.slice none 0 0) (.slice none 0 0))) (p_Y (p_T (p_K zeroM K) ((Wire.num (s)).1 : Nat)) (yesV (nx (s))))) := Lib.hid (by
      intro wz hk
      refine ⟨_, _, _, rfl, ?_, ?_, ?_, (((zeroM_wf.K_ HKW.out).T_ (num_wf _)).Y_ _)⟩
      · exact InE.nil0 _
      · exact InG.nil_ _
      · exact InC.nil_ _ _ _)
    have HRD : Hid (((p_Y (p_T (p_K zeroM K) ((Wire.num (s)).1 : Nat)) (yesV (nx (s))))).K = K ∧ RD s (p_Y (p_T (p_K zeroM K) ((Wire.num (s)).1 : Nat)) (yesV (nx (s)))) (yesS (nx (s)))) := Lib.hid (by
      refine ⟨rfl, ?_⟩
      have hk := HKK.out
      exact ⟨fun q => absurd q (by show ¬ K = 1; omega), fun _ => ⟨by rw [hk]; rfl, rfl⟩, fun q => absurd q (by show ¬ K = 3; omega), fun q => absurd q (by show ¬ K = 4; omega), fun q => absurd q (by show ¬ K = 5; omega), fun q => absurd q (by show ¬ K = 6; omega), fun q => absurd q (by show ¬ K = 7; omega)⟩)
    generalize hmm : (p_Y (p_T (p_K zeroM K) ((Wire.num (s)).1 : Nat)) (yesV (nx (s)))) = mm at *
    clear hmm
    generalize msA mm (.slice none 0 0) (.slice none 0 0) (.slice none 0 0) = ua at *
    have HUZ : Hid (zeroA.size = ua.size) := Lib.hid (by have h1 := HSZ.out; have h2 := zeroA_size; rw [h2] at h1; exact Option.some.inj h1)
    go_wp2_with (first | refine wpList_wanted_run (by rfl) (.agg ua) (exec_load_blk 33 _ rfl M rfl _ HD.out.bp Tryz.underlying33 rfl HSZ.out) ?_ | refine wpList_store_then rfl 33 _ _ rfl w.heap.size ua rfl rfl 33 _ HZZ.out HSZ.out HUZ.out HON9.out ?_)
    refine Later.mk fun wz hwz => ?_
    have H9 : Hid (Blk wz w.heap.size 33 ua ∧ (∀ w'', Kp (fun b => b < w.heap.size) wz w'' → InMs w'' (.agg ua) mm) ∧ RdR wz r (yesS (nx (s))) ∧ w.grownBy wz (some r)) := Lib.hid (by
      have hk9 : Kp (· = w.heap.size) w6 wz := by rw [hwz]; exact kp_setRow _ _ _
      have ho := HO.out
      have hrr : Below w.heap.size w6 wz := hk9.below (fun b hb => Nat.le_of_eq hb.symm) (Nat.le_of_lt HZZ.out.lt)
      refine ⟨by rw [hwz]; exact HZZ.out.row _, fun w'' q => HEQ.out w'' ((hk9.mono fun b hb => Nat.le_of_eq hb).trans (q.mono fun b hb => Nat.le_of_lt hb)), HD.out.rd.below hrr ho.2, ?_⟩
      have hg := HG0.out
      have hkp := HD.out.kp
      refine ⟨hk9.1.os.trans (hkp.1.os.trans hg.os), hk9.1.tape.trans (hkp.1.tape.trans hg.tape), hk9.1.output.trans (hkp.1.output.trans hg.output), Nat.le_trans hg.size (Nat.le_trans hkp.size hk9.size), fun i hi hr => ?_⟩
      have h3 : i ≠ r := fun q => hr (by rw [q])
      have h4 := hg.size
      rw [hk9.2 i (by have := hkp.size; omega) (by omega), hkp.2 i (by omega) (by omega)]
      exact hg.block i hi hr)
    clear hwz
    go_wp2
    refine bodyPost_ret (results_cell1 (ty := 33) (g := w.heap.size) (k := 2) rfl rfl H9.out.1 Tryz.underlying33 rfl HSZ.out) rfl ?_
    exact ⟨ua, mm, _, rfl, H9.out.2.1, HRD.out, H9.out.2.2.1, H9.out.2.2.2⟩
  · have HKK := Lib.hid k
    clear k hk
    have p0 : W.cell? ⟨M, 0, none⟩ = some (.int .i64 K) := by rw [HD.out.bp.cell]; rfl
    rw [HKK.out] at p0
    go_wp2_with fail
    clear p0
    refine (refNum_any r (s) _ HD.out.rd).mono ?_
    rintro e w3 ⟨rfl, h1, h2⟩
    replace HD := Lib.hid (HD.out.read h2 h1)
    clear h1 h2
    have p0 : w3.cell? ⟨M, 0, none⟩ = some (.int .i64 K) := by rw [HD.out.bp.cell]; rfl
    rw [HKK.out] at p0
    have c1 : w3.cell? ⟨M, 1, none⟩ = some (.int .u64 0) := by rw [HD.out.bp.cell]; rfl
    have f1 := HD.out.bp.frozen 1
    have hd := (HD.out).set 1 (.int .u64 ((Wire.num (s)).1 : Nat))
    rw [st9_T] at hd
    replace HD := Lib.hid hd
    clear hd
    go_wp2_with fail
    generalize (w3).setCell ⟨M, 1, none⟩ (.int .u64 ((Wire.num (s)).1 : Nat)) = w4 at *
    clear p0 c1 f1
    refine (rsmall_any r (nx (s)) _ HD.out.rd).mono ?_
    rintro e w5 ⟨rfl, h1, h2⟩
    replace HD := Lib.hid (HD.out.read h2 h1)
    clear h1 h2
    have p0 : w5.cell? ⟨M, 0, none⟩ = some (.int .i64 K) := by rw [HD.out.bp.cell]; rfl
    rw [HKK.out] at p0
    have c2 : w5.cell? ⟨M, 2, none⟩ = some (.int .i64 0) := by rw [HD.out.bp.cell]; rfl
    have f2 := HD.out.bp.frozen 2
    have hd := (HD.out).set 2 (.int .i64 (smV (nx (s)) : Nat))
    rw [st9_P] at hd
    replace HD := Lib.hid hd
    clear hd
    go_wp2_with fail
    generalize (w5).setCell ⟨M, 2, none⟩ (.int .i64 (smV (nx (s)) : Nat)) = w6 at *
    clear p0 c2 f2
    refine (refNum_any r (nx (nx (s))) _ HD.out.rd).mono ?_
    rintro e w7 ⟨rfl, h1, h2⟩
    replace HD := Lib.hid (HD.out.read h2 h1)
    clear h1 h2
    have p0 : w7.cell? ⟨M, 0, none⟩ = some (.int .i64 K) := by rw [HD.out.bp.cell]; rfl
    rw [HKK.out] at p0
    have c3 : w7.cell? ⟨M, 3, none⟩ = some (.int .u64 0) := by rw [HD.out.bp.cell]; rfl
    have f3 := HD.out.bp.frozen 3
    have hd := (HD.out).set 3 (.int .u64 ((Wire.num (nx (nx (s)))).1 : Nat))
    rw [st9_PT] at hd
    replace HD := Lib.hid hd
    clear hd
    go_wp2_with fail
    generalize (w7).setCell ⟨M, 3, none⟩ (.int .u64 ((Wire.num (nx (nx (s)))).1 : Nat)) = w8 at *
    clear p0 c3 f3
    refine (rsmall_any r (nx (nx (nx (s)))) _ HD.out.rd).mono ?_
    rintro e w9 ⟨rfl, h1, h2⟩
    replace HD := Lib.hid (HD.out.read h2 h1)
    clear h1 h2
    have HNL := Lib.hid (sm_le (nx (nx (nx (s)))))
    obtain ⟨T9, hT9⟩ : ∃ T, T = (ensR (smV (nx (nx (nx (s))))) (nx (nx (nx (nx (s)))))).1 := ⟨_, rfl⟩
    obtain ⟨s9, hs9⟩ : ∃ T, T = (ensR (smV (nx (nx (nx (s))))) (nx (nx (nx (nx (s)))))).2 := ⟨_, rfl⟩
    have HES := Lib.hid (And.intro hT9 hs9)
    have HES2 := HES
    clear hT9 hs9
    have HSTART := Lib.hid (show (([] : List En) ++ (ensR (smV (nx (nx (nx (s)))) - 0) (nx (nx (nx (nx (s)))))).1 = T9 ∧ (ensR (smV (nx (nx (nx (s)))) - 0) (nx (nx (nx (nx (s)))))).2 = s9) from ⟨HES.out.1.symm, HES.out.2.symm⟩)
    obtain ⟨m0, hm0⟩ : ∃ m, m = (p_PT (p_P (p_T (p_K zeroM K) ((Wire.num (s)).1 : Nat)) (smV (nx (s)) : Nat)) ((Wire.num (nx (nx (s)))).1 : Nat)) := ⟨_, rfl⟩
    have hd := HD.out
    rw [← hm0] at hd
    replace HD := Lib.hid hd
    have HM0 := Lib.hid hm0
    clear hd
    have HCE : Hid (m0.es = [] ∧ m0.K = K ∧ m0.l.l = [] ∧ m0.p.cs = []) := Lib.hid (by rw [hm0]; exact ⟨rfl, rfl, rfl, rfl⟩)
    clear hm0
    obtain ⟨c0, hc0⟩ : ∃ c0 : Value → Array Value, ∀ sl, c0 sl = msA m0 sl (.slice none 0 0) (.slice none 0 0) := ⟨_, fun _ => rfl⟩
    have hd := HD.out
    rw [← hc0] at hd
    replace HD := Lib.hid hd
    have HC0 := Lib.hid hc0
    clear hd hc0
    obtain ⟨n, hn⟩ : ∃ n, n = smV (nx (nx (nx (s)))) := ⟨_, rfl⟩
    obtain ⟨s4, hs4⟩ : ∃ n, n = nx (nx (nx (nx (s)))) := ⟨_, rfl⟩
    rw [← hn]
    rw [← hn] at HNL
    rw [← hn, ← hs4] at HSTART
    rw [← hs4] at HD
    clear hn hs4
    go_wp2_with fail
    go_loopw [7] (fun i wr => ∃ (k : Nat) (sl : Value) (es : List En) (sk : Wire.St), k ≤ n ∧ es.length = k ∧ i = .int .i64 k ∧ DMs W r M sk (c0 sl) wr ∧ OwN wr W.heap.size sl es ∧ (es ++ (ensR (n - k) sk).1 = T9 ∧ (ensR (n - k) sk).2 = s9)) (fun i _ => n - (intOf i).toNat)
    case atStart => exact ⟨0, _, [], s4, Nat.zero_le _, rfl, rfl, HD.out, OwN.nil_ _ _, HSTART.out⟩
    case round =>
      obtain ⟨k, sl, es, sk, hk, hgl, rfl, hd, ho, hg⟩ := hrel
      clear HD HSTART
      have HD := Lib.hid hd
      have HOE := Lib.hid ho
      have HG := Lib.hid hg
      have HGL := Lib.hid hgl
      have y1 := hd.rd.flag
      clear hd ho hg hgl
      have hdec : (k < n ∧ ∃ l, sk = some l) ∨ (k < n ∧ sk = none) ∨ k = n := by
        by_cases q : k < n
        · cases sk with
          | none => exact .inr (.inl ⟨q, rfl⟩)
          | some l => exact .inl ⟨q, l, rfl⟩
        · exact .inr (.inr (by omega))
      have HEND : Hid ((k < n ∧ sk = none) ∨ k = n → es = T9 ∧ sk = s9) := Lib.hid (fun q => by
        have h := HG.out
        rcases q with ⟨q, rfl⟩ | rfl
        · rw [ensR_none] at h
          exact ⟨by rw [← h.1, List.append_nil], h.2⟩
        · rw [Nat.sub_self] at h
          exact ⟨by rw [← h.1]; exact (List.append_nil _).symm, h.2⟩)
      rcases hdec with ⟨hkn, l, rfl⟩ | ⟨hkn, rfl⟩ | rfl
      · have i1 : (k : Int) < (n : Int) := by omega
        have y2 : wr.cell? ⟨r, 1, none⟩ = some (.bool false) := y1
        have HKN := Lib.hid hkn
        have I9 := Lib.hid (show wrap64 ((k : Int) + 1) = (k : Int) + 1 from IntWalk.wrap64_in _ (by have := HNL.out; omega))
        have HSTEP := Lib.hid (ens_step (n - (k + 1)) l T9 s9 es (by have h := HG.out; rwa [show n - k = n - (k + 1) + 1 from by omega] at h))
        have HLE := Lib.hid (show es.length + 1 ≤ 2 ^ 30 from by rw [HGL.out]; have := HNL.out; omega)
        have HWE := Lib.hid (enOf_wf (some l))
        unfold enOf at HWE HSTEP
        unfold enN at HSTEP
        have HN1 := Lib.hid (fun w h => refNum_any r (some l) w h)
        have HN2 := Lib.hid (fun w h => rsmall_any r (nx (some l)) w h)
        have HN3 := Lib.hid (fun w h => rdguid_any r (nx (nx (some l))) w h)
        unfold NumPostR at HN1
        unfold RdPost at HN2 HN3
        rw [show (Wire.num (some l)).2 = nx (some l) from rfl] at HN1
        clear hkn y1 hk HG HEND
        generalize (Wire.num (some l)).1 = tm at *
        generalize some l = sk at *
        generalize nx sk = sk1 at *
        generalize smV sk1 = kd at *
        generalize nx sk1 = sk2 at *
        generalize gdOf sk2 = gg at *
        generalize nx (nx sk2) = sn at *
        obtain ⟨g1, g2⟩ := gg
        go_wp2_with fail
        clear i1 y2
        refine (HN1.out _ HD.out.rd).mono ?_
        rintro e w31 ⟨rfl, h1, h2⟩
        replace HD := Lib.hid (HD.out.read h2 h1)
        replace HOE := Lib.hid (HOE.out.row_ (by have := HD.out.o1; have := HD.out.o2; omega) h2)
        clear h1 h2
        go_wp2_with fail
        refine (HN2.out _ HD.out.rd).mono ?_
        rintro e w32 ⟨rfl, h1, h2⟩
        replace HD := Lib.hid (HD.out.read h2 h1)
        replace HOE := Lib.hid (HOE.out.row_ (by have := HD.out.o1; have := HD.out.o2; omega) h2)
        clear h1 h2
        go_wp2_with fail
        refine wp_region_chain [5, 7, 8, 10] (kv [(5, .is (.agg #[.int .u64 g1, .int .u64 g2])), (7, .sl 1), (8, .sla (es.length + 1)), (10, .is undef)]) (JN W r M sk2 sn c0 sl es ⟨(tm : Int), (kd : Int), (g1, g2)⟩) (by kernel_rfl) (by kernel_rfl) (by kernel_rfl) (kv_inh _) (⟨HD.out.keep (Below.drew (Below.refl _ _)), HOE.out.keep (Below.drew (Below.refl _ _))⟩) ?_
        intro ν hν
        have n3 : ν 5 = .agg #[.int .u64 g1, .int .u64 g2] := hν 5
        obtain ⟨gq, n4⟩ : ∃ g, ν 7 = .slice (some ⟨g, 0, none⟩) 1 1 := hν 7
        obtain ⟨a7, c7, n5⟩ : ∃ a c, ν 8 = .slice a (es.length + 1) c := hν 8
        have n7 : ν 10 = undef := hν 10
        clear hν
        refine ch_plain 0 4 1 (by rfl) rfl (by kernel_rfl) (by kernel_rfl) ?_
        apply Exists.intro
        refine ⟨fun st w2 hlo hhi hJ => ?_, ?_⟩
        · clear hlo hhi hJ
          go_simp
          exact And.intro rfl rfl
        simp only [Act.put, List.setIfInBounds_toArray, List.set_cons_succ, List.set_cons_zero, Nat.reduceAdd]
        refine ch_plain 0 2 1 (by rfl) rfl (by kernel_rfl) (by kernel_rfl) ?_
        apply Exists.intro
        refine ⟨fun st w2 hlo hhi hJ => ?_, ?_⟩
        · have hj : Blk w2 M 33 (c0 sl) := by
            have h1 : st = 0 ∨ st = 1 ∨ st = 2 := by omega
            rcases h1 with rfl | rfl | rfl
            · have hj : DMs W r M _ (c0 sl) w2 ∧ _ := hJ
              exact hj.1.bp
            · have hj : DMs W r M _ (c0 sl) w2 ∧ _ := hJ
              exact hj.1.bp
            · have hj : DMs W r M _ (c0 sl) w2 ∧ _ := hJ
              exact hj.1.bp
          rw [HC0.out] at hj
          have hx : w2.cell? ⟨M, 4, none⟩ = some sl := hj.cell 4
          clear hj
          clear hlo hhi hJ
          go_simp
          exact And.intro rfl rfl
        simp only [Act.put, List.setIfInBounds_toArray, List.set_cons_succ, List.set_cons_zero, Nat.reduceAdd]
        refine ch_plain 0 4 1 (by rfl) rfl (by kernel_rfl) (by kernel_rfl) ?_
        apply Exists.intro
        refine ⟨fun st w2 hlo hhi hJ => ?_, ?_⟩
        · clear hlo hhi hJ
          go_simp
          exact And.intro rfl rfl
        simp only [Act.put, List.setIfInBounds_toArray, List.set_cons_succ, List.set_cons_zero, Nat.reduceAdd]
        refine ch_plain 0 4 1 (by rfl) rfl (by kernel_rfl) (by kernel_rfl) ?_
        apply Exists.intro
        refine ⟨fun st w2 hlo hhi hJ => ?_, ?_⟩
        · clear hlo hhi hJ
          go_simp
          exact And.intro rfl rfl
        simp only [Act.put, List.setIfInBounds_toArray, List.set_cons_succ, List.set_cons_zero, Nat.reduceAdd]
        refine ch_plain 0 4 1 (by rfl) rfl (by kernel_rfl) (by kernel_rfl) ?_
        apply Exists.intro
        refine ⟨fun st w2 hlo hhi hJ => ?_, ?_⟩
        · clear hlo hhi hJ
          go_simp
          exact And.intro rfl rfl
        simp only [Act.put, List.setIfInBounds_toArray, List.set_cons_succ, List.set_cons_zero, Nat.reduceAdd]
        refine ch_special 0 1 (by rfl) rfl (by decide) (by kernel_rfl) (fun w2 hJ => ?_) ?_
        · have hj : DMs W r M sk2 (c0 sl) w2 ∧ OwN w2 W.heap.size sl es := hJ
          go_simp
          refine (HN3.out w2 hj.1.rd).mono ?_
          rintro e w3 ⟨rfl, h1, h2⟩
          exact ⟨_, rfl, rfl, hj.1.read h2 h1, hj.2.row_ (by have h3 := hj.1.o1; have h4 := hj.1.o2; omega) h2⟩
        rw [n3]
        simp only [Act.put, List.setIfInBounds_toArray, List.set_cons_succ, List.set_cons_zero, Nat.reduceAdd]
        refine ch_plain 0 4 1 (by rfl) rfl (by kernel_rfl) (by kernel_rfl) ?_
        apply Exists.intro
        refine ⟨fun st w2 hlo hhi hJ => ?_, ?_⟩
        · clear hlo hhi hJ
          go_simp
          exact And.intro rfl rfl
        simp only [Act.put, List.setIfInBounds_toArray, List.set_cons_succ, List.set_cons_zero, Nat.reduceAdd]
        refine ch_special 1 2 (by rfl) rfl (by decide) (by kernel_rfl) (fun w2 hJ => ?_) ?_
        · have hj : DMs W r M sn (c0 sl) w2 ∧ OwN w2 W.heap.size sl es := hJ
          go_simp
          have hbb := (Below.refl w2.heap.size w2).alloc (Nat.le_refl _) (Obj.cells #[.int .u64 (tm : Int), .int .i64 (kd : Int), .int .u64 g1, .int .u64 g2] 53)
          exact ⟨⟨_, rfl⟩, hj.1.keep hbb, hj.2.keep hbb, ⟨_, rfl, Blk.new _ _ _⟩⟩
        rw [n4]
        simp only [Act.put, List.setIfInBounds_toArray, List.set_cons_succ, List.set_cons_zero, Nat.reduceAdd]
        refine ch_special 2 1 (by rfl) rfl (by decide) (by kernel_rfl) (fun w2 hJ => ?_) ?_
        · have hj : DMs W r M sn (c0 sl) w2 ∧ OwN w2 W.heap.size sl es ∧ (∃ g, ν 7 = .slice (some ⟨g, 0, none⟩) 1 1 ∧ Blk w2 g 53 (enL (⟨(tm : Int), (kd : Int), (g1, g2)⟩ : En)).toArray) := hJ
          have hws := hj.1.kp.size
          obtain ⟨v', w', hr, hp, hbx⟩ := app_en (w := w2) (e := (⟨(tm : Int), (kd : Int), (g1, g2)⟩ : En)) 23 hj.2.1 HWE.out hj.2.2 HLE.out hws
          rw [n4] at hr
          rw [exec_append (.tmp 96) (.tmp 102) 23 rfl sl (.slice (some ⟨gq, 0, none⟩) 1 1) rfl rfl v' hr]
          obtain ⟨a8, c8, e8⟩ := hp.slice_
          exact ⟨⟨a8, c8, by rw [e8, List.length_append]; rfl⟩, hj.1.above hbx, hp⟩
        rw [n5]
        simp only [Act.put, List.setIfInBounds_toArray, List.set_cons_succ, List.set_cons_zero, Nat.reduceAdd]
        refine ch_plain 0 4 1 (by rfl) rfl (by kernel_rfl) (by kernel_rfl) ?_
        apply Exists.intro
        refine ⟨fun st w2 hlo hhi hJ => ?_, ?_⟩
        · clear hlo hhi hJ
          go_simp
          exact And.intro rfl rfl
        simp only [Act.put, List.setIfInBounds_toArray, List.set_cons_succ, List.set_cons_zero, Nat.reduceAdd]
        refine ch_special 3 1 (by rfl) rfl (by decide) (by kernel_rfl) (fun w2 hJ => ?_) ?_
        · have hj : DMs W r M sn (c0 sl) w2 ∧ OwN w2 W.heap.size (ν 8) (es ++ [(⟨(tm : Int), (kd : Int), (g1, g2)⟩ : En)]) := hJ
          have hbp := hj.1.bp
          rw [HC0.out] at hbp
          have hx : w2.cell? ⟨M, 4, none⟩ = some sl := hbp.cell 4
          have hf := hbp.frozen 4
          have HJ := Lib.hid hj
          clear hj hJ hbp
          go_simp
          refine ⟨rfl, ?_⟩
          show DMs W r M sn (c0 (.slice a7 (es.length + 1) c7)) _ ∧ OwN _ W.heap.size (.slice a7 (es.length + 1) c7) (es ++ [(⟨(tm : Int), (kd : Int), (g1, g2)⟩ : En)])
          rw [← n5]
          have hs := HJ.out.1.set 4 (ν 8)
          rw [HC0.out] at hs
          rw [HC0.out]
          exact ⟨hs, HJ.out.2.setM HJ.out.1.o2 4 _⟩
        rw [n7]
        simp only [Act.put, Nat.reduceAdd]
        refine ch_nil (fun w5 hJ => ?_)
        have HF := Lib.hid (show DMs W r M sn (c0 (ν 8)) w5 ∧ OwN w5 W.heap.size (ν 8) (es ++ [(⟨(tm : Int), (kd : Int), (g1, g2)⟩ : En)]) from hJ)
        clear hJ n3 n4 n5 n7
        go_wp2
        rw [I9.out]
        exact ⟨⟨k + 1, ν 8, es ++ [(⟨(tm : Int), (kd : Int), (g1, g2)⟩ : En)], sn, HKN.out, by rw [List.length_append, HGL.out]; rfl, rfl, HF.out.1, HF.out.2, HSTEP.out⟩, meas_succ HKN.out⟩
      · obtain ⟨e1, e2⟩ := HEND.out (.inl ⟨hkn, rfl⟩)
        have i1 : (k : Int) < (n : Int) := by omega
        have y2 : wr.cell? ⟨r, 1, none⟩ = some (.bool true) := y1
        clear hkn y1 hk HG HEND
        replace HD := Lib.hid (show DMs W r M s9 (c0 sl) wr from e2 ▸ HD.out)
        subst e1
        obtain ⟨ea, ec, hsl⟩ := HOE.out.slice_
        subst hsl
        have hd := HD.out
        rw [HC0.out] at hd
        rw [show msA m0 (.slice ea es.length ec) (.slice none 0 0) (.slice none 0 0) = msA (p_es m0 es) (.slice ea es.length ec) (.slice none 0 0) (.slice none 0 0) from rfl] at hd
        replace HD := Lib.hid hd
        clear hd HC0 e2
        have p0 : wr.cell? ⟨M, 0, none⟩ = some (.int .i64 m0.K) := by rw [HD.out.bp.cell]; rfl
        rw [HCE.out.2.1, HKK.out] at p0
        have HZ5 : Hid (m0.C = 0 ∧ m0.S = 0) := Lib.hid (by rw [HM0.out]; exact ⟨rfl, rfl⟩)
        go_wp2_with fail
        clear p0
        refine (rsmall_any r s9 _ HD.out.rd).mono ?_
        rintro e w10 ⟨rfl, h1, h2⟩
        replace HD := Lib.hid (HD.out.read h2 h1)
        replace HOE := Lib.hid (HOE.out.row_ (by have := HD.out.o1; have := HD.out.o2; omega) h2)
        clear h1 h2
        have p0 : w10.cell? ⟨M, 0, none⟩ = some (.int .i64 m0.K) := by rw [HD.out.bp.cell]; rfl
        rw [HCE.out.2.1, HKK.out] at p0
        have c5 : w10.cell? ⟨M, 5, none⟩ = some (.int .i64 m0.C) := by rw [HD.out.bp.cell]; rfl
        have f5 := HD.out.bp.frozen 5
        have hd := HD.out.set 5 (.int .i64 (smV s9 : Nat))
        rw [st9_C] at hd
        replace HD := Lib.hid hd
        clear hd
        replace HOE := Lib.hid (HOE.out.setM HD.out.o2 5 (.int .i64 (smV s9 : Nat)))
        go_wp2_with fail
        generalize w10.setCell ⟨M, 5, none⟩ (.int .i64 (smV s9 : Nat)) = w11 at *
        clear p0 c5 f5
        refine (refNum_any r (nx s9) _ HD.out.rd).mono ?_
        rintro e w12 ⟨rfl, h1, h2⟩
        replace HD := Lib.hid (HD.out.read (st' := nx (nx s9)) h2 h1)
        replace HOE := Lib.hid (HOE.out.row_ (by have := HD.out.o1; have := HD.out.o2; omega) h2)
        clear h1 h2
        have e1 : IntKind.i64.wrap ((Wire.num (nx s9)).1 : Nat) = stV (nx s9) := stv_wrap _
        have e2 : wrap64 ((Wire.num (nx s9)).1 : Nat) = stV (nx s9) := rfl
        have p0 : w12.cell? ⟨M, 0, none⟩ = some (.int .i64 m0.K) := by rw [HD.out.bp.cell]; rfl
        rw [HCE.out.2.1, HKK.out] at p0
        have c8 : w12.cell? ⟨M, 8, none⟩ = some (.int .i64 m0.S) := by rw [HD.out.bp.cell]; rfl
        have f8 := HD.out.bp.frozen 8
        have hd := HD.out.set 8 (.int .i64 (stV (nx s9)))
        rw [st9_S] at hd
        replace HD := Lib.hid hd
        clear hd
        replace HOE := Lib.hid (HOE.out.setM HD.out.o2 8 (.int .i64 (stV (nx s9))))
        go_upto_region 35 with fail
        generalize w12.setCell ⟨M, 8, none⟩ (.int .i64 (stV (nx s9))) = w13 at *
        clear p0 c8 f8 e1 e2
        have HSZ := Lib.hid (msg_size (p_S (p_C (p_es m0 es) (smV s9 : Nat)) (stV (nx s9))) (.slice ea es.length ec) (.slice none 0 0) (.slice none 0 0))
        have HON9 : Hid ((msA (p_S (p_C (p_es m0 es) (smV s9 : Nat)) (stV (nx s9))) (.slice ea es.length ec) (.slice none 0 0) (.slice none 0 0)).all (fun x => x.oneCell') = true) := Lib.hid (by exact msA_one _ _ _ _ _ _ _ _ _ _)
        have HZZ := Lib.hid (HD.out.kp.blk HZ.out (by have := HO.out; omega))
        have HEQ : Hid (∀ wz, Kp (fun b => b ≤ w.heap.size) w13 wz → InMs wz (.agg (msA (p_S (p_C (p_es m0 es) (smV s9 : Nat)) (stV (nx s9))) (.slice ea es.length ec) (.slice none 0 0) (.slice none 0 0))) (p_S (p_C (p_es m0 es) (smV s9 : Nat)) (stV (nx s9)))) := Lib.hid (by
          intro wz hk
          refine ⟨_, _, _, rfl, ?_, ?_, ?_, ((((by rw [HM0.out]; exact ((((zeroM_wf.K_ HKW.out).T_ (num_wf _)).P_ (sm_wf _)).PT_ (num_wf _)) : wfM m0).es_ es).C_ (sm_wf _)).S_ (st_wf _))⟩
          · exact (HOE.out.kp hk fun b hb e => by have := HD.out.o2; have := HO.out; omega).ine
          · rw [show ((p_S (p_C (p_es m0 es) (smV s9 : Nat)) (stV (nx s9)))).l.l = [] from HCE.out.2.2.1]; exact InG.nil_ _
          · rw [show ((p_S (p_C (p_es m0 es) (smV s9 : Nat)) (stV (nx s9)))).p.cs = [] from HCE.out.2.2.2]; exact InC.nil_ _ _ _)
        have HRD : Hid (((p_S (p_C (p_es m0 es) (smV s9 : Nat)) (stV (nx s9)))).K = K ∧ RD s (p_S (p_C (p_es m0 es) (smV s9 : Nat)) (stV (nx s9))) (nx (nx s9))) := Lib.hid (by
          refine ⟨HCE.out.2.1, ?_⟩
          have hk := HKK.out
          have hkm : m0.K = 3 := HCE.out.2.1.trans hk
          exact ⟨fun q => absurd q (by show ¬ m0.K = 1; omega), fun q => absurd q (by show ¬ m0.K = 2; omega), fun _ => ⟨by rw [HM0.out, hk, ← HES2.out.1, ← HES2.out.2]; rfl, by rw [← HES2.out.2]⟩, fun q => absurd q (by show ¬ m0.K = 4; omega), fun q => absurd q (by show ¬ m0.K = 5; omega), fun q => absurd q (by show ¬ m0.K = 6; omega), fun q => absurd q (by show ¬ m0.K = 7; omega)⟩)
        generalize hmm : (p_S (p_C (p_es m0 es) (smV s9 : Nat)) (stV (nx s9))) = mm at *
        clear hmm
        generalize msA mm (.slice ea es.length ec) (.slice none 0 0) (.slice none 0 0) = ua at *
        have HUZ : Hid (zeroA.size = ua.size) := Lib.hid (by have h1 := HSZ.out; have h2 := zeroA_size; rw [h2] at h1; exact Option.some.inj h1)
        go_wp2_with (first | refine wpList_wanted_run (by rfl) (.agg ua) (exec_load_blk 33 _ rfl M rfl _ HD.out.bp Tryz.underlying33 rfl HSZ.out) ?_ | refine wpList_store_then rfl 33 _ _ rfl w.heap.size ua rfl rfl 33 _ HZZ.out HSZ.out HUZ.out HON9.out ?_)
        refine Later.mk fun wz hwz => ?_
        have H9 : Hid (Blk wz w.heap.size 33 ua ∧ (∀ w'', Kp (fun b => b < w.heap.size) wz w'' → InMs w'' (.agg ua) mm) ∧ RdR wz r (nx (nx s9)) ∧ w.grownBy wz (some r)) := Lib.hid (by
          have hk9 : Kp (· = w.heap.size) w13 wz := by rw [hwz]; exact kp_setRow _ _ _
          have ho := HO.out
          have hrr : Below w.heap.size w13 wz := hk9.below (fun b hb => Nat.le_of_eq hb.symm) (Nat.le_of_lt HZZ.out.lt)
          refine ⟨by rw [hwz]; exact HZZ.out.row _, fun w'' q => HEQ.out w'' ((hk9.mono fun b hb => Nat.le_of_eq hb).trans (q.mono fun b hb => Nat.le_of_lt hb)), HD.out.rd.below hrr ho.2, ?_⟩
          have hg := HG0.out
          have hkp := HD.out.kp
          refine ⟨hk9.1.os.trans (hkp.1.os.trans hg.os), hk9.1.tape.trans (hkp.1.tape.trans hg.tape), hk9.1.output.trans (hkp.1.output.trans hg.output), Nat.le_trans hg.size (Nat.le_trans hkp.size hk9.size), fun i hi hr => ?_⟩
          have h3 : i ≠ r := fun q => hr (by rw [q])
          have h4 := hg.size
          rw [hk9.2 i (by have := hkp.size; omega) (by omega), hkp.2 i (by omega) (by omega)]
          exact hg.block i hi hr)
        clear hwz
        go_wp2
        refine bodyPost_ret (results_cell1 (ty := 33) (g := w.heap.size) (k := 2) rfl rfl H9.out.1 Tryz.underlying33 rfl HSZ.out) rfl ?_
        exact ⟨ua, mm, _, rfl, H9.out.2.1, HRD.out, H9.out.2.2.1, H9.out.2.2.2⟩
      · obtain ⟨e1, e2⟩ := HEND.out (.inr rfl)
        clear y1 hk HG HEND
        replace HD := Lib.hid (show DMs W r M s9 (c0 sl) wr from e2 ▸ HD.out)
        subst e1
        obtain ⟨ea, ec, hsl⟩ := HOE.out.slice_
        subst hsl
        have hd := HD.out
        rw [HC0.out] at hd
        rw [show msA m0 (.slice ea es.length ec) (.slice none 0 0) (.slice none 0 0) = msA (p_es m0 es) (.slice ea es.length ec) (.slice none 0 0) (.slice none 0 0) from rfl] at hd
        replace HD := Lib.hid hd
        clear hd HC0 e2
        have p0 : wr.cell? ⟨M, 0, none⟩ = some (.int .i64 m0.K) := by rw [HD.out.bp.cell]; rfl
        rw [HCE.out.2.1, HKK.out] at p0
        have HZ5 : Hid (m0.C = 0 ∧ m0.S = 0) := Lib.hid (by rw [HM0.out]; exact ⟨rfl, rfl⟩)
        go_wp2_with fail
        clear p0
        refine (rsmall_any r s9 _ HD.out.rd).mono ?_
        rintro e w10 ⟨rfl, h1, h2⟩
        replace HD := Lib.hid (HD.out.read h2 h1)
        replace HOE := Lib.hid (HOE.out.row_ (by have := HD.out.o1; have := HD.out.o2; omega) h2)
        clear h1 h2
        have p0 : w10.cell? ⟨M, 0, none⟩ = some (.int .i64 m0.K) := by rw [HD.out.bp.cell]; rfl
        rw [HCE.out.2.1, HKK.out] at p0
        have c5 : w10.cell? ⟨M, 5, none⟩ = some (.int .i64 m0.C) := by rw [HD.out.bp.cell]; rfl
        have f5 := HD.out.bp.frozen 5
        have hd := HD.out.set 5 (.int .i64 (smV s9 : Nat))
        rw [st9_C] at hd
        replace HD := Lib.hid hd
        clear hd
        replace HOE := Lib.hid (HOE.out.setM HD.out.o2 5 (.int .i64 (smV s9 : Nat)))
        go_wp2_with fail
        generalize w10.setCell ⟨M, 5, none⟩ (.int .i64 (smV s9 : Nat)) = w11 at *
        clear p0 c5 f5
        refine (refNum_any r (nx s9) _ HD.out.rd).mono ?_
        rintro e w12 ⟨rfl, h1, h2⟩
        replace HD := Lib.hid (HD.out.read (st' := nx (nx s9)) h2 h1)
        replace HOE := Lib.hid (HOE.out.row_ (by have := HD.out.o1; have := HD.out.o2; omega) h2)
        clear h1 h2
        have e1 : IntKind.i64.wrap ((Wire.num (nx s9)).1 : Nat) = stV (nx s9) := stv_wrap _
        have e2 : wrap64 ((Wire.num (nx s9)).1 : Nat) = stV (nx s9) := rfl
        have p0 : w12.cell? ⟨M, 0, none⟩ = some (.int .i64 m0.K) := by rw [HD.out.bp.cell]; rfl
        rw [HCE.out.2.1, HKK.out] at p0
        have c8 : w12.cell? ⟨M, 8, none⟩ = some (.int .i64 m0.S) := by rw [HD.out.bp.cell]; rfl
        have f8 := HD.out.bp.frozen 8
        have hd := HD.out.set 8 (.int .i64 (stV (nx s9)))
        rw [st9_S] at hd
        replace HD := Lib.hid hd
        clear hd
        replace HOE := Lib.hid (HOE.out.setM HD.out.o2 8 (.int .i64 (stV (nx s9))))
        go_upto_region 35 with fail
        generalize w12.setCell ⟨M, 8, none⟩ (.int .i64 (stV (nx s9))) = w13 at *
        clear p0 c8 f8 e1 e2
        have HSZ := Lib.hid (msg_size (p_S (p_C (p_es m0 es) (smV s9 : Nat)) (stV (nx s9))) (.slice ea es.length ec) (.slice none 0 0) (.slice none 0 0))
        have HON9 : Hid ((msA (p_S (p_C (p_es m0 es) (smV s9 : Nat)) (stV (nx s9))) (.slice ea es.length ec) (.slice none 0 0) (.slice none 0 0)).all (fun x => x.oneCell') = true) := Lib.hid (by exact msA_one _ _ _ _ _ _ _ _ _ _)
        have HZZ := Lib.hid (HD.out.kp.blk HZ.out (by have := HO.out; omega))
        have HEQ : Hid (∀ wz, Kp (fun b => b ≤ w.heap.size) w13 wz → InMs wz (.agg (msA (p_S (p_C (p_es m0 es) (smV s9 : Nat)) (stV (nx s9))) (.slice ea es.length ec) (.slice none 0 0) (.slice none 0 0))) (p_S (p_C (p_es m0 es) (smV s9 : Nat)) (stV (nx s9)))) := Lib.hid (by
          intro wz hk
          refine ⟨_, _, _, rfl, ?_, ?_, ?_, ((((by rw [HM0.out]; exact ((((zeroM_wf.K_ HKW.out).T_ (num_wf _)).P_ (sm_wf _)).PT_ (num_wf _)) : wfM m0).es_ es).C_ (sm_wf _)).S_ (st_wf _))⟩
          · exact (HOE.out.kp hk fun b hb e => by have := HD.out.o2; have := HO.out; omega).ine
          · rw [show ((p_S (p_C (p_es m0 es) (smV s9 : Nat)) (stV (nx s9)))).l.l = [] from HCE.out.2.2.1]; exact InG.nil_ _
          · rw [show ((p_S (p_C (p_es m0 es) (smV s9 : Nat)) (stV (nx s9)))).p.cs = [] from HCE.out.2.2.2]; exact InC.nil_ _ _ _)
        have HRD : Hid (((p_S (p_C (p_es m0 es) (smV s9 : Nat)) (stV (nx s9)))).K = K ∧ RD s (p_S (p_C (p_es m0 es) (smV s9 : Nat)) (stV (nx s9))) (nx (nx s9))) := Lib.hid (by
          refine ⟨HCE.out.2.1, ?_⟩
          have hk := HKK.out
          have hkm : m0.K = 3 := HCE.out.2.1.trans hk
          exact ⟨fun q => absurd q (by show ¬ m0.K = 1; omega), fun q => absurd q (by show ¬ m0.K = 2; omega), fun _ => ⟨by rw [HM0.out, hk, ← HES2.out.1, ← HES2.out.2]; rfl, by rw [← HES2.out.2]⟩, fun q => absurd q (by show ¬ m0.K = 4; omega), fun q => absurd q (by show ¬ m0.K = 5; omega), fun q => absurd q (by show ¬ m0.K = 6; omega), fun q => absurd q (by show ¬ m0.K = 7; omega)⟩)
        generalize hmm : (p_S (p_C (p_es m0 es) (smV s9 : Nat)) (stV (nx s9))) = mm at *
        clear hmm
        generalize msA mm (.slice ea es.length ec) (.slice none 0 0) (.slice none 0 0) = ua at *
        have HUZ : Hid (zeroA.size = ua.size) := Lib.hid (by have h1 := HSZ.out; have h2 := zeroA_size; rw [h2] at h1; exact Option.some.inj h1)
        go_wp2_with (first | refine wpList_wanted_run (by rfl) (.agg ua) (exec_load_blk 33 _ rfl M rfl _ HD.out.bp Tryz.underlying33 rfl HSZ.out) ?_ | refine wpList_store_then rfl 33 _ _ rfl w.heap.size ua rfl rfl 33 _ HZZ.out HSZ.out HUZ.out HON9.out ?_)
        refine Later.mk fun wz hwz => ?_
        have H9 : Hid (Blk wz w.heap.size 33 ua ∧ (∀ w'', Kp (fun b => b < w.heap.size) wz w'' → InMs w'' (.agg ua) mm) ∧ RdR wz r (nx (nx s9)) ∧ w.grownBy wz (some r)) := Lib.hid (by
          have hk9 : Kp (· = w.heap.size) w13 wz := by rw [hwz]; exact kp_setRow _ _ _
          have ho := HO.out
          have hrr : Below w.heap.size w13 wz := hk9.below (fun b hb => Nat.le_of_eq hb.symm) (Nat.le_of_lt HZZ.out.lt)
          refine ⟨by rw [hwz]; exact HZZ.out.row _, fun w'' q => HEQ.out w'' ((hk9.mono fun b hb => Nat.le_of_eq hb).trans (q.mono fun b hb => Nat.le_of_lt hb)), HD.out.rd.below hrr ho.2, ?_⟩
          have hg := HG0.out
          have hkp := HD.out.kp
          refine ⟨hk9.1.os.trans (hkp.1.os.trans hg.os), hk9.1.tape.trans (hkp.1.tape.trans hg.tape), hk9.1.output.trans (hkp.1.output.trans hg.output), Nat.le_trans hg.size (Nat.le_trans hkp.size hk9.size), fun i hi hr => ?_⟩
          have h3 : i ≠ r := fun q => hr (by rw [q])
          have h4 := hg.size
          rw [hk9.2 i (by have := hkp.size; omega) (by omega), hkp.2 i (by omega) (by omega)]
          exact hg.block i hi hr)
        clear hwz
        go_wp2
        refine bodyPost_ret (results_cell1 (ty := 33) (g := w.heap.size) (k := 2) rfl rfl H9.out.1 Tryz.underlying33 rfl HSZ.out) rfl ?_
        exact ⟨ua, mm, _, rfl, H9.out.2.1, HRD.out, H9.out.2.2.1, H9.out.2.2.2⟩
  · have HKK := Lib.hid k
    clear k hk
    have p0 : W.cell? ⟨M, 0, none⟩ = some (.int .i64 K) := by rw [HD.out.bp.cell]; rfl
    rw [HKK.out] at p0
    go_wp2_with fail
    clear p0
    refine (refNum_any r (s) _ HD.out.rd).mono ?_
    rintro e w3 ⟨rfl, h1, h2⟩
    replace HD := Lib.hid (HD.out.read h2 h1)
    clear h1 h2
    have p0 : w3.cell? ⟨M, 0, none⟩ = some (.int .i64 K) := by rw [HD.out.bp.cell]; rfl
    rw [HKK.out] at p0
    have c1 : w3.cell? ⟨M, 1, none⟩ = some (.int .u64 0) := by rw [HD.out.bp.cell]; rfl
    have f1 := HD.out.bp.frozen 1
    have hd := (HD.out).set 1 (.int .u64 ((Wire.num (s)).1 : Nat))
    rw [st9_T] at hd
    replace HD := Lib.hid hd
    clear hd
    go_wp2_with fail
    generalize (w3).setCell ⟨M, 1, none⟩ (.int .u64 ((Wire.num (s)).1 : Nat)) = w4 at *
    clear p0 c1 f1
    refine (ryes_any r (nx (s)) _ HD.out.rd).mono ?_
    rintro e w5 ⟨rfl, h1, h2⟩
    replace HD := Lib.hid (HD.out.read h2 h1)
    clear h1 h2
    have p0 : w5.cell? ⟨M, 0, none⟩ = some (.int .i64 K) := by rw [HD.out.bp.cell]; rfl
    rw [HKK.out] at p0
    have c6 : w5.cell? ⟨M, 6, none⟩ = some (.bool false) := by rw [HD.out.bp.cell]; rfl
    have f6 := HD.out.bp.frozen 6
    have hd := (HD.out).set 6 (.bool (yesV (nx (s))))
    rw [st9_Y] at hd
    replace HD := Lib.hid hd
    clear hd
    go_wp2_with fail
    generalize (w5).setCell ⟨M, 6, none⟩ (.bool (yesV (nx (s)))) = w6 at *
    clear p0 c6 f6
    refine (rsmall_any r (yesS (nx (s))) _ HD.out.rd).mono ?_
    rintro e w7 ⟨rfl, h1, h2⟩
    replace HD := Lib.hid (HD.out.read h2 h1)
    clear h1 h2
    have p0 : w7.cell? ⟨M, 0, none⟩ = some (.int .i64 K) := by rw [HD.out.bp.cell]; rfl
    rw [HKK.out] at p0
    have c7 : w7.cell? ⟨M, 7, none⟩ = some (.int .i64 0) := by rw [HD.out.bp.cell]; rfl
    have f7 := HD.out.bp.frozen 7
    have hd := (HD.out).set 7 (.int .i64 (smV (yesS (nx (s))) : Nat))
    rw [st9_M] at hd
    replace HD := Lib.hid hd
    clear hd
    go_wp2_with fail
    generalize (w7).setCell ⟨M, 7, none⟩ (.int .i64 (smV (yesS (nx (s))) : Nat)) = w8 at *
    clear p0 c7 f7
    refine (refNum_any r (nx (yesS (nx (s)))) _ HD.out.rd).mono ?_
    rintro e w9 ⟨rfl, h1, h2⟩
    replace HD := Lib.hid (HD.out.read (st' := nx (nx (yesS (nx (s))))) h2 h1)
    clear h1 h2
    have e1 : IntKind.i64.wrap ((Wire.num (nx (yesS (nx (s))))).1 : Nat) = stV (nx (yesS (nx (s)))) := stv_wrap _
    have e2 : wrap64 ((Wire.num (nx (yesS (nx (s))))).1 : Nat) = stV (nx (yesS (nx (s)))) := rfl
    have p0 : w9.cell? ⟨M, 0, none⟩ = some (.int .i64 K) := by rw [HD.out.bp.cell]; rfl
    rw [HKK.out] at p0
    have c8 : w9.cell? ⟨M, 8, none⟩ = some (.int .i64 0) := by rw [HD.out.bp.cell]; rfl
    have f8 := HD.out.bp.frozen 8
    have hd := HD.out.set 8 (.int .i64 (stV (nx (yesS (nx (s))))))
    rw [st9_S] at hd
    replace HD := Lib.hid hd
    clear hd
    go_upto_region 35 with fail
    generalize w9.setCell ⟨M, 8, none⟩ (.int .i64 (stV (nx (yesS (nx (s)))))) = w10 at *
    clear p0 c8 f8 e1 e2
    have HSZ := Lib.hid (msg_size (p_S (p_M (p_Y (p_T (p_K zeroM K) ((Wire.num (s)).1 : Nat)) (yesV (nx (s)))) (smV (yesS (nx (s))) : Nat)) (stV (nx (yesS (nx (s)))))) (.slice none 0 0) (.slice none 0 0) (.slice none 0 0))
    have HON9 : Hid ((msA (p_S (p_M (p_Y (p_T (p_K zeroM K) ((Wire.num (s)).1 : Nat)) (yesV (nx (s)))) (smV (yesS (nx (s))) : Nat)) (stV (nx (yesS (nx (s)))))) (.slice none 0 0) (.slice none 0 0) (.slice none 0 0)).all (fun x => x.oneCell') = true) := Lib.hid (by exact msA_one _ _ _ _ _ _ _ _ _ _)
    have HZZ := Lib.hid (HD.out.kp.blk HZ.out (by have := HO.out; omega))
    have HEQ : Hid (∀ wz, Kp (fun b => b ≤ w.heap.size) w10 wz → InMs wz (.agg (msA (p_S (p_M (p_Y (p_T (p_K zeroM K) ((Wire.num (s)).1 : Nat)) (yesV (nx (s)))) (smV (yesS (nx (s))) : Nat)) (stV (nx (yesS (nx (s)))))) (.slice none 0 0) (.slice none 0 0) (.slice none 0 0))) (p_S (p_M (p_Y (p_T (p_K zeroM K) ((Wire.num (s)).1 : Nat)) (yesV (nx (s)))) (smV (yesS (nx (s))) : Nat)) (stV (nx (yesS (nx (s))))))) := Lib.hid (by
      intro wz hk
      refine ⟨_, _, _, rfl, ?_, ?_, ?_, (((((zeroM_wf.K_ HKW.out).T_ (num_wf _)).Y_ _).M_ (sm_wf _)).S_ (st_wf _))⟩
      · exact InE.nil0 _
      · exact InG.nil_ _
      · exact InC.nil_ _ _ _)
    have HRD : Hid (((p_S (p_M (p_Y (p_T (p_K zeroM K) ((Wire.num (s)).1 : Nat)) (yesV (nx (s)))) (smV (yesS (nx (s))) : Nat)) (stV (nx (yesS (nx (s))))))).K = K ∧ RD s (p_S (p_M (p_Y (p_T (p_K zeroM K) ((Wire.num (s)).1 : Nat)) (yesV (nx (s)))) (smV (yesS (nx (s))) : Nat)) (stV (nx (yesS (nx (s)))))) (nx (nx (yesS (nx (s)))))) := Lib.hid (by
      refine ⟨rfl, ?_⟩
      have hk := HKK.out
      exact ⟨fun q => absurd q (by show ¬ K = 1; omega), fun q => absurd q (by show ¬ K = 2; omega), fun q => absurd q (by show ¬ K = 3; omega), fun _ => ⟨by rw [hk]; rfl, rfl⟩, fun q => absurd q (by show ¬ K = 5; omega), fun q => absurd q (by show ¬ K = 6; omega), fun q => absurd q (by show ¬ K = 7; omega)⟩)
    generalize hmm : (p_S (p_M (p_Y (p_T (p_K zeroM K) ((Wire.num (s)).1 : Nat)) (yesV (nx (s)))) (smV (yesS (nx (s))) : Nat)) (stV (nx (yesS (nx (s)))))) = mm at *
    clear hmm
    generalize msA mm (.slice none 0 0) (.slice none 0 0) (.slice none 0 0) = ua at *
    have HUZ : Hid (zeroA.size = ua.size) := Lib.hid (by have h1 := HSZ.out; have h2 := zeroA_size; rw [h2] at h1; exact Option.some.inj h1)
    go_wp2_with (first | refine wpList_wanted_run (by rfl) (.agg ua) (exec_load_blk 33 _ rfl M rfl _ HD.out.bp Tryz.underlying33 rfl HSZ.out) ?_ | refine wpList_store_then rfl 33 _ _ rfl w.heap.size ua rfl rfl 33 _ HZZ.out HSZ.out HUZ.out HON9.out ?_)
    refine Later.mk fun wz hwz => ?_
    have H9 : Hid (Blk wz w.heap.size 33 ua ∧ (∀ w'', Kp (fun b => b < w.heap.size) wz w'' → InMs w'' (.agg ua) mm) ∧ RdR wz r (nx (nx (yesS (nx (s))))) ∧ w.grownBy wz (some r)) := Lib.hid (by
      have hk9 : Kp (· = w.heap.size) w10 wz := by rw [hwz]; exact kp_setRow _ _ _
      have ho := HO.out
      have hrr : Below w.heap.size w10 wz := hk9.below (fun b hb => Nat.le_of_eq hb.symm) (Nat.le_of_lt HZZ.out.lt)
      refine ⟨by rw [hwz]; exact HZZ.out.row _, fun w'' q => HEQ.out w'' ((hk9.mono fun b hb => Nat.le_of_eq hb).trans (q.mono fun b hb => Nat.le_of_lt hb)), HD.out.rd.below hrr ho.2, ?_⟩
      have hg := HG0.out
      have hkp := HD.out.kp
      refine ⟨hk9.1.os.trans (hkp.1.os.trans hg.os), hk9.1.tape.trans (hkp.1.tape.trans hg.tape), hk9.1.output.trans (hkp.1.output.trans hg.output), Nat.le_trans hg.size (Nat.le_trans hkp.size hk9.size), fun i hi hr => ?_⟩
      have h3 : i ≠ r := fun q => hr (by rw [q])
      have h4 := hg.size
      rw [hk9.2 i (by have := hkp.size; omega) (by omega), hkp.2 i (by omega) (by omega)]
      exact hg.block i hi hr)
    clear hwz
    go_wp2
    refine bodyPost_ret (results_cell1 (ty := 33) (g := w.heap.size) (k := 2) rfl rfl H9.out.1 Tryz.underlying33 rfl HSZ.out) rfl ?_
    exact ⟨ua, mm, _, rfl, H9.out.2.1, HRD.out, H9.out.2.2.1, H9.out.2.2.2⟩
  · have HKK := Lib.hid k
    clear k hk
    have p0 : W.cell? ⟨M, 0, none⟩ = some (.int .i64 K) := by rw [HD.out.bp.cell]; rfl
    rw [HKK.out] at p0
    go_wp2_with fail
    clear p0
    refine (rdline_any r (s) _ HD.out.rd).mono ?_
    rintro e w3 ⟨sl, rfl, hol, h1, h2⟩
    have hws := HD.out.kp.size
    replace HD := Lib.hid (HD.out.read h2 h1)
    obtain ⟨la, lc, hsl⟩ := hol.rd.slice_
    subst hsl
    have HOL := Lib.hid (hol.mono_ hws)
    have HLN := Lib.hid (show u64 (lnL (s)).E ∧ i64 (lnL (s)).B from ⟨num_wf _, sm_wf _⟩)
    clear h1 h2 hol hws
    generalize hx : lnL (s) = x at *
    have HX := Lib.hid hx
    clear hx
    have p0 : w3.cell? ⟨M, 0, none⟩ = some (.int .i64 K) := by rw [HD.out.bp.cell]; rfl
    rw [HKK.out] at p0
    have c9 : w3.cell? ⟨M, 9, none⟩ = some (.int .u64 0) := by rw [HD.out.bp.cell]; rfl
    have f9 := HD.out.bp.frozen 9
    have c10 : w3.cell? ⟨M, 10, none⟩ = some (.int .i64 0) := by rw [HD.out.bp.cell]; rfl
    have f10 := HD.out.bp.frozen 10
    have c11 : w3.cell? ⟨M, 11, none⟩ = some (.bool false) := by rw [HD.out.bp.cell]; rfl
    have f11 := HD.out.bp.frozen 11
    have c12 : w3.cell? ⟨M, 12, none⟩ = some (.slice none 0 0) := by rw [HD.out.bp.cell]; rfl
    have f12 := HD.out.bp.frozen 12
    have hd := ((((HD.out).set 9 (.int .u64 x.E)).set 10 (.int .i64 x.B)).set 11 (.bool x.L)).set 12 (.slice la x.l.length lc)
    rw [st_line] at hd
    replace HD := Lib.hid hd
    clear hd
    replace HOL := Lib.hid (((((HOL.out).setM (by have := HD.out.o2; omega) 9 (.int .u64 x.E)).setM (by have := HD.out.o2; omega) 10 (.int .i64 x.B)).setM (by have := HD.out.o2; omega) 11 (.bool x.L)).setM (by have := HD.out.o2; omega) 12 (.slice la x.l.length lc))
    go_wp2_with fail
    generalize ((((w3).setCell ⟨M, 9, none⟩ (.int .u64 x.E)).setCell ⟨M, 10, none⟩ (.int .i64 x.B)).setCell ⟨M, 11, none⟩ (.bool x.L)).setCell ⟨M, 12, none⟩ (.slice la x.l.length lc) = w4 at *
    clear p0 c9 f9 c10 f10 c11 f11 c12 f12
    refine (rsmall_any r (lnS (s)) _ HD.out.rd).mono ?_
    rintro e w5 ⟨rfl, h1, h2⟩
    replace HD := Lib.hid (HD.out.read h2 h1)
    replace HOL := Lib.hid (HOL.out.row_ (by have := HD.out.o1; have := HD.out.o2; omega) h2)
    clear h1 h2
    have p0 : w5.cell? ⟨M, 0, none⟩ = some (.int .i64 K) := by rw [HD.out.bp.cell]; rfl
    rw [HKK.out] at p0
    have c13 : w5.cell? ⟨M, 13, none⟩ = some (.int .i64 0) := by rw [HD.out.bp.cell]; rfl
    have f13 := HD.out.bp.frozen 13
    have hd := (HD.out).set 13 (.int .i64 (smV (lnS (s)) : Nat))
    rw [st9_n] at hd
    replace HD := Lib.hid hd
    clear hd
    replace HOL := Lib.hid ((HOL.out).setM (by have := HD.out.o2; omega) 13 (.int .i64 (smV (lnS (s)) : Nat)))
    go_wp2_with fail
    generalize (w5).setCell ⟨M, 13, none⟩ (.int .i64 (smV (lnS (s)) : Nat)) = w6 at *
    clear p0 c13 f13
    refine (rdguid_any r (nx (lnS (s))) _ HD.out.rd).mono ?_
    rintro e w7 ⟨rfl, h1, h2⟩
    replace HD := Lib.hid (HD.out.read h2 h1)
    replace HOL := Lib.hid (HOL.out.row_ (by have := HD.out.o1; have := HD.out.o2; omega) h2)
    clear h1 h2
    have p0 : w7.cell? ⟨M, 0, none⟩ = some (.int .i64 K) := by rw [HD.out.bp.cell]; rfl
    rw [HKK.out] at p0
    have c14 : w7.cell? ⟨M, 14, none⟩ = some (.int .u64 0) := by rw [HD.out.bp.cell]; rfl
    have f14 := HD.out.bp.frozen 14
    have c15 : w7.cell? ⟨M, 15, none⟩ = some (.int .u64 0) := by rw [HD.out.bp.cell]; rfl
    have f15 := HD.out.bp.frozen 15
    have hd := ((HD.out).set 14 (.int .u64 (gdOf (nx (lnS (s)))).1)).set 15 (.int .u64 (gdOf (nx (lnS (s)))).2)
    rw [st8_la] at hd
    replace HD := Lib.hid hd
    clear hd
    replace HOL := Lib.hid (((HOL.out).setM (by have := HD.out.o2; omega) 14 (.int .u64 (gdOf (nx (lnS (s)))).1)).setM (by have := HD.out.o2; omega) 15 (.int .u64 (gdOf (nx (lnS (s)))).2))
    go_wp2_with fail
    generalize ((w7).setCell ⟨M, 14, none⟩ (.int .u64 (gdOf (nx (lnS (s)))).1)).setCell ⟨M, 15, none⟩ (.int .u64 (gdOf (nx (lnS (s)))).2) = w8 at *
    clear p0 c14 f14 c15 f15
    refine (rdguid_any r (nx (nx (nx (lnS (s))))) _ HD.out.rd).mono ?_
    rintro e w9 ⟨rfl, h1, h2⟩
    replace HD := Lib.hid (HD.out.read h2 h1)
    replace HOL := Lib.hid (HOL.out.row_ (by have := HD.out.o1; have := HD.out.o2; omega) h2)
    clear h1 h2
    have p0 : w9.cell? ⟨M, 0, none⟩ = some (.int .i64 K) := by rw [HD.out.bp.cell]; rfl
    rw [HKK.out] at p0
    have c16 : w9.cell? ⟨M, 16, none⟩ = some (.int .u64 0) := by rw [HD.out.bp.cell]; rfl
    have f16 := HD.out.bp.frozen 16
    have c17 : w9.cell? ⟨M, 17, none⟩ = some (.int .u64 0) := by rw [HD.out.bp.cell]; rfl
    have f17 := HD.out.bp.frozen 17
    have hd := ((HD.out).set 16 (.int .u64 (gdOf (nx (nx (nx (lnS (s)))))).1)).set 17 (.int .u64 (gdOf (nx (nx (nx (lnS (s)))))).2)
    rw [st8_ta] at hd
    replace HD := Lib.hid hd
    clear hd
    replace HOL := Lib.hid (((HOL.out).setM (by have := HD.out.o2; omega) 16 (.int .u64 (gdOf (nx (nx (nx (lnS (s)))))).1)).setM (by have := HD.out.o2; omega) 17 (.int .u64 (gdOf (nx (nx (nx (lnS (s)))))).2))
    go_wp2_with fail
    generalize ((w9).setCell ⟨M, 16, none⟩ (.int .u64 (gdOf (nx (nx (nx (lnS (s)))))).1)).setCell ⟨M, 17, none⟩ (.int .u64 (gdOf (nx (nx (nx (lnS (s)))))).2) = w10 at *
    clear p0 c16 f16 c17 f17
    refine (rsmall_any r (nx (nx (nx (nx (nx (lnS (s))))))) _ HD.out.rd).mono ?_
    rintro e w11 ⟨rfl, h1, h2⟩
    replace HD := Lib.hid (HD.out.read h2 h1)
    replace HOL := Lib.hid (HOL.out.row_ (by have := HD.out.o1; have := HD.out.o2; omega) h2)
    clear h1 h2
    have p0 : w11.cell? ⟨M, 0, none⟩ = some (.int .i64 K) := by rw [HD.out.bp.cell]; rfl
    rw [HKK.out] at p0
    have c18 : w11.cell? ⟨M, 18, none⟩ = some (.int .i64 0) := by rw [HD.out.bp.cell]; rfl
    have f18 := HD.out.bp.frozen 18
    have hd := (HD.out).set 18 (.int .i64 (smV (nx (nx (nx (nx (nx (lnS (s))))))) : Nat))
    rw [st9_N] at hd
    replace HD := Lib.hid hd
    clear hd
    replace HOL := Lib.hid ((HOL.out).setM (by have := HD.out.o2; omega) 18 (.int .i64 (smV (nx (nx (nx (nx (nx (lnS (s))))))) : Nat)))
    go_upto_region 35 with fail
    generalize (w11).setCell ⟨M, 18, none⟩ (.int .i64 (smV (nx (nx (nx (nx (nx (lnS (s))))))) : Nat)) = w12 at *
    clear p0 c18 f18
    have HSZ := Lib.hid (msg_size (p_N (p_ta (p_la (p_n (p_l (p_K zeroM K) x) (smV (lnS (s)) : Nat)) (gdOf (nx (lnS (s))))) (gdOf (nx (nx (nx (lnS (s))))))) (smV (nx (nx (nx (nx (nx (lnS (s))))))) : Nat)) (.slice none 0 0) (.slice la x.l.length lc) (.slice none 0 0))
    have HON9 : Hid ((msA (p_N (p_ta (p_la (p_n (p_l (p_K zeroM K) x) (smV (lnS (s)) : Nat)) (gdOf (nx (lnS (s))))) (gdOf (nx (nx (nx (lnS (s))))))) (smV (nx (nx (nx (nx (nx (lnS (s))))))) : Nat)) (.slice none 0 0) (.slice la x.l.length lc) (.slice none 0 0)).all (fun x => x.oneCell') = true) := Lib.hid (by exact msA_one _ _ _ _ _ _ _ _ _ _)
    have HZZ := Lib.hid (HD.out.kp.blk HZ.out (by have := HO.out; omega))
    have HEQ : Hid (∀ wz, Kp (fun b => b ≤ w.heap.size) w12 wz → InMs wz (.agg (msA (p_N (p_ta (p_la (p_n (p_l (p_K zeroM K) x) (smV (lnS (s)) : Nat)) (gdOf (nx (lnS (s))))) (gdOf (nx (nx (nx (lnS (s))))))) (smV (nx (nx (nx (nx (nx (lnS (s))))))) : Nat)) (.slice none 0 0) (.slice la x.l.length lc) (.slice none 0 0))) (p_N (p_ta (p_la (p_n (p_l (p_K zeroM K) x) (smV (lnS (s)) : Nat)) (gdOf (nx (lnS (s))))) (gdOf (nx (nx (nx (lnS (s))))))) (smV (nx (nx (nx (nx (nx (lnS (s))))))) : Nat))) := Lib.hid (by
      intro wz hk
      refine ⟨_, _, _, rfl, ?_, ?_, ?_, ((((((zeroM_wf.K_ HKW.out).l_ HLN.out).n_ (sm_wf _)).la_ (gdOf_wf _)).ta_ (gdOf_wf _)).N_ (sm_wf _))⟩
      · exact InE.nil0 _
      · exact (HOL.out.kp hk fun b hb e => by have := HD.out.o2; have := HO.out; omega).rd
      · exact InC.nil_ _ _ _)
    have HRD : Hid (((p_N (p_ta (p_la (p_n (p_l (p_K zeroM K) x) (smV (lnS (s)) : Nat)) (gdOf (nx (lnS (s))))) (gdOf (nx (nx (nx (lnS (s))))))) (smV (nx (nx (nx (nx (nx (lnS (s))))))) : Nat))).K = K ∧ RD s (p_N (p_ta (p_la (p_n (p_l (p_K zeroM K) x) (smV (lnS (s)) : Nat)) (gdOf (nx (lnS (s))))) (gdOf (nx (nx (nx (lnS (s))))))) (smV (nx (nx (nx (nx (nx (lnS (s))))))) : Nat)) (nx (nx (nx (nx (nx (nx (lnS (s))))))))) := Lib.hid (by
      refine ⟨rfl, ?_⟩
      have hk := HKK.out
      exact ⟨fun q => absurd q (by show ¬ K = 1; omega), fun q => absurd q (by show ¬ K = 2; omega), fun q => absurd q (by show ¬ K = 3; omega), fun q => absurd q (by show ¬ K = 4; omega), fun _ => ⟨by rw [hk, ← HX.out]; rfl, rfl⟩, fun q => absurd q (by show ¬ K = 6; omega), fun q => absurd q (by show ¬ K = 7; omega)⟩)
    generalize hmm : (p_N (p_ta (p_la (p_n (p_l (p_K zeroM K) x) (smV (lnS (s)) : Nat)) (gdOf (nx (lnS (s))))) (gdOf (nx (nx (nx (lnS (s))))))) (smV (nx (nx (nx (nx (nx (lnS (s))))))) : Nat)) = mm at *
    clear hmm
    generalize msA mm (.slice none 0 0) (.slice la x.l.length lc) (.slice none 0 0) = ua at *
    have HUZ : Hid (zeroA.size = ua.size) := Lib.hid (by have h1 := HSZ.out; have h2 := zeroA_size; rw [h2] at h1; exact Option.some.inj h1)
    go_wp2_with (first | refine wpList_wanted_run (by rfl) (.agg ua) (exec_load_blk 33 _ rfl M rfl _ HD.out.bp Tryz.underlying33 rfl HSZ.out) ?_ | refine wpList_store_then rfl 33 _ _ rfl w.heap.size ua rfl rfl 33 _ HZZ.out HSZ.out HUZ.out HON9.out ?_)
    refine Later.mk fun wz hwz => ?_
    have H9 : Hid (Blk wz w.heap.size 33 ua ∧ (∀ w'', Kp (fun b => b < w.heap.size) wz w'' → InMs w'' (.agg ua) mm) ∧ RdR wz r (nx (nx (nx (nx (nx (nx (lnS (s)))))))) ∧ w.grownBy wz (some r)) := Lib.hid (by
      have hk9 : Kp (· = w.heap.size) w12 wz := by rw [hwz]; exact kp_setRow _ _ _
      have ho := HO.out
      have hrr : Below w.heap.size w12 wz := hk9.below (fun b hb => Nat.le_of_eq hb.symm) (Nat.le_of_lt HZZ.out.lt)
      refine ⟨by rw [hwz]; exact HZZ.out.row _, fun w'' q => HEQ.out w'' ((hk9.mono fun b hb => Nat.le_of_eq hb).trans (q.mono fun b hb => Nat.le_of_lt hb)), HD.out.rd.below hrr ho.2, ?_⟩
      have hg := HG0.out
      have hkp := HD.out.kp
      refine ⟨hk9.1.os.trans (hkp.1.os.trans hg.os), hk9.1.tape.trans (hkp.1.tape.trans hg.tape), hk9.1.output.trans (hkp.1.output.trans hg.output), Nat.le_trans hg.size (Nat.le_trans hkp.size hk9.size), fun i hi hr => ?_⟩
      have h3 : i ≠ r := fun q => hr (by rw [q])
      have h4 := hg.size
      rw [hk9.2 i (by have := hkp.size; omega) (by omega), hkp.2 i (by omega) (by omega)]
      exact hg.block i hi hr)
    clear hwz
    go_wp2
    refine bodyPost_ret (results_cell1 (ty := 33) (g := w.heap.size) (k := 2) rfl rfl H9.out.1 Tryz.underlying33 rfl HSZ.out) rfl ?_
    exact ⟨ua, mm, _, rfl, H9.out.2.1, HRD.out, H9.out.2.2.1, H9.out.2.2.2⟩
  · have HKK := Lib.hid k
    clear k hk
    have p0 : W.cell? ⟨M, 0, none⟩ = some (.int .i64 K) := by rw [HD.out.bp.cell]; rfl
    rw [HKK.out] at p0
    go_wp2_with fail
    clear p0
    refine (rdline_any r (s) _ HD.out.rd).mono ?_
    rintro e w3 ⟨sl, rfl, hol, h1, h2⟩
    have hws := HD.out.kp.size
    replace HD := Lib.hid (HD.out.read h2 h1)
    obtain ⟨la, lc, hsl⟩ := hol.rd.slice_
    subst hsl
    have HOL := Lib.hid (hol.mono_ hws)
    have HLN := Lib.hid (show u64 (lnL (s)).E ∧ i64 (lnL (s)).B from ⟨num_wf _, sm_wf _⟩)
    clear h1 h2 hol hws
    generalize hx : lnL (s) = x at *
    have HX := Lib.hid hx
    clear hx
    have p0 : w3.cell? ⟨M, 0, none⟩ = some (.int .i64 K) := by rw [HD.out.bp.cell]; rfl
    rw [HKK.out] at p0
    have c9 : w3.cell? ⟨M, 9, none⟩ = some (.int .u64 0) := by rw [HD.out.bp.cell]; rfl
    have f9 := HD.out.bp.frozen 9
    have c10 : w3.cell? ⟨M, 10, none⟩ = some (.int .i64 0) := by rw [HD.out.bp.cell]; rfl
    have f10 := HD.out.bp.frozen 10
    have c11 : w3.cell? ⟨M, 11, none⟩ = some (.bool false) := by rw [HD.out.bp.cell]; rfl
    have f11 := HD.out.bp.frozen 11
    have c12 : w3.cell? ⟨M, 12, none⟩ = some (.slice none 0 0) := by rw [HD.out.bp.cell]; rfl
    have f12 := HD.out.bp.frozen 12
    have hd := ((((HD.out).set 9 (.int .u64 x.E)).set 10 (.int .i64 x.B)).set 11 (.bool x.L)).set 12 (.slice la x.l.length lc)
    rw [st_line] at hd
    replace HD := Lib.hid hd
    clear hd
    replace HOL := Lib.hid (((((HOL.out).setM (by have := HD.out.o2; omega) 9 (.int .u64 x.E)).setM (by have := HD.out.o2; omega) 10 (.int .i64 x.B)).setM (by have := HD.out.o2; omega) 11 (.bool x.L)).setM (by have := HD.out.o2; omega) 12 (.slice la x.l.length lc))
    go_wp2_with fail
    generalize ((((w3).setCell ⟨M, 9, none⟩ (.int .u64 x.E)).setCell ⟨M, 10, none⟩ (.int .i64 x.B)).setCell ⟨M, 11, none⟩ (.bool x.L)).setCell ⟨M, 12, none⟩ (.slice la x.l.length lc) = w4 at *
    clear p0 c9 f9 c10 f10 c11 f11 c12 f12
    refine (refText_any r (lnS (s)) _ HD.out.rd).mono ?_
    rintro e w5 ⟨rfl, h1, h2⟩
    have HTL := Lib.hid (rtext_len HD.out.rd)
    replace HD := Lib.hid (HD.out.read h2 h1)
    replace HOL := Lib.hid (HOL.out.row_ (by have := HD.out.o1; have := HD.out.o2; omega) h2)
    clear h1 h2
    have HDEC := Lib.hid (fun w => decR_any w (strOf (Wire.text (lnS (s))).1) (by rw [size_strOf]; exact HTL.out))
    unfold DecT at HDEC
    have HPT := Lib.hid (show ptP (lnS (s)) = decP 99 9 (strOf (Wire.text (lnS (s))).1) from rfl)
    have HPS := Lib.hid (show ptS (lnS (s)) = if decE 99 9 (strOf (Wire.text (lnS (s))).1) = 0 then (Wire.text (lnS (s))).2 else none from rfl)
    generalize decP 99 9 (strOf (Wire.text (lnS (s))).1) = p at *
    generalize decE 99 9 (strOf (Wire.text (lnS (s))).1) = z at *
    generalize strOf (Wire.text (lnS (s))).1 = tx at *
    generalize (Wire.text (lnS (s))).2 = s2 at *
    have p0 : w5.cell? ⟨M, 0, none⟩ = some (.int .i64 K) := by rw [HD.out.bp.cell]; rfl
    rw [HKK.out] at p0
    go_wp2_with fail
    clear p0
    refine (HDEC.out _).mono ?_
    rintro e w6 ⟨pv, rfl, hop, hb⟩
    obtain ⟨sv, rfl, hoc, hpw⟩ := hop
    obtain ⟨pa, pc, hsv⟩ := hoc.rd.slice_
    subst hsv
    have hws := HD.out.kp.size
    replace HD := Lib.hid (HD.out.keep hb)
    replace HOL := Lib.hid (HOL.out.keep hb)
    have HOC := Lib.hid (hoc.mono hws)
    have HPW := Lib.hid hpw
    clear hb hoc hpw hws
    unfold prV
    have hbx := (Below.refl w6.heap.size w6).alloc (Nat.le_refl _) (Obj.cells #[.int .u64 p.b.1, .int .u64 p.b.2, .int .u64 p.t.1, .int .u64 p.t.2, .int .i64 p.f, .int .i64 p.a, .slice pa p.cs.length pc] 31)
    replace HD := Lib.hid (HD.out.keep hbx)
    replace HOL := Lib.hid (HOL.out.keep hbx)
    replace HOC := Lib.hid (HOC.out.keep hbx)
    have HPB := Lib.hid (Blk.new w6 31 #[.int .u64 p.b.1, .int .u64 p.b.2, .int .u64 p.t.1, .int .u64 p.t.2, .int .i64 p.f, .int .i64 p.a, .slice pa p.cs.length pc])
    clear hbx
    go_upto_region 20 with fail
    generalize w6.alloc (Obj.cells #[.int .u64 p.b.1, .int .u64 p.b.2, .int .u64 p.t.1, .int .u64 p.t.2, .int .i64 p.f, .int .i64 p.a, .slice pa p.cs.length pc] 31) = w7 at *
    generalize w6.heap.size = Q at *
    have q0 : w7.cell? ⟨Q, 0, none⟩ = some (.int .u64 p.b.1) := HPB.out.cell 0
    have q1 : w7.cell? ⟨Q, 1, none⟩ = some (.int .u64 p.b.2) := HPB.out.cell 1
    have q2 : w7.cell? ⟨Q, 2, none⟩ = some (.int .u64 p.t.1) := HPB.out.cell 2
    have q3 : w7.cell? ⟨Q, 3, none⟩ = some (.int .u64 p.t.2) := HPB.out.cell 3
    have q4 : w7.cell? ⟨Q, 4, none⟩ = some (.int .i64 p.f) := HPB.out.cell 4
    have q5 : w7.cell? ⟨Q, 5, none⟩ = some (.int .i64 p.a) := HPB.out.cell 5
    have q6 : w7.cell? ⟨Q, 6, none⟩ = some (.slice pa p.cs.length pc) := HPB.out.cell 6
    have c19 : w7.cell? ⟨M, 19, none⟩ = some (.int .u64 0) := by rw [HD.out.bp.cell]; rfl
    have f19 := HD.out.bp.frozen 19
    have c20 : w7.cell? ⟨M, 20, none⟩ = some (.int .u64 0) := by rw [HD.out.bp.cell]; rfl
    have f20 := HD.out.bp.frozen 20
    have c21 : w7.cell? ⟨M, 21, none⟩ = some (.int .u64 0) := by rw [HD.out.bp.cell]; rfl
    have f21 := HD.out.bp.frozen 21
    have c22 : w7.cell? ⟨M, 22, none⟩ = some (.int .u64 0) := by rw [HD.out.bp.cell]; rfl
    have f22 := HD.out.bp.frozen 22
    have c23 : w7.cell? ⟨M, 23, none⟩ = some (.int .i64 0) := by rw [HD.out.bp.cell]; rfl
    have f23 := HD.out.bp.frozen 23
    have c24 : w7.cell? ⟨M, 24, none⟩ = some (.int .i64 0) := by rw [HD.out.bp.cell]; rfl
    have f24 := HD.out.bp.frozen 24
    have c25 : w7.cell? ⟨M, 25, none⟩ = some (.slice none 0 0) := by rw [HD.out.bp.cell]; rfl
    have f25 := HD.out.bp.frozen 25
    have hd := (((((((HD.out).set 19 (.int .u64 p.b.1)).set 20 (.int .u64 p.b.2)).set 21 (.int .u64 p.t.1)).set 22 (.int .u64 p.t.2)).set 23 (.int .i64 p.f)).set 24 (.int .i64 p.a)).set 25 (.slice pa p.cs.length pc)
    rw [st_part] at hd
    replace HD := Lib.hid hd
    clear hd
    replace HOL := Lib.hid ((((((((HOL.out).setM (by have := HD.out.o2; omega) 19 (.int .u64 p.b.1)).setM (by have := HD.out.o2; omega) 20 (.int .u64 p.b.2)).setM (by have := HD.out.o2; omega) 21 (.int .u64 p.t.1)).setM (by have := HD.out.o2; omega) 22 (.int .u64 p.t.2)).setM (by have := HD.out.o2; omega) 23 (.int .i64 p.f)).setM (by have := HD.out.o2; omega) 24 (.int .i64 p.a)).setM (by have := HD.out.o2; omega) 25 (.slice pa p.cs.length pc))
    replace HOC := Lib.hid ((((((((HOC.out).far (p := ⟨M, 19, none⟩) HD.out.o2 (.int .u64 p.b.1)).far (p := ⟨M, 20, none⟩) HD.out.o2 (.int .u64 p.b.2)).far (p := ⟨M, 21, none⟩) HD.out.o2 (.int .u64 p.t.1)).far (p := ⟨M, 22, none⟩) HD.out.o2 (.int .u64 p.t.2)).far (p := ⟨M, 23, none⟩) HD.out.o2 (.int .i64 p.f)).far (p := ⟨M, 24, none⟩) HD.out.o2 (.int .i64 p.a)).far (p := ⟨M, 25, none⟩) HD.out.o2 (.slice pa p.cs.length pc))
    go_upto_region 21 with fail
    generalize (((((((w7).setCell ⟨M, 19, none⟩ (.int .u64 p.b.1)).setCell ⟨M, 20, none⟩ (.int .u64 p.b.2)).setCell ⟨M, 21, none⟩ (.int .u64 p.t.1)).setCell ⟨M, 22, none⟩ (.int .u64 p.t.2)).setCell ⟨M, 23, none⟩ (.int .i64 p.f)).setCell ⟨M, 24, none⟩ (.int .i64 p.a)).setCell ⟨M, 25, none⟩ (.slice pa p.cs.length pc) = w8 at *
    clear c19 f19 c20 f20 c21 f21 c22 f22 c23 f23 c24 f24 c25 f25 q0 q1 q2 q3 q4 q5 q6
    have y1 := HD.out.rd.flag
    obtain ⟨sx, bx, hrb⟩ := HD.out.rd.blk
    have f1 := hrb.frozen 1
    have HRB := Lib.hid hrb
    clear hrb
    have hst : (z = 0 ∧ ∃ b, decide (s2 = none) = b ∧ ptS (lnS (s)) = s2) ∨ (¬ z = 0 ∧ ptS (lnS (s)) = none) := by
      have h9 := HPS.out
      by_cases q : z = 0
      · rw [if_pos q] at h9; exact .inl ⟨q, _, rfl, h9⟩
      · rw [if_neg q] at h9; exact .inr ⟨q, h9⟩
    have HST9 : Hid (∀ W9, ((W9 = w8.setCell ⟨r, 1, none⟩ (.bool true) ∧ ptS (lnS (s)) = none) ∨ (W9 = w8.setCell ⟨r, 1, none⟩ (.bool false) ∧ ptS (lnS (s)) = s2 ∧ ∃ l2, s2 = some l2)) → RdR W9 r (ptS (lnS (s))) ∧ Kp (· = r) w8 W9) := Lib.hid (fun W9 q => by
      rcases q with ⟨rfl, q⟩ | ⟨rfl, q, l2, q2⟩
      · rw [q]
        exact ⟨⟨sx, HRB.out.set 1 (.bool true)⟩, kp_cell _ _ _ _⟩
      · rw [q, q2]
        have hr := HD.out.rd
        rw [q2] at hr
        exact ⟨⟨hr.1, hr.2.set 1 (.bool false)⟩, kp_cell _ _ _ _⟩)
    rcases hst with ⟨hz, b, hb, e9⟩ | ⟨hz, e9⟩
    · cases s2 with
      | none =>
        subst hz
        replace y1 : w8.cell? ⟨r, 1, none⟩ = some (.bool true) := y1
        clear hb
        have hk9 := HST9.out (w8.setCell ⟨r, 1, none⟩ (.bool true)) (.inl ⟨rfl, e9⟩)
        have HR9 := Lib.hid hk9.1
        have HKR := Lib.hid hk9.2
        clear hk9 HST9
        have p0 : w8.cell? ⟨M, 0, none⟩ = some (.int .i64 6) := by rw [HD.out.bp.cell]; show some (Value.int .i64 K) = _; rw [HKK.out]
        have hrm : ¬ r = M := by have := HD.out.o1; omega
        have hmr : ¬ M = r := by have := HD.out.o1; omega
        go_upto_region 35 with fail
        generalize w8.setCell ⟨r, 1, none⟩ (.bool true) = w9 at *
        clear p0 y1 f1 hrm hmr
        have hd : DMs W r M (ptS (lnS (s))) (msA (p_p (p_l (p_K zeroM K) x) p) (.slice none 0 0) (.slice la x.l.length lc) (.slice pa p.cs.length pc)) w9 := ⟨HR9.out, HKR.out.blk HD.out.bp (by have := HD.out.o1; omega), HD.out.kp.trans (HKR.out.mono fun b hb => .inl hb), HD.out.o1, HD.out.o2⟩
        replace HD := Lib.hid hd
        replace HOL := Lib.hid (HOL.out.kp HKR.out fun b hb e => by have := HD.out.o1; have := HD.out.o2; omega)
        have HOC2 := Lib.hid (show InC w9 (.slice pa p.cs.length pc) p.cs from (HOC.out.kp_ HKR.out fun b hb e => by have := HD.out.o1; have := HD.out.o2; omega).rd)
        clear hd
        have HSZ := Lib.hid (msg_size (p_p (p_l (p_K zeroM K) x) p) (.slice none 0 0) (.slice la x.l.length lc) (.slice pa p.cs.length pc))
        have HON9 : Hid ((msA (p_p (p_l (p_K zeroM K) x) p) (.slice none 0 0) (.slice la x.l.length lc) (.slice pa p.cs.length pc)).all (fun x => x.oneCell') = true) := Lib.hid (by exact msA_one _ _ _ _ _ _ _ _ _ _)
        have HZZ := Lib.hid (HD.out.kp.blk HZ.out (by have := HO.out; omega))
        have HEQ : Hid (∀ wz, Kp (fun b => b ≤ w.heap.size) w9 wz → InMs wz (.agg (msA (p_p (p_l (p_K zeroM K) x) p) (.slice none 0 0) (.slice la x.l.length lc) (.slice pa p.cs.length pc))) (p_p (p_l (p_K zeroM K) x) p)) := Lib.hid (by
          intro wz hk
          refine ⟨_, _, _, rfl, ?_, ?_, ?_, (((zeroM_wf.K_ HKW.out).l_ HLN.out).p_ HPW.out)⟩
          · exact InE.nil0 _
          · exact (HOL.out.kp hk fun b hb e => by have := HD.out.o2; have := HO.out; omega).rd
          · exact (HOC.out.kp_ HKR.out (fun b hb e => by have := HD.out.o1; have := HD.out.o2; omega) |>.kp_ hk fun b hb e => by have := HD.out.o2; have := HO.out; omega).rd)
        have HRD : Hid (((p_p (p_l (p_K zeroM K) x) p)).K = K ∧ RD s (p_p (p_l (p_K zeroM K) x) p) (ptS (lnS (s)))) := Lib.hid (by
          refine ⟨rfl, ?_⟩
          have hk := HKK.out
          exact ⟨fun q => absurd q (by show ¬ K = 1; omega), fun q => absurd q (by show ¬ K = 2; omega), fun q => absurd q (by show ¬ K = 3; omega), fun q => absurd q (by show ¬ K = 4; omega), fun q => absurd q (by show ¬ K = 5; omega), fun _ => ⟨by rw [hk, ← HX.out, ← HPT.out]; rfl, rfl⟩, fun q => absurd q (by show ¬ K = 7; omega)⟩)
        generalize hmm : (p_p (p_l (p_K zeroM K) x) p) = mm at *
        clear hmm
        generalize msA mm (.slice none 0 0) (.slice la x.l.length lc) (.slice pa p.cs.length pc) = ua at *
        have HUZ : Hid (zeroA.size = ua.size) := Lib.hid (by have h1 := HSZ.out; have h2 := zeroA_size; rw [h2] at h1; exact Option.some.inj h1)
        go_wp2_with (first | refine wpList_wanted_run (by rfl) (.agg ua) (exec_load_blk 33 _ rfl M rfl _ HD.out.bp Tryz.underlying33 rfl HSZ.out) ?_ | refine wpList_store_then rfl 33 _ _ rfl w.heap.size ua rfl rfl 33 _ HZZ.out HSZ.out HUZ.out HON9.out ?_)
        refine Later.mk fun wz hwz => ?_
        have H9 : Hid (Blk wz w.heap.size 33 ua ∧ (∀ w'', Kp (fun b => b < w.heap.size) wz w'' → InMs w'' (.agg ua) mm) ∧ RdR wz r (ptS (lnS (s))) ∧ w.grownBy wz (some r)) := Lib.hid (by
          have hk9 : Kp (· = w.heap.size) w9 wz := by rw [hwz]; exact kp_setRow _ _ _
          have ho := HO.out
          have hrr : Below w.heap.size w9 wz := hk9.below (fun b hb => Nat.le_of_eq hb.symm) (Nat.le_of_lt HZZ.out.lt)
          refine ⟨by rw [hwz]; exact HZZ.out.row _, fun w'' q => HEQ.out w'' ((hk9.mono fun b hb => Nat.le_of_eq hb).trans (q.mono fun b hb => Nat.le_of_lt hb)), HD.out.rd.below hrr ho.2, ?_⟩
          have hg := HG0.out
          have hkp := HD.out.kp
          refine ⟨hk9.1.os.trans (hkp.1.os.trans hg.os), hk9.1.tape.trans (hkp.1.tape.trans hg.tape), hk9.1.output.trans (hkp.1.output.trans hg.output), Nat.le_trans hg.size (Nat.le_trans hkp.size hk9.size), fun i hi hr => ?_⟩
          have h3 : i ≠ r := fun q => hr (by rw [q])
          have h4 := hg.size
          rw [hk9.2 i (by have := hkp.size; omega) (by omega), hkp.2 i (by omega) (by omega)]
          exact hg.block i hi hr)
        clear hwz
        go_wp2
        refine bodyPost_ret (results_cell1 (ty := 33) (g := w.heap.size) (k := 2) rfl rfl H9.out.1 Tryz.underlying33 rfl HSZ.out) rfl ?_
        exact ⟨ua, mm, _, rfl, H9.out.2.1, HRD.out, H9.out.2.2.1, H9.out.2.2.2⟩
      | some l2 =>
        subst hz
        replace y1 : w8.cell? ⟨r, 1, none⟩ = some (.bool false) := y1
        clear hb
        have hk9 := HST9.out (w8.setCell ⟨r, 1, none⟩ (.bool false)) (.inr ⟨rfl, e9, _, rfl⟩)
        have HR9 := Lib.hid hk9.1
        have HKR := Lib.hid hk9.2
        clear hk9 HST9
        have p0 : w8.cell? ⟨M, 0, none⟩ = some (.int .i64 6) := by rw [HD.out.bp.cell]; show some (Value.int .i64 K) = _; rw [HKK.out]
        have hrm : ¬ r = M := by have := HD.out.o1; omega
        have hmr : ¬ M = r := by have := HD.out.o1; omega
        go_upto_region 35 with fail
        generalize w8.setCell ⟨r, 1, none⟩ (.bool false) = w11 at *
        clear p0 y1 f1 hrm hmr
        have hd : DMs W r M (ptS (lnS (s))) (msA (p_p (p_l (p_K zeroM K) x) p) (.slice none 0 0) (.slice la x.l.length lc) (.slice pa p.cs.length pc)) w11 := ⟨HR9.out, HKR.out.blk HD.out.bp (by have := HD.out.o1; omega), HD.out.kp.trans (HKR.out.mono fun b hb => .inl hb), HD.out.o1, HD.out.o2⟩
        replace HD := Lib.hid hd
        replace HOL := Lib.hid (HOL.out.kp HKR.out fun b hb e => by have := HD.out.o1; have := HD.out.o2; omega)
        have HOC2 := Lib.hid (show InC w11 (.slice pa p.cs.length pc) p.cs from (HOC.out.kp_ HKR.out fun b hb e => by have := HD.out.o1; have := HD.out.o2; omega).rd)
        clear hd
        have HSZ := Lib.hid (msg_size (p_p (p_l (p_K zeroM K) x) p) (.slice none 0 0) (.slice la x.l.length lc) (.slice pa p.cs.length pc))
        have HON9 : Hid ((msA (p_p (p_l (p_K zeroM K) x) p) (.slice none 0 0) (.slice la x.l.length lc) (.slice pa p.cs.length pc)).all (fun x => x.oneCell') = true) := Lib.hid (by exact msA_one _ _ _ _ _ _ _ _ _ _)
        have HZZ := Lib.hid (HD.out.kp.blk HZ.out (by have := HO.out; omega))
        have HEQ : Hid (∀ wz, Kp (fun b => b ≤ w.heap.size) w11 wz → InMs wz (.agg (msA (p_p (p_l (p_K zeroM K) x) p) (.slice none 0 0) (.slice la x.l.length lc) (.slice pa p.cs.length pc))) (p_p (p_l (p_K zeroM K) x) p)) := Lib.hid (by
          intro wz hk
          refine ⟨_, _, _, rfl, ?_, ?_, ?_, (((zeroM_wf.K_ HKW.out).l_ HLN.out).p_ HPW.out)⟩
          · exact InE.nil0 _
          · exact (HOL.out.kp hk fun b hb e => by have := HD.out.o2; have := HO.out; omega).rd
          · exact (HOC.out.kp_ HKR.out (fun b hb e => by have := HD.out.o1; have := HD.out.o2; omega) |>.kp_ hk fun b hb e => by have := HD.out.o2; have := HO.out; omega).rd)
        have HRD : Hid (((p_p (p_l (p_K zeroM K) x) p)).K = K ∧ RD s (p_p (p_l (p_K zeroM K) x) p) (ptS (lnS (s)))) := Lib.hid (by
          refine ⟨rfl, ?_⟩
          have hk := HKK.out
          exact ⟨fun q => absurd q (by show ¬ K = 1; omega), fun q => absurd q (by show ¬ K = 2; omega), fun q => absurd q (by show ¬ K = 3; omega), fun q => absurd q (by show ¬ K = 4; omega), fun q => absurd q (by show ¬ K = 5; omega), fun _ => ⟨by rw [hk, ← HX.out, ← HPT.out]; rfl, rfl⟩, fun q => absurd q (by show ¬ K = 7; omega)⟩)
        generalize hmm : (p_p (p_l (p_K zeroM K) x) p) = mm at *
        clear hmm
        generalize msA mm (.slice none 0 0) (.slice la x.l.length lc) (.slice pa p.cs.length pc) = ua at *
        have HUZ : Hid (zeroA.size = ua.size) := Lib.hid (by have h1 := HSZ.out; have h2 := zeroA_size; rw [h2] at h1; exact Option.some.inj h1)
        go_wp2_with (first | refine wpList_wanted_run (by rfl) (.agg ua) (exec_load_blk 33 _ rfl M rfl _ HD.out.bp Tryz.underlying33 rfl HSZ.out) ?_ | refine wpList_store_then rfl 33 _ _ rfl w.heap.size ua rfl rfl 33 _ HZZ.out HSZ.out HUZ.out HON9.out ?_)
        refine Later.mk fun wz hwz => ?_
        have H9 : Hid (Blk wz w.heap.size 33 ua ∧ (∀ w'', Kp (fun b => b < w.heap.size) wz w'' → InMs w'' (.agg ua) mm) ∧ RdR wz r (ptS (lnS (s))) ∧ w.grownBy wz (some r)) := Lib.hid (by
          have hk9 : Kp (· = w.heap.size) w11 wz := by rw [hwz]; exact kp_setRow _ _ _
          have ho := HO.out
          have hrr : Below w.heap.size w11 wz := hk9.below (fun b hb => Nat.le_of_eq hb.symm) (Nat.le_of_lt HZZ.out.lt)
          refine ⟨by rw [hwz]; exact HZZ.out.row _, fun w'' q => HEQ.out w'' ((hk9.mono fun b hb => Nat.le_of_eq hb).trans (q.mono fun b hb => Nat.le_of_lt hb)), HD.out.rd.below hrr ho.2, ?_⟩
          have hg := HG0.out
          have hkp := HD.out.kp
          refine ⟨hk9.1.os.trans (hkp.1.os.trans hg.os), hk9.1.tape.trans (hkp.1.tape.trans hg.tape), hk9.1.output.trans (hkp.1.output.trans hg.output), Nat.le_trans hg.size (Nat.le_trans hkp.size hk9.size), fun i hi hr => ?_⟩
          have h3 : i ≠ r := fun q => hr (by rw [q])
          have h4 := hg.size
          rw [hk9.2 i (by have := hkp.size; omega) (by omega), hkp.2 i (by omega) (by omega)]
          exact hg.block i hi hr)
        clear hwz
        go_wp2
        refine bodyPost_ret (results_cell1 (ty := 33) (g := w.heap.size) (k := 2) rfl rfl H9.out.1 Tryz.underlying33 rfl HSZ.out) rfl ?_
        exact ⟨ua, mm, _, rfl, H9.out.2.1, HRD.out, H9.out.2.2.1, H9.out.2.2.2⟩
    · have iz : (z != 0) = true := by simpa using hz
      have iz2 : ¬ z = 0 := hz
      obtain ⟨bf, hbf⟩ : ∃ b, decide (s2 = none) = b := ⟨_, rfl⟩
      rw [hbf] at y1
      clear hbf hz
      cases bf
      all_goals
        have hk9 := HST9.out (w8.setCell ⟨r, 1, none⟩ (.bool true)) (.inl ⟨rfl, e9⟩)
        have HR9 := Lib.hid hk9.1
        have HKR := Lib.hid hk9.2
        clear hk9 HST9
        have p0 : w8.cell? ⟨M, 0, none⟩ = some (.int .i64 6) := by rw [HD.out.bp.cell]; show some (Value.int .i64 K) = _; rw [HKK.out]
        have hrm : ¬ r = M := by have := HD.out.o1; omega
        have hmr : ¬ M = r := by have := HD.out.o1; omega
        go_upto_region 35 with fail
        generalize w8.setCell ⟨r, 1, none⟩ (.bool true) = w10 at *
        clear p0 y1 f1 hrm hmr
        have hd : DMs W r M (ptS (lnS (s))) (msA (p_p (p_l (p_K zeroM K) x) p) (.slice none 0 0) (.slice la x.l.length lc) (.slice pa p.cs.length pc)) w10 := ⟨HR9.out, HKR.out.blk HD.out.bp (by have := HD.out.o1; omega), HD.out.kp.trans (HKR.out.mono fun b hb => .inl hb), HD.out.o1, HD.out.o2⟩
        replace HD := Lib.hid hd
        replace HOL := Lib.hid (HOL.out.kp HKR.out fun b hb e => by have := HD.out.o1; have := HD.out.o2; omega)
        have HOC2 := Lib.hid (show InC w10 (.slice pa p.cs.length pc) p.cs from (HOC.out.kp_ HKR.out fun b hb e => by have := HD.out.o1; have := HD.out.o2; omega).rd)
        clear hd
        have HSZ := Lib.hid (msg_size (p_p (p_l (p_K zeroM K) x) p) (.slice none 0 0) (.slice la x.l.length lc) (.slice pa p.cs.length pc))
        have HON9 : Hid ((msA (p_p (p_l (p_K zeroM K) x) p) (.slice none 0 0) (.slice la x.l.length lc) (.slice pa p.cs.length pc)).all (fun x => x.oneCell') = true) := Lib.hid (by exact msA_one _ _ _ _ _ _ _ _ _ _)
        have HZZ := Lib.hid (HD.out.kp.blk HZ.out (by have := HO.out; omega))
        have HEQ : Hid (∀ wz, Kp (fun b => b ≤ w.heap.size) w10 wz → InMs wz (.agg (msA (p_p (p_l (p_K zeroM K) x) p) (.slice none 0 0) (.slice la x.l.length lc) (.slice pa p.cs.length pc))) (p_p (p_l (p_K zeroM K) x) p)) := Lib.hid (by
          intro wz hk
          refine ⟨_, _, _, rfl, ?_, ?_, ?_, (((zeroM_wf.K_ HKW.out).l_ HLN.out).p_ HPW.out)⟩
          · exact InE.nil0 _
          · exact (HOL.out.kp hk fun b hb e => by have := HD.out.o2; have := HO.out; omega).rd
          · exact (HOC.out.kp_ HKR.out (fun b hb e => by have := HD.out.o1; have := HD.out.o2; omega) |>.kp_ hk fun b hb e => by have := HD.out.o2; have := HO.out; omega).rd)
        have HRD : Hid (((p_p (p_l (p_K zeroM K) x) p)).K = K ∧ RD s (p_p (p_l (p_K zeroM K) x) p) (ptS (lnS (s)))) := Lib.hid (by
          refine ⟨rfl, ?_⟩
          have hk := HKK.out
          exact ⟨fun q => absurd q (by show ¬ K = 1; omega), fun q => absurd q (by show ¬ K = 2; omega), fun q => absurd q (by show ¬ K = 3; omega), fun q => absurd q (by show ¬ K = 4; omega), fun q => absurd q (by show ¬ K = 5; omega), fun _ => ⟨by rw [hk, ← HX.out, ← HPT.out]; rfl, rfl⟩, fun q => absurd q (by show ¬ K = 7; omega)⟩)
        generalize hmm : (p_p (p_l (p_K zeroM K) x) p) = mm at *
        clear hmm
        generalize msA mm (.slice none 0 0) (.slice la x.l.length lc) (.slice pa p.cs.length pc) = ua at *
        have HUZ : Hid (zeroA.size = ua.size) := Lib.hid (by have h1 := HSZ.out; have h2 := zeroA_size; rw [h2] at h1; exact Option.some.inj h1)
        go_wp2_with (first | refine wpList_wanted_run (by rfl) (.agg ua) (exec_load_blk 33 _ rfl M rfl _ HD.out.bp Tryz.underlying33 rfl HSZ.out) ?_ | refine wpList_store_then rfl 33 _ _ rfl w.heap.size ua rfl rfl 33 _ HZZ.out HSZ.out HUZ.out HON9.out ?_)
        refine Later.mk fun wz hwz => ?_
        have H9 : Hid (Blk wz w.heap.size 33 ua ∧ (∀ w'', Kp (fun b => b < w.heap.size) wz w'' → InMs w'' (.agg ua) mm) ∧ RdR wz r (ptS (lnS (s))) ∧ w.grownBy wz (some r)) := Lib.hid (by
          have hk9 : Kp (· = w.heap.size) w10 wz := by rw [hwz]; exact kp_setRow _ _ _
          have ho := HO.out
          have hrr : Below w.heap.size w10 wz := hk9.below (fun b hb => Nat.le_of_eq hb.symm) (Nat.le_of_lt HZZ.out.lt)
          refine ⟨by rw [hwz]; exact HZZ.out.row _, fun w'' q => HEQ.out w'' ((hk9.mono fun b hb => Nat.le_of_eq hb).trans (q.mono fun b hb => Nat.le_of_lt hb)), HD.out.rd.below hrr ho.2, ?_⟩
          have hg := HG0.out
          have hkp := HD.out.kp
          refine ⟨hk9.1.os.trans (hkp.1.os.trans hg.os), hk9.1.tape.trans (hkp.1.tape.trans hg.tape), hk9.1.output.trans (hkp.1.output.trans hg.output), Nat.le_trans hg.size (Nat.le_trans hkp.size hk9.size), fun i hi hr => ?_⟩
          have h3 : i ≠ r := fun q => hr (by rw [q])
          have h4 := hg.size
          rw [hk9.2 i (by have := hkp.size; omega) (by omega), hkp.2 i (by omega) (by omega)]
          exact hg.block i hi hr)
        clear hwz
        go_wp2
        refine bodyPost_ret (results_cell1 (ty := 33) (g := w.heap.size) (k := 2) rfl rfl H9.out.1 Tryz.underlying33 rfl HSZ.out) rfl ?_
        exact ⟨ua, mm, _, rfl, H9.out.2.1, HRD.out, H9.out.2.2.1, H9.out.2.2.2⟩
  · have HKK := Lib.hid k
    clear k hk
    have p0 : W.cell? ⟨M, 0, none⟩ = some (.int .i64 K) := by rw [HD.out.bp.cell]; rfl
    rw [HKK.out] at p0
    go_wp2_with fail
    clear p0
    refine (rdline_any r (s) _ HD.out.rd).mono ?_
    rintro e w3 ⟨sl, rfl, hol, h1, h2⟩
    have hws := HD.out.kp.size
    replace HD := Lib.hid (HD.out.read h2 h1)
    obtain ⟨la, lc, hsl⟩ := hol.rd.slice_
    subst hsl
    have HOL := Lib.hid (hol.mono_ hws)
    have HLN := Lib.hid (show u64 (lnL (s)).E ∧ i64 (lnL (s)).B from ⟨num_wf _, sm_wf _⟩)
    clear h1 h2 hol hws
    generalize hx : lnL (s) = x at *
    have HX := Lib.hid hx
    clear hx
    have p0 : w3.cell? ⟨M, 0, none⟩ = some (.int .i64 K) := by rw [HD.out.bp.cell]; rfl
    rw [HKK.out] at p0
    have c9 : w3.cell? ⟨M, 9, none⟩ = some (.int .u64 0) := by rw [HD.out.bp.cell]; rfl
    have f9 := HD.out.bp.frozen 9
    have c10 : w3.cell? ⟨M, 10, none⟩ = some (.int .i64 0) := by rw [HD.out.bp.cell]; rfl
    have f10 := HD.out.bp.frozen 10
    have c11 : w3.cell? ⟨M, 11, none⟩ = some (.bool false) := by rw [HD.out.bp.cell]; rfl
    have f11 := HD.out.bp.frozen 11
    have c12 : w3.cell? ⟨M, 12, none⟩ = some (.slice none 0 0) := by rw [HD.out.bp.cell]; rfl
    have f12 := HD.out.bp.frozen 12
    have hd := ((((HD.out).set 9 (.int .u64 x.E)).set 10 (.int .i64 x.B)).set 11 (.bool x.L)).set 12 (.slice la x.l.length lc)
    rw [st_line] at hd
    replace HD := Lib.hid hd
    clear hd
    replace HOL := Lib.hid (((((HOL.out).setM (by have := HD.out.o2; omega) 9 (.int .u64 x.E)).setM (by have := HD.out.o2; omega) 10 (.int .i64 x.B)).setM (by have := HD.out.o2; omega) 11 (.bool x.L)).setM (by have := HD.out.o2; omega) 12 (.slice la x.l.length lc))
    go_upto_region 35 with fail
    generalize ((((w3).setCell ⟨M, 9, none⟩ (.int .u64 x.E)).setCell ⟨M, 10, none⟩ (.int .i64 x.B)).setCell ⟨M, 11, none⟩ (.bool x.L)).setCell ⟨M, 12, none⟩ (.slice la x.l.length lc) = w4 at *
    clear p0 c9 f9 c10 f10 c11 f11 c12 f12
    have HSZ := Lib.hid (msg_size (p_l (p_K zeroM K) x) (.slice none 0 0) (.slice la x.l.length lc) (.slice none 0 0))
    have HON9 : Hid ((msA (p_l (p_K zeroM K) x) (.slice none 0 0) (.slice la x.l.length lc) (.slice none 0 0)).all (fun x => x.oneCell') = true) := Lib.hid (by exact msA_one _ _ _ _ _ _ _ _ _ _)
    have HZZ := Lib.hid (HD.out.kp.blk HZ.out (by have := HO.out; omega))
    have HEQ : Hid (∀ wz, Kp (fun b => b ≤ w.heap.size) w4 wz → InMs wz (.agg (msA (p_l (p_K zeroM K) x) (.slice none 0 0) (.slice la x.l.length lc) (.slice none 0 0))) (p_l (p_K zeroM K) x)) := Lib.hid (by
      intro wz hk
      refine ⟨_, _, _, rfl, ?_, ?_, ?_, ((zeroM_wf.K_ HKW.out).l_ HLN.out)⟩
      · exact InE.nil0 _
      · exact (HOL.out.kp hk fun b hb e => by have := HD.out.o2; have := HO.out; omega).rd
      · exact InC.nil_ _ _ _)
    have HRD : Hid (((p_l (p_K zeroM K) x)).K = K ∧ RD s (p_l (p_K zeroM K) x) (lnS (s))) := Lib.hid (by
      refine ⟨rfl, ?_⟩
      have hk := HKK.out
      exact ⟨fun q => absurd q (by show ¬ K = 1; omega), fun q => absurd q (by show ¬ K = 2; omega), fun q => absurd q (by show ¬ K = 3; omega), fun q => absurd q (by show ¬ K = 4; omega), fun q => absurd q (by show ¬ K = 5; omega), fun q => absurd q (by show ¬ K = 6; omega), fun _ => ⟨by rw [hk, ← HX.out]; rfl, rfl⟩⟩)
    generalize hmm : (p_l (p_K zeroM K) x) = mm at *
    clear hmm
    generalize msA mm (.slice none 0 0) (.slice la x.l.length lc) (.slice none 0 0) = ua at *
    have HUZ : Hid (zeroA.size = ua.size) := Lib.hid (by have h1 := HSZ.out; have h2 := zeroA_size; rw [h2] at h1; exact Option.some.inj h1)
    go_wp2_with (first | refine wpList_wanted_run (by rfl) (.agg ua) (exec_load_blk 33 _ rfl M rfl _ HD.out.bp Tryz.underlying33 rfl HSZ.out) ?_ | refine wpList_store_then rfl 33 _ _ rfl w.heap.size ua rfl rfl 33 _ HZZ.out HSZ.out HUZ.out HON9.out ?_)
    refine Later.mk fun wz hwz => ?_
    have H9 : Hid (Blk wz w.heap.size 33 ua ∧ (∀ w'', Kp (fun b => b < w.heap.size) wz w'' → InMs w'' (.agg ua) mm) ∧ RdR wz r (lnS (s)) ∧ w.grownBy wz (some r)) := Lib.hid (by
      have hk9 : Kp (· = w.heap.size) w4 wz := by rw [hwz]; exact kp_setRow _ _ _
      have ho := HO.out
      have hrr : Below w.heap.size w4 wz := hk9.below (fun b hb => Nat.le_of_eq hb.symm) (Nat.le_of_lt HZZ.out.lt)
      refine ⟨by rw [hwz]; exact HZZ.out.row _, fun w'' q => HEQ.out w'' ((hk9.mono fun b hb => Nat.le_of_eq hb).trans (q.mono fun b hb => Nat.le_of_lt hb)), HD.out.rd.below hrr ho.2, ?_⟩
      have hg := HG0.out
      have hkp := HD.out.kp
      refine ⟨hk9.1.os.trans (hkp.1.os.trans hg.os), hk9.1.tape.trans (hkp.1.tape.trans hg.tape), hk9.1.output.trans (hkp.1.output.trans hg.output), Nat.le_trans hg.size (Nat.le_trans hkp.size hk9.size), fun i hi hr => ?_⟩
      have h3 : i ≠ r := fun q => hr (by rw [q])
      have h4 := hg.size
      rw [hk9.2 i (by have := hkp.size; omega) (by omega), hkp.2 i (by omega) (by omega)]
      exact hg.block i hi hr)
    clear hwz
    go_wp2
    refine bodyPost_ret (results_cell1 (ty := 33) (g := w.heap.size) (k := 2) rfl rfl H9.out.1 Tryz.underlying33 rfl HSZ.out) rfl ?_
    exact ⟨ua, mm, _, rfl, H9.out.2.1, HRD.out, H9.out.2.2.1, H9.out.2.2.2⟩
  · have HKK := Lib.hid k
    clear k hk
    have p0 : W.cell? ⟨M, 0, none⟩ = some (.int .i64 K) := by rw [HD.out.bp.cell]; rfl
    rw [HKK.out] at p0
    go_wp2_with fail
    clear p0
    refine (refNum_any r (s) _ HD.out.rd).mono ?_
    rintro e w3 ⟨rfl, h1, h2⟩
    replace HD := Lib.hid (HD.out.read h2 h1)
    clear h1 h2
    have p0 : w3.cell? ⟨M, 0, none⟩ = some (.int .i64 K) := by rw [HD.out.bp.cell]; rfl
    rw [HKK.out] at p0
    have c1 : w3.cell? ⟨M, 1, none⟩ = some (.int .u64 0) := by rw [HD.out.bp.cell]; rfl
    have f1 := HD.out.bp.frozen 1
    have hd := (HD.out).set 1 (.int .u64 ((Wire.num (s)).1 : Nat))
    rw [st9_T] at hd
    replace HD := Lib.hid hd
    clear hd
    go_upto_region 35 with fail
    generalize (w3).setCell ⟨M, 1, none⟩ (.int .u64 ((Wire.num (s)).1 : Nat)) = w4 at *
    clear p0 c1 f1
    have HSZ := Lib.hid (msg_size (p_T (p_K zeroM K) ((Wire.num (s)).1 : Nat)) (.slice none 0 0) (.slice none 0 0) (.slice none 0 0))
    have HON9 : Hid ((msA (p_T (p_K zeroM K) ((Wire.num (s)).1 : Nat)) (.slice none 0 0) (.slice none 0 0) (.slice none 0 0)).all (fun x => x.oneCell') = true) := Lib.hid (by exact msA_one _ _ _ _ _ _ _ _ _ _)
    have HZZ := Lib.hid (HD.out.kp.blk HZ.out (by have := HO.out; omega))
    have HEQ : Hid (∀ wz, Kp (fun b => b ≤ w.heap.size) w4 wz → InMs wz (.agg (msA (p_T (p_K zeroM K) ((Wire.num (s)).1 : Nat)) (.slice none 0 0) (.slice none 0 0) (.slice none 0 0))) (p_T (p_K zeroM K) ((Wire.num (s)).1 : Nat))) := Lib.hid (by
      intro wz hk
      refine ⟨_, _, _, rfl, ?_, ?_, ?_, ((zeroM_wf.K_ HKW.out).T_ (num_wf _))⟩
      · exact InE.nil0 _
      · exact InG.nil_ _
      · exact InC.nil_ _ _ _)
    have HRD : Hid (((p_T (p_K zeroM K) ((Wire.num (s)).1 : Nat))).K = K ∧ RD s (p_T (p_K zeroM K) ((Wire.num (s)).1 : Nat)) (nx (s))) := Lib.hid (by
      refine ⟨rfl, ?_⟩
      have hk := HKK.out
      exact ⟨fun q => absurd q (by show ¬ K = 1; omega), fun q => absurd q (by show ¬ K = 2; omega), fun q => absurd q (by show ¬ K = 3; omega), fun q => absurd q (by show ¬ K = 4; omega), fun q => absurd q (by show ¬ K = 5; omega), fun q => absurd q (by show ¬ K = 6; omega), fun q => absurd q (by show ¬ K = 7; omega)⟩)
    generalize hmm : (p_T (p_K zeroM K) ((Wire.num (s)).1 : Nat)) = mm at *
    clear hmm
    generalize msA mm (.slice none 0 0) (.slice none 0 0) (.slice none 0 0) = ua at *
    have HUZ : Hid (zeroA.size = ua.size) := Lib.hid (by have h1 := HSZ.out; have h2 := zeroA_size; rw [h2] at h1; exact Option.some.inj h1)
    go_wp2_with (first | refine wpList_wanted_run (by rfl) (.agg ua) (exec_load_blk 33 _ rfl M rfl _ HD.out.bp Tryz.underlying33 rfl HSZ.out) ?_ | refine wpList_store_then rfl 33 _ _ rfl w.heap.size ua rfl rfl 33 _ HZZ.out HSZ.out HUZ.out HON9.out ?_)
    refine Later.mk fun wz hwz => ?_
    have H9 : Hid (Blk wz w.heap.size 33 ua ∧ (∀ w'', Kp (fun b => b < w.heap.size) wz w'' → InMs w'' (.agg ua) mm) ∧ RdR wz r (nx (s)) ∧ w.grownBy wz (some r)) := Lib.hid (by
      have hk9 : Kp (· = w.heap.size) w4 wz := by rw [hwz]; exact kp_setRow _ _ _
      have ho := HO.out
      have hrr : Below w.heap.size w4 wz := hk9.below (fun b hb => Nat.le_of_eq hb.symm) (Nat.le_of_lt HZZ.out.lt)
      refine ⟨by rw [hwz]; exact HZZ.out.row _, fun w'' q => HEQ.out w'' ((hk9.mono fun b hb => Nat.le_of_eq hb).trans (q.mono fun b hb => Nat.le_of_lt hb)), HD.out.rd.below hrr ho.2, ?_⟩
      have hg := HG0.out
      have hkp := HD.out.kp
      refine ⟨hk9.1.os.trans (hkp.1.os.trans hg.os), hk9.1.tape.trans (hkp.1.tape.trans hg.tape), hk9.1.output.trans (hkp.1.output.trans hg.output), Nat.le_trans hg.size (Nat.le_trans hkp.size hk9.size), fun i hi hr => ?_⟩
      have h3 : i ≠ r := fun q => hr (by rw [q])
      have h4 := hg.size
      rw [hk9.2 i (by have := hkp.size; omega) (by omega), hkp.2 i (by omega) (by omega)]
      exact hg.block i hi hr)
    clear hwz
    go_wp2
    refine bodyPost_ret (results_cell1 (ty := 33) (g := w.heap.size) (k := 2) rfl rfl H9.out.1 Tryz.underlying33 rfl HSZ.out) rfl ?_
    exact ⟨ua, mm, _, rfl, H9.out.2.1, HRD.out, H9.out.2.2.1, H9.out.2.2.2⟩
  · have HKK := Lib.hid k
    have i4 : ¬ K ≤ 4 := by omega
    have i1 : (K == 1) = false := beq_eq_false_iff_ne.2 (by omega)
    have i2 : (K == 2) = false := beq_eq_false_iff_ne.2 (by omega)
    have i3 : (K == 3) = false := beq_eq_false_iff_ne.2 (by omega)
    have i5 : (K == 4) = false := beq_eq_false_iff_ne.2 (by omega)
    have i6 : (K == 5) = false := beq_eq_false_iff_ne.2 (by omega)
    have i7 : (K == 6) = false := beq_eq_false_iff_ne.2 (by omega)
    clear k hk
    have p0 : W.cell? ⟨M, 0, none⟩ = some (.int .i64 K) := by rw [HD.out.bp.cell]; rfl
    go_wp2_with fail
    clear p0
    refine (rdline_any r (s) _ HD.out.rd).mono ?_
    rintro e w3 ⟨sl, rfl, hol, h1, h2⟩
    have hws := HD.out.kp.size
    replace HD := Lib.hid (HD.out.read h2 h1)
    obtain ⟨la, lc, hsl⟩ := hol.rd.slice_
    subst hsl
    have HOL := Lib.hid (hol.mono_ hws)
    have HLN := Lib.hid (show u64 (lnL (s)).E ∧ i64 (lnL (s)).B from ⟨num_wf _, sm_wf _⟩)
    clear h1 h2 hol hws
    generalize hx : lnL (s) = x at *
    have HX := Lib.hid hx
    clear hx
    have p0 : w3.cell? ⟨M, 0, none⟩ = some (.int .i64 K) := by rw [HD.out.bp.cell]; rfl
    have c9 : w3.cell? ⟨M, 9, none⟩ = some (.int .u64 0) := by rw [HD.out.bp.cell]; rfl
    have f9 := HD.out.bp.frozen 9
    have c10 : w3.cell? ⟨M, 10, none⟩ = some (.int .i64 0) := by rw [HD.out.bp.cell]; rfl
    have f10 := HD.out.bp.frozen 10
    have c11 : w3.cell? ⟨M, 11, none⟩ = some (.bool false) := by rw [HD.out.bp.cell]; rfl
    have f11 := HD.out.bp.frozen 11
    have c12 : w3.cell? ⟨M, 12, none⟩ = some (.slice none 0 0) := by rw [HD.out.bp.cell]; rfl
    have f12 := HD.out.bp.frozen 12
    have hd := ((((HD.out).set 9 (.int .u64 x.E)).set 10 (.int .i64 x.B)).set 11 (.bool x.L)).set 12 (.slice la x.l.length lc)
    rw [st_line] at hd
    replace HD := Lib.hid hd
    clear hd
    replace HOL := Lib.hid (((((HOL.out).setM (by have := HD.out.o2; omega) 9 (.int .u64 x.E)).setM (by have := HD.out.o2; omega) 10 (.int .i64 x.B)).setM (by have := HD.out.o2; omega) 11 (.bool x.L)).setM (by have := HD.out.o2; omega) 12 (.slice la x.l.length lc))
    go_upto_region 35 with fail
    generalize ((((w3).setCell ⟨M, 9, none⟩ (.int .u64 x.E)).setCell ⟨M, 10, none⟩ (.int .i64 x.B)).setCell ⟨M, 11, none⟩ (.bool x.L)).setCell ⟨M, 12, none⟩ (.slice la x.l.length lc) = w4 at *
    clear p0 c9 f9 c10 f10 c11 f11 c12 f12
    have HSZ := Lib.hid (msg_size (p_l (p_K zeroM K) x) (.slice none 0 0) (.slice la x.l.length lc) (.slice none 0 0))
    have HON9 : Hid ((msA (p_l (p_K zeroM K) x) (.slice none 0 0) (.slice la x.l.length lc) (.slice none 0 0)).all (fun x => x.oneCell') = true) := Lib.hid (by exact msA_one _ _ _ _ _ _ _ _ _ _)
    have HZZ := Lib.hid (HD.out.kp.blk HZ.out (by have := HO.out; omega))
    have HEQ : Hid (∀ wz, Kp (fun b => b ≤ w.heap.size) w4 wz → InMs wz (.agg (msA (p_l (p_K zeroM K) x) (.slice none 0 0) (.slice la x.l.length lc) (.slice none 0 0))) (p_l (p_K zeroM K) x)) := Lib.hid (by
      intro wz hk
      refine ⟨_, _, _, rfl, ?_, ?_, ?_, ((zeroM_wf.K_ HKW.out).l_ HLN.out)⟩
      · exact InE.nil0 _
      · exact (HOL.out.kp hk fun b hb e => by have := HD.out.o2; have := HO.out; omega).rd
      · exact InC.nil_ _ _ _)
    have HRD : Hid (((p_l (p_K zeroM K) x)).K = K ∧ RD s (p_l (p_K zeroM K) x) (lnS (s))) := Lib.hid (by
      refine ⟨rfl, ?_⟩
      have hk := HKK.out
      exact ⟨fun q => absurd q (by show ¬ K = 1; omega), fun q => absurd q (by show ¬ K = 2; omega), fun q => absurd q (by show ¬ K = 3; omega), fun q => absurd q (by show ¬ K = 4; omega), fun q => absurd q (by show ¬ K = 5; omega), fun q => absurd q (by show ¬ K = 6; omega), fun q => absurd q (by show ¬ K = 7; omega)⟩)
    generalize hmm : (p_l (p_K zeroM K) x) = mm at *
    clear hmm
    generalize msA mm (.slice none 0 0) (.slice la x.l.length lc) (.slice none 0 0) = ua at *
    have HUZ : Hid (zeroA.size = ua.size) := Lib.hid (by have h1 := HSZ.out; have h2 := zeroA_size; rw [h2] at h1; exact Option.some.inj h1)
    go_wp2_with (first | refine wpList_wanted_run (by rfl) (.agg ua) (exec_load_blk 33 _ rfl M rfl _ HD.out.bp Tryz.underlying33 rfl HSZ.out) ?_ | refine wpList_store_then rfl 33 _ _ rfl w.heap.size ua rfl rfl 33 _ HZZ.out HSZ.out HUZ.out HON9.out ?_)
    refine Later.mk fun wz hwz => ?_
    have H9 : Hid (Blk wz w.heap.size 33 ua ∧ (∀ w'', Kp (fun b => b < w.heap.size) wz w'' → InMs w'' (.agg ua) mm) ∧ RdR wz r (lnS (s)) ∧ w.grownBy wz (some r)) := Lib.hid (by
      have hk9 : Kp (· = w.heap.size) w4 wz := by rw [hwz]; exact kp_setRow _ _ _
      have ho := HO.out
      have hrr : Below w.heap.size w4 wz := hk9.below (fun b hb => Nat.le_of_eq hb.symm) (Nat.le_of_lt HZZ.out.lt)
      refine ⟨by rw [hwz]; exact HZZ.out.row _, fun w'' q => HEQ.out w'' ((hk9.mono fun b hb => Nat.le_of_eq hb).trans (q.mono fun b hb => Nat.le_of_lt hb)), HD.out.rd.below hrr ho.2, ?_⟩
      have hg := HG0.out
      have hkp := HD.out.kp
      refine ⟨hk9.1.os.trans (hkp.1.os.trans hg.os), hk9.1.tape.trans (hkp.1.tape.trans hg.tape), hk9.1.output.trans (hkp.1.output.trans hg.output), Nat.le_trans hg.size (Nat.le_trans hkp.size hk9.size), fun i hi hr => ?_⟩
      have h3 : i ≠ r := fun q => hr (by rw [q])
      have h4 := hg.size
      rw [hk9.2 i (by have := hkp.size; omega) (by omega), hkp.2 i (by omega) (by omega)]
      exact hg.block i hi hr)
    clear hwz
    go_wp2
    refine bodyPost_ret (results_cell1 (ty := 33) (g := w.heap.size) (k := 2) rfl rfl H9.out.1 Tryz.underlying33 rfl HSZ.out) rfl ?_
    exact ⟨ua, mm, _, rfl, H9.out.2.1, HRD.out, H9.out.2.2.1, H9.out.2.2.2⟩
end Go.Proofs.YtikimmhkfjaijaaGreat
namespace Go.Proofs.YtikimmhkfjaijaaGreat
open Go.RowKit Reg Go.ChangeShapes

set_option maxRecDepth 100000 in
set_option maxHeartbeats 8000000 in
theorem rdecode_any (w : World) (s : ByteArray) (hs : s.size ≤ 1152921504606846976) : Calls Tryz.prog 13 #[.string s] w (DecM w (decM s) (decZ s)) := by
  unfold DecM
  have HOP := Lib.hid (fun w2 => refOpen_any s w2 (Nat.le_trans hs (by decide)))
  unfold openV at HOP
  have hq := Blk.new w 33 zeroA
  have HQ : Hid (Blk (w.alloc (.cells #[.int .i64 0, .int .u64 0, .int .i64 0, .int .u64 0, .slice none 0 0, .int .i64 0, .bool false, .int .i64 0, .int .i64 0, .int .u64 0, .int .i64 0, .bool false, .slice none 0 0, .int .i64 0, .int .u64 0, .int .u64 0, .int .u64 0, .int .u64 0, .int .i64 0, .int .u64 0, .int .u64 0, .int .u64 0, .int .u64 0, .int .i64 0, .int .i64 0, .slice none 0 0] 33)) w.heap.size 33 zeroA) := Lib.hid hq
  have HB0 := Lib.hid ((Below.refl w.heap.size w).alloc (Nat.le_refl _) (Obj.cells #[.int .i64 0, .int .u64 0, .int .i64 0, .int .u64 0, .slice none 0 0, .int .i64 0, .bool false, .int .i64 0, .int .i64 0, .int .u64 0, .int .i64 0, .bool false, .slice none 0 0, .int .i64 0, .int .u64 0, .int .u64 0, .int .u64 0, .int .u64 0, .int .i64 0, .int .u64 0, .int .u64 0, .int .u64 0, .int .u64 0, .int .i64 0, .int .i64 0, .slice none 0 0] 33))
  have HFZ : Hid (∀ w1, Blk w1 w.heap.size 33 zeroA → Below w.heap.size w w1 → ∀ w2, w2 = w1.setRow w.heap.size zeroA → Blk w2 w.heap.size 33 zeroA ∧ Below w.heap.size w w2) := Lib.hid fun w1 h1 h2 w2 hw => by
    rw [hw]
    exact ⟨h1.row _, Below.setRow h2 (Nat.le_refl _) _⟩
  have HBAD := Lib.hid (fun h => rf_bad (s := s) h)
  have HGOOD := Lib.hid (fun m ho h hm hc => rf_good (s := s) (m := m) ho h hm hc)
  generalize decM s = dm at *
  generalize decZ s = dz at *
  clear hq
  cases hop : Crc.opens s.data.toList with
  | false =>
    obtain ⟨rfl, rfl⟩ := HBAD.out (.inl hop)
    rw [if_neg (by rw [hop]; decide)] at HOP
    clear hop hs HBAD HGOOD
    go_enter Tryz.func13, Tryz.ntmps13
    go_upto_region 1 with fail
    generalize w.alloc (Obj.cells #[.int .i64 0, .int .u64 0, .int .i64 0, .int .u64 0, .slice none 0 0, .int .i64 0, .bool false, .int .i64 0, .int .i64 0, .int .u64 0, .int .i64 0, .bool false, .slice none 0 0, .int .i64 0, .int .u64 0, .int .u64 0, .int .u64 0, .int .u64 0, .int .i64 0, .int .u64 0, .int .u64 0, .int .u64 0, .int .u64 0, .int .i64 0, .int .i64 0, .slice none 0 0] 33) = w0 at *
    go_wp2_with fail
    refine (HOP.out _).mono ?_
    rintro e w1 ⟨rfl, hb⟩
    have HQ1 := Lib.hid (HQ.out.keep hb)
    have HB1 := Lib.hid (HB0.out.trans (hb.mono HB0.out.size))
    clear hb HQ HB0 HOP
    go_wp2_with (first | refine wpList_store_then rfl 33 _ _ rfl w.heap.size zeroA rfl rfl 33 _ HQ1.out zeroA_size rfl zeroA_one ?_)
    refine Later.mk fun w4 hw4 => ?_
    have H9 := Lib.hid (HFZ.out _ HQ1.out HB1.out _ hw4)
    clear hw4
    go_wp2
    refine bodyPost_ret (results_cell2 (ty := 33) (g := w.heap.size) (k := 2) (m := 3) rfl rfl rfl H9.out.1 Tryz.underlying33 rfl zeroA_size) rfl ⟨_, rfl, zero_in _, H9.out.2⟩
  | true =>
    rw [if_pos hop] at HOP
    have hlen : (textL s).length ≤ 1152921504606846976 := by
      unfold textL
      rw [List.length_take]
      have : s.data.toList.length = s.size := Array.length_toList
      omega
    rw [show s.data.toList.take (s.size - 4) = textL s from rfl] at HOP
    have HOPN := Lib.hid hop
    obtain ⟨T, hT⟩ : ∃ T, T = textL s := ⟨_, rfl⟩
    rw [← hT] at HOP hlen HBAD HGOOD
    have HLEN := Lib.hid hlen
    clear hop hs hT hlen
    obtain ⟨tx, htx⟩ : ∃ t, t = strOf T := ⟨_, rfl⟩
    rw [← htx] at HOP
    have HTX := Lib.hid htx
    clear htx
    go_enter Tryz.func13, Tryz.ntmps13
    go_upto_region 1 with fail
    generalize w.alloc (Obj.cells #[.int .i64 0, .int .u64 0, .int .i64 0, .int .u64 0, .slice none 0 0, .int .i64 0, .bool false, .int .i64 0, .int .i64 0, .int .u64 0, .int .i64 0, .bool false, .slice none 0 0, .int .i64 0, .int .u64 0, .int .u64 0, .int .u64 0, .int .u64 0, .int .i64 0, .int .u64 0, .int .u64 0, .int .u64 0, .int .u64 0, .int .i64 0, .int .i64 0, .slice none 0 0] 33) = w0 at *
    go_wp2_with fail
    refine (HOP.out _).mono ?_
    rintro e w1 ⟨rfl, hb⟩
    have HQ1 := Lib.hid (HQ.out.keep hb)
    have HB1 := Lib.hid (HB0.out.trans (hb.mono HB0.out.size))
    clear hb HQ HB0 HOP
    have hbx := (Below.refl w1.heap.size w1).alloc (Nat.le_refl _) (Obj.cells #[.string tx, .bool false] 68)
    have HR2 : Hid (RdR (w1.alloc (Obj.cells #[.string tx, .bool false] 68)) w1.heap.size (some T)) := Lib.hid ⟨HLEN.out, by rw [HTX.out]; exact Blk.new _ _ _⟩
    have HQ2 := Lib.hid (HQ1.out.keep hbx)
    have HB2 := Lib.hid (HB1.out.trans (hbx.mono HB1.out.size))
    have HLT := Lib.hid (show w.heap.size < w1.heap.size from HQ1.out.lt)
    have HR1 := Lib.hid (show w1.heap.size < (w1.alloc (Obj.cells #[.string tx, .bool false] 68)).heap.size from by simp)
    clear hbx HQ1 HB1
    go_upto_region 5 with fail
    generalize w1.alloc (Obj.cells #[.string tx, .bool false] 68) = w2 at *
    generalize w1.heap.size = r at *
    go_wp2_with fail
    refine (read2_any r T w2 HR2.out).mono ?_
    rintro e w3 ⟨ua, m, st, rfl, hin, hrda, hrd, hgr⟩
    have hu := hin w3 (Kp.refl _ _)
    obtain ⟨ua', b1, b2, b3, d1, d2, d3, hua, uone, usz, uma, -, -, -, -⟩ := ms_cells hu
    obtain rfl : ua = ua' := by injection hua
    have UONE := Lib.hid uone
    have USZ := Lib.hid usz
    have USZ2 : Hid (zeroA.size = ua.size) := Lib.hid (by rw [uma]; rfl)
    have HQ3 := Lib.hid ((Kp.of_row hgr).blk HQ2.out (A := (· = r)) (by have := HLT.out; omega))
    have HB3 : Hid (Below w.heap.size w w3) := Lib.hid (HB2.out.trans ((Kp.of_row hgr).below (fun b hb => by have := HLT.out; omega) HB2.out.size))
    have HIN := Lib.hid hin
    have HRDA := Lib.hid hrda
    have HRD := Lib.hid hrd
    have HSZW := Lib.hid (show w.heap.size < w2.heap.size from HQ2.out.lt)
    have HGS := Lib.hid hgr.size
    clear hu hua uone usz uma hin hrda hrd hgr HQ2 HB2 HR2
    have HZ : Hid (Blk (w3.alloc (.cells #[.int .i64 0, .int .u64 0, .int .i64 0, .int .u64 0, .slice none 0 0, .int .i64 0, .bool false, .int .i64 0, .int .i64 0, .int .u64 0, .int .i64 0, .bool false, .slice none 0 0, .int .i64 0, .int .u64 0, .int .u64 0, .int .u64 0, .int .u64 0, .int .i64 0, .int .u64 0, .int .u64 0, .int .u64 0, .int .u64 0, .int .i64 0, .int .i64 0, .slice none 0 0] 33)) w3.heap.size 33 zeroA) := Lib.hid (Blk.new w3 33 zeroA)
    have HAL : Hid (∀ w4, w4 = (w3.alloc (.cells #[.int .i64 0, .int .u64 0, .int .i64 0, .int .u64 0, .slice none 0 0, .int .i64 0, .bool false, .int .i64 0, .int .i64 0, .int .u64 0, .int .i64 0, .bool false, .slice none 0 0, .int .i64 0, .int .u64 0, .int .u64 0, .int .u64 0, .int .u64 0, .int .i64 0, .int .u64 0, .int .u64 0, .int .u64 0, .int .u64 0, .int .i64 0, .int .i64 0, .slice none 0 0] 33)).setRow w3.heap.size ua → Below w3.heap.size w3 w4) := Lib.hid fun w4 h => by
      rw [h]
      exact Below.setRow ((Below.refl w3.heap.size w3).alloc (Nat.le_refl _) _) (Nat.le_refl _) _
    go_wp2_with (first | refine wpList_store_then rfl 33 _ _ rfl w3.heap.size ua rfl rfl 33 _ HZ.out USZ.out USZ2.out UONE.out ?_)
    refine Later.mk fun w4 hw4 => ?_
    have hal := HAL.out w4 hw4
    have HU4 : Hid (Blk w4 w3.heap.size 33 ua) := Lib.hid (by rw [hw4]; exact HZ.out.row _)
    have HK4 : Hid (Kp (fun b => b < w2.heap.size) w3 w4) := Lib.hid (Kp.of_below hal)
    have HQ4 := Lib.hid (HQ3.out.keep hal)
    have HB4 := Lib.hid (HB3.out.trans (hal.mono HB3.out.size))
    have HRD4 := Lib.hid (HRD.out.keep hal)
    clear hal hw4 HQ3 HB3 HZ HAL HRD
    generalize w3.heap.size = Q at *
    go_wp2_with fail
    refine (rend_any r st w4 HRD4.out).mono ?_
    rintro e w5 ⟨rfl, rfl⟩
    cases hend : endB st with
    | false =>
      have hne : st ≠ some [] := fun q => by
        rw [q] at hend
        cases hend
      obtain ⟨rfl, rfl⟩ := HBAD.out (.inr ⟨m, st, HRDA.out, .inl hne⟩)
      clear hne hend
      go_wp2_with (first | refine wpList_store_then rfl 33 _ _ rfl w.heap.size zeroA rfl rfl 33 _ HQ4.out zeroA_size rfl zeroA_one ?_)
      refine Later.mk fun w6 hw6 => ?_
      have H9 := Lib.hid (HFZ.out _ HQ4.out HB4.out _ hw6)
      clear hw6
      go_wp2
      refine bodyPost_ret (results_cell2 (ty := 33) (g := w.heap.size) (k := 2) (m := 3) rfl rfl rfl H9.out.1 Tryz.underlying33 rfl zeroA_size) rfl ⟨_, rfl, zero_in _, H9.out.2⟩
    | true =>
      have hst : st = some [] := of_decide_eq_true hend
      subst hst
      clear hend
      have HI4 : Hid (InMs w4 (.agg ua) m) := Lib.hid (HIN.out w4 HK4.out)
      have HCHK := Lib.hid (rcheck_any w4 (.agg ua) m HI4.out)
      go_wp2_with (first | refine wpList_wanted_run (by rfl) (.agg ua) (exec_load_blk 33 _ rfl Q rfl _ HU4.out Tryz.underlying33 rfl USZ.out) ?_)
      refine HCHK.out.mono ?_
      rintro e w5 ⟨rfl, hb⟩
      have HU5 := Lib.hid (HU4.out.keep hb)
      have HQ5 := Lib.hid (HQ4.out.keep hb)
      have HB5 := Lib.hid (HB4.out.trans (hb.mono HB4.out.size))
      have HK5 : Hid (Kp (fun b => b < w2.heap.size) w3 w5) := Lib.hid (HK4.out.trans (Kp.of_below hb))
      clear hb HU4 HQ4 HB4 HK4 HCHK
      unfold checkM
      cases hcb : checkB m with
      | false =>
        obtain ⟨rfl, rfl⟩ := HBAD.out (.inr ⟨m, some [], HRDA.out, .inr hcb⟩)
        rw [if_neg (by decide)]
        clear hcb
        go_wp2_with (first | refine wpList_store_then rfl 33 _ _ rfl w.heap.size zeroA rfl rfl 33 _ HQ5.out zeroA_size rfl zeroA_one ?_)
        refine Later.mk fun w6 hw6 => ?_
        have H9 := Lib.hid (HFZ.out _ HQ5.out HB5.out _ hw6)
        clear hw6
        go_wp2
        refine bodyPost_ret (results_cell2 (ty := 33) (g := w.heap.size) (k := 2) (m := 3) rfl rfl rfl H9.out.1 Tryz.underlying33 rfl zeroA_size) rfl ⟨_, rfl, zero_in _, H9.out.2⟩
      | true =>
        obtain ⟨rfl, rfl⟩ := HGOOD.out m HOPN.out HRDA.out (HI4.out.ok (checkB_may hcb)) hcb
        rw [if_pos rfl]
        clear hcb
        go_wp2_with (first | refine wpList_wanted_run (by rfl) (.agg ua) (exec_load_blk 33 _ rfl Q rfl _ HU5.out Tryz.underlying33 rfl USZ.out) ?_ | refine wpList_store_then rfl 33 _ _ rfl w.heap.size ua rfl rfl 33 _ HQ5.out USZ.out USZ2.out UONE.out ?_)
        refine Later.mk fun w6 hw6 => ?_
        have H9 : Hid (Blk w6 w.heap.size 33 ua ∧ Below w.heap.size w w6 ∧ InMs w6 (.agg ua) dm) := Lib.hid (by
          rw [hw6]
          exact ⟨HQ5.out.row _, Below.setRow HB5.out (Nat.le_refl _) _, HIN.out _ (HK5.out.trans ((kp_setRow _ _ ua).mono fun b hb => by have := HSZW.out; omega))⟩)
        clear hw6
        go_wp2
        refine bodyPost_ret (results_cell2 (ty := 33) (g := w.heap.size) (k := 2) (m := 3) rfl rfl rfl H9.out.1 Tryz.underlying33 rfl USZ.out) rfl ⟨_, rfl, H9.out.2.2, H9.out.2.1⟩
end Go.Proofs.YtikimmhkfjaijaaGreat
namespace Go.Proofs.YtikimmhkfjaijaaGreat
open Go.RowKit Reg Go.ChangeShapes

set_option maxRecDepth 100000 in
set_option maxHeartbeats 8000000 in
theorem law_MsgReads (s : ByteArray) (w : World) (hs : s.size ≤ reachBytes) : Calls Tryz.prog 4 #[.string s] w fun e w' => e = .returned (.bool true) ∧ Below w.heap.size w w' := by
  have HD := Lib.hid (fun w2 => mdecode_any w2 s (Nat.le_trans hs (by decide)))
  have HR := Lib.hid (fun w2 => rdecode_any w2 s (Nat.le_trans hs (by decide)))
  unfold DecM at HD HR
  have HW := Lib.hid works_any
  generalize decM s = m at *
  generalize decZ s = z at *
  have HS := Lib.hid (fun w2 (u v : Value) (h1 : InMs w2 u m) (h2 : InMs w2 v m) => rsame_any w2 u v m m h1 h2)
  rw [sameM_iff.2 (rfl : m = m)] at HS
  have hzz : (z == z) = true := by simp
  clear hs
  go_enter Tryz.func4, Tryz.ntmps4
  go_wp2_with fail
  refine (HD.out _).mono ?_
  rintro e w1 ⟨u, rfl, hu, hb⟩
  obtain ⟨ua, b1, b2, b3, d1, d2, d3, rfl, uone, usz, uma, -, -, -, -⟩ := ms_cells hu
  have UONE := Lib.hid uone
  have USZ := Lib.hid usz
  have USZ2 : Hid (zeroA.size = ua.size) := Lib.hid (by rw [uma]; rfl)
  have HB := Lib.hid hb
  have HU := Lib.hid hu
  clear hb hu uone usz uma HD
  have HZ := Lib.hid (Blk.new w1 33 zeroA)
  go_wp2_with (first | refine wpList_store_then rfl 33 _ _ rfl w1.heap.size ua rfl rfl 33 _ HZ.out USZ.out USZ2.out UONE.out ?_)
  refine Later.mk fun w2 hw2 => ?_
  have hal : Below w1.heap.size w1 w2 := by
    rw [hw2]
    exact Below.setRow ((Below.refl w1.heap.size w1).alloc (Nat.le_refl _) (Obj.cells zeroA 33)) (Nat.le_refl _) _
  have HUA : Hid (Blk w2 w1.heap.size 33 ua) := Lib.hid (by rw [hw2]; exact HZ.out.row _)
  replace HU := Lib.hid (HU.out.keep hal)
  replace HB := Lib.hid (HB.out.trans (hal.mono HB.out.size))
  clear hal hw2 HZ
  go_wp2_with fail
  refine (HR.out _).mono ?_
  rintro e w3 ⟨v, rfl, hv, hb⟩
  obtain ⟨va, b1, b2, b3, d1, d2, d3, rfl, vone, vsz, vma, -, -, -, -⟩ := ms_cells hv
  have VONE := Lib.hid vone
  have VSZ := Lib.hid vsz
  have VSZ2 : Hid (zeroA.size = va.size) := Lib.hid (by rw [vma]; rfl)
  replace HU := Lib.hid (HU.out.keep hb)
  replace HUA := Lib.hid (HUA.out.keep hb)
  replace HB := Lib.hid (HB.out.trans (hb.mono HB.out.size))
  have HV := Lib.hid hv
  clear hb hv vone vsz vma HR
  have HZ := Lib.hid (Blk.new w3 33 zeroA)
  go_wp2_with (first | refine wpList_store_then rfl 33 _ _ rfl w3.heap.size va rfl rfl 33 _ HZ.out VSZ.out VSZ2.out VONE.out ?_)
  refine Later.mk fun w4 hw4 => ?_
  have hal : Below w3.heap.size w3 w4 := by
    rw [hw4]
    exact Below.setRow ((Below.refl w3.heap.size w3).alloc (Nat.le_refl _) (Obj.cells zeroA 33)) (Nat.le_refl _) _
  have HVA : Hid (Blk w4 w3.heap.size 33 va) := Lib.hid (by rw [hw4]; exact HZ.out.row _)
  replace HU := Lib.hid (HU.out.keep hal)
  replace HUA := Lib.hid (HUA.out.keep hal)
  replace HV := Lib.hid (HV.out.keep hal)
  replace HB := Lib.hid (HB.out.trans (hal.mono HB.out.size))
  clear hal hw4 HZ
  go_wp2_with (first | refine wpList_wanted_run (by rfl) (.agg ua) (exec_load_blk 33 _ rfl w1.heap.size rfl _ HUA.out Tryz.underlying33 rfl USZ.out) ?_ | refine wpList_wanted_run (by rfl) (.agg va) (exec_load_blk 33 _ rfl w3.heap.size rfl _ HVA.out Tryz.underlying33 rfl VSZ.out) ?_)
  refine (HS.out _ _ _ HU.out HV.out).mono ?_
  rintro e w5 ⟨rfl, hb⟩
  replace HB := Lib.hid (HB.out.trans (hb.mono HB.out.size))
  clear hb HU HV HUA HVA
  go_wp2_with fail
  refine (HW.out _).mono ?_
  rintro e w6 ⟨rfl, hb⟩
  replace HB := Lib.hid (HB.out.trans (hb.mono HB.out.size))
  clear hb
  go_wp2
  go_ret
  exact ⟨rfl, HB.out⟩
end Go.Proofs.YtikimmhkfjaijaaGreat
