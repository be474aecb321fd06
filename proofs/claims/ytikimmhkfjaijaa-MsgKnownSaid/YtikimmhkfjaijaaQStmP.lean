/-
  STREAM: what is laid is read back (printed by wip/gen-msgbase.py).
-/
import Derived.Test.YtikimmhkfjaijaaQStmM
import Derived.Test.YtikimmhkfjaijaaQStmE
namespace Go.Proofs.Ytikimmhkfjaijaa
open Go.RowKit Reg Go.ChangeShapes

def restN (p : Prt) (k : Nat) : List UInt8 := numB p ((List.range 7).drop k) ++ p.cs.flatMap chgB
theorem restN_step (p : Prt) (hw : wfPr p) (hok : okP p) {k : Nat} (hk : k < 7) : Wire.num (some (restN p k)) = ((numP p k).toNat, some (restN p (k + 1))) := by
  have hr := numP_range hw hok k
  have e : restN p k = Wire.putNum (numP p k).toNat ++ restN p (k + 1) := by
    unfold restN numB
    rw [List.drop_eq_getElem_cons (by simpa using hk)]
    simp
  rw [e]
  exact Wire.num_put _ (by omega) _
theorem nSt_enc (p : Prt) (hw : wfPr p) (hok : okP p) : ∀ k, k ≤ 7 → nSt (some (encB p)) k = some (restN p k)
  | 0, _ => rfl
  | k + 1, h => by
    have ih := nSt_enc p hw hok k (by omega)
    show nx (nSt _ k) = _
    rw [ih]
    unfold nx
    rw [restN_step p hw hok (by omega)]
theorem nAt_enc (p : Prt) (hw : wfPr p) (hok : okP p) {k : Nat} (h : k < 7) : nAt (some (encB p)) k = (numP p k).toNat := by
  unfold nAt
  rw [nSt_enc p hw hok k (by omega), restN_step p hw hok h]
theorem restN_7 (p : Prt) : restN p 7 = p.cs.flatMap chgB := by
  unfold restN
  rw [List.drop_of_length_le (by simp)]
  rfl
theorem chg_read (x : Cg) (l : List UInt8) (lim : Nat) (hlim : 8 ≤ lim) (hx : (0 ≤ x.1 ∧ x.1 < 8) ∧ x.2.size = 32) : rChg lim (some (chgB x ++ l)) = x ∧ (Wire.text (nx (some (chgB x ++ l)))).2 = some l := by
  obtain ⟨⟨h0, h1⟩, h2⟩ := hx
  have h3 : x.2.data.toList.length = 32 := by rw [Array.length_toList]; exact h2
  have e1 : Wire.num (some (chgB x ++ l)) = (x.1.toNat, some (Wire.putText x.2.data.toList ++ l)) := by
    unfold chgB
    rw [List.append_assoc]
    exact Wire.num_put _ (by omega) _
  have e2 : Wire.text (nx (some (chgB x ++ l))) = (x.2.data.toList, some l) := by
    unfold nx
    rw [e1]
    exact Wire.text_put _ (by omega) _
  refine ⟨?_, by rw [e2]⟩
  unfold rChg
  rw [e1, e2]
  obtain ⟨xb, xd⟩ := x
  dsimp only at *
  rw [show strOf xd.data.toList = xd from rfl, Nat.min_eq_left (by omega)]
  congr 1
  omega
theorem cSt_enc (cs : List Cg) (hc : ∀ x ∈ cs, (0 ≤ x.1 ∧ x.1 < 8) ∧ x.2.size = 32) (lim : Nat) (hlim : 8 ≤ lim) : ∀ k, k ≤ cs.length → cSt (some (cs.flatMap chgB)) k = some ((cs.drop k).flatMap chgB)
  | 0, _ => rfl
  | k + 1, h => by
    have ih := cSt_enc cs hc lim hlim k (by omega)
    show (Wire.text (nx (cSt _ k))).2 = _
    rw [ih, List.drop_eq_getElem_cons (by omega), List.flatMap_cons]
    exact (chg_read _ _ lim hlim (hc _ (List.getElem_mem (by omega)))).2
theorem chgL_enc (cs : List Cg) (hc : ∀ x ∈ cs, (0 ≤ x.1 ∧ x.1 < 8) ∧ x.2.size = 32) (lim : Nat) (hlim : 8 ≤ lim) : chgL lim (some (cs.flatMap chgB)) cs.length = cs := by
  refine List.ext_getElem (chgL_length _ _ _) fun j h1 h2 => ?_
  simp only [chgL, List.getElem_map, List.getElem_range]
  rw [cSt_enc cs hc lim hlim j (by omega), List.drop_eq_getElem_cons h2, List.flatMap_cons]
  exact (chg_read _ _ lim hlim (hc _ (List.getElem_mem h2))).1
theorem read_enc (p : Prt) (hw : wfPr p) (hok : okP p) (lim most : Nat) (hlim : 8 ≤ lim) (hmost : 2 ≤ most) : readP lim most (some (encB p)) = p := by
  have b1 := u64_range hw.b.1
  have b2 := u64_range hw.b.2
  have t1 := u64_range hw.t.1
  have t2 := u64_range hw.t.2
  have hc := mayC_size p.cs (-1) (by omega) hok.2.2.2.2.2
  have hl := hok.2.2.2.1
  have ha := hok.2.1
  have hf := hok.2.2.1
  unfold readP
  rw [nAt_enc p hw hok (by omega), nAt_enc p hw hok (by omega), nAt_enc p hw hok (by omega), nAt_enc p hw hok (by omega), nAt_enc p hw hok (by omega), nAt_enc p hw hok (by omega), nAt_enc p hw hok (by omega), nSt_enc p hw hok 7 (by omega), restN_7]
  have e6 : min (numP p 6).toNat most = p.cs.length := by
    show min ((p.cs.length : Int)).toNat most = _
    omega
  rw [e6, chgL_enc p.cs hc lim hlim]
  have e4 : ((min (numP p 4).toNat lim : Nat) : Int) = p.f := by
    show ((min p.f.toNat lim : Nat) : Int) = _
    omega
  have e5 : ((min (numP p 5).toNat lim : Nat) : Int) = p.a := by
    show ((min p.a.toNat lim : Nat) : Int) = _
    omega
  have f0 : (((numP p 0).toNat : Nat) : Int) = p.b.1 := by
    show ((p.b.1.toNat : Nat) : Int) = _
    omega
  have f1 : (((numP p 1).toNat : Nat) : Int) = p.b.2 := by
    show ((p.b.2.toNat : Nat) : Int) = _
    omega
  have f2 : (((numP p 2).toNat : Nat) : Int) = p.t.1 := by
    show ((p.t.1.toNat : Nat) : Int) = _
    omega
  have f3 : (((numP p 3).toNat : Nat) : Int) = p.t.2 := by
    show ((p.t.2.toNat : Nat) : Int) = _
    omega
  rw [e4, e5, f0, f1, f2, f3]
theorem encS_data {p : Prt} (hok : okP p) : (encS p).data.toList = Crc.sealed (encB p) := by
  unfold encS
  rw [if_pos hok]
  rfl
theorem txt_enc {p : Prt} (hok : okP p) : txt (encS p) = some (encB p) := by
  have hd := encS_data hok
  have hs : (encS p).size = (encB p).length + 4 := by
    have : (encS p).data.toList.length = (encS p).size := by rw [Array.length_toList]; rfl
    rw [← this, hd, Crc.length_sealed]
  unfold txt
  rw [hd, hs, Nat.add_sub_cancel]
  unfold Crc.sealed
  rw [List.take_left]
theorem decOk_enc {p : Prt} (hw : wfPr p) (hok : okP p) (lim most : Nat) (hlim : 8 ≤ lim) (hmost : 2 ≤ most) : decOk lim most (encS p) := by
  unfold decOk
  rw [encS_data hok, txt_enc hok, read_enc p hw hok lim most hlim hmost]
  exact ⟨Crc.opens_sealed _, hok, rfl⟩
theorem dec_enc {p : Prt} (hw : wfPr p) (hok : okP p) (lim most : Nat) (hlim : 8 ≤ lim) (hmost : 2 ≤ most) : decP lim most (encS p) = p ∧ decE lim most (encS p) = 0 := by
  have h := decOk_enc hw hok lim most hlim hmost
  refine ⟨?_, if_pos h⟩
  unfold decP
  rw [if_pos h, txt_enc hok, read_enc p hw hok lim most hlim hmost]
end Go.Proofs.Ytikimmhkfjaijaa
