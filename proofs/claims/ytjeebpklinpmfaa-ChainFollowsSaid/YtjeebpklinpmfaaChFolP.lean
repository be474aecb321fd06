/-
  A chain that follows another one by its changes: plain facts.
-/
import Derived.Test.YtjeebpklinpmfaaChBackP
namespace Go.Proofs.Ytjeebpklinpmfaa
open Go.RowKit Reg Go.WideShapes Go.ChangeShapes

/-- a volume of whole blocks -/
def fullV (v : Vo) : Prop := v.length = 8 ∧ ∀ s ∈ v, s.size = 32
theorem full_zero : fullV (zeroVo 8) := by
  refine ⟨by decide, fun s hs => ?_⟩
  simp only [zeroVo, List.mem_append] at hs
  rcases hs with hs | hs
  · rw [List.eq_of_mem_replicate hs, zB_size]
  · simp at hs
theorem full_getD {v : Vo} (h : fullV v) {i : Nat} (hi : i < 8) : (v.getD i ByteArray.empty).size = 32 := by
  have : i < v.length := by rw [h.1]; exact hi
  have e : v.getD i ByteArray.empty = v[i] := by simp [this]
  rw [e]
  exact h.2 _ (List.getElem_mem this)
theorem full_write {C : Ch} (h : fullV C.live) (b : Int) (d : ByteArray) : fullV (C.write b d).live := by
  unfold Ch.write
  split
  · rename_i hm
    unfold mayB at hm
    have hd := (of_decide_eq_true hm).2.2
    refine ⟨by simpa using h.1, fun s hs => ?_⟩
    rcases List.mem_or_eq_of_mem_set hs with h1 | rfl
    · exact h.2 s h1
    · exact hd
  · exact h
theorem full_round {C : Ch} (h : fullV C.live) (ps : List Pt) : fullV (roundC C ps).live := by
  unfold roundC
  generalize ps.take 10 = l
  induction l generalizing C with
  | nil => exact h
  | cons p l ih => exact ih (full_write h _ _)
theorem snap_live (C : Ch) (g : Gd) : (C.snap g).live = C.live := by
  unfold Ch.snap
  split <;> rfl
theorem aB_full (G : Nat → Gd) (rs : List (List Pt)) : ∀ i, fullV (aB G rs i).live
  | 0 => full_zero
  | i + 1 => by
    show fullV ((roundC (aB G rs i) (rs.getD i [])).snap (G i)).live
    rw [snap_live]
    exact full_round (aB_full G rs i) _
theorem aB_at {G : Nat → Gd} (hG : Ris G) (rs : List (List Pt)) {i m : Nat} (hi : i < m) (hm : m ≤ 15) : (aB G rs m).snaps.getD i nosn = ⟨(aB G rs (i + 1)).live, G i, false⟩ := by
  obtain ⟨d, rfl⟩ : ∃ d, m = (i + 1) + d := ⟨m - (i + 1), by omega⟩
  have h1 := aB_take hG rs (i := i + 1) d hm
  have h2 := aB_succ hG rs (i := i) (by omega)
  have h3 := (aB_props hG rs i (by omega)).2.1
  have h4 : (aB G rs (i + 1)).live = (roundC (aB G rs i) (rs.getD i [])).live := snap_live _ _
  have e : (aB G rs (i + 1 + d)).snaps[i]? = some ⟨(aB G rs (i + 1)).live, G i, false⟩ := by
    rw [← List.getElem?_take_of_lt (show i < i + 1 by omega), h1, h2, List.getElem?_append_right (by omega), h3, Nat.sub_self, h4]
    rfl
  rw [List.getD_eq_getElem?_getD, e]
  rfl
/-- what the changes of two volumes make of the elder one -/
def mixV (now base : Vo) (k : Nat) : Vo := now.take k ++ base.drop k
theorem mix_len {now base : Vo} (h1 : now.length = 8) (h2 : base.length = 8) {k : Nat} (hk : k ≤ 8) : (mixV now base k).length = 8 := by
  simp [mixV, h1, h2]
  omega
theorem mix_set {now base : Vo} (h1 : now.length = 8) (h2 : base.length = 8) {k : Nat} (hk : k < 8) : (mixV now base k).set k (now.getD k ByteArray.empty) = mixV now base (k + 1) := by
  unfold mixV
  have hl : (now.take k).length = k := by simp [h1]; omega
  rw [List.set_append_right _ _ (by omega), hl, Nat.sub_self, List.drop_eq_getElem_cons (by omega), List.set_cons_zero, List.take_succ_eq_append_getElem (by omega), List.append_assoc]
  simp [show k < now.length by omega]
theorem mix_same {now base : Vo} (h1 : now.length = 8) (h2 : base.length = 8) {k : Nat} (hk : k < 8) (h : now.getD k ByteArray.empty = base.getD k ByteArray.empty) : mixV now base k = mixV now base (k + 1) := by
  unfold mixV
  have e1 : now.getD k ByteArray.empty = now[k] := by simp [show k < now.length by omega]
  have e2 : base.getD k ByteArray.empty = base[k] := by simp [show k < base.length by omega]
  rw [e1, e2] at h
  rw [List.drop_eq_getElem_cons (by omega), List.take_succ_eq_append_getElem (by omega), List.append_assoc, ← h]
  rfl
theorem addR_mix {now base : Vo} (h1 : fullV now) (h2 : base.length = 8) : ∀ (d k : Nat) (ab : Int), k + d = 8 → ab < k → addR 8 (mixV now base k) ab ((List.range' k d).flatMap (cgAt now base)) = some now
  | 0, k, ab, hk, _ => by
    obtain rfl : k = 8 := by omega
    show some (mixV now base 8) = some now
    unfold mixV
    rw [List.take_of_length_le (by rw [h1.1]; exact Nat.le_refl _), List.drop_of_length_le (by rw [h2]; exact Nat.le_refl _), List.append_nil]
  | d + 1, k, ab, hk, hab => by
    have hk8 : k < 8 := by omega
    rw [List.range'_succ, List.flatMap_cons]
    by_cases hz : ((now.getD k ByteArray.empty).toList == (base.getD k ByteArray.empty).toList) = true
    · have e : cgAt now base k = [] := by unfold cgAt; rw [if_pos hz]
      rw [e, List.nil_append, mix_same h1.1 h2 hk8 ((str_iff _ _).1 hz)]
      exact addR_mix h1 h2 d (k + 1) ab (by omega) (by omega)
    · have e : cgAt now base k = [((k : Int), now.getD k ByteArray.empty)] := by unfold cgAt; rw [if_neg hz]
      have hm : mayB 8 (k : Int) (now.getD k ByteArray.empty) = true := by
        unfold mayB
        exact decide_eq_true ⟨by omega, by omega, full_getD h1 hk8⟩
      rw [e]
      show (if mayB 8 (k : Int) (now.getD k ByteArray.empty) = true ∧ ab < (k : Int) then addR 8 ((mixV now base k).set (k : Int).toNat (now.getD k ByteArray.empty)) (k : Int) _ else none) = _
      rw [if_pos ⟨hm, hab⟩, Int.toNat_natCast, mix_set h1.1 h2 hk8]
      exact addR_mix h1 h2 d (k + 1) k (by omega) (by omega)
theorem addR_chgs {now base : Vo} (h1 : fullV now) (h2 : base.length = 8) : addR 8 base (-1) (chgs now base 8) = some now := by
  have := addR_mix h1 h2 8 0 (-1) rfl (by omega)
  unfold chgs
  rw [List.range_eq_range']
  exact this
def gF (i : Nat) : Gd := (1, (i : Int) + 1)
theorem gF_ris : Ris gF := ⟨by decide, fun i => by
  unfold upG gF
  exact decide_eq_true (.inr ⟨rfl, by simp only; omega⟩)⟩
theorem gF_same (i j : Nat) : sameG (gF i) (gF j) = decide (i = j) := by
  rw [Bool.eq_iff_iff, sameG_iff, decide_eq_true_iff]
  unfold gF
  constructor
  · intro h
    have := congrArg Prod.snd h
    simp only at this
    omega
  · rintro rfl
    rfl
/-- the chain that follows A by i of its changes -/
def bF (A : Ch) : Nat → Ch
  | 0 => Ch.new 8
  | i + 1 => (bF A i).add (gF i) (A.chC (i : Int))
section
variable (rs : List (List Pt)) {m : Nat}
theorem bF_props (hm : m ≤ 15) : ∀ i, i ≤ m → (bF (aB gF rs m) i).n = 8 ∧ (bF (aB gF rs m) i).snaps = (aB gF rs m).snaps.take i ∧ (bF (aB gF rs m) i).live = (aB gF rs i).live ∧ (bF (aB gF rs m) i).last = (aB gF rs i).last := by
  intro i
  induction i with
  | zero => exact fun _ => ⟨rfl, rfl, rfl, rfl⟩
  | succ i ih =>
    intro hi
    obtain ⟨b1, b2, b3, b4⟩ := ih (by omega)
    obtain ⟨m1, m2, -⟩ := aB_props gF_ris rs m hm
    obtain ⟨i1, i2, i3, i4, i5⟩ := aB_props gF_ris rs i (by omega)
    obtain ⟨j1, j2, j3, j4, j5⟩ := aB_props gF_ris rs (i + 1) (by omega)
    have hlen : (bF (aB gF rs m) i).snaps.length = i := by rw [b2, List.length_take]; omega
    have hnx : (bF (aB gF rs m) i).next (gF i) = 0 := next_of (by rw [b4]; exact i5) (by omega)
    have hbase : (bF (aB gF rs m) i).last.vol = (aB gF rs m).baseV i := by
      rw [b4]
      unfold Ch.baseV
      cases i with
      | zero => rw [if_pos rfl, m1]; rfl
      | succ q => rw [if_neg (by omega), Nat.add_sub_cancel, aB_at gF_ris rs (by omega) hm, i4 q rfl]
    have hcc : (aB gF rs m).chC (i : Int) = chgs (aB gF rs (i + 1)).live ((aB gF rs m).baseV i) 8 := by
      unfold Ch.chC
      rw [if_neg (by omega), Int.toNat_natCast, aB_at gF_ris rs (by omega) hm]
    have hbl : ((aB gF rs m).baseV i).length = 8 := by
      unfold Ch.baseV
      split
      · rw [m1]; rfl
      · rw [aB_at gF_ris rs (by omega) hm]; exact (aB_full gF rs _).1
    have hadd : addR (bF (aB gF rs m) i).n (bF (aB gF rs m) i).last.vol (-1) ((aB gF rs m).chC (i : Int)) = some (aB gF rs (i + 1)).live := by
      rw [b1, hbase, hcc]
      exact addR_chgs (aB_full gF rs _) hbl
    have e : bF (aB gF rs m) (i + 1) = { (bF (aB gF rs m) i).put ⟨(aB gF rs (i + 1)).live, gF i, false⟩ with live := (aB gF rs (i + 1)).live } := by
      show (bF (aB gF rs m) i).add (gF i) _ = _
      unfold Ch.add
      rw [if_pos hnx, hadd]
    rw [e]
    refine ⟨b1, ?_, rfl, ?_⟩
    · show (bF (aB gF rs m) i).snaps ++ [_] = _
      rw [b2, List.take_add_one]
      congr 1
      have h1 := aB_at gF_ris rs (show i < m by omega) hm
      rw [List.getD_eq_getElem?_getD] at h1
      rw [List.getElem?_eq_getElem (by omega)] at h1 ⊢
      simp only [Option.getD_some] at h1
      rw [h1]
      rfl
    · rw [j4 i rfl]
      unfold Ch.put Ch.last
      simp
theorem bF_addE (hm : m ≤ 15) {i : Nat} (hi : i < m) : (bF (aB gF rs m) i).addE (gF i) ((aB gF rs m).chC (i : Int)) = 0 := by
  obtain ⟨b1, b2, b3, b4⟩ := bF_props rs hm i (by omega)
  obtain ⟨m1, m2, -⟩ := aB_props gF_ris rs m hm
  obtain ⟨i1, i2, i3, i4, i5⟩ := aB_props gF_ris rs i (by omega)
  have hlen : (bF (aB gF rs m) i).snaps.length = i := by rw [b2, List.length_take]; omega
  have hnx : (bF (aB gF rs m) i).next (gF i) = 0 := next_of (by rw [b4]; exact i5) (by omega)
  have hbase : (bF (aB gF rs m) i).last.vol = (aB gF rs m).baseV i := by
    rw [b4]
    unfold Ch.baseV
    cases i with
    | zero => rw [if_pos rfl, m1]; rfl
    | succ q => rw [if_neg (by omega), Nat.add_sub_cancel, aB_at gF_ris rs (by omega) hm, i4 q rfl]
  have hcc : (aB gF rs m).chC (i : Int) = chgs (aB gF rs (i + 1)).live ((aB gF rs m).baseV i) 8 := by
    unfold Ch.chC
    rw [if_neg (by omega), Int.toNat_natCast, aB_at gF_ris rs (by omega) hm]
  have hbl : ((aB gF rs m).baseV i).length = 8 := by
    unfold Ch.baseV
    split
    · rw [m1]; rfl
    · rw [aB_at gF_ris rs (by omega) hm]; exact (aB_full gF rs _).1
  unfold Ch.addE
  rw [if_pos hnx, b1, hbase, hcc, addR_chgs (aB_full gF rs _) hbl]
theorem aB_read (hm : m ≤ 15) {i : Nat} (hi : i < m) : (aB gF rs m).findE (gF i) = 0 ∧ (aB gF rs m).readL (gF i) = (aB gF rs (i + 1)).live := by
  obtain ⟨m1, m2, -⟩ := aB_props gF_ris rs m hm
  have hix : ixS (aB gF rs m).snaps (gF i) = i := ixS_at (by omega) (fun j hj => by
    rw [aB_at gF_ris rs (by omega) hm, gF_same]
    exact decide_eq_false (by omega)) (by rw [aB_at gF_ris rs hi hm, gF_same]; exact decide_eq_true rfl)
  have hE : (aB gF rs m).findE (gF i) = 0 := by
    unfold Ch.findE
    rw [hix, if_pos (by omega), aB_at gF_ris rs hi hm]
    rfl
  refine ⟨hE, ?_⟩
  unfold Ch.readL
  rw [if_pos hE, hix, aB_at gF_ris rs hi hm, m1]
  exact List.take_of_length_le (by rw [(aB_full gF rs _).1]; exact Nat.le_refl _)
theorem read_of {C D : Ch} (h1 : C.n = D.n) (h2 : C.snaps = D.snaps) (g : Gd) : C.findE g = D.findE g ∧ C.readL g = D.readL g := by
  have h3 : C.findE g = D.findE g := by unfold Ch.findE; rw [h2]
  refine ⟨h3, ?_⟩
  unfold Ch.readL
  rw [h3, h2, h1]
theorem bF_read (hm : m ≤ 15) {i : Nat} (hi : i < m) : (bF (aB gF rs m) m).findE (gF i) = 0 ∧ (bF (aB gF rs m) m).readL (gF i) = (aB gF rs (i + 1)).live := by
  obtain ⟨b1, b2, -⟩ := bF_props rs hm m (Nat.le_refl _)
  obtain ⟨m1, m2, -⟩ := aB_props gF_ris rs m hm
  obtain ⟨e1, e2⟩ := read_of (C := bF (aB gF rs m) m) (D := aB gF rs m) (b1.trans m1.symm) (by rw [b2]; exact List.take_of_length_le (by omega)) (gF i)
  obtain ⟨f1, f2⟩ := aB_read rs hm hi
  exact ⟨e1.trans f1, e2.trans f2⟩
end
end Go.Proofs.Ytjeebpklinpmfaa
