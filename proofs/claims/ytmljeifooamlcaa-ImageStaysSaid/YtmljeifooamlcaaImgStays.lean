/-
  ImageStays: the plain law, and the walk (printed by wip/gen-imagestays.py).
-/
import Derived.Test.YtmljeifooamlcaaImgLaws
namespace Go.Proofs.Ytmljeifooamlcaa
open Go.RowKit Reg

def twTo (Z : Nat → Int) (b : Nat) (s : Int) (k : Nat) : Bool := (List.range k).any fun i => i != b && (Z i == s && s != 0)
theorem twTo_step (Z : Nat → Int) (b : Nat) (s : Int) (k : Nat) : twTo Z b s (k + 1) = (twTo Z b s k || (k != b && (Z k == s && s != 0))) := by
  unfold twTo
  rw [List.range_succ, List.any_append]
  simp
theorem twTo_iff {Z : Nat → Int} {b : Nat} {s : Int} {k : Nat} : twTo Z b s k = true ↔ ∃ i, i < k ∧ i ≠ b ∧ Z i = s ∧ s ≠ 0 := by
  unfold twTo
  rw [List.any_eq_true]
  simp only [List.mem_range, Bool.and_eq_true, bne_iff_ne, beq_iff_eq]
theorem dupTo_iff {Z : Nat → Int} {k : Nat} : dupTo Z k = true ↔ ∃ i j, j < i ∧ i < k ∧ Z i ≠ 0 ∧ Z j = Z i := by
  unfold dupTo dupAt
  rw [List.any_eq_true]
  simp only [List.mem_range, Bool.and_eq_true, bne_iff_ne, List.any_eq_true, beq_iff_eq]
  constructor
  · rintro ⟨i, hi, h0, j, hj, h⟩; exact ⟨i, j, hj, hi, h0, h⟩
  · rintro ⟨i, j, hj, hi, h0, h⟩; exact ⟨i, hi, h0, j, hj, h⟩
theorem badTo_iff {Z : Nat → Int} {n : Int} {k : Nat} : badTo Z n k = true ↔ ∃ i, i < k ∧ badPl n (Z i) = true := by
  unfold badTo
  rw [List.any_eq_true]
  simp only [List.mem_range]
theorem stays_plain {Z Z' : Nat → Int} {b len : Nat} {s n : Int} (hb : b < len) (h : chkZ Z len len n = 0) (hat : Z' b = s) (hother : ∀ i, i ≠ b → Z' i = Z i) :
    chkZ Z' len len n = if badPl n s = true then 2 else if twTo Z b s len = true then 16 else 0 := by
  unfold chkZ at h ⊢
  by_cases h1 : (len : Int) < 1 ∨ 8 < (len : Int) ∨ ¬ (len : Int) = len
  · rw [if_pos h1] at h; cases h
  rw [if_neg h1] at h ⊢
  by_cases h2 : badTo Z n len = true
  · rw [if_pos h2] at h; cases h
  rw [if_neg h2] at h
  by_cases h3 : dupTo Z len = true
  · rw [if_pos h3] at h; cases h
  clear h
  have e1 : badTo Z' n len = badPl n s := by
    rw [Bool.eq_iff_iff, badTo_iff]
    constructor
    · rintro ⟨i, hi, hp⟩
      by_cases e : i = b
      · rw [e, hat] at hp; exact hp
      · rw [hother i e] at hp
        exact absurd (badTo_iff.2 ⟨i, hi, hp⟩) h2
    · intro hp
      exact ⟨b, hb, by rw [hat]; exact hp⟩
  have e2 : dupTo Z' len = twTo Z b s len := by
    rw [Bool.eq_iff_iff, dupTo_iff, twTo_iff]
    constructor
    · rintro ⟨i, j, hj, hi, h0, he⟩
      by_cases ei : i = b
      · subst ei
        rw [hat] at h0 he
        have : j ≠ i := by omega
        rw [hother j this] at he
        exact ⟨j, by omega, this, he, h0⟩
      · rw [hother i ei] at h0 he
        by_cases ej : j = b
        · subst ej
          rw [hat] at he
          exact ⟨i, hi, ei, he.symm, by rw [he]; exact h0⟩
        · rw [hother j ej] at he
          exact absurd (dupTo_iff.2 ⟨i, j, hj, hi, h0, he⟩) h3
    · rintro ⟨i, hi, hne, hz, h0⟩
      rcases Nat.lt_or_gt_of_ne hne with q | q
      · exact ⟨b, i, q, hb, by rw [hat]; exact h0, by rw [hat, hother i hne]; exact hz⟩
      · exact ⟨i, b, q, hi, by rw [hother i hne, hz]; exact h0, by rw [hat, hother i hne]; exact hz.symm⟩
  rw [e1, e2]
theorem stays_of {zs : List Int} {b : Nat} {s n : Int} (hb : b < zs.length) (h : chkOf zs zs.length n = 0) :
    chkOf (zs.set b s) zs.length n = if badPl n s = true then 2 else if twTo (fun j => zs.getD j 0) b s zs.length = true then 16 else 0 := by
  unfold chkOf at h ⊢
  rw [List.length_set]
  refine stays_plain hb h ?_ ?_
  · simp [hb]
  · intro i hi
    show (zs.set b s).getD i 0 = zs.getD i 0
    simp [Ne.symm hi]
set_option maxRecDepth 100000 in
set_option maxHeartbeats 4000000 in
theorem law_ImageStays (v : Value) (l : List Int) (sectors : Int) (q : List Int) (w : World) (hl : RdIn w v l.length (l.map (.int .i64))) (hm : l.length ≤ maxLen) (hn : ∀ x ∈ l, (Lit.int .i64 x).wf = true)
    (_ : (Lit.int .i64 sectors).wf = true) (hq2 : q.length = 2) (hqw : ∀ x ∈ q, (Lit.int .i64 x).wf = true) :
    Calls Try.prog 7 #[v, .int .i64 sectors, .agg (q.map (Value.int .i64)).toArray] w fun e w' => e = .returned (.bool true) ∧ Below w.heap.size w w' := by
  obtain ⟨b, s, rfl⟩ : ∃ b s, q = [b, s] := by
    match q, hq2 with
    | [b, s], _ => exact ⟨b, s, rfl⟩
  have hs := hqw s (by simp)
  have hown := fun w1 hb => own_any v l w1 (InI.keep (w' := w1) (⟨hl, hm, hn⟩ : InI w v l) hb)
  have HOWN := Lib.hid hown
  have HS := Lib.hid hs
  have s1 : Hid ((l.take 60).length ≤ 1000) := Lib.hid (by rw [List.length_take]; omega)
  clear hown hl hm hn hs hqw hq2
  simp only [List.map_cons, List.map_nil]
  go_enter Try.func7, Try.ntmps7
  -- WALK
  go_wp2_with fail
  refine (HOWN.out _ ((Below.refl _ _).alloc (Nat.le_refl _) _)).mono ?_
  rintro e w2 ⟨u, rfl, ho, hb⟩
  have hblk : Blk w2 w.heap.size 35 #[.int .i64 b, .int .i64 s] := (Blk.new _ _ _).keep hb
  have hc0 := hblk.cell 0
  have hc1 := hblk.cell 1
  simp at hc0 hc1
  have HL := Lib.hid ho.rd
  have HB := Lib.hid (((Below.refl w.heap.size w).alloc (Nat.le_refl _) _).trans (hb.mono (by simp)))
  clear ho hb HOWN hblk
  generalize List.take 60 l = zs at *
  obtain ⟨p, c, rfl, -, -⟩ := HL.out.open_
  generalize hZ : (fun j => zs.getD j 0) = Z at *
  generalize hm : zs.length = m at *
  have HZ := Lib.hid hZ
  have HM := Lib.hid hm
  have m1000 : (m : Int) ≤ 1000 := by have := s1.out; omega
  clear hZ
  have s1 : Hid (zs.length ≤ 1000) := Lib.hid (by have := s1.out; omega)
  clear hm
  go_wp2_with fail
  go_quiet (fail)
  have HB2 := Lib.hid (below_drewN HB.out nq)
  have HL2 := Lib.hid (HL.out.keep (below_drewN (Below.refl _ _) nq))
  clear HB HL hc0 hc1
  rcases Int.lt_or_le 0 sectors with j1 | j1
  rotate_left
  · have j2 : sectors < 1024 := by omega
    go_wp2_with fail
    refine (check_any _ zs (m : Int) 0 _ HL2.out).mono ?_
    rintro e w3 ⟨rfl, hb⟩
    have HB3 := Lib.hid (HB2.out.trans (hb.mono HB2.out.size))
    have HL3 := Lib.hid (HL2.out.keep hb)
    clear hb HB2 HL2
    by_cases hc : chkOf zs m 0 = 0
    · have hst : ∀ k : Nat, k < m → chkOf (zs.set k s) m 0 = if badPl 0 s = true then 2 else if twTo Z k s m = true then 16 else 0 := by
        intro k hk
        have h1 := hc
        rw [← HM.out] at h1 hk ⊢
        rw [stays_of hk h1, HZ.out]
      have HST := Lib.hid hst
      rw [hc]
      clear hst hc
      go_wp2_with fail
      by_cases hbad : b < 0 ∨ (zs.length : Int) ≤ b ∨ s < 0
      · refine (with_bad _ zs _ _ _ HL3.out hbad).mono ?_
        rintro e w4 ⟨rfl, rfl⟩
        rw [HM.out] at hbad
        have hb3 : b < 0 ∨ (0 ≤ b ∧ (m : Int) ≤ b) ∨ (0 ≤ b ∧ b < (m : Int) ∧ s < 0) := by omega
        have HBX := HB3
        clear hbad HB3 HST
        rcases hb3 with j1 | ⟨j1, j2⟩ | ⟨j1, j2, j3⟩
        all_goals
          go_wp2_with fail
          refine (works_any _).mono ?_
          rintro e wz ⟨rfl, hb⟩
          have HBZ := Lib.hid (HBX.out.trans (hb.mono HBX.out.size))
          clear hb HBX
          go_wp2
          go_ret
          exact ⟨rfl, HBZ.out⟩
      · have hbn : ∃ k : Nat, b = (k : Int) ∧ k < zs.length := ⟨b.toNat, by omega, by omega⟩
        obtain ⟨k, rfl, hk⟩ := hbn
        have hs0 : 0 ≤ s := by omega
        refine (with_ok _ zs k s _ HL3.out hk hs0 HS.out s1.out).mono ?_
        rintro e w4 ⟨A, rfl, ho, hb⟩
        have HA := Lib.hid ho.rd
        have HB4 := Lib.hid (HB3.out.trans (hb.mono HB3.out.size))
        have HL4 := Lib.hid (HL3.out.keep hb)
        rw [HM.out] at hk
        have hst := HST.out k hk
        have HST2 := Lib.hid hst
        have hle : (zs.set k s).length = m := by rw [List.length_set]; exact HM.out
        have HLE := Lib.hid hle
        have hx4 := (HL3.out.keep hb).open_
        obtain ⟨p', c', hv, -, hx⟩ := hx4
        rw [HM.out, Value.slice.injEq] at hv
        obtain ⟨rfl, -, rfl⟩ := hv
        rw [HM.out] at hx
        have hx2 : ∀ j, j < m → ∃ g off, p = some ⟨g, off, none⟩ ∧ w4.cell? ⟨g, off + j, none⟩ = some (.int .i64 (Z j)) := by
          intro j hj
          have := hx j hj
          rw [show zs.getD j 0 = Z j from congrFun HZ.out j] at this
          exact this
        have HX := Lib.hid hx2
        have i7 : (k : Int) < (m : Int) := by omega
        clear ho hb hbad hk hst hle hx hx2 HB3 HL3 HL4 HST
        go_wp2_with fail
        go_loopw [12, 13] (fun t x wr => ∃ j : Nat, j ≤ m ∧ t = .bool (twTo Z k s j) ∧ x = .int .i64 j ∧ w4 = wr) (fun _ x _ => m - (intOf x).toNat)
        case atStart => exact ⟨0, Nat.zero_le _, rfl, rfl, rfl⟩
        case round =>
          obtain ⟨j, hj, rfl, rfl, hw⟩ := hrel
          subst hw
          by_cases hjm : j < m
          · have i3 : (j : Int) < (m : Int) := by omega
            obtain ⟨g, o, rfl, hc1⟩ := HX.out j hjm
            have hst := twTo_step Z k s j
            have HSTEP := Lib.hid hst
            clear hst
            generalize twTo Z k s j = tw at *
            cases tw with
            | true =>
              go_wp2
              refine ⟨⟨j + 1, by omega, by rw [HSTEP.out]; rfl, by go_num, trivial⟩, by simp [intOf]; omega⟩
            | false =>
              by_cases hjk : j = k
              · have z1 : ((j : Int) != (k : Int)) = false := by simp [hjk]
                have z2 : (j != k) = false := by simp [hjk]
                have Z2 := Lib.hid z2
                clear hjk
                go_wp2
                refine ⟨⟨j + 1, by omega, by rw [HSTEP.out, Z2.out]; rfl, by go_num, trivial⟩, by simp [intOf]; omega⟩
              · have z1 : ((j : Int) != (k : Int)) = true := by simp; omega
                have z2 : (j != k) = true := by simp [hjk]
                have Z2 := Lib.hid z2
                clear hjk z2
                by_cases hz : Z j = s
                · have z3 : (Z j == s) = true := by simp [hz]
                  have Z3 := Lib.hid z3
                  clear hz
                  by_cases hs0' : s = 0
                  · have z4 : (s != 0) = false := by simp [hs0']
                    have Z4 := Lib.hid z4
                    clear hs0'
                    go_wp2
                    refine ⟨⟨j + 1, by omega, by rw [HSTEP.out, Z2.out, Z3.out, Z4.out]; rfl, by go_num, trivial⟩, by simp [intOf]; omega⟩
                  · have z4 : (s != 0) = true := by simp [hs0']
                    have Z4 := Lib.hid z4
                    clear hs0'
                    go_wp2
                    refine ⟨⟨j + 1, by omega, by rw [HSTEP.out, Z2.out, Z3.out, Z4.out]; rfl, by go_num, trivial⟩, by simp [intOf]; omega⟩
                · have z3 : (Z j == s) = false := by simp [hz]
                  have Z3 := Lib.hid z3
                  clear hz
                  go_wp2
                  refine ⟨⟨j + 1, by omega, by rw [HSTEP.out, Z2.out, Z3.out]; rfl, by go_num, trivial⟩, by simp [intOf]; omega⟩
          · obtain rfl : j = m := by omega
            have i3 : ¬ (j : Int) < (j : Int) := by omega
            obtain ⟨p2, c2, rfl, -, -⟩ := HA.out.open_
            rw [HLE.out]
            have ha := HA.out
            rw [HLE.out] at ha
            have HA2 := Lib.hid ha
            have hst := HST2.out
            clear ha HA HX
            have HBX0 := HB4
            clear HB4
            cases htw : twTo Z k s j
            all_goals
              rw [htw] at hst
              cases hbp : badPl 0 s
              all_goals
                rw [hbp] at hst
                simp only [if_true, if_false, Bool.false_eq_true] at hst
                have HST3 := Lib.hid hst
                clear hst
                have hcase : (s = 0 ∨ (¬ s = 0 ∧ 193 ≤ s ∧ s < 0)) ∨ (¬ s = 0 ∧ s < 193) ∨ (¬ s = 0 ∧ 193 ≤ s ∧ 0 ≤ s) := by omega
                have hchk : (badPl 0 s = false ↔ (s = 0 ∨ (¬ s = 0 ∧ 193 ≤ s ∧ s < 0))) := by
                  unfold badPl
                  rw [Bool.and_eq_false_iff, bne_eq_false_iff_eq, Bool.or_eq_false_iff, decide_eq_false_iff_not, decide_eq_false_iff_not]
                  omega
                rw [hbp] at hchk
                clear htw hbp
                rcases hcase with (q1 | ⟨q1, q2, q3⟩) | ⟨q1, q2⟩ | ⟨q1, q2, q3⟩
                all_goals
                  first
                  | (exfalso; simp at hchk; omega)
                  | skip
              all_goals clear hchk
            all_goals
              have HBX := HBX0
              clear HBX0
              go_wp2_with fail
              refine (check_lit _ (zs.set k _) (j : Int) 0 _ _ HA2.out HST3.out).mono ?_
              rintro e w5 ⟨rfl, hb⟩
              have HBY := Lib.hid (HBX.out.trans (hb.mono HBX.out.size))
              clear hb HBX HA2
              have HBX := HBY
              clear HBY
              go_wp2_with fail
              refine (works_any _).mono ?_
              rintro e wz ⟨rfl, hb⟩
              have HBZ := Lib.hid (HBX.out.trans (hb.mono HBX.out.size))
              clear hb HBX
              go_wp2
              go_ret
              exact ⟨rfl, HBZ.out⟩
    · have z1 : (chkOf zs m 0 != 0) = true := by simp [hc]
      clear hc
      have HBX := HB3
      clear HB3 HL3
      go_wp2_with fail
      refine (works_any _).mono ?_
      rintro e wz ⟨rfl, hb⟩
      have HBZ := Lib.hid (HBX.out.trans (hb.mono HBX.out.size))
      clear hb HBX
      go_wp2
      go_ret
      exact ⟨rfl, HBZ.out⟩
  · rcases Int.lt_or_le 1024 sectors with j2 | j2
    · skip
      go_wp2_with fail
      refine (check_any _ zs (m : Int) 1024 _ HL2.out).mono ?_
      rintro e w3 ⟨rfl, hb⟩
      have HB3 := Lib.hid (HB2.out.trans (hb.mono HB2.out.size))
      have HL3 := Lib.hid (HL2.out.keep hb)
      clear hb HB2 HL2
      by_cases hc : chkOf zs m 1024 = 0
      · have hst : ∀ k : Nat, k < m → chkOf (zs.set k s) m 1024 = if badPl 1024 s = true then 2 else if twTo Z k s m = true then 16 else 0 := by
          intro k hk
          have h1 := hc
          rw [← HM.out] at h1 hk ⊢
          rw [stays_of hk h1, HZ.out]
        have HST := Lib.hid hst
        rw [hc]
        clear hst hc
        go_wp2_with fail
        by_cases hbad : b < 0 ∨ (zs.length : Int) ≤ b ∨ s < 0
        · refine (with_bad _ zs _ _ _ HL3.out hbad).mono ?_
          rintro e w4 ⟨rfl, rfl⟩
          rw [HM.out] at hbad
          have hb3 : b < 0 ∨ (0 ≤ b ∧ (m : Int) ≤ b) ∨ (0 ≤ b ∧ b < (m : Int) ∧ s < 0) := by omega
          have HBX := HB3
          clear hbad HB3 HST
          rcases hb3 with j1 | ⟨j1, j2⟩ | ⟨j1, j2, j3⟩
          all_goals
            go_wp2_with fail
            refine (works_any _).mono ?_
            rintro e wz ⟨rfl, hb⟩
            have HBZ := Lib.hid (HBX.out.trans (hb.mono HBX.out.size))
            clear hb HBX
            go_wp2
            go_ret
            exact ⟨rfl, HBZ.out⟩
        · have hbn : ∃ k : Nat, b = (k : Int) ∧ k < zs.length := ⟨b.toNat, by omega, by omega⟩
          obtain ⟨k, rfl, hk⟩ := hbn
          have hs0 : 0 ≤ s := by omega
          refine (with_ok _ zs k s _ HL3.out hk hs0 HS.out s1.out).mono ?_
          rintro e w4 ⟨A, rfl, ho, hb⟩
          have HA := Lib.hid ho.rd
          have HB4 := Lib.hid (HB3.out.trans (hb.mono HB3.out.size))
          have HL4 := Lib.hid (HL3.out.keep hb)
          rw [HM.out] at hk
          have hst := HST.out k hk
          have HST2 := Lib.hid hst
          have hle : (zs.set k s).length = m := by rw [List.length_set]; exact HM.out
          have HLE := Lib.hid hle
          have hx4 := (HL3.out.keep hb).open_
          obtain ⟨p', c', hv, -, hx⟩ := hx4
          rw [HM.out, Value.slice.injEq] at hv
          obtain ⟨rfl, -, rfl⟩ := hv
          rw [HM.out] at hx
          have hx2 : ∀ j, j < m → ∃ g off, p = some ⟨g, off, none⟩ ∧ w4.cell? ⟨g, off + j, none⟩ = some (.int .i64 (Z j)) := by
            intro j hj
            have := hx j hj
            rw [show zs.getD j 0 = Z j from congrFun HZ.out j] at this
            exact this
          have HX := Lib.hid hx2
          have i7 : (k : Int) < (m : Int) := by omega
          clear ho hb hbad hk hst hle hx hx2 HB3 HL3 HL4 HST
          go_wp2_with fail
          go_loopw [12, 13] (fun t x wr => ∃ j : Nat, j ≤ m ∧ t = .bool (twTo Z k s j) ∧ x = .int .i64 j ∧ w4 = wr) (fun _ x _ => m - (intOf x).toNat)
          case atStart => exact ⟨0, Nat.zero_le _, rfl, rfl, rfl⟩
          case round =>
            obtain ⟨j, hj, rfl, rfl, hw⟩ := hrel
            subst hw
            by_cases hjm : j < m
            · have i3 : (j : Int) < (m : Int) := by omega
              obtain ⟨g, o, rfl, hc1⟩ := HX.out j hjm
              have hst := twTo_step Z k s j
              have HSTEP := Lib.hid hst
              clear hst
              generalize twTo Z k s j = tw at *
              cases tw with
              | true =>
                go_wp2
                refine ⟨⟨j + 1, by omega, by rw [HSTEP.out]; rfl, by go_num, trivial⟩, by simp [intOf]; omega⟩
              | false =>
                by_cases hjk : j = k
                · have z1 : ((j : Int) != (k : Int)) = false := by simp [hjk]
                  have z2 : (j != k) = false := by simp [hjk]
                  have Z2 := Lib.hid z2
                  clear hjk
                  go_wp2
                  refine ⟨⟨j + 1, by omega, by rw [HSTEP.out, Z2.out]; rfl, by go_num, trivial⟩, by simp [intOf]; omega⟩
                · have z1 : ((j : Int) != (k : Int)) = true := by simp; omega
                  have z2 : (j != k) = true := by simp [hjk]
                  have Z2 := Lib.hid z2
                  clear hjk z2
                  by_cases hz : Z j = s
                  · have z3 : (Z j == s) = true := by simp [hz]
                    have Z3 := Lib.hid z3
                    clear hz
                    by_cases hs0' : s = 0
                    · have z4 : (s != 0) = false := by simp [hs0']
                      have Z4 := Lib.hid z4
                      clear hs0'
                      go_wp2
                      refine ⟨⟨j + 1, by omega, by rw [HSTEP.out, Z2.out, Z3.out, Z4.out]; rfl, by go_num, trivial⟩, by simp [intOf]; omega⟩
                    · have z4 : (s != 0) = true := by simp [hs0']
                      have Z4 := Lib.hid z4
                      clear hs0'
                      go_wp2
                      refine ⟨⟨j + 1, by omega, by rw [HSTEP.out, Z2.out, Z3.out, Z4.out]; rfl, by go_num, trivial⟩, by simp [intOf]; omega⟩
                  · have z3 : (Z j == s) = false := by simp [hz]
                    have Z3 := Lib.hid z3
                    clear hz
                    go_wp2
                    refine ⟨⟨j + 1, by omega, by rw [HSTEP.out, Z2.out, Z3.out]; rfl, by go_num, trivial⟩, by simp [intOf]; omega⟩
            · obtain rfl : j = m := by omega
              have i3 : ¬ (j : Int) < (j : Int) := by omega
              obtain ⟨p2, c2, rfl, -, -⟩ := HA.out.open_
              rw [HLE.out]
              have ha := HA.out
              rw [HLE.out] at ha
              have HA2 := Lib.hid ha
              have hst := HST2.out
              clear ha HA HX
              have HBX0 := HB4
              clear HB4
              cases htw : twTo Z k s j
              all_goals
                rw [htw] at hst
                cases hbp : badPl 1024 s
                all_goals
                  rw [hbp] at hst
                  simp only [if_true, if_false, Bool.false_eq_true] at hst
                  have HST3 := Lib.hid hst
                  clear hst
                  have hcase : (s = 0 ∨ (¬ s = 0 ∧ 193 ≤ s ∧ s < 1024)) ∨ (¬ s = 0 ∧ s < 193) ∨ (¬ s = 0 ∧ 193 ≤ s ∧ 1024 ≤ s) := by omega
                  have hchk : (badPl 1024 s = false ↔ (s = 0 ∨ (¬ s = 0 ∧ 193 ≤ s ∧ s < 1024))) := by
                    unfold badPl
                    rw [Bool.and_eq_false_iff, bne_eq_false_iff_eq, Bool.or_eq_false_iff, decide_eq_false_iff_not, decide_eq_false_iff_not]
                    omega
                  rw [hbp] at hchk
                  clear htw hbp
                  rcases hcase with (q1 | ⟨q1, q2, q3⟩) | ⟨q1, q2⟩ | ⟨q1, q2, q3⟩
                  all_goals
                    first
                    | (exfalso; simp at hchk; omega)
                    | skip
                all_goals clear hchk
              all_goals
                have HBX := HBX0
                clear HBX0
                go_wp2_with fail
                refine (check_lit _ (zs.set k _) (j : Int) 1024 _ _ HA2.out HST3.out).mono ?_
                rintro e w5 ⟨rfl, hb⟩
                have HBY := Lib.hid (HBX.out.trans (hb.mono HBX.out.size))
                clear hb HBX HA2
                have HBX := HBY
                clear HBY
                go_wp2_with fail
                refine (works_any _).mono ?_
                rintro e wz ⟨rfl, hb⟩
                have HBZ := Lib.hid (HBX.out.trans (hb.mono HBX.out.size))
                clear hb HBX
                go_wp2
                go_ret
                exact ⟨rfl, HBZ.out⟩
      · have z1 : (chkOf zs m 1024 != 0) = true := by simp [hc]
        clear hc
        have HBX := HB3
        clear HB3 HL3
        go_wp2_with fail
        refine (works_any _).mono ?_
        rintro e wz ⟨rfl, hb⟩
        have HBZ := Lib.hid (HBX.out.trans (hb.mono HBX.out.size))
        clear hb HBX
        go_wp2
        go_ret
        exact ⟨rfl, HBZ.out⟩
    · skip
      go_wp2_with fail
      refine (check_any _ zs (m : Int) sectors _ HL2.out).mono ?_
      rintro e w3 ⟨rfl, hb⟩
      have HB3 := Lib.hid (HB2.out.trans (hb.mono HB2.out.size))
      have HL3 := Lib.hid (HL2.out.keep hb)
      clear hb HB2 HL2
      by_cases hc : chkOf zs m sectors = 0
      · have hst : ∀ k : Nat, k < m → chkOf (zs.set k s) m sectors = if badPl sectors s = true then 2 else if twTo Z k s m = true then 16 else 0 := by
          intro k hk
          have h1 := hc
          rw [← HM.out] at h1 hk ⊢
          rw [stays_of hk h1, HZ.out]
        have HST := Lib.hid hst
        rw [hc]
        clear hst hc
        go_wp2_with fail
        by_cases hbad : b < 0 ∨ (zs.length : Int) ≤ b ∨ s < 0
        · refine (with_bad _ zs _ _ _ HL3.out hbad).mono ?_
          rintro e w4 ⟨rfl, rfl⟩
          rw [HM.out] at hbad
          have hb3 : b < 0 ∨ (0 ≤ b ∧ (m : Int) ≤ b) ∨ (0 ≤ b ∧ b < (m : Int) ∧ s < 0) := by omega
          have HBX := HB3
          clear hbad HB3 HST
          rcases hb3 with j1 | ⟨j1, j2⟩ | ⟨j1, j2, j3⟩
          all_goals
            go_wp2_with fail
            refine (works_any _).mono ?_
            rintro e wz ⟨rfl, hb⟩
            have HBZ := Lib.hid (HBX.out.trans (hb.mono HBX.out.size))
            clear hb HBX
            go_wp2
            go_ret
            exact ⟨rfl, HBZ.out⟩
        · have hbn : ∃ k : Nat, b = (k : Int) ∧ k < zs.length := ⟨b.toNat, by omega, by omega⟩
          obtain ⟨k, rfl, hk⟩ := hbn
          have hs0 : 0 ≤ s := by omega
          refine (with_ok _ zs k s _ HL3.out hk hs0 HS.out s1.out).mono ?_
          rintro e w4 ⟨A, rfl, ho, hb⟩
          have HA := Lib.hid ho.rd
          have HB4 := Lib.hid (HB3.out.trans (hb.mono HB3.out.size))
          have HL4 := Lib.hid (HL3.out.keep hb)
          rw [HM.out] at hk
          have hst := HST.out k hk
          have HST2 := Lib.hid hst
          have hle : (zs.set k s).length = m := by rw [List.length_set]; exact HM.out
          have HLE := Lib.hid hle
          have hx4 := (HL3.out.keep hb).open_
          obtain ⟨p', c', hv, -, hx⟩ := hx4
          rw [HM.out, Value.slice.injEq] at hv
          obtain ⟨rfl, -, rfl⟩ := hv
          rw [HM.out] at hx
          have hx2 : ∀ j, j < m → ∃ g off, p = some ⟨g, off, none⟩ ∧ w4.cell? ⟨g, off + j, none⟩ = some (.int .i64 (Z j)) := by
            intro j hj
            have := hx j hj
            rw [show zs.getD j 0 = Z j from congrFun HZ.out j] at this
            exact this
          have HX := Lib.hid hx2
          have i7 : (k : Int) < (m : Int) := by omega
          clear ho hb hbad hk hst hle hx hx2 HB3 HL3 HL4 HST
          go_wp2_with fail
          go_loopw [12, 13] (fun t x wr => ∃ j : Nat, j ≤ m ∧ t = .bool (twTo Z k s j) ∧ x = .int .i64 j ∧ w4 = wr) (fun _ x _ => m - (intOf x).toNat)
          case atStart => exact ⟨0, Nat.zero_le _, rfl, rfl, rfl⟩
          case round =>
            obtain ⟨j, hj, rfl, rfl, hw⟩ := hrel
            subst hw
            by_cases hjm : j < m
            · have i3 : (j : Int) < (m : Int) := by omega
              obtain ⟨g, o, rfl, hc1⟩ := HX.out j hjm
              have hst := twTo_step Z k s j
              have HSTEP := Lib.hid hst
              clear hst
              generalize twTo Z k s j = tw at *
              cases tw with
              | true =>
                go_wp2
                refine ⟨⟨j + 1, by omega, by rw [HSTEP.out]; rfl, by go_num, trivial⟩, by simp [intOf]; omega⟩
              | false =>
                by_cases hjk : j = k
                · have z1 : ((j : Int) != (k : Int)) = false := by simp [hjk]
                  have z2 : (j != k) = false := by simp [hjk]
                  have Z2 := Lib.hid z2
                  clear hjk
                  go_wp2
                  refine ⟨⟨j + 1, by omega, by rw [HSTEP.out, Z2.out]; rfl, by go_num, trivial⟩, by simp [intOf]; omega⟩
                · have z1 : ((j : Int) != (k : Int)) = true := by simp; omega
                  have z2 : (j != k) = true := by simp [hjk]
                  have Z2 := Lib.hid z2
                  clear hjk z2
                  by_cases hz : Z j = s
                  · have z3 : (Z j == s) = true := by simp [hz]
                    have Z3 := Lib.hid z3
                    clear hz
                    by_cases hs0' : s = 0
                    · have z4 : (s != 0) = false := by simp [hs0']
                      have Z4 := Lib.hid z4
                      clear hs0'
                      go_wp2
                      refine ⟨⟨j + 1, by omega, by rw [HSTEP.out, Z2.out, Z3.out, Z4.out]; rfl, by go_num, trivial⟩, by simp [intOf]; omega⟩
                    · have z4 : (s != 0) = true := by simp [hs0']
                      have Z4 := Lib.hid z4
                      clear hs0'
                      go_wp2
                      refine ⟨⟨j + 1, by omega, by rw [HSTEP.out, Z2.out, Z3.out, Z4.out]; rfl, by go_num, trivial⟩, by simp [intOf]; omega⟩
                  · have z3 : (Z j == s) = false := by simp [hz]
                    have Z3 := Lib.hid z3
                    clear hz
                    go_wp2
                    refine ⟨⟨j + 1, by omega, by rw [HSTEP.out, Z2.out, Z3.out]; rfl, by go_num, trivial⟩, by simp [intOf]; omega⟩
            · obtain rfl : j = m := by omega
              have i3 : ¬ (j : Int) < (j : Int) := by omega
              obtain ⟨p2, c2, rfl, -, -⟩ := HA.out.open_
              rw [HLE.out]
              have ha := HA.out
              rw [HLE.out] at ha
              have HA2 := Lib.hid ha
              have hst := HST2.out
              clear ha HA HX
              have HBX0 := HB4
              clear HB4
              cases htw : twTo Z k s j
              all_goals
                rw [htw] at hst
                cases hbp : badPl sectors s
                all_goals
                  rw [hbp] at hst
                  simp only [if_true, if_false, Bool.false_eq_true] at hst
                  have HST3 := Lib.hid hst
                  clear hst
                  have hcase : (s = 0 ∨ (¬ s = 0 ∧ 193 ≤ s ∧ s < sectors)) ∨ (¬ s = 0 ∧ s < 193) ∨ (¬ s = 0 ∧ 193 ≤ s ∧ sectors ≤ s) := by omega
                  have hchk : (badPl sectors s = false ↔ (s = 0 ∨ (¬ s = 0 ∧ 193 ≤ s ∧ s < sectors))) := by
                    unfold badPl
                    rw [Bool.and_eq_false_iff, bne_eq_false_iff_eq, Bool.or_eq_false_iff, decide_eq_false_iff_not, decide_eq_false_iff_not]
                    omega
                  rw [hbp] at hchk
                  clear htw hbp
                  rcases hcase with (q1 | ⟨q1, q2, q3⟩) | ⟨q1, q2⟩ | ⟨q1, q2, q3⟩
                  all_goals
                    first
                    | (exfalso; simp at hchk; omega)
                    | skip
                all_goals clear hchk
              all_goals
                have HBX := HBX0
                clear HBX0
                go_wp2_with fail
                refine (check_lit _ (zs.set k _) (j : Int) sectors _ _ HA2.out HST3.out).mono ?_
                rintro e w5 ⟨rfl, hb⟩
                have HBY := Lib.hid (HBX.out.trans (hb.mono HBX.out.size))
                clear hb HBX HA2
                have HBX := HBY
                clear HBY
                go_wp2_with fail
                refine (works_any _).mono ?_
                rintro e wz ⟨rfl, hb⟩
                have HBZ := Lib.hid (HBX.out.trans (hb.mono HBX.out.size))
                clear hb HBX
                go_wp2
                go_ret
                exact ⟨rfl, HBZ.out⟩
      · have z1 : (chkOf zs m sectors != 0) = true := by simp [hc]
        clear hc
        have HBX := HB3
        clear HB3 HL3
        go_wp2_with fail
        refine (works_any _).mono ?_
        rintro e wz ⟨rfl, hb⟩
        have HBZ := Lib.hid (HBX.out.trans (hb.mono HBX.out.size))
        clear hb HBX
        go_wp2
        go_ret
        exact ⟨rfl, HBZ.out⟩
end Go.Proofs.Ytmljeifooamlcaa
