/-
  ImageWith, WALKED.
-/
import Derived.Test.YtmljeifooamlcaaImgLaws
namespace Go.Proofs.Ytmljeifooamlcaa
open Go.RowKit Reg

set_option maxRecDepth 100000 in
set_option maxHeartbeats 1000000 in
theorem law_ImageWith (v : Value) (l : List Int) (b s : Int) (w : World) (hl : RdIn w v l.length (l.map (.int .i64))) (hm : l.length ≤ maxLen) (hn : ∀ x ∈ l, (Lit.int .i64 x).wf = true)
    (_ : (Lit.int .i64 b).wf = true) (hs : (Lit.int .i64 s).wf = true) :
    Calls Try.prog 5 #[v, .int .i64 b, .int .i64 s] w fun e w' => e = .returned (.bool true) ∧ Below w.heap.size w w' := by
  have hown := own_any v l w ⟨hl, hm, hn⟩
  have HOWN := Lib.hid hown
  have HS := Lib.hid hs
  have s1 : Hid ((l.take 60).length ≤ 1000) := Lib.hid (by rw [List.length_take]; omega)
  have HTT : Hid (List.take 60 (List.take 60 l) = List.take 60 l) := Lib.hid (List.take_of_length_le (by rw [List.length_take]; omega))
  clear hown hl hm hn hs
  go_enter Try.func5, Try.ntmps5
  go_wp2_with fail
  refine HOWN.out.mono ?_
  rintro e w1 ⟨u, rfl, ho, hb⟩
  have HL := Lib.hid ho.rd
  have HB := Lib.hid hb
  clear ho hb HOWN
  generalize List.take 60 l = zs at *
  go_wp2_with fail
  refine (own_any _ _ _ HL.out).mono ?_
  rintro e w2 ⟨u', rfl, ho, hb⟩
  rw [HTT.out] at ho
  have HK := Lib.hid ho.rd
  have HB2 := Lib.hid (HB.out.trans (hb.mono HB.out.size))
  have HL2 := Lib.hid (HL.out.keep hb)
  clear ho hb HB HL
  go_wp2_with fail
  by_cases hbad : b < 0 ∨ (zs.length : Int) ≤ b ∨ s < 0
  · refine (with_bad _ zs _ _ _ HL2.out hbad).mono ?_
    rintro e w3 ⟨rfl, rfl⟩
    go_wp2_with fail
    refine (withR_bad _ zs _ _ _ HL2.out hbad).mono ?_
    rintro e w3 ⟨rfl, rfl⟩
    go_wp2_with fail
    refine (ints_lit _ _ [] [] true _ (InI.nil_ _) (InI.nil_ _) (by decide)).mono ?_
    rintro e w3 ⟨rfl, hb⟩
    have HB3 := Lib.hid (HB2.out.trans (hb.mono HB2.out.size))
    have HL3 := Lib.hid (HL2.out.keep hb)
    have HK3 := Lib.hid (HK.out.keep hb)
    clear hb HB2 HL2 HK hbad
    go_wp2_with fail
    refine wp_loop_rounds 1 ?_
    rw [rounds_succ]
    go_wp2_with fail
    refine (ints_lit _ _ zs zs true _ HL3.out HK3.out (decide_eq_true rfl)).mono ?_
    rintro e w8 ⟨rfl, hb⟩
    have HB8 := Lib.hid (HB3.out.trans (hb.mono HB3.out.size))
    clear hb HB3
    go_wp2_with fail
    refine (works_any _).mono ?_
    rintro e w9 ⟨rfl, hb⟩
    have HB9 := Lib.hid (HB8.out.trans (hb.mono HB8.out.size))
    clear hb HB8
    go_wp2
    go_ret
    exact ⟨rfl, HB9.out⟩
  · have hbn : ∃ k : Nat, b = (k : Int) ∧ k < zs.length := ⟨b.toNat, by omega, by omega⟩
    obtain ⟨k, rfl, hk⟩ := hbn
    have hs0 : 0 ≤ s := by omega
    refine (with_ok _ zs k s _ HL2.out hk hs0 HS.out s1.out).mono ?_
    rintro e w3 ⟨A, rfl, ho, hb⟩
    have HA := Lib.hid ho
    have HB3 := Lib.hid (HB2.out.trans (hb.mono HB2.out.size))
    have HBL := Lib.hid hb
    have HL3 := Lib.hid (HL2.out.keep hb)
    have HKK := Lib.hid hk
    clear ho hb hbad hk
    go_wp2_with fail
    refine (withR_ok _ zs k s _ HL3.out HKK.out hs0 HS.out s1.out).mono ?_
    rintro e w4 ⟨A', rfl, ho, hb⟩
    have HA4 := Lib.hid (HA.out.keep hb)
    have HA' := Lib.hid ho
    have HB4 := Lib.hid (HBL.out.trans (hb.mono HBL.out.size))
    clear ho hb HA HBL HL3
    go_wp2_with fail
    refine (ints_lit _ _ _ _ true _ HA4.out.rd HA'.out.rd (decide_eq_true rfl)).mono ?_
    rintro e w5 ⟨rfl, hb⟩
    have HA5 := Lib.hid (HA4.out.keep hb)
    have HB5 := Lib.hid (HB4.out.trans (hb.mono HB4.out.size))
    clear hb HA4 HA' HB4
    have hlen : 0 < (zs.set k s).length := by have := HKK.out; rw [List.length_set]; omega
    obtain ⟨g, cap, rfl, hg, -, -, -⟩ := HA5.out.block hlen
    have hle : (zs.set k s).length = zs.length := List.length_set
    have HLEN := Lib.hid hle
    have HG := Lib.hid hg
    have hsz : zs.length ≤ 1000 := s1.out
    rw [hle]
    clear hlen hle hg
    generalize zs.length = n at *
    generalize zs.set k s = ys at *
    clear HKK hs0 HS
    go_wp2_with fail
    go_loopw [12] (fun x wr => ∃ (j : Nat) (xs : List Int), j ≤ n ∧ xs.length = n ∧ x = .int .i64 j ∧ OwI wr w2.heap.size (.slice (some ⟨g, 0, none⟩) n cap) xs ∧ Below w2.heap.size w2 wr) (fun x _ => n - (intOf x).toNat)
    case atStart =>
      have h5 := HA5.out
      rw [HLEN.out] at h5
      exact ⟨0, ys, Nat.zero_le _, HLEN.out, rfl, h5, HB5.out⟩
    case round =>
      clear HA5 HB5 HLEN
      obtain ⟨j, xs, hj, hxs, rfl, ho, hb⟩ := hrel
      have HO := Lib.hid ho
      have HB5 := Lib.hid hb
      have HXS := Lib.hid hxs
      clear ho hb hxs
      by_cases hjn : j < n
      · have i3 : (j : Int) < (n : Int) := by omega
        have hlen : 0 < xs.length := by have := HXS.out; omega
        obtain ⟨g', cap', hgg, -, -, hf, hc⟩ := HO.out.block hlen
        simp only [Value.slice.injEq, Option.some.injEq, Addr.mk.injEq, and_true] at hgg
        obtain ⟨rfl, -, rfl⟩ := hgg
        have hc1 := hc j (by have := HXS.out; omega)
        have hf1 := hf j
        generalize xs.getD j 0 = old at *
        have hfin := HO.out.set j (-7) (by decide)
        have hbel := HB5.out.setCell HG.out (p := ⟨g, j, none⟩) (.int .i64 (-7))
        have HF := Lib.hid hfin
        have HBL := Lib.hid hbel
        have HJN := Lib.hid hjn
        clear hlen hf hc hfin hbel hjn
        go_wp2
        refine ⟨⟨j + 1, _, by have := HJN.out; omega, by rw [List.length_set]; exact HXS.out, by go_num, HF.out, HBL.out⟩, by have := HJN.out; simp [intOf]; omega⟩
      · have HLX := Lib.hid (HL2.out.keep HB5.out)
        have HKX := Lib.hid (HK.out.keep HB5.out)
        have HBX := Lib.hid (HB2.out.trans (HB5.out.mono HB2.out.size))
        clear HB5 HO HL2 HK
        have i3 : (n : Int) ≤ (j : Int) := by omega
        go_wp2_with fail
        refine (ints_lit _ _ zs zs true _ HLX.out HKX.out (decide_eq_true rfl)).mono ?_
        rintro e w8 ⟨rfl, hb⟩
        have HB8 := Lib.hid (HBX.out.trans (hb.mono HBX.out.size))
        clear hb HBX
        go_wp2_with fail
        refine (works_any _).mono ?_
        rintro e w9 ⟨rfl, hb⟩
        have HB9 := Lib.hid (HB8.out.trans (hb.mono HB8.out.size))
        clear hb HB8
        go_wp2
        go_ret
        exact ⟨rfl, HB9.out⟩
end Go.Proofs.Ytmljeifooamlcaa
