/-
  ImageChecks, ImageDiffs, ImageWith, WALKED.
-/
import Derived.Test.YtmljeifooamlcaaImgLaws
namespace Go.Proofs.Ytmljeifooamlcaa
open Go.RowKit Reg

theorem take_short (l : List Int) : (l.take 60).length ≤ 1000 := by rw [List.length_take]; omega
set_option maxRecDepth 100000 in
theorem law_ImageChecks (v : Value) (l : List Int) (blocks n : Int) (w : World) (hl : RdIn w v l.length (l.map (.int .i64))) (hm : l.length ≤ maxLen) (hn : ∀ x ∈ l, (Lit.int .i64 x).wf = true)
    (_ : (Lit.int .i64 blocks).wf = true) (_ : (Lit.int .i64 n).wf = true) :
    Calls Try.prog 3 #[v, .int .i64 blocks, .int .i64 n] w fun e w' => e = .returned (.bool true) ∧ Below w.heap.size w w' := by
  have hown := own_any v l w ⟨hl, hm, hn⟩
  have HOWN := Lib.hid hown
  clear hown hl hm hn
  go_enter Try.func3, Try.ntmps3
  go_wp2_with fail
  refine HOWN.out.mono ?_
  rintro e w1 ⟨u, rfl, ho, hb⟩
  have HL := Lib.hid ho.rd
  have HB := Lib.hid hb
  clear ho hb HOWN
  obtain ⟨a, c, rfl, -, -⟩ := HL.out.open_
  generalize List.take 60 l = zs at *
  go_wp2_with fail
  refine (check_any _ zs blocks n _ HL.out).mono ?_
  rintro e w2 ⟨rfl, hb⟩
  have HB2 := Lib.hid (HB.out.trans (hb.mono HB.out.size))
  have HL2 := Lib.hid (HL.out.keep hb)
  clear hb HB HL
  go_wp2_with fail
  refine (checkR_any _ zs blocks n _ HL2.out).mono ?_
  rintro e w3 ⟨rfl, hb⟩
  have HB3 := Lib.hid (HB2.out.trans (hb.mono HB2.out.size))
  have HL3 := Lib.hid (HL2.out.keep hb)
  clear hb HB2 HL2
  go_wp2_with fail
  refine (check_any _ zs (zs.length : Int) n _ HL3.out).mono ?_
  rintro e w4 ⟨rfl, hb⟩
  have HB4 := Lib.hid (HB3.out.trans (hb.mono HB3.out.size))
  have HL4 := Lib.hid (HL3.out.keep hb)
  clear hb HB3 HL3
  go_wp2_with fail
  refine (checkR_any _ zs (zs.length : Int) n _ HL4.out).mono ?_
  rintro e w5 ⟨rfl, hb⟩
  have HB5 := Lib.hid (HB4.out.trans (hb.mono HB4.out.size))
  clear hb HB4 HL4
  go_wp2_with fail
  refine (works_any _).mono ?_
  rintro e w6 ⟨rfl, hb⟩
  have HB6 := Lib.hid (HB5.out.trans (hb.mono HB5.out.size))
  clear hb HB5
  go_wp2
  go_ret
  exact ⟨rfl, HB6.out⟩

set_option maxRecDepth 100000 in
theorem law_ImageDiffs (v : Value) (l : List Int) (v' : Value) (l' : List Int) (w : World) (hl : RdIn w v l.length (l.map (.int .i64))) (hm : l.length ≤ maxLen) (hn : ∀ x ∈ l, (Lit.int .i64 x).wf = true)
    (hl' : RdIn w v' l'.length (l'.map (.int .i64))) (hm' : l'.length ≤ maxLen) (hn' : ∀ x ∈ l', (Lit.int .i64 x).wf = true) :
    Calls Try.prog 4 #[v, v'] w fun e w' => e = .returned (.bool true) ∧ Below w.heap.size w w' := by
  have hown := own_any v l w ⟨hl, hm, hn⟩
  have hv' : InI w v' l' := ⟨hl', hm', hn'⟩
  have HOWN := Lib.hid hown
  have HV := Lib.hid hv'
  have s1 := Lib.hid (take_short l)
  have s2 := Lib.hid (take_short l')
  clear hown hl hm hn hl' hm' hn' hv'
  go_enter Try.func4, Try.ntmps4
  go_wp2_with fail
  refine HOWN.out.mono ?_
  rintro e w1 ⟨u, rfl, ho, hb⟩
  have HL := Lib.hid ho.rd
  have HB := Lib.hid hb
  clear ho hb HOWN
  go_wp2_with fail
  refine (own_any _ _ _ (HV.out.keep HB.out)).mono ?_
  rintro e w2 ⟨u', rfl, ho, hb⟩
  have HL' := Lib.hid ho.rd
  have HB2 := Lib.hid (HB.out.trans (hb.mono HB.out.size))
  have HL2 := Lib.hid (HL.out.keep hb)
  clear ho hb HB HL HV
  generalize List.take 60 l = zs at *
  generalize List.take 60 l' = zs' at *
  go_wp2_with fail
  refine (diff_any _ _ _ _ _ HL2.out HL'.out s1.out s2.out).mono ?_
  rintro e w3 ⟨d, rfl, ho, hb⟩
  have HD := Lib.hid ho.rd
  have HB3 := Lib.hid (HB2.out.trans (hb.mono HB2.out.size))
  have HL3 := Lib.hid (HL2.out.keep hb)
  have HL3' := Lib.hid (HL'.out.keep hb)
  clear ho hb HB2 HL2 HL'
  go_wp2_with fail
  refine (diffR_any _ _ _ _ _ HL3.out HL3'.out s1.out s2.out).mono ?_
  rintro e w4 ⟨d', rfl, ho, hb⟩
  have HD2 := Lib.hid (HD.out.keep hb)
  have HD' := Lib.hid ho.rd
  have HB4 := Lib.hid (HB3.out.trans (hb.mono HB3.out.size))
  clear ho hb HB3 HD HL3 HL3'
  go_wp2_with fail
  refine (ints_lit _ _ _ _ true _ HD2.out HD'.out (decide_eq_true rfl)).mono ?_
  rintro e w5 ⟨rfl, hb⟩
  have HB5 := Lib.hid (HB4.out.trans (hb.mono HB4.out.size))
  clear hb HB4
  go_wp2_with fail
  refine (works_any _).mono ?_
  rintro e w6 ⟨rfl, hb⟩
  have HB6 := Lib.hid (HB5.out.trans (hb.mono HB5.out.size))
  clear hb HB5
  go_wp2
  go_ret
  exact ⟨rfl, HB6.out⟩
end Go.Proofs.Ytmljeifooamlcaa
