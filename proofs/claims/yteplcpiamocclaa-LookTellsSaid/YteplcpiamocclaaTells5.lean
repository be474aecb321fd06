/-
  THE REFERENCE's SETTLED (printed by wip/gen-tells5.py).
-/
import Derived.Test.YteplcpiamocclaaTells4
namespace Go.Proofs.Yteplcpiamocclaa
open Go.RowKit Reg Go.ChangeShapes

theorem begB_same (K : List Gd) : begB K K = true := by
  unfold begB
  rw [List.take_length]
  simp
theorem begB_eq {a K : List Gd} (hl : a.length = K.length) (h : begB a K = true) : a = K := by
  unfold begB at h
  rw [Bool.and_eq_true, decide_eq_true_iff, decide_eq_true_iff] at h
  rw [h.2, hl, List.take_length]
theorem other_list {K : List Gd} {x : El} (h : x.list ≠ K) : otherB K x = true := by
  unfold otherB
  rw [decide_eq_false h]
  simp
theorem other_line {K : List Gd} {x : El} (h : x.line ≠ K) : otherB K x = true := by
  unfold otherB
  rw [decide_eq_false h]
  simp
theorem other_none {K : List Gd} {x : El} (h1 : x.up = true) (h2 : x.list = K) (h3 : x.line = K) : otherB K x = false := by
  unfold otherB
  rw [h1, h2, h3]
  simp
theorem settled_no {es : List El} {i : Nat} (hi : i < es.length) (h : otherB (kn es) (nth es i) = true) : settledB es = false := by
  unfold settledB
  rw [Bool.and_eq_false_iff]
  right
  rw [Bool.not_eq_false', List.any_eq_true]
  exact ⟨i, List.mem_range.2 hi, h⟩
theorem settled_yes {es : List El} (h : ∀ j, j < es.length → otherB (kn es) (nth es j) = false) : settledB es = decide (prims es = 1) := by
  unfold settledB
  rw [List.any_eq_false.2 fun j hj => by rw [h j (List.mem_range.1 hj)]; decide]
  simp
set_option maxRecDepth 100000 in
set_option maxHeartbeats 2000000 in
theorem settledR_any (v : Value) (es : List El) (w : World) (hv : InS w v es) :
    Calls Try.prog 23 #[v] w fun e w' => e = .returned (.bool (settledB es)) ∧ Below w.heap.size w w' := by
  have hkn := knownR_any v es w hv
  obtain ⟨a', c', rfl, hm', hx'⟩ := hv.parts
  have hs1 := fun (i : Nat) (h1 : i < es.length) (h2 : otherB (kn es) (nth es i) = true) => settled_no h1 h2
  have hs2 := fun (h : ∀ j, j < es.length → otherB (kn es) (nth es j) = false) => settled_yes h
  unfold prims at hs2
  obtain ⟨res, hres⟩ : ∃ z, z = settledB es := ⟨_, rfl⟩
  rw [← hres] at hs1 hs2
  rw [← hres]
  obtain ⟨nn, hnn⟩ : ∃ z, z = es.length := ⟨_, rfl⟩
  rw [← hnn] at hx' hm' hs1 hs2 hkn
  rw [← hnn]
  obtain ⟨K, hK⟩ : ∃ z, z = kn es := ⟨_, rfl⟩
  rw [← hK] at hs1 hs2 hkn
  have HX' := Lib.hid hx'
  have HM := Lib.hid hm'
  have HS1 := Lib.hid hs1
  have HS2 := Lib.hid hs2
  have HKF := Lib.hid hkn
  clear hx' hs1 hs2 hres hnn hv hm' hkn hK
  go_enter Try.func23, Try.ntmps23
  go_wp2_with fail
  refine HKF.out.mono ?_
  rintro e w0 ⟨u, rfl, hu, hb⟩
  obtain ⟨ua, uc, rfl⟩ := hu.slice_
  have HU := Lib.hid hu
  have HB0 := Lib.hid hb
  clear hu hb HKF
  obtain ⟨nk, hnk⟩ : ∃ z, z = K.length := ⟨_, rfl⟩
  rw [← hnk] at HU
  rw [← hnk]
  have HNK := Lib.hid hnk
  clear hnk
  go_wp2_with fail
  go_loopw [4, 5] (fun s t wr => ∃ i : Nat, i ≤ nn ∧ s = .int .i64 ((cntP es (ups es i) : Nat) : Int) ∧ t = .int .i64 i ∧ Below w.heap.size w wr ∧ ∀ j, j < i → otherB K (nth es j) = false) (fun _ t _ => nn - (intOf t).toNat)
  case atStart => exact ⟨0, Nat.zero_le _, rfl, rfl, HB0.out, fun j hj => absurd hj (Nat.not_lt_zero j)⟩
  case round =>
    obtain ⟨i, hi, rfl, rfl, hb, hq⟩ := hrel
    have HB := Lib.hid hb
    have HP := Lib.hid hq
    have hsu := primsN_succ es i
    have hle := primsN_le es i
    obtain ⟨C, hC⟩ : ∃ z, z = cntP es (ups es i) := ⟨_, rfl⟩
    rw [← hC] at hsu hle
    rw [← hC]
    clear hb hq
    by_cases hin : i < nn
    · have i1 : (i : Int) < (nn : Int) := by omega
      obtain ⟨⟨g, off, rfl, hs⟩, hok⟩ := HX'.out i hin
      have hs1 := HS1.out i hin
      obtain ⟨x, hX⟩ : ∃ z, z = nth es i := ⟨_, rfl⟩
      rw [← hX] at hs hok hs1 hsu
      obtain ⟨s0, s1, s2, s3, s4, s5, s6, s7, s8⟩ := hs.keep HB.out
      have HOK := Lib.hid hok
      have HIN := Lib.hid hin
      have I9 := Lib.hid (show (i : Int) < 9223372036854775807 ∧ (C : Int) < 9223372036854775807 by have := HM.out; unfold maxLen at this; omega)
      have HS1 := Lib.hid hs1
      have HSU := Lib.hid hsu
      have HXX := Lib.hid hX
      have hok1 : InG w (.slice x.la x.line.length x.lc) x.line := hok.1
      have hok2 : InG w (.slice x.sa x.list.length x.sc) x.list := hok.2.1
      dsimp only [El.vl, El.vs, El.vt, El.vi] at s5 s6 s7 s8
      obtain ⟨n1, hn1⟩ : ∃ z, z = x.list.length := ⟨_, rfl⟩
      obtain ⟨n2, hn2⟩ : ∃ z, z = x.line.length := ⟨_, rfl⟩
      rw [← hn1] at s6 hok2
      rw [← hn2] at s5 hok1
      have HO1 := Lib.hid hok1
      have HO2 := Lib.hid hok2
      have HN1 := Lib.hid hn1
      have HN2 := Lib.hid hn2
      clear hs hok hs1 hsu hle hin hi hX hok1 hok2 hn1 hn2 hC
      by_cases hup : x.up = true
      case neg =>
        have hup2 : x.up = false := by simpa using hup
        rw [hup2] at s0
        have HRR := Lib.hid (HS1.out (by unfold otherB; rw [hup2]; rfl))
        have HB1 := Lib.hid (HB.out.trans (((Below.refl wr.heap.size wr).alloc (Nat.le_refl _) (Obj.cells #[.bool false, .bool x.prim, .int .u64 x.ep, .int .i64 x.bef, .bool x.leased, .slice x.la n2 x.lc, .slice x.sa n1 x.sc, .slice x.ta x.told.length x.tc, .slice x.ia x.il x.ic] 40)).mono HB.out.size))
        clear hup hup2
        go_wp2
        go_ret
        exact ⟨by rw [HRR.out]; rfl, HB1.out⟩
      case pos =>
      rw [hup] at s0
      have HUPX := Lib.hid hup
      have bx := Blk.new wr 40 #[.bool true, .bool x.prim, .int .u64 x.ep, .int .i64 x.bef, .bool x.leased, .slice x.la n2 x.lc, .slice x.sa n1 x.sc, .slice x.ta x.told.length x.tc, .slice x.ia x.il x.ic]
      have hba := (Below.refl wr.heap.size wr).alloc (Nat.le_refl _) (Obj.cells #[.bool true, .bool x.prim, .int .u64 x.ep, .int .i64 x.bef, .bool x.leased, .slice x.la n2 x.lc, .slice x.sa n1 x.sc, .slice x.ta x.told.length x.tc, .slice x.ia x.il x.ic] 40)
      have HBA := Lib.hid hba
      have HB1 := Lib.hid (HB.out.trans (hba.mono HB.out.size))
      have HBX := Lib.hid bx
      clear bx hba hup
      by_cases hl1 : n1 = nk
      case neg =>
        have d1 : decide (n1 = nk) = false := decide_eq_false hl1
        have HRR := Lib.hid (HS1.out (other_list fun e => hl1 (by rw [HN1.out, HNK.out, e])))
        go_wp2
        go_ret
        exact ⟨by rw [HRR.out]; rfl, HB1.out⟩
      case pos =>
      subst hl1
      go_wp2_with fail
      generalize wr.alloc (Obj.cells #[.bool true, .bool x.prim, .int .u64 x.ep, .int .i64 x.bef, .bool x.leased, .slice x.la n2 x.lc, .slice x.sa n1 x.sc, .slice x.ta x.told.length x.tc, .slice x.ia x.il x.ic] 40) = wx at *
      obtain ⟨qx, hqx⟩ : ∃ z, z = wr.heap.size := ⟨_, rfl⟩
      rw [← hqx] at HBX
      rw [← hqx]
      clear hqx s0 s1 s2 s3 s4 s5 s6 s7 s8
      refine (beginsR_any _ _ x.list K _ (HO2.out.keep HB1.out) (HU.out.keep HB1.out)).mono ?_
      rintro e w2 ⟨rfl, hb⟩
      have HB2 := Lib.hid (HB1.out.trans (hb.mono HB1.out.size))
      have HBX := Lib.hid (HBX.out.keep hb)
      clear hb HB1
      obtain ⟨b1, hb1⟩ : ∃ z, z = begB x.list K := ⟨_, rfl⟩
      rw [← hb1]
      have HB1E := Lib.hid hb1
      have c5 := HBX.out.cell 5
      have c1 := HBX.out.cell 1
      simp at c5 c1
      clear hb1
      cases b1 with
      | false =>
        have HRR := Lib.hid (HS1.out (other_list fun e => by have := HB1E.out; rw [e, begB_same] at this; cases this))
        go_wp2
        go_ret
        exact ⟨by rw [HRR.out]; rfl, HB2.out⟩
      | true =>
      have HLE := Lib.hid (begB_eq (by rw [← HN1.out, ← HNK.out]) HB1E.out.symm)
      by_cases hl2 : n2 = n1
      case neg =>
        have d1 : decide (n2 = n1) = false := decide_eq_false hl2
        have HRR := Lib.hid (HS1.out (other_line fun e => hl2 (by rw [HN2.out, HNK.out, e])))
        go_wp2
        go_ret
        exact ⟨by rw [HRR.out]; rfl, HB2.out⟩
      case pos =>
      subst hl2
      go_wp2_with fail
      refine (beginsR_any _ _ x.line K _ (HO1.out.keep HB2.out) (HU.out.keep HB2.out)).mono ?_
      rintro e w3 ⟨rfl, hb⟩
      have HB3 := Lib.hid (HB2.out.trans (hb.mono HB2.out.size))
      have HBX := Lib.hid (HBX.out.keep hb)
      clear hb HB2 c5 c1
      obtain ⟨b2, hb2⟩ : ∃ z, z = begB x.line K := ⟨_, rfl⟩
      rw [← hb2]
      have HB2E := Lib.hid hb2
      have c1 := HBX.out.cell 1
      simp at c1
      clear hb2
      cases b2 with
      | false =>
        have HRR := Lib.hid (HS1.out (other_line fun e => by have := HB2E.out; rw [e, begB_same] at this; cases this))
        go_wp2
        go_ret
        exact ⟨by rw [HRR.out]; rfl, HB3.out⟩
      | true =>
      have HLI := Lib.hid (begB_eq (by rw [← HN2.out, ← HNK.out]) HB2E.out.symm)
      have HBD := Lib.hid (show otherB K (nth es i) = false by rw [← HXX.out]; exact other_none HUPX.out HLE.out HLI.out)
      cases hp : x.prim with
      | false =>
        rw [hp] at c1
        have HSU := Lib.hid (show cntP es (ups es (i + 1)) = C by have := HSU.out; rw [HUPX.out, hp] at this; exact this)
        have i9 := I9.out.1
        clear hp
        go_wp2
        have hin := HIN.out
        refine ⟨⟨i + 1, by omega, by rw [HSU.out], by go_num, HB3.out, fun j hj => ?_⟩, by simp [intOf]; omega⟩
        rcases Nat.lt_succ_iff_lt_or_eq.1 hj with h | rfl
        · exact HP.out j h
        · exact HBD.out
      | true =>
        rw [hp] at c1
        have HSU := Lib.hid (show cntP es (ups es (i + 1)) = C + 1 by have := HSU.out; rw [HUPX.out, hp] at this; exact this)
        have i9 := I9.out.1
        have c9 := I9.out.2
        clear hp
        go_wp2
        have hin := HIN.out
        refine ⟨⟨i + 1, by omega, by rw [HSU.out]; go_num, by go_num, HB3.out, fun j hj => ?_⟩, by simp [intOf]; omega⟩
        rcases Nat.lt_succ_iff_lt_or_eq.1 hj with h | rfl
        · exact HP.out j h
        · exact HBD.out
    · obtain rfl : nn = i := by omega
      have HRR := Lib.hid (HS2.out HP.out)
      have hrr := HRR.out
      rw [← hC] at hrr
      have hd : decide (C = 1) = decide ((C : Int) = 1) := by simp only [decide_eq_decide]; omega
      rw [hd] at hrr
      have HRR := Lib.hid hrr
      clear hin hi hsu hle hC hrr hd
      go_wp2
      go_ret
      exact ⟨by rw [HRR.out]; rfl, HB.out⟩
end Go.Proofs.Yteplcpiamocclaa
