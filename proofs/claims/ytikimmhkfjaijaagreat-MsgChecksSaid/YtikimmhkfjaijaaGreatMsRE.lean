/-
  MESSAGES, THE REFERENCE: Encode (printed by wip/gen-msrd.py).
-/
import Derived.Test.YtikimmhkfjaijaaGreatMsRD
namespace Go.Proofs.YtikimmhkfjaijaaGreat
open Go.RowKit Reg Go.ChangeShapes

set_option maxRecDepth 100000 in
set_option maxHeartbeats 16000000 in
theorem rencode_any (w : World) (v : Value) (m : Ms) (hv : InMs w v m) : Calls Tryz.prog 6 #[v] w fun e w' => e = .returned (.tuple #[.string (encM m), .int .i64 (checkM m)]) ∧ Below w.heap.size w w' := by
  have HCHK := Lib.hid (fun w2 (h : Below w.heap.size w w2) => rcheck_any w2 v m (hv.keep h))
  have hmo := fun h => hv.ok h
  obtain ⟨ma, a1, a2, a3, c1, c2, c3, rfl, hone, hsz, hma, hE, hL, hC, hwf⟩ := ms_cells hv
  have hb := (Below.refl w.heap.size w).alloc (Nat.le_refl _) (Obj.cells ma 33)
  have hbk : Blk (w.alloc (.cells ma 33)) w.heap.size 33 (msA m (.slice a1 m.es.length c1) (.slice a2 m.l.l.length c2) (.slice a3 m.p.cs.length c3)) := by rw [hma]; exact Blk.new w _ _
  have HMA := Lib.hid (Blk.new w 33 ma)
  have HB := Lib.hid hb
  have HBK := Lib.hid hbk
  have HONE := Lib.hid hone
  have HSZ := Lib.hid hsz
  have HE := Lib.hid hE
  have HL := Lib.hid hL
  have HC := Lib.hid hC
  clear hma hv hone hsz hb hbk hE hL hC
  cases hck : checkB m with
  | false =>
    have e1 : checkM m = 2 := by unfold checkM; rw [hck]; rfl
    have e2 : encM m = ByteArray.empty := by unfold encM; rw [hck]; rfl
    rw [e1] at HCHK
    rw [e1, e2]
    clear e1 e2 hck hmo hwf
    go_enter Tryz.func6, Tryz.ntmps6
    go_wp2_with (first | refine wpList_wanted_run (by rfl) (.agg ma) (exec_load_blk 33 _ rfl w.heap.size rfl _ HMA.out Tryz.underlying33 rfl HSZ.out) ?_)
    refine (HCHK.out _ HB.out).mono ?_
    rintro e w2 ⟨rfl, hb⟩
    have HB2 := Lib.hid (HB.out.trans (hb.mono HB.out.size))
    clear hb
    go_wp2
    go_ret2
    exact ⟨rfl, HB2.out⟩
  | true =>
    have hm := hmo (checkB_may hck)
    have e1 : checkM m = 0 := by unfold checkM; rw [hck]; rfl
    have e2 := (enc_dec hm hck).2.2
    rw [e1] at HCHK
    rw [e1, e2]
    have hK := mayM_K hm.may
    obtain ⟨FIN, hF⟩ : ∃ F, F = bytesM m := ⟨_, rfl⟩
    rw [← hF]
    have HM := Lib.hid hm
    unfold bytesM bodyB at hF
    have HF := Lib.hid hF
    clear e1 e2 hck hmo hF hm
    have hck : 1 ≤ m.K ∧ m.K ≤ 7 := hK
    rcases (show m.K = 1 ∨ m.K = 2 ∨ m.K = 3 ∨ m.K = 4 ∨ m.K = 5 ∨ m.K = 6 ∨ m.K = 7 by omega) with hk | hk | hk | hk | hk | hk | hk
    · skip
      have hm := HM.out
      have hwf := hm.wf
      have ha := mayM_a hm.may (by omega)
      obtain ⟨L0, hL0⟩ : ∃ X : List UInt8, X = [] := ⟨_, rfl⟩
      have bL0 : L0.length ≤ 0 := by rw [hL0]; decide
      have n0 := nB_le ((1 : Int) : Int)
      obtain ⟨L1, hL1⟩ : ∃ X, X = L0 ++ nB (1 : Int) := ⟨_, rfl⟩
      have bL1 : L1.length ≤ 9 := by rw [hL1, List.length_append]; have := bL0; omega
      have C0 := Lib.hid (fun w => rpn L0 (1 : Int) w rfl (by have := bL0; omega))
      rw [← hL1] at C0
      have n1 := nB_le (m.T : Int)
      obtain ⟨L2, hL2⟩ : ∃ X, X = L1 ++ nB m.T := ⟨_, rfl⟩
      have bL2 : L2.length ≤ 18 := by rw [hL2, List.length_append]; have := bL1; omega
      have C1 := Lib.hid (fun w => rpn L1 m.T w hwf.T (by have := bL1; omega))
      rw [← hL2] at C1
      have n2 := nB_le (m.P : Int)
      obtain ⟨L3, hL3⟩ : ∃ X, X = L2 ++ nB m.P := ⟨_, rfl⟩
      have bL3 : L3.length ≤ 27 := by rw [hL3, List.length_append]; have := bL2; omega
      have C2 := Lib.hid (fun w => rpn L2 m.P w (small_u64 ⟨ha.P.1, by have := ha.P.2; omega⟩).1 (by have := bL2; omega))
      rw [← hL3] at C2
      have i2 := (small_u64 ⟨(ha.P).1, by have := (ha.P).2; omega⟩).2
      have n3 := nB_le (m.PT : Int)
      obtain ⟨L4, hL4⟩ : ∃ X, X = L3 ++ nB m.PT := ⟨_, rfl⟩
      have bL4 : L4.length ≤ 36 := by rw [hL4, List.length_append]; have := bL3; omega
      have C3 := Lib.hid (fun w => rpn L3 m.PT w hwf.PT (by have := bL3; omega))
      rw [← hL4] at C3
      have CS := Lib.hid (fun w => rseal L4 w (by have := bL4; omega))
      have HFIN : Hid (FIN = L4) := Lib.hid (by
        have h9 := HF.out
        rw [hk, if_pos rfl] at h9
        unfold askB at h9
        rw [h9, hL4, hL3, hL2, hL1]
        rw [hL0]
        simp only [List.append_assoc, List.nil_append])
      have HK := Lib.hid hk
      clear HF hwf hm hck hK bL0 bL1 bL2 bL3 bL4 hL1 hL2 hL3 hL4 n0 n1 n2 n3
      clear ha
      subst hL0
      clear hk
      go_enter Tryz.func6, Tryz.ntmps6
      go_wp2_with (first | refine wpList_wanted_run (by rfl) (.agg ma) (exec_load_blk 33 _ rfl w.heap.size rfl _ HMA.out Tryz.underlying33 rfl HSZ.out) ?_)
      refine (HCHK.out _ HB.out).mono ?_
      rintro e w2 ⟨rfl, hb⟩
      replace HB := Lib.hid (HB.out.trans (hb.mono HB.out.size))
      replace HBK := Lib.hid (HBK.out.keep hb)
      clear hb HMA HCHK
      have p0 : (w2).cell? ⟨w.heap.size, 0, none⟩ = some (.int .i64 m.K) := by rw [HBK.out.cell]; rfl
      rw [HK.out] at p0
      go_wp2_with fail
      refine (C0.out _).mono ?_
      rintro e w3 ⟨rfl, hb⟩
      replace HB := Lib.hid (HB.out.trans (hb.mono HB.out.size))
      replace HBK := Lib.hid (HBK.out.keep hb)
      clear hb p0
      have p0 : (w3).cell? ⟨w.heap.size, 0, none⟩ = some (.int .i64 m.K) := by rw [HBK.out.cell]; rfl
      rw [HK.out] at p0
      have p1 : (w3).cell? ⟨w.heap.size, 1, none⟩ = some (.int .u64 m.T) := by rw [HBK.out.cell]; rfl
      go_wp2_with fail
      refine (C1.out _).mono ?_
      rintro e w4 ⟨rfl, hb⟩
      replace HB := Lib.hid (HB.out.trans (hb.mono HB.out.size))
      replace HBK := Lib.hid (HBK.out.keep hb)
      clear hb p0 p1
      have p0 : (w4).cell? ⟨w.heap.size, 0, none⟩ = some (.int .i64 m.K) := by rw [HBK.out.cell]; rfl
      rw [HK.out] at p0
      have p2 : (w4).cell? ⟨w.heap.size, 2, none⟩ = some (.int .i64 m.P) := by rw [HBK.out.cell]; rfl
      go_wp2_with fail
      refine (C2.out _).mono ?_
      rintro e w5 ⟨rfl, hb⟩
      replace HB := Lib.hid (HB.out.trans (hb.mono HB.out.size))
      replace HBK := Lib.hid (HBK.out.keep hb)
      clear hb p0 p2 i2
      have p0 : (w5).cell? ⟨w.heap.size, 0, none⟩ = some (.int .i64 m.K) := by rw [HBK.out.cell]; rfl
      rw [HK.out] at p0
      have p3 : (w5).cell? ⟨w.heap.size, 3, none⟩ = some (.int .u64 m.PT) := by rw [HBK.out.cell]; rfl
      go_wp2_with fail
      refine (C3.out _).mono ?_
      rintro e w6 ⟨rfl, hb⟩
      replace HB := Lib.hid (HB.out.trans (hb.mono HB.out.size))
      replace HBK := Lib.hid (HBK.out.keep hb)
      clear hb p0 p3
      have p0 : (w6).cell? ⟨w.heap.size, 0, none⟩ = some (.int .i64 m.K) := by rw [HBK.out.cell]; rfl
      rw [HK.out] at p0
      go_wp2_with fail
      refine (CS.out _).mono ?_
      rintro e w7 ⟨rfl, hb⟩
      replace HB := Lib.hid (HB.out.trans (hb.mono HB.out.size))
      replace HBK := Lib.hid (HBK.out.keep hb)
      clear hb p0
      go_wp2
      go_ret2
      exact ⟨by rw [HFIN.out]; rfl, HB.out⟩
    · skip
      have hm := HM.out
      have hwf := hm.wf
      have ha := mayM_a hm.may (by omega)
      obtain ⟨L0, hL0⟩ : ∃ X : List UInt8, X = [] := ⟨_, rfl⟩
      have bL0 : L0.length ≤ 0 := by rw [hL0]; decide
      have n0 := nB_le ((2 : Int) : Int)
      obtain ⟨L1, hL1⟩ : ∃ X, X = L0 ++ nB (2 : Int) := ⟨_, rfl⟩
      have bL1 : L1.length ≤ 9 := by rw [hL1, List.length_append]; have := bL0; omega
      have C0 := Lib.hid (fun w => rpn L0 (2 : Int) w rfl (by have := bL0; omega))
      rw [← hL1] at C0
      have n1 := nB_le (m.T : Int)
      obtain ⟨L2, hL2⟩ : ∃ X, X = L1 ++ nB m.T := ⟨_, rfl⟩
      have bL2 : L2.length ≤ 18 := by rw [hL2, List.length_append]; have := bL1; omega
      have C1 := Lib.hid (fun w => rpn L1 m.T w hwf.T (by have := bL1; omega))
      rw [← hL2] at C1
      have n2 := putNum_le (b01 m.Y)
      obtain ⟨L3, hL3⟩ : ∃ X, X = L2 ++ Wire.putNum (b01 m.Y) := ⟨_, rfl⟩
      have bL3 : L3.length ≤ 27 := by rw [hL3, List.length_append]; have := bL2; omega
      have C2 := Lib.hid (fun w => rpn L2 ((b01 m.Y : Nat) : Int) w (b01_u64 m.Y) (by have := bL2; omega))
      rw [show L2 ++ nB ((b01 m.Y : Nat) : Int) = L3 from hL3.symm] at C2
      have CS := Lib.hid (fun w => rseal L3 w (by have := bL3; omega))
      have HFIN : Hid (FIN = L3) := Lib.hid (by
        have h9 := HF.out
        rw [hk, if_neg (by decide), if_pos rfl] at h9
        unfold voteB at h9
        rw [h9, hL3, hL2, hL1]
        rw [hL0]
        simp only [List.append_assoc, List.nil_append])
      have HK := Lib.hid hk
      clear HF hwf hm hck hK bL0 bL1 bL2 bL3 hL1 hL2 hL3 n0 n1 n2
      clear ha
      subst hL0
      clear hk
      go_enter Tryz.func6, Tryz.ntmps6
      go_wp2_with (first | refine wpList_wanted_run (by rfl) (.agg ma) (exec_load_blk 33 _ rfl w.heap.size rfl _ HMA.out Tryz.underlying33 rfl HSZ.out) ?_)
      refine (HCHK.out _ HB.out).mono ?_
      rintro e w2 ⟨rfl, hb⟩
      replace HB := Lib.hid (HB.out.trans (hb.mono HB.out.size))
      replace HBK := Lib.hid (HBK.out.keep hb)
      clear hb HMA HCHK
      have p0 : (w2).cell? ⟨w.heap.size, 0, none⟩ = some (.int .i64 m.K) := by rw [HBK.out.cell]; rfl
      rw [HK.out] at p0
      go_wp2_with fail
      refine (C0.out _).mono ?_
      rintro e w3 ⟨rfl, hb⟩
      replace HB := Lib.hid (HB.out.trans (hb.mono HB.out.size))
      replace HBK := Lib.hid (HBK.out.keep hb)
      clear hb p0
      have p0 : (w3).cell? ⟨w.heap.size, 0, none⟩ = some (.int .i64 m.K) := by rw [HBK.out.cell]; rfl
      rw [HK.out] at p0
      have p1 : (w3).cell? ⟨w.heap.size, 1, none⟩ = some (.int .u64 m.T) := by rw [HBK.out.cell]; rfl
      go_wp2_with fail
      refine (C1.out _).mono ?_
      rintro e w4 ⟨rfl, hb⟩
      replace HB := Lib.hid (HB.out.trans (hb.mono HB.out.size))
      replace HBK := Lib.hid (HBK.out.keep hb)
      clear hb p0 p1
      have p0 : (w4).cell? ⟨w.heap.size, 0, none⟩ = some (.int .i64 m.K) := by rw [HBK.out.cell]; rfl
      rw [HK.out] at p0
      have p6 : (w4).cell? ⟨w.heap.size, 6, none⟩ = some (.bool m.Y) := by rw [HBK.out.cell]; rfl
      go_wp2_with fail
      refine (rbit_any _ _).mono ?_
      rintro e w41 ⟨rfl, rfl⟩
      go_wp2_with fail
      refine (C2.out _).mono ?_
      rintro e w5 ⟨rfl, hb⟩
      replace HB := Lib.hid (HB.out.trans (hb.mono HB.out.size))
      replace HBK := Lib.hid (HBK.out.keep hb)
      clear hb p0 p6
      have p0 : (w5).cell? ⟨w.heap.size, 0, none⟩ = some (.int .i64 m.K) := by rw [HBK.out.cell]; rfl
      rw [HK.out] at p0
      go_wp2_with fail
      refine (CS.out _).mono ?_
      rintro e w6 ⟨rfl, hb⟩
      replace HB := Lib.hid (HB.out.trans (hb.mono HB.out.size))
      replace HBK := Lib.hid (HBK.out.keep hb)
      clear hb p0
      go_wp2
      go_ret2
      exact ⟨by rw [HFIN.out]; rfl, HB.out⟩
    · skip
      have hm := HM.out
      have hwf := hm.wf
      have ha := mayM_a hm.may (by omega)
      obtain ⟨L0, hL0⟩ : ∃ X : List UInt8, X = [] := ⟨_, rfl⟩
      have bL0 : L0.length ≤ 0 := by rw [hL0]; decide
      have n0 := nB_le ((3 : Int) : Int)
      obtain ⟨L1, hL1⟩ : ∃ X, X = L0 ++ nB (3 : Int) := ⟨_, rfl⟩
      have bL1 : L1.length ≤ 9 := by rw [hL1, List.length_append]; have := bL0; omega
      have C0 := Lib.hid (fun w => rpn L0 (3 : Int) w rfl (by have := bL0; omega))
      rw [← hL1] at C0
      have n1 := nB_le (m.T : Int)
      obtain ⟨L2, hL2⟩ : ∃ X, X = L1 ++ nB m.T := ⟨_, rfl⟩
      have bL2 : L2.length ≤ 18 := by rw [hL2, List.length_append]; have := bL1; omega
      have C1 := Lib.hid (fun w => rpn L1 m.T w hwf.T (by have := bL1; omega))
      rw [← hL2] at C1
      have n2 := nB_le (m.P : Int)
      obtain ⟨L3, hL3⟩ : ∃ X, X = L2 ++ nB m.P := ⟨_, rfl⟩
      have bL3 : L3.length ≤ 27 := by rw [hL3, List.length_append]; have := bL2; omega
      have C2 := Lib.hid (fun w => rpn L2 m.P w (small_u64 ⟨ha.P.1, by have := ha.P.2; omega⟩).1 (by have := bL2; omega))
      rw [← hL3] at C2
      have i2 := (small_u64 ⟨(ha.P).1, by have := (ha.P).2; omega⟩).2
      have n3 := nB_le (m.PT : Int)
      obtain ⟨L4, hL4⟩ : ∃ X, X = L3 ++ nB m.PT := ⟨_, rfl⟩
      have bL4 : L4.length ≤ 36 := by rw [hL4, List.length_append]; have := bL3; omega
      have C3 := Lib.hid (fun w => rpn L3 m.PT w hwf.PT (by have := bL3; omega))
      rw [← hL4] at C3
      have n4 := nB_le ((m.es.length : Nat) : Int)
      obtain ⟨L5, hL5⟩ : ∃ X, X = L4 ++ nB (m.es.length : Nat) := ⟨_, rfl⟩
      have bL5 : L5.length ≤ 45 := by rw [hL5, List.length_append]; have := bL4; omega
      have C4 := Lib.hid (fun w => rpn L4 (m.es.length : Nat) w (small_u64 ⟨by omega, by have := ha.len; omega⟩).1 (by have := bL4; omega))
      rw [← hL5] at C4
      have i4 := (small_u64 (x := (m.es.length : Nat)) ⟨by omega, by have := ha.len; omega⟩).2
      have n5 := flat_le enB 36 enB_le m.es
      have ln := ha.len
      obtain ⟨L6, hL6⟩ : ∃ X, X = L5 ++ m.es.flatMap enB := ⟨_, rfl⟩
      have bL6 : L6.length ≤ 345 := by rw [hL6, List.length_append]; have := bL5; omega
      obtain ⟨S, hS⟩ : ∃ S : Nat → List UInt8, S = fun k => L5 ++ (m.es.take k).flatMap enB := ⟨_, rfl⟩
      have S0 : S 0 = L5 := by rw [hS]; simp
      have SN : S m.es.length = L6 := by rw [hS, hL6]; dsimp only; rw [List.take_length]
      have hwe : ∀ k, k < m.es.length → wfE (m.es.getD k en0) ∧ 1 ≤ (m.es.getD k en0).K ∧ (m.es.getD k en0).K ≤ 3 := fun k hk => by
        rw [List.getD_eq_getElem?_getD, List.getElem?_eq_getElem hk]
        exact ⟨hm.es _ (List.getElem_mem hk), logC_kinds ha.log _ (List.getElem_mem hk)⟩
      have hlen : ∀ k, (S k).length ≤ 40000 := fun k => by
        rw [hS]
        dsimp only
        rw [List.length_append]
        have h1 := flat_le enB 36 enB_le (m.es.take k)
        rw [List.length_take] at h1
        have := bL5
        omega
      have SE : ∀ k, k < m.es.length → (∀ w, Calls Tryz.prog 16 #[.string (strOf (S k)), .int .u64 (m.es.getD k en0).T] w fun e w' => e = .returned (.string (strOf (S k ++ nB (m.es.getD k en0).T))) ∧ Below w.heap.size w w') ∧
          (∀ w, Calls Tryz.prog 16 #[.string (strOf (S k ++ nB (m.es.getD k en0).T)), .int .u64 (m.es.getD k en0).K] w fun e w' => e = .returned (.string (strOf (S k ++ nB (m.es.getD k en0).T ++ nB (m.es.getD k en0).K))) ∧ Below w.heap.size w w') ∧
          (∀ w, Calls Tryz.prog 19 #[.string (strOf (S k ++ nB (m.es.getD k en0).T ++ nB (m.es.getD k en0).K)), .agg #[.int .u64 (m.es.getD k en0).g.1, .int .u64 (m.es.getD k en0).g.2]] w fun e w' => e = .returned (.string (strOf (S (k + 1)))) ∧ Below w.heap.size w w') ∧
          IntKind.u64.wrap (m.es.getD k en0).K = (m.es.getD k en0).K := fun k hk => by
        obtain ⟨h1, h2, h3⟩ := hwe k hk
        have l1 := hlen k
        have l2 := nB_le (m.es.getD k en0).T
        have l3 := nB_le (m.es.getD k en0).K
        have hs := small_u64 (x := (m.es.getD k en0).K) ⟨by omega, by omega⟩
        refine ⟨fun w => rpn _ _ w h1.1 (by omega), fun w => rpn _ _ w hs.1 (by rw [List.length_append]; omega), fun w => ?_, hs.2⟩
        have e : S (k + 1) = S k ++ nB (m.es.getD k en0).T ++ nB (m.es.getD k en0).K ++ gdB (m.es.getD k en0).g := by
          rw [hS]
          dsimp only
          rw [take_flat enB en0 m.es k hk]
          unfold enB
          simp only [List.append_assoc]
        rw [e]
        exact rguid_any _ _ w h1.2.2 (by rw [List.length_append, List.length_append]; omega)
      have HSE := Lib.hid SE
      have HS0 := Lib.hid S0
      have HSN := Lib.hid SN
      have HLN := Lib.hid ha.len
      obtain ⟨aa, cc, hac, -, -, hxx⟩ := HE.out.open_
      simp only [Value.slice.injEq, true_and] at hac
      obtain ⟨rfl, rfl⟩ := hac
      have HX := Lib.hid hxx
      clear hS S0 SN hwe hlen SE hxx ln
      have n6 := nB_le (m.C : Int)
      obtain ⟨L7, hL7⟩ : ∃ X, X = L6 ++ nB m.C := ⟨_, rfl⟩
      have bL7 : L7.length ≤ 354 := by rw [hL7, List.length_append]; have := bL6; omega
      have C6 := Lib.hid (fun w => rpn L6 m.C w (small_u64 ⟨ha.C.1, by have := ha.C.2; omega⟩).1 (by have := bL6; omega))
      rw [← hL7] at C6
      have i6 := (small_u64 ⟨(ha.C).1, by have := (ha.C).2; omega⟩).2
      have n7 := nB_le (m.S : Int)
      obtain ⟨L8, hL8⟩ : ∃ X, X = L7 ++ nB m.S := ⟨_, rfl⟩
      have bL8 : L8.length ≤ 363 := by rw [hL8, List.length_append]; have := bL7; omega
      have C7 := Lib.hid (fun w => rpn L7 m.S w (small_u64 ⟨ha.S, upto_i64 hwf.S⟩).1 (by have := bL7; omega))
      rw [← hL8] at C7
      have i7 := (small_u64 ⟨ha.S, upto_i64 hwf.S⟩).2
      have CS := Lib.hid (fun w => rseal L8 w (by have := bL8; omega))
      have HFIN : Hid (FIN = L8) := Lib.hid (by
        have h9 := HF.out
        rw [hk, if_neg (by decide), if_neg (by decide), if_pos rfl] at h9
        unfold appsB askB entsB at h9
        rw [h9, hL8, hL7, hL6, hL5, hL4, hL3, hL2, hL1]
        rw [hL0]
        simp only [List.append_assoc, List.nil_append])
      have HK := Lib.hid hk
      clear HF hwf hm hck hK bL0 bL1 bL2 bL3 bL4 bL5 bL6 bL7 bL8 hL1 hL2 hL3 hL4 hL5 hL6 hL7 hL8 n0 n1 n2 n3 n4 n5 n6 n7
      clear ha
      subst hL0
      generalize hZ : (fun j => (m.es.getD j en0)) = Z at *
      have g1 : ∀ j, m.es.getD j en0 = Z j := fun j => by subst hZ; rfl
      simp only [g1] at HX HSE
      clear hZ g1
      generalize m.es.length = n at *
      clear hk
      go_enter Tryz.func6, Tryz.ntmps6
      go_wp2_with (first | refine wpList_wanted_run (by rfl) (.agg ma) (exec_load_blk 33 _ rfl w.heap.size rfl _ HMA.out Tryz.underlying33 rfl HSZ.out) ?_)
      refine (HCHK.out _ HB.out).mono ?_
      rintro e w2 ⟨rfl, hb⟩
      replace HB := Lib.hid (HB.out.trans (hb.mono HB.out.size))
      replace HBK := Lib.hid (HBK.out.keep hb)
      clear hb HMA HCHK
      have p0 : (w2).cell? ⟨w.heap.size, 0, none⟩ = some (.int .i64 m.K) := by rw [HBK.out.cell]; rfl
      rw [HK.out] at p0
      go_wp2_with fail
      refine (C0.out _).mono ?_
      rintro e w3 ⟨rfl, hb⟩
      replace HB := Lib.hid (HB.out.trans (hb.mono HB.out.size))
      replace HBK := Lib.hid (HBK.out.keep hb)
      clear hb p0
      have p0 : (w3).cell? ⟨w.heap.size, 0, none⟩ = some (.int .i64 m.K) := by rw [HBK.out.cell]; rfl
      rw [HK.out] at p0
      have p1 : (w3).cell? ⟨w.heap.size, 1, none⟩ = some (.int .u64 m.T) := by rw [HBK.out.cell]; rfl
      go_wp2_with fail
      refine (C1.out _).mono ?_
      rintro e w4 ⟨rfl, hb⟩
      replace HB := Lib.hid (HB.out.trans (hb.mono HB.out.size))
      replace HBK := Lib.hid (HBK.out.keep hb)
      clear hb p0 p1
      have p0 : (w4).cell? ⟨w.heap.size, 0, none⟩ = some (.int .i64 m.K) := by rw [HBK.out.cell]; rfl
      rw [HK.out] at p0
      have p2 : (w4).cell? ⟨w.heap.size, 2, none⟩ = some (.int .i64 m.P) := by rw [HBK.out.cell]; rfl
      go_wp2_with fail
      refine (C2.out _).mono ?_
      rintro e w5 ⟨rfl, hb⟩
      replace HB := Lib.hid (HB.out.trans (hb.mono HB.out.size))
      replace HBK := Lib.hid (HBK.out.keep hb)
      clear hb p0 p2 i2
      have p0 : (w5).cell? ⟨w.heap.size, 0, none⟩ = some (.int .i64 m.K) := by rw [HBK.out.cell]; rfl
      rw [HK.out] at p0
      have p3 : (w5).cell? ⟨w.heap.size, 3, none⟩ = some (.int .u64 m.PT) := by rw [HBK.out.cell]; rfl
      go_wp2_with fail
      refine (C3.out _).mono ?_
      rintro e w6 ⟨rfl, hb⟩
      replace HB := Lib.hid (HB.out.trans (hb.mono HB.out.size))
      replace HBK := Lib.hid (HBK.out.keep hb)
      clear hb p0 p3
      have p0 : (w6).cell? ⟨w.heap.size, 0, none⟩ = some (.int .i64 m.K) := by rw [HBK.out.cell]; rfl
      rw [HK.out] at p0
      have p4 : (w6).cell? ⟨w.heap.size, 4, none⟩ = some (.slice a1 n c1) := by rw [HBK.out.cell]; rfl
      go_wp2_with fail
      refine (C4.out _).mono ?_
      rintro e w7 ⟨rfl, hb⟩
      replace HB := Lib.hid (HB.out.trans (hb.mono HB.out.size))
      replace HBK := Lib.hid (HBK.out.keep hb)
      clear hb p0 p4 i4
      have p0 : (w7).cell? ⟨w.heap.size, 0, none⟩ = some (.int .i64 m.K) := by rw [HBK.out.cell]; rfl
      rw [HK.out] at p0
      have p4 : (w7).cell? ⟨w.heap.size, 4, none⟩ = some (.slice a1 n c1) := by rw [HBK.out.cell]; rfl
      rw [← HS0.out]
      go_wp2_with fail
      clear p0 p4
      go_loopw [5, 8] (fun s i wr => ∃ k : Nat, k ≤ n ∧ s = .string (strOf (S k)) ∧ i = .int .i64 k ∧ Below w.heap.size w wr ∧ Blk wr w.heap.size 33 (msA m (.slice a1 n c1) (.slice a2 m.l.l.length c2) (.slice a3 m.p.cs.length c3))) (fun _ i _ => n - (intOf i).toNat)
      case atStart => exact ⟨0, Nat.zero_le _, rfl, rfl, HB.out, HBK.out⟩
      case round =>
        obtain ⟨k, hk, rfl, rfl, hb, hbk⟩ := hrel
        clear HB HBK
        have HB := Lib.hid hb
        have HBK := Lib.hid hbk
        clear hb hbk
        have p4 : wr.cell? ⟨w.heap.size, 4, none⟩ = some (.slice a1 n c1) := by rw [HBK.out.cell]; rfl
        by_cases hkn : k < n
        · obtain ⟨g, off, rfl, hc, hd, he, hf⟩ := HX.out k hkn
          have i1 : (k : Int) < (n : Int) := by omega
          obtain ⟨s1, s2, s3, s4⟩ := HSE.out k hkn
          have HKN := Lib.hid hkn
          have I9 := Lib.hid (show wrap64 ((k : Int) + 1) = (k : Int) + 1 from IntWalk.wrap64_in _ (by have := HLN.out; omega))
          clear hkn hk
          generalize Z k = z at *
          obtain ⟨z1, z2, z3, z4⟩ := z
          dsimp only at hc hd he hf s1 s2 s3 s4
          generalize S k ++ nB z1 = SA at *
          generalize SA ++ nB z2 = SB at *
          have H1 := Lib.hid s1
          have H2 := Lib.hid s2
          have H3 := Lib.hid s3
          clear s1 s2 s3
          have c1 := cell_later HB.out hc
          go_wp2_with fail
          refine (H1.out _).mono ?_
          rintro e w20 ⟨rfl, hb⟩
          replace HB := Lib.hid (HB.out.trans (hb.mono HB.out.size))
          replace HBK := Lib.hid (HBK.out.keep hb)
          clear hb c1 p4
          have p4 : w20.cell? ⟨w.heap.size, 4, none⟩ = some (.slice (some ⟨g, off, none⟩) n c1) := by rw [HBK.out.cell]; rfl
          have c2 := cell_later HB.out hd
          go_wp2_with fail
          refine (H2.out _).mono ?_
          rintro e w21 ⟨rfl, hb⟩
          replace HB := Lib.hid (HB.out.trans (hb.mono HB.out.size))
          replace HBK := Lib.hid (HBK.out.keep hb)
          clear hb c2 p4 s4
          have p4 : w21.cell? ⟨w.heap.size, 4, none⟩ = some (.slice (some ⟨g, off, none⟩) n c1) := by rw [HBK.out.cell]; rfl
          have c3 := cell_later HB.out he
          have c4 := cell_later HB.out hf
          go_wp2_with fail
          refine (H3.out _).mono ?_
          rintro e w22 ⟨rfl, hb⟩
          replace HB := Lib.hid (HB.out.trans (hb.mono HB.out.size))
          replace HBK := Lib.hid (HBK.out.keep hb)
          clear hb c3 c4 p4 hc hd he hf
          go_wp2
          rw [I9.out]
          exact ⟨⟨k + 1, HKN.out, rfl, rfl, HB.out, HBK.out⟩, meas_succ HKN.out⟩
        · obtain rfl : k = n := by omega
          clear hkn hk
          rw [HSN.out]
          have p0 : (wr).cell? ⟨w.heap.size, 0, none⟩ = some (.int .i64 m.K) := by rw [HBK.out.cell]; rfl
          rw [HK.out] at p0
          have p5 : (wr).cell? ⟨w.heap.size, 5, none⟩ = some (.int .i64 m.C) := by rw [HBK.out.cell]; rfl
          go_wp2_with fail
          refine (C6.out _).mono ?_
          rintro e w8 ⟨rfl, hb⟩
          replace HB := Lib.hid (HB.out.trans (hb.mono HB.out.size))
          replace HBK := Lib.hid (HBK.out.keep hb)
          clear hb p0 p5 p4 i6
          have p0 : (w8).cell? ⟨w.heap.size, 0, none⟩ = some (.int .i64 m.K) := by rw [HBK.out.cell]; rfl
          rw [HK.out] at p0
          have p8 : (w8).cell? ⟨w.heap.size, 8, none⟩ = some (.int .i64 m.S) := by rw [HBK.out.cell]; rfl
          go_wp2_with fail
          refine (C7.out _).mono ?_
          rintro e w9 ⟨rfl, hb⟩
          replace HB := Lib.hid (HB.out.trans (hb.mono HB.out.size))
          replace HBK := Lib.hid (HBK.out.keep hb)
          clear hb p0 p8 i7
          have p0 : (w9).cell? ⟨w.heap.size, 0, none⟩ = some (.int .i64 m.K) := by rw [HBK.out.cell]; rfl
          rw [HK.out] at p0
          go_wp2_with fail
          refine (CS.out _).mono ?_
          rintro e w10 ⟨rfl, hb⟩
          replace HB := Lib.hid (HB.out.trans (hb.mono HB.out.size))
          replace HBK := Lib.hid (HBK.out.keep hb)
          clear hb p0
          go_wp2
          go_ret2
          exact ⟨by rw [HFIN.out]; rfl, HB.out⟩
    · skip
      have hm := HM.out
      have hwf := hm.wf
      have ha := mayM_a hm.may (by omega)
      obtain ⟨L0, hL0⟩ : ∃ X : List UInt8, X = [] := ⟨_, rfl⟩
      have bL0 : L0.length ≤ 0 := by rw [hL0]; decide
      have n0 := nB_le ((4 : Int) : Int)
      obtain ⟨L1, hL1⟩ : ∃ X, X = L0 ++ nB (4 : Int) := ⟨_, rfl⟩
      have bL1 : L1.length ≤ 9 := by rw [hL1, List.length_append]; have := bL0; omega
      have C0 := Lib.hid (fun w => rpn L0 (4 : Int) w rfl (by have := bL0; omega))
      rw [← hL1] at C0
      have n1 := nB_le (m.T : Int)
      obtain ⟨L2, hL2⟩ : ∃ X, X = L1 ++ nB m.T := ⟨_, rfl⟩
      have bL2 : L2.length ≤ 18 := by rw [hL2, List.length_append]; have := bL1; omega
      have C1 := Lib.hid (fun w => rpn L1 m.T w hwf.T (by have := bL1; omega))
      rw [← hL2] at C1
      have n2 := putNum_le (b01 m.Y)
      obtain ⟨L3, hL3⟩ : ∃ X, X = L2 ++ Wire.putNum (b01 m.Y) := ⟨_, rfl⟩
      have bL3 : L3.length ≤ 27 := by rw [hL3, List.length_append]; have := bL2; omega
      have C2 := Lib.hid (fun w => rpn L2 ((b01 m.Y : Nat) : Int) w (b01_u64 m.Y) (by have := bL2; omega))
      rw [show L2 ++ nB ((b01 m.Y : Nat) : Int) = L3 from hL3.symm] at C2
      have n3 := nB_le (m.M : Int)
      obtain ⟨L4, hL4⟩ : ∃ X, X = L3 ++ nB m.M := ⟨_, rfl⟩
      have bL4 : L4.length ≤ 36 := by rw [hL4, List.length_append]; have := bL3; omega
      have C3 := Lib.hid (fun w => rpn L3 m.M w (small_u64 ⟨ha.M.1, by have := ha.M.2; omega⟩).1 (by have := bL3; omega))
      rw [← hL4] at C3
      have i3 := (small_u64 ⟨(ha.M).1, by have := (ha.M).2; omega⟩).2
      have n4 := nB_le (m.S : Int)
      obtain ⟨L5, hL5⟩ : ∃ X, X = L4 ++ nB m.S := ⟨_, rfl⟩
      have bL5 : L5.length ≤ 45 := by rw [hL5, List.length_append]; have := bL4; omega
      have C4 := Lib.hid (fun w => rpn L4 m.S w (small_u64 ⟨ha.S, upto_i64 hwf.S⟩).1 (by have := bL4; omega))
      rw [← hL5] at C4
      have i4 := (small_u64 ⟨ha.S, upto_i64 hwf.S⟩).2
      have CS := Lib.hid (fun w => rseal L5 w (by have := bL5; omega))
      have HFIN : Hid (FIN = L5) := Lib.hid (by
        have h9 := HF.out
        rw [hk, if_neg (by decide), if_neg (by decide), if_neg (by decide), if_pos rfl] at h9
        unfold appdB voteB at h9
        rw [h9, hL5, hL4, hL3, hL2, hL1]
        rw [hL0]
        simp only [List.append_assoc, List.nil_append])
      have HK := Lib.hid hk
      clear HF hwf hm hck hK bL0 bL1 bL2 bL3 bL4 bL5 hL1 hL2 hL3 hL4 hL5 n0 n1 n2 n3 n4
      clear ha
      subst hL0
      clear hk
      go_enter Tryz.func6, Tryz.ntmps6
      go_wp2_with (first | refine wpList_wanted_run (by rfl) (.agg ma) (exec_load_blk 33 _ rfl w.heap.size rfl _ HMA.out Tryz.underlying33 rfl HSZ.out) ?_)
      refine (HCHK.out _ HB.out).mono ?_
      rintro e w2 ⟨rfl, hb⟩
      replace HB := Lib.hid (HB.out.trans (hb.mono HB.out.size))
      replace HBK := Lib.hid (HBK.out.keep hb)
      clear hb HMA HCHK
      have p0 : (w2).cell? ⟨w.heap.size, 0, none⟩ = some (.int .i64 m.K) := by rw [HBK.out.cell]; rfl
      rw [HK.out] at p0
      go_wp2_with fail
      refine (C0.out _).mono ?_
      rintro e w3 ⟨rfl, hb⟩
      replace HB := Lib.hid (HB.out.trans (hb.mono HB.out.size))
      replace HBK := Lib.hid (HBK.out.keep hb)
      clear hb p0
      have p0 : (w3).cell? ⟨w.heap.size, 0, none⟩ = some (.int .i64 m.K) := by rw [HBK.out.cell]; rfl
      rw [HK.out] at p0
      have p1 : (w3).cell? ⟨w.heap.size, 1, none⟩ = some (.int .u64 m.T) := by rw [HBK.out.cell]; rfl
      go_wp2_with fail
      refine (C1.out _).mono ?_
      rintro e w4 ⟨rfl, hb⟩
      replace HB := Lib.hid (HB.out.trans (hb.mono HB.out.size))
      replace HBK := Lib.hid (HBK.out.keep hb)
      clear hb p0 p1
      have p0 : (w4).cell? ⟨w.heap.size, 0, none⟩ = some (.int .i64 m.K) := by rw [HBK.out.cell]; rfl
      rw [HK.out] at p0
      have p6 : (w4).cell? ⟨w.heap.size, 6, none⟩ = some (.bool m.Y) := by rw [HBK.out.cell]; rfl
      go_wp2_with fail
      refine (rbit_any _ _).mono ?_
      rintro e w41 ⟨rfl, rfl⟩
      go_wp2_with fail
      refine (C2.out _).mono ?_
      rintro e w5 ⟨rfl, hb⟩
      replace HB := Lib.hid (HB.out.trans (hb.mono HB.out.size))
      replace HBK := Lib.hid (HBK.out.keep hb)
      clear hb p0 p6
      have p0 : (w5).cell? ⟨w.heap.size, 0, none⟩ = some (.int .i64 m.K) := by rw [HBK.out.cell]; rfl
      rw [HK.out] at p0
      have p7 : (w5).cell? ⟨w.heap.size, 7, none⟩ = some (.int .i64 m.M) := by rw [HBK.out.cell]; rfl
      go_wp2_with fail
      refine (C3.out _).mono ?_
      rintro e w6 ⟨rfl, hb⟩
      replace HB := Lib.hid (HB.out.trans (hb.mono HB.out.size))
      replace HBK := Lib.hid (HBK.out.keep hb)
      clear hb p0 p7 i3
      have p0 : (w6).cell? ⟨w.heap.size, 0, none⟩ = some (.int .i64 m.K) := by rw [HBK.out.cell]; rfl
      rw [HK.out] at p0
      have p8 : (w6).cell? ⟨w.heap.size, 8, none⟩ = some (.int .i64 m.S) := by rw [HBK.out.cell]; rfl
      go_wp2_with fail
      refine (C4.out _).mono ?_
      rintro e w7 ⟨rfl, hb⟩
      replace HB := Lib.hid (HB.out.trans (hb.mono HB.out.size))
      replace HBK := Lib.hid (HBK.out.keep hb)
      clear hb p0 p8 i4
      have p0 : (w7).cell? ⟨w.heap.size, 0, none⟩ = some (.int .i64 m.K) := by rw [HBK.out.cell]; rfl
      rw [HK.out] at p0
      go_wp2_with fail
      refine (CS.out _).mono ?_
      rintro e w8 ⟨rfl, hb⟩
      replace HB := Lib.hid (HB.out.trans (hb.mono HB.out.size))
      replace HBK := Lib.hid (HBK.out.keep hb)
      clear hb p0
      go_wp2
      go_ret2
      exact ⟨by rw [HFIN.out]; rfl, HB.out⟩
    · skip
      have hm := HM.out
      have hwf := hm.wf
      have hl := checkL_ok (mayM_l hm.may (by omega))
      have hp := pullB_ok (mayM_pull hm.may hk)
      obtain ⟨L0, hL0⟩ : ∃ X : List UInt8, X = [] := ⟨_, rfl⟩
      have bL0 : L0.length ≤ 0 := by rw [hL0]; decide
      have n0 := nB_le ((5 : Int) : Int)
      obtain ⟨L1, hL1⟩ : ∃ X, X = L0 ++ nB (5 : Int) := ⟨_, rfl⟩
      have bL1 : L1.length ≤ 9 := by rw [hL1, List.length_append]; have := bL0; omega
      have C0 := Lib.hid (fun w => rpn L0 (5 : Int) w rfl (by have := bL0; omega))
      rw [← hL1] at C0
      have n1 := lineB_le m.l
      obtain ⟨L2, hL2⟩ : ∃ X, X = L1 ++ lineB m.l := ⟨_, rfl⟩
      have bL2 : L2.length ≤ 409 := by rw [hL2, List.length_append]; have := bL1; omega
      have C1 := Lib.hid (fun w2 (h : Below w.heap.size w w2) => rline_any L1 (.agg #[.int .u64 m.l.E, .int .i64 m.l.B, .bool m.l.L, .slice a2 m.l.l.length c2]) m.l w2 ⟨_, rfl, HL.out.keep h, hwf.E, hwf.B⟩ ⟨hl.2.1, by omega⟩ (by omega) hm.gs (by have := bL1; omega))
      rw [← hL2] at C1
      have n2 := nB_le (m.n : Int)
      obtain ⟨L3, hL3⟩ : ∃ X, X = L2 ++ nB m.n := ⟨_, rfl⟩
      have bL3 : L3.length ≤ 418 := by rw [hL3, List.length_append]; have := bL2; omega
      have C2 := Lib.hid (fun w => rpn L2 m.n w (small_u64 ⟨hp.1.1, by have := hp.1.2; omega⟩).1 (by have := bL2; omega))
      rw [← hL3] at C2
      have i2 := (small_u64 ⟨(hp.1).1, by have := (hp.1).2; omega⟩).2
      have n3 := gdB_le m.la
      obtain ⟨L4, hL4⟩ : ∃ X, X = L3 ++ gdB m.la := ⟨_, rfl⟩
      have bL4 : L4.length ≤ 436 := by rw [hL4, List.length_append]; have := bL3; omega
      have C3 := Lib.hid (fun w => rguid_any L3 m.la w hwf.la (by have := bL3; omega))
      rw [← hL4] at C3
      have n4 := gdB_le m.ta
      obtain ⟨L5, hL5⟩ : ∃ X, X = L4 ++ gdB m.ta := ⟨_, rfl⟩
      have bL5 : L5.length ≤ 454 := by rw [hL5, List.length_append]; have := bL4; omega
      have C4 := Lib.hid (fun w => rguid_any L4 m.ta w hwf.ta (by have := bL4; omega))
      rw [← hL5] at C4
      have n5 := nB_le (m.N : Int)
      obtain ⟨L6, hL6⟩ : ∃ X, X = L5 ++ nB m.N := ⟨_, rfl⟩
      have bL6 : L6.length ≤ 463 := by rw [hL6, List.length_append]; have := bL5; omega
      have C5 := Lib.hid (fun w => rpn L5 m.N w (small_u64 ⟨hp.2.1, by have := hp.2.2; omega⟩).1 (by have := bL5; omega))
      rw [← hL6] at C5
      have i5 := (small_u64 ⟨(hp.2).1, by have := (hp.2).2; omega⟩).2
      have CS := Lib.hid (fun w => rseal L6 w (by have := bL6; omega))
      have HFIN : Hid (FIN = L6) := Lib.hid (by
        have h9 := HF.out
        rw [hk, if_neg (by decide), if_neg (by decide), if_neg (by decide), if_neg (by decide), if_pos rfl] at h9
        unfold pullL at h9
        rw [h9, hL6, hL5, hL4, hL3, hL2, hL1]
        rw [hL0]
        simp only [List.append_assoc, List.nil_append])
      have HK := Lib.hid hk
      clear HF hwf hm hck hK bL0 bL1 bL2 bL3 bL4 bL5 bL6 hL1 hL2 hL3 hL4 hL5 hL6 n0 n1 n2 n3 n4 n5
      clear hl
      clear hp
      subst hL0
      clear hk
      go_enter Tryz.func6, Tryz.ntmps6
      go_wp2_with (first | refine wpList_wanted_run (by rfl) (.agg ma) (exec_load_blk 33 _ rfl w.heap.size rfl _ HMA.out Tryz.underlying33 rfl HSZ.out) ?_)
      refine (HCHK.out _ HB.out).mono ?_
      rintro e w2 ⟨rfl, hb⟩
      replace HB := Lib.hid (HB.out.trans (hb.mono HB.out.size))
      replace HBK := Lib.hid (HBK.out.keep hb)
      clear hb HMA HCHK
      have p0 : (w2).cell? ⟨w.heap.size, 0, none⟩ = some (.int .i64 m.K) := by rw [HBK.out.cell]; rfl
      rw [HK.out] at p0
      go_wp2_with fail
      refine (C0.out _).mono ?_
      rintro e w3 ⟨rfl, hb⟩
      replace HB := Lib.hid (HB.out.trans (hb.mono HB.out.size))
      replace HBK := Lib.hid (HBK.out.keep hb)
      clear hb p0
      have p0 : (w3).cell? ⟨w.heap.size, 0, none⟩ = some (.int .i64 m.K) := by rw [HBK.out.cell]; rfl
      rw [HK.out] at p0
      have p9 : (w3).cell? ⟨w.heap.size, 9, none⟩ = some (.int .u64 m.l.E) := by rw [HBK.out.cell]; rfl
      have p10 : (w3).cell? ⟨w.heap.size, 10, none⟩ = some (.int .i64 m.l.B) := by rw [HBK.out.cell]; rfl
      have p11 : (w3).cell? ⟨w.heap.size, 11, none⟩ = some (.bool m.l.L) := by rw [HBK.out.cell]; rfl
      have p12 : (w3).cell? ⟨w.heap.size, 12, none⟩ = some (.slice a2 m.l.l.length c2) := by rw [HBK.out.cell]; rfl
      go_wp2_with fail
      refine (C1.out _ HB.out).mono ?_
      rintro e w4 ⟨rfl, hb⟩
      replace HB := Lib.hid (HB.out.trans (hb.mono HB.out.size))
      replace HBK := Lib.hid (HBK.out.keep hb)
      clear hb p0 p9 p10 p11 p12
      have p0 : (w4).cell? ⟨w.heap.size, 0, none⟩ = some (.int .i64 m.K) := by rw [HBK.out.cell]; rfl
      rw [HK.out] at p0
      have p13 : (w4).cell? ⟨w.heap.size, 13, none⟩ = some (.int .i64 m.n) := by rw [HBK.out.cell]; rfl
      go_wp2_with fail
      refine (C2.out _).mono ?_
      rintro e w5 ⟨rfl, hb⟩
      replace HB := Lib.hid (HB.out.trans (hb.mono HB.out.size))
      replace HBK := Lib.hid (HBK.out.keep hb)
      clear hb p0 p13 i2
      have p0 : (w5).cell? ⟨w.heap.size, 0, none⟩ = some (.int .i64 m.K) := by rw [HBK.out.cell]; rfl
      rw [HK.out] at p0
      have p14 : (w5).cell? ⟨w.heap.size, 14, none⟩ = some (.int .u64 m.la.1) := by rw [HBK.out.cell]; rfl
      have p15 : (w5).cell? ⟨w.heap.size, 15, none⟩ = some (.int .u64 m.la.2) := by rw [HBK.out.cell]; rfl
      go_wp2_with fail
      refine (C3.out _).mono ?_
      rintro e w6 ⟨rfl, hb⟩
      replace HB := Lib.hid (HB.out.trans (hb.mono HB.out.size))
      replace HBK := Lib.hid (HBK.out.keep hb)
      clear hb p0 p14 p15
      have p0 : (w6).cell? ⟨w.heap.size, 0, none⟩ = some (.int .i64 m.K) := by rw [HBK.out.cell]; rfl
      rw [HK.out] at p0
      have p16 : (w6).cell? ⟨w.heap.size, 16, none⟩ = some (.int .u64 m.ta.1) := by rw [HBK.out.cell]; rfl
      have p17 : (w6).cell? ⟨w.heap.size, 17, none⟩ = some (.int .u64 m.ta.2) := by rw [HBK.out.cell]; rfl
      go_wp2_with fail
      refine (C4.out _).mono ?_
      rintro e w7 ⟨rfl, hb⟩
      replace HB := Lib.hid (HB.out.trans (hb.mono HB.out.size))
      replace HBK := Lib.hid (HBK.out.keep hb)
      clear hb p0 p16 p17
      have p0 : (w7).cell? ⟨w.heap.size, 0, none⟩ = some (.int .i64 m.K) := by rw [HBK.out.cell]; rfl
      rw [HK.out] at p0
      have p18 : (w7).cell? ⟨w.heap.size, 18, none⟩ = some (.int .i64 m.N) := by rw [HBK.out.cell]; rfl
      go_wp2_with fail
      refine (C5.out _).mono ?_
      rintro e w8 ⟨rfl, hb⟩
      replace HB := Lib.hid (HB.out.trans (hb.mono HB.out.size))
      replace HBK := Lib.hid (HBK.out.keep hb)
      clear hb p0 p18 i5
      have p0 : (w8).cell? ⟨w.heap.size, 0, none⟩ = some (.int .i64 m.K) := by rw [HBK.out.cell]; rfl
      rw [HK.out] at p0
      go_wp2_with fail
      refine (CS.out _).mono ?_
      rintro e w9 ⟨rfl, hb⟩
      replace HB := Lib.hid (HB.out.trans (hb.mono HB.out.size))
      replace HBK := Lib.hid (HBK.out.keep hb)
      clear hb p0
      go_wp2
      go_ret2
      exact ⟨by rw [HFIN.out]; rfl, HB.out⟩
    · skip
      have hm := HM.out
      have hwf := hm.wf
      have hl := checkL_ok (mayM_l hm.may (by omega))
      obtain ⟨L0, hL0⟩ : ∃ X : List UInt8, X = [] := ⟨_, rfl⟩
      have bL0 : L0.length ≤ 0 := by rw [hL0]; decide
      have n0 := nB_le ((6 : Int) : Int)
      obtain ⟨L1, hL1⟩ : ∃ X, X = L0 ++ nB (6 : Int) := ⟨_, rfl⟩
      have bL1 : L1.length ≤ 9 := by rw [hL1, List.length_append]; have := bL0; omega
      have C0 := Lib.hid (fun w => rpn L0 (6 : Int) w rfl (by have := bL0; omega))
      rw [← hL1] at C0
      have n1 := lineB_le m.l
      obtain ⟨L2, hL2⟩ : ∃ X, X = L1 ++ lineB m.l := ⟨_, rfl⟩
      have bL2 : L2.length ≤ 409 := by rw [hL2, List.length_append]; have := bL1; omega
      have C1 := Lib.hid (fun w2 (h : Below w.heap.size w w2) => rline_any L1 (.agg #[.int .u64 m.l.E, .int .i64 m.l.B, .bool m.l.L, .slice a2 m.l.l.length c2]) m.l w2 ⟨_, rfl, HL.out.keep h, hwf.E, hwf.B⟩ ⟨hl.2.1, by omega⟩ (by omega) hm.gs (by have := bL1; omega))
      rw [← hL2] at C1
      have n2 : (partB m.p).length ≤ 200 := by
        have h1 := encS_le m.p
        have h2 : (encS m.p).data.toList.length = (encS m.p).size := Array.length_toList
        have h3 := putNum_le (encS m.p).data.toList.length
        unfold partB Wire.putText
        rw [List.length_append]
        omega
      obtain ⟨L3, hL3⟩ : ∃ X, X = L2 ++ partB m.p := ⟨_, rfl⟩
      have bL3 : L3.length ≤ 609 := by rw [hL3, List.length_append]; have := bL2; omega
      have D2 := Lib.hid (fun w2 (h : Below w.heap.size w w2) => encR_any w2 (prV m.p (.slice a3 m.p.cs.length c3)) m.p ⟨_, rfl, HC.out.keep h, hwf.p⟩)
      unfold prV at D2
      have C2 := Lib.hid (fun w => rpt L2 (encS m.p).data.toList w (by have := bL2; omega) (by have h1 := encS_le m.p; have h2 : (encS m.p).data.toList.length = (encS m.p).size := Array.length_toList; omega))
      rw [strOf_data, show L2 ++ Wire.putText (encS m.p).data.toList = L3 from hL3.symm] at C2
      have CS := Lib.hid (fun w => rseal L3 w (by have := bL3; omega))
      have HFIN : Hid (FIN = L3) := Lib.hid (by
        have h9 := HF.out
        rw [hk, if_neg (by decide), if_neg (by decide), if_neg (by decide), if_neg (by decide), if_neg (by decide), if_pos rfl] at h9
        unfold partL at h9
        rw [h9, hL3, hL2, hL1]
        rw [hL0]
        simp only [List.append_assoc, List.nil_append])
      have HK := Lib.hid hk
      clear HF hwf hm hck hK bL0 bL1 bL2 bL3 hL1 hL2 hL3 n0 n1 n2
      clear hl
      subst hL0
      clear hk
      go_enter Tryz.func6, Tryz.ntmps6
      go_wp2_with (first | refine wpList_wanted_run (by rfl) (.agg ma) (exec_load_blk 33 _ rfl w.heap.size rfl _ HMA.out Tryz.underlying33 rfl HSZ.out) ?_)
      refine (HCHK.out _ HB.out).mono ?_
      rintro e w2 ⟨rfl, hb⟩
      replace HB := Lib.hid (HB.out.trans (hb.mono HB.out.size))
      replace HBK := Lib.hid (HBK.out.keep hb)
      clear hb HMA HCHK
      have p0 : (w2).cell? ⟨w.heap.size, 0, none⟩ = some (.int .i64 m.K) := by rw [HBK.out.cell]; rfl
      rw [HK.out] at p0
      go_wp2_with fail
      refine (C0.out _).mono ?_
      rintro e w3 ⟨rfl, hb⟩
      replace HB := Lib.hid (HB.out.trans (hb.mono HB.out.size))
      replace HBK := Lib.hid (HBK.out.keep hb)
      clear hb p0
      have p0 : (w3).cell? ⟨w.heap.size, 0, none⟩ = some (.int .i64 m.K) := by rw [HBK.out.cell]; rfl
      rw [HK.out] at p0
      have p9 : (w3).cell? ⟨w.heap.size, 9, none⟩ = some (.int .u64 m.l.E) := by rw [HBK.out.cell]; rfl
      have p10 : (w3).cell? ⟨w.heap.size, 10, none⟩ = some (.int .i64 m.l.B) := by rw [HBK.out.cell]; rfl
      have p11 : (w3).cell? ⟨w.heap.size, 11, none⟩ = some (.bool m.l.L) := by rw [HBK.out.cell]; rfl
      have p12 : (w3).cell? ⟨w.heap.size, 12, none⟩ = some (.slice a2 m.l.l.length c2) := by rw [HBK.out.cell]; rfl
      go_wp2_with fail
      refine (C1.out _ HB.out).mono ?_
      rintro e w4 ⟨rfl, hb⟩
      replace HB := Lib.hid (HB.out.trans (hb.mono HB.out.size))
      replace HBK := Lib.hid (HBK.out.keep hb)
      clear hb p0 p9 p10 p11 p12
      have p0 : (w4).cell? ⟨w.heap.size, 0, none⟩ = some (.int .i64 m.K) := by rw [HBK.out.cell]; rfl
      rw [HK.out] at p0
      have p19 : (w4).cell? ⟨w.heap.size, 19, none⟩ = some (.int .u64 m.p.b.1) := by rw [HBK.out.cell]; rfl
      have p20 : (w4).cell? ⟨w.heap.size, 20, none⟩ = some (.int .u64 m.p.b.2) := by rw [HBK.out.cell]; rfl
      have p21 : (w4).cell? ⟨w.heap.size, 21, none⟩ = some (.int .u64 m.p.t.1) := by rw [HBK.out.cell]; rfl
      have p22 : (w4).cell? ⟨w.heap.size, 22, none⟩ = some (.int .u64 m.p.t.2) := by rw [HBK.out.cell]; rfl
      have p23 : (w4).cell? ⟨w.heap.size, 23, none⟩ = some (.int .i64 m.p.f) := by rw [HBK.out.cell]; rfl
      have p24 : (w4).cell? ⟨w.heap.size, 24, none⟩ = some (.int .i64 m.p.a) := by rw [HBK.out.cell]; rfl
      have p25 : (w4).cell? ⟨w.heap.size, 25, none⟩ = some (.slice a3 m.p.cs.length c3) := by rw [HBK.out.cell]; rfl
      go_wp2_with fail
      refine (D2.out _ HB.out).mono ?_
      rintro e w5 ⟨rfl, hb⟩
      replace HB := Lib.hid (HB.out.trans (hb.mono HB.out.size))
      replace HBK := Lib.hid (HBK.out.keep hb)
      clear hb p0 p19 p20 p21 p22 p23 p24 p25
      have p0 : (w5).cell? ⟨w.heap.size, 0, none⟩ = some (.int .i64 m.K) := by rw [HBK.out.cell]; rfl
      rw [HK.out] at p0
      go_wp2_with fail
      refine (C2.out _).mono ?_
      rintro e w6 ⟨rfl, hb⟩
      replace HB := Lib.hid (HB.out.trans (hb.mono HB.out.size))
      replace HBK := Lib.hid (HBK.out.keep hb)
      clear hb p0
      have p0 : (w6).cell? ⟨w.heap.size, 0, none⟩ = some (.int .i64 m.K) := by rw [HBK.out.cell]; rfl
      rw [HK.out] at p0
      go_wp2_with fail
      refine (CS.out _).mono ?_
      rintro e w7 ⟨rfl, hb⟩
      replace HB := Lib.hid (HB.out.trans (hb.mono HB.out.size))
      replace HBK := Lib.hid (HBK.out.keep hb)
      clear hb p0
      go_wp2
      go_ret2
      exact ⟨by rw [HFIN.out]; rfl, HB.out⟩
    · skip
      have hm := HM.out
      have hwf := hm.wf
      have hl := checkL_ok (mayM_l hm.may (by omega))
      obtain ⟨L0, hL0⟩ : ∃ X : List UInt8, X = [] := ⟨_, rfl⟩
      have bL0 : L0.length ≤ 0 := by rw [hL0]; decide
      have n0 := nB_le ((7 : Int) : Int)
      obtain ⟨L1, hL1⟩ : ∃ X, X = L0 ++ nB (7 : Int) := ⟨_, rfl⟩
      have bL1 : L1.length ≤ 9 := by rw [hL1, List.length_append]; have := bL0; omega
      have C0 := Lib.hid (fun w => rpn L0 (7 : Int) w rfl (by have := bL0; omega))
      rw [← hL1] at C0
      have n1 := lineB_le m.l
      obtain ⟨L2, hL2⟩ : ∃ X, X = L1 ++ lineB m.l := ⟨_, rfl⟩
      have bL2 : L2.length ≤ 409 := by rw [hL2, List.length_append]; have := bL1; omega
      have C1 := Lib.hid (fun w2 (h : Below w.heap.size w w2) => rline_any L1 (.agg #[.int .u64 m.l.E, .int .i64 m.l.B, .bool m.l.L, .slice a2 m.l.l.length c2]) m.l w2 ⟨_, rfl, HL.out.keep h, hwf.E, hwf.B⟩ ⟨hl.2.1, by omega⟩ (by omega) hm.gs (by have := bL1; omega))
      rw [← hL2] at C1
      have CS := Lib.hid (fun w => rseal L2 w (by have := bL2; omega))
      have HFIN : Hid (FIN = L2) := Lib.hid (by
        have h9 := HF.out
        rw [hk, if_neg (by decide), if_neg (by decide), if_neg (by decide), if_neg (by decide), if_neg (by decide), if_neg (by decide)] at h9
        rw [h9, hL2, hL1]
        rw [hL0]
        simp only [List.nil_append])
      have HK := Lib.hid hk
      clear HF hwf hm hck hK bL0 bL1 bL2 hL1 hL2 n0 n1
      clear hl
      subst hL0
      clear hk
      go_enter Tryz.func6, Tryz.ntmps6
      go_wp2_with (first | refine wpList_wanted_run (by rfl) (.agg ma) (exec_load_blk 33 _ rfl w.heap.size rfl _ HMA.out Tryz.underlying33 rfl HSZ.out) ?_)
      refine (HCHK.out _ HB.out).mono ?_
      rintro e w2 ⟨rfl, hb⟩
      replace HB := Lib.hid (HB.out.trans (hb.mono HB.out.size))
      replace HBK := Lib.hid (HBK.out.keep hb)
      clear hb HMA HCHK
      have p0 : (w2).cell? ⟨w.heap.size, 0, none⟩ = some (.int .i64 m.K) := by rw [HBK.out.cell]; rfl
      rw [HK.out] at p0
      go_wp2_with fail
      refine (C0.out _).mono ?_
      rintro e w3 ⟨rfl, hb⟩
      replace HB := Lib.hid (HB.out.trans (hb.mono HB.out.size))
      replace HBK := Lib.hid (HBK.out.keep hb)
      clear hb p0
      have p0 : (w3).cell? ⟨w.heap.size, 0, none⟩ = some (.int .i64 m.K) := by rw [HBK.out.cell]; rfl
      rw [HK.out] at p0
      have p9 : (w3).cell? ⟨w.heap.size, 9, none⟩ = some (.int .u64 m.l.E) := by rw [HBK.out.cell]; rfl
      have p10 : (w3).cell? ⟨w.heap.size, 10, none⟩ = some (.int .i64 m.l.B) := by rw [HBK.out.cell]; rfl
      have p11 : (w3).cell? ⟨w.heap.size, 11, none⟩ = some (.bool m.l.L) := by rw [HBK.out.cell]; rfl
      have p12 : (w3).cell? ⟨w.heap.size, 12, none⟩ = some (.slice a2 m.l.l.length c2) := by rw [HBK.out.cell]; rfl
      go_wp2_with fail
      refine (C1.out _ HB.out).mono ?_
      rintro e w4 ⟨rfl, hb⟩
      replace HB := Lib.hid (HB.out.trans (hb.mono HB.out.size))
      replace HBK := Lib.hid (HBK.out.keep hb)
      clear hb p0 p9 p10 p11 p12
      have p0 : (w4).cell? ⟨w.heap.size, 0, none⟩ = some (.int .i64 m.K) := by rw [HBK.out.cell]; rfl
      rw [HK.out] at p0
      go_wp2_with fail
      refine (CS.out _).mono ?_
      rintro e w5 ⟨rfl, hb⟩
      replace HB := Lib.hid (HB.out.trans (hb.mono HB.out.size))
      replace HBK := Lib.hid (HBK.out.keep hb)
      clear hb p0
      go_wp2
      go_ret2
      exact ⟨by rw [HFIN.out]; rfl, HB.out⟩
end Go.Proofs.YtikimmhkfjaijaaGreat
