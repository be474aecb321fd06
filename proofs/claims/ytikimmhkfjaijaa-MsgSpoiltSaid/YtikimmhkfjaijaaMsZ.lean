/-
  MESSAGES: the law MsgSpoilt (printed by wip/gen-msgz.py).
-/
import Derived.Test.YtikimmhkfjaijaaMsX
namespace Go.Proofs.Ytikimmhkfjaijaa
open Go.RowKit Reg Go.ChangeShapes

set_option maxRecDepth 100000 in
set_option maxHeartbeats 8000000 in
theorem law_MsgSpoilt (v : Value) (m : Ms) (a c : Int) (w : World) (hv : InMs w v m) (_ : True) (wa : (Lit.int .u16 a).wf = true) (wc : (Lit.int .u8 c).wf = true) :
    Calls Try.prog 5 #[v, .int .u16 a, .int .u8 c] w fun e w' => e = .returned (.bool true) ∧ Below w.heap.size w w' := by
  have ra : 0 ≤ a ∧ a < 65536 := by
    simp [Lit.wf, show IntKind.u16.min = 0 from by decide, show IntKind.u16.max = 65535 from by decide] at wa
    omega
  have HENC := Lib.hid (fun w2 (h : Below w.heap.size w w2) => mencode_any w2 v m (hv.keep h))
  have hok := fun hm => hv.ok hm
  obtain ⟨ma, a1, a2, a3, c1, c2, c3, rfl, hone, hsz, hma, -, -, -, -⟩ := ms_cells hv
  have HMA := Lib.hid (Blk.new w 33 ma)
  have HB := Lib.hid ((Below.refl w.heap.size w).alloc (Nat.le_refl _) (Obj.cells ma 33))
  have HSZ := Lib.hid hsz
  have HRA := Lib.hid ra
  have HWA := Lib.hid (show wrap64 a = a from IntWalk.wrap64_in _ (by omega))
  have HWA2 := Lib.hid (show IntKind.i64.wrap a = a from IntWalk.i64_in _ (by omega))
  have HWC := Lib.hid wc
  have HM2 : Hid ((∃ B, encM m = strOf (Crc.sealed B) ∧ checkM m = 0 ∧ B.length ≤ 8000) ∨ checkM m = 2) := Lib.hid (by
    cases h : checkB m with
    | true =>
      have hmo := hok (checkB_may h)
      exact .inl ⟨bytesM m, (enc_dec hmo h).2.2, by unfold checkM; rw [if_pos h], bytes_le hmo⟩
    | false => exact .inr (by unfold checkM; rw [if_neg (by rw [h]; decide)]))
  clear hv hok hone hsz hma wa wc ra
  go_enter Try.func5, Try.ntmps5
  go_wp2_with fail
  refine (works_any _).mono ?_
  rintro e w1 ⟨rfl, hb⟩
  replace HMA := Lib.hid (HMA.out.keep hb)
  replace HB := Lib.hid (HB.out.trans (hb.mono HB.out.size))
  clear hb
  go_wp2_with (first | refine wpList_wanted_run (by rfl) (.agg ma) (exec_load_blk 33 _ rfl w.heap.size rfl _ HMA.out Try.underlying33 rfl HSZ.out) ?_)
  refine (HENC.out _ HB.out).mono ?_
  rintro e w3 ⟨rfl, hb⟩
  replace HB := Lib.hid (HB.out.trans (hb.mono HB.out.size))
  clear hb HENC HMA
  rcases HM2.out with ⟨B, e1, e2, hle⟩ | e2
  · rw [e1, e2]
    clear e1 e2 HM2
    by_cases hc0 : c = 0
    · subst hc0
      go_wp2
      go_ret
      exact ⟨rfl, HB.out⟩
    · have hcb0 : (c == 0) = false := beq_eq_false_iff_ne.2 hc0
      have HOT := Crc.opens_other B
      have hlq : (Crc.sealed B).length = B.length + 4 := Crc.length_sealed B
      generalize Crc.sealed B = q at *
      obtain ⟨cap, w4, hcv, hcap, hsz4, hb4, hcell, hfr⟩ := bytes_of_list (P := Try.prog) w3 9 47 5 (strOf q) q (strOf_list q) Try.underlying9 Try.underlying47 Try.underlying5
      obtain ⟨k, hk⟩ : ∃ k, k = a.toNat % q.length := ⟨_, rfl⟩
      have hkq : k < q.length := by rw [hk]; exact Nat.mod_lt _ (by omega)
      have HWK := Lib.hid (show wrap64 (k : Int) = (k : Int) from IntWalk.wrap64_in _ (by omega))
      have hrem : a.tmod (q.length : Int) = (k : Int) := by
        have hra := HRA.out
        obtain ⟨n, rfl⟩ : ∃ n : Nat, a = n := ⟨a.toNat, by omega⟩
        rw [hk, Int.tmod_eq_emod_of_nonneg (by omega)]
        simp
      have HCE := Lib.hid hcell
      have hck := hcell k hkq
      have hfk := hfr k hkq
      have HB4 := Lib.hid (HB.out.trans (hb4.mono HB.out.size))
      have hL : w.heap.size ≤ w3.heap.size := HB.out.size
      clear hcell hfr hb4
      generalize w3.heap.size = L at *
      obtain ⟨cb, hcb, hcb0'⟩ : ∃ cb : BitVec 8, c = (cb.toNat : Int) ∧ cb ≠ 0#8 := by
        have hr := wf_u8 HWC.out
        refine ⟨BitVec.ofNat 8 c.toNat, ?_, ?_⟩
        · rw [BitVec.toNat_ofNat]; omega
        · intro e
          have := congrArg BitVec.toNat e
          rw [BitVec.toNat_ofNat] at this
          simp at this
          omega
      subst hcb
      have hx := xor_u8 q[k].toBitVec cb
      rw [show ((q[k].toBitVec).toNat : Int) = (q[k].toNat : Int) from rfl] at hx
      have hstr := str_of (P := Try.prog) (w4.setCell ⟨L, k, none⟩ (.int .u8 ((q[k].toBitVec ^^^ cb).toNat : Int))) 47 9 5 L q.length cap (q.set k ⟨q[k].toBitVec ^^^ cb⟩)
        Try.underlying47 Try.underlying5 Try.underlying9 (by simp) (by
          intro j hj
          have hj' : j < q.length := by simpa using hj
          by_cases e : j = k
          · subst e
            rw [World.cell?_setCell_same _ _ _ hck]
            simp
          · rw [World.cell?_setCell_other _ _ _ _ (fun h => e (Addr.mk.inj h).2.1.symm), HCE.out j hj', List.getElem_set_ne (by omega)])
      have hoth := HOT k hkq ⟨q[k].toBitVec ^^^ cb⟩ (by
        intro e
        apply hcb0'
        have h1 := congrArg UInt8.toBitVec e
        have h2 : q[k].toBitVec ^^^ cb = q[k].toBitVec := h1
        have h3 := congrArg (q[k].toBitVec ^^^ ·) h2
        simpa [← BitVec.xor_assoc] using h3)
      obtain ⟨Y, hY⟩ : ∃ Y, Y = strOf (q.set k ⟨q[k].toBitVec ^^^ cb⟩) := ⟨_, rfl⟩
      have hYs : Y.size ≤ 1152921504606846976 := by rw [hY, size_strOf, List.length_set]; omega
      have hYd : decOkM Y = false := by unfold decOkM; rw [hY, strOf_list, hoth, Bool.false_and]
      have HD := Lib.hid (fun w2 => mdecode_any w2 Y hYs)
      unfold decM decZ DecM at HD
      rw [if_neg (by rw [hYd]; decide), if_neg (by rw [hYd]; decide)] at HD
      rw [← hY] at hstr
      have hne : ¬ q.length = 0 := by omega
      have hne2 : ¬ (q.length : Int) = 0 := by omega
      have hwa := HWA.out
      have hwa2 := HWA2.out
      have hwk := HWK.out
      have hk1 : (k : Int) < (q.length : Int) := Int.ofNat_lt.2 hkq
      have hk0 : (0 : Int) ≤ (k : Int) := Int.natCast_nonneg k
      clear hoth HOT hY hYs hYd hle hlq hk hc0
      generalize (q[k].toBitVec ^^^ cb).toNat = x at *
      generalize (q[k].toNat : Int) = qk at *
      have HLQ := Lib.hid hkq
      clear hkq HCE
      generalize hcn : (cb.toNat : Int) = cn at *
      clear hcn hcb0'
      go_wp2_with fail
      refine (HD.out _).mono ?_
      rintro e w5 ⟨u, rfl, hu, hb⟩
      replace HB := Lib.hid (HB4.out.setCell (p := ⟨L, k, none⟩) hL (.int .u8 (x : Int)))
      obtain ⟨ua, b1, b2, b3, d1, d2, d3, rfl, uone, usz, uma, -, -, -, -⟩ := ms_cells hu
      have UONE := Lib.hid uone
      have USZ := Lib.hid usz
      have USZ2 : Hid (zeroA.size = ua.size) := Lib.hid (by rw [uma]; rfl)
      replace HB := Lib.hid (HB.out.trans (hb.mono HB.out.size))
      have HU := Lib.hid hu
      clear hb hu uone usz uma
      have HZ := Lib.hid (Blk.new w5 33 zeroA)
      go_wp2_with (first | refine wpList_store_then rfl 33 _ _ rfl w5.heap.size ua rfl rfl 33 _ HZ.out USZ.out USZ2.out UONE.out ?_)
      refine Later.mk fun w6 hw4 => ?_
      have hal : Below w5.heap.size w5 w6 := by
        rw [hw4]
        exact Below.setRow ((Below.refl w5.heap.size w5).alloc (Nat.le_refl _) (Obj.cells zeroA 33)) (Nat.le_refl _) _
      have HUA : Hid (Blk w6 w5.heap.size 33 ua) := Lib.hid (by rw [hw4]; exact HZ.out.row _)
      replace HU := Lib.hid (HU.out.keep hal)
      replace HB := Lib.hid (HB.out.trans (hal.mono HB.out.size))
      clear hal hw4 HZ
      clear HU HUA
      go_wp2
      go_ret
      exact ⟨rfl, HB.out⟩
  · rw [e2]
    clear e2 HM2
    go_wp2
    go_ret
    exact ⟨rfl, HB.out⟩
end Go.Proofs.Ytikimmhkfjaijaa
