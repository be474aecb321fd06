/-
  MESSAGES: the law MsgCut (printed by wip/gen-msgy.py).
-/
import Derived.Test.YtikimmhkfjaijaaMsX
namespace Go.Proofs.Ytikimmhkfjaijaa
open Go.RowKit Reg Go.ChangeShapes

theorem one_str {P : Program} (w : World) (x : UInt8) (v : Value) (src dst e : TypeId) (hs : P.underlying src = some (.slice e)) (he : P.underlying e = some (.int .u8)) (hd : P.underlying dst = some .string)
    (h : ∃ g, v = .slice (some ⟨g, 0, none⟩) 1 1 ∧ Blk w g e #[.int .u8 (x.toNat : Int)]) : (convert src dst v).run P w = .ok (.string (strOf [x])) w := by
  obtain ⟨g, rfl, hb⟩ := h
  exact str_of w src dst e g 1 1 [x] hs he hd rfl (fun j hj => by
    have : j = 0 := by simpa using hj
    subst this
    rw [hb.cell]; rfl)
theorem dec_no (Y : ByteArray) (hY : Y.size ≤ 1152921504606846976) (h : decOkM Y = false) (w : World) : Calls Try.prog 9 #[.string Y] w (DecM w zeroM 4) := by
  have := mdecode_any w Y hY
  unfold decM decZ at this
  rw [if_neg (by rw [h]; decide), if_neg (by rw [h]; decide)] at this
  exact this
set_option maxRecDepth 100000 in
set_option maxHeartbeats 8000000 in
theorem law_MsgCut (v : Value) (m : Ms) (a b : Int) (w : World) (hv : InMs w v m) (_ : True) (wa : (Lit.int .u16 a).wf = true) (wb : (Lit.int .u8 b).wf = true) :
    Calls Try.prog 4 #[v, .int .u16 a, .int .u8 b] w fun e w' => e = .returned (.bool true) ∧ Below w.heap.size w w' := by
  obtain ⟨x, rfl⟩ : ∃ x : UInt8, b = (x.toNat : Int) := ⟨UInt8.ofNat b.toNat, by have := wf_u8 wb; rw [UInt8.toNat_ofNat']; omega⟩
  have ra : 0 ≤ a ∧ a < 65536 := by
    simp [Lit.wf, show IntKind.u16.min = 0 from by decide, show IntKind.u16.max = 65535 from by decide] at wa
    omega
  have HENC := Lib.hid (fun w2 (h : Below w.heap.size w w2) => mencode_any w2 v m (hv.keep h))
  have hok := fun hm => hv.ok hm
  obtain ⟨ma, a1, a2, a3, c1, c2, c3, rfl, hone, hsz, hma, -, -, -, -⟩ := ms_cells hv
  have HMA := Lib.hid (Blk.new w 33 ma)
  have HB := Lib.hid ((Below.refl w.heap.size w).alloc (Nat.le_refl _) (Obj.cells ma 33))
  have HSZ := Lib.hid hsz
  have HRA := Lib.hid ra
  have HM2 : Hid ((∃ B, encM m = strOf (Crc.sealed B) ∧ checkM m = 0 ∧ 0 < B.length ∧ B.length ≤ 8000 ∧ (∀ k, k < B.length → decOkM (strOf (Crc.sealed (B.take k))) = false) ∧ decOkM (strOf (Crc.sealed (B ++ [x]))) = false ∧ decOkM (strOf ((Crc.sealed B).take (B.length + 3))) = false) ∨ checkM m = 2) := Lib.hid (by
    cases h : checkB m with
    | true =>
      have hmo := hok (checkB_may h)
      refine .inl ⟨bytesM m, (enc_dec hmo h).2.2, by unfold checkM; rw [if_pos h], bytes_pos m, bytes_le hmo, fun k hk => ?_, ?_, cut_sum hmo (bytes_pos m)⟩
      · rw [decOk_sealed]; exact pre_bad hmo hk
      · rw [decOk_sealed, more_bad hmo x, Bool.false_and]
    | false => exact .inr (by unfold checkM; rw [if_neg (by rw [h]; decide)]))
  clear hv hok hone hsz hma wa wb ra
  go_enter Try.func4, Try.ntmps4
  go_wp2_with fail
  refine (works_any _).mono ?_
  rintro e w1 ⟨rfl, hb⟩
  replace HMA := Lib.hid (HMA.out.keep hb)
  replace HB := Lib.hid (HB.out.trans (hb.mono HB.out.size))
  clear hb
  go_wp2_with (first | refine wpList_wanted_run (by rfl) (.agg ma) (exec_load_blk 33 _ rfl w.heap.size rfl _ HMA.out Try.underlying33 rfl HSZ.out) ?_)
  refine (HENC.out _ HB.out).mono ?_
  rintro e w2 ⟨rfl, hb⟩
  replace HB := Lib.hid (HB.out.trans (hb.mono HB.out.size))
  clear hb HENC HMA
  rcases HM2.out with ⟨B, e1, e2, hpos, hle, hcut, hmore, hsum⟩ | e2
  · rw [e1, e2]
    clear e1 e2 HM2
    obtain ⟨E, hE⟩ : ∃ E, E = strOf (Crc.sealed B) := ⟨_, rfl⟩
    obtain ⟨Tx, hTx⟩ : ∃ E, E = strOf B := ⟨_, rfl⟩
    have hEs : E.size = B.length + 4 := by rw [hE, size_strOf, Crc.length_sealed]
    have hTs : Tx.size = B.length := by rw [hTx, size_strOf]
    have hTd : Tx.data.toList = B := by rw [hTx, strOf_list]
    have HOP := Lib.hid (fun w2 => open_any E w2 (by unfold maxLen; omega))
    unfold openV at HOP
    have hopn : Crc.opens E.data.toList = true := by rw [hE, strOf_list]; exact Crc.opens_sealed B
    have htk : strOf (E.data.toList.take (E.size - 4)) = Tx := by rw [hTx, hEs, hE, strOf_list, Nat.add_sub_cancel]; unfold Crc.sealed; rw [List.take_left']; rfl
    rw [if_pos hopn, htk] at HOP
    rw [← hE]
    obtain ⟨k, hk⟩ : ∃ k, k = a.toNat % Tx.size := ⟨_, rfl⟩
    have hkl : k < Tx.size := by rw [hk]; exact Nat.mod_lt _ (by omega)
    have hrem : a.tmod (Tx.size : Int) = (k : Int) := by
      have hra := HRA.out
      obtain ⟨n, rfl⟩ : ∃ n : Nat, a = n := ⟨a.toNat, by omega⟩
      rw [hk, Int.tmod_eq_emod_of_nonneg (by omega)]
      simp
    have hwa : wrap64 a = a := IntWalk.wrap64_in _ (by have := HRA.out; omega)
    have hwa2 : IntKind.i64.wrap a = a := IntWalk.i64_in _ (by have := HRA.out; omega)
    have hne : ¬ Tx.size = 0 := by omega
    have hne2 : ¬ (Tx.size : Int) = 0 := by omega
    have he1 : (Tx.toList == ({ data := #[] } : ByteArray).toList) = false := by
      rw [str_eq]
      refine decide_eq_false fun h => ?_
      have h2 : Tx.data.toList.length = 0 := by rw [h]; rfl
      rw [len_data] at h2
      omega
    have hemp : Tx.toList.isEmpty = false := by
      rw [Go.ByteArray.toList_eq]
      cases h : Tx.data.toList with
      | nil =>
        have h2 : Tx.data.toList.length = 0 := by rw [h]; rfl
        rw [len_data] at h2
        omega
      | cons _ _ => rfl
    have hcat := run_string_add_sum (P := Try.prog) (a := Tx) (b := strOf [x]) (h := by rw [size_strOf]; simp; omega)
    have HCAT := Lib.hid @hcat
    clear hcat
    have hk1 : (k : Int) ≤ (Tx.size : Int) := by omega
    have hk0 : (0 : Int) ≤ (k : Int) := by omega
    have hk2 : k ≤ Tx.size := by omega
    have hwk : wrap64 (k : Int) = (k : Int) := IntWalk.wrap64_in _ (by omega)
    -- what is sealed, and decoded
    have hx1 : (Tx.extract 0 k).data.toList = B.take k := by rw [extract_list, hTd]
    have hx2 : (Tx ++ strOf [x]).data.toList = B ++ [x] := by rw [strOf_append, strOf_list, hTd]
    obtain ⟨Y1, hY1⟩ : ∃ Y, Y = strOf (Crc.sealed (B.take k)) := ⟨_, rfl⟩
    obtain ⟨Y2, hY2⟩ : ∃ Y, Y = strOf (Crc.sealed (B ++ [x])) := ⟨_, rfl⟩
    have hs1 : (Tx.extract 0 k).size ≤ 9000 := by
      have : (Tx.extract 0 k).data.toList.length = (Tx.extract 0 k).size := Array.length_toList
      rw [← this, hx1, List.length_take]; omega
    have hs2 : (Tx ++ strOf [x]).size ≤ 9000 := by
      have : (Tx ++ strOf [x]).data.toList.length = (Tx ++ strOf [x]).size := Array.length_toList
      rw [← this, hx2, List.length_append]; simp; omega
    have HS1 := Lib.hid (fun w2 => seal_any (Tx.extract 0 k) w2 (by unfold maxLen; omega))
    have HS2 := Lib.hid (fun w2 => seal_any (Tx ++ strOf [x]) w2 (by unfold maxLen; omega))
    rw [hx1, ← hY1] at HS1
    rw [hx2, ← hY2] at HS2
    have HD1 := Lib.hid (fun w2 => dec_no Y1 (by rw [hY1, size_strOf, Crc.length_sealed, List.length_take]; omega) (by rw [hY1]; exact hcut k (by omega)) w2)
    have HD2 := Lib.hid (fun w2 => dec_no Y2 (by rw [hY2, size_strOf, Crc.length_sealed, List.length_append]; simp; omega) (by rw [hY2]; exact hmore) w2)
    obtain ⟨j, hj⟩ : ∃ j, j = E.size - 1 := ⟨_, rfl⟩
    have hx3 : E.extract 0 j = strOf ((Crc.sealed B).take (B.length + 3)) := by
      rw [extract_strOf, hE, strOf_list]
      congr 2
      rw [hj, hEs]
      omega
    have HD3 := Lib.hid (fun w2 => dec_no (E.extract 0 j) (by rw [hx3, size_strOf, List.length_take]; omega) (by rw [hx3]; exact hsum) w2)
    have hj1 : wrap64 ((E.size : Int) - 1) = (j : Int) := by rw [show (E.size : Int) - 1 = (j : Int) by omega]; exact IntWalk.wrap64_in _ (by omega)
    have hj2 : (j : Int) ≤ (E.size : Int) := by omega
    have hj3 : j ≤ E.size := by omega
    have hj0 : (0 : Int) ≤ (j : Int) := by omega
    unfold DecM at HD1 HD2 HD3
    have HJ := Lib.hid (And.intro hj1 (And.intro hj2 (And.intro hj3 hj0)))
    clear hpos hle hcut hmore hsum hE hTx hEs hTs hTd hopn htk hk hkl hx1 hx2 hY1 hY2 hs1 hs2 hj hx3 hj1 hj2 hj3 hj0
    go_wp2_with fail
    refine (HOP.out _).mono ?_
    rintro e w3 ⟨rfl, hb⟩
    replace HB := Lib.hid (HB.out.trans (hb.mono HB.out.size))
    clear hb HOP
    go_wp2_with fail
    refine (HS1.out _).mono ?_
    rintro e w4 ⟨rfl, hb⟩
    replace HB := Lib.hid (HB.out.trans (hb.mono HB.out.size))
    clear hb HS1
    go_wp2_with fail
    refine (HD1.out _).mono ?_
    rintro e w5 ⟨u, rfl, hu, hb⟩
    obtain ⟨ua, b1, b2, b3, d1, d2, d3, rfl, uone, usz, uma, -, -, -, -⟩ := ms_cells hu
    have UONE := Lib.hid uone
    have USZ := Lib.hid usz
    have USZ2 : Hid (zeroA.size = ua.size) := Lib.hid (by rw [uma]; rfl)
    replace HB := Lib.hid (HB.out.trans (hb.mono HB.out.size))
    have HU := Lib.hid hu
    clear hb hu uone usz uma
    have HZ := Lib.hid (Blk.new w5 33 zeroA)
    go_wp2_with (first | refine wpList_store_then rfl 33 _ _ rfl w5.heap.size ua rfl rfl 33 _ HZ.out USZ.out USZ2.out UONE.out ?_)
    refine Later.mk fun w6 hw4 => ?_
    have hal : Below w5.heap.size w5 w6 := by
      rw [hw4]
      exact Below.setRow ((Below.refl w5.heap.size w5).alloc (Nat.le_refl _) (Obj.cells zeroA 33)) (Nat.le_refl _) _
    have HUA : Hid (Blk w6 w5.heap.size 33 ua) := Lib.hid (by rw [hw4]; exact HZ.out.row _)
    replace HU := Lib.hid (HU.out.keep hal)
    replace HB := Lib.hid (HB.out.trans (hal.mono HB.out.size))
    clear hal hw4 HZ
    have hst := one_str (P := Try.prog) (w6.alloc (Obj.cells #[.int .u8 (x.toNat : Int)] 5)) x (.slice (some ⟨w6.heap.size, 0, none⟩) 1 1) 47 9 5 Try.underlying47 Try.underlying5 Try.underlying9 ⟨_, rfl, Blk.new _ _ _⟩
    have hbx := (Below.refl w6.heap.size w6).alloc (Nat.le_refl _) (Obj.cells #[.int .u8 (x.toNat : Int)] 5)
    replace HB := Lib.hid (HB.out.trans (hbx.mono HB.out.size))
    have hcat := @HCAT.out
    clear hbx
    go_wp2_with fail
    generalize w6.alloc (Obj.cells #[.int .u8 (x.toNat : Int)] 5) = w7 at *
    clear hst hcat
    refine (HS2.out _).mono ?_
    rintro e w8 ⟨rfl, hb⟩
    replace HB := Lib.hid (HB.out.trans (hb.mono HB.out.size))
    clear hb HS2 HU HUA
    go_wp2_with fail
    refine (HD2.out _).mono ?_
    rintro e w9 ⟨y, rfl, hy, hb⟩
    obtain ⟨ya, b1, b2, b3, d1, d2, d3, rfl, uone, usz, uma, -, -, -, -⟩ := ms_cells hy
    have YONE := Lib.hid uone
    have YSZ := Lib.hid usz
    have YSZ2 : Hid (zeroA.size = ya.size) := Lib.hid (by rw [uma]; rfl)
    replace HB := Lib.hid (HB.out.trans (hb.mono HB.out.size))
    have HY := Lib.hid hy
    clear hb hy uone usz uma
    have HZ := Lib.hid (Blk.new w9 33 zeroA)
    go_wp2_with (first | refine wpList_store_then rfl 33 _ _ rfl w9.heap.size ya rfl rfl 33 _ HZ.out YSZ.out YSZ2.out YONE.out ?_)
    refine Later.mk fun w10 hw4 => ?_
    have hal : Below w9.heap.size w9 w10 := by
      rw [hw4]
      exact Below.setRow ((Below.refl w9.heap.size w9).alloc (Nat.le_refl _) (Obj.cells zeroA 33)) (Nat.le_refl _) _
    have HYA : Hid (Blk w10 w9.heap.size 33 ya) := Lib.hid (by rw [hw4]; exact HZ.out.row _)
    replace HY := Lib.hid (HY.out.keep hal)
    replace HB := Lib.hid (HB.out.trans (hal.mono HB.out.size))
    clear hal hw4 HZ
    obtain ⟨hj1, hj2, hj3, hj0⟩ := HJ.out
    clear HY HYA
    go_wp2_with fail
    refine (HD3.out _).mono ?_
    rintro e w11 ⟨z, rfl, hz, hb⟩
    obtain ⟨za, b1, b2, b3, d1, d2, d3, rfl, uone, usz, uma, -, -, -, -⟩ := ms_cells hz
    have ZONE := Lib.hid uone
    have ZSZ := Lib.hid usz
    have ZSZ2 : Hid (zeroA.size = za.size) := Lib.hid (by rw [uma]; rfl)
    replace HB := Lib.hid (HB.out.trans (hb.mono HB.out.size))
    have HZ := Lib.hid hz
    clear hb hz uone usz uma
    have HZ0 := Lib.hid (Blk.new w11 33 zeroA)
    go_wp2_with (first | refine wpList_store_then rfl 33 _ _ rfl w11.heap.size za rfl rfl 33 _ HZ0.out ZSZ.out ZSZ2.out ZONE.out ?_)
    refine Later.mk fun w12 hw4 => ?_
    have hal : Below w11.heap.size w11 w12 := by
      rw [hw4]
      exact Below.setRow ((Below.refl w11.heap.size w11).alloc (Nat.le_refl _) (Obj.cells zeroA 33)) (Nat.le_refl _) _
    have HZA : Hid (Blk w12 w11.heap.size 33 za) := Lib.hid (by rw [hw4]; exact HZ0.out.row _)
    replace HZ := Lib.hid (HZ.out.keep hal)
    replace HB := Lib.hid (HB.out.trans (hal.mono HB.out.size))
    clear hal hw4
    clear HZ HZA
    go_wp2
    go_ret
    exact ⟨rfl, HB.out⟩
  · rw [e2]
    clear e2 HM2
    go_wp2
    go_ret
    exact ⟨rfl, HB.out⟩
end Go.Proofs.Ytikimmhkfjaijaa
