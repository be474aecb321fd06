/-
  MESSAGES: the law MsgBack (printed by wip/gen-msgx.py).
-/
import Derived.Test.YtikimmhkfjaijaaMsW
namespace Go.Proofs.Ytikimmhkfjaijaa
open Go.RowKit Reg Go.ChangeShapes

theorem InMs.ok {w : World} {v : Value} {m : Ms} (h : InMs w v m) (hm : mayM m = true) : MsOk m := by
  obtain ⟨se, sl, sc, -, ⟨-, -, -, -, -, h1, -⟩, ⟨-, -, h2⟩, -, h3⟩ := h
  exact ⟨hm, h3, h1, h2⟩
theorem nB_le (x : Int) : (nB x).length ≤ 9 := putNum_le _
theorem gdB_le (g : Gd) : (gdB g).length ≤ 18 := by
  have h1 := nB_le g.1
  have h2 := nB_le g.2
  unfold gdB
  rw [List.length_append]
  omega
theorem enB_le (e : En) : (enB e).length ≤ 36 := by
  have h1 := nB_le e.T
  have h2 := nB_le e.K
  have h3 := gdB_le e.g
  unfold enB
  simp only [List.length_append]
  omega
theorem flat_le {α : Type} (f : α → List UInt8) (b : Nat) (h : ∀ x, (f x).length ≤ b) : ∀ l : List α, (l.flatMap f).length ≤ b * l.length
  | [] => by simp
  | x :: l => by
    have h1 := flat_le f b h l
    have h2 := h x
    rw [List.flatMap_cons, List.length_append, List.length_cons, Nat.mul_succ]
    omega
theorem lineB_le (l : Ln) : (lineB l).length ≤ 36 + 18 * l.l.length := by
  have h1 := nB_le l.E
  have h2 := nB_le l.B
  have h3 := putNum_le (b01 l.L)
  have h4 := nB_le (l.l.length : Nat)
  have h5 := flat_le gdB 18 gdB_le l.l
  unfold lineB
  simp only [List.length_append]
  omega
theorem bytes_le {m : Ms} (hm : MsOk m) : (bytesM m).length ≤ 8000 := by
  have hK := mayM_K hm.may
  have k0 := nB_le m.K
  have hb : (bodyB m).length ≤ 7000 := by
    have kT := nB_le m.T
    have kP := nB_le m.P
    have kPT := nB_le m.PT
    have kY := putNum_le (b01 m.Y)
    have kC := nB_le m.C
    have kS := nB_le m.S
    have kM := nB_le m.M
    have kn := nB_le m.n
    have kN := nB_le m.N
    have kla := gdB_le m.la
    have kta := gdB_le m.ta
    have kl := lineB_le m.l
    have kle := nB_le (m.es.length : Nat)
    have kes := flat_le enB 36 enB_le m.es
    have kp : (partB m.p).length ≤ 200 := by
      have h1 := encS_le m.p
      have h2 : (encS m.p).data.toList.length = (encS m.p).size := Array.length_toList
      have h3 := putNum_le (encS m.p).data.toList.length
      unfold partB Wire.putText
      rw [List.length_append]
      omega
    have hA : m.K ≤ 4 → m.es.length ≤ 8 := fun h => (mayM_a hm.may h).len
    have hL : 4 < m.K → m.l.l.length ≤ 20 := fun h => (checkL_ok (mayM_l hm.may h)).1
    unfold bodyB askB voteB appsB appdB pullL partL entsB askB voteB
    by_cases h1 : m.K = 1
    · rw [if_pos h1]; simp only [List.length_append]; omega
    by_cases h2 : m.K = 2
    · rw [if_neg h1, if_pos h2]; simp only [List.length_append]; omega
    by_cases h3 : m.K = 3
    · have := hA (by omega)
      rw [if_neg h1, if_neg h2, if_pos h3]; simp only [List.length_append]; omega
    by_cases h4 : m.K = 4
    · rw [if_neg h1, if_neg h2, if_neg h3, if_pos h4]; simp only [List.length_append]; omega
    have := hL (by omega)
    by_cases h5 : m.K = 5
    · rw [if_neg h1, if_neg h2, if_neg h3, if_neg h4, if_pos h5]; simp only [List.length_append]; omega
    by_cases h6 : m.K = 6
    · rw [if_neg h1, if_neg h2, if_neg h3, if_neg h4, if_neg h5, if_pos h6]; simp only [List.length_append]; omega
    · rw [if_neg h1, if_neg h2, if_neg h3, if_neg h4, if_neg h5, if_neg h6]; omega
  unfold bytesM
  rw [List.length_append]
  omega
theorem enc_size {m : Ms} (hm : MsOk m) (h : checkB m = true) : (encM m).size = (bytesM m).length + 4 := by
  rw [(enc_dec hm h).2.2, size_strOf, Crc.length_sealed]
set_option maxRecDepth 100000 in
set_option maxHeartbeats 8000000 in
theorem law_MsgBack (v : Value) (m : Ms) (s : ByteArray) (w : World) (hv : InMs w v m) (_ : True) (hs : s.size ≤ reachBytes) : Calls Try.prog 3 #[v, .string s] w fun e w' => e = .returned (.bool true) ∧ Below w.heap.size w w' := by
  have HENC := Lib.hid (fun w2 (h : Below w.heap.size w w2) => mencode_any w2 v m (hv.keep h))
  have HCHK := Lib.hid (fun w2 (h : Below w.heap.size w w2) => mcheck_any w2 v m (hv.keep h))
  have HSAME := Lib.hid (fun w2 (h : Below w.heap.size w w2) (u : Value) (h2 : InMs w2 u m) => msame_any w2 v u m m (hv.keep h) h2)
  have hself : sameM m m = true := sameM_iff.2 rfl
  rw [hself] at HSAME
  have hszero : sameM zeroM zeroM = true := sameM_iff.2 rfl
  have HSZ0 := Lib.hid (fun w2 (u : Value) (h2 : InMs w2 u zeroM) => msame_any w2 u (.agg (msV zeroM)) zeroM zeroM h2 (lit_in w2 rfl rfl rfl zeroM_wf))
  rw [hszero] at HSZ0
  have HDS := Lib.hid (fun w2 => mdecode_any w2 s (Nat.le_trans hs (by decide)))
  have HW := Lib.hid works_any
  have hok := fun hm => hv.ok hm
  obtain ⟨ma, a1, a2, a3, c1, c2, c3, rfl, hone, hsz, hma, -, -, -, -⟩ := ms_cells hv
  have HMA := Lib.hid (Blk.new w 33 ma)
  have HB := Lib.hid ((Below.refl w.heap.size w).alloc (Nat.le_refl _) (Obj.cells ma 33))
  have HSZ := Lib.hid hsz
  unfold DecM at HDS
  -- what Decode says of s
  have HS2 : Hid ((∃ X, decM s = X ∧ decZ s = 0 ∧ encM X = s ∧ checkM X = 0) ∨ (decM s = zeroM ∧ decZ s = 4)) := Lib.hid (by
    cases h : decOkM s with
    | true =>
      obtain ⟨g1, g2, g3⟩ := dec_enc2 h
      exact .inl ⟨_, rfl, by unfold decZ; rw [if_pos h], g3, by unfold checkM; rw [if_pos g2]⟩
    | false => exact .inr ⟨by unfold decM; rw [if_neg (by rw [h]; decide)], by unfold decZ; rw [if_neg (by rw [h]; decide)]⟩)
  have HM2 : Hid ((∃ E, encM m = E ∧ checkM m = 0 ∧ decM E = m ∧ decZ E = 0 ∧ E.size ≤ 8192) ∨ (encM m = ByteArray.empty ∧ checkM m = 2)) := Lib.hid (by
    cases h : checkB m with
    | true =>
      have hmo := hok (checkB_may h)
      obtain ⟨g1, g2, g3⟩ := enc_dec hmo h
      exact .inl ⟨_, rfl, by unfold checkM; rw [if_pos h], g2, by unfold decZ; rw [if_pos g1], by rw [enc_size hmo h]; have := bytes_le hmo; omega⟩
    | false => exact .inr ⟨by unfold encM; rw [if_neg (by rw [h]; decide)], by unfold checkM; rw [if_neg (by rw [h]; decide)]⟩)
  have hss : (s.toList == s.toList) = true := by simp
  clear hv hs hok hone hsz hma hself hszero
  go_enter Try.func3, Try.ntmps3
  go_wp2_with fail
  refine (HW.out _).mono ?_
  rintro e w1 ⟨rfl, hb⟩
  replace HMA := Lib.hid (HMA.out.keep hb)
  replace HB := Lib.hid (HB.out.trans (hb.mono HB.out.size))
  clear hb
  go_wp2_with (first | refine wpList_wanted_run (by rfl) (.agg ma) (exec_load_blk 33 _ rfl w.heap.size rfl _ HMA.out Try.underlying33 rfl HSZ.out) ?_)
  refine (HENC.out _ HB.out).mono ?_
  rintro e w2 ⟨rfl, hb⟩
  replace HMA := Lib.hid (HMA.out.keep hb)
  replace HB := Lib.hid (HB.out.trans (hb.mono HB.out.size))
  clear hb HENC
  rcases HM2.out with ⟨E, e1, e2, e3, e4, e5⟩ | ⟨e1, e2⟩
  · have HDE := Lib.hid (fun w2 => mdecode_any w2 E (Nat.le_trans e5 (by decide)))
    unfold DecM at HDE
    rw [e3, e4] at HDE
    rw [e1, e2]
    have i5 : ¬ (8192 : Int) < (E.size : Int) := by omega
    clear e1 e2 e3 e4 e5 HM2
    go_wp2_with fail
    refine (HDE.out _).mono ?_
    rintro e w3 ⟨u, rfl, hu, hb⟩
    obtain ⟨ua, b1, b2, b3, d1, d2, d3, rfl, uone, usz, uma, -, -, -, -⟩ := ms_cells hu
    have UONE := Lib.hid uone
    have USZ := Lib.hid usz
    have USZ2 : Hid (zeroA.size = ua.size) := Lib.hid (by rw [uma]; rfl)
    replace HB := Lib.hid (HB.out.trans (hb.mono HB.out.size))
    replace HMA := Lib.hid (HMA.out.keep hb)
    have HU := Lib.hid hu
    clear hb hu uone usz uma
    have HZ := Lib.hid (Blk.new w3 33 zeroA)
    go_wp2_with (first | refine wpList_store_then rfl 33 _ _ rfl w3.heap.size ua rfl rfl 33 _ HZ.out USZ.out USZ2.out UONE.out ?_)
    refine Later.mk fun w4 hw4 => ?_
    have hal : Below w3.heap.size w3 w4 := by
      rw [hw4]
      exact Below.setRow ((Below.refl w3.heap.size w3).alloc (Nat.le_refl _) (Obj.cells zeroA 33)) (Nat.le_refl _) _
    have HUA : Hid (Blk w4 w3.heap.size 33 ua) := Lib.hid (by rw [hw4]; exact HZ.out.row _)
    replace HU := Lib.hid (HU.out.keep hal)
    replace HB := Lib.hid (HB.out.trans (hal.mono HB.out.size))
    replace HMA := Lib.hid (HMA.out.keep hal)
    clear hal hw4 HZ
    go_wp2_with (first | refine wpList_wanted_run (by rfl) (.agg ua) (exec_load_blk 33 _ rfl w3.heap.size rfl _ HUA.out Try.underlying33 rfl USZ.out) ?_ | refine wpList_wanted_run (by rfl) (.agg ma) (exec_load_blk 33 _ rfl w.heap.size rfl _ HMA.out Try.underlying33 rfl HSZ.out) ?_)
    refine (HSAME.out _ HB.out _ HU.out).mono ?_
    rintro e w5 ⟨rfl, hb⟩
    replace HB := Lib.hid (HB.out.trans (hb.mono HB.out.size))
    clear hb HMA HUA HU HSAME HDE
    go_wp2_with fail
    refine (HDS.out _).mono ?_
    rintro e w6 ⟨y, rfl, hy, hb⟩
    obtain ⟨ya, b1, b2, b3, d1, d2, d3, rfl, uone, usz, uma, -, -, -, -⟩ := ms_cells hy
    have YONE := Lib.hid uone
    have YSZ := Lib.hid usz
    have YSZ2 : Hid (zeroA.size = ya.size) := Lib.hid (by rw [uma]; rfl)
    replace HB := Lib.hid (HB.out.trans (hb.mono HB.out.size))
    have HY := Lib.hid hy
    clear hb hy uone usz uma
    have HZ := Lib.hid (Blk.new w6 33 zeroA)
    go_wp2_with (first | refine wpList_store_then rfl 33 _ _ rfl w6.heap.size ya rfl rfl 33 _ HZ.out YSZ.out YSZ2.out YONE.out ?_)
    refine Later.mk fun w7 hw4 => ?_
    have hal : Below w6.heap.size w6 w7 := by
      rw [hw4]
      exact Below.setRow ((Below.refl w6.heap.size w6).alloc (Nat.le_refl _) (Obj.cells zeroA 33)) (Nat.le_refl _) _
    have HYA : Hid (Blk w7 w6.heap.size 33 ya) := Lib.hid (by rw [hw4]; exact HZ.out.row _)
    replace HY := Lib.hid (HY.out.keep hal)
    replace HB := Lib.hid (HB.out.trans (hal.mono HB.out.size))
    clear hal hw4 HZ
    rcases HS2.out with ⟨X, e1, e2, e3, e4⟩ | ⟨e1, e2⟩
    · rw [e1] at HY
      have HEY := Lib.hid (fun w8 (h : InMs w8 (.agg ya) X) => mencode_any w8 (.agg ya) X h)
      rw [e3, e4] at HEY
      rw [e2]
      clear e1 e2 e3 e4 HS2
      go_wp2_with (first | refine wpList_wanted_run (by rfl) (.agg ya) (exec_load_blk 33 _ rfl w6.heap.size rfl _ HYA.out Try.underlying33 rfl YSZ.out) ?_)
      refine (HEY.out _ HY.out).mono ?_
      rintro e w8 ⟨rfl, hb⟩
      replace HB := Lib.hid (HB.out.trans (hb.mono HB.out.size))
      clear hb HY HYA
      go_wp2
      go_ret
      exact ⟨rfl, HB.out⟩
    · rw [e1] at HY
      rw [e2]
      clear e1 e2 HS2
      go_wp2_with (first | refine wpList_wanted_run (by rfl) (.agg ya) (exec_load_blk 33 _ rfl w6.heap.size rfl _ HYA.out Try.underlying33 rfl YSZ.out) ?_)
      refine (HSZ0.out _ _ HY.out).mono ?_
      rintro e w8 ⟨rfl, hb⟩
      replace HB := Lib.hid (HB.out.trans (hb.mono HB.out.size))
      clear hb HY HYA
      go_wp2
      go_ret
      exact ⟨rfl, HB.out⟩
  · rw [e1, e2]
    have e2' := e2
    rw [e2] at HCHK
    clear e1 e2 e2' HM2
    go_wp2_with (first | refine wpList_wanted_run (by rfl) (.agg ma) (exec_load_blk 33 _ rfl w.heap.size rfl _ HMA.out Try.underlying33 rfl HSZ.out) ?_)
    refine (HCHK.out _ HB.out).mono ?_
    rintro e w5 ⟨rfl, hb⟩
    replace HB := Lib.hid (HB.out.trans (hb.mono HB.out.size))
    clear hb HMA HSAME HCHK
    go_wp2_with fail
    refine (HDS.out _).mono ?_
    rintro e w6 ⟨y, rfl, hy, hb⟩
    obtain ⟨ya, b1, b2, b3, d1, d2, d3, rfl, uone, usz, uma, -, -, -, -⟩ := ms_cells hy
    have YONE := Lib.hid uone
    have YSZ := Lib.hid usz
    have YSZ2 : Hid (zeroA.size = ya.size) := Lib.hid (by rw [uma]; rfl)
    replace HB := Lib.hid (HB.out.trans (hb.mono HB.out.size))
    have HY := Lib.hid hy
    clear hb hy uone usz uma
    have HZ := Lib.hid (Blk.new w6 33 zeroA)
    go_wp2_with (first | refine wpList_store_then rfl 33 _ _ rfl w6.heap.size ya rfl rfl 33 _ HZ.out YSZ.out YSZ2.out YONE.out ?_)
    refine Later.mk fun w7 hw4 => ?_
    have hal : Below w6.heap.size w6 w7 := by
      rw [hw4]
      exact Below.setRow ((Below.refl w6.heap.size w6).alloc (Nat.le_refl _) (Obj.cells zeroA 33)) (Nat.le_refl _) _
    have HYA : Hid (Blk w7 w6.heap.size 33 ya) := Lib.hid (by rw [hw4]; exact HZ.out.row _)
    replace HY := Lib.hid (HY.out.keep hal)
    replace HB := Lib.hid (HB.out.trans (hal.mono HB.out.size))
    clear hal hw4 HZ
    rcases HS2.out with ⟨X, e1, e2, e3, e4⟩ | ⟨e1, e2⟩
    · rw [e1] at HY
      have HEY := Lib.hid (fun w8 (h : InMs w8 (.agg ya) X) => mencode_any w8 (.agg ya) X h)
      rw [e3, e4] at HEY
      rw [e2]
      clear e1 e2 e3 e4 HS2
      go_wp2_with (first | refine wpList_wanted_run (by rfl) (.agg ya) (exec_load_blk 33 _ rfl w6.heap.size rfl _ HYA.out Try.underlying33 rfl YSZ.out) ?_)
      refine (HEY.out _ HY.out).mono ?_
      rintro e w8 ⟨rfl, hb⟩
      replace HB := Lib.hid (HB.out.trans (hb.mono HB.out.size))
      clear hb HY HYA
      go_wp2
      go_ret
      exact ⟨rfl, HB.out⟩
    · rw [e1] at HY
      rw [e2]
      clear e1 e2 HS2
      go_wp2_with (first | refine wpList_wanted_run (by rfl) (.agg ya) (exec_load_blk 33 _ rfl w6.heap.size rfl _ HYA.out Try.underlying33 rfl YSZ.out) ?_)
      refine (HSZ0.out _ _ HY.out).mono ?_
      rintro e w8 ⟨rfl, hb⟩
      replace HB := Lib.hid (HB.out.trans (hb.mono HB.out.size))
      clear hb HY HYA
      go_wp2
      go_ret
      exact ⟨rfl, HB.out⟩
end Go.Proofs.Ytikimmhkfjaijaa
