/-
  STREAM: the law StreamWhole, walked (printed by wip/gen-stmu.py).
-/
import Derived.Test.YtpfdpodelkleiaaStmS
namespace Go.Proofs.Ytpfdpodelkleiaa
open Go.RowKit Reg Go.ChangeShapes

theorem checkP_ok {p : Prt} (h : okP p) : checkP p = 0 := if_pos h
theorem mayC_mono : ∀ (cs : List Cg) (ab ab' : Int), ab' ≤ ab → mayC ab cs = true → mayC ab' cs = true
  | [], _, _, _, _ => rfl
  | x :: xs, ab, ab', h, hm => by
    unfold mayC at hm ⊢
    by_cases hb : badC ab x = true
    · rw [if_pos hb] at hm; cases hm
    · rw [if_neg hb] at hm
      rw [if_neg ?_]
      · exact hm
      · unfold badC at hb ⊢
        simp only [decide_eq_true_eq, not_or] at hb ⊢
        omega
theorem mayC_drop : ∀ (cs : List Cg) (ab : Int) (k : Nat), mayC ab cs = true → mayC ab (cs.drop k) = true
  | [], _, _, _ => by simp [mayC]
  | x :: xs, ab, 0, h => h
  | x :: xs, ab, k + 1, h => by
    rw [List.drop_succ_cons]
    unfold mayC at h
    by_cases hb : badC ab x = true
    · rw [if_pos hb] at h; cases h
    · rw [if_neg hb] at h
      refine mayC_drop xs ab k (mayC_mono xs x.1 ab ?_ h)
      unfold badC at hb
      simp only [decide_eq_true_eq, not_or] at hb
      omega
theorem mayC_take : ∀ (cs : List Cg) (ab : Int) (k : Nat), mayC ab cs = true → mayC ab (cs.take k) = true
  | [], _, _, _ => by simp [mayC]
  | x :: xs, ab, 0, h => rfl
  | x :: xs, ab, k + 1, h => by
    rw [List.take_succ_cons]
    unfold mayC at h ⊢
    by_cases hb : badC ab x = true
    · rw [if_pos hb] at h; cases h
    · rw [if_neg hb] at h ⊢
      exact mayC_take xs x.1 k h
theorem cutQ_ok {gb gt : Gd} {l : List Cg} {k : Nat} (h : cutOk gb gt l k) : okP (cutQ gb gt l k) := by
  obtain ⟨h1, h2, h3, h4⟩ := h
  have hl := mayC_len l (-1) (by omega) h2
  have hc : ((l.drop k).take 2).length = min 2 (l.length - k) := by rw [List.length_take, List.length_drop]
  refine ⟨h1, ⟨?_, ?_⟩, ⟨?_, ?_⟩, ?_, ?_, mayC_take _ _ _ (mayC_drop _ _ _ h2)⟩
  · show (0 : Int) ≤ (l.length : Int); omega
  · show (l.length : Int) ≤ 8; omega
  · show (0 : Int) ≤ (k : Int); omega
  · show (k : Int) ≤ (l.length : Int); omega
  · show (((l.drop k).take 2).length : Int) ≤ min 2 ((l.length : Int) - (k : Int)); rw [hc]; omega
  · show ¬ (((l.drop k).take 2).length = 0 ∧ (0 : Int) < (l.length : Int)); rw [hc]; omega
theorem cutQ_wf {gb gt : Gd} {l : List Cg} {k : Nat} (h : cutOk gb gt l k) (hw : wfG gb ∧ wfG gt) : wfPr (cutQ gb gt l k) := by
  have hl := mayC_len l (-1) (by omega) h.2.1
  have h4 := h.2.2.2
  exact ⟨hw.1, hw.2, lit_len (by unfold maxLen; omega), lit_len (by unfold maxLen; omega)⟩
theorem DecT.pz {w : World} {p : Prt} {z : Int} {e : Ending} {w' : World} (h : DecT w p z e w') : ∃ a n c, e = .returned (.tuple #[.agg #[.int .u64 p.b.1, .int .u64 p.b.2, .int .u64 p.t.1, .int .u64 p.t.2, .int .i64 p.f, .int .i64 p.a, .slice a n c], .int .i64 z]) ∧ OwPr w' w.heap.size (.agg #[.int .u64 p.b.1, .int .u64 p.b.2, .int .u64 p.t.1, .int .u64 p.t.2, .int .i64 p.f, .int .i64 p.a, .slice a n c]) p ∧ n = p.cs.length ∧ Below w.heap.size w w' := by
  obtain ⟨v, rfl, hv, hb⟩ := h
  have h2 := hv
  obtain ⟨sv, rfl, hs, hw⟩ := hv
  obtain ⟨a, c, rfl, -⟩ := hs.rd
  exact ⟨a, _, c, rfl, h2, rfl, hb⟩
/-- one whole turn: what is cut, its bytes, and what is read back -/
theorem turn_cut (w : World) (g0 g1 : Gd) (u : Value) (M : List Cg) (k : Nat) {base : Nat} (ho : OwC w base u M) (hgw : wfG g0 ∧ wfG g1) (hok : cutOk g0 g1 M k) :
    Calls Try.prog 10 #[aggG g0, aggG g1, u, .int .i64 (k : Int)] w (PzT w (cutQ g0 g1 M k) 0) := (cut_good w g0 g1 u M k ho.rdc hgw hok).mono fun e w' h => by
  obtain ⟨a, n, c, rfl, h1, hb⟩ := h.pz
  exact ⟨a, n, c, rfl, h1.inp, hb⟩
theorem turn_dec (w : World) {p : Prt} (hw : wfPr p) (hok : okP p) : Calls Try.prog 20 #[.string (encS p)] w (DecT w p 0) := by
  have h := dec_any w (encS p) (encS_le p)
  have hd := dec_enc hw hok 9 2 (by omega) (by omega)
  rwa [hd.1, hd.2] at h
theorem app_list {w : World} {base b2 : Nat} {v u : Value} {cs ds : List Cg} (ty : TypeId) (ho : OwC w base v cs) (hu : OwC w b2 u ds) (hn : cs.length + ds.length ≤ 100) (hb : base ≤ w.heap.size) :
    ∃ v' w', (Builtin.append_ #[27, 27] ty #[v, u]).run Try.prog w = .ok v' w' ∧ AppC w base v (cs ++ ds) v' w' := by
  obtain ⟨i, hi, hz0, hz1, hz2⟩ := info_parts chg_info
  obtain ⟨v', w', h1, h2, h3, _⟩ := app_own (P := Try.prog) w base 27 ty 36 i _ 2 24 Try.underlying27 hi hz0 hz1 hz2 rfl (by decide) ho.1 hu.rdc.1 (cgsL_one _) (by unfold maxLen; omega) (by omega) hb
  refine ⟨v', w', h1, ⟨?_, by rw [List.length_append]; unfold maxLen; omega⟩, h3⟩
  rw [cgsL_append, List.length_append]
  exact h2
set_option maxRecDepth 100000 in
set_option maxHeartbeats 8000000 in
theorem law_StreamWhole (v0 : Value) (gg : Gd × Gd) (v : Value) (ms : List Mk) (w : World) (hv0 : v0 = .agg #[.int .u64 gg.1.1, .int .u64 gg.1.2, .int .u64 gg.2.1, .int .u64 gg.2.2]) (hgw : wfG gg.1 ∧ wfG gg.2) (hm : InM w v ms) (_ : True) :
    Calls Try.prog 6 #[v0, v] w fun e w' => e = .returned (.bool true) ∧ Below w.heap.size w w' := by
  subst hv0
  obtain ⟨g0, g1⟩ := gg
  dsimp only at *
  have hM30 : (madeP ms).length ≤ 30 := by
    unfold madeP
    rw [List.length_map, List.length_take]
    omega
  have HMA := Lib.hid (fun w' (h : Below w.heap.size w w') => made_any w' v ms (hm.keep h))
  obtain ⟨a0, c0, rfl, -⟩ := hm
  obtain ⟨M, hMM⟩ : ∃ M, madeP ms = M := ⟨_, rfl⟩
  rw [hMM] at HMA hM30
  have HM30 := Lib.hid hM30
  have hb0 := (Below.refl w.heap.size w).alloc (Nat.le_refl _) (Obj.cells #[.int .u64 g0.1, .int .u64 g0.2, .int .u64 g1.1, .int .u64 g1.2] 25)
  have h1 := Blk.new w 25 #[.int .u64 g0.1, .int .u64 g0.2, .int .u64 g1.1, .int .u64 g1.2]
  have HGW := Lib.hid hgw
  clear hgw hMM hM30
  go_enter Try.func6, Try.ntmps6
  go_wp2_with fail
  generalize w.alloc (Obj.cells #[.int .u64 g0.1, .int .u64 g0.2, .int .u64 g1.1, .int .u64 g1.2] 25) = w1 at *
  have HB := Lib.hid hb0
  have HG := Lib.hid h1
  clear hb0 h1
  refine (HMA.out _ HB.out).mono ?_
  rintro e w2 ⟨ua, rfl, ho, hb⟩
  replace HB := Lib.hid (HB.out.trans (hb.mono HB.out.size))
  replace HG := Lib.hid (HG.out.keep hb)
  have HAL := Lib.hid ho
  obtain ⟨aa, ca, rfl, -, hxa⟩ := ho.rd
  have HXA := Lib.hid hxa
  clear hb ho HMA hxa
  generalize hML : M.length = n at *
  go_wp2_with fail
  by_cases hbad : ¬ (upG g0 g1 = true ∧ mayC (-1) M = true)
  · have HCB := Lib.hid (fun w9 (h : Below w2.heap.size w2 w9) => cut_bad w9 g0 g1 _ M 0 (HAL.out.keep h).rdc (fun h => hbad ⟨h.1, h.2.1⟩))
    clear hbad
    go_loopw [6, 7] (fun l i wr => i = .int .i64 0 ∧ Below w2.heap.size w2 wr) (fun _ _ _ => 0)
    case atStart => exact ⟨rfl, Below.refl _ _⟩
    case round =>
      obtain ⟨rfl, hb⟩ := hrel
      have hg := HG.out.keep hb
      have HBR := Lib.hid hb
      have x0 := hg.cell 0
      have x1 := hg.cell 1
      have x2 := hg.cell 2
      have x3 := hg.cell 3
      simp at x0 x1 x2 x3
      clear hb hg
      go_wp2_with fail
      clear x0 x1 x2 x3
      refine (HCB.out _ HBR.out).mono ?_
      rintro e w3 hc
      obtain ⟨ap, np, cp, rfl, hpr, hb⟩ := hc.pz
      have hb2 := hb.trans (((Below.refl w3.heap.size w3).alloc (Nat.le_refl _) (Obj.cells #[.int .u64 zeroP.b.1, .int .u64 zeroP.b.2, .int .u64 zeroP.t.1, .int .u64 zeroP.t.2, .int .i64 zeroP.f, .int .i64 zeroP.a, .slice ap np cp] 30)).mono hb.size)
      have HB3 := Lib.hid (HB.out.trans ((HBR.out.trans (hb2.mono HBR.out.size)).mono HB.out.size))
      clear hb hb2 hc hpr
      go_wp2_with fail
      refine (works_any _).mono ?_
      rintro e w14 ⟨rfl, hb⟩
      have HBZ := Lib.hid (HB3.out.trans (hb.mono HB3.out.size))
      clear hb
      go_wp2
      go_ret
      exact ⟨rfl, HBZ.out⟩
  · have hup : upG g0 g1 = true ∧ mayC (-1) M = true := Classical.not_not.1 hbad
    have hn8 := mayC_len M (-1) (by omega) hup.2
    rw [hML] at hn8
    have HN8 := Lib.hid hn8
    have HUP := Lib.hid hup
    have HCK := Lib.hid (fun (k : Nat) (h : (k : Int) ≤ max 0 ((n : Int) - 1)) => show cutOk g0 g1 M k from ⟨hup.1, hup.2, by omega, by rw [hML]; exact h⟩)
    have HML := Lib.hid hML
    clear hbad hup hn8 hML
    go_loopw [6, 7] (fun l i wr => ∃ k : Nat, (k : Int) ≤ max 0 ((n : Int) - 1) ∧ k ≤ n ∧ i = .int .i64 k ∧ Below w2.heap.size w2 wr ∧ OwC wr w2.heap.size l (M.take k)) (fun _ i _ => n - (intOf i).toNat)
    case atStart => exact ⟨0, by omega, Nat.zero_le _, rfl, Below.refl _ _, by rw [List.take_zero]; exact OwC.nil_ _ _⟩
    case round =>
      obtain ⟨k, hk0, hkn, rfl, hb, ho⟩ := hrel
      have hok := HCK.out k hk0
      have HOK := Lib.hid hok
      have hwf := cutQ_wf hok HGW.out
      have hokp := cutQ_ok hok
      obtain ⟨q, hq⟩ : ∃ q, cutQ g0 g1 M k = q := ⟨_, rfl⟩
      have hqf : q.f = (k : Int) ∧ q.a = (n : Int) ∧ q.cs = (M.drop k).take 2 := by rw [← hq]; exact ⟨rfl, by rw [← HML.out]; rfl, rfl⟩
      rw [hq] at hwf hokp
      have HBR := Lib.hid hb
      have HO := Lib.hid ho
      have HTC := Lib.hid (show Calls Try.prog 10 #[.agg #[.int .u64 g0.1, .int .u64 g0.2], .agg #[.int .u64 g1.1, .int .u64 g1.2], .slice aa n ca, .int .i64 (k : Int)] _ (PzT _ q 0) from by rw [← hq]; exact turn_cut _ g0 g1 _ M k (HAL.out.keep hb) HGW.out hok)
      have HWF := Lib.hid (And.intro hwf hokp)
      have HQF := Lib.hid hqf
      have HKK := Lib.hid (And.intro hk0 hkn)
      have hg := HG.out.keep hb
      have x0 := hg.cell 0
      have x1 := hg.cell 1
      have x2 := hg.cell 2
      have x3 := hg.cell 3
      simp at x0 x1 x2 x3
      clear hb hg ho hok hwf hokp hq hqf hk0 hkn
      go_wp2_with fail
      clear x0 x1 x2 x3
      refine HTC.out.mono ?_
      rintro e w3 ⟨ap, np, cp, rfl, hi, hb⟩
      have hb2 := (Below.refl w3.heap.size w3).alloc (Nat.le_refl _) (Obj.cells #[.int .u64 q.b.1, .int .u64 q.b.2, .int .u64 q.t.1, .int .u64 q.t.2, .int .i64 q.f, .int .i64 q.a, .slice ap np cp] 30)
      have hpb := Blk.new w3 30 #[.int .u64 q.b.1, .int .u64 q.b.2, .int .u64 q.t.1, .int .u64 q.t.2, .int .i64 q.f, .int .i64 q.a, .slice ap np cp]
      have HPI := Lib.hid (hi.keep hb2)
      have HB4 := Lib.hid (hb.trans (hb2.mono hb.size))
      clear hi hb hb2
      go_wp2_with fail
      generalize hgp : w3.heap.size = gp at *
      generalize w3.alloc (Obj.cells #[.int .u64 q.b.1, .int .u64 q.b.2, .int .u64 q.t.1, .int .u64 q.t.2, .int .i64 q.f, .int .i64 q.a, .slice ap np cp] 30) = w4 at *
      have HPB := Lib.hid hpb
      clear hpb hgp HTC
      have HEN := Lib.hid (enc_any _ _ q HPI.out)
      rw [checkP_ok HWF.out.2] at HEN
      obtain ⟨B, hB⟩ : ∃ x, encS q = x := ⟨_, rfl⟩
      have HTD := Lib.hid (fun w => turn_dec w HWF.out.1 HWF.out.2)
      rw [hB] at HEN HTD
      clear hB
      refine HEN.out.mono ?_
      rintro e w5 ⟨rfl, hb⟩
      replace HPB := Lib.hid (HPB.out.keep hb)
      replace HPI := Lib.hid (HPI.out.keep hb)
      replace HB4 := Lib.hid (HB4.out.trans (hb.mono HB4.out.size))
      clear hb HEN
      go_wp2_with fail
      refine (HTD.out _).mono ?_
      rintro e w6 hd
      obtain ⟨aq, nq, cq, rfl, hpo, hnq, hb⟩ := hd.pz
      have hb2 := (Below.refl w6.heap.size w6).alloc (Nat.le_refl _) (Obj.cells #[.int .u64 q.b.1, .int .u64 q.b.2, .int .u64 q.t.1, .int .u64 q.t.2, .int .i64 q.f, .int .i64 q.a, .slice aq nq cq] 30)
      have hqb := Blk.new w6 30 #[.int .u64 q.b.1, .int .u64 q.b.2, .int .u64 q.t.1, .int .u64 q.t.2, .int .i64 q.f, .int .i64 q.a, .slice aq nq cq]
      have HQO := Lib.hid (hpo.keep hb2)
      have hpb := HPB.out.keep (hb.trans (hb2.mono hb.size))
      have HPI2 := Lib.hid (HPI.out.keep (hb.trans (hb2.mono hb.size)))
      have HB6 := Lib.hid (HB4.out.trans ((hb.trans (hb2.mono hb.size)).mono HB4.out.size))
      have HQB := Lib.hid hqb
      have hsq : w6.heap.size < (w6.alloc (Obj.cells #[.int .u64 q.b.1, .int .u64 q.b.2, .int .u64 q.t.1, .int .u64 q.t.2, .int .i64 q.f, .int .i64 q.a, .slice aq nq cq] 30)).heap.size := by simp
      have HSQ := Lib.hid hsq
      have HWQ := Lib.hid (show wr.heap.size ≤ w6.heap.size from Nat.le_trans HB4.out.size hb.size)
      have y0 := hpb.cell 0
      have y1 := hpb.cell 1
      have y2 := hpb.cell 2
      have y3 := hpb.cell 3
      have y4 := hpb.cell 4
      have y5 := hpb.cell 5
      have y6 := hpb.cell 6
      simp at y0 y1 y2 y3 y4 y5 y6
      have HNQ := Lib.hid hnq
      clear hd hpo hnq hb hb2 hqb hpb hsq HPB HPI HTD
      go_wp2_with fail
      clear y0 y1 y2 y3 y4 y5 y6
      refine (sameZ _ HPI2.out HQO.out.inp).mono ?_
      rintro e w7 ⟨rfl, hb⟩
      replace HQB := Lib.hid (HQB.out.keep hb)
      replace HQO := Lib.hid (HQO.out.keep hb)
      have HB7 := Lib.hid (HB6.out.trans (hb.mono HB6.out.size))
      have z2 := HQB.out.cell 4
      have z3 := HQB.out.cell 5
      have z4 := HQB.out.cell 6
      simp at z2 z3 z4
      rw [HQF.out.1] at z2
      rw [HQF.out.2.1] at z3
      have HOG := Lib.hid (HO.out.keep HB7.out)
      have HGO := Lib.hid (show ∀ b, Value.ownBlock _ = some b → b ≠ w6.heap.size from fun b hb => by have h1 := (HO.out.1.lt b hb).2; have h2 := HWQ.out; omega)
      have hdl : ((M.drop k).take 2).length = min 2 (n - k) := by rw [List.length_take, List.length_drop, HML.out]
      have hnn : nq = min 2 (n - k) := by rw [HNQ.out, HQF.out.2.2, hdl]
      have hap := app_list (w := w7) 27 (base := w2.heap.size) (b2 := w5.heap.size) HOG.out (u := .slice aq nq cq) (ds := (M.drop k).take 2) (by
        obtain ⟨sv, he, hso, -⟩ := HQO.out
        unfold prV at he
        simp only [Value.agg.injEq, Array.mk.injEq, List.cons.injEq] at he
        rw [← he.2.2.2.2.2.2.1, HQF.out.2.2] at hso
        exact hso.mono (Nat.le_refl _)) (by rw [List.length_take, hdl]; have := HM30.out; have := HKK.out; omega) (Nat.le_trans HBR.out.size HB7.out.size)
      have HAP := Lib.hid hap
      have HNN := Lib.hid hnn
      have HOGB := Lib.hid (Nat.le_trans HBR.out.size HB7.out.size)
      clear hb HPI2 HB6 hdl hnn hap HQO
      go_wp2_with (at_builtin; refine wpList_append_run rfl _ _ 27 rfl _ _ rfl rfl _ HAP.out ?_)
      refine Later.mk fun _ _ u8 w8 hp => ?_
      have HB8 := Lib.hid (HBR.out.trans ((HB7.out.mono HBR.out.size).trans (hp.below HOG.out HOGB.out)))
      have hk8 := (Kp.of_grown hp.2).blk HQB.out (fun h => HGO.out _ h rfl)
      have z6 := hk8.cell 6
      simp at z6
      have htk : M.take k ++ (M.drop k).take 2 = M.take (k + nq) := by
        have h1 := HNN.out
        rw [List.take_add]
        congr 1
        by_cases h2 : 2 ≤ n - k
        · rw [show nq = 2 by omega]
        · rw [List.take_of_length_le (by rw [List.length_drop, HML.out]; omega), List.take_of_length_le (by rw [List.length_drop, HML.out]; omega)]
      have HO8 := Lib.hid (show OwC w8 w2.heap.size u8 (M.take (k + nq)) from by rw [← htk]; exact hp.1)
      have I3 := Lib.hid (show wrap64 ((k : Int) + (nq : Int)) = ((k + nq : Nat) : Int) from by have h1 := HNN.out; have h2 := HKK.out; have h3 := HN8.out; rw [IntWalk.wrap64_in _ (by omega)]; omega)
      have i3 := I3.out
      obtain ⟨K, hK⟩ : ∃ K, k + nq = K := ⟨_, rfl⟩
      have HK := Lib.hid (show (K ≤ n ∧ (K < n → k < K ∧ (K : Int) ≤ max 0 ((n : Int) - 1)) ∧ (¬ K < n → K = n)) ∧ True from by have h1 := HNN.out; have h2 := HKK.out; exact ⟨by omega, trivial⟩)
      rw [hK] at i3 HO8
      have HI3 := Lib.hid i3
      clear hp hk8 htk I3 hK HAP HOG HQB z2 z3 z4 HNN HNQ
      by_cases hKn : K < n
      · have i4 : (K : Int) < (n : Int) := by omega
        have HKN := Lib.hid hKn
        clear hKn
        go_wp2
        rw [HI3.out]
        clear i3 i4 z6
        exact ⟨⟨K, (HK.out.1.2.1 HKN.out).2, HK.out.1.1, rfl, HB8.out, HO8.out⟩, by have := (HK.out.1.2.1 HKN.out).1; have := HKN.out; simp [intOf]; omega⟩
      · obtain rfl := HK.out.1.2.2 hKn
        have i4 : ¬ (K : Int) < (K : Int) := by omega
        have i5 : (K : Int) ≤ (K : Int) := by omega
        have ho8 := HO8.out
        rw [← HML.out, List.take_length] at ho8
        obtain ⟨ag, cg, rfl, -, hxb⟩ := ho8.rd
        have HXB := Lib.hid hxb
        rw [HML.out]
        have HXA2 := Lib.hid (HXA.out)
        rw [HML.out] at HXB
        clear hKn i4 ho8 hxb
        generalize hZ : (fun j => M.getD j (0, ByteArray.empty)) = Z at *
        have hZj : ∀ j, M.getD j (0, ByteArray.empty) = Z j := fun j => by rw [← hZ]
        simp only [hZj] at HXA2 HXB
        clear hZ hZj
        go_wp2_with fail
        clear i3 i5 z6
        go_loopw [14] (fun i wr => ∃ k : Nat, k ≤ K ∧ i = .int .i64 k ∧ Below w8.heap.size w8 wr) (fun i _ => K - (intOf i).toNat)
        case atStart => exact ⟨0, Nat.zero_le _, rfl, Below.refl _ _⟩
        case round =>
          obtain ⟨j, hj, rfl, hb⟩ := hrel
          have HBJ := Lib.hid hb
          clear hb
          by_cases hjn : j < K
          · obtain ⟨ga, oa, rfl, hca0, hca1⟩ := HXA2.out j hjn
            obtain ⟨gb, ob, rfl, hcb0, hcb1⟩ := HXB.out j hjn
            replace hca0 := cell_later HB8.out hca0
            replace hca1 := cell_later HB8.out hca1
            generalize Z j = zj at *
            obtain ⟨xb, xd⟩ := zj
            dsimp only at hca0 hca1 hcb0 hcb1
            have HCC := Lib.hid (And.intro (And.intro hca0 hca1) (And.intro hcb0 hcb1))
            have HJN := Lib.hid hjn
            have i1 : (j : Int) < (K : Int) := by omega
            have I3 := Lib.hid (show wrap64 ((j : Int) + 1) = (j : Int) + 1 from by have h2 := HN8.out; exact IntWalk.wrap64_in _ (by omega))
            clear hca0 hca1 hcb0 hcb1 hj
            go_wp2_with fail
            clear i1
            refine wp_region_chain [] (kv []) (fun _ w => Below wr.heap.size wr w) (by kernel_rfl) (by kernel_rfl) (by kernel_rfl) (kv_inh _) (Below.drew (Below.refl _ _)) ?_
            intro ν hν
            clear hν
            refine ch_plain 0 0 1 (by rfl) rfl (by kernel_rfl) (by kernel_rfl) ?_
            apply Exists.intro
            refine ⟨fun st w2 hlo hhi hJ => ?_, ?_⟩
            · clear hlo hhi hJ
              go_simp
              exact And.intro rfl rfl
            simp only [Act.put, List.setIfInBounds_toArray, List.set_cons_succ, List.set_cons_zero, Nat.reduceAdd]
            refine ch_plain 0 0 1 (by rfl) rfl (by kernel_rfl) (by kernel_rfl) ?_
            apply Exists.intro
            refine ⟨fun st w2 hlo hhi hJ => ?_, ?_⟩
            · clear hlo hhi hJ
              go_simp
              exact And.intro rfl rfl
            simp only [Act.put, List.setIfInBounds_toArray, List.set_cons_succ, List.set_cons_zero, Nat.reduceAdd]
            refine ch_plain 0 0 1 (by rfl) rfl (by kernel_rfl) (by kernel_rfl) ?_
            apply Exists.intro
            refine ⟨fun st w2 hlo hhi hJ => ?_, ?_⟩
            · have hjn := HJN.out
              clear hlo hhi hJ
              go_simp
              exact And.intro rfl rfl
            simp only [Act.put, List.setIfInBounds_toArray, List.set_cons_succ, List.set_cons_zero, Nat.reduceAdd]
            refine ch_plain 0 0 1 (by rfl) rfl (by kernel_rfl) (by kernel_rfl) ?_
            apply Exists.intro
            refine ⟨fun st w2 hlo hhi hJ => ?_, ?_⟩
            · replace hJ : Below wr.heap.size wr w2 := hJ
              have h0 := cell_later (HBJ.out.trans (hJ.mono HBJ.out.size)) HCC.out.2.1
              have h1 := cell_later (HBJ.out.trans (hJ.mono HBJ.out.size)) HCC.out.2.2
              clear hlo hhi hJ
              go_simp
              exact And.intro rfl rfl
            simp only [Act.put, List.setIfInBounds_toArray, List.set_cons_succ, List.set_cons_zero, Nat.reduceAdd]
            refine ch_plain 0 0 1 (by rfl) rfl (by kernel_rfl) (by kernel_rfl) ?_
            apply Exists.intro
            refine ⟨fun st w2 hlo hhi hJ => ?_, ?_⟩
            · clear hlo hhi hJ
              go_simp
              exact And.intro rfl rfl
            simp only [Act.put, List.setIfInBounds_toArray, List.set_cons_succ, List.set_cons_zero, Nat.reduceAdd]
            refine ch_plain 0 0 1 (by rfl) rfl (by kernel_rfl) (by kernel_rfl) ?_
            apply Exists.intro
            refine ⟨fun st w2 hlo hhi hJ => ?_, ?_⟩
            · clear hlo hhi hJ
              go_simp
              exact And.intro rfl rfl
            simp only [Act.put, List.setIfInBounds_toArray, List.set_cons_succ, List.set_cons_zero, Nat.reduceAdd]
            refine ch_plain 0 0 1 (by rfl) rfl (by kernel_rfl) (by kernel_rfl) ?_
            apply Exists.intro
            refine ⟨fun st w2 hlo hhi hJ => ?_, ?_⟩
            · have hjn := HJN.out
              clear hlo hhi hJ
              go_simp
              exact And.intro rfl rfl
            simp only [Act.put, List.setIfInBounds_toArray, List.set_cons_succ, List.set_cons_zero, Nat.reduceAdd]
            refine ch_plain 0 0 1 (by rfl) rfl (by kernel_rfl) (by kernel_rfl) ?_
            apply Exists.intro
            refine ⟨fun st w2 hlo hhi hJ => ?_, ?_⟩
            · replace hJ : Below wr.heap.size wr w2 := hJ
              have h0 := cell_later (HBJ.out.trans (hJ.mono HBJ.out.size)) HCC.out.1.1
              have h1 := cell_later (HBJ.out.trans (hJ.mono HBJ.out.size)) HCC.out.1.2
              clear hlo hhi hJ
              go_simp
              exact And.intro rfl rfl
            simp only [Act.put, List.setIfInBounds_toArray, List.set_cons_succ, List.set_cons_zero, Nat.reduceAdd]
            refine ch_plain 0 0 1 (by rfl) rfl (by kernel_rfl) (by kernel_rfl) ?_
            apply Exists.intro
            refine ⟨fun st w2 hlo hhi hJ => ?_, ?_⟩
            · rw [exec_neq 36 36 (.tmp 96) (.tmp 100) rfl #[.int .i64 xb, .string xd] #[.int .i64 xb, .string xd] _ rfl rfl (by kernel_rfl) (run_neq_same xb xd w2)]
              exact And.intro rfl rfl
            simp only [Act.put, Nat.reduceAdd]
            refine ch_nil (fun w5 hJ => ?_)
            have HB5 := Lib.hid (show Below wr.heap.size wr w5 from hJ)
            clear hJ
            go_wp2
            rw [I3.out]
            exact ⟨⟨j + 1, HJN.out, rfl, HBJ.out.trans (HB5.out.mono HBJ.out.size)⟩, meas_succ HJN.out⟩
          · obtain rfl : j = K := by omega
            have i1 : ¬ ((j : Int) < (j : Int)) := by omega
            have HBY := Lib.hid (HB.out.trans ((HB8.out.trans (HBJ.out.mono HB8.out.size)).mono HB.out.size))
            clear hjn hj
            go_wp2_with fail
            refine (works_any _).mono ?_
            rintro e w14 ⟨rfl, hb⟩
            have HBZ := Lib.hid (HBY.out.trans (hb.mono HBY.out.size))
            clear hb
            go_wp2
            go_ret
            exact ⟨rfl, HBZ.out⟩
end Go.Proofs.Ytpfdpodelkleiaa
