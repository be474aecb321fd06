/-
  THE DOCUMENT'S MODEL: copied, Image, Texts, Begins.
-/
import Derived.Test.YtfeinafbimpjnaaRefM
namespace Go.Proofs.Ytfeinafbimpjnaa
open Go.RowKit Reg Go.WideShapes Go.ChangeShapes

theorem copied_any (w : World) (v : Value) (zs : Txs) (hv : InT w v zs) (hl : zs.length ≤ 2 ^ 20) :
    Calls Try.prog 28 #[v] w fun e w' => ∃ u, e = .returned u ∧ OwT w' w.heap.size u zs ∧ Below w.heap.size w w' := by
  have hA := app_texts (base := w.heap.size) 42 (OwT.nil_ w w.heap.size) hv (by simp; omega) (Nat.le_refl _)
  rw [List.nil_append] at hA
  have HA := Lib.hid hA
  clear hA hv hl
  go_enter Try.func28, Try.ntmps28
  go_wp2_with (at_builtin; refine wpList_append_run rfl _ _ 42 rfl _ _ rfl rfl _ HA.out ?_)
  refine Later.mk fun _ _ u w' hp => ?_
  have HO := Lib.hid hp.1
  have HB := Lib.hid (AppT.below hp (OwT.nil_ w w.heap.size) (Nat.le_refl _))
  clear hp HA
  go_wp2
  go_ret
  exact ⟨_, rfl, HO.out, HB.out⟩
set_option maxRecDepth 100000 in
theorem rimage_any (w : World) (base q : Nat) (R : Rf) (g : Gd) (h : RM w base q R) (h80 : R.ik.length ≤ 1000) :
    Calls Try.prog 20 #[.pointer (some ⟨q, 0, none⟩), aggG g] w fun e' w' => ∃ u, e' = .returned (.tuple #[u, .bool (R.has g)]) ∧ OwT w' w.heap.size u (R.image g) ∧ Below w.heap.size w w' := by
  obtain ⟨sl, si, sc, lv, iv, h⟩ := h
  obtain ⟨la, lc, rfl, hx⟩ := h.openI
  have hei := h.ei
  have hn8 := h.n.2
  have c1 := h.obj.cell 2
  simp at c1
  have hne := ix_ne R.ik g (0, 0)
  have hat := ix_at R.ik g (0, 0)
  have hle := ix_le R.ik g
  unfold Rf.has Rf.image
  generalize ix R.ik g = i at *
  generalize hZ : (fun j => R.ik.getD j (0, 0)) = Z at *
  have g1 : ∀ j, R.ik.getD j (0, 0) = Z j := fun j => by subst hZ; rfl
  simp only [g1] at hx hne hat
  clear g1 hZ h
  generalize R.ik.length = n at *
  have heq := run_eq_guid
  unfold aggG
  obtain ⟨ga, gb⟩ := g
  simp only
  have hb0 := (Below.refl w.heap.size w).alloc (Nat.le_refl _) (Obj.cells #[.int .u64 ga, .int .u64 gb] 34)
  have bg := Blk.new w 34 #[.int .u64 ga, .int .u64 gb]
  have HX := Lib.hid hx
  have HN := Lib.hid hne
  have HA := Lib.hid hat
  have HL := Lib.hid hle
  have H80 := Lib.hid h80
  have C1 := Lib.hid c1
  have HEI := Lib.hid hei
  have H8 := Lib.hid hn8
  have HBG := Lib.hid bg
  have HB0 := Lib.hid hb0
  obtain ⟨rb, hrb⟩ : ∃ z : Bool, z = decide (i < n) := ⟨_, rfl⟩
  obtain ⟨ri, hri⟩ : ∃ z : Txs, z = if i < n then R.it.getD i [] else [] := ⟨_, rfl⟩
  rw [← hrb, ← hri]
  have HRB := Lib.hid hrb
  have HRI := Lib.hid hri
  clear hx hne hat hle h80 c1 hei hn8 bg hb0 hrb hri
  go_enter Try.func20, Try.ntmps20
  go_wp2_with fail
  generalize w.alloc (Obj.cells #[.int .u64 ga, .int .u64 gb] 34) = w1 at *
  obtain ⟨qx, hqx⟩ : ∃ z, z = w.heap.size := ⟨_, rfl⟩
  rw [← hqx] at HBG
  rw [← hqx]
  have HQX := Lib.hid hqx
  clear hqx
  go_loopw [6] (fun t wr => ∃ k : Nat, k ≤ i ∧ t = .int .i64 k ∧ Below w.heap.size w wr ∧ Blk wr qx 34 #[.int .u64 ga, .int .u64 gb]) (fun t _ => n - (intOf t).toNat)
  case atStart => exact ⟨0, Nat.zero_le _, rfl, HB0.out, HBG.out⟩
  case round =>
    obtain ⟨k, hk, rfl, hb, hbg⟩ := hrel
    have HB := Lib.hid hb
    have HBG := Lib.hid hbg
    have c1 := cell_later HB.out C1.out
    have d1 := hbg.cell 0
    have d2 := hbg.cell 1
    simp at d1 d2
    clear hb hbg
    have h80 := H80.out
    have hle := HL.out
    by_cases hki : k < i
    · obtain ⟨g, rfl, hc, hd, -⟩ := HX.out k (by omega)
      have hc := cell_later HB.out hc
      have hd := cell_later HB.out hd
      have hz := HN.out k hki
      have i1 : (k : Int) < (n : Int) := by omega
      have hz2 : sameG (Z k) (ga, gb) = false := by
        cases hs : sameG (Z k) (ga, gb) with
        | false => rfl
        | true => exact absurd (sameG_iff.1 hs) hz
      unfold sameG at hz2
      simp only at hz2
      have HKN := Lib.hid hki
      clear hz hki hle
      go_wp2_with fail
      go_quiet (fail)
      have HB1 := Lib.hid (below_drewN HB.out nq)
      have HBG1 := Lib.hid (HBG.out.keep (below_drewN (Below.refl _ _) nq))
      clear HB HBG
      have hki := HKN.out
      have hle := HL.out
      go_wp2
      refine ⟨⟨k + 1, by omega, by go_num, HB1.out, HBG1.out⟩, by simp [intOf]; omega⟩
    · obtain rfl : k = i := by omega
      by_cases hin : k < n
      · obtain ⟨g, rfl, hc, hd, hv⟩ := HX.out k hin
        have hc := cell_later HB.out hc
        have hd := cell_later HB.out hd
        have hv := cell_later HB.out hv
        have hz := HA.out hin
        have i1 : (k : Int) < (n : Int) := by omega
        rw [hz] at hc hd
        simp only at hc hd
        have hr1 := HRB.out
        rw [decide_eq_true hin] at hr1
        have hr2 := HRI.out
        rw [if_pos hin] at hr2
        have hot := (HEI.out k hin).1.keep HB.out
        have hln := (HEI.out k hin).2
        have h8 := H8.out
        rw [← hr2] at hot hln
        generalize lv.getD k nilV = uu at *
        generalize iv.getD k nilV = ui at *
        have HOT := Lib.hid hot
        have HV := Lib.hid hv
        have HLN := Lib.hid (show ri.length ≤ 2 ^ 20 by omega)
        have HR1 := Lib.hid hr1
        clear hz hki hle hk hin hr1 hr2 hot hln h8 hv
        go_wp2_with fail
        go_quiet (fail)
        have HB1 := Lib.hid (below_drewN HB.out nq)
        have hvv := cell_later (below_drewN (Below.refl _ _) nq) HV.out
        have HOT1 := Lib.hid (HOT.out.keep (below_drewN (Below.refl _ _) nq))
        clear HOT HV
        go_wp2_with fail
        refine (copied_any _ ui ri HOT1.out.rd HLN.out).mono ?_
        rintro e w2 ⟨u, rfl, ho, hb⟩
        have HO := Lib.hid (ho.mono HB1.out.size)
        have HB2 := Lib.hid (HB1.out.trans (hb.mono HB1.out.size))
        clear ho hb HB HB1 hvv
        go_wp2
        go_ret2
        exact ⟨_, by rw [HR1.out]; rfl, HO.out, HB2.out⟩
      · have i1 : ¬ ((k : Int) < (n : Int)) := by omega
        have hr1 := HRB.out
        rw [decide_eq_false hin] at hr1
        have hr2 := HRI.out
        rw [if_neg hin] at hr2
        have HR1 := Lib.hid hr1
        have HR2 := Lib.hid hr2
        clear hki hle hk hin hr1 hr2
        go_wp2
        go_ret2
        exact ⟨_, by rw [HR1.out]; rfl, by rw [HR2.out]; exact OwT.nil_ _ _, HB.out⟩
theorem begB_iff {gs hs : List Gd} : begB gs hs = true ↔ gs.length ≤ hs.length ∧ ∀ j, j < gs.length → gs.getD j (0, 0) = hs.getD j (0, 0) := by
  unfold begB
  rw [Bool.and_eq_true, decide_eq_true_iff, decide_eq_true_iff]
  refine and_congr_right fun hl => ?_
  have e : ∀ j, j < gs.length → (hs.take gs.length).getD j (0, 0) = hs.getD j (0, 0) := fun j hj => by simp [hj]
  constructor
  · intro h j hj
    rw [← e j hj, ← h]
  · intro h
    refine eqG_of_getD (by rw [List.length_take]; omega) fun j hj => ?_
    rw [e j hj, h j hj]
theorem refBegins_any (v v' : Value) (gs hs : List Gd) (w : World) (hv : InG w v gs) (hv' : InG w v' hs) :
    Calls Try.prog 31 #[v, v'] w fun e w' => e = .returned (.bool (begB gs hs)) ∧ Below w.heap.size w w' := by
  obtain ⟨a, c, rfl, -, hx⟩ := hv.open_
  obtain ⟨a', c', rfl, -, hx'⟩ := hv'.open_
  have hneq := run_neq_guid
  have hres : ∀ b, (b = true ↔ gs.length ≤ hs.length ∧ ∀ j, j < gs.length → gs.getD j (0, 0) = hs.getD j (0, 0)) → begB gs hs = b := by
    intro b hb
    rw [Bool.eq_iff_iff, hb, begB_iff]
  generalize begB gs hs = b at *
  generalize hZ : (fun j => gs.getD j (0, 0)) = Z at *
  generalize hZ' : (fun j => hs.getD j (0, 0)) = Z' at *
  have g1 : ∀ j, gs.getD j (0, 0) = Z j := fun j => by subst hZ; rfl
  have g2 : ∀ j, hs.getD j (0, 0) = Z' j := fun j => by subst hZ'; rfl
  simp only [g1] at hx hres
  simp only [g2] at hx' hres
  have hn := hv.2.1
  clear hZ hZ' hv hv' g1 g2
  generalize gs.length = n at *
  generalize hs.length = n' at *
  have HX := Lib.hid hx
  have HX' := Lib.hid hx'
  have HR := Lib.hid hres
  have HN := Lib.hid hn
  clear hx hx' hres hn
  by_cases hnn : n' < n
  · have i0 : (n' : Int) < (n : Int) := by omega
    have hb : b = false := HR.out false ⟨(fun h => by cases h), fun h => by omega⟩
    have HBB := Lib.hid hb
    clear hb hnn
    go_enter Try.func31, Try.ntmps31
    go_wp2
    go_ret
    exact ⟨by rw [HBB.out]; rfl, Below.refl _ _⟩
  have i0 : ¬ ((n' : Int) < (n : Int)) := by omega
  have HNN := Lib.hid (show n ≤ n' by omega)
  clear hnn
  go_enter Try.func31, Try.ntmps31
  go_wp2_with fail
  clear i0
  go_loopw [5] (fun i wr => ∃ k : Nat, k ≤ n ∧ (∀ j, j < k → Z j = Z' j) ∧ i = .int .i64 k ∧ Below w.heap.size w wr) (fun i _ => n - (intOf i).toNat)
  case atStart => exact ⟨0, Nat.zero_le _, fun j hj => by omega, rfl, Below.refl _ _⟩
  case round =>
    obtain ⟨k, hk, hq, rfl, hb⟩ := hrel
    have HB := Lib.hid hb
    have HQ := Lib.hid hq
    clear hb hq
    by_cases hkn : k < n
    · obtain ⟨g, off, rfl, hc, hd⟩ := HX.out k hkn
      obtain ⟨g', off', rfl, hc', hd'⟩ := HX'.out k (by have := HNN.out; omega)
      have hc1 := cell_later HB.out hc
      have hc2 := cell_later HB.out hd
      have hc3 := cell_later HB.out hc'
      have hc4 := cell_later HB.out hd'
      have i1 : (k : Int) < (n : Int) := by omega
      have i2 : (k : Int) < (n' : Int) := by have := HNN.out; omega
      have hn := HN.out
      unfold maxLen at hn
      have k9 : (k : Int) < 9223372036854775807 := by omega
      have HKN := Lib.hid hkn
      clear hc hd hc' hd' hkn hn
      by_cases hz : sameG (Z k) (Z' k) = true
      · have hzz := sameG_iff.1 hz
        unfold sameG at hz
        have HZ := Lib.hid hzz
        clear hzz
        go_wp2_with fail
        go_quiet (fail)
        have HB1 := Lib.hid (below_drewN HB.out nq)
        clear HB
        have hkn := HKN.out
        go_wp2
        refine ⟨⟨k + 1, by omega, ?_, by go_num, HB1.out⟩, by simp [intOf]; omega⟩
        intro j hj
        rcases Nat.lt_succ_iff_lt_or_eq.1 hj with h | rfl
        · exact HQ.out j h
        · exact HZ.out
      · have hb : b = false := HR.out false ⟨(fun h => by cases h), fun h => absurd (sameG_iff.2 (h.2 k HKN.out)) hz⟩
        have hz2 : sameG (Z k) (Z' k) = false := by simpa using hz
        unfold sameG at hz2
        have HBB := Lib.hid hb
        clear hb hz
        go_wp2_with fail
        go_quiet (fail)
        have HB1 := Lib.hid (below_drewN HB.out nq)
        clear HB
        go_wp2
        go_ret
        exact ⟨by rw [HBB.out]; rfl, HB1.out⟩
    · obtain rfl : k = n := by omega
      have hb : b = true := HR.out true ⟨fun _ => ⟨HNN.out, HQ.out⟩, fun _ => rfl⟩
      have HBB := Lib.hid hb
      clear hb
      go_wp2
      go_ret
      exact ⟨by rw [HBB.out]; rfl, HB.out⟩
theorem eqT_of_getD {xs ys : Txs} (hl : xs.length = ys.length) (h : ∀ j, j < xs.length → xs.getD j ByteArray.empty = ys.getD j ByteArray.empty) : xs = ys := by
  apply List.ext_getElem hl
  intro i h1 h2
  have := h i h1
  simpa [h1, h2] using this
theorem str_iff (a b : ByteArray) : (a.toList == b.toList) = true ↔ a = b := by
  rw [str_eq, decide_eq_true_iff]
  exact ⟨fun h => ByteArray.ext (Array.toList_inj.1 h), fun h => by rw [h]⟩
theorem refTexts_any (v v' : Value) (gs hs : Txs) (w : World) (hv : InT w v gs) (hv' : InT w v' hs) :
    Calls Try.prog 21 #[v, v'] w fun e w' => e = .returned (.bool (decide (gs = hs))) ∧ Below w.heap.size w w' := by
  obtain ⟨a, c, rfl, -, hx⟩ := hv.open_
  obtain ⟨a', c', rfl, -, hx'⟩ := hv'.open_
  have hres : ∀ b, (b = true ↔ gs.length = hs.length ∧ ∀ j, j < gs.length → gs.getD j ByteArray.empty = hs.getD j ByteArray.empty) → decide (gs = hs) = b := by
    intro b hb
    rw [Bool.eq_iff_iff, hb, decide_eq_true_iff]
    exact ⟨fun h => h ▸ ⟨rfl, fun _ _ => rfl⟩, fun h => eqT_of_getD h.1 h.2⟩
  generalize decide (gs = hs) = b at *
  generalize hZ : (fun j => gs.getD j ByteArray.empty) = Z at *
  generalize hZ' : (fun j => hs.getD j ByteArray.empty) = Z' at *
  have g1 : ∀ j, gs.getD j ByteArray.empty = Z j := fun j => by subst hZ; rfl
  have g2 : ∀ j, hs.getD j ByteArray.empty = Z' j := fun j => by subst hZ'; rfl
  simp only [g1] at hx hres
  simp only [g2] at hx' hres
  have hn := hv.2.1
  clear hZ hZ' hv hv' g1 g2
  generalize gs.length = n at *
  generalize hs.length = n' at *
  have HX := Lib.hid hx
  have HX' := Lib.hid hx'
  have HR := Lib.hid hres
  have HN := Lib.hid hn
  clear hx hx' hres hn
  by_cases hnn : n ≠ n'
  · have i0 : ¬ ((n : Int) = (n' : Int)) := by omega
    have d0 : ((n : Int) == (n' : Int)) = false := by simpa using i0
    have d1 : decide ((n : Int) = (n' : Int)) = false := decide_eq_false i0
    have hb : b = false := HR.out false ⟨(fun h => by cases h), fun h => absurd h.1 hnn⟩
    have HBB := Lib.hid hb
    clear hb hnn
    go_enter Try.func21, Try.ntmps21
    go_wp2
    go_ret
    exact ⟨by rw [HBB.out]; rfl, Below.refl _ _⟩
  obtain rfl : n = n' := Decidable.not_not.1 hnn
  clear hnn
  go_enter Try.func21, Try.ntmps21
  go_wp2_with fail
  go_loopw [5] (fun i wr => ∃ k : Nat, k ≤ n ∧ (∀ j, j < k → Z j = Z' j) ∧ i = .int .i64 k ∧ Below w.heap.size w wr) (fun i _ => n - (intOf i).toNat)
  case atStart => exact ⟨0, Nat.zero_le _, fun j hj => by omega, rfl, Below.refl _ _⟩
  case round =>
    obtain ⟨k, hk, hq, rfl, hb⟩ := hrel
    have HB := Lib.hid hb
    have HQ := Lib.hid hq
    clear hb hq
    by_cases hkn : k < n
    · obtain ⟨g, off, rfl, hc⟩ := HX.out k hkn
      obtain ⟨g', off', rfl, hc'⟩ := HX'.out k hkn
      have hc1 := cell_later HB.out hc
      have hc3 := cell_later HB.out hc'
      have i1 : (k : Int) < (n : Int) := by omega
      have hn := HN.out
      unfold maxLen at hn
      have k9 : (k : Int) < 9223372036854775807 := by omega
      have HKN := Lib.hid hkn
      clear hc hc' hkn hn
      by_cases hz : ((Z k).toList == (Z' k).toList) = true
      · have hzz : Z k = Z' k := (str_iff _ _).1 hz
        have HZ := Lib.hid hzz
        rw [hzz] at hc1
        clear hzz hz
        go_wp2_with fail
        go_quiet (fail)
        have HB1 := Lib.hid (below_drewN HB.out nq)
        clear HB
        have hkn := HKN.out
        go_wp2
        refine ⟨⟨k + 1, by omega, ?_, by go_num, HB1.out⟩, by simp [intOf]; omega⟩
        intro j hj
        rcases Nat.lt_succ_iff_lt_or_eq.1 hj with h | rfl
        · exact HQ.out j h
        · exact HZ.out
      · have hb : b = false := HR.out false ⟨(fun h => by cases h), fun h => absurd ((str_iff _ _).2 (h.2 k HKN.out)) hz⟩
        have hz2 : ((Z k).toList == (Z' k).toList) = false := by simpa using hz
        have HBB := Lib.hid hb
        clear hb hz
        go_wp2_with fail
        go_quiet (fail)
        have HB1 := Lib.hid (below_drewN HB.out nq)
        clear HB
        go_wp2
        go_ret
        exact ⟨by rw [HBB.out]; rfl, HB1.out⟩
    · obtain rfl : k = n := by omega
      have hb : b = true := HR.out true ⟨fun _ => ⟨by trivial, HQ.out⟩, fun _ => rfl⟩
      have HBB := Lib.hid hb
      clear hb
      go_wp2
      go_ret
      exact ⟨by rw [HBB.out]; rfl, HB.out⟩
end Go.Proofs.Ytfeinafbimpjnaa
