/-
  META: what MetaKnown does to its copies: guids of snapshots (printed by wip/gen-metkf.py).
-/
import Derived.Test.YtimgecflcackbaaMetKe
namespace Go.Proofs.Ytimgecflcackbaa
open Go.RowKit Reg Go.ChangeShapes

theorem cellsE_setG : ∀ (es : List Se) (k : Nat) (a b : Int), k < es.length → cellsE (es.set k { es.getD k se0 with g := (a, b) }) = ((cellsE es).set (k * 4) (.int .u64 a)).set (k * 4 + 1) (.int .u64 b)
  | [], k, _, _, h => by simp at h
  | e :: es, 0, a, b, _ => by simp [cellsE, Se.cells]
  | e :: es, k + 1, a, b, h => by
    have ih := cellsE_setG es k a b (by simpa using h)
    show e.cells.toList ++ cellsE (es.set k { (e :: es).getD (k + 1) se0 with g := (a, b) }) = _
    have e1 : (e :: es).getD (k + 1) se0 = es.getD k se0 := by simp
    rw [e1, ih]
    show _ = ((e.cells.toList ++ cellsE es).set ((k + 1) * 4) _).set ((k + 1) * 4 + 1) _
    have e4 : e.cells.toList.length = 4 := rfl
    rw [List.set_append_right _ _ (by omega), List.set_append_right _ _ (by omega), e4, show (k + 1) * 4 - 4 = k * 4 by omega, show (k + 1) * 4 + 1 - 4 = k * 4 + 1 by omega]
/-- a snapshot gets another guid -/
theorem OwE.guid {w : World} {base gl n cap : Nat} {es : List Se} (h : OwE w base (.slice (some ⟨gl, 0, none⟩) n cap) es) (k : Nat) (hk : k < es.length) (a b : Int) :
    OwE (w.setCells gl (k * 4) [.int .u64 a, .int .u64 b]) base (.slice (some ⟨gl, 0, none⟩) n cap) (es.set k { es.getD k se0 with g := (a, b) }) := by
  unfold OwE at h ⊢
  obtain rfl : n = es.length := by
    obtain ⟨_, _, e⟩ := own_slice h
    simp only [Value.slice.injEq] at e
    exact e.2.1
  rw [List.length_set, cellsE_setG es k a b hk]
  exact ((World.ownsRow.stored h (k * 4) (.int .u64 a)).1.stored (k * 4 + 1) (.int .u64 b)).1
theorem OwE.there {w : World} {base gl n cap : Nat} {es : List Se} (h : OwE w base (.slice (some ⟨gl, 0, none⟩) n cap) es) (k : Nat) (hk : k < es.length) : w.there gl (k * 4) 2 := fun j hj => by
  unfold OwE at h
  obtain rfl : n = es.length := by
    obtain ⟨_, _, e⟩ := own_slice h
    simp only [Value.slice.injEq] at e
    exact e.2.1
  have hl := cellsE_at es k j hk (by omega)
  refine ⟨?_, World.ownsRow.frozenAt h _⟩
  have := World.ownsRow.cellAt h (k * 4 + j) (by omega)
  rw [this, hl]
  have hj2 : j = 0 ∨ j = 1 := by omega
  rcases hj2 with rfl | rfl <;> rfl
def bad3 : Mt := ⟨[200, 0], [⟨(0, 0), [0, 0], true⟩, ⟨(2, 1), [300, 301], false⟩], ⟨(2, 1), (2, 2), 1, 2, [302, 301]⟩⟩
set_option maxRecDepth 100000 in
set_option maxHeartbeats 400000 in
theorem do3 (w : World) (B g : Nat) (h : PtA w B g wholeM) (_ : B ≤ g) : Calls Try.prog 22 #[.pointer (some ⟨g, 0, none⟩)] w (DoT w B g (bad3)) := by
  unfold DoT
  obtain ⟨la, lc, sa, sc, ia, ic, hb, ho⟩ := h
  obtain ⟨es, h1, h2, h3, h4, h5, h6, h7, h8, ap1, ap2, ap3⟩ := ho.rows
  have hb2 : Blk w g 30 #[.slice la 2 lc, .slice sa 2 sc, .int .u64 2, .int .u64 1, .int .u64 2, .int .u64 2, .int .i64 1, .int .i64 2, .slice ia 2 ic] := hb
  have h1' : OwI w B (.slice la 2 lc) [200, 0] := h1
  have h5' : OwI w B (.slice ia 2 ic) [302, 301] := h5
  obtain ⟨e0, e1, rfl⟩ : ∃ e0 e1, es = [e0, e1] := by
    have hl := congrArg List.length h4
    rw [List.length_map] at hl
    match es, hl with
    | [a, b], _ => exact ⟨a, b, rfl⟩
  obtain ⟨gl, cap, e, hge⟩ := own_block_ h2 (show 0 < [e0, e1].length by simp)
  simp only [Value.slice.injEq] at e
  obtain ⟨rfl, -, rfl⟩ := e
  have hne : gl ≠ g := own_ne h2 hb2 (by decide) rfl
  have he1 : e1.sn = ⟨(2, 1), [300, 301], false⟩ := (List.cons.inj (List.cons.inj h4).2).1
  have he0 : e0.sn = ⟨(1, 1), [0, 0], true⟩ := (List.cons.inj h4).1
  have HB := Lib.hid hb2
  have HL := Lib.hid h1'
  have HI := Lib.hid h5'
  have HS := Lib.hid (show OwE w B (.slice (some ⟨gl, 0, none⟩) 2 sc) [e0, e1] from h2)
  have H3 := Lib.hid h3
  have HE := Lib.hid (And.intro he0 he1)
  have HG := Lib.hid (And.intro hne hge)
  have HGL := Lib.hid (show B ≤ w.heap.size from Nat.le_of_lt (Nat.lt_of_le_of_lt hge (own_in h2 rfl)))
  clear hb ho h1 h2 h3 h4 h5 h6 h7 h8 ap1 ap2 ap3 hb2 h1' h5' hne hge he0 he1
  go_enter Try.func22, Try.ntmps22
  refine wp_region_chain [4, 7] (kv [(4, .is (.agg #[.int .u64 0, .int .u64 0])), (7, .is undef)]) (fun l w9 => match l with | _ :: _ :: _ => ∃ w1, Below w.heap.size w w1 ∧ w9 = w1.setCells gl (0 * 4) [.int .u64 0, .int .u64 0] | _ => Below w.heap.size w w9) (by kernel_rfl) (by kernel_rfl) (by kernel_rfl) (kv_inh _) (Below.drew (Below.refl _ _)) ?_
  intro ν hν
  have n4 : ν 4 = .agg #[.int .u64 0, .int .u64 0] := hν 4
  have n7 : ν 7 = undef := hν 7
  clear hν
  refine ch_plain 0 2 6 (by rfl) rfl (by kernel_rfl) (by kernel_rfl) ?_
  apply Exists.intro
  refine ⟨fun st w2 hlo hhi hJ => ?_, ?_⟩
  · clear hlo hhi hJ
    go_simp
    exact And.intro rfl rfl
  simp only [Act.put, List.setIfInBounds_toArray, List.set_cons_succ, List.set_cons_zero, Nat.reduceAdd]
  refine ch_plain 0 2 6 (by rfl) rfl (by kernel_rfl) (by kernel_rfl) ?_
  apply Exists.intro
  refine ⟨fun st w2 hlo hhi hJ => ?_, ?_⟩
  · clear hlo hhi hJ
    go_simp
    exact And.intro rfl rfl
  simp only [Act.put, List.setIfInBounds_toArray, List.set_cons_succ, List.set_cons_zero, Nat.reduceAdd]
  refine ch_plain 0 2 6 (by rfl) rfl (by kernel_rfl) (by kernel_rfl) ?_
  apply Exists.intro
  refine ⟨fun st w2 hlo hhi hJ => ?_, ?_⟩
  · clear hlo hhi hJ
    go_simp
    exact And.intro rfl rfl
  simp only [Act.put, List.setIfInBounds_toArray, List.set_cons_succ, List.set_cons_zero, Nat.reduceAdd]
  refine ch_plain 0 1 6 (by rfl) rfl (by kernel_rfl) (by kernel_rfl) ?_
  apply Exists.intro
  refine ⟨fun st w2 hlo hhi hJ => ?_, ?_⟩
  · have hj : Below w.heap.size w w2 := by
      have q : st = 0 ∨ st = 1 := by omega
      rcases q with rfl | rfl <;> exact hJ
    have x1 := (HB.out.keep hj).cell 1
    simp at x1
    clear hj
    clear hlo hhi hJ
    go_simp
    exact And.intro rfl rfl
  simp only [Act.put, List.setIfInBounds_toArray, List.set_cons_succ, List.set_cons_zero, Nat.reduceAdd]
  refine ch_special 0 6 (by rfl) rfl (by decide) (by kernel_rfl) (fun w2 hJ => ?_) ?_
  · have hj : Below w.heap.size w w2 := hJ
    go_simp
    refine (guid_any 0 0 _).mono ?_
    rintro e w3 ⟨rfl, hb⟩
    exact ⟨_, rfl, rfl, hj.trans (hb.mono hj.size)⟩
  rw [n4]
  simp only [Act.put, List.setIfInBounds_toArray, List.set_cons_succ, List.set_cons_zero, Nat.reduceAdd]
  refine ch_plain 0 2 6 (by rfl) rfl (by kernel_rfl) (by kernel_rfl) ?_
  apply Exists.intro
  refine ⟨fun st w2 hlo hhi hJ => ?_, ?_⟩
  · clear hlo hhi hJ
    go_simp
    exact And.intro rfl rfl
  simp only [Act.put, List.setIfInBounds_toArray, List.set_cons_succ, List.set_cons_zero, Nat.reduceAdd]
  refine ch_plain 0 2 6 (by rfl) rfl (by kernel_rfl) (by kernel_rfl) ?_
  apply Exists.intro
  refine ⟨fun st w2 hlo hhi hJ => ?_, ?_⟩
  · clear hlo hhi hJ
    go_simp
    exact And.intro rfl rfl
  simp only [Act.put, List.setIfInBounds_toArray, List.set_cons_succ, List.set_cons_zero, Nat.reduceAdd]
  refine ch_special 1 6 (by rfl) rfl (by decide) (by kernel_rfl) (fun w2 hJ => ?_) ?_
  · have hj : Below w.heap.size w w2 := hJ
    rw [exec_store_mid 26 (.tmp 8) (.tmp 6) rfl gl (0 * 4) #[.int .u64 0, .int .u64 0] rfl rfl (OwE.there (own_kp (Kp.of_below hj) HS.out fun _ _ h => h) 0 (by simp)) (by kernel_rfl) (gcells_one _ _)]
    exact ⟨rfl, w2, hj, rfl⟩
  rw [n7]
  simp only [Act.put, Nat.reduceAdd]
  refine ch_nil (fun w9 hJ => ?_)
  obtain ⟨w2, hb, hw9⟩ : ∃ w1, Below w.heap.size w w1 ∧ w9 = w1.setCells gl (0 * 4) [.int .u64 0, .int .u64 0] := hJ
  clear n4 n7
  have hk : Kp (· = gl) w2 w9 := by rw [hw9]; exact kp_setCells gl _ _ _
  have hk0 : Kp (fun _ => False) w w2 := Kp.of_below hb
  have h2 : OwE w2 B (.slice (some ⟨gl, 0, none⟩) 2 sc) [e0, e1] := own_kp hk0 HS.out fun _ _ h => h
  have HBF := Lib.hid (hk.blk (HB.out.keep hb) (fun e => HG.out.1 e.symm))
  have HBL := Lib.hid (show Below B w w9 from (hb.mono HGL.out).trans (hk.below (B := B) (fun b e => by have := HG.out.2; omega) (Nat.le_trans HGL.out hb.size)))
  have hl := HL.out.keep hb
  have hi := HI.out.keep hb
  have HL9 := Lib.hid (hl.kp hk (fun b hb' e => own_apart hl.1 h2 (by decide) hb' (by rw [e]; rfl)))
  have HI9 := Lib.hid (hi.kp hk (fun b hb' e => own_apart hi.1 h2 (by decide) hb' (by rw [e]; rfl)))
  have HS9 := Lib.hid (show OwSn w9 B (.slice (some ⟨gl, 0, none⟩) 2 sc) bad3.snaps from
    ⟨by decide, (by intro s hs; simp only [bad3, List.mem_cons, List.not_mem_nil, or_false] at hs; rcases hs with rfl | rfl <;> exact ⟨rfl, rfl⟩), [{ e0 with g := (0, 0) }, e1], (by rw [hw9]; exact h2.guid 0 (by simp) 0 0), (by
      have h3 : ∀ e ∈ [e0, e1], EO w9 B e := fun e he => OwI.kp ((H3.out e he).keep hb) hk (fun b hb' e2 => own_apart ((H3.out e he).keep hb).1 h2 (by decide) hb' (by rw [e2]; rfl))
      intro e he
      simp only [List.mem_cons, List.not_mem_nil, or_false] at he
      rcases he with he | he <;> rw [he]
      · exact h3 e0 (by simp)
      · exact h3 e1 (by simp)), by
      have q1 := HE.out.1
      have q2 := HE.out.2
      simp only [Se.sn, Sn.mk.injEq] at q1 q2
      simp [Se.sn, bad3, q1, q2]⟩)
  clear hk hk0 h2 hl hi hb hw9
  go_wp2
  go_end0
  exact ⟨rfl, ⟨_, _, _, _, _, _, HBF.out, ⟨_, _, _, rfl, HL9.out, HS9.out, HI9.out, ⟨⟨rfl, rfl⟩, ⟨rfl, rfl⟩, rfl, rfl⟩⟩⟩, HBL.out⟩
def bad4 : Mt := ⟨[200, 0], [⟨(1, 1), [0, 0], true⟩, ⟨(1, 1), [300, 301], false⟩], ⟨(2, 1), (2, 2), 1, 2, [302, 301]⟩⟩
set_option maxRecDepth 100000 in
set_option maxHeartbeats 400000 in
theorem do4 (w : World) (B g : Nat) (h : PtA w B g wholeM) (_ : B ≤ g) : Calls Try.prog 23 #[.pointer (some ⟨g, 0, none⟩)] w (DoT w B g (bad4)) := by
  unfold DoT
  obtain ⟨la, lc, sa, sc, ia, ic, hb, ho⟩ := h
  obtain ⟨es, h1, h2, h3, h4, h5, h6, h7, h8, ap1, ap2, ap3⟩ := ho.rows
  have hb2 : Blk w g 30 #[.slice la 2 lc, .slice sa 2 sc, .int .u64 2, .int .u64 1, .int .u64 2, .int .u64 2, .int .i64 1, .int .i64 2, .slice ia 2 ic] := hb
  have h1' : OwI w B (.slice la 2 lc) [200, 0] := h1
  have h5' : OwI w B (.slice ia 2 ic) [302, 301] := h5
  obtain ⟨e0, e1, rfl⟩ : ∃ e0 e1, es = [e0, e1] := by
    have hl := congrArg List.length h4
    rw [List.length_map] at hl
    match es, hl with
    | [a, b], _ => exact ⟨a, b, rfl⟩
  obtain ⟨gl, cap, e, hge⟩ := own_block_ h2 (show 0 < [e0, e1].length by simp)
  simp only [Value.slice.injEq] at e
  obtain ⟨rfl, -, rfl⟩ := e
  have hne : gl ≠ g := own_ne h2 hb2 (by decide) rfl
  have he1 : e1.sn = ⟨(2, 1), [300, 301], false⟩ := (List.cons.inj (List.cons.inj h4).2).1
  have he0 : e0.sn = ⟨(1, 1), [0, 0], true⟩ := (List.cons.inj h4).1
  have HB := Lib.hid hb2
  have HL := Lib.hid h1'
  have HI := Lib.hid h5'
  have HS := Lib.hid (show OwE w B (.slice (some ⟨gl, 0, none⟩) 2 sc) [e0, e1] from h2)
  have H3 := Lib.hid h3
  have HE := Lib.hid (And.intro he0 he1)
  have HG := Lib.hid (And.intro hne hge)
  have HGL := Lib.hid (show B ≤ w.heap.size from Nat.le_of_lt (Nat.lt_of_le_of_lt hge (own_in h2 rfl)))
  clear hb ho h1 h2 h3 h4 h5 h6 h7 h8 ap1 ap2 ap3 hb2 h1' h5' hne hge he0 he1
  go_enter Try.func23, Try.ntmps23
  refine wp_region_chain [4, 7] (kv [(4, .is (.agg #[.int .u64 1, .int .u64 1])), (7, .is undef)]) (fun l w9 => match l with | _ :: _ :: _ => ∃ w1, Below w.heap.size w w1 ∧ w9 = w1.setCells gl (1 * 4) [.int .u64 1, .int .u64 1] | _ => Below w.heap.size w w9) (by kernel_rfl) (by kernel_rfl) (by kernel_rfl) (kv_inh _) (Below.drew (Below.refl _ _)) ?_
  intro ν hν
  have n4 : ν 4 = .agg #[.int .u64 1, .int .u64 1] := hν 4
  have n7 : ν 7 = undef := hν 7
  clear hν
  refine ch_plain 0 2 6 (by rfl) rfl (by kernel_rfl) (by kernel_rfl) ?_
  apply Exists.intro
  refine ⟨fun st w2 hlo hhi hJ => ?_, ?_⟩
  · clear hlo hhi hJ
    go_simp
    exact And.intro rfl rfl
  simp only [Act.put, List.setIfInBounds_toArray, List.set_cons_succ, List.set_cons_zero, Nat.reduceAdd]
  refine ch_plain 0 2 6 (by rfl) rfl (by kernel_rfl) (by kernel_rfl) ?_
  apply Exists.intro
  refine ⟨fun st w2 hlo hhi hJ => ?_, ?_⟩
  · clear hlo hhi hJ
    go_simp
    exact And.intro rfl rfl
  simp only [Act.put, List.setIfInBounds_toArray, List.set_cons_succ, List.set_cons_zero, Nat.reduceAdd]
  refine ch_plain 0 2 6 (by rfl) rfl (by kernel_rfl) (by kernel_rfl) ?_
  apply Exists.intro
  refine ⟨fun st w2 hlo hhi hJ => ?_, ?_⟩
  · clear hlo hhi hJ
    go_simp
    exact And.intro rfl rfl
  simp only [Act.put, List.setIfInBounds_toArray, List.set_cons_succ, List.set_cons_zero, Nat.reduceAdd]
  refine ch_plain 0 1 6 (by rfl) rfl (by kernel_rfl) (by kernel_rfl) ?_
  apply Exists.intro
  refine ⟨fun st w2 hlo hhi hJ => ?_, ?_⟩
  · have hj : Below w.heap.size w w2 := by
      have q : st = 0 ∨ st = 1 := by omega
      rcases q with rfl | rfl <;> exact hJ
    have x1 := (HB.out.keep hj).cell 1
    simp at x1
    clear hj
    clear hlo hhi hJ
    go_simp
    exact And.intro rfl rfl
  simp only [Act.put, List.setIfInBounds_toArray, List.set_cons_succ, List.set_cons_zero, Nat.reduceAdd]
  refine ch_special 0 6 (by rfl) rfl (by decide) (by kernel_rfl) (fun w2 hJ => ?_) ?_
  · have hj : Below w.heap.size w w2 := hJ
    go_simp
    refine (guid_any 1 1 _).mono ?_
    rintro e w3 ⟨rfl, hb⟩
    exact ⟨_, rfl, rfl, hj.trans (hb.mono hj.size)⟩
  rw [n4]
  simp only [Act.put, List.setIfInBounds_toArray, List.set_cons_succ, List.set_cons_zero, Nat.reduceAdd]
  refine ch_plain 0 2 6 (by rfl) rfl (by kernel_rfl) (by kernel_rfl) ?_
  apply Exists.intro
  refine ⟨fun st w2 hlo hhi hJ => ?_, ?_⟩
  · clear hlo hhi hJ
    go_simp
    exact And.intro rfl rfl
  simp only [Act.put, List.setIfInBounds_toArray, List.set_cons_succ, List.set_cons_zero, Nat.reduceAdd]
  refine ch_plain 0 2 6 (by rfl) rfl (by kernel_rfl) (by kernel_rfl) ?_
  apply Exists.intro
  refine ⟨fun st w2 hlo hhi hJ => ?_, ?_⟩
  · clear hlo hhi hJ
    go_simp
    exact And.intro rfl rfl
  simp only [Act.put, List.setIfInBounds_toArray, List.set_cons_succ, List.set_cons_zero, Nat.reduceAdd]
  refine ch_special 1 6 (by rfl) rfl (by decide) (by kernel_rfl) (fun w2 hJ => ?_) ?_
  · have hj : Below w.heap.size w w2 := hJ
    rw [exec_store_mid 26 (.tmp 8) (.tmp 6) rfl gl (1 * 4) #[.int .u64 1, .int .u64 1] rfl rfl (OwE.there (own_kp (Kp.of_below hj) HS.out fun _ _ h => h) 1 (by simp)) (by kernel_rfl) (gcells_one _ _)]
    exact ⟨rfl, w2, hj, rfl⟩
  rw [n7]
  simp only [Act.put, Nat.reduceAdd]
  refine ch_nil (fun w9 hJ => ?_)
  obtain ⟨w2, hb, hw9⟩ : ∃ w1, Below w.heap.size w w1 ∧ w9 = w1.setCells gl (1 * 4) [.int .u64 1, .int .u64 1] := hJ
  clear n4 n7
  have hk : Kp (· = gl) w2 w9 := by rw [hw9]; exact kp_setCells gl _ _ _
  have hk0 : Kp (fun _ => False) w w2 := Kp.of_below hb
  have h2 : OwE w2 B (.slice (some ⟨gl, 0, none⟩) 2 sc) [e0, e1] := own_kp hk0 HS.out fun _ _ h => h
  have HBF := Lib.hid (hk.blk (HB.out.keep hb) (fun e => HG.out.1 e.symm))
  have HBL := Lib.hid (show Below B w w9 from (hb.mono HGL.out).trans (hk.below (B := B) (fun b e => by have := HG.out.2; omega) (Nat.le_trans HGL.out hb.size)))
  have hl := HL.out.keep hb
  have hi := HI.out.keep hb
  have HL9 := Lib.hid (hl.kp hk (fun b hb' e => own_apart hl.1 h2 (by decide) hb' (by rw [e]; rfl)))
  have HI9 := Lib.hid (hi.kp hk (fun b hb' e => own_apart hi.1 h2 (by decide) hb' (by rw [e]; rfl)))
  have HS9 := Lib.hid (show OwSn w9 B (.slice (some ⟨gl, 0, none⟩) 2 sc) bad4.snaps from
    ⟨by decide, (by intro s hs; simp only [bad4, List.mem_cons, List.not_mem_nil, or_false] at hs; rcases hs with rfl | rfl <;> exact ⟨rfl, rfl⟩), [e0, { e1 with g := (1, 1) }], (by rw [hw9]; exact h2.guid 1 (by simp) 1 1), (by
      have h3 : ∀ e ∈ [e0, e1], EO w9 B e := fun e he => OwI.kp ((H3.out e he).keep hb) hk (fun b hb' e2 => own_apart ((H3.out e he).keep hb).1 h2 (by decide) hb' (by rw [e2]; rfl))
      intro e he
      simp only [List.mem_cons, List.not_mem_nil, or_false] at he
      rcases he with he | he <;> rw [he]
      · exact h3 e0 (by simp)
      · exact h3 e1 (by simp)), by
      have q1 := HE.out.1
      have q2 := HE.out.2
      simp only [Se.sn, Sn.mk.injEq] at q1 q2
      simp [Se.sn, bad4, q1, q2]⟩)
  clear hk hk0 h2 hl hi hb hw9
  go_wp2
  go_end0
  exact ⟨rfl, ⟨_, _, _, _, _, _, HBF.out, ⟨_, _, _, rfl, HL9.out, HS9.out, HI9.out, ⟨⟨rfl, rfl⟩, ⟨rfl, rfl⟩, rfl, rfl⟩⟩⟩, HBL.out⟩
end Go.Proofs.Ytimgecflcackbaa
