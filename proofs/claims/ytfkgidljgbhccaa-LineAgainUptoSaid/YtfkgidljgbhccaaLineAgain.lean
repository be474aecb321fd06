/-
  LineAgain, WALKED (printed by wip/gen-lineagain.py).
-/
import Derived.Test.YtfkgidljgbhccaaLineKeeps
namespace Go.Proofs.Ytfkgidljgbhccaa
open Go.RowKit Reg

theorem comm_more : ∀ (gs hs ms : List Gd), comm gs hs ≤ comm gs (hs ++ ms)
  | [], hs, ms => by cases hs <;> simp [comm]
  | _ :: _, [], ms => by simp [comm]
  | a :: xs, b :: ys, ms => by
    have := comm_more xs ys ms
    simp only [List.cons_append, comm]
    split
    · omega
    · omega
theorem getD_app {hs ms : List Gd} {j : Nat} (h : j < hs.length) : (hs ++ ms).getD j (0, 0) = hs.getD j (0, 0) := by
  rw [List.getD_eq_getElem?_getD, List.getElem?_append_left h, ← List.getD_eq_getElem?_getD]
theorem comm_more_cut {gs hs : List Gd} (ms : List Gd) (h : comm gs hs < hs.length) : comm gs (hs ++ ms) = comm gs hs := by
  have hl := comm_le gs hs
  refine comm_spec gs (hs ++ ms) (comm gs hs) hl.1 (by rw [List.length_append]; omega) (fun j hj => ?_) ?_
  · rw [comm_same gs hs j hj, getD_app (by omega)]
  · rcases Nat.lt_or_ge (comm gs hs) gs.length with q | q
    · right; right
      rw [getD_app h]
      intro e
      have := comm_diff gs hs q h
      rw [sameG_iff.2 e] at this
      cases this
    · left; omega
theorem comm_take {gs hs : List Gd} {n : Nat} (h : comm gs hs ≤ n) : comm (gs.take n) hs = comm gs hs := by
  have hl := comm_le gs hs
  refine comm_spec (gs.take n) hs (comm gs hs) (by rw [List.length_take]; omega) hl.2 (fun j hj => ?_) ?_
  · have e : (gs.take n).getD j (0, 0) = gs.getD j (0, 0) := by simp [show j < n by omega]
    rw [e, comm_same gs hs j hj]
  · rcases Nat.lt_or_ge (comm gs hs) hs.length with q | q
    · rcases Nat.lt_or_ge (comm gs hs) gs.length with q2 | q2
      · rcases Nat.lt_or_ge (comm gs hs) n with q3 | q3
        · right; right
          have e : (gs.take n).getD (comm gs hs) (0, 0) = gs.getD (comm gs hs) (0, 0) := by simp [q3]
          rw [e]
          intro e
          have := comm_diff gs hs q2 q
          rw [sameG_iff.2 e] at this
          cases this
        · left; rw [List.length_take]; omega
      · left; rw [List.length_take]; omega
    · right; left; omega
theorem run_take (E : Int) : ∀ gs : List Gd, run_ E (gs.take (run_ E gs)) = run_ E gs
  | [] => rfl
  | g :: gs => by
    by_cases h : g.1 < E
    · have e : run_ E (g :: gs) = 0 := by rw [run_, if_pos h]
      rw [e]; rfl
    · have e : run_ E (g :: gs) = run_ E gs + 1 := by rw [run_, if_neg h]
      rw [e, List.take_succ_cons, run_, if_neg h, run_take E gs]
theorem stays_take (gs : List Gd) (E : Int) (hs : List Gd) : stays (gs.take (stays gs E hs)) E hs = stays gs E hs := by
  have hc := comm_take (gs := gs) (hs := hs) (stays_le gs E hs).1
  unfold stays at hc ⊢
  by_cases h : comm gs hs < hs.length
  · rw [if_pos h] at hc ⊢
    rw [hc, if_pos h]
  · rw [if_neg h] at hc ⊢
    rw [hc, if_neg h, List.drop_take, show comm gs hs + run_ E (gs.drop (comm gs hs)) - comm gs hs = run_ E (gs.drop (comm gs hs)) from by omega, run_take]
theorem stays_more_cut {gs hs : List Gd} (E : Int) (ms : List Gd) (h : comm gs hs < hs.length) : stays gs E (hs ++ ms) = stays gs E hs := by
  rw [stays_cut E h, stays_cut E (by rw [comm_more_cut ms h, List.length_append]; omega), comm_more_cut ms h]
set_option maxRecDepth 100000 in
set_option maxHeartbeats 2000000 in
theorem law_LineAgain (v : Value) (gs : List Gd) (v' : Value) (x : Ln) (v'' : Value) (ms : List Gd) (w : World) (hv : InG w v gs) (l1 : gs.length ≤ 2 ^ 20) (hv' : InL w v' x) (l2 : x.l.length ≤ 2 ^ 20) (hv'' : InG w v'' ms) (l3 : ms.length ≤ 2 ^ 20) :
    Calls Try.prog 6 #[v, v', v''] w fun e w' => e = .returned (.bool true) ∧ Below w.heap.size w w' := by
  obtain ⟨sl, rfl, hs, -, -⟩ := hv'
  obtain ⟨E, B, L, hl⟩ := x
  simp only at hs l2 ⊢
  obtain ⟨a, c, rfl, -, -⟩ := hs.open_
  obtain ⟨p, q, rfl, hpq, -⟩ := hv.open_
  obtain ⟨a3, q3, rfl, -, -⟩ := hv''.open_
  have hb0 := (Below.refl w.heap.size w).alloc (Nat.le_refl _) (Obj.cells #[.int .u64 E, .int .i64 B, .bool L, .slice a hl.length c] 25)
  have hb1 := Blk.new w 25 #[.int .u64 E, .int .i64 B, .bool L, .slice a hl.length c]
  have HG := Lib.hid hv
  have HH := Lib.hid hs
  have HM := Lib.hid hv''
  have hst := stays_le gs E hl
  have htk := stays_take gs E hl
  have hcut := @stays_more_cut gs hl E ms
  have hmr := comm_more gs hl ms
  have hst2 := stays_le gs E (hl ++ ms)
  have C1 := Lib.hid (fun w3 (hb : Below w.heap.size w w3) => stays_any (.slice p gs.length q) gs E B L (.slice a hl.length c) hl w3 (hv.keep hb) (hs.keep hb))
  have C2 := Lib.hid (fun w3 (hb : Below w.heap.size w w3) => common_any (.slice p gs.length q) gs E B L (.slice a hl.length c) hl w3 (hv.keep hb) (hs.keep hb))
  have c3 : ∀ w3 (_ : Below w.heap.size w w3), Calls Try.prog 16 #[.slice p (stays gs E hl) q, .agg #[.int .u64 E, .int .i64 B, .bool L, .slice a hl.length c]] w3 fun e w' => e = .returned (.int .i64 (stays gs E hl : Nat)) ∧ Below w3.heap.size w3 w' := fun w3 hb => by
    have h := stays_any (.slice p (stays gs E hl) q) (gs.take (stays gs E hl)) E B L (.slice a hl.length c) hl w3 (InG.take (hv.keep hb) hst.2) (hs.keep hb)
    rw [htk] at h
    exact h
  have C3 := Lib.hid c3
  have C4 := Lib.hid (fun w3 sl (hb : Below w.heap.size w w3) (h : InG w3 sl (hl ++ ms)) => stays_any (.slice p gs.length q) gs E B L sl (hl ++ ms) w3 (hv.keep hb) h)
  clear c3 hv hv'' hs htk
  have hlen : (hl ++ ms).length = hl.length + ms.length := List.length_append
  obtain ⟨hm, hhm⟩ : ∃ hm, hm = hl ++ ms := ⟨_, rfl⟩
  have HHM := Lib.hid hhm
  rw [← hhm] at hcut hmr hst2 C4 hlen
  clear hhm
  generalize stays gs E hl = s at *
  generalize stays gs E hm = s2 at *
  generalize comm gs hm = m2 at *
  generalize comm gs hl = m at *
  have n0 : s ≤ gs.length := hst.2
  have hfin : (m < hl.length → s2 = s) ∧ m ≤ s2 := ⟨hcut, by omega⟩
  have HFIN := Lib.hid hfin
  have HPQ := Lib.hid hpq
  have L1 := Lib.hid l1
  have L2 := Lib.hid l2
  have L3 := Lib.hid l3
  have LM := Lib.hid hlen
  clear hst hcut hmr hst2 hfin hpq l1 l2 l3 hlen
  have HB := Lib.hid hb0
  have H4 := Lib.hid hb1
  clear hb0 hb1
  go_enter Try.func6, Try.ntmps6
  go_wp2_with fail
  generalize w.alloc (Obj.cells #[.int .u64 E, .int .i64 B, .bool L, .slice a hl.length c] 25) = w1 at *
  refine (works_any _).mono ?_
  rintro e w2 ⟨rfl, hb⟩
  have H4 := Lib.hid (H4.out.keep hb)
  have HB := Lib.hid (HB.out.trans (hb.mono HB.out.size))
  clear hb
  go_wp2_with (refine wpList_load_row rfl 25 _ rfl w.heap.size rfl 25 #[.int .u64 E, .int .i64 B, .bool L, .slice a hl.length c] (0, 0) _ H4.out Try.underlying25 rfl (by kernel_rfl) ?_)
  refine (C1.out _ HB.out).mono ?_
  rintro e w3 ⟨rfl, hb⟩
  have H4 := Lib.hid (H4.out.keep hb)
  have HB := Lib.hid (HB.out.trans (hb.mono HB.out.size))
  clear hb
  have i0 : ¬ ((s : Int) < 0) := by omega
  have i1 : ¬ ((gs.length : Int) < (s : Int)) := by omega
  have d0 : decide ((s : Int) < 0) = false := decide_eq_false i0
  have d1 : decide ((gs.length : Int) < (s : Int)) = false := decide_eq_false i1
  have d2 : decide (gs.length < s) = false := decide_eq_false (by omega)
  have i2 : s ≤ q := by have := HPQ.out; omega
  go_wp2_with fail
  refine wp_region_below (by kernel_rfl) (by kernel_rfl) ?_
  have e0 : ∀ z : Bw w3, z.w.cell? ⟨w.heap.size, 0, none⟩ = some (.int .u64 E) := fun z => z.cell (by rw [H4.out.cell 0]; rfl)
  have e1 : ∀ z : Bw w3, z.w.cell? ⟨w.heap.size, 1, none⟩ = some (.int .i64 B) := fun z => z.cell (by rw [H4.out.cell 1]; rfl)
  have e2 : ∀ z : Bw w3, z.w.cell? ⟨w.heap.size, 2, none⟩ = some (.bool L) := fun z => z.cell (by rw [H4.out.cell 2]; rfl)
  have e3 : ∀ z : Bw w3, z.w.cell? ⟨w.heap.size, 3, none⟩ = some (.slice a hl.length c) := fun z => z.cell (by rw [H4.out.cell 3]; rfl)
  repeat (go_big_quiet_step (first | (go_at_call 16; exact below_call (C3.out _ (HB.out.trans (Bw.below _ |>.mono HB.out.size))))))
  refine wpQuiet_nil ?_
  intro w4 hb
  have H4 := Lib.hid (H4.out.keep hb)
  have HB := Lib.hid (HB.out.trans (hb.mono HB.out.size))
  clear hb e0 e1 e2 e3 i0 i1 d0 d1 d2 i2
  obtain ⟨q8, hq8⟩ : ∃ z, z = w4.heap.size := ⟨_, rfl⟩
  have hle : w.heap.size ≤ w4.heap.size := HB.out.size
  have hlt : w.heap.size < q8 := by rw [hq8]; exact H4.out.lt
  have H8n := Lib.hid (Blk.newAt (w := w4) 25 #[.int .u64 E, .int .i64 B, .bool L, .slice none 0 0] hq8.symm)
  have H4n := Lib.hid (H4.out.alloc (Obj.cells #[.int .u64 E, .int .i64 B, .bool L, .slice none 0 0] 25))
  have HBn := Lib.hid (HB.out.alloc hle (Obj.cells #[.int .u64 E, .int .i64 B, .bool L, .slice none 0 0] 25))
  have HLT := Lib.hid hlt
  have hsz : q8 < (w4.alloc (Obj.cells #[.int .u64 E, .int .i64 B, .bool L, .slice none 0 0] 25)).heap.size := H8n.out.lt
  have k43 := H4n.out.cell 3
  simp at k43
  have hA := app_guids (w := w4.alloc (Obj.cells #[.int .u64 E, .int .i64 B, .bool L, .slice none 0 0] 25)) (base := q8 + 1) 23 (OwG.nil_ _ _) (HH.out.keep HBn.out) (by simp; have := L2.out; omega) hsz
  rw [List.nil_append] at hA
  have HA := Lib.hid hA
  have HSZ := Lib.hid hsz
  rw [← hq8] at hle
  have HLE := Lib.hid hle
  clear hA hsz hlt hle
  subst hq8
  go_wp2_with (first | refine wpList_load_row rfl 25 _ rfl w.heap.size rfl 25 #[.int .u64 E, .int .i64 B, .bool L, .slice a hl.length c] (0, 0) _ H4.out Try.underlying25 rfl (by kernel_rfl) ?_ | (at_builtin; refine wpList_append_run rfl _ _ 23 rfl _ _ rfl rfl _ HA.out ?_))
  refine Later.mk fun w6 hw6 v7 w7 hp => ?_
  subst hw6
  obtain ⟨ua, uc, rfl, -, -⟩ := hp.1.rd.open_
  have hbb := hp.below (OwG.nil_ _ _) HSZ.out
  have H8 := Lib.hid (H8n.out.below hbb (Nat.lt_succ_self _))
  have H4 := Lib.hid (H4n.out.below hbb (by have := HLT.out; omega))
  have HB := Lib.hid (HBn.out.trans (hbb.mono (by have := HLE.out; omega)))
  have ho := hp.1
  have hsz7 : w4.heap.size + 1 ≤ w7.heap.size := H8.out.lt
  clear hp hbb H8n H4n HBn HA HSZ k43
  generalize w4.heap.size = q8 at *
  have f3 := H8.out.frozen 3
  have k3 := H8.out.cell 3
  have H8n := Lib.hid (H8.out.set 3 (.slice ua hl.length uc))
  have H4n := Lib.hid (H4.out.far (p := ⟨q8, 3, none⟩) (by have := HLT.out; simp; omega) (.slice ua hl.length uc))
  have HBn := Lib.hid (HB.out.setCell (p := ⟨q8, 3, none⟩) HLE.out (.slice ua hl.length uc))
  have ho2 : OwG (w7.setCell ⟨q8, 3, none⟩ (.slice ua hl.length uc)) (q8 + 1) (.slice ua hl.length uc) hl := ho.above fun b hbb => by
    simp only [World.setCell, Array.getElem?_modify]
    rw [if_neg (by omega)]
  have hsz1 : (w7.setCell ⟨q8, 3, none⟩ (.slice ua hl.length uc)).heap.size = w7.heap.size := by simp [World.setCell]
  have hA := app_guids (w := w7.setCell ⟨q8, 3, none⟩ (.slice ua hl.length uc)) (base := q8 + 1) 23 ho2 (HM.out.keep HBn.out) (by have := L2.out; have := L3.out; omega) (by rw [hsz1]; omega)
  simp at k3
  have HA := Lib.hid hA
  have HO2 := Lib.hid ho2
  have HSZ := Lib.hid (And.intro hsz7 hsz1)
  clear hA hsz7 hsz1 ho ho2
  go_wp2_with (at_builtin; refine wpList_append_run rfl _ _ 23 rfl _ _ rfl rfl _ HA.out ?_)
  refine Later.mk fun w8 hw8 v9 w9 hp => ?_
  subst hw8
  obtain ⟨va, vc, rfl, -, -⟩ := hp.1.rd.open_
  have hbb := hp.below HO2.out (by rw [HSZ.out.2]; exact HSZ.out.1)
  have H8 := Lib.hid (H8n.out.below hbb (Nat.lt_succ_self _))
  have H4 := Lib.hid (H4n.out.below hbb (by have := HLT.out; omega))
  have HB := Lib.hid (HBn.out.trans (hbb.mono (by have := HLE.out; omega)))
  have ho := hp.1
  clear hp hbb H8n H4n HBn HA HSZ HO2 k3 f3
  have f3 := H8.out.frozen 3
  have k3 := H8.out.cell 3
  simp at k3
  rw [← HHM.out] at ho ⊢
  have H8n := Lib.hid (H8.out.set 3 (.slice va hm.length vc))
  have H4n := Lib.hid (H4.out.far (p := ⟨q8, 3, none⟩) (by have := HLT.out; simp; omega) (.slice va hm.length vc))
  have HBn := Lib.hid (HB.out.setCell (p := ⟨q8, 3, none⟩) HLE.out (.slice va hm.length vc))
  have ho2 : OwG (w9.setCell ⟨q8, 3, none⟩ (.slice va hm.length vc)) (q8 + 1) (.slice va hm.length vc) hm := ho.above fun b hbb => by
    simp only [World.setCell, Array.getElem?_modify]
    rw [if_neg (by omega)]
  have HIN := Lib.hid ho2.rd
  clear ho ho2
  go_wp2_with (refine wpList_load_row rfl 25 _ rfl w.heap.size rfl 25 #[.int .u64 E, .int .i64 B, .bool L, .slice a hl.length c] (0, 0) _ H4n.out Try.underlying25 rfl (by kernel_rfl) ?_)
  refine (C2.out _ HBn.out).mono ?_
  rintro e w10 ⟨rfl, hb⟩
  have H8 := Lib.hid (H8n.out.keep hb)
  have H4 := Lib.hid (H4n.out.keep hb)
  have HIN := Lib.hid (HIN.out.keep hb)
  have HB := Lib.hid (HBn.out.trans (hb.mono HBn.out.size))
  clear hb H8n H4n HBn f3 k3
  have k43 := H4.out.cell 3
  simp at k43
  by_cases hc : m < hl.length
  · obtain rfl := HFIN.out.1 hc
    have i1 : (m : Int) < (hl.length : Int) := by omega
    clear hc
    go_wp2_with (refine wpList_load_row rfl 25 _ rfl q8 rfl 25 #[.int .u64 E, .int .i64 B, .bool L, .slice va hm.length vc] (0, 0) _ H8.out Try.underlying25 rfl (by kernel_rfl) ?_)
    refine (C4.out _ _ HB.out HIN.out).mono ?_
    rintro e w11 ⟨rfl, hb⟩
    have HB := Lib.hid (HB.out.trans (hb.mono HB.out.size))
    clear hb k43 i1
    go_wp2
    go_ret
    exact ⟨by simp, HB.out⟩
  · have i1 : ¬ ((m : Int) < (hl.length : Int)) := by omega
    have i2 : (m : Int) ≤ (s2 : Int) := by have := HFIN.out.2; omega
    clear hc
    go_wp2_with (refine wpList_load_row rfl 25 _ rfl q8 rfl 25 #[.int .u64 E, .int .i64 B, .bool L, .slice va hm.length vc] (0, 0) _ H8.out Try.underlying25 rfl (by kernel_rfl) ?_)
    refine (C4.out _ _ HB.out HIN.out).mono ?_
    rintro e w11 ⟨rfl, hb⟩
    have HB := Lib.hid (HB.out.trans (hb.mono HB.out.size))
    clear hb k43 i1
    go_wp2
    go_ret
    exact ⟨by simp, HB.out⟩
end Go.Proofs.Ytfkgidljgbhccaa
