/-
  THE LAW's same: two chains tell the same (printed by wip/gen-rch.py).
-/
import Derived.Test.YtjeebpklinpmfaaRcE
import Derived.Test.YtjeebpklinpmfaaRcF
import Derived.Test.YtjeebpklinpmfaaRcG
namespace Go.Proofs.Ytjeebpklinpmfaa
open Go.RowKit Reg Go.WideShapes Go.ChangeShapes

/-- the program's chain and the reference's, both C -/
structure Pr (B : Nat) (w0 w : World) (bc br : Nat) (C : Ch) : Prop where
  ho : Ho B w0 w bc C
  rc : Rc w B br C
section
variable {B : Nat} {w0 w w' : World} {bc br : Nat} {C : Ch}
theorem Pr.keep (h : Pr B w0 w bc br C) (hb : Below w.heap.size w w') : Pr B w0 w' bc br C := ⟨h.ho.keep hb, h.rc.keep hb⟩
theorem Rc.read (h : Rc w B br C) (g : Gd) : Calls Try.prog 44 #[.pointer (some ⟨br, 0, none⟩), aggG g] w (ReadT w (C.readL g) (C.findE g)) := by
  obtain ⟨nv, sv, now, es, h1, h2⟩ := h
  exact readR_any h1 h2 g
theorem Rc.chg (h : Rc w B br C) (n : Int) : Calls Try.prog 45 #[.pointer (some ⟨br, 0, none⟩), .int .i64 n] w (ChgT w (C.chC n) (C.chE n)) := by
  obtain ⟨nv, sv, now, es, h1, h2⟩ := h
  exact chgR_any h1 h2 n
theorem Rc.list (h : Rc w B br C) : Calls Try.prog 49 #[.pointer (some ⟨br, 0, none⟩)] w (RetG w (C.snaps.map (·.g))) := by
  obtain ⟨nv, sv, now, es, h1, h2⟩ := h
  exact listR_any h1 h2
theorem Rc.now (h : Rc w B br C) : ∃ a c, w.cell? ⟨br, 0, none⟩ = some (.slice a C.n c) ∧ InT w (.slice a C.n c) (C.live.take C.n) := by
  obtain ⟨nv, sv, now, es, h1, h2⟩ := h
  obtain ⟨a, c, e⟩ := h1.now.slice_
  subst e
  have h3 := h1.now.rd
  rw [h2.nlen] at h3
  rw [h2.now] at h3
  refine ⟨a, c, ?_, h3⟩
  rw [h1.obj.cell, ← h2.nlen]
  rfl
theorem Rc.nlen (h : Rc w B br C) : (C.live.take C.n).length = C.n := by
  obtain ⟨nv, sv, now, es, h1, h2⟩ := h
  rw [← h2.now]
  exact h2.nlen
theorem boxB (w : World) (g : Gd) : Below w.heap.size w (w.alloc (.cells #[.int .u64 g.1, .int .u64 g.2] 33)) := (Below.refl _ _).alloc (Nat.le_refl _) _
set_option maxRecDepth 100000 in
set_option maxHeartbeats 2000000 in
theorem same_any (h : Pr B w0 w bc br C) (g : Gd) (n : Int) : Calls Try.prog 25 #[.pointer (some ⟨bc, 0, none⟩), .pointer (some ⟨br, 0, none⟩), aggG g, .int .i64 n] w fun e w' => e = .returned (.bool true) ∧ Below w.heap.size w w' := by
  have hb0 := boxB w g
  have HP := Lib.hid (h.keep hb0)
  have HB := Lib.hid hb0
  have HX := Lib.hid (Blk.new w 33 #[.int .u64 g.1, .int .u64 g.2])
  have hr1 := fun w' (h : Pr B w0 w' bc br C) => ho_read h.ho g
  have hr2 := fun w' (h : Pr B w0 w' bc br C) => h.rc.read g
  have hc1 := fun w' (h : Pr B w0 w' bc br C) => ho_chg h.ho n
  have hc2 := fun w' (h : Pr B w0 w' bc br C) => h.rc.chg n
  have HRL := Lib.hid h.rc.nlen
  unfold aggG at hr1 hr2 ⊢
  generalize C.readL g = rl at *
  generalize C.findE g = fe at *
  generalize C.chC n = cl at *
  generalize C.chE n = ce at *
  have HR1 := Lib.hid hr1
  have HR2 := Lib.hid hr2
  have HC1 := Lib.hid hc1
  have HC2 := Lib.hid hc2
  clear h hb0 hr1 hr2 hc1 hc2
  go_enter Try.func25, Try.ntmps25
  go_wp2_with fail
  generalize w.alloc (Obj.cells #[.int .u64 g.1, .int .u64 g.2] 33) = w1 at *
  have y0 := HX.out.cell 0
  have y1 := HX.out.cell 1
  simp at y0 y1
  refine (HR1.out _ HP.out).mono ?_
  rintro e w2 ⟨ra, rfl, ho, hb⟩
  obtain ⟨aa, ac, rfl⟩ := ho.slice_
  generalize hrl : rl.length = rn at *
  have HRN := Lib.hid hrl
  have HA := Lib.hid ho.rd
  replace HP := Lib.hid (HP.out.keep hb)
  replace HB := Lib.hid (HB.out.trans (hb.mono HB.out.size))
  replace y0 := cell_later hb y0
  replace y1 := cell_later hb y1
  clear ho hb HR1 HX hrl
  go_wp2_with fail
  refine (HR2.out _ HP.out).mono ?_
  rintro e w3 ⟨rb, rfl, ho, hb⟩
  obtain ⟨ba, bd, rfl⟩ := ho.slice_
  rw [HRN.out] at ho ⊢
  have HBB := Lib.hid ho.rd
  replace HA := Lib.hid (HA.out.keep hb)
  replace HP := Lib.hid (HP.out.keep hb)
  replace HB := Lib.hid (HB.out.trans (hb.mono HB.out.size))
  clear ho hb HR2 y0 y1
  go_wp2_with fail
  refine (HC1.out _ HP.out).mono ?_
  rintro e w4 ⟨xa, rfl, ho, hb⟩
  obtain ⟨xv, xc, rfl⟩ := own_slice ho.1
  generalize hcl : cl.length = cn at *
  have HCN := Lib.hid hcl
  have HCX := Lib.hid ho.rd
  replace HA := Lib.hid (HA.out.keep hb)
  replace HBB := Lib.hid (HBB.out.keep hb)
  replace HP := Lib.hid (HP.out.keep hb)
  replace HB := Lib.hid (HB.out.trans (hb.mono HB.out.size))
  clear ho hb HC1 hcl
  go_wp2_with fail
  refine (HC2.out _ HP.out).mono ?_
  rintro e w5 ⟨ya, rfl, ho, hb⟩
  obtain ⟨yv, yc, rfl⟩ := own_slice ho.1
  rw [HCN.out] at ho ⊢
  have HCY := Lib.hid ho.rd
  replace HA := Lib.hid (HA.out.keep hb)
  replace HBB := Lib.hid (HBB.out.keep hb)
  replace HCX := Lib.hid (HCX.out.keep hb)
  replace HP := Lib.hid (HP.out.keep hb)
  replace HB := Lib.hid (HB.out.trans (hb.mono HB.out.size))
  clear ho hb HC2
  obtain ⟨gs, hgs⟩ : ∃ gs, gs = C.snaps.map (·.g) := ⟨_, rfl⟩
  obtain ⟨gn, hgn⟩ : ∃ gn, gn = gs.length := ⟨_, rfl⟩
  obtain ⟨lv, hlv⟩ : ∃ lv, lv = C.live.take C.n := ⟨_, rfl⟩
  obtain ⟨N, hN⟩ : ∃ N, N = C.n := ⟨_, rfl⟩
  have HL1 := Lib.hid (fun w' (h : Pr B w0 w' bc br C) => show Calls Try.prog 18 #[.pointer (some ⟨bc, 0, none⟩)] w' (RetG w' gs) from by rw [hgs]; exact ho_list h.ho)
  have HL2 := Lib.hid (fun w' (h : Pr B w0 w' bc br C) => show Calls Try.prog 49 #[.pointer (some ⟨br, 0, none⟩)] w' (RetG w' gs) from by rw [hgs]; exact h.rc.list)
  have HV1 := Lib.hid (fun w' (h : Pr B w0 w' bc br C) => show Calls Try.prog 13 #[.pointer (some ⟨bc, 0, none⟩)] w' (RetT w' lv) from by rw [hlv]; exact ho_live h.ho)
  have HV2 := Lib.hid (fun w' (h : Pr B w0 w' bc br C) => show ∃ a c, w'.cell? ⟨br, 0, none⟩ = some (.slice a N c) ∧ InT w' (.slice a N c) lv from by rw [hlv, hN]; exact h.rc.now)
  have HLN := Lib.hid (show lv.length = N from by rw [hlv, hN]; exact HRL.out)
  have HGN := Lib.hid hgn
  obtain ⟨nva, nvc, z0, hz0⟩ := HV2.out _ HP.out
  have HZ0 := Lib.hid (And.intro z0 hz0)
  clear hgs hgn hlv hN HRL z0 hz0 HV2
  go_wp2_with fail
  refine wp_region_chain [2, 11, 20, 22, 23, 27, 32] (kv [(2, .is (.bool true)), (11, .is (.bool true)), (20, .sla gn), (22, .sla gn), (23, .is (.bool true)), (27, .sla N), (32, .is (.bool true))]) (fun l w2 => match l with | [_, _, u] => Below w5.heap.size w5 w2 ∧ OwG w2 w5.heap.size u gs | [_, _, u, v] => Below w5.heap.size w5 w2 ∧ OwG w2 w5.heap.size u gs ∧ OwG w2 w5.heap.size v gs | [_, _, _, _, _, x] => Below w5.heap.size w5 w2 ∧ OwT w2 w5.heap.size x lv | _ => Below w5.heap.size w5 w2) (by kernel_rfl) (by kernel_rfl) (by kernel_rfl) (kv_inh _) (Below.drew (Below.refl _ _)) ?_
  intro ν hν
  have n2 : ν 2 = .bool true := hν 2
  have n11 : ν 11 = .bool true := hν 11
  obtain ⟨a20, c20, n20⟩ : ∃ a c, ν 20 = .slice a gn c := hν 20
  obtain ⟨a22, c22, n22⟩ : ∃ a c, ν 22 = .slice a gn c := hν 22
  have n23 : ν 23 = .bool true := hν 23
  obtain ⟨a27, c27, n27⟩ : ∃ a c, ν 27 = .slice a N c := hν 27
  have n32 : ν 32 = .bool true := hν 32
  clear hν
  refine ch_plain 0 7 8 (by rfl) rfl (by kernel_rfl) (by kernel_rfl) ?_
  apply Exists.intro
  refine ⟨fun st w2 hlo hhi hJ => ?_, ?_⟩
  · clear hlo hhi hJ
    go_simp
    exact And.intro rfl rfl
  simp only [Act.put, List.setIfInBounds_toArray, List.set_cons_succ, List.set_cons_zero, Nat.reduceAdd]
  refine ch_plain 0 7 8 (by rfl) rfl (by kernel_rfl) (by kernel_rfl) ?_
  apply Exists.intro
  refine ⟨fun st w2 hlo hhi hJ => ?_, ?_⟩
  · clear hlo hhi hJ
    go_simp
    exact And.intro rfl rfl
  simp only [Act.put, List.setIfInBounds_toArray, List.set_cons_succ, List.set_cons_zero, Nat.reduceAdd]
  refine ch_special 0 8 (by rfl) rfl (by decide) (by kernel_rfl) (fun w2 hJ => ?_) ?_
  · have hj : Below w5.heap.size w5 w2 := hJ
    go_simp
    refine (textsR_eq w2 _ _ rl (HA.out.keep hj) (HBB.out.keep hj)).mono ?_
    rintro e w6 ⟨rfl, hb⟩
    exact ⟨_, rfl, rfl, hj.trans (hb.mono hj.size)⟩
  rw [n2]
  simp only [Act.put, List.setIfInBounds_toArray, List.set_cons_succ, List.set_cons_zero, Nat.reduceAdd]
  refine ch_plain 0 7 8 (by rfl) rfl (by kernel_rfl) (by kernel_rfl) ?_
  apply Exists.intro
  refine ⟨fun st w2 hlo hhi hJ => ?_, ?_⟩
  · clear hlo hhi hJ
    go_simp
    exact And.intro rfl rfl
  simp only [Act.put, List.setIfInBounds_toArray, List.set_cons_succ, List.set_cons_zero, Nat.reduceAdd]
  refine ch_plain 0 7 8 (by rfl) rfl (by kernel_rfl) (by kernel_rfl) ?_
  apply Exists.intro
  refine ⟨fun st w2 hlo hhi hJ => ?_, ?_⟩
  · clear hlo hhi hJ
    go_simp
    exact And.intro rfl rfl
  simp only [Act.put, List.setIfInBounds_toArray, List.set_cons_succ, List.set_cons_zero, Nat.reduceAdd]
  refine ch_plain 0 7 8 (by rfl) rfl (by kernel_rfl) (by kernel_rfl) ?_
  apply Exists.intro
  refine ⟨fun st w2 hlo hhi hJ => ?_, ?_⟩
  · clear hlo hhi hJ
    go_simp
    exact And.intro rfl rfl
  simp only [Act.put, List.setIfInBounds_toArray, List.set_cons_succ, List.set_cons_zero, Nat.reduceAdd]
  refine ch_plain 0 7 8 (by rfl) rfl (by kernel_rfl) (by kernel_rfl) ?_
  apply Exists.intro
  refine ⟨fun st w2 hlo hhi hJ => ?_, ?_⟩
  · clear hlo hhi hJ
    go_simp
    exact And.intro rfl rfl
  simp only [Act.put, List.setIfInBounds_toArray, List.set_cons_succ, List.set_cons_zero, Nat.reduceAdd]
  refine ch_plain 0 7 8 (by rfl) rfl (by kernel_rfl) (by kernel_rfl) ?_
  apply Exists.intro
  refine ⟨fun st w2 hlo hhi hJ => ?_, ?_⟩
  · clear hlo hhi hJ
    go_simp
    exact And.intro rfl rfl
  simp only [Act.put, List.setIfInBounds_toArray, List.set_cons_succ, List.set_cons_zero, Nat.reduceAdd]
  refine ch_plain 0 7 8 (by rfl) rfl (by kernel_rfl) (by kernel_rfl) ?_
  apply Exists.intro
  refine ⟨fun st w2 hlo hhi hJ => ?_, ?_⟩
  · clear hlo hhi hJ
    go_simp
    exact And.intro rfl rfl
  simp only [Act.put, List.setIfInBounds_toArray, List.set_cons_succ, List.set_cons_zero, Nat.reduceAdd]
  refine ch_plain 0 7 8 (by rfl) rfl (by kernel_rfl) (by kernel_rfl) ?_
  apply Exists.intro
  refine ⟨fun st w2 hlo hhi hJ => ?_, ?_⟩
  · clear hlo hhi hJ
    go_simp
    exact And.intro rfl rfl
  simp only [Act.put, List.setIfInBounds_toArray, List.set_cons_succ, List.set_cons_zero, Nat.reduceAdd]
  refine ch_plain 0 7 8 (by rfl) rfl (by kernel_rfl) (by kernel_rfl) ?_
  apply Exists.intro
  refine ⟨fun st w2 hlo hhi hJ => ?_, ?_⟩
  · clear hlo hhi hJ
    go_simp
    exact And.intro rfl rfl
  simp only [Act.put, List.setIfInBounds_toArray, List.set_cons_succ, List.set_cons_zero, Nat.reduceAdd]
  refine ch_special 1 8 (by rfl) rfl (by decide) (by kernel_rfl) (fun w2 hJ => ?_) ?_
  · have hj : Below w5.heap.size w5 w2 := hJ
    go_simp
    refine (sameR_eq w2 _ _ cl (HCX.out.keep hj) (HCY.out.keep hj)).mono ?_
    rintro e w6 ⟨rfl, hb⟩
    exact ⟨_, rfl, rfl, hj.trans (hb.mono hj.size)⟩
  rw [n11]
  simp only [Act.put, List.setIfInBounds_toArray, List.set_cons_succ, List.set_cons_zero, Nat.reduceAdd]
  refine ch_plain 0 7 8 (by rfl) rfl (by kernel_rfl) (by kernel_rfl) ?_
  apply Exists.intro
  refine ⟨fun st w2 hlo hhi hJ => ?_, ?_⟩
  · clear hlo hhi hJ
    go_simp
    exact And.intro rfl rfl
  simp only [Act.put, List.setIfInBounds_toArray, List.set_cons_succ, List.set_cons_zero, Nat.reduceAdd]
  refine ch_plain 0 7 8 (by rfl) rfl (by kernel_rfl) (by kernel_rfl) ?_
  apply Exists.intro
  refine ⟨fun st w2 hlo hhi hJ => ?_, ?_⟩
  · clear hlo hhi hJ
    go_simp
    exact And.intro rfl rfl
  simp only [Act.put, List.setIfInBounds_toArray, List.set_cons_succ, List.set_cons_zero, Nat.reduceAdd]
  refine ch_plain 0 7 8 (by rfl) rfl (by kernel_rfl) (by kernel_rfl) ?_
  apply Exists.intro
  refine ⟨fun st w2 hlo hhi hJ => ?_, ?_⟩
  · clear hlo hhi hJ
    go_simp
    exact And.intro rfl rfl
  simp only [Act.put, List.setIfInBounds_toArray, List.set_cons_succ, List.set_cons_zero, Nat.reduceAdd]
  refine ch_plain 0 7 8 (by rfl) rfl (by kernel_rfl) (by kernel_rfl) ?_
  apply Exists.intro
  refine ⟨fun st w2 hlo hhi hJ => ?_, ?_⟩
  · clear hlo hhi hJ
    go_simp
    exact And.intro rfl rfl
  simp only [Act.put, List.setIfInBounds_toArray, List.set_cons_succ, List.set_cons_zero, Nat.reduceAdd]
  refine ch_plain 0 7 8 (by rfl) rfl (by kernel_rfl) (by kernel_rfl) ?_
  apply Exists.intro
  refine ⟨fun st w2 hlo hhi hJ => ?_, ?_⟩
  · clear hlo hhi hJ
    go_simp
    exact And.intro rfl rfl
  simp only [Act.put, List.setIfInBounds_toArray, List.set_cons_succ, List.set_cons_zero, Nat.reduceAdd]
  refine ch_plain 0 7 8 (by rfl) rfl (by kernel_rfl) (by kernel_rfl) ?_
  apply Exists.intro
  refine ⟨fun st w2 hlo hhi hJ => ?_, ?_⟩
  · clear hlo hhi hJ
    go_simp
    exact And.intro rfl rfl
  simp only [Act.put, List.setIfInBounds_toArray, List.set_cons_succ, List.set_cons_zero, Nat.reduceAdd]
  refine ch_plain 0 7 8 (by rfl) rfl (by kernel_rfl) (by kernel_rfl) ?_
  apply Exists.intro
  refine ⟨fun st w2 hlo hhi hJ => ?_, ?_⟩
  · clear hlo hhi hJ
    go_simp
    exact And.intro rfl rfl
  simp only [Act.put, List.setIfInBounds_toArray, List.set_cons_succ, List.set_cons_zero, Nat.reduceAdd]
  refine ch_plain 0 7 8 (by rfl) rfl (by kernel_rfl) (by kernel_rfl) ?_
  apply Exists.intro
  refine ⟨fun st w2 hlo hhi hJ => ?_, ?_⟩
  · clear hlo hhi hJ
    go_simp
    exact And.intro rfl rfl
  simp only [Act.put, List.setIfInBounds_toArray, List.set_cons_succ, List.set_cons_zero, Nat.reduceAdd]
  refine ch_special 2 8 (by rfl) rfl (by decide) (by kernel_rfl) (fun w2 hJ => ?_) ?_
  · have hj : Below w5.heap.size w5 w2 := hJ
    go_simp
    refine (HL1.out w2 (HP.out.keep hj)).mono ?_
    rintro e w6 ⟨u, rfl, ho, hb⟩
    obtain ⟨ua, uc, rfl⟩ := own_slice ho.1
    rw [← HGN.out] at ho ⊢
    exact ⟨_, rfl, ⟨_, _, rfl⟩, hj.trans (hb.mono hj.size), ⟨own_mono ho.1 hj.size, ho.2⟩⟩
  rw [n20]
  simp only [Act.put, List.setIfInBounds_toArray, List.set_cons_succ, List.set_cons_zero, Nat.reduceAdd]
  refine ch_plain 0 7 8 (by rfl) rfl (by kernel_rfl) (by kernel_rfl) ?_
  apply Exists.intro
  refine ⟨fun st w2 hlo hhi hJ => ?_, ?_⟩
  · clear hlo hhi hJ
    go_simp
    exact And.intro rfl rfl
  simp only [Act.put, List.setIfInBounds_toArray, List.set_cons_succ, List.set_cons_zero, Nat.reduceAdd]
  refine ch_special 3 8 (by rfl) rfl (by decide) (by kernel_rfl) (fun w2 hJ => ?_) ?_
  · have hj : Below w5.heap.size w5 w2 ∧ OwG w2 w5.heap.size (ν 20) gs := hJ
    rw [n20] at hj
    go_simp
    refine (HL2.out w2 (HP.out.keep hj.1)).mono ?_
    rintro e w6 ⟨u, rfl, ho, hb⟩
    obtain ⟨ua, uc, rfl⟩ := own_slice ho.1
    rw [← HGN.out] at ho ⊢
    exact ⟨_, rfl, ⟨_, _, rfl⟩, hj.1.trans (hb.mono hj.1.size), hj.2.keep hb, ⟨own_mono ho.1 hj.1.size, ho.2⟩⟩
  rw [n22]
  simp only [Act.put, List.setIfInBounds_toArray, List.set_cons_succ, List.set_cons_zero, Nat.reduceAdd]
  refine ch_special 4 8 (by rfl) rfl (by decide) (by kernel_rfl) (fun w2 hJ => ?_) ?_
  · have hj : Below w5.heap.size w5 w2 ∧ OwG w2 w5.heap.size (ν 20) gs ∧ OwG w2 w5.heap.size (ν 22) gs := hJ
    rw [n20, n22] at hj
    go_simp
    refine (guidsR_eq w2 _ _ gs hj.2.1.rd hj.2.2.rd).mono ?_
    rintro e w6 ⟨rfl, hb⟩
    exact ⟨_, rfl, rfl, hj.1.trans (hb.mono hj.1.size)⟩
  rw [n23]
  simp only [Act.put, List.setIfInBounds_toArray, List.set_cons_succ, List.set_cons_zero, Nat.reduceAdd]
  refine ch_plain 0 7 8 (by rfl) rfl (by kernel_rfl) (by kernel_rfl) ?_
  apply Exists.intro
  refine ⟨fun st w2 hlo hhi hJ => ?_, ?_⟩
  · clear hlo hhi hJ
    go_simp
    exact And.intro rfl rfl
  simp only [Act.put, List.setIfInBounds_toArray, List.set_cons_succ, List.set_cons_zero, Nat.reduceAdd]
  refine ch_plain 0 7 8 (by rfl) rfl (by kernel_rfl) (by kernel_rfl) ?_
  apply Exists.intro
  refine ⟨fun st w2 hlo hhi hJ => ?_, ?_⟩
  · clear hlo hhi hJ
    go_simp
    exact And.intro rfl rfl
  simp only [Act.put, List.setIfInBounds_toArray, List.set_cons_succ, List.set_cons_zero, Nat.reduceAdd]
  refine ch_plain 0 7 8 (by rfl) rfl (by kernel_rfl) (by kernel_rfl) ?_
  apply Exists.intro
  refine ⟨fun st w2 hlo hhi hJ => ?_, ?_⟩
  · clear hlo hhi hJ
    go_simp
    exact And.intro rfl rfl
  simp only [Act.put, List.setIfInBounds_toArray, List.set_cons_succ, List.set_cons_zero, Nat.reduceAdd]
  refine ch_special 5 8 (by rfl) rfl (by decide) (by kernel_rfl) (fun w2 hJ => ?_) ?_
  · have hj : Below w5.heap.size w5 w2 := hJ
    go_simp
    refine (HV1.out w2 (HP.out.keep hj)).mono ?_
    rintro e w6 ⟨u, rfl, ho, hb⟩
    obtain ⟨ua, uc, rfl⟩ := ho.slice_
    rw [HLN.out] at ho ⊢
    exact ⟨_, rfl, ⟨_, _, rfl⟩, hj.trans (hb.mono hj.size), ho.mono hj.size⟩
  rw [n27]
  simp only [Act.put, List.setIfInBounds_toArray, List.set_cons_succ, List.set_cons_zero, Nat.reduceAdd]
  refine ch_plain 0 7 8 (by rfl) rfl (by kernel_rfl) (by kernel_rfl) ?_
  apply Exists.intro
  refine ⟨fun st w2 hlo hhi hJ => ?_, ?_⟩
  · clear hlo hhi hJ
    go_simp
    exact And.intro rfl rfl
  simp only [Act.put, List.setIfInBounds_toArray, List.set_cons_succ, List.set_cons_zero, Nat.reduceAdd]
  refine ch_plain 0 7 8 (by rfl) rfl (by kernel_rfl) (by kernel_rfl) ?_
  apply Exists.intro
  refine ⟨fun st w2 hlo hhi hJ => ?_, ?_⟩
  · clear hlo hhi hJ
    go_simp
    exact And.intro rfl rfl
  simp only [Act.put, List.setIfInBounds_toArray, List.set_cons_succ, List.set_cons_zero, Nat.reduceAdd]
  refine ch_plain 0 7 8 (by rfl) rfl (by kernel_rfl) (by kernel_rfl) ?_
  apply Exists.intro
  refine ⟨fun st w2 hlo hhi hJ => ?_, ?_⟩
  · clear hlo hhi hJ
    go_simp
    exact And.intro rfl rfl
  simp only [Act.put, List.setIfInBounds_toArray, List.set_cons_succ, List.set_cons_zero, Nat.reduceAdd]
  refine ch_plain 0 6 8 (by rfl) rfl (by kernel_rfl) (by kernel_rfl) ?_
  apply Exists.intro
  refine ⟨fun st w2 hlo hhi hJ => ?_, ?_⟩
  · have hj : Below w5.heap.size w5 w2 := by
      have q : st = 0 ∨ st = 1 ∨ st = 2 ∨ st = 3 ∨ st = 4 ∨ st = 5 ∨ st = 6 := by omega
      rcases q with rfl | rfl | rfl | rfl | rfl | rfl | rfl
      · exact hJ
      · exact hJ
      · exact hJ
      · have hj : Below w5.heap.size w5 w2 ∧ _ := hJ
        exact hj.1
      · have hj : Below w5.heap.size w5 w2 ∧ _ := hJ
        exact hj.1
      · exact hJ
      · have hj : Below w5.heap.size w5 w2 ∧ _ := hJ
        exact hj.1
    have z0 := cell_later hj HZ0.out.1
    clear hj
    clear hlo hhi hJ
    go_simp
    exact And.intro rfl rfl
  simp only [Act.put, List.setIfInBounds_toArray, List.set_cons_succ, List.set_cons_zero, Nat.reduceAdd]
  refine ch_special 6 8 (by rfl) rfl (by decide) (by kernel_rfl) (fun w2 hJ => ?_) ?_
  · have hj : Below w5.heap.size w5 w2 ∧ OwT w2 w5.heap.size (ν 27) lv := hJ
    rw [n27] at hj
    go_simp
    refine (textsR_eq w2 _ _ lv hj.2.rd (HZ0.out.2.keep hj.1)).mono ?_
    rintro e w6 ⟨rfl, hb⟩
    exact ⟨_, rfl, rfl, hj.1.trans (hb.mono hj.1.size)⟩
  rw [n32]
  simp only [Act.put, List.setIfInBounds_toArray, List.set_cons_succ, List.set_cons_zero, Nat.reduceAdd]
  refine ch_plain 0 7 8 (by rfl) rfl (by kernel_rfl) (by kernel_rfl) ?_
  apply Exists.intro
  refine ⟨fun st w2 hlo hhi hJ => ?_, ?_⟩
  · clear hlo hhi hJ
    go_simp
    exact And.intro rfl rfl
  simp only [Act.put, List.setIfInBounds_toArray, List.set_cons_succ, List.set_cons_zero, Nat.reduceAdd]
  refine ch_plain 0 7 8 (by rfl) rfl (by kernel_rfl) (by kernel_rfl) ?_
  apply Exists.intro
  refine ⟨fun st w2 hlo hhi hJ => ?_, ?_⟩
  · clear hlo hhi hJ
    go_simp
    exact And.intro rfl rfl
  simp only [Act.put, Nat.reduceAdd]
  refine ch_nil (fun w9 hJ => ?_)
  have HJ9 := Lib.hid (show Below w5.heap.size w5 w9 from hJ)
  clear hJ n2 n11 n20 n22 n23 n27 n32
  go_wp2
  go_ret
  exact ⟨rfl, HB.out.trans (HJ9.out.mono HB.out.size)⟩
end
end Go.Proofs.Ytjeebpklinpmfaa
