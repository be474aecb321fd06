/-
  A MODEL: Snap (printed by wip/gen-model3.py).
-/
import Derived.Test.YtfeinafbimpjnaaModel2
namespace Go.Proofs.Ytfeinafbimpjnaa
open Go.RowKit Reg Go.WideShapes Go.ChangeShapes

def Mdl.snap (S : Mdl) (g : Gd) : Mdl := match S.live g.1, S.img g with
  | some v, none => { S with img := up S.img g v }
  | _, _ => S
theorem fine_one (al st : Nat) (ty : TypeId) (z cs : Array Value) (h : al ≠ st) (h1 : 1 ≤ al) (h2 : 1 ≤ st) : Fine [⟨al, st, ty, z, some cs, 0⟩] := by
  refine ⟨?_, ?_, ?_, ?_⟩
  all_goals
    intro v hv v' hv'
    simp only [List.mem_cons, List.not_mem_nil, or_false] at hv hv'
    subst hv
    subst hv'
    simp only
  · exact h
  · exact fun _ => trivial
  · exact fun _ => trivial
  · omega
set_option maxRecDepth 100000 in
theorem snap_any (w : World) (bm bl bi : Nat) (S : Mdl) (g : Gd) (h : Md w bm bl bi S) (hg : wfG g) :
    Calls Try.prog 15 #[.pointer (some ⟨bm, 0, none⟩), aggG g] w fun e' w' => e' = .returned (.tuple #[]) ∧ Md w' bm bl bi (S.snap g) ∧ Kp (fp bm bl bi) w w' := by
  have hz := vol_zero
  obtain ⟨S', hS'⟩ : ∃ S', S' = S.snap g := ⟨_, rfl⟩
  rw [← hS']
  have hlk := fun w2 (h2 : Md w2 bm bl bi S) => h2.look_live hg.1 true
  have hli := fun w2 (h2 : Md w2 bm bl bi S) => h2.look_img hg true
  have hlv : wfV ((S.live g.1).getD zeroV) := by
    cases hq : S.live g.1 with
    | none => exact zeroV_wf
    | some v => exact h.wl _ v hq
  have hiv : wfV ((S.img g).getD zeroV) := by
    cases hq : S.img g with
    | none => exact zeroV_wf
    | some v => exact h.wi g v hq
  have hup : ∀ w2, Md w2 bm bl bi S → _ := fun w2 h2 => h2.put_img hg hlv
  have hsz := volC_size hlv
  have hsi := volC_size hiv
  have hzs := volC_size zeroV_wf
  have hone := volC_one ((S.live g.1).getD zeroV)
  have honei := volC_one ((S.img g).getD zeroV)
  unfold encV at hlk hli hz hup
  simp only [if_true] at hlk hli
  have hcase : ((S.live g.1).isSome = false ∧ S' = S) ∨ ((S.live g.1).isSome = true ∧ (S.img g).isSome = true ∧ S' = S) ∨ ((S.live g.1).isSome = true ∧ (S.img g).isSome = false ∧ S' = { S with img := up S.img g ((S.live g.1).getD zeroV) }) := by
    rw [hS', Mdl.snap]
    cases h1 : S.live g.1 with
    | none => exact .inl ⟨rfl, by cases S.img g <;> rfl⟩
    | some v =>
      cases h2 : S.img g with
      | none => exact .inr (.inr ⟨rfl, rfl, rfl⟩)
      | some v' => exact .inr (.inl ⟨rfl, rfl, rfl⟩)
  clear hS' hlv hiv
  generalize (S.live g.1).getD zeroV = lv at *
  generalize (S.img g).getD zeroV = iv at *
  generalize (S.live g.1).isSome = isl at *
  generalize (S.img g).isSome = isi at *
  generalize volC lv = cv at *
  generalize volC iv = ci at *
  generalize volC zeroV = zc at *
  unfold aggG at hli hup ⊢
  obtain ⟨a, b⟩ := g
  simp only at hli hlk hup ⊢
  have HI1 := Lib.hid (show (Try.prog.info? 63).map (fun i => i.size) = some zc.size by rw [hzs]; exact vol_size)
  have HIC := Lib.hid (show (Try.prog.info? 63).map (fun i => i.size) = some cv.size by rw [hsz]; exact vol_size)
  have HS1 := Lib.hid (hsz.trans hzs.symm)
  have HS2 := Lib.hid (hsi.trans hzs.symm)
  have HO1 := Lib.hid hone
  have HO2 := Lib.hid honei
  have HLK := Lib.hid hlk
  have HLI := Lib.hid hli
  have HUP := Lib.hid hup
  have HCASE := Lib.hid hcase
  have hb0 := (Below.refl w.heap.size w).alloc (Nat.le_refl _) (Obj.cells #[.int .u64 a, .int .u64 b] 34)
  have hm0 := h.keep hb0
  obtain ⟨sl, hbk, -⟩ := hm0.obj
  have HB := Lib.hid hb0
  have HM := Lib.hid hm0
  have HBM := Lib.hid hbk
  have HBX := Lib.hid (Blk.new w 34 #[.int .u64 a, .int .u64 b])
  clear hlk hli hup hsz hsi hzs hone honei hcase hb0 hm0 hbk h hg
  go_enter Try.func15, Try.ntmps15
  go_wp2_with fail
  generalize w.alloc (Obj.cells #[.int .u64 a, .int .u64 b] 34) = w1 at *
  refine wp_region_spec (fun i => i == 10 || i == 11) (kinds [(10, .pt), (11, .is undef)]) (CG w1 [⟨10, 11, 63, zc, some cv, 0⟩] (fun _ _ _ => True)) (by kernel_rfl) (by kernel_rfl) (kinds_inh _) CG.start ?_
  intro ν hν
  obtain ⟨g10, n10⟩ : ∃ g, ν 10 = ptr g := hν 10
  have n11 : ν 11 = undef := hν 11
  clear hν
  refine lex_plain (by rfl) rfl ?_
  apply Exists.intro
  refine ⟨fun σ w2 hA hD hC => ?_, ?_⟩
  · clear hA hD hC
    go_simp
    exact And.intro rfl rfl
  simp only [Act.put, List.setIfInBounds_toArray, List.set_cons_succ, List.set_cons_zero, Nat.reduceAdd]
  refine lex_plain (by rfl) rfl ?_
  apply Exists.intro
  refine ⟨fun σ w2 hA hD hC => ?_, ?_⟩
  · clear hA hD hC
    go_simp
    exact And.intro rfl rfl
  simp only [Act.put, List.setIfInBounds_toArray, List.set_cons_succ, List.set_cons_zero, Nat.reduceAdd]
  refine lex_plain (by rfl) rfl ?_
  apply Exists.intro
  refine ⟨fun σ w2 hA hD hC => ?_, ?_⟩
  · clear hA hD hC
    go_simp
    exact And.intro rfl rfl
  simp only [Act.put, List.setIfInBounds_toArray, List.set_cons_succ, List.set_cons_zero, Nat.reduceAdd]
  refine lex_plain (by rfl) rfl ?_
  apply Exists.intro
  refine ⟨fun σ w2 hA hD hC => ?_, ?_⟩
  · have hx := (HBM.out.keep hC.below).cell 1
    simp at hx
    clear hA hD hC
    go_simp
    exact And.intro rfl rfl
  simp only [Act.put, List.setIfInBounds_toArray, List.set_cons_succ, List.set_cons_zero, Nat.reduceAdd]
  refine lex_plain (by rfl) rfl ?_
  apply Exists.intro
  refine ⟨fun σ w2 hA hD hC => ?_, ?_⟩
  · clear hA hD hC
    go_simp
    exact And.intro rfl rfl
  simp only [Act.put, List.setIfInBounds_toArray, List.set_cons_succ, List.set_cons_zero, Nat.reduceAdd]
  refine lex_plain (by rfl) rfl ?_
  apply Exists.intro
  refine ⟨fun σ w2 hA hD hC => ?_, ?_⟩
  · have hx := (HBX.out.keep hC.below).cell 0
    simp at hx
    clear hA hD hC
    go_simp
    exact And.intro rfl rfl
  simp only [Act.put, List.setIfInBounds_toArray, List.set_cons_succ, List.set_cons_zero, Nat.reduceAdd]
  refine lex_plain (by rfl) rfl ?_
  apply Exists.intro
  refine ⟨fun σ w2 hA hD hC => ?_, ?_⟩
  · have hx := HLK.out _ (HM.out.keep hC.below)
    clear hA hD hC
    go_simp
    exact And.intro rfl rfl
  simp only [Act.put, List.setIfInBounds_toArray, List.set_cons_succ, List.set_cons_zero, Nat.reduceAdd]
  refine lex_plain (by rfl) rfl ?_
  apply Exists.intro
  refine ⟨fun σ w2 hA hD hC => ?_, ?_⟩
  · clear hA hD hC
    go_simp
    exact And.intro rfl rfl
  simp only [Act.put, List.setIfInBounds_toArray, List.set_cons_succ, List.set_cons_zero, Nat.reduceAdd]
  refine lex_plain (by rfl) rfl ?_
  apply Exists.intro
  refine ⟨fun σ w2 hA hD hC => ?_, ?_⟩
  · clear hA hD hC
    go_simp
    exact And.intro rfl rfl
  simp only [Act.put, List.setIfInBounds_toArray, List.set_cons_succ, List.set_cons_zero, Nat.reduceAdd]
  refine lex_plain (by rfl) rfl ?_
  apply Exists.intro
  refine ⟨fun σ w2 hA hD hC => ?_, ?_⟩
  · clear hA hD hC
    go_simp
    exact And.intro rfl rfl
  simp only [Act.put, List.setIfInBounds_toArray, List.set_cons_succ, List.set_cons_zero, Nat.reduceAdd]
  refine lex_special (by rfl) rfl (fun σ w2 hA hD hn hC => ?_) ?_
  · go_simp
    exact hC.lay_ok (fine_one _ _ _ _ _ (by decide) (by decide) (by decide)) (v := ⟨10, 11, 63, zc, some cv, 0⟩) (by simp) hn ⟨_, rfl⟩
  rw [n10]
  simp only [Act.put, List.setIfInBounds_toArray, List.set_cons_succ, List.set_cons_zero, Nat.reduceAdd]
  refine lex_special (by rfl) rfl (fun σ w2 hA hD hn hC => ?_) ?_
  · have ea := got1 hA hD 10 rfl (by kernel_rfl)
    rw [n10] at ea
    exact hC.store_ok (fine_one _ _ _ _ _ (by decide) (by decide) (by decide)) (v := ⟨10, 11, 63, zc, some cv, 0⟩) (by simp) 63 (.tmp 4) (.tmp 18) rfl g10 cv rfl rfl ea rfl hn HI1.out HS1.out HO1.out rfl
  rw [n11]
  simp only [Act.put, Nat.reduceAdd]
  refine lex_plain (by rfl) rfl ?_
  apply Exists.intro
  refine ⟨fun σ w2 hA hD hC => ?_, ?_⟩
  · clear hA hD hC
    go_simp
    exact And.intro rfl rfl
  simp only [Act.put, List.setIfInBounds_toArray, List.set_cons_succ, List.set_cons_zero, Nat.reduceAdd]
  refine lex_nil (fun σ w3 hA hall hC => ?_)
  have HB := Lib.hid (HB.out.trans (hC.below.mono HB.out.size))
  have HM := Lib.hid (HM.out.keep hC.below)
  have HBM := Lib.hid (HBM.out.keep hC.below)
  have HBX := Lib.hid (HBX.out.keep hC.below)
  obtain ⟨k10, f10, -, B10⟩ := hC.end_ (v := ⟨10, 11, 63, zc, some cv, 0⟩) (by simp) (hall 10 rfl (by decide)) (hall 11 rfl (by decide))
  have f10 := ptr_inj (n10.symm.trans f10)
  subst f10
  have HV := Lib.hid (show Blk w3 g10 63 cv from B10)
  clear hA hall hC n10 n11 B10
  unfold ptr
  go_wp2_with fail
  refine wp_region_spec (fun i => i == 9 || i == 10) (kinds [(9, .pt), (10, .is undef)]) (CG w3 [⟨9, 10, 63, zc, some ci, 0⟩] (fun _ _ _ => True)) (by kernel_rfl) (by kernel_rfl) (kinds_inh _) CG.start ?_
  intro ν hν
  obtain ⟨g9, n9⟩ : ∃ g, ν 9 = ptr g := hν 9
  have n10 : ν 10 = undef := hν 10
  clear hν
  refine lex_plain (by rfl) rfl ?_
  apply Exists.intro
  refine ⟨fun σ w2 hA hD hC => ?_, ?_⟩
  · clear hA hD hC
    go_simp
    exact And.intro rfl rfl
  simp only [Act.put, List.setIfInBounds_toArray, List.set_cons_succ, List.set_cons_zero, Nat.reduceAdd]
  refine lex_plain (by rfl) rfl ?_
  apply Exists.intro
  refine ⟨fun σ w2 hA hD hC => ?_, ?_⟩
  · clear hA hD hC
    go_simp
    exact And.intro rfl rfl
  simp only [Act.put, List.setIfInBounds_toArray, List.set_cons_succ, List.set_cons_zero, Nat.reduceAdd]
  refine lex_plain (by rfl) rfl ?_
  apply Exists.intro
  refine ⟨fun σ w2 hA hD hC => ?_, ?_⟩
  · clear hA hD hC
    go_simp
    exact And.intro rfl rfl
  simp only [Act.put, List.setIfInBounds_toArray, List.set_cons_succ, List.set_cons_zero, Nat.reduceAdd]
  refine lex_plain (by rfl) rfl ?_
  apply Exists.intro
  refine ⟨fun σ w2 hA hD hC => ?_, ?_⟩
  · have hx := (HBM.out.keep hC.below).cell 2
    simp at hx
    clear hA hD hC
    go_simp
    exact And.intro rfl rfl
  simp only [Act.put, List.setIfInBounds_toArray, List.set_cons_succ, List.set_cons_zero, Nat.reduceAdd]
  refine lex_plain (by rfl) rfl ?_
  apply Exists.intro
  refine ⟨fun σ w2 hA hD hC => ?_, ?_⟩
  · have hx := (HBX.out.keep hC.below).cell 0
    have hy := (HBX.out.keep hC.below).cell 1
    simp at hx hy
    clear hA hD hC
    go_simp
    exact And.intro rfl rfl
  simp only [Act.put, List.setIfInBounds_toArray, List.set_cons_succ, List.set_cons_zero, Nat.reduceAdd]
  refine lex_plain (by rfl) rfl ?_
  apply Exists.intro
  refine ⟨fun σ w2 hA hD hC => ?_, ?_⟩
  · have hx := HLI.out _ (HM.out.keep hC.below)
    clear hA hD hC
    go_simp
    exact And.intro rfl rfl
  simp only [Act.put, List.setIfInBounds_toArray, List.set_cons_succ, List.set_cons_zero, Nat.reduceAdd]
  refine lex_plain (by rfl) rfl ?_
  apply Exists.intro
  refine ⟨fun σ w2 hA hD hC => ?_, ?_⟩
  · clear hA hD hC
    go_simp
    exact And.intro rfl rfl
  simp only [Act.put, List.setIfInBounds_toArray, List.set_cons_succ, List.set_cons_zero, Nat.reduceAdd]
  refine lex_plain (by rfl) rfl ?_
  apply Exists.intro
  refine ⟨fun σ w2 hA hD hC => ?_, ?_⟩
  · clear hA hD hC
    go_simp
    exact And.intro rfl rfl
  simp only [Act.put, List.setIfInBounds_toArray, List.set_cons_succ, List.set_cons_zero, Nat.reduceAdd]
  refine lex_plain (by rfl) rfl ?_
  apply Exists.intro
  refine ⟨fun σ w2 hA hD hC => ?_, ?_⟩
  · clear hA hD hC
    go_simp
    exact And.intro rfl rfl
  simp only [Act.put, List.setIfInBounds_toArray, List.set_cons_succ, List.set_cons_zero, Nat.reduceAdd]
  refine lex_special (by rfl) rfl (fun σ w2 hA hD hn hC => ?_) ?_
  · go_simp
    exact hC.lay_ok (fine_one _ _ _ _ _ (by decide) (by decide) (by decide)) (v := ⟨9, 10, 63, zc, some ci, 0⟩) (by simp) hn ⟨_, rfl⟩
  rw [n9]
  simp only [Act.put, List.setIfInBounds_toArray, List.set_cons_succ, List.set_cons_zero, Nat.reduceAdd]
  refine lex_special (by rfl) rfl (fun σ w2 hA hD hn hC => ?_) ?_
  · have ea := got1 hA hD 9 rfl (by kernel_rfl)
    rw [n9] at ea
    exact hC.store_ok (fine_one _ _ _ _ _ (by decide) (by decide) (by decide)) (v := ⟨9, 10, 63, zc, some ci, 0⟩) (by simp) 63 (.tmp 6) (.tmp 27) rfl g9 ci rfl rfl ea rfl hn HI1.out HS2.out HO2.out rfl
  rw [n10]
  simp only [Act.put, Nat.reduceAdd]
  refine lex_plain (by rfl) rfl ?_
  apply Exists.intro
  refine ⟨fun σ w2 hA hD hC => ?_, ?_⟩
  · clear hA hD hC
    go_simp
    exact And.intro rfl rfl
  simp only [Act.put, List.setIfInBounds_toArray, List.set_cons_succ, List.set_cons_zero, Nat.reduceAdd]
  refine lex_nil (fun σ w4 hA hall hC => ?_)
  have HB := Lib.hid (HB.out.trans (hC.below.mono HB.out.size))
  have HM := Lib.hid (HM.out.keep hC.below)
  have HBM := Lib.hid (HBM.out.keep hC.below)
  have HBX := Lib.hid (HBX.out.keep hC.below)
  have HV := Lib.hid (HV.out.keep hC.below)
  clear hA hall hC n9 n10
  unfold ptr
  rcases HCASE.out with ⟨rfl, rfl⟩ | ⟨rfl, rfl, rfl⟩ | ⟨rfl, rfl, rfl⟩
  · clear hz
    go_wp2
    go_end0
    exact ⟨rfl, HM.out, Kp.of_below HB.out⟩
  · clear hz
    go_wp2
    go_end0
    exact ⟨rfl, HM.out, Kp.of_below HB.out⟩
  · have HNE := Lib.hid (HM.out.ne_i HBM.out)
    have HNX := Lib.hid (show ¬ w.heap.size = bi from fun e => HM.out.not_i (t := 34) (cs := #[.int .u64 a, .int .u64 b]) (by rw [← e]; exact HBX.out))
    have HNV := Lib.hid (show ¬ g10 = bi from fun e => HM.out.not_i (t := 63) (cs := cv) (by rw [← e]; exact HV.out))
    clear hz
    go_wp2_with fail
    refine wp_region_spec (fun i => i == 6) (kinds [(6, .is undef)]) (UC w4 bi 6 (fun w => Md w bm bl bi S) (fun w => Md w bm bl bi { S with img := up S.img (a, b) lv })) (by kernel_rfl) (by kernel_rfl) (kinds_inh _) (UC.start HM.out.drew) ?_
    intro ν hν
    have n6 : ν 6 = undef := hν 6
    clear hν
    refine lex_plain (by rfl) rfl ?_
    apply Exists.intro
    refine ⟨fun σ w2 hA hD hC => ?_, ?_⟩
    · clear hA hD hC
      go_simp
      exact And.intro rfl rfl
    simp only [Act.put, List.setIfInBounds_toArray, List.set_cons_succ, List.set_cons_zero, Nat.reduceAdd]
    refine lex_plain (by rfl) rfl ?_
    apply Exists.intro
    refine ⟨fun σ w2 hA hD hC => ?_, ?_⟩
    · clear hA hD hC
      go_simp
      exact And.intro rfl rfl
    simp only [Act.put, List.setIfInBounds_toArray, List.set_cons_succ, List.set_cons_zero, Nat.reduceAdd]
    refine lex_plain (by rfl) rfl ?_
    apply Exists.intro
    refine ⟨fun σ w2 hA hD hC => ?_, ?_⟩
    · clear hA hD hC
      go_simp
      exact And.intro rfl rfl
    simp only [Act.put, List.setIfInBounds_toArray, List.set_cons_succ, List.set_cons_zero, Nat.reduceAdd]
    refine lex_plain (by rfl) rfl ?_
    apply Exists.intro
    refine ⟨fun σ w2 hA hD hC => ?_, ?_⟩
    · have hx := (hC.kp.blk HBM.out HNE.out).cell 2
      simp at hx
      clear hA hD hC
      go_simp
      exact And.intro rfl rfl
    simp only [Act.put, List.setIfInBounds_toArray, List.set_cons_succ, List.set_cons_zero, Nat.reduceAdd]
    refine lex_plain (by rfl) rfl ?_
    apply Exists.intro
    refine ⟨fun σ w2 hA hD hC => ?_, ?_⟩
    · have hx := (hC.kp.blk HBX.out HNX.out).cell 0
      have hy := (hC.kp.blk HBX.out HNX.out).cell 1
      simp at hx hy
      clear hA hD hC
      go_simp
      exact And.intro rfl rfl
    simp only [Act.put, List.setIfInBounds_toArray, List.set_cons_succ, List.set_cons_zero, Nat.reduceAdd]
    refine lex_plain (by rfl) rfl ⟨.agg cv, fun σ w2 hA hD hC => ?_, ?_⟩
    · rw [exec_load 63 (.tmp 4) rfl g10 rfl 63 _ _ (hC.kp.blk HV.out HNV.out) Try.underlying63 rfl HIC.out]
      exact ⟨rfl, rfl⟩
    simp only [Act.put, List.setIfInBounds_toArray, List.set_cons_succ, List.set_cons_zero, Nat.reduceAdd]
    refine lex_special (by rfl) rfl (fun σ w2 hA hD hn hC => ?_) ?_
    · obtain ⟨w', hr, hm, hk⟩ := HUP.out w2 (hC.m0 hn)
      go_simp
      exact ⟨rfl, hC.put hk hm⟩
    rw [n6]
    simp only [Act.put, Nat.reduceAdd]
    refine lex_nil (fun σ w9 hA hall hC => ?_)
    have s6 := hall 6 rfl (by decide)
    have hm9 := Lib.hid (hC.m1 (by rw [s6]; simp))
    have hk9 := Lib.hid ((Kp.of_below HB.out).trans (hC.kp.mono fun b hb => (Or.inr (Or.inr hb) : fp bm bl bi b)))
    clear hA hall hC s6 n6
    go_wp2
    go_end0
    exact ⟨rfl, hm9.out, hk9.out⟩
end Go.Proofs.Ytfeinafbimpjnaa
