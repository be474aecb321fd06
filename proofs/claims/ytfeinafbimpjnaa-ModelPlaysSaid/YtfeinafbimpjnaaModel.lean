/-
  A MODEL IN MEMORY, and what its methods do to it: Begin.
-/
import Derived.Test.YtfeinafbimpjnaaModMap
import Derived.Test.YtfeinafbimpjnaaGrow
namespace Go.Proofs.Ytfeinafbimpjnaa
open Go.RowKit Reg Go.WideShapes Go.ChangeShapes

/-- a volume: its 256 bytes -/
abbrev Vol := List Int
def volC (v : Vol) : Array Value := (v.map (Value.int .u8)).toArray
def encV (v : Vol) : Value := .agg (volC v)
def wfV (v : Vol) : Prop := v.length = 256 ∧ ∀ x ∈ v, 0 ≤ x ∧ x < 256
def zeroV : Vol := List.replicate 256 0
theorem zeroV_wf : wfV zeroV := ⟨List.length_replicate, fun x hx => by rw [List.eq_of_mem_replicate hx]; omega⟩
theorem volC_size {v : Vol} (h : wfV v) : (volC v).size = 256 := by simp [volC, h.1]
theorem volC_one (v : Vol) : (volC v).all (·.oneCell') = true := by
  unfold volC
  rw [← Array.all_toList]
  simp only [List.all_map, List.all_eq_true]
  intro x _
  rfl
theorem vol_info : (Try.prog.info? 63).map (fun i => (i.zero, i.size)) = some (some (encV zeroV), 256) := by kernel_rfl
theorem vol_zero (w : World) : (zeroValue 63).run Try.prog w = .ok (encV zeroV) w := by
  have h := vol_info
  cases hi : Try.prog.info? 63 with
  | none => rw [hi] at h; cases h
  | some i =>
    rw [hi] at h
    simp only [Option.map_some, Option.some.injEq, Prod.mk.injEq] at h
    simp [zeroValue, typeInfo, hi, h.1]
def up {κ : Type} [DecidableEq κ] (f : κ → Option Vol) (k : κ) (v : Vol) : κ → Option Vol := fun x => if x = k then some v else f x
theorem up_same {κ : Type} [DecidableEq κ] (f : κ → Option Vol) (k : κ) (v : Vol) : up f k v k = some v := if_pos rfl
theorem up_other {κ : Type} [DecidableEq κ] (f : κ → Option Vol) {k x : κ} (v : Vol) (h : x ≠ k) : up f k v x = f x := if_neg h
structure Mdl where
  n : Int
  live : Int → Option Vol
  img : Gd → Option Vol
  list : List Gd
structure Md (w : World) (bm bl bi : Nat) (S : Mdl) : Prop where
  n : 1 ≤ S.n ∧ S.n ≤ 8
  obj : ∃ sl, Blk w bm 59 #[.int .i64 S.n, .map (some bl), .map (some bi), sl] ∧ OwG w 0 sl S.list
  live : ∃ F, Mp w bl 32 F ∧ ∀ a, (Lit.int .u64 a).wf = true → F (.int .u64 a) = (S.live a).map encV
  img : ∃ F, Mp w bi 34 F ∧ ∀ g, wfG g → F (aggG g) = (S.img g).map encV
  ne : bl ≠ bi
  wl : ∀ a v, S.live a = some v → wfV v
  wi : ∀ g v, S.img g = some v → wfV v
  len : S.list.length ≤ 2 ^ 20
def fp (bm bl bi : Nat) (b : Nat) : Prop := b = bm ∨ b = bl ∨ b = bi
section
variable {w w' : World} {bm bl bi : Nat} {S : Mdl}
theorem Md.keep (h : Md w bm bl bi S) (hb : Below w.heap.size w w') : Md w' bm bl bi S := by
  obtain ⟨sl, h1, h2⟩ := h.obj
  obtain ⟨F, h3, h4⟩ := h.live
  obtain ⟨G, h5, h6⟩ := h.img
  exact ⟨h.n, ⟨sl, h1.keep hb, h2.keep hb⟩, ⟨F, h3.keep hb, h4⟩, ⟨G, h5.keep hb, h6⟩, h.ne, h.wl, h.wi, h.len⟩
theorem Md.look_live (h : Md w bm bl bi S) {a : Int} (ha : (Lit.int .u64 a).wf = true) (c : Bool) :
    (Instr.lookup 56 (.map (some bl)) (.int .u64 a) c).run Try.prog w = .ok (if c then .tuple #[encV ((S.live a).getD zeroV), .bool (S.live a).isSome] else encV ((S.live a).getD zeroV)) w := by
  obtain ⟨F, h3, h4⟩ := h.live
  obtain ⟨kl, hk⟩ := keyOf_u64 ha
  have := h3.look key_u64 Try.underlying56 (vol_zero w) hk c
  rw [this, h4 a ha]
  cases S.live a <;> rfl
theorem Md.look_img (h : Md w bm bl bi S) {g : Gd} (hg : wfG g) (c : Bool) :
    (Instr.lookup 57 (.map (some bi)) (aggG g) c).run Try.prog w = .ok (if c then .tuple #[encV ((S.img g).getD zeroV), .bool (S.img g).isSome] else encV ((S.img g).getD zeroV)) w := by
  obtain ⟨F, h3, h4⟩ := h.img
  obtain ⟨kl, hk⟩ := keyOf_guid hg
  have := h3.look key_guid Try.underlying57 (vol_zero w) hk c
  rw [this, h4 g hg]
  cases S.img g <;> rfl
theorem Md.put_live (h : Md w bm bl bi S) {a : Int} (ha : (Lit.int .u64 a).wf = true) {v : Vol} (hv : wfV v) :
    ∃ w', (Instr.mapUpdate 56 (.map (some bl)) (.int .u64 a) (encV v)).run Try.prog w = .ok () w' ∧ Md w' bm bl bi { S with live := up S.live a v } ∧ Kp (· = bl) w w' := by
  obtain ⟨F, h3, h4⟩ := h.live
  obtain ⟨G, h5, h6⟩ := h.img
  obtain ⟨sl, h1, h2⟩ := h.obj
  obtain ⟨kl, hk⟩ := keyOf_u64 ha
  obtain ⟨w', hr, hm, hkp⟩ := h3.update key_u64 Try.underlying56 hk (encV v)
  have hne : bm ≠ bl := fun e => by subst e; exact h3.not_cells h1
  refine ⟨w', hr, ⟨h.n, ⟨sl, hkp.blk h1 hne, hkp.own h2 (fun g t cs e hc => by subst e; exact (h3.not_cells hc).elim)⟩, ⟨_, hm, fun x hx => ?_⟩, ⟨G, h5.of_heap (hkp.2 _ h5.lt (Ne.symm h.ne)), h6⟩, h.ne, ?_, h.wi, h.len⟩, hkp⟩
  · show putF F (.int .u64 a) (encV v) (.int .u64 x) = (up S.live a v x).map encV
    by_cases e : x = a
    · subst e
      rw [putF_same, up_same]
      rfl
    · rw [putF_other _ _ (by simpa using e), h4 x hx, up_other _ _ e]
  · intro x u (hu : up S.live a v x = some u)
    by_cases e : x = a
    · rw [e, up_same] at hu
      rw [← Option.some.inj hu]
      exact hv
    · rw [up_other _ _ e] at hu
      exact h.wl x u hu
theorem Md.put_img (h : Md w bm bl bi S) {g : Gd} (hg : wfG g) {v : Vol} (hv : wfV v) :
    ∃ w', (Instr.mapUpdate 57 (.map (some bi)) (aggG g) (encV v)).run Try.prog w = .ok () w' ∧ Md w' bm bl bi { S with img := up S.img g v } ∧ Kp (· = bi) w w' := by
  obtain ⟨F, h3, h4⟩ := h.live
  obtain ⟨G, h5, h6⟩ := h.img
  obtain ⟨sl, h1, h2⟩ := h.obj
  obtain ⟨kl, hk⟩ := keyOf_guid hg
  obtain ⟨w', hr, hm, hkp⟩ := h5.update key_guid Try.underlying57 hk (encV v)
  have hne : bm ≠ bi := fun e => by subst e; exact h5.not_cells h1
  refine ⟨w', hr, ⟨h.n, ⟨sl, hkp.blk h1 hne, hkp.own h2 (fun q t cs e hc => by subst e; exact (h5.not_cells hc).elim)⟩, ⟨F, h3.of_heap (hkp.2 _ h3.lt h.ne), h4⟩, ⟨_, hm, fun x hx => ?_⟩, h.ne, h.wl, ?_, h.len⟩, hkp⟩
  · show putF G (aggG g) (encV v) (aggG x) = (up S.img g v x).map encV
    by_cases e : x = g
    · subst e
      rw [putF_same, up_same]
      rfl
    · rw [putF_other, h6 x hx, up_other _ _ e]
      intro e2
      apply e
      simp only [aggG, Value.agg.injEq, Array.mk.injEq, List.cons.injEq, Value.int.injEq, true_and, and_true] at e2
      exact Prod.ext e2.1 e2.2
  · intro x u (hu : up S.img g v x = some u)
    by_cases e : x = g
    · rw [e, up_same] at hu
      rw [← Option.some.inj hu]
      exact hv
    · rw [up_other _ _ e] at hu
      exact h.wi x u hu
end
section
variable {w w' : World} {bm bl bi : Nat} {S : Mdl} {t : TypeId} {cs : Array Value} {g : Nat}
theorem Md.not_l (h : Md w bm bl bi S) (hb : Blk w bl t cs) : False := by
  obtain ⟨F, h3, _⟩ := h.live
  exact h3.not_cells hb
theorem Md.not_i (h : Md w bm bl bi S) (hb : Blk w bi t cs) : False := by
  obtain ⟨F, h3, _⟩ := h.img
  exact h3.not_cells hb
theorem Md.ne_l (h : Md w bm bl bi S) (hb : Blk w bm t cs) : ¬ bm = bl := fun e => h.not_l (e ▸ hb)
theorem Md.ne_i (h : Md w bm bl bi S) (hb : Blk w bm t cs) : ¬ bm = bi := fun e => h.not_i (e ▸ hb)
theorem Md.drew (h : Md w bm bl bi S) : Md w.drew bm bl bi S := h.keep (Below.refl _ _).drew
/-- the map of images, wherever the other map alone has turned -/
theorem Md.img_keep (h : Md w bm bl bi S) (hk : Kp (· = bl) w w') {g : Gd} (hg : wfG g) (c : Bool) :
    (Instr.lookup 57 (.map (some bi)) (aggG g) c).run Try.prog w' = .ok (if c then .tuple #[encV ((S.img g).getD zeroV), .bool (S.img g).isSome] else encV ((S.img g).getD zeroV)) w' := by
  obtain ⟨F, h3, h4⟩ := h.img
  obtain ⟨kl, hkl⟩ := keyOf_guid hg
  have h5 : Mp w' bi 34 F := h3.of_heap (hk.2 _ h3.lt (Ne.symm h.ne))
  have := h5.look key_guid Try.underlying57 (vol_zero w') hkl c
  rw [this, h4 g hg]
  cases S.img g <;> rfl
end
theorem Kp.mono {A A' : Nat → Prop} {w w' : World} (h : Kp A w w') (hA : ∀ b, A b → A' b) : Kp A' w w' := ⟨h.1, fun b hb hn => h.2 b hb fun ha => hn (hA b ha)⟩
/-- a region whose special operation k writes the block b alone -/
structure UC (w6 : World) (b k : Nat) (M0 M1 : World → Prop) (σ : Nat → Option Value) (w : World) : Prop where
  kp : Kp (· = b) w6 w
  m0 : σ k = none → M0 w
  m1 : σ k ≠ none → M1 w
theorem UC.start {w6 : World} {b k : Nat} {M0 M1 : World → Prop} (h : M0 w6.drew) : UC w6 b k M0 M1 (fun _ => none) w6.drew := ⟨.of_below (Below.refl _ _).drew, fun _ => h, fun h => absurd rfl h⟩
theorem UC.put {w6 w w' : World} {b k : Nat} {M0 M1 : World → Prop} {σ : Nat → Option Value} {u : Value} (h : UC w6 b k M0 M1 σ w) (hk : Kp (· = b) w w') (hm : M1 w') : UC w6 b k M0 M1 (upd σ k u) w' :=
  ⟨h.kp.trans hk, (fun e => by rw [upd_same] at e; cases e), fun _ => hm⟩
def Mdl.begin (S : Mdl) (e : Int) (g : Gd) : Mdl := if (S.live e).isSome then S else { S with live := up S.live e ((S.img g).getD zeroV) }
theorem vol_size : (Try.prog.info? 63).map (fun i => i.size) = some 256 := by kernel_rfl
set_option maxRecDepth 100000 in
theorem begin_any (w : World) (bm bl bi : Nat) (S : Mdl) (e : Int) (g : Gd) (h : Md w bm bl bi S) (he : (Lit.int .u64 e).wf = true) (hg : wfG g) :
    Calls Try.prog 10 #[.pointer (some ⟨bm, 0, none⟩), .int .u64 e, aggG g] w fun e' w' => e' = .returned (.tuple #[]) ∧ Md w' bm bl bi (S.begin e g) ∧ Kp (fp bm bl bi) w w' := by
  have hz := vol_zero
  have hb0 := (Below.refl w.heap.size w).alloc (Nat.le_refl _) (Obj.cells #[.int .u64 g.1, .int .u64 g.2] 34)
  have h1 := h.keep hb0
  have hlk := h1.look_live he true
  have hlv : wfV ((S.live e).getD zeroV) := by
    cases hq : S.live e with
    | none => exact zeroV_wf
    | some v => exact h.wl e v hq
  have hiv : wfV ((S.img g).getD zeroV) := by
    cases hq : S.img g with
    | none => exact zeroV_wf
    | some v => exact h.wi g v hq
  have hsz := volC_size hlv
  have hzs := volC_size zeroV_wf
  unfold encV at hlk hz
  simp only [if_true] at hlk
  have hone := volC_one ((S.live e).getD zeroV)
  have hli : ∀ w1, Md w1 bm bl bi S → ∀ w2, Kp (· = bl) w1 w2 → (Instr.lookup 57 (.map (some bi)) (aggG g) false).run Try.prog w2 = .ok (encV ((S.img g).getD zeroV)) w2 := fun w1 h1 w2 h2 => h1.img_keep h2 hg false
  have hup : ∀ w2, Md w2 bm bl bi S → _ := fun w2 h2 => h2.put_live he hiv
  generalize volC ((S.live e).getD zeroV) = cv at *
  generalize volC zeroV = zc at *
  unfold Mdl.begin
  generalize (S.img g).getD zeroV = iv at *
  unfold aggG at hli ⊢
  obtain ⟨a, b⟩ := g
  simp only at hli h1 hb0 hlk ⊢
  obtain ⟨sl, hbk, -⟩ := h1.obj
  have c1 := hbk.cell 1
  have c2 := hbk.cell 2
  simp at c1 c2
  generalize hse : (S.live e).isSome = is at *
  have hsc : (Try.prog.info? 63).map (fun i => i.size) = some cv.size := by rw [hsz]; exact vol_size
  have b6 := Blk.newAt (w := w.alloc (Obj.cells #[.int .u64 a, .int .u64 b] 34)) 63 zc (g := w.heap.size + 1) (by simp)
  have B6 := Lib.hid b6
  have HSC := Lib.hid hsc
  have HZS := Lib.hid (hzs.trans hsz.symm)
  have HONE := Lib.hid hone
  have hb2 := hb0.alloc (by simp) (Obj.cells zc 63)
  have h2 : ∀ w6, w6 = ((w.alloc (Obj.cells #[.int .u64 a, .int .u64 b] 34)).alloc (Obj.cells zc 63)).setRow (w.heap.size + 1) cv → Below w.heap.size w w6 := by
    rintro w6 rfl
    exact Below.setRow hb2 (Nat.le_succ _) _
  have H2 := Lib.hid h2
  have b5 := (Blk.new w 34 #[.int .u64 a, .int .u64 b]).alloc (Obj.cells zc 63)
  have h5 : ∀ w6, w6 = ((w.alloc (Obj.cells #[.int .u64 a, .int .u64 b] 34)).alloc (Obj.cells zc 63)).setRow (w.heap.size + 1) cv → Blk w6 w.heap.size 34 #[.int .u64 a, .int .u64 b] := by
    rintro w6 rfl
    exact b5.farRow (by omega) _
  have H5 := Lib.hid h5
  clear b5 h5
  have HM := Lib.hid h
  have HLI := Lib.hid hli
  have HUP := Lib.hid hup
  clear hsz hzs hone hlv hiv h1 hbk b6 hsc hb0 hb2 h2 hli hup
  cases is with
  | true =>
    clear h
    go_enter Try.func10, Try.ntmps10
    go_wp2_with (refine wpList_store_then rfl 63 _ _ rfl (w.heap.size + 1) cv rfl rfl 63 _ B6.out HSC.out HZS.out HONE.out ?_)
    refine Later.mk fun w6 hw6 => ?_
    have HB6 := Lib.hid (H2.out w6 hw6)
    clear hw6 c1 c2 hlk hz
    go_wp2
    go_end0
    exact ⟨rfl, HM.out.keep HB6.out, Kp.of_below HB6.out⟩
  | false =>
    clear h
    go_enter Try.func10, Try.ntmps10
    go_wp2_with (refine wpList_store_then rfl 63 _ _ rfl (w.heap.size + 1) cv rfl rfl 63 _ B6.out HSC.out HZS.out HONE.out ?_)
    refine Later.mk fun w6 hw6 => ?_
    have HB6 := Lib.hid (H2.out w6 hw6)
    clear c1 c2 hlk hz
    have hm6 := HM.out.keep HB6.out
    obtain ⟨sl6, hbk6, -⟩ := hm6.obj
    have b5 := H5.out w6 hw6
    have HNE := Lib.hid (show ¬ bm = bl from hm6.ne_l hbk6)
    have HNX := Lib.hid (show ¬ w.heap.size = bl from fun e => hm6.not_l (e ▸ b5))
    have HLK6 := Lib.hid (fun w2 (hk : Kp (· = bl) w6 w2) => HLI.out w6 hm6 w2 hk)
    have HBK := Lib.hid hbk6
    have HBX := Lib.hid b5
    have HM6 := Lib.hid hm6
    clear hw6 b5 hbk6 hm6
    go_wp2_with fail
    refine wp_region_spec (fun i => i == 11) (kinds [(11, .is undef)]) (UC w6 bl 11 (fun w => Md w bm bl bi S) (fun w => Md w bm bl bi { S with live := up S.live e iv })) (by kernel_rfl) (by kernel_rfl) (kinds_inh _) (UC.start HM6.out.drew) ?_
    intro ν hν
    have n11 : ν 11 = undef := hν 11
    clear hν
    refine lex_plain (by rfl) rfl ?_
    apply Exists.intro
    refine ⟨fun σ w2 hA hD hC => ?_, ?_⟩
    · clear hA hD hC
      go_simp
      exact And.intro rfl rfl
    simp only [Act.put, List.setIfInBounds_toArray, List.set_cons_succ, List.set_cons_zero, Nat.reduceAdd]
    refine lex_plain (by rfl) rfl ?_
    apply Exists.intro
    refine ⟨fun σ w2 hA hD hC => ?_, ?_⟩
    · clear hA hD hC
      go_simp
      exact And.intro rfl rfl
    simp only [Act.put, List.setIfInBounds_toArray, List.set_cons_succ, List.set_cons_zero, Nat.reduceAdd]
    refine lex_plain (by rfl) rfl ?_
    apply Exists.intro
    refine ⟨fun σ w2 hA hD hC => ?_, ?_⟩
    · clear hA hD hC
      go_simp
      exact And.intro rfl rfl
    simp only [Act.put, List.setIfInBounds_toArray, List.set_cons_succ, List.set_cons_zero, Nat.reduceAdd]
    refine lex_plain (by rfl) rfl ?_
    apply Exists.intro
    refine ⟨fun σ w2 hA hD hC => ?_, ?_⟩
    · have hx := (hC.kp.blk HBK.out HNE.out).cell 1
      simp at hx
      clear hA hD hC
      go_simp
      exact And.intro rfl rfl
    simp only [Act.put, List.setIfInBounds_toArray, List.set_cons_succ, List.set_cons_zero, Nat.reduceAdd]
    refine lex_plain (by rfl) rfl ?_
    apply Exists.intro
    refine ⟨fun σ w2 hA hD hC => ?_, ?_⟩
    · clear hA hD hC
      go_simp
      exact And.intro rfl rfl
    simp only [Act.put, List.setIfInBounds_toArray, List.set_cons_succ, List.set_cons_zero, Nat.reduceAdd]
    refine lex_plain (by rfl) rfl ?_
    apply Exists.intro
    refine ⟨fun σ w2 hA hD hC => ?_, ?_⟩
    · clear hA hD hC
      go_simp
      exact And.intro rfl rfl
    simp only [Act.put, List.setIfInBounds_toArray, List.set_cons_succ, List.set_cons_zero, Nat.reduceAdd]
    refine lex_plain (by rfl) rfl ?_
    apply Exists.intro
    refine ⟨fun σ w2 hA hD hC => ?_, ?_⟩
    · clear hA hD hC
      go_simp
      exact And.intro rfl rfl
    simp only [Act.put, List.setIfInBounds_toArray, List.set_cons_succ, List.set_cons_zero, Nat.reduceAdd]
    refine lex_plain (by rfl) rfl ?_
    apply Exists.intro
    refine ⟨fun σ w2 hA hD hC => ?_, ?_⟩
    · clear hA hD hC
      go_simp
      exact And.intro rfl rfl
    simp only [Act.put, List.setIfInBounds_toArray, List.set_cons_succ, List.set_cons_zero, Nat.reduceAdd]
    refine lex_plain (by rfl) rfl ?_
    apply Exists.intro
    refine ⟨fun σ w2 hA hD hC => ?_, ?_⟩
    · have hx := (hC.kp.blk HBK.out HNE.out).cell 2
      simp at hx
      clear hA hD hC
      go_simp
      exact And.intro rfl rfl
    simp only [Act.put, List.setIfInBounds_toArray, List.set_cons_succ, List.set_cons_zero, Nat.reduceAdd]
    refine lex_plain (by rfl) rfl ?_
    apply Exists.intro
    refine ⟨fun σ w2 hA hD hC => ?_, ?_⟩
    · have hx := (hC.kp.blk HBX.out HNX.out).cell 0
      have hy := (hC.kp.blk HBX.out HNX.out).cell 1
      simp at hx hy
      clear hA hD hC
      go_simp
      exact And.intro rfl rfl
    simp only [Act.put, List.setIfInBounds_toArray, List.set_cons_succ, List.set_cons_zero, Nat.reduceAdd]
    refine lex_plain (by rfl) rfl ?_
    apply Exists.intro
    refine ⟨fun σ w2 hA hD hC => ?_, ?_⟩
    · have hx := HLK6.out w2 hC.kp
      clear hA hD hC
      go_simp
      exact And.intro rfl rfl
    simp only [Act.put, List.setIfInBounds_toArray, List.set_cons_succ, List.set_cons_zero, Nat.reduceAdd]
    refine lex_special (by rfl) rfl (fun σ w2 hA hD hn hC => ?_) ?_
    · obtain ⟨w', hr, hm, hk⟩ := HUP.out w2 (hC.m0 hn)
      go_simp
      exact ⟨rfl, hC.put hk hm⟩
    rw [n11]
    simp only [Act.put, Nat.reduceAdd]
    refine lex_nil (fun σ w9 hA hall hC => ?_)
    have s11 := hall 11 rfl (by decide)
    have hm9 := Lib.hid (hC.m1 (by rw [s11]; simp))
    have hk9 := Lib.hid ((Kp.of_below HB6.out).trans (hC.kp.mono fun b hb => (Or.inr (Or.inl hb) : fp bm bl bi b)))
    clear hA hall hC s11 n11
    go_wp2
    go_end0
    exact ⟨rfl, hm9.out, hk9.out⟩
end Go.Proofs.Ytfeinafbimpjnaa
