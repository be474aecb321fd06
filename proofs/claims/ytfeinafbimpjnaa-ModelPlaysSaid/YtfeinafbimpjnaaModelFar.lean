/-
  A MODEL's METHODS, once more: what becomes of the block of its list (printed by wip/gen-modelfar.py).
-/
import Derived.Test.YtfeinafbimpjnaaModel8
import Derived.Test.YtfeinafbimpjnaaModelImg
namespace Go.Proofs.Ytfeinafbimpjnaa
open Go.RowKit Reg Go.WideShapes Go.ChangeShapes

def fq (bl bi : Nat) (b : Nat) : Prop := b = bl ∨ b = bi
/-- the block of the model's list -/
def lsb (w : World) (bm : Nat) : Option Nat := (w.cell? ⟨bm, 3, none⟩).bind Value.ownBlock
/-- it is what it was, or new -/
def Ls (bm : Nat) (w w' : World) : Prop := lsb w' bm = lsb w bm ∨ ∀ g, lsb w' bm = some g → w.heap.size ≤ g
theorem Ls.of_heap {bm : Nat} {w w' : World} (h : w'.heap[bm]? = w.heap[bm]?) : Ls bm w w' := by
  left
  unfold lsb World.cell?
  rw [h]
theorem Ls.of_below {bm : Nat} {w w' : World} {t : TypeId} {cs : Array Value} (h : Blk w bm t cs) (hb : Below w.heap.size w w') : Ls bm w w' := .of_heap (hb.block bm h.lt)
theorem Ls.of_slice {bm : Nat} {w w' : World} {x y z : Value} {a : Option Addr} {l c : Nat} {t : TypeId} (h : Blk w' bm t #[x, y, z, .slice a l c]) (hB : ∀ g, (Value.slice a l c).ownBlock = some g → w.heap.size ≤ g) : Ls bm w w' := by
  right
  intro g hg
  apply hB g
  have c3 := h.cell 3
  simp at c3
  unfold lsb at hg
  rw [c3] at hg
  exact hg
theorem OwG.from_ {w : World} {base g : Nat} {v : Value} {gs : List Gd} (h : OwG w base v gs) (hg : v.ownBlock = some g) : base ≤ g := by
  rcases h.1.2 with ⟨rfl, _⟩ | ⟨g', cap, cur, rfl, hb, _⟩
  · cases hg
  · have : g' = g := by simpa [Value.ownBlock] using hg
    omega
theorem OwG.lt {w : World} {base g : Nat} {v : Value} {gs : List Gd} (h : OwG w base v gs) (hg : v.ownBlock = some g) : g < w.heap.size := by
  rcases h.1.2 with ⟨rfl, _⟩ | ⟨g', cap, cur, rfl, hb, hh, _⟩
  · cases hg
  · have : g' = g := by simpa [Value.ownBlock] using hg
    subst this
    exact lt_of_block hh
set_option maxRecDepth 100000 in
set_option maxHeartbeats 4000000 in
theorem begin_far (w : World) (bm bl bi : Nat) (S : Mdl) (e : Int) (g : Gd) (h : Md w bm bl bi S) (he : (Lit.int .u64 e).wf = true) (hg : wfG g) :
    Calls Try.prog 10 #[.pointer (some ⟨bm, 0, none⟩), .int .u64 e, aggG g] w fun e' w' => e' = .returned (.tuple #[]) ∧ Md w' bm bl bi (S.begin e g) ∧ Kp (fq bl bi) w w' := by
  have hz := vol_zero
  have hb0 := (Below.refl w.heap.size w).alloc (Nat.le_refl _) (Obj.cells #[.int .u64 g.1, .int .u64 g.2] 34)
  have h1 := h.keep hb0
  have hlk := h1.look_live he true
  have hlv : wfV ((S.live e).getD zeroV) := by
    cases hq : S.live e with
    | none => exact zeroV_wf
    | some v => exact h.wl e v hq
  have hiv : wfV ((S.img g).getD zeroV) := by
    cases hq : S.img g with
    | none => exact zeroV_wf
    | some v => exact h.wi g v hq
  have hsz := volC_size hlv
  have hzs := volC_size zeroV_wf
  unfold encV at hlk hz
  simp only [if_true] at hlk
  have hone := volC_one ((S.live e).getD zeroV)
  have hli : ∀ w1, Md w1 bm bl bi S → ∀ w2, Kp (· = bl) w1 w2 → (Instr.lookup 57 (.map (some bi)) (aggG g) false).run Try.prog w2 = .ok (encV ((S.img g).getD zeroV)) w2 := fun w1 h1 w2 h2 => h1.img_keep h2 hg false
  have hup : ∀ w2, Md w2 bm bl bi S → _ := fun w2 h2 => h2.put_live he hiv
  generalize volC ((S.live e).getD zeroV) = cv at *
  generalize volC zeroV = zc at *
  unfold Mdl.begin
  generalize (S.img g).getD zeroV = iv at *
  unfold aggG at hli ⊢
  obtain ⟨a, b⟩ := g
  simp only at hli h1 hb0 hlk ⊢
  obtain ⟨sl, hbk, -⟩ := h1.obj
  have c1 := hbk.cell 1
  have c2 := hbk.cell 2
  simp at c1 c2
  generalize hse : (S.live e).isSome = is at *
  have hsc : (Try.prog.info? 63).map (fun i => i.size) = some cv.size := by rw [hsz]; exact vol_size
  have b6 := Blk.newAt (w := w.alloc (Obj.cells #[.int .u64 a, .int .u64 b] 34)) 63 zc (g := w.heap.size + 1) (by simp)
  have B6 := Lib.hid b6
  have HSC := Lib.hid hsc
  have HZS := Lib.hid (hzs.trans hsz.symm)
  have HONE := Lib.hid hone
  have hb2 := hb0.alloc (by simp) (Obj.cells zc 63)
  have h2 : ∀ w6, w6 = ((w.alloc (Obj.cells #[.int .u64 a, .int .u64 b] 34)).alloc (Obj.cells zc 63)).setRow (w.heap.size + 1) cv → Below w.heap.size w w6 := by
    rintro w6 rfl
    exact Below.setRow hb2 (Nat.le_succ _) _
  have H2 := Lib.hid h2
  have b5 := (Blk.new w 34 #[.int .u64 a, .int .u64 b]).alloc (Obj.cells zc 63)
  have h5 : ∀ w6, w6 = ((w.alloc (Obj.cells #[.int .u64 a, .int .u64 b] 34)).alloc (Obj.cells zc 63)).setRow (w.heap.size + 1) cv → Blk w6 w.heap.size 34 #[.int .u64 a, .int .u64 b] := by
    rintro w6 rfl
    exact b5.farRow (by omega) _
  have H5 := Lib.hid h5
  clear b5 h5
  have HM := Lib.hid h
  have HLI := Lib.hid hli
  have HUP := Lib.hid hup
  clear hsz hzs hone hlv hiv h1 hbk b6 hsc hb0 hb2 h2 hli hup
  cases is with
  | true =>
    clear h
    go_enter Try.func10, Try.ntmps10
    go_wp2_with (refine wpList_store_then rfl 63 _ _ rfl (w.heap.size + 1) cv rfl rfl 63 _ B6.out HSC.out HZS.out HONE.out ?_)
    refine Later.mk fun w6 hw6 => ?_
    have HB6 := Lib.hid (H2.out w6 hw6)
    clear hw6 c1 c2 hlk hz
    go_wp2
    go_end0
    exact ⟨rfl, HM.out.keep HB6.out, Kp.of_below HB6.out⟩
  | false =>
    clear h
    go_enter Try.func10, Try.ntmps10
    go_wp2_with (refine wpList_store_then rfl 63 _ _ rfl (w.heap.size + 1) cv rfl rfl 63 _ B6.out HSC.out HZS.out HONE.out ?_)
    refine Later.mk fun w6 hw6 => ?_
    have HB6 := Lib.hid (H2.out w6 hw6)
    clear c1 c2 hlk hz
    have hm6 := HM.out.keep HB6.out
    obtain ⟨sl6, hbk6, -⟩ := hm6.obj
    have b5 := H5.out w6 hw6
    have HNE := Lib.hid (show ¬ bm = bl from hm6.ne_l hbk6)
    have HNX := Lib.hid (show ¬ w.heap.size = bl from fun e => hm6.not_l (e ▸ b5))
    have HLK6 := Lib.hid (fun w2 (hk : Kp (· = bl) w6 w2) => HLI.out w6 hm6 w2 hk)
    have HBK := Lib.hid hbk6
    have HBX := Lib.hid b5
    have HM6 := Lib.hid hm6
    clear hw6 b5 hbk6 hm6
    go_wp2_with fail
    refine wp_region_spec (fun i => i == 11) (kinds [(11, .is undef)]) (UC w6 bl 11 (fun w => Md w bm bl bi S) (fun w => Md w bm bl bi { S with live := up S.live e iv })) (by kernel_rfl) (by kernel_rfl) (kinds_inh _) (UC.start HM6.out.drew) ?_
    intro ν hν
    have n11 : ν 11 = undef := hν 11
    clear hν
    refine lex_plain (by rfl) rfl ?_
    apply Exists.intro
    refine ⟨fun σ w2 hA hD hC => ?_, ?_⟩
    · clear hA hD hC
      go_simp
      exact And.intro rfl rfl
    simp only [Act.put, List.setIfInBounds_toArray, List.set_cons_succ, List.set_cons_zero, Nat.reduceAdd]
    refine lex_plain (by rfl) rfl ?_
    apply Exists.intro
    refine ⟨fun σ w2 hA hD hC => ?_, ?_⟩
    · clear hA hD hC
      go_simp
      exact And.intro rfl rfl
    simp only [Act.put, List.setIfInBounds_toArray, List.set_cons_succ, List.set_cons_zero, Nat.reduceAdd]
    refine lex_plain (by rfl) rfl ?_
    apply Exists.intro
    refine ⟨fun σ w2 hA hD hC => ?_, ?_⟩
    · clear hA hD hC
      go_simp
      exact And.intro rfl rfl
    simp only [Act.put, List.setIfInBounds_toArray, List.set_cons_succ, List.set_cons_zero, Nat.reduceAdd]
    refine lex_plain (by rfl) rfl ?_
    apply Exists.intro
    refine ⟨fun σ w2 hA hD hC => ?_, ?_⟩
    · have hx := (hC.kp.blk HBK.out HNE.out).cell 1
      simp at hx
      clear hA hD hC
      go_simp
      exact And.intro rfl rfl
    simp only [Act.put, List.setIfInBounds_toArray, List.set_cons_succ, List.set_cons_zero, Nat.reduceAdd]
    refine lex_plain (by rfl) rfl ?_
    apply Exists.intro
    refine ⟨fun σ w2 hA hD hC => ?_, ?_⟩
    · clear hA hD hC
      go_simp
      exact And.intro rfl rfl
    simp only [Act.put, List.setIfInBounds_toArray, List.set_cons_succ, List.set_cons_zero, Nat.reduceAdd]
    refine lex_plain (by rfl) rfl ?_
    apply Exists.intro
    refine ⟨fun σ w2 hA hD hC => ?_, ?_⟩
    · clear hA hD hC
      go_simp
      exact And.intro rfl rfl
    simp only [Act.put, List.setIfInBounds_toArray, List.set_cons_succ, List.set_cons_zero, Nat.reduceAdd]
    refine lex_plain (by rfl) rfl ?_
    apply Exists.intro
    refine ⟨fun σ w2 hA hD hC => ?_, ?_⟩
    · clear hA hD hC
      go_simp
      exact And.intro rfl rfl
    simp only [Act.put, List.setIfInBounds_toArray, List.set_cons_succ, List.set_cons_zero, Nat.reduceAdd]
    refine lex_plain (by rfl) rfl ?_
    apply Exists.intro
    refine ⟨fun σ w2 hA hD hC => ?_, ?_⟩
    · clear hA hD hC
      go_simp
      exact And.intro rfl rfl
    simp only [Act.put, List.setIfInBounds_toArray, List.set_cons_succ, List.set_cons_zero, Nat.reduceAdd]
    refine lex_plain (by rfl) rfl ?_
    apply Exists.intro
    refine ⟨fun σ w2 hA hD hC => ?_, ?_⟩
    · have hx := (hC.kp.blk HBK.out HNE.out).cell 2
      simp at hx
      clear hA hD hC
      go_simp
      exact And.intro rfl rfl
    simp only [Act.put, List.setIfInBounds_toArray, List.set_cons_succ, List.set_cons_zero, Nat.reduceAdd]
    refine lex_plain (by rfl) rfl ?_
    apply Exists.intro
    refine ⟨fun σ w2 hA hD hC => ?_, ?_⟩
    · have hx := (hC.kp.blk HBX.out HNX.out).cell 0
      have hy := (hC.kp.blk HBX.out HNX.out).cell 1
      simp at hx hy
      clear hA hD hC
      go_simp
      exact And.intro rfl rfl
    simp only [Act.put, List.setIfInBounds_toArray, List.set_cons_succ, List.set_cons_zero, Nat.reduceAdd]
    refine lex_plain (by rfl) rfl ?_
    apply Exists.intro
    refine ⟨fun σ w2 hA hD hC => ?_, ?_⟩
    · have hx := HLK6.out w2 hC.kp
      clear hA hD hC
      go_simp
      exact And.intro rfl rfl
    simp only [Act.put, List.setIfInBounds_toArray, List.set_cons_succ, List.set_cons_zero, Nat.reduceAdd]
    refine lex_special (by rfl) rfl (fun σ w2 hA hD hn hC => ?_) ?_
    · obtain ⟨w', hr, hm, hk⟩ := HUP.out w2 (hC.m0 hn)
      go_simp
      exact ⟨rfl, hC.put hk hm⟩
    rw [n11]
    simp only [Act.put, Nat.reduceAdd]
    refine lex_nil (fun σ w9 hA hall hC => ?_)
    have s11 := hall 11 rfl (by decide)
    have hm9 := Lib.hid (hC.m1 (by rw [s11]; simp))
    have hk9 := Lib.hid ((Kp.of_below HB6.out).trans (hC.kp.mono fun b hb => (Or.inl hb : fq bl bi b)))
    clear hA hall hC s11 n11
    go_wp2
    go_end0
    exact ⟨rfl, hm9.out, hk9.out⟩
set_option maxRecDepth 100000 in
set_option maxHeartbeats 4000000 in
theorem write_far (w : World) (bm bl bi : Nat) (S : Mdl) (e b : Int) (d : ByteArray) (h : Md w bm bl bi S) (he : (Lit.int .u64 e).wf = true) (hd : d.size ≤ maxLen) :
    Calls Try.prog 12 #[.pointer (some ⟨bm, 0, none⟩), .int .u64 e, .int .i64 b, .string d] w fun e' w' => e' = .returned (.tuple #[]) ∧ Md w' bm bl bi (S.write e b d) ∧ Kp (fq bl bi) w w' := by
  unfold maxLen at hd
  obtain ⟨sl, hbk, -⟩ := h.obj
  have c0 := hbk.cell 0
  have c1 := hbk.cell 1
  simp at c0 c1
  obtain ⟨S', hS'⟩ : ∃ S', S' = S.write e b d := ⟨_, rfl⟩
  rw [← hS']
  by_cases hc : 0 ≤ b ∧ b < S.n ∧ d.size = 32
  · obtain ⟨hc0, hc1, hc2⟩ := hc
    have hw : S' = (match S.live e with | some v => { S with live := up S.live e (putV v b.toNat d) } | none => S) := by (rw [hS', Mdl.write, if_pos ⟨hc0, hc1, hc2⟩]; rfl)
    have hn8 := h.n.2
    obtain ⟨k, rfl⟩ : ∃ k : Nat, b = k := ⟨b.toNat, by omega⟩
    simp only [Int.toNat_natCast] at hw
    have hk8 : k < 8 := by omega
    have hki : (k : Int) < 8 := by omega
    have hz := vol_zero
    have hlk := h.look_live he true
    have hlv : wfV ((S.live e).getD zeroV) := by
      cases hq : S.live e with
      | none => exact zeroV_wf
      | some v => exact h.wl e v hq
    have hsz := volC_size hlv
    have hzs := volC_size zeroV_wf
    unfold encV at hlk hz
    simp only [if_true] at hlk
    have hone := volC_one ((S.live e).getD zeroV)
    have hput := volC_put ((S.live e).getD zeroV) k d
    have hpw := putV_wf hlv hk8 hc2
    have hup : ∀ w2, Md w2 bm bl bi S → _ := fun w2 h2 => h2.put_live he hpw
    unfold encV at hup
    have hlq : ∀ v, S.live e = some v → (S.live e).getD zeroV = v := fun v h => by rw [h]; rfl
    generalize (S.live e).getD zeroV = lv at *
    have hps := volC_size hpw
    generalize volC (putV lv k d) = pv at *
    have HSP := Lib.hid (show (Try.prog.info? 63).map (fun i => i.size) = some pv.size by rw [hps]; exact vol_size)
    clear hps
    generalize volC lv = cv at *
    generalize volC zeroV = zc at *
    generalize hse : S.live e = q at *
    have hsc : (Try.prog.info? 63).map (fun i => i.size) = some cv.size := by rw [hsz]; exact vol_size
    have b6 := Blk.new w 63 zc
    have hb2 := (Below.refl w.heap.size w).alloc (Nat.le_refl _) (Obj.cells zc 63)
    have h2 : ∀ w6, w6 = (w.alloc (Obj.cells zc 63)).setRow w.heap.size cv → Below w.heap.size w w6 ∧ Blk w6 w.heap.size 63 cv := by
      rintro w6 rfl
      exact ⟨Below.setRow hb2 (Nat.le_refl _) _, b6.row _⟩
    have B6 := Lib.hid b6
    have HSC := Lib.hid hsc
    have HZS := Lib.hid (hzs.trans hsz.symm)
    have HSZ := Lib.hid hsz
    have HONE := Lib.hid hone
    have H2 := Lib.hid h2
    have HM := Lib.hid h
    have HUP := Lib.hid hup
    have HPUT := Lib.hid hput
    have hc2i : ((d.size : Nat) : Int) = 32 := by omega
    have HC2 := Lib.hid hc2
    generalize hdn : d.size = dn at hd hc2 hc2i
    subst hc2
    have hki2 : ¬ ((k : Int) < 0) := by omega
    have hki3 : ¬ (S.n ≤ (k : Int)) := by omega
    have HBM := Lib.hid hbk
    have HNE := Lib.hid (h.ne_l hbk)
    have hcp : ∀ w6, Blk w6 w.heap.size 63 cv → (Builtin.copy_ #[66, 9] 3 #[.slice (some ⟨w.heap.size, k * 32, none⟩) 32 32, .string d]).run Try.prog w6 = .ok (goInt (32 : Nat)) (w6.setRow w.heap.size pv) := fun w6 hb => by
      rw [← HPUT.out]
      exact run_copy_text _ _ (k * 32) 32 cv _ hb d 32 HC2.out (by have := HSZ.out; omega)
    have HCP := Lib.hid hcp
    clear hsz hzs hone hlv b6 hsc hb2 h2 hup hput hpw h hbk hS' hn8 hc2i hd hcp
    cases q with
    | none =>
      obtain rfl := hw
      go_enter Try.func12, Try.ntmps12
      go_wp2_with (refine wpList_store_then rfl 63 _ _ rfl w.heap.size cv rfl rfl 63 _ B6.out HSC.out HZS.out HONE.out ?_)
      refine Later.mk fun w6 hw6 => ?_
      have HB6 := Lib.hid (H2.out w6 hw6).1
      clear hw6 c0 c1 hlk hz hdn
      go_wp2
      go_end0
      exact ⟨rfl, HM.out.keep HB6.out, Kp.of_below HB6.out⟩
    | some v0 =>
      go_enter Try.func12, Try.ntmps12
      go_wp2_with (refine wpList_store_then rfl 63 _ _ rfl w.heap.size cv rfl rfl 63 _ B6.out HSC.out HZS.out HONE.out ?_)
      refine Later.mk fun w6 hw6 => ?_
      have HB6 := Lib.hid (H2.out w6 hw6).1
      have HV6 := Lib.hid (H2.out w6 hw6).2
      clear hw6 c0 c1 hlk hz hdn
      obtain rfl := hlq v0 rfl
      have hcp := HCP.out w6 HV6.out
      clear HCP
      go_wp2_with fail
      have hb7 : Below w.heap.size w (w6.setRow w.heap.size pv) := Below.setRow HB6.out (Nat.le_refl _) _
      have hv7 : Blk (w6.setRow w.heap.size pv) w.heap.size 63 pv := HV6.out.row _
      have HM7 := Lib.hid (HM.out.keep hb7)
      have HBM7 := Lib.hid (HBM.out.keep hb7)
      have HNX := Lib.hid (show ¬ w.heap.size = bl from fun e => HM7.out.not_l (t := 63) (cs := pv) (by rw [← e]; exact hv7))
      have HB7 := Lib.hid hb7
      have HV7 := Lib.hid hv7
      clear hb7 hv7 hcp
      generalize w6.setRow w.heap.size pv = w7 at *
      refine wp_region_spec (fun i => i == 6) (kinds [(6, .is undef)]) (UC w7 bl 6 (fun w => Md w bm bl bi S) (fun w => Md w bm bl bi { S with live := up S.live e (putV lv k d) })) (by kernel_rfl) (by kernel_rfl) (kinds_inh _) (UC.start HM7.out.drew) ?_
      intro ν hν
      have n6 : ν 6 = undef := hν 6
      clear hν
      refine lex_plain (by rfl) rfl ?_
      apply Exists.intro
      refine ⟨fun σ w2 hA hD hC => ?_, ?_⟩
      · clear hA hD hC
        go_simp
        exact And.intro rfl rfl
      simp only [Act.put, List.setIfInBounds_toArray, List.set_cons_succ, List.set_cons_zero, Nat.reduceAdd]
      refine lex_plain (by rfl) rfl ?_
      apply Exists.intro
      refine ⟨fun σ w2 hA hD hC => ?_, ?_⟩
      · clear hA hD hC
        go_simp
        exact And.intro rfl rfl
      simp only [Act.put, List.setIfInBounds_toArray, List.set_cons_succ, List.set_cons_zero, Nat.reduceAdd]
      refine lex_plain (by rfl) rfl ?_
      apply Exists.intro
      refine ⟨fun σ w2 hA hD hC => ?_, ?_⟩
      · clear hA hD hC
        go_simp
        exact And.intro rfl rfl
      simp only [Act.put, List.setIfInBounds_toArray, List.set_cons_succ, List.set_cons_zero, Nat.reduceAdd]
      refine lex_plain (by rfl) rfl ?_
      apply Exists.intro
      refine ⟨fun σ w2 hA hD hC => ?_, ?_⟩
      · have hx := (hC.kp.blk HBM7.out HNE.out).cell 1
        simp at hx
        clear hA hD hC
        go_simp
        exact And.intro rfl rfl
      simp only [Act.put, List.setIfInBounds_toArray, List.set_cons_succ, List.set_cons_zero, Nat.reduceAdd]
      refine lex_plain (by rfl) rfl ?_
      apply Exists.intro
      refine ⟨fun σ w2 hA hD hC => ?_, ?_⟩
      · clear hA hD hC
        go_simp
        exact And.intro rfl rfl
      simp only [Act.put, List.setIfInBounds_toArray, List.set_cons_succ, List.set_cons_zero, Nat.reduceAdd]
      refine lex_plain (by rfl) rfl ⟨.agg pv, fun σ w2 hA hD hC => ?_, ?_⟩
      · rw [exec_load 63 (.tmp 8) rfl w.heap.size rfl 63 _ _ (hC.kp.blk HV7.out HNX.out) Try.underlying63 rfl HSP.out]
        exact ⟨rfl, rfl⟩
      simp only [Act.put, List.setIfInBounds_toArray, List.set_cons_succ, List.set_cons_zero, Nat.reduceAdd]
      refine lex_special (by rfl) rfl (fun σ w2 hA hD hn hC => ?_) ?_
      · obtain ⟨w', hr, hm, hk⟩ := HUP.out w2 (hC.m0 hn)
        go_simp
        exact ⟨rfl, hC.put hk hm⟩
      rw [n6]
      simp only [Act.put, Nat.reduceAdd]
      refine lex_nil (fun σ w9 hA hall hC => ?_)
      have s6 := hall 6 rfl (by decide)
      have hm9 := Lib.hid (hC.m1 (by rw [s6]; simp))
      have hk9 := Lib.hid ((Kp.of_below HB7.out).trans (hC.kp.mono fun b hb => (Or.inl hb : fq bl bi b)))
      clear hA hall hC s6 n6
      go_wp2
      go_end0
      exact ⟨rfl, by rw [hw]; exact hm9.out, hk9.out⟩
  · have hw : S' = S := by rw [hS', Mdl.write, if_neg hc]
    subst hw
    have HM := Lib.hid h
    by_cases h1 : b < 0
    · clear hS' hc h
      go_enter Try.func12, Try.ntmps12
      go_wp2
      refine bodyPost_ret (results_none rfl _ _ _) rfl ?_
      exact ⟨rfl, HM.out, Kp.refl _ _⟩
    · by_cases h2 : S'.n ≤ b
      · have h0 : 0 ≤ b := by omega
        clear hS' hc h h1
        go_enter Try.func12, Try.ntmps12
        go_wp2
        refine bodyPost_ret (results_none rfl _ _ _) rfl ?_
        exact ⟨rfl, HM.out, Kp.refl _ _⟩
      · have h0 : 0 ≤ b := by omega
        have h3 : b < S'.n := by omega
        have h4 : ¬ d.size = 32 := fun e => hc ⟨h0, h3, e⟩
        have d1 : decide (b < 0) = false := decide_eq_false h1
        have d2 : decide (S'.n ≤ b) = false := decide_eq_false h2
        have d3 : ((d.size : Int) != 32) = true := by simp; omega
        clear hS' hc h h1 h2 h0 h3 h4
        go_enter Try.func12, Try.ntmps12
        go_wp2
        refine bodyPost_ret (results_none rfl _ _ _) rfl ?_
        exact ⟨rfl, HM.out, Kp.refl _ _⟩
set_option maxRecDepth 100000 in
set_option maxHeartbeats 4000000 in
theorem snap_far (w : World) (bm bl bi : Nat) (S : Mdl) (g : Gd) (h : Md w bm bl bi S) (hg : wfG g) :
    Calls Try.prog 15 #[.pointer (some ⟨bm, 0, none⟩), aggG g] w fun e' w' => e' = .returned (.tuple #[]) ∧ Md w' bm bl bi (S.snap g) ∧ Kp (fq bl bi) w w' := by
  have hz := vol_zero
  obtain ⟨S', hS'⟩ : ∃ S', S' = S.snap g := ⟨_, rfl⟩
  rw [← hS']
  have hlk := fun w2 (h2 : Md w2 bm bl bi S) => h2.look_live hg.1 true
  have hli := fun w2 (h2 : Md w2 bm bl bi S) => h2.look_img hg true
  have hlv : wfV ((S.live g.1).getD zeroV) := by
    cases hq : S.live g.1 with
    | none => exact zeroV_wf
    | some v => exact h.wl _ v hq
  have hiv : wfV ((S.img g).getD zeroV) := by
    cases hq : S.img g with
    | none => exact zeroV_wf
    | some v => exact h.wi g v hq
  have hup : ∀ w2, Md w2 bm bl bi S → _ := fun w2 h2 => h2.put_img hg hlv
  have hsz := volC_size hlv
  have hsi := volC_size hiv
  have hzs := volC_size zeroV_wf
  have hone := volC_one ((S.live g.1).getD zeroV)
  have honei := volC_one ((S.img g).getD zeroV)
  unfold encV at hlk hli hz hup
  simp only [if_true] at hlk hli
  have hcase : ((S.live g.1).isSome = false ∧ S' = S) ∨ ((S.live g.1).isSome = true ∧ (S.img g).isSome = true ∧ S' = S) ∨ ((S.live g.1).isSome = true ∧ (S.img g).isSome = false ∧ S' = { S with img := up S.img g ((S.live g.1).getD zeroV) }) := by
    rw [hS', Mdl.snap]
    cases h1 : S.live g.1 with
    | none => exact .inl ⟨rfl, by cases S.img g <;> rfl⟩
    | some v =>
      cases h2 : S.img g with
      | none => exact .inr (.inr ⟨rfl, rfl, rfl⟩)
      | some v' => exact .inr (.inl ⟨rfl, rfl, rfl⟩)
  clear hS' hlv hiv
  generalize (S.live g.1).getD zeroV = lv at *
  generalize (S.img g).getD zeroV = iv at *
  generalize (S.live g.1).isSome = isl at *
  generalize (S.img g).isSome = isi at *
  generalize volC lv = cv at *
  generalize volC iv = ci at *
  generalize volC zeroV = zc at *
  unfold aggG at hli hup ⊢
  obtain ⟨a, b⟩ := g
  simp only at hli hlk hup ⊢
  have HI1 := Lib.hid (show (Try.prog.info? 63).map (fun i => i.size) = some zc.size by rw [hzs]; exact vol_size)
  have HIC := Lib.hid (show (Try.prog.info? 63).map (fun i => i.size) = some cv.size by rw [hsz]; exact vol_size)
  have HS1 := Lib.hid (hsz.trans hzs.symm)
  have HS2 := Lib.hid (hsi.trans hzs.symm)
  have HO1 := Lib.hid hone
  have HO2 := Lib.hid honei
  have HLK := Lib.hid hlk
  have HLI := Lib.hid hli
  have HUP := Lib.hid hup
  have HCASE := Lib.hid hcase
  have hb0 := (Below.refl w.heap.size w).alloc (Nat.le_refl _) (Obj.cells #[.int .u64 a, .int .u64 b] 34)
  have hm0 := h.keep hb0
  obtain ⟨sl, hbk, -⟩ := hm0.obj
  have HB := Lib.hid hb0
  have HM := Lib.hid hm0
  have HBM := Lib.hid hbk
  have HBX := Lib.hid (Blk.new w 34 #[.int .u64 a, .int .u64 b])
  clear hlk hli hup hsz hsi hzs hone honei hcase hb0 hm0 hbk h hg
  go_enter Try.func15, Try.ntmps15
  go_wp2_with fail
  generalize w.alloc (Obj.cells #[.int .u64 a, .int .u64 b] 34) = w1 at *
  refine wp_region_spec (fun i => i == 10 || i == 11) (kinds [(10, .pt), (11, .is undef)]) (CG w1 [⟨10, 11, 63, zc, some cv, 0⟩] (fun _ _ _ => True)) (by kernel_rfl) (by kernel_rfl) (kinds_inh _) CG.start ?_
  intro ν hν
  obtain ⟨g10, n10⟩ : ∃ g, ν 10 = ptr g := hν 10
  have n11 : ν 11 = undef := hν 11
  clear hν
  refine lex_plain (by rfl) rfl ?_
  apply Exists.intro
  refine ⟨fun σ w2 hA hD hC => ?_, ?_⟩
  · clear hA hD hC
    go_simp
    exact And.intro rfl rfl
  simp only [Act.put, List.setIfInBounds_toArray, List.set_cons_succ, List.set_cons_zero, Nat.reduceAdd]
  refine lex_plain (by rfl) rfl ?_
  apply Exists.intro
  refine ⟨fun σ w2 hA hD hC => ?_, ?_⟩
  · clear hA hD hC
    go_simp
    exact And.intro rfl rfl
  simp only [Act.put, List.setIfInBounds_toArray, List.set_cons_succ, List.set_cons_zero, Nat.reduceAdd]
  refine lex_plain (by rfl) rfl ?_
  apply Exists.intro
  refine ⟨fun σ w2 hA hD hC => ?_, ?_⟩
  · clear hA hD hC
    go_simp
    exact And.intro rfl rfl
  simp only [Act.put, List.setIfInBounds_toArray, List.set_cons_succ, List.set_cons_zero, Nat.reduceAdd]
  refine lex_plain (by rfl) rfl ?_
  apply Exists.intro
  refine ⟨fun σ w2 hA hD hC => ?_, ?_⟩
  · have hx := (HBM.out.keep hC.below).cell 1
    simp at hx
    clear hA hD hC
    go_simp
    exact And.intro rfl rfl
  simp only [Act.put, List.setIfInBounds_toArray, List.set_cons_succ, List.set_cons_zero, Nat.reduceAdd]
  refine lex_plain (by rfl) rfl ?_
  apply Exists.intro
  refine ⟨fun σ w2 hA hD hC => ?_, ?_⟩
  · clear hA hD hC
    go_simp
    exact And.intro rfl rfl
  simp only [Act.put, List.setIfInBounds_toArray, List.set_cons_succ, List.set_cons_zero, Nat.reduceAdd]
  refine lex_plain (by rfl) rfl ?_
  apply Exists.intro
  refine ⟨fun σ w2 hA hD hC => ?_, ?_⟩
  · have hx := (HBX.out.keep hC.below).cell 0
    simp at hx
    clear hA hD hC
    go_simp
    exact And.intro rfl rfl
  simp only [Act.put, List.setIfInBounds_toArray, List.set_cons_succ, List.set_cons_zero, Nat.reduceAdd]
  refine lex_plain (by rfl) rfl ?_
  apply Exists.intro
  refine ⟨fun σ w2 hA hD hC => ?_, ?_⟩
  · have hx := HLK.out _ (HM.out.keep hC.below)
    clear hA hD hC
    go_simp
    exact And.intro rfl rfl
  simp only [Act.put, List.setIfInBounds_toArray, List.set_cons_succ, List.set_cons_zero, Nat.reduceAdd]
  refine lex_plain (by rfl) rfl ?_
  apply Exists.intro
  refine ⟨fun σ w2 hA hD hC => ?_, ?_⟩
  · clear hA hD hC
    go_simp
    exact And.intro rfl rfl
  simp only [Act.put, List.setIfInBounds_toArray, List.set_cons_succ, List.set_cons_zero, Nat.reduceAdd]
  refine lex_plain (by rfl) rfl ?_
  apply Exists.intro
  refine ⟨fun σ w2 hA hD hC => ?_, ?_⟩
  · clear hA hD hC
    go_simp
    exact And.intro rfl rfl
  simp only [Act.put, List.setIfInBounds_toArray, List.set_cons_succ, List.set_cons_zero, Nat.reduceAdd]
  refine lex_plain (by rfl) rfl ?_
  apply Exists.intro
  refine ⟨fun σ w2 hA hD hC => ?_, ?_⟩
  · clear hA hD hC
    go_simp
    exact And.intro rfl rfl
  simp only [Act.put, List.setIfInBounds_toArray, List.set_cons_succ, List.set_cons_zero, Nat.reduceAdd]
  refine lex_special (by rfl) rfl (fun σ w2 hA hD hn hC => ?_) ?_
  · go_simp
    exact hC.lay_ok (fine_one _ _ _ _ _ (by decide) (by decide) (by decide)) (v := ⟨10, 11, 63, zc, some cv, 0⟩) (by simp) hn ⟨_, rfl⟩
  rw [n10]
  simp only [Act.put, List.setIfInBounds_toArray, List.set_cons_succ, List.set_cons_zero, Nat.reduceAdd]
  refine lex_special (by rfl) rfl (fun σ w2 hA hD hn hC => ?_) ?_
  · have ea := got1 hA hD 10 rfl (by kernel_rfl)
    rw [n10] at ea
    exact hC.store_ok (fine_one _ _ _ _ _ (by decide) (by decide) (by decide)) (v := ⟨10, 11, 63, zc, some cv, 0⟩) (by simp) 63 (.tmp 4) (.tmp 18) rfl g10 cv rfl rfl ea rfl hn HI1.out HS1.out HO1.out rfl
  rw [n11]
  simp only [Act.put, Nat.reduceAdd]
  refine lex_plain (by rfl) rfl ?_
  apply Exists.intro
  refine ⟨fun σ w2 hA hD hC => ?_, ?_⟩
  · clear hA hD hC
    go_simp
    exact And.intro rfl rfl
  simp only [Act.put, List.setIfInBounds_toArray, List.set_cons_succ, List.set_cons_zero, Nat.reduceAdd]
  refine lex_nil (fun σ w3 hA hall hC => ?_)
  have HB := Lib.hid (HB.out.trans (hC.below.mono HB.out.size))
  have HM := Lib.hid (HM.out.keep hC.below)
  have HBM := Lib.hid (HBM.out.keep hC.below)
  have HBX := Lib.hid (HBX.out.keep hC.below)
  obtain ⟨k10, f10, -, B10⟩ := hC.end_ (v := ⟨10, 11, 63, zc, some cv, 0⟩) (by simp) (hall 10 rfl (by decide)) (hall 11 rfl (by decide))
  have f10 := ptr_inj (n10.symm.trans f10)
  subst f10
  have HV := Lib.hid (show Blk w3 g10 63 cv from B10)
  clear hA hall hC n10 n11 B10
  unfold ptr
  go_wp2_with fail
  refine wp_region_spec (fun i => i == 9 || i == 10) (kinds [(9, .pt), (10, .is undef)]) (CG w3 [⟨9, 10, 63, zc, some ci, 0⟩] (fun _ _ _ => True)) (by kernel_rfl) (by kernel_rfl) (kinds_inh _) CG.start ?_
  intro ν hν
  obtain ⟨g9, n9⟩ : ∃ g, ν 9 = ptr g := hν 9
  have n10 : ν 10 = undef := hν 10
  clear hν
  refine lex_plain (by rfl) rfl ?_
  apply Exists.intro
  refine ⟨fun σ w2 hA hD hC => ?_, ?_⟩
  · clear hA hD hC
    go_simp
    exact And.intro rfl rfl
  simp only [Act.put, List.setIfInBounds_toArray, List.set_cons_succ, List.set_cons_zero, Nat.reduceAdd]
  refine lex_plain (by rfl) rfl ?_
  apply Exists.intro
  refine ⟨fun σ w2 hA hD hC => ?_, ?_⟩
  · clear hA hD hC
    go_simp
    exact And.intro rfl rfl
  simp only [Act.put, List.setIfInBounds_toArray, List.set_cons_succ, List.set_cons_zero, Nat.reduceAdd]
  refine lex_plain (by rfl) rfl ?_
  apply Exists.intro
  refine ⟨fun σ w2 hA hD hC => ?_, ?_⟩
  · clear hA hD hC
    go_simp
    exact And.intro rfl rfl
  simp only [Act.put, List.setIfInBounds_toArray, List.set_cons_succ, List.set_cons_zero, Nat.reduceAdd]
  refine lex_plain (by rfl) rfl ?_
  apply Exists.intro
  refine ⟨fun σ w2 hA hD hC => ?_, ?_⟩
  · have hx := (HBM.out.keep hC.below).cell 2
    simp at hx
    clear hA hD hC
    go_simp
    exact And.intro rfl rfl
  simp only [Act.put, List.setIfInBounds_toArray, List.set_cons_succ, List.set_cons_zero, Nat.reduceAdd]
  refine lex_plain (by rfl) rfl ?_
  apply Exists.intro
  refine ⟨fun σ w2 hA hD hC => ?_, ?_⟩
  · have hx := (HBX.out.keep hC.below).cell 0
    have hy := (HBX.out.keep hC.below).cell 1
    simp at hx hy
    clear hA hD hC
    go_simp
    exact And.intro rfl rfl
  simp only [Act.put, List.setIfInBounds_toArray, List.set_cons_succ, List.set_cons_zero, Nat.reduceAdd]
  refine lex_plain (by rfl) rfl ?_
  apply Exists.intro
  refine ⟨fun σ w2 hA hD hC => ?_, ?_⟩
  · have hx := HLI.out _ (HM.out.keep hC.below)
    clear hA hD hC
    go_simp
    exact And.intro rfl rfl
  simp only [Act.put, List.setIfInBounds_toArray, List.set_cons_succ, List.set_cons_zero, Nat.reduceAdd]
  refine lex_plain (by rfl) rfl ?_
  apply Exists.intro
  refine ⟨fun σ w2 hA hD hC => ?_, ?_⟩
  · clear hA hD hC
    go_simp
    exact And.intro rfl rfl
  simp only [Act.put, List.setIfInBounds_toArray, List.set_cons_succ, List.set_cons_zero, Nat.reduceAdd]
  refine lex_plain (by rfl) rfl ?_
  apply Exists.intro
  refine ⟨fun σ w2 hA hD hC => ?_, ?_⟩
  · clear hA hD hC
    go_simp
    exact And.intro rfl rfl
  simp only [Act.put, List.setIfInBounds_toArray, List.set_cons_succ, List.set_cons_zero, Nat.reduceAdd]
  refine lex_plain (by rfl) rfl ?_
  apply Exists.intro
  refine ⟨fun σ w2 hA hD hC => ?_, ?_⟩
  · clear hA hD hC
    go_simp
    exact And.intro rfl rfl
  simp only [Act.put, List.setIfInBounds_toArray, List.set_cons_succ, List.set_cons_zero, Nat.reduceAdd]
  refine lex_special (by rfl) rfl (fun σ w2 hA hD hn hC => ?_) ?_
  · go_simp
    exact hC.lay_ok (fine_one _ _ _ _ _ (by decide) (by decide) (by decide)) (v := ⟨9, 10, 63, zc, some ci, 0⟩) (by simp) hn ⟨_, rfl⟩
  rw [n9]
  simp only [Act.put, List.setIfInBounds_toArray, List.set_cons_succ, List.set_cons_zero, Nat.reduceAdd]
  refine lex_special (by rfl) rfl (fun σ w2 hA hD hn hC => ?_) ?_
  · have ea := got1 hA hD 9 rfl (by kernel_rfl)
    rw [n9] at ea
    exact hC.store_ok (fine_one _ _ _ _ _ (by decide) (by decide) (by decide)) (v := ⟨9, 10, 63, zc, some ci, 0⟩) (by simp) 63 (.tmp 6) (.tmp 27) rfl g9 ci rfl rfl ea rfl hn HI1.out HS2.out HO2.out rfl
  rw [n10]
  simp only [Act.put, Nat.reduceAdd]
  refine lex_plain (by rfl) rfl ?_
  apply Exists.intro
  refine ⟨fun σ w2 hA hD hC => ?_, ?_⟩
  · clear hA hD hC
    go_simp
    exact And.intro rfl rfl
  simp only [Act.put, List.setIfInBounds_toArray, List.set_cons_succ, List.set_cons_zero, Nat.reduceAdd]
  refine lex_nil (fun σ w4 hA hall hC => ?_)
  have HB := Lib.hid (HB.out.trans (hC.below.mono HB.out.size))
  have HM := Lib.hid (HM.out.keep hC.below)
  have HBM := Lib.hid (HBM.out.keep hC.below)
  have HBX := Lib.hid (HBX.out.keep hC.below)
  have HV := Lib.hid (HV.out.keep hC.below)
  clear hA hall hC n9 n10
  unfold ptr
  rcases HCASE.out with ⟨rfl, rfl⟩ | ⟨rfl, rfl, rfl⟩ | ⟨rfl, rfl, rfl⟩
  · clear hz
    go_wp2
    go_end0
    exact ⟨rfl, HM.out, Kp.of_below HB.out⟩
  · clear hz
    go_wp2
    go_end0
    exact ⟨rfl, HM.out, Kp.of_below HB.out⟩
  · have HNE := Lib.hid (HM.out.ne_i HBM.out)
    have HNX := Lib.hid (show ¬ w.heap.size = bi from fun e => HM.out.not_i (t := 34) (cs := #[.int .u64 a, .int .u64 b]) (by rw [← e]; exact HBX.out))
    have HNV := Lib.hid (show ¬ g10 = bi from fun e => HM.out.not_i (t := 63) (cs := cv) (by rw [← e]; exact HV.out))
    clear hz
    go_wp2_with fail
    refine wp_region_spec (fun i => i == 6) (kinds [(6, .is undef)]) (UC w4 bi 6 (fun w => Md w bm bl bi S) (fun w => Md w bm bl bi { S with img := up S.img (a, b) lv })) (by kernel_rfl) (by kernel_rfl) (kinds_inh _) (UC.start HM.out.drew) ?_
    intro ν hν
    have n6 : ν 6 = undef := hν 6
    clear hν
    refine lex_plain (by rfl) rfl ?_
    apply Exists.intro
    refine ⟨fun σ w2 hA hD hC => ?_, ?_⟩
    · clear hA hD hC
      go_simp
      exact And.intro rfl rfl
    simp only [Act.put, List.setIfInBounds_toArray, List.set_cons_succ, List.set_cons_zero, Nat.reduceAdd]
    refine lex_plain (by rfl) rfl ?_
    apply Exists.intro
    refine ⟨fun σ w2 hA hD hC => ?_, ?_⟩
    · clear hA hD hC
      go_simp
      exact And.intro rfl rfl
    simp only [Act.put, List.setIfInBounds_toArray, List.set_cons_succ, List.set_cons_zero, Nat.reduceAdd]
    refine lex_plain (by rfl) rfl ?_
    apply Exists.intro
    refine ⟨fun σ w2 hA hD hC => ?_, ?_⟩
    · clear hA hD hC
      go_simp
      exact And.intro rfl rfl
    simp only [Act.put, List.setIfInBounds_toArray, List.set_cons_succ, List.set_cons_zero, Nat.reduceAdd]
    refine lex_plain (by rfl) rfl ?_
    apply Exists.intro
    refine ⟨fun σ w2 hA hD hC => ?_, ?_⟩
    · have hx := (hC.kp.blk HBM.out HNE.out).cell 2
      simp at hx
      clear hA hD hC
      go_simp
      exact And.intro rfl rfl
    simp only [Act.put, List.setIfInBounds_toArray, List.set_cons_succ, List.set_cons_zero, Nat.reduceAdd]
    refine lex_plain (by rfl) rfl ?_
    apply Exists.intro
    refine ⟨fun σ w2 hA hD hC => ?_, ?_⟩
    · have hx := (hC.kp.blk HBX.out HNX.out).cell 0
      have hy := (hC.kp.blk HBX.out HNX.out).cell 1
      simp at hx hy
      clear hA hD hC
      go_simp
      exact And.intro rfl rfl
    simp only [Act.put, List.setIfInBounds_toArray, List.set_cons_succ, List.set_cons_zero, Nat.reduceAdd]
    refine lex_plain (by rfl) rfl ⟨.agg cv, fun σ w2 hA hD hC => ?_, ?_⟩
    · rw [exec_load 63 (.tmp 4) rfl g10 rfl 63 _ _ (hC.kp.blk HV.out HNV.out) Try.underlying63 rfl HIC.out]
      exact ⟨rfl, rfl⟩
    simp only [Act.put, List.setIfInBounds_toArray, List.set_cons_succ, List.set_cons_zero, Nat.reduceAdd]
    refine lex_special (by rfl) rfl (fun σ w2 hA hD hn hC => ?_) ?_
    · obtain ⟨w', hr, hm, hk⟩ := HUP.out w2 (hC.m0 hn)
      go_simp
      exact ⟨rfl, hC.put hk hm⟩
    rw [n6]
    simp only [Act.put, Nat.reduceAdd]
    refine lex_nil (fun σ w9 hA hall hC => ?_)
    have s6 := hall 6 rfl (by decide)
    have hm9 := Lib.hid (hC.m1 (by rw [s6]; simp))
    have hk9 := Lib.hid ((Kp.of_below HB.out).trans (hC.kp.mono fun b hb => (Or.inr hb : fq bl bi b)))
    clear hA hall hC s6 n6
    go_wp2
    go_end0
    exact ⟨rfl, hm9.out, hk9.out⟩
set_option maxRecDepth 100000 in
theorem commit_far (v : Value) (l : List Gd) (w : World) (bm bl bi : Nat) (S : Mdl) (h : Md w bm bl bi S) (hv : InG w v l) (hl : l.length ≤ 2 ^ 20) :
    Calls Try.prog 17 #[.pointer (some ⟨bm, 0, none⟩), v] w fun e w' => e = .returned (.bool (S.taken l)) ∧ Md w' bm bl bi (S.commit l) ∧ Kp (fp bm bl bi) w w' ∧ Ls bm w w' := by
  obtain ⟨sl, hbk, ho⟩ := h.obj
  have hb1 := begins_any v sl l S.list w hv ho.rd
  have hb2 := fun w1 (hb : Below w.heap.size w w1) => begins_any sl v S.list l w1 (ho.rd.keep hb) (hv.keep hb)
  have hcl := fun w1 (hb : Below w.heap.size w w1) => clone_any v l w1 (hv.keep hb) (by omega)
  obtain ⟨a, c, rfl, -, -⟩ := hv.open_
  unfold Mdl.commit Mdl.taken
  have HB1 := Lib.hid hb1
  have HB2 := Lib.hid hb2
  have HCL := Lib.hid hcl
  have HM := Lib.hid h
  have HBK := Lib.hid hbk
  have HL := Lib.hid hl
  have c3 := hbk.cell 3
  simp at c3
  have hml := h.ne_l hbk
  have hmi := h.ne_i hbk
  have HML := Lib.hid hml
  have HMI := Lib.hid hmi
  clear hb1 hb2 hcl hl hv ho hbk h hml hmi
  generalize begB l S.list = b1 at *
  generalize begB S.list l = b2 at *
  go_enter Try.func17, Try.ntmps17
  go_wp2_with fail
  refine HB1.out.mono ?_
  rintro e w1 ⟨rfl, hb⟩
  have HB := Lib.hid hb
  clear hb HB1
  cases b1 with
  | true =>
    clear c3
    go_wp2
    go_ret
    exact ⟨rfl, HM.out.keep HB.out, Kp.of_below HB.out, Ls.of_below HBK.out HB.out⟩
  | false =>
    have c3 := cell_later HB.out c3
    go_wp2_with fail
    refine (HB2.out _ HB.out).mono ?_
    rintro e w2 ⟨rfl, hb⟩
    have HB := Lib.hid (HB.out.trans (hb.mono HB.out.size))
    clear hb HB2 c3
    cases b2 with
    | false =>
      go_wp2
      go_ret
      exact ⟨rfl, HM.out.keep HB.out, Kp.of_below HB.out, Ls.of_below HBK.out HB.out⟩
    | true =>
      go_wp2_with fail
      refine (HCL.out _ HB.out).mono ?_
      rintro e w3 ⟨u, rfl, ho, hb⟩
      have hsz2 : w.heap.size ≤ w2.heap.size := HB.out.size
      have HB := Lib.hid (HB.out.trans (hb.mono HB.out.size))
      have hm3 := HM.out.keep HB.out
      have hb3 := HBK.out.keep HB.out
      have hlt := HBK.out.lt
      have f3 := hb3.frozen 3
      have c3 := hb3.cell 3
      simp at c3
      obtain ⟨ua, uc, rfl, -, -⟩ := ho.rd.open_
      obtain ⟨wx, hwx⟩ : ∃ x, x = w3.setCell ⟨bm, 3, none⟩ (.slice ua l.length uc) := ⟨_, rfl⟩
      have hblk : Blk wx bm 59 #[.int .i64 S.n, .map (some bl), .map (some bi), .slice ua l.length uc] := by rw [hwx]; exact hb3.set 3 _
      have hoth : ∀ b, b ≠ bm → wx.heap[b]? = w3.heap[b]? := fun b hne => by
        rw [hwx]
        simp only [World.setCell, Array.getElem?_modify]
        rw [if_neg (fun e => hne e.symm)]
      have hox : OwG wx 0 (.slice ua l.length uc) l := (ho.above fun b hbb => hoth b (by omega)).mono (Nat.zero_le _)
      obtain ⟨F, h3, h4⟩ := hm3.live
      obtain ⟨G, h5, h6⟩ := hm3.img
      have hmx : Md wx bm bl bi { S with list := l } := ⟨HM.out.n, ⟨_, hblk, hox⟩, ⟨F, h3.of_heap (hoth _ (fun e => HML.out e.symm)), h4⟩, ⟨G, h5.of_heap (hoth _ (fun e => HMI.out e.symm)), h6⟩, HM.out.ne, HM.out.wl, HM.out.wi, HL.out⟩
      have hkx : Kp (fp bm bl bi) w wx := by
        have h0 : Below 0 w wx := by
          rw [hwx]
          exact (HB.out.mono (Nat.zero_le _)).setCell (Nat.zero_le _) _
        exact ⟨h0, fun b hlt2 hA => (hoth b fun e => hA (.inl e)).trans (HB.out.block b hlt2)⟩
      have HMX := Lib.hid hmx
      have HKX := Lib.hid hkx
      have HLX := Lib.hid (show Ls bm w wx from by
        refine Ls.of_slice hblk ?_
        intro g hg
        exact Nat.le_trans hsz2 (ho.from_ hg))
      clear ho hb hsz2 hm3 hb3 hlt hblk hoth hox h3 h4 h5 h6 hmx hkx
      rw [hwx] at HMX HKX HLX
      clear hwx
      go_wp2
      go_ret
      exact ⟨rfl, HMX.out, HKX.out, HLX.out⟩
end Go.Proofs.Ytfeinafbimpjnaa
