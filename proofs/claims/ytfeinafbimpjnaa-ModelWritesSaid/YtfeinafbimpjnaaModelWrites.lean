/-
  ModelWrites, WALKED (printed by wip/gen-modelwrites.py).
-/
import Derived.Test.YtfeinafbimpjnaaModel8
import Derived.Test.YtfeinafbimpjnaaModelOpen
namespace Go.Proofs.Ytfeinafbimpjnaa
open Go.RowKit Reg Go.WideShapes Go.ChangeShapes

/-- a volume whose first four blocks are of one letter each -/
def volW (a b c d : Int) : Vol := List.replicate 32 a ++ (List.replicate 32 b ++ (List.replicate 32 c ++ (List.replicate 32 d ++ List.replicate 128 0)))
def isB (x : Int) : Prop := 0 ≤ x ∧ x < 256
theorem bytesI_let {x : Int} (h : isB x) : bytesI (letS x false) = List.replicate 32 x := by
  unfold bytesI letS
  rw [strOfNums_data, List.map_map]
  have e : ((fun (b : UInt8) => (b.toNat : Int)) ∘ fun (n : Int) => UInt8.ofNat n.toNat) x = x := by
    obtain ⟨h1, h2⟩ := h
    simp only [Function.comp, UInt8.toNat_ofNat']
    omega
  rw [show (if false = true then 31 else 32) = 32 from rfl, List.map_replicate, e]
theorem put0 {a b c d x : Int} (h : isB x) : putV (volW a b c d) 0 (letS x false) = volW x b c d := by
  unfold putV
  rw [bytesI_let h]
  rfl
theorem put1 {a b c d x : Int} (h : isB x) : putV (volW a b c d) 1 (letS x false) = volW a x c d := by
  unfold putV
  rw [bytesI_let h]
  rfl
theorem put2 {a b c d x : Int} (h : isB x) : putV (volW a b c d) 2 (letS x false) = volW a b x d := by
  unfold putV
  rw [bytesI_let h]
  rfl
theorem put3 {a b c d x : Int} (h : isB x) : putV (volW a b c d) 3 (letS x false) = volW a b c x := by
  unfold putV
  rw [bytesI_let h]
  rfl
def nth4 (a b c d : Int) (k : Nat) : Int := match k with
  | 0 => a
  | 1 => b
  | 2 => c
  | _ => d
theorem imgW (a b c d : Int) : imgS (volW a b c d) 4 = [letS a false, letS b false, letS c false, letS d false] := rfl
theorem imgW_at (a b c d : Int) (k : Nat) (h : k < 4) : (imgS (volW a b c d) 4).getD k ByteArray.empty = letS (nth4 a b c d k) false := by
  rw [imgW]
  match k, h with
  | 0, _ => rfl
  | 1, _ => rfl
  | 2, _ => rfl
  | 3, _ => rfl
abbrev T0 : Mdl := Mdl.new 4
def T1 : Mdl := T0.begin 7 (0, 0)
def T2 : Mdl := T1.begin 8 (9, 9)
/-- what holds of the model while it is written -/
structure InvW (S : Mdl) (a b c d : Int) : Prop where
  n : S.n = 4
  img : ∀ g, S.img g = none
  l7 : S.live 7 = some (volW a b c d)
  l9 : S.live 9 = none
theorem InvW.w7 {S : Mdl} {a b c d : Int} (h : InvW S a b c d) (m : Nat) (hm : m < 4) (t : ByteArray) (ht : t.size = 32) (a' b' c' d' : Int) (hp : putV (volW a b c d) m t = volW a' b' c' d') : InvW (S.write 7 m t) a' b' c' d' := by
  have e : S.write 7 m t = { S with live := up S.live 7 (volW a' b' c' d') } := by
    unfold Mdl.write
    rw [if_pos ⟨by omega, by rw [h.n]; omega, ht⟩, h.l7]
    simp only [Int.toNat_natCast, hp]
  rw [e]
  exact ⟨h.n, h.img, up_same S.live 7 (volW a' b' c' d'), (up_other S.live (volW a' b' c' d') (show (9 : Int) ≠ 7 by decide)).trans h.l9⟩
theorem InvW.w8 {S : Mdl} {a b c d : Int} (h : InvW S a b c d) (m : Int) (t : ByteArray) : InvW (S.write 8 m t) a b c d := by
  unfold Mdl.write
  split
  · cases S.live 8 with
    | none => exact h
    | some v => exact ⟨h.n, h.img, (up_other S.live (putV v m.toNat t) (show (7 : Int) ≠ 8 by decide)).trans h.l7, (up_other S.live (putV v m.toNat t) (show (9 : Int) ≠ 8 by decide)).trans h.l9⟩
  · exact h
theorem letS_32 (x : Int) : (letS x false).size = 32 := by
  unfold letS
  rw [strOfNums_size, List.length_replicate]
  rfl
def endS (S : Mdl) : Mdl := ((((S.snap (7, 1)).begin 9 (7, 1)).write 7 0 (letS 122 false)).snap (9, 1))
theorem InvW.fin {S : Mdl} {a b c d : Int} (h : InvW S a b c d) : (endS S).n = 4 ∧ (endS S).img (7, 1) = some (volW a b c d) ∧ (endS S).img (9, 1) = some (volW a b c d) := by
  have e1 : S.snap (7, 1) = { S with img := up S.img (7, 1) (volW a b c d) } := by
    unfold Mdl.snap
    rw [h.l7, h.img]
  have e2 : (S.snap (7, 1)).begin 9 (7, 1) = { S with img := up S.img (7, 1) (volW a b c d), live := up S.live 9 (volW a b c d) } := by
    rw [e1]
    unfold Mdl.begin
    simp only [h.l9, up_same]
    rfl
  have e3 : ((S.snap (7, 1)).begin 9 (7, 1)).write 7 0 (letS 122 false) = { S with img := up S.img (7, 1) (volW a b c d), live := up (up S.live 9 (volW a b c d)) 7 (putV (volW a b c d) 0 (letS 122 false)) } := by
    rw [e2]
    unfold Mdl.write
    rw [if_pos ⟨by omega, by simp only; rw [h.n]; omega, letS_32 _⟩]
    simp only [up_other S.live (volW a b c d) (show (7 : Int) ≠ 9 by decide), h.l7]
    rfl
  have e4 : endS S = { S with img := up (up S.img (7, 1) (volW a b c d)) (9, 1) (volW a b c d), live := up (up S.live 9 (volW a b c d)) 7 (putV (volW a b c d) 0 (letS 122 false)) } := by
    unfold endS
    rw [e3]
    unfold Mdl.snap
    simp only
    rw [up_other _ _ (show (9 : Int) ≠ 7 by decide), up_same, up_other _ _ (show ((9, 1) : Gd) ≠ (7, 1) by decide), h.img]
  rw [e4]
  exact ⟨h.n, (up_other (up S.img (7, 1) (volW a b c d)) (volW a b c d) (show ((7, 1) : Gd) ≠ (9, 1) by decide)).trans (up_same S.img (7, 1) (volW a b c d)), up_same (up S.img (7, 1) (volW a b c d)) (9, 1) (volW a b c d)⟩
theorem Md.apart {w : World} {bm bl bi : Nat} {S : Mdl} (h : Md w bm bl bi S) {g : Nat} {t : TypeId} {cs : Array Value} (hb : Blk w g t cs) (ht : t ≠ 59) : ¬ fp bm bl bi g := by
  rintro (rfl | rfl | rfl)
  · obtain ⟨sl, h1, _⟩ := h.obj
    unfold Blk at h1 hb
    rw [h1] at hb
    simp only [Option.some.injEq, Obj.cells.injEq] at hb
    exact ht hb.2.1.symm
  · exact h.not_l hb
  · exact h.not_i hb
/-- a store into another block -/
theorem Md.far {w : World} {bm bl bi : Nat} {S : Mdl} (h : Md w bm bl bi S) {g : Nat} {t : TypeId} {cs : Array Value} (hb : Blk w g t cs) (ht : t ≠ 59 ∧ t ≠ 34) (i : Nat) (u : Value) : Md (w.setCell ⟨g, i, none⟩ u) bm bl bi S := by
  have hap := h.apart hb ht.1
  have hoth : ∀ b, b ≠ g → (w.setCell ⟨g, i, none⟩ u).heap[b]? = w.heap[b]? := fun b hne => by
    simp only [World.setCell, Array.getElem?_modify]
    rw [if_neg (fun e => hne e.symm)]
  obtain ⟨sl, h1, h2⟩ := h.obj
  obtain ⟨F, h3, h4⟩ := h.live
  obtain ⟨G, h5, h6⟩ := h.img
  have hkp : Kp (· = g) w (w.setCell ⟨g, i, none⟩ u) := ⟨(Below.refl 0 w).setCell (Nat.zero_le _) _, fun b _ hne => hoth b hne⟩
  refine ⟨h.n, ⟨sl, hkp.blk h1 (fun e => hap (.inl e.symm)), hkp.own h2 (fun q t' cs' e hc => ?_)⟩, ⟨F, h3.of_heap (hoth _ fun e => hap (.inr (.inl e.symm))), h4⟩, ⟨G, h5.of_heap (hoth _ fun e => hap (.inr (.inr e.symm))), h6⟩, h.ne, h.wl, h.wi, h.len⟩
  subst e
  unfold Blk at hb
  rw [hb] at hc
  simp only [Option.some.injEq, Obj.cells.injEq] at hc
  rw [← hc.2.1]
  exact ht.2
theorem rem4 (x : Int) : ∃ m : Nat, m < 4 ∧ (wrap64 (x.tmod 4 + 4)).tmod 4 = m := by
  have h1 : -4 < x.tmod 4 := Int.lt_tmod_of_pos x (by decide)
  have h2 : x.tmod 4 < 4 := Int.tmod_lt_of_pos x (by decide)
  have e : wrap64 (x.tmod 4 + 4) = x.tmod 4 + 4 := by simp [wrap64]; omega
  rw [e]
  have h3 : (x.tmod 4 + 4).tmod 4 = (x.tmod 4 + 4) % 4 := Int.tmod_eq_emod_of_nonneg (by omega)
  rw [h3]
  exact ⟨((x.tmod 4 + 4) % 4).toNat, by omega, by omega⟩
theorem inv0 : InvW T2 0 0 0 0 := ⟨rfl, fun _ => rfl, rfl, rfl⟩
set_option maxRecDepth 100000 in
set_option maxHeartbeats 4000000 in
theorem law_ModelWrites (v : Value) (xs : List Ac) (w : World) (hv : InA w v xs) (_ : True) : Calls Try.prog 5 #[v] w fun e w' => e = .returned (.bool true) ∧ Below w.heap.size w w' := by
  obtain ⟨va, vc, rfl, hvc, hml, hacts⟩ := hv
  have HACT := Lib.hid hacts
  have HVC := Lib.hid hvc
  have HML := Lib.hid hml
  clear hacts hvc hml
  generalize xs.length = n at *
  go_enter Try.func5, Try.ntmps5
  go_wp2_with fail
  refine (new_any 4 _ (by omega) (by omega)).mono ?_
  rintro e w1 ⟨rfl, hm, hb⟩
  have HB := Lib.hid hb
  obtain ⟨bm, hbm⟩ : ∃ z, z = w.heap.size + 1 + 1 := ⟨_, rfl⟩
  obtain ⟨bl, hbl⟩ : ∃ z, z = w.heap.size := ⟨_, rfl⟩
  obtain ⟨bi, hbi⟩ : ∃ z, z = w.heap.size + 1 := ⟨_, rfl⟩
  have hge : ∀ b, fp bm bl bi b → w.heap.size ≤ b := by
    rintro b (rfl | rfl | rfl) <;> omega
  have HGE := Lib.hid hge
  have hm2 : Md w1 bm bl bi (Mdl.new 4) := by rw [hbm, hbl, hbi]; exact hm
  have HM := Lib.hid hm2
  rw [← hbm]
  clear hm hm2 hb hge hbm hbl hbi
  go_wp2_with fail
  refine (guid_any 0 0 _).mono ?_
  rintro e w2 ⟨rfl, hb⟩
  replace HM := Lib.hid (HM.out.keep hb)
  replace HB := Lib.hid (HB.out.trans (hb.mono HB.out.size))
  clear hb
  go_wp2_with fail
  refine (begin_any _ bm bl bi T0 7 (0, 0) HM.out (by decide) (by decide)).mono ?_
  rintro e w3 ⟨rfl, hm, hk⟩
  replace HM := Lib.hid hm
  replace HB := Lib.hid (HB.out.trans (hk.below HGE.out HB.out.size))
  clear hm hk
  go_wp2_with fail
  refine (guid_any 9 9 _).mono ?_
  rintro e w4 ⟨rfl, hb⟩
  replace HM := Lib.hid (HM.out.keep hb)
  replace HB := Lib.hid (HB.out.trans (hb.mono HB.out.size))
  clear hb
  go_wp2_with fail
  refine (begin_any _ bm bl bi T1 8 (9, 9) HM.out (by decide) (by decide)).mono ?_
  rintro e w5 ⟨rfl, hm, hk⟩
  replace HM := Lib.hid hm
  replace HB := Lib.hid (HB.out.trans (hk.below HGE.out HB.out.size))
  clear hm hk
  go_wp2_with fail
  obtain ⟨q4, hq4⟩ : ∃ z, z = w5.heap.size := ⟨_, rfl⟩
  have hz := (Below.refl w5.heap.size w5).alloc (Nat.le_refl _) (Obj.cells #[.int .u8 0, .int .u8 0, .int .u8 0, .int .u8 0] 52)
  have b4 := Blk.newAt (w := w5) 52 #[.int .u8 0, .int .u8 0, .int .u8 0, .int .u8 0] hq4.symm
  replace HM := Lib.hid (HM.out.keep hz)
  have hle : w.heap.size ≤ q4 := by rw [hq4]; exact HB.out.size
  replace HB := Lib.hid (HB.out.trans (hz.mono HB.out.size))
  have B4 := Lib.hid b4
  have HLE := Lib.hid hle
  rw [← hq4]
  clear hz b4 hle hq4
  generalize w5.alloc (Obj.cells #[.int .u8 0, .int .u8 0, .int .u8 0, .int .u8 0] 52) = w6 at *
  go_loopw [5] (fun i wr => ∃ (k : Nat) (S : Mdl) (a b c d : Int), k ≤ n ∧ k ≤ 60 ∧ i = .int .i64 k ∧ Below w.heap.size w wr ∧ Md wr bm bl bi S ∧ Blk wr q4 52 #[.int .u8 a, .int .u8 b, .int .u8 c, .int .u8 d] ∧ InvW S a b c d) (fun i _ => 60 - (intOf i).toNat)
  case atStart => exact ⟨0, T2, 0, 0, 0, 0, Nat.zero_le _, Nat.zero_le _, rfl, HB.out, HM.out, B4.out, inv0⟩
  case round =>
    obtain ⟨k, S, a, b, c, d, hk, hk6, rfl, hb, hm, h4, hi⟩ := hrel
    have HBW := Lib.hid hb
    have HMW := Lib.hid hm
    have H4 := Lib.hid h4
    have HI := Lib.hid hi
    clear hb hm h4 hi
    by_cases hlt : k < n ∧ k < 60
    · obtain ⟨g, off, rfl, hact⟩ := HACT.out k hlt.1
      generalize xs.getD k acs0 = x at *
      obtain ⟨sl, -, b1, b2, -, -, b5, -, -, -, -, wf1, wf2, -, wf5⟩ := hact
      have a1 := cell_later HBW.out b1
      have a2 := cell_later HBW.out b2
      have a5 := cell_later HBW.out b5
      have HB5 := Lib.hid b5
      clear b1 b2 b5
      have i1 : (k : Int) < (n : Int) := by omega
      have i2 : (k : Int) < 60 := by omega
      have HLT := Lib.hid hlt
      have HWF := Lib.hid (And.intro wf1 (And.intro wf2 wf5))
      clear hk hk6 hlt wf1 wf2 wf5
      obtain ⟨_, xb, xe, _, xl, _, _⟩ := x
      simp only at a1 a2 a5 HWF HB5
      go_wp2_with fail
      all_goals
        obtain ⟨m, hm4, hrem⟩ := rem4 xb
        rw [hrem]
        clear hrem
        have hxl : isB xl := wf_u8 HWF.out.2.2
        have HXL := Lib.hid hxl
        clear hxl
        refine (letters_any xl false _).mono ?_
        rintro e w7 ⟨rfl, hb⟩
        have HMW2 := Lib.hid (HMW.out.keep hb)
        have HBW2 := Lib.hid (HBW.out.trans (hb.mono HBW.out.size))
        have H42 := Lib.hid (H4.out.keep hb)
        clear hb
      · obtain rfl | rfl | rfl | rfl : m = 0 ∨ m = 1 ∨ m = 2 ∨ m = 3 := by omega
        all_goals
          clear hm4
          go_wp2_with fail
        · have hi2 := HI.out.w7 0 (by omega) (letS xl false) (letS_32 _) xl b c d (put0 HXL.out)
          have HI2 := Lib.hid hi2
          clear hi2
          refine (write_any _ bm bl bi S 7 0 (letS xl false) HMW2.out (by decide) (letS_size _ _)).mono ?_
          rintro e w8 ⟨rfl, hm, hk⟩
          have h8 := hk.blk H42.out (HMW2.out.apart H42.out (by decide))
          have c0 := h8.cell 0
          have f0 := h8.frozen 0
          simp at c0
          have hn8 := h8.set 0 (.int .u8 xl)
          have hm8 : Md (w8.setCell ⟨q4, 0, none⟩ (.int .u8 xl)) bm bl bi (S.write 7 0 (letS xl false)) := hm.far h8 (by decide) 0 _
          have hb8 := (HBW2.out.trans (hk.below HGE.out HBW2.out.size)).setCell (p := ⟨q4, 0, none⟩) HLE.out (.int .u8 xl)
          have HN8 := Lib.hid (show Blk _ q4 52 #[.int .u8 xl, .int .u8 b, .int .u8 c, .int .u8 d] from hn8)
          have HM8 := Lib.hid hm8
          have HB8 := Lib.hid hb8
          have a5 := cell_later (HBW2.out.trans (hk.below HGE.out HBW2.out.size)) HB5.out
          clear hm hk h8 hn8 hm8 hb8 a1 a2
          go_wp2
          have hlt := HLT.out
          refine ⟨⟨k + 1, _, xl, b, c, d, by omega, by omega, by go_num, HB8.out, HM8.out, HN8.out, HI2.out⟩, by simp [intOf]; omega⟩
        · have hi2 := HI.out.w7 1 (by omega) (letS xl false) (letS_32 _) a xl c d (put1 HXL.out)
          have HI2 := Lib.hid hi2
          clear hi2
          refine (write_any _ bm bl bi S 7 1 (letS xl false) HMW2.out (by decide) (letS_size _ _)).mono ?_
          rintro e w8 ⟨rfl, hm, hk⟩
          have h8 := hk.blk H42.out (HMW2.out.apart H42.out (by decide))
          have c0 := h8.cell 1
          have f0 := h8.frozen 1
          simp at c0
          have hn8 := h8.set 1 (.int .u8 xl)
          have hm8 : Md (w8.setCell ⟨q4, 1, none⟩ (.int .u8 xl)) bm bl bi (S.write 7 1 (letS xl false)) := hm.far h8 (by decide) 1 _
          have hb8 := (HBW2.out.trans (hk.below HGE.out HBW2.out.size)).setCell (p := ⟨q4, 1, none⟩) HLE.out (.int .u8 xl)
          have HN8 := Lib.hid (show Blk _ q4 52 #[.int .u8 a, .int .u8 xl, .int .u8 c, .int .u8 d] from hn8)
          have HM8 := Lib.hid hm8
          have HB8 := Lib.hid hb8
          have a5 := cell_later (HBW2.out.trans (hk.below HGE.out HBW2.out.size)) HB5.out
          clear hm hk h8 hn8 hm8 hb8 a1 a2
          go_wp2
          have hlt := HLT.out
          refine ⟨⟨k + 1, _, a, xl, c, d, by omega, by omega, by go_num, HB8.out, HM8.out, HN8.out, HI2.out⟩, by simp [intOf]; omega⟩
        · have hi2 := HI.out.w7 2 (by omega) (letS xl false) (letS_32 _) a b xl d (put2 HXL.out)
          have HI2 := Lib.hid hi2
          clear hi2
          refine (write_any _ bm bl bi S 7 2 (letS xl false) HMW2.out (by decide) (letS_size _ _)).mono ?_
          rintro e w8 ⟨rfl, hm, hk⟩
          have h8 := hk.blk H42.out (HMW2.out.apart H42.out (by decide))
          have c0 := h8.cell 2
          have f0 := h8.frozen 2
          simp at c0
          have hn8 := h8.set 2 (.int .u8 xl)
          have hm8 : Md (w8.setCell ⟨q4, 2, none⟩ (.int .u8 xl)) bm bl bi (S.write 7 2 (letS xl false)) := hm.far h8 (by decide) 2 _
          have hb8 := (HBW2.out.trans (hk.below HGE.out HBW2.out.size)).setCell (p := ⟨q4, 2, none⟩) HLE.out (.int .u8 xl)
          have HN8 := Lib.hid (show Blk _ q4 52 #[.int .u8 a, .int .u8 b, .int .u8 xl, .int .u8 d] from hn8)
          have HM8 := Lib.hid hm8
          have HB8 := Lib.hid hb8
          have a5 := cell_later (HBW2.out.trans (hk.below HGE.out HBW2.out.size)) HB5.out
          clear hm hk h8 hn8 hm8 hb8 a1 a2
          go_wp2
          have hlt := HLT.out
          refine ⟨⟨k + 1, _, a, b, xl, d, by omega, by omega, by go_num, HB8.out, HM8.out, HN8.out, HI2.out⟩, by simp [intOf]; omega⟩
        · have hi2 := HI.out.w7 3 (by omega) (letS xl false) (letS_32 _) a b c xl (put3 HXL.out)
          have HI2 := Lib.hid hi2
          clear hi2
          refine (write_any _ bm bl bi S 7 3 (letS xl false) HMW2.out (by decide) (letS_size _ _)).mono ?_
          rintro e w8 ⟨rfl, hm, hk⟩
          have h8 := hk.blk H42.out (HMW2.out.apart H42.out (by decide))
          have c0 := h8.cell 3
          have f0 := h8.frozen 3
          simp at c0
          have hn8 := h8.set 3 (.int .u8 xl)
          have hm8 : Md (w8.setCell ⟨q4, 3, none⟩ (.int .u8 xl)) bm bl bi (S.write 7 3 (letS xl false)) := hm.far h8 (by decide) 3 _
          have hb8 := (HBW2.out.trans (hk.below HGE.out HBW2.out.size)).setCell (p := ⟨q4, 3, none⟩) HLE.out (.int .u8 xl)
          have HN8 := Lib.hid (show Blk _ q4 52 #[.int .u8 a, .int .u8 b, .int .u8 c, .int .u8 xl] from hn8)
          have HM8 := Lib.hid hm8
          have HB8 := Lib.hid hb8
          have a5 := cell_later (HBW2.out.trans (hk.below HGE.out HBW2.out.size)) HB5.out
          clear hm hk h8 hn8 hm8 hb8 a1 a2
          go_wp2
          have hlt := HLT.out
          refine ⟨⟨k + 1, _, a, b, c, xl, by omega, by omega, by go_num, HB8.out, HM8.out, HN8.out, HI2.out⟩, by simp [intOf]; omega⟩
      · go_wp2_with fail
        have hi2 := HI.out.w8 m (letS xl false)
        have HI2 := Lib.hid hi2
        clear hi2
        refine (write_any _ bm bl bi S 8 m (letS xl false) HMW2.out (by decide) (letS_size _ _)).mono ?_
        rintro e w8 ⟨rfl, hm, hk⟩
        have HN8 := Lib.hid (hk.blk H42.out (HMW2.out.apart H42.out (by decide)))
        have HM8 := Lib.hid hm
        have HB8 := Lib.hid (HBW2.out.trans (hk.below HGE.out HBW2.out.size))
        clear hm hk a1 a2 a5
        go_wp2
        have hlt := HLT.out
        refine ⟨⟨k + 1, _, a, b, c, d, by omega, by omega, by go_num, HB8.out, HM8.out, HN8.out, HI2.out⟩, by simp [intOf]; omega⟩
    · clear HACT
      rcases Nat.lt_or_ge k n with hn | hn
      focus
        have i1 : (k : Int) < (n : Int) := by omega
        have i2 : ¬ (k : Int) < 60 := by omega
        have d2 : decide ((k : Int) < 60) = false := decide_eq_false i2
      rotate_left
      focus
        have i1 : ¬ (k : Int) < (n : Int) := by omega
        have d1 : decide (k < n) = false := decide_eq_false (by omega)
      rotate_left
      all_goals
        have HM := HMW
        have HB := HBW
        clear hk hk6 hlt hn
        go_wp2_with fail
        refine (guid_any 7 1 _).mono ?_
        rintro e x1 ⟨rfl, hb⟩
        replace HM := Lib.hid (HM.out.keep hb)
        replace HB := Lib.hid (HB.out.trans (hb.mono HB.out.size))
        replace H4 := Lib.hid (H4.out.keep hb)
        clear hb
        go_wp2_with fail
        refine (snap_any _ bm bl bi S (7, 1) HM.out (by decide)).mono ?_
        rintro e x2 ⟨rfl, hm, hk⟩
        replace H4 := Lib.hid (hk.blk H4.out (HM.out.apart H4.out (by decide)))
        replace HM := Lib.hid (show Md x2 bm bl bi (S.snap (7, 1)) from hm)
        replace HB := Lib.hid (HB.out.trans (hk.below HGE.out HB.out.size))
        clear hm hk
        go_wp2_with fail
        refine (guid_any 7 1 _).mono ?_
        rintro e x3 ⟨rfl, hb⟩
        replace HM := Lib.hid (HM.out.keep hb)
        replace HB := Lib.hid (HB.out.trans (hb.mono HB.out.size))
        replace H4 := Lib.hid (H4.out.keep hb)
        clear hb
        go_wp2_with fail
        refine (begin_any _ bm bl bi (S.snap (7, 1)) 9 (7, 1) HM.out (by decide) (by decide)).mono ?_
        rintro e x4 ⟨rfl, hm, hk⟩
        replace H4 := Lib.hid (hk.blk H4.out (HM.out.apart H4.out (by decide)))
        replace HM := Lib.hid (show Md x4 bm bl bi ((S.snap (7, 1)).begin 9 (7, 1)) from hm)
        replace HB := Lib.hid (HB.out.trans (hk.below HGE.out HB.out.size))
        clear hm hk
        go_wp2_with fail
        refine (letters_any 122 false _).mono ?_
        rintro e x5 ⟨rfl, hb⟩
        replace HM := Lib.hid (HM.out.keep hb)
        replace HB := Lib.hid (HB.out.trans (hb.mono HB.out.size))
        replace H4 := Lib.hid (H4.out.keep hb)
        clear hb
        go_wp2_with fail
        refine (write_any _ bm bl bi ((S.snap (7, 1)).begin 9 (7, 1)) 7 0 (letS 122 false) HM.out (by decide) (letS_size _ _)).mono ?_
        rintro e x6 ⟨rfl, hm, hk⟩
        replace H4 := Lib.hid (hk.blk H4.out (HM.out.apart H4.out (by decide)))
        replace HM := Lib.hid (show Md x6 bm bl bi (((S.snap (7, 1)).begin 9 (7, 1)).write 7 0 (letS 122 false)) from hm)
        replace HB := Lib.hid (HB.out.trans (hk.below HGE.out HB.out.size))
        clear hm hk
        go_wp2_with fail
        refine (guid_any 9 1 _).mono ?_
        rintro e x7 ⟨rfl, hb⟩
        replace HM := Lib.hid (HM.out.keep hb)
        replace HB := Lib.hid (HB.out.trans (hb.mono HB.out.size))
        replace H4 := Lib.hid (H4.out.keep hb)
        clear hb
        go_wp2_with fail
        refine (snap_any _ bm bl bi (((S.snap (7, 1)).begin 9 (7, 1)).write 7 0 (letS 122 false)) (9, 1) HM.out (by decide)).mono ?_
        rintro e x8 ⟨rfl, hm, hk⟩
        replace H4 := Lib.hid (hk.blk H4.out (HM.out.apart H4.out (by decide)))
        replace HM := Lib.hid (show Md x8 bm bl bi (endS S) from hm)
        replace HB := Lib.hid (HB.out.trans (hk.below HGE.out HB.out.size))
        clear hm hk
        go_wp2_with fail
        refine (guid_any 7 1 _).mono ?_
        rintro e x9 ⟨rfl, hb⟩
        replace HM := Lib.hid (HM.out.keep hb)
        replace HB := Lib.hid (HB.out.trans (hb.mono HB.out.size))
        replace H4 := Lib.hid (H4.out.keep hb)
        clear hb
        go_wp2_with fail
        refine (guid_any 9 1 _).mono ?_
        rintro e x10 ⟨rfl, hb⟩
        replace HM := Lib.hid (HM.out.keep hb)
        replace HB := Lib.hid (HB.out.trans (hb.mono HB.out.size))
        replace H4 := Lib.hid (H4.out.keep hb)
        clear hb
        go_wp2_with fail
        have hz := (Below.refl x10.heap.size x10).alloc (Nat.le_refl _) (Obj.cells #[.int .u64 7, .int .u64 1, .int .u64 9, .int .u64 1] 34)
        have hin := InG.litAt x10 [(7, 1), (9, 1)] #[.int .u64 7, .int .u64 1, .int .u64 9, .int .u64 1] _ rfl rfl (by decide) (by decide)
        replace HM := Lib.hid (HM.out.keep hz)
        replace HB := Lib.hid (HB.out.trans (hz.mono HB.out.size))
        replace H4 := Lib.hid (H4.out.keep hz)
        have HIN := Lib.hid hin
        clear hz hin
        generalize x10.alloc (Obj.cells #[.int .u64 7, .int .u64 1, .int .u64 9, .int .u64 1] 34) = x11 at *
        obtain ⟨hn4, hi7, hi9⟩ := HI.out.fin
        have himg : ∀ q, q < 2 → (endS S).img ([((7, 1) : Gd), (9, 1)].getD q (0, 0)) = some (volW a b c d) := fun q hq => by
          match q, hq with
          | 0, _ => exact hi7
          | 1, _ => exact hi9
        have hwf : ∀ q, q < 2 → wfG ([((7, 1) : Gd), (9, 1)].getD q (0, 0)) := fun q hq => by
          match q, hq with
          | 0, _ => exact (by decide : wfG (7, 1))
          | 1, _ => exact (by decide : wfG (9, 1))
        have HN4 := Lib.hid hn4
        have HIMG := Lib.hid himg
        have HWFG := Lib.hid hwf
        obtain ⟨pu, pc, eu, -, hcu⟩ := HIN.out.open_
        simp only [Value.slice.injEq] at eu
        obtain ⟨rfl, -, -⟩ := eu
        have HCU := Lib.hid hcu
        clear hn4 hi7 hi9 himg hwf hcu
        generalize endS S = SE at *
        generalize x10.heap.size = gz at *
        have hcell4 : ∀ q, q < 4 → x11.cell? ⟨q4, q, none⟩ = some (.int .u8 (nth4 a b c d q)) := fun q hq => by
          rw [H4.out.cell]
          match q, hq with
          | 0, _ => rfl
          | 1, _ => rfl
          | 2, _ => rfl
          | 3, _ => rfl
        have HC4 := Lib.hid hcell4
        clear hcell4
        go_loopw [87] (fun i wq => ∃ q : Nat, q ≤ 2 ∧ i = .int .i64 q ∧ Below x11.heap.size x11 wq) (fun i _ => 2 - (intOf i).toNat)
        case atStart => exact ⟨0, by omega, rfl, Below.refl _ _⟩
        case round =>
          obtain ⟨q, hq, rfl, hb⟩ := hrel
          have HBQ := Lib.hid hb
          clear hb
          by_cases hq2 : q < 2
          · obtain ⟨g0, o0, e0, hc1, hc2⟩ := HCU.out q hq2
            simp only [Option.some.injEq, Addr.mk.injEq, and_true] at e0
            obtain ⟨rfl, rfl⟩ := e0
            rw [Nat.zero_add] at hc1 hc2
            have hc1 := cell_later HBQ.out hc1
            have hc2 := cell_later HBQ.out hc2
            have himg := HIMG.out q hq2
            have hwf := HWFG.out q hq2
            have j1 : (q : Int) < 2 := by omega
            have j9 : (q : Int) < 9223372036854775807 := by omega
            have HQ2 := Lib.hid hq2
            generalize [((7, 1) : Gd), (9, 1)].getD q (0, 0) = gq at *
            have hz := (Below.refl wr.heap.size wr).alloc (Nat.le_refl _) (Obj.cells #[.int .u64 gq.1, .int .u64 gq.2] 34)
            have hmz := HM.out.keep (HBQ.out.trans (hz.mono HBQ.out.size))
            have him := image_any _ bm bl bi SE gq hmz hwf
            have hii : SE.image gq = imgS (volW a b c d) 4 := by
              unfold Mdl.image
              rw [himg, HN4.out]
              rfl
            rw [himg, hii] at him
            unfold aggG at him
            have HIM := Lib.hid him
            have HBZ := Lib.hid (HBQ.out.trans (hz.mono HBQ.out.size))
            clear hz hmz him hii himg hwf hq hq2
            obtain ⟨gq1, gq2⟩ := gq
            simp only at hc1 hc2 HIM HBZ
            go_wp2_with fail
            refine HIM.out.mono ?_
            rintro e y1 ⟨u, rfl, ho, hb⟩
            have hin := ho.rd
            obtain ⟨ua, uc, rfl, -, hcell⟩ := hin.open_
            have HBY := Lib.hid (HBZ.out.trans (hb.mono HBZ.out.size))
            have HC := Lib.hid hcell
            rw [imgS_len]
            clear ho hb hin hcell HIM hc1 hc2
            go_wp2_with fail
            go_loopw [11] (fun i wr => ∃ j : Nat, j ≤ 4 ∧ i = .int .i64 j ∧ Below y1.heap.size y1 wr) (fun i _ => 4 - (intOf i).toNat)
            case atStart => exact ⟨0, by omega, rfl, Below.refl _ _⟩
            case round =>
              obtain ⟨j, hj, rfl, hb⟩ := hrel
              have HBJ := Lib.hid hb
              clear hb
              by_cases hj4 : j < 4
              · obtain ⟨gu, off, rfl, hc⟩ := HC.out j (by rw [imgS_len]; exact hj4)
                rw [imgW_at _ _ _ _ j hj4] at hc
                have hc := cell_later HBJ.out hc
                have hw4 := cell_later (HBY.out.trans (HBJ.out.mono HBY.out.size)) (HC4.out j hj4)
                have l1 : (j : Int) < 4 := by omega
                have l9 : (j : Int) < 9223372036854775807 := by omega
                have HJ4 := Lib.hid hj4
                generalize nth4 a b c d j = z at *
                have e0 : ∀ q : Bw wr, q.w.cell? ⟨gu, off + j, none⟩ = some (.string (letS z false)) := fun q => q.cell hc
                have e1 : ∀ q : Bw wr, q.w.cell? ⟨q4, j, none⟩ = some (.int .u8 z) := fun q => q.cell hw4
                have HLET := Lib.hid (fun (q : Bw wr) => letters_any z false q.w)
                clear hc hw4 hj hj4
                go_wp2_with fail
                refine wp_region_below (by kernel_rfl) (by kernel_rfl) ?_
                repeat (go_big_quiet_step (first | (go_at_call 13; exact below_call (HLET.out _))))
                refine wpQuiet_nil ?_
                intro y7 hb7
                have HB7 := Lib.hid (HBJ.out.trans (hb7.mono HBJ.out.size))
                clear hb7 e0 e1 HLET
                go_wp2
                have hj4 := HJ4.out
                refine ⟨⟨j + 1, by omega, by go_num, HB7.out⟩, by simp [intOf]; omega⟩
              · have hj44 : (j : Int) = 4 := by omega
                rw [hj44]
                have HBE := Lib.hid (HBY.out.trans (HBJ.out.mono HBY.out.size))
                clear hj hj4 hj44
                go_wp2
                have hq2 := HQ2.out
                refine ⟨⟨q + 1, by omega, by go_num, HBE.out⟩, by simp [intOf]; omega⟩
          · have hq22 : (q : Int) = 2 := by omega
            rw [hq22]
            have HBE := Lib.hid (HB.out.trans (HBQ.out.mono HB.out.size))
            clear hq hq2 hq22
            go_wp2_with fail
            refine (works_any _).mono ?_
            rintro e y9 ⟨rfl, hb⟩
            have HB9 := Lib.hid (HBE.out.trans (hb.mono HBE.out.size))
            clear hb
            go_wp2
            go_ret
            exact ⟨rfl, HB9.out⟩
end Go.Proofs.Ytfeinafbimpjnaa
