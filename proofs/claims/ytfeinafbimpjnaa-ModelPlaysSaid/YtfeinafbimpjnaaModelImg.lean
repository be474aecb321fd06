/-
  A MODEL: Image (printed by wip/gen-modelimg.py).
-/
import Derived.Test.YtfeinafbimpjnaaModel5
import Derived.Test.YtfeinafbimpjnaaTexts
import Derived.Deep.MidRow
namespace Go.Proofs.Ytfeinafbimpjnaa
open Go.RowKit Reg Go.WideShapes Go.ChangeShapes

def blk (v : Vol) (k : Nat) : List Int := (v.drop (32 * k)).take 32
def imgS (v : Vol) (n : Nat) : List ByteArray := (List.range n).map fun k => strOfNums (blk v k)
theorem imgS_succ (v : Vol) (n : Nat) : imgS v (n + 1) = imgS v n ++ [strOfNums (blk v n)] := by simp [imgS, List.range_succ]
theorem imgS_len (v : Vol) (n : Nat) : (imgS v n).length = n := by simp [imgS]
def Mdl.image (S : Mdl) (g : Gd) : List ByteArray := match S.img g with
  | none => []
  | some v => imgS v S.n.toNat
theorem blk_len {v : Vol} (h : wfV v) {k : Nat} (hk : k < 8) : (blk v k).length = 32 := by
  unfold blk
  rw [List.length_take, List.length_drop, h.1]
  omega
theorem blk_cell (v : Vol) (k j : Nat) (u : Value) (h : ((blk v k).map (Value.int .u8))[j]? = some u) : (volC v)[k * 32 + j]? = some u := by
  unfold blk at h
  unfold volC
  rw [List.map_take, List.map_drop, List.getElem?_take] at h
  split at h
  · rw [List.getElem?_drop] at h
    rw [List.getElem?_toArray, ← h]
    congr 1
    omega
  · cases h
theorem blk_info : (Try.prog.info? 61).map (fun i => (i.zero, i.size)) = some (some (.agg ((List.replicate 32 (0 : Int)).map (Value.int .u8)).toArray), 32) := by kernel_rfl
theorem blk_size : (Try.prog.info? 61).map (fun i => i.size) = some 32 := by kernel_rfl
theorem blk_zero (w : World) : (zeroValue 61).run Try.prog w = .ok (.agg ((List.replicate 32 (0 : Int)).map (Value.int .u8)).toArray) w := by
  have h := blk_info
  cases hi : Try.prog.info? 61 with
  | none => rw [hi] at h; cases h
  | some i =>
    rw [hi] at h
    simp only [Option.map_some, Option.some.injEq, Prod.mk.injEq] at h
    simp [zeroValue, typeInfo, hi, h.1]
theorem bytes_one (l : List Int) : ((l.map (Value.int .u8)).toArray.all (·.oneCell')) = true := by
  rw [← Array.all_toList]
  simp only [List.all_map, List.all_eq_true]
  intro x _
  rfl
set_option maxRecDepth 100000 in
set_option maxHeartbeats 1000000 in
theorem image_any (w : World) (bm bl bi : Nat) (S : Mdl) (g : Gd) (h : Md w bm bl bi S) (hg : wfG g) :
    Calls Try.prog 19 #[.pointer (some ⟨bm, 0, none⟩), aggG g] w fun e w' => ∃ u, e = .returned (.tuple #[u, .bool (S.img g).isSome]) ∧ OwT w' w.heap.size u (S.image g) ∧ Below w.heap.size w w' := by
  have hz := vol_zero
  have hbz := blk_zero
  have hli := fun w2 (h2 : Md w2 bm bl bi S) => h2.look_img hg true
  have hiv : wfV ((S.img g).getD zeroV) := by
    cases hq : S.img g with
    | none => exact zeroV_wf
    | some v => exact h.wi g v hq
  have hsi := volC_size hiv
  have hzs := volC_size zeroV_wf
  have honei := volC_one ((S.img g).getD zeroV)
  have hbl := fun k hk => blk_len hiv (k := k) hk
  have hbc := blk_cell ((S.img g).getD zeroV)
  unfold encV at hli hz
  simp only [if_true] at hli
  obtain ⟨N, hN⟩ : ∃ N : Nat, S.n = N := ⟨S.n.toNat, by have := h.n.1; omega⟩
  have hcase : ((S.img g).isSome = false ∧ S.image g = []) ∨ ((S.img g).isSome = true ∧ S.image g = imgS ((S.img g).getD zeroV) N) := by
    rw [Mdl.image]
    cases h2 : S.img g with
    | none => exact .inl ⟨rfl, rfl⟩
    | some v' => exact .inr ⟨rfl, by rw [hN]; rfl⟩
  have hn1 := h.n.1
  have hn8 := h.n.2
  rw [hN] at hn1 hn8
  clear hiv
  generalize S.image g = im at *
  generalize (S.img g).getD zeroV = iv at *
  generalize (S.img g).isSome = isi at *
  generalize volC iv = ci at *
  generalize volC zeroV = zc at *
  unfold aggG at hli ⊢
  obtain ⟨a, b⟩ := g
  simp only at hli ⊢
  have HI1 := Lib.hid (show (Try.prog.info? 63).map (fun i => i.size) = some zc.size by rw [hzs]; exact vol_size)
  have HS2 := Lib.hid (hsi.trans hzs.symm)
  have HO2 := Lib.hid honei
  have HSI := Lib.hid hsi
  have HLI := Lib.hid hli
  have HCASE := Lib.hid hcase
  have HBL := Lib.hid hbl
  have HBC := Lib.hid hbc
  have hb0 := (Below.refl w.heap.size w).alloc (Nat.le_refl _) (Obj.cells #[.int .u64 a, .int .u64 b] 34)
  have hm0 := h.keep hb0
  obtain ⟨sl, hbk, -⟩ := hm0.obj
  rw [hN] at hbk
  have HB := Lib.hid hb0
  have HM := Lib.hid hm0
  have HBM := Lib.hid hbk
  have HBX := Lib.hid (Blk.new w 34 #[.int .u64 a, .int .u64 b])
  have HN8 := Lib.hid (And.intro hn1 hn8)
  clear hli hsi hzs honei hcase hb0 hm0 hbk h hg hbl hbc hN hn1 hn8
  go_enter Try.func19, Try.ntmps19
  go_wp2_with fail
  generalize w.alloc (Obj.cells #[.int .u64 a, .int .u64 b] 34) = w1 at *
  refine wp_region_spec (fun i => i == 9 || i == 10) (kinds [(9, .pt), (10, .is undef)]) (CG w1 [⟨9, 10, 63, zc, some ci, 0⟩] (fun _ _ _ => True)) (by kernel_rfl) (by kernel_rfl) (kinds_inh _) CG.start ?_
  intro ν hν
  obtain ⟨g9, n9⟩ : ∃ g, ν 9 = ptr g := hν 9
  have n10 : ν 10 = undef := hν 10
  clear hν
  refine lex_plain (by rfl) rfl ?_
  apply Exists.intro
  refine ⟨fun σ w2 hA hD hC => ?_, ?_⟩
  · clear hA hD hC
    go_simp
    exact And.intro rfl rfl
  simp only [Act.put, List.setIfInBounds_toArray, List.set_cons_succ, List.set_cons_zero, Nat.reduceAdd]
  refine lex_plain (by rfl) rfl ?_
  apply Exists.intro
  refine ⟨fun σ w2 hA hD hC => ?_, ?_⟩
  · clear hA hD hC
    go_simp
    exact And.intro rfl rfl
  simp only [Act.put, List.setIfInBounds_toArray, List.set_cons_succ, List.set_cons_zero, Nat.reduceAdd]
  refine lex_plain (by rfl) rfl ?_
  apply Exists.intro
  refine ⟨fun σ w2 hA hD hC => ?_, ?_⟩
  · clear hA hD hC
    go_simp
    exact And.intro rfl rfl
  simp only [Act.put, List.setIfInBounds_toArray, List.set_cons_succ, List.set_cons_zero, Nat.reduceAdd]
  refine lex_plain (by rfl) rfl ?_
  apply Exists.intro
  refine ⟨fun σ w2 hA hD hC => ?_, ?_⟩
  · have hx := (HBM.out.keep hC.below).cell 2
    simp at hx
    clear hA hD hC
    go_simp
    exact And.intro rfl rfl
  simp only [Act.put, List.setIfInBounds_toArray, List.set_cons_succ, List.set_cons_zero, Nat.reduceAdd]
  refine lex_plain (by rfl) rfl ?_
  apply Exists.intro
  refine ⟨fun σ w2 hA hD hC => ?_, ?_⟩
  · have hx := (HBX.out.keep hC.below).cell 0
    have hy := (HBX.out.keep hC.below).cell 1
    simp at hx hy
    clear hA hD hC
    go_simp
    exact And.intro rfl rfl
  simp only [Act.put, List.setIfInBounds_toArray, List.set_cons_succ, List.set_cons_zero, Nat.reduceAdd]
  refine lex_plain (by rfl) rfl ?_
  apply Exists.intro
  refine ⟨fun σ w2 hA hD hC => ?_, ?_⟩
  · have hx := HLI.out _ (HM.out.keep hC.below)
    clear hA hD hC
    go_simp
    exact And.intro rfl rfl
  simp only [Act.put, List.setIfInBounds_toArray, List.set_cons_succ, List.set_cons_zero, Nat.reduceAdd]
  refine lex_plain (by rfl) rfl ?_
  apply Exists.intro
  refine ⟨fun σ w2 hA hD hC => ?_, ?_⟩
  · clear hA hD hC
    go_simp
    exact And.intro rfl rfl
  simp only [Act.put, List.setIfInBounds_toArray, List.set_cons_succ, List.set_cons_zero, Nat.reduceAdd]
  refine lex_plain (by rfl) rfl ?_
  apply Exists.intro
  refine ⟨fun σ w2 hA hD hC => ?_, ?_⟩
  · clear hA hD hC
    go_simp
    exact And.intro rfl rfl
  simp only [Act.put, List.setIfInBounds_toArray, List.set_cons_succ, List.set_cons_zero, Nat.reduceAdd]
  refine lex_plain (by rfl) rfl ?_
  apply Exists.intro
  refine ⟨fun σ w2 hA hD hC => ?_, ?_⟩
  · clear hA hD hC
    go_simp
    exact And.intro rfl rfl
  simp only [Act.put, List.setIfInBounds_toArray, List.set_cons_succ, List.set_cons_zero, Nat.reduceAdd]
  refine lex_special (by rfl) rfl (fun σ w2 hA hD hn hC => ?_) ?_
  · go_simp
    exact hC.lay_ok (fine_one _ _ _ _ _ (by decide) (by decide) (by decide)) (v := ⟨9, 10, 63, zc, some ci, 0⟩) (by simp) hn ⟨_, rfl⟩
  rw [n9]
  simp only [Act.put, List.setIfInBounds_toArray, List.set_cons_succ, List.set_cons_zero, Nat.reduceAdd]
  refine lex_special (by rfl) rfl (fun σ w2 hA hD hn hC => ?_) ?_
  · have ea := got1 hA hD 9 rfl (by kernel_rfl)
    rw [n9] at ea
    exact hC.store_ok (fine_one _ _ _ _ _ (by decide) (by decide) (by decide)) (v := ⟨9, 10, 63, zc, some ci, 0⟩) (by simp) 63 (.tmp 6) (.tmp 20) rfl g9 ci rfl rfl ea rfl hn HI1.out HS2.out HO2.out rfl
  rw [n10]
  simp only [Act.put, Nat.reduceAdd]
  refine lex_plain (by rfl) rfl ?_
  apply Exists.intro
  refine ⟨fun σ w2 hA hD hC => ?_, ?_⟩
  · clear hA hD hC
    go_simp
    exact And.intro rfl rfl
  simp only [Act.put, List.setIfInBounds_toArray, List.set_cons_succ, List.set_cons_zero, Nat.reduceAdd]
  refine lex_nil (fun σ w3 hA hall hC => ?_)
  have HB := Lib.hid (HB.out.trans (hC.below.mono HB.out.size))
  have HBM := Lib.hid (HBM.out.keep hC.below)
  obtain ⟨k9, f9, -, B9⟩ := hC.end_ (v := ⟨9, 10, 63, zc, some ci, 0⟩) (by simp) (hall 9 rfl (by decide)) (hall 10 rfl (by decide))
  have f9 := ptr_inj (n9.symm.trans f9)
  subst f9
  have HV := Lib.hid (show Blk w3 g9 63 ci from B9)
  clear hA hall hC n9 n10 B9 HM HBX HLI
  unfold ptr
  rcases HCASE.out with ⟨rfl, rfl⟩ | ⟨rfl, rfl⟩
  · clear hz hbz
    go_wp2
    go_ret2
    exact ⟨_, rfl, OwT.nil_ _ _, HB.out⟩
  · have c0 := HBM.out.cell 0
    simp at c0
    have hn1 : (1 : Int) ≤ (N : Int) := HN8.out.1
    have hn8 : (N : Int) ≤ 8 := HN8.out.2
    have hn0 : (0 : Int) ≤ (N : Int) := by omega
    clear hz
    have hzb : ((List.replicate 32 (0 : Int)).map (Value.int .u8)).toArray.size = 32 := by simp
    generalize ((List.replicate 32 (0 : Int)).map (Value.int .u8)).toArray = zb at *
    have HZB := Lib.hid hzb
    clear hzb
    go_wp2_with fail
    clear c0
    go_loopw [8, 30] (fun out i wr => ∃ k : Nat, k ≤ N ∧ i = .int .i64 k ∧ Below w3.heap.size w3 wr ∧ OwT wr w3.heap.size out (imgS iv k)) (fun _ i _ => N - (intOf i).toNat)
    case atStart => exact ⟨0, Nat.zero_le _, rfl, Below.refl _ _, OwT.nil_ _ _⟩
    case round =>
      obtain ⟨k, hk, rfl, hb, ho⟩ := hrel
      have HBW := Lib.hid hb
      have HO := Lib.hid ho
      clear hb ho
      by_cases hlt : k < N
      · have hk8 : k < 8 := by omega
        have i1 : (k : Int) < (N : Int) := by omega
        have k9 : (k : Int) < 9223372036854775807 := by omega
        have k0 : (0 : Int) ≤ (k : Int) := by omega
        have hsucc := imgS_succ iv k
        have hlen := HBL.out k hk8
        have hrg : wr.rangeAt g9 (k * 32) ((blk iv k).map (Value.int .u8)) := fun j u hu => by
          rw [(HV.out.keep HBW.out).cell]
          exact HBC.out k j u hu
        have hone := bytes_one (blk iv k)
        generalize blk iv k = bq at *
        have HSUCC := Lib.hid hsucc
        have HRG := Lib.hid hrg
        have HONE := Lib.hid hone
        have HLEN := Lib.hid hlen
        have hbsz : (Try.prog.info? 61).map (·.size) = some (bq.map (Value.int .u8)).length := by rw [List.length_map, hlen]; exact blk_size
        have hbsz2 : (Try.prog.info? 61).map (·.size) = some (bq.map (Value.int .u8)).toArray.size := by rw [List.size_toArray]; exact hbsz
        have HBSZ := Lib.hid hbsz
        have HBSZ2 := Lib.hid hbsz2
        have hos : zb.size = (bq.map (Value.int .u8)).toArray.size := by rw [show (bq.map (Value.int .u8)).toArray.size = 32 by simp [hlen]]; exact HZB.out
        have HOS := Lib.hid hos
        have BZ := Lib.hid (Blk.new wr 61 zb)
        have hbz0 := (Below.refl wr.heap.size wr).alloc (Nat.le_refl _) (Obj.cells zb 61)
        have h6 : ∀ w6, w6 = (wr.alloc (Obj.cells zb 61)).setRow wr.heap.size (bq.map (Value.int .u8)).toArray → Below wr.heap.size wr w6 ∧ Blk w6 wr.heap.size 61 (bq.map (Value.int .u8)).toArray := by
          rintro w6 rfl
          exact ⟨Below.setRow hbz0 (Nat.le_refl _) _, BZ.out.row _⟩
        have H6 := Lib.hid h6
        have HLT := Lib.hid hlt
        have hsz3 : w3.heap.size ≤ wr.heap.size := HBW.out.size
        have HS3 := Lib.hid hsz3
        clear hsucc hlen hrg hone hbsz hbsz2 hos hbz0 h6 hlt hsz3 hk hk8
        go_wp2_with (first | refine wpList_load_mid rfl 61 _ rfl g9 (k * 32) rfl (bq.map (Value.int .u8)) _ HRG.out Try.underlying61 rfl HBSZ.out ?_ | refine wpList_store_then rfl 61 _ _ rfl wr.heap.size (bq.map (Value.int .u8)).toArray rfl rfl 61 _ BZ.out HBSZ2.out HOS.out HONE.out ?_)
        refine Later.mk fun w6 hw6 => ?_
        have h6 := H6.out w6 hw6
        have ho6 := HO.out.keep h6.1
        have hcv := run_convert_bytes_arg (P := Try.prog) w6 66 5 Try.underlying66 Try.underlying5 wr.heap.size 0 32 32 bq HLEN.out (fun i hi => by
          have hl := HLEN.out
          rw [h6.2.cell, List.getElem?_toArray, List.getElem?_map, Nat.zero_add, List.getElem?_eq_getElem (by omega), List.getD_eq_getElem?_getD, List.getElem?_eq_getElem (by omega)]
          rfl) 9 Try.underlying9
        have hs32 : (strOfNums bq).size ≤ maxLen := by rw [strOfNums_size, HLEN.out]; decide
        have hA := app_text 42 (strOfNums bq) ho6 hs32 (by rw [imgS_len]; omega) (by have := h6.1.size; have := HS3.out; omega)
        have HA := Lib.hid hA
        have H6a := Lib.hid h6.1
        have HO6 := Lib.hid ho6
        clear hw6 h6 ho6 hA hs32 H6 hbz
        generalize strOfNums bq = st at *
        go_wp2_with (at_builtin; refine wpList_append_run rfl _ _ 42 rfl _ _ rfl rfl _ HA.out ?_)
        refine Later.mk fun w7 hw7 v8 w8 hp => ?_
        have hb8 : Below w3.heap.size w6 w8 := AppT.below hp HO6.out (Nat.le_trans HS3.out H6a.out.size)
        have ho8 := hp.1
        rw [← HSUCC.out] at ho8
        have HO8 := Lib.hid ho8
        have HB8 := Lib.hid ((HBW.out.trans (H6a.out.mono HS3.out)).trans hb8)
        clear hw7 hp hb8 ho8 hcv
        go_wp2
        have hlt := HLT.out
        refine ⟨⟨k + 1, by omega, by go_num, HB8.out, HO8.out⟩, by simp [intOf]; omega⟩
      · obtain rfl : k = N := by omega
        have HR := Lib.hid (HO.out.mono HB.out.size)
        have HRB := Lib.hid (HB.out.trans (HBW.out.mono HB.out.size))
        clear hlt hk
        go_wp2
        go_ret2
        exact ⟨_, rfl, HR.out, HRB.out⟩
end Go.Proofs.Ytfeinafbimpjnaa
