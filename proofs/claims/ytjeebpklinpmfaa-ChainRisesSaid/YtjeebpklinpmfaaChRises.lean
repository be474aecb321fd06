/-
  ChainRises, WALKED (printed by wip/gen-chrises.py).
-/
import Derived.Test.YtjeebpklinpmfaaChW
namespace Go.Proofs.Ytjeebpklinpmfaa
open Go.RowKit Reg Go.WideShapes Go.ChangeShapes

theorem new1_last : (Ch.new 1).last.g = (0, 0) := rfl
theorem snap_ok {C : Ch} {g : Gd} (h : C.next g = 0) : (C.snap g).snaps.length = C.snaps.length + 1 ∧ (C.snap g).last.g = g := by
  unfold Ch.snap
  rw [if_pos h]
  unfold Ch.put Ch.last
  simp
theorem snap_no {C : Ch} {g : Gd} (h : C.next g ≠ 0) : C.snap g = C := by
  unfold Ch.snap
  rw [if_neg h]
theorem add_ok {C : Ch} {g : Gd} (h : C.next g = 0) : C.addE g [] = 0 ∧ (C.add g []).snaps.length = C.snaps.length + 1 ∧ (C.add g []).last.g = g := by
  unfold Ch.add Ch.addE
  rw [if_pos h, if_pos h]
  refine ⟨rfl, ?_, ?_⟩
  · unfold addR Ch.put
    simp
  · unfold addR Ch.put Ch.last
    simp
theorem add_no {C : Ch} {g : Gd} (h : C.next g ≠ 0) : C.addE g [] = C.next g ∧ C.add g [] = C := by
  unfold Ch.add Ch.addE
  rw [if_neg h, if_neg h]
  exact ⟨rfl, rfl⟩
theorem next_le {C : Ch} {B : Nat} {w0 w : World} {bc : Nat} (h : Ho B w0 w bc C) : C.snaps.length ≤ 20 := by
  obtain ⟨sl, h1, -⟩ := h.ex
  exact h1.snaps.2.1
/-- one step: Snap or Add of nothing -/
def step (C : Ch) (g : Gd) (k : Nat) : Ch := if k % 2 = 0 then C.snap g else C.add g []
theorem step_up {C : Ch} {g : Gd} (k : Nat) (h : upG C.last.g g = true) (h2 : C.snaps.length < 20) : C.next g = 0 ∧ (step C g k).snaps.length = C.snaps.length + 1 ∧ (step C g k).last.g = g := by
  have h0 : C.next g = 0 := by
    unfold Ch.next
    rw [if_pos h, if_neg (by omega)]
  unfold step
  refine ⟨h0, ?_⟩
  split
  · exact snap_ok h0
  · exact (add_ok h0).2
theorem step_full {C : Ch} {g : Gd} (k : Nat) (h : upG C.last.g g = true) (h2 : C.snaps.length = 20) : C.next g = 3 ∧ step C g k = C := by
  have h0 : C.next g = 3 := by
    unfold Ch.next
    rw [if_pos h, if_pos (by omega)]
  unfold step
  refine ⟨h0, ?_⟩
  split
  · exact snap_no (by rw [h0]; decide)
  · exact (add_no (by rw [h0]; decide)).2
theorem step_no {C : Ch} {g : Gd} (k : Nat) (h : upG C.last.g g = false) : C.next g = 2 ∧ step C g k = C := by
  have h0 : C.next g = 2 := by
    unfold Ch.next
    rw [if_neg (by rw [h]; decide)]
  unfold step
  refine ⟨h0, ?_⟩
  split
  · exact snap_no (by rw [h0]; decide)
  · exact (add_no (by rw [h0]; decide)).2
theorem addE_next (C : Ch) (g : Gd) : C.addE g [] = C.next g := by
  by_cases h : C.next g = 0
  · rw [(add_ok h).1, h]
  · exact (add_no h).1
theorem guid_size : (Try.prog.info? 33).map (fun i => i.size) = some 2 := by kernel_rfl
theorem guid_one (a b : Int) : ((#[Value.int .u64 a, Value.int .u64 b] : Array Value).all fun x => x.oneCell') = true := by
  rw [← Array.all_toList]
  rfl
theorem kp_setRow (w : World) (g : Nat) (cs : Array Value) : Kp (· = g) w (w.setRow g cs) :=
  ⟨Below.setRow (Below.refl 0 w) (Nat.zero_le _) _, fun b _ hn => by
    simp only [World.setRow, Array.getElem?_modify]
    rw [if_neg (fun e => hn e.symm)]⟩
/-- the relation of the loop -/
def RR (B : Nat) (W : World) (bc gl n k : Nat) (w : World) (cnt : Int) : Prop := ∃ (C : Ch), k ≤ n ∧ k ≤ 100 ∧ cnt = (C.snaps.length : Int) ∧ Ho B W w bc C ∧ Blk w gl 33 #[.int .u64 C.last.g.1, .int .u64 C.last.g.2]
set_option maxRecDepth 100000 in
set_option maxHeartbeats 8000000 in
theorem law_ChainRises (v0 : Value) (a0 : List Gd) (W : World) (w0 : InG W v0 a0) (_m0 : a0.length ≤ 2 ^ 43) :
    Calls Try.prog 5 #[v0] W fun e w' => e = .returned (.bool true) ∧ Below W.heap.size W w' := by
  obtain ⟨a, c, rfl, -, hx⟩ := w0.open_
  have hml := w0.2.1
  have hwf := w0.wf
  generalize hZ : (fun j => a0.getD j (0, 0)) = Z
  have hZj : ∀ j, a0.getD j (0, 0) = Z j := fun j => by rw [← hZ]
  simp only [hZj] at hx hwf
  clear hZ hZj w0
  generalize a0.length = n at *
  have HX := Lib.hid hx
  have HW := Lib.hid hwf
  have HNL := Lib.hid hml
  clear hx hwf hml
  go_enter Try.func5, Try.ntmps5
  go_wp2_with fail
  refine (works_any _).mono ?_
  rintro e w1 ⟨rfl, hb⟩
  have HB1 := Lib.hid hb
  clear hb
  go_wp2_with fail
  refine (new_any _ 1 (by decide) (by decide)).mono ?_
  rintro e w2 hn
  obtain ⟨bc, rfl, ho⟩ := Ho.of_new HB1.out HB1.out.size hn
  have hb0 := (Below.refl w2.heap.size w2).alloc (Nat.le_refl _) (Obj.cells #[.int .u64 0, .int .u64 0] 33)
  have HH := Lib.hid (And.intro (ho.keep hb0) (And.intro (Blk.new w2 33 #[.int .u64 0, .int .u64 0]) ho.size))
  clear ho hn hb0 HB1
  go_wp2_with fail
  generalize w2.alloc (Obj.cells #[.int .u64 0, .int .u64 0] 33) = w3 at *
  generalize hgl : w2.heap.size = gl at *
  clear hgl
  go_loopw [4, 6] (fun cn i wr => ∃ (k : Nat) (z : Int), i = .int .i64 k ∧ cn = .int .i64 z ∧ RR W.heap.size W bc gl n k wr z) (fun _ i _ => 100 - (intOf i).toNat)
  case atStart => exact ⟨0, 0, rfl, rfl, Ch.new 1, Nat.zero_le _, Nat.zero_le _, rfl, HH.out.1, HH.out.2.1⟩
  case round =>
    obtain ⟨k, z, rfl, rfl, C, hk, hk100, rfl, ho, hbk⟩ := hrel
    have HGL := Lib.hid HH.out.2.2
    have HO := Lib.hid ho
    have HBK := Lib.hid hbk
    clear ho hbk
    by_cases hkn : k < n
    · by_cases hkt : k < 100
      · obtain ⟨g, off, rfl, hc0, hc1⟩ := HX.out k hkn
        have HC := Lib.hid (fun w' (hb : Below W.heap.size W w') => And.intro (show w'.cell? ⟨g, off + k * 2, none⟩ = some (.int .u64 (Z k).1) from cell_later hb hc0) (show w'.cell? ⟨g, off + k * 2 + 1, none⟩ = some (.int .u64 (Z k).2) from cell_later hb hc1))
        have HWK := Lib.hid (HW.out k)
        have HKN := Lib.hid (And.intro hkn hkt)
        obtain ⟨x0, x1⟩ := HC.out wr HO.out.below
        have y0 := HBK.out.cell 0
        have y1 := HBK.out.cell 1
        simp at y0 y1
        have HL20 := Lib.hid (next_le HO.out)
        have i1 : (k : Int) < (n : Int) := by omega
        have i2 : (k : Int) < 100 := by omega
        have i0 : (0 : Int) ≤ (k : Int) := by omega
        have hsu := @step_up C (Z k) k
        have hsf := @step_full C (Z k) k
        have hsn := @step_no C (Z k) k
        have HAE := Lib.hid (addE_next C (Z k))
        have HSD := Lib.hid (show step C (Z k) k = if k % 2 = 0 then C.snap (Z k) else C.add (Z k) [] from rfl)
        obtain ⟨S, hS⟩ : ∃ S, S = step C (Z k) k := ⟨_, rfl⟩
        rw [← hS] at hsu hsf hsn HSD
        unfold upG at hsu hsf hsn
        obtain ⟨⟨ge, gc⟩, hgg⟩ : ∃ p : Gd, p = Z k := ⟨_, rfl⟩
        rw [← hgg] at hsu hsf hsn HAE HSD HC HWK x0 x1
        obtain ⟨⟨le, lc⟩, hll⟩ : ∃ p : Gd, p = C.last.g := ⟨_, rfl⟩
        rw [← hll] at hsu hsf hsn HBK y0 y1
        dsimp only at hsu hsf hsn HC x0 x1 y0 y1 HBK
        generalize hcn : C.snaps.length = cn at *
        have HSU := Lib.hid hsu
        have HSF := Lib.hid hsf
        have HSN := Lib.hid hsn
        have HCN := Lib.hid hcn
        have HLL := Lib.hid hll
        have HS := Lib.hid hS
        clear hc0 hc1 hsu hsf hsn hcn hS hgg hll hkn hkt hk hk100
        have hcase : (le < ge) ∨ (ge ≤ le ∧ ge = le ∧ lc < gc) ∨ (ge ≤ le ∧ ge = le ∧ gc ≤ lc) ∨ (ge ≤ le ∧ ge < le) := by omega
        rcases hcase with h1 | ⟨h1, rfl, h2⟩ | ⟨h1, rfl, h2⟩ | ⟨h1, h2⟩
        · have HUP := Lib.hid (HSU.out (decide_eq_true (.inl h1)))
          have HFU := Lib.hid (HSF.out (decide_eq_true (.inl h1)))
          clear HSU HSF HSN
          go_wp2_with fail
          go_quiet (fail)
          have HOQ := Lib.hid (show Ho W.heap.size W (wr.drewN nq) bc C from HO.out.keep (below_drewN (Below.refl _ _) nq))
          have HBQ := Lib.hid (show Blk (wr.drewN nq) gl 33 #[.int .u64 le, .int .u64 lc] from HBK.out)
          replace x0 : (wr.drewN nq).cell? ⟨g, off + k * 2, none⟩ = some (.int .u64 ge) := x0
          replace x1 : (wr.drewN nq).cell? ⟨g, off + k * 2 + 1, none⟩ = some (.int .u64 gc) := x1
          replace y0 : (wr.drewN nq).cell? ⟨gl, 0, none⟩ = some (.int .u64 le) := y0
          clear HO HBK
          generalize wr.drewN nq = wq at *
          clear h1 
          by_cases h20 : cn < 20
          · obtain ⟨nx, sl, sg⟩ := HUP.out h20
            have HNX := Lib.hid nx
            have HSL := Lib.hid (show S.snaps.length = cn + 1 ∧ S.last.g = (ge, gc) from ⟨sl, sg⟩)
            have i3 : (cn : Int) < 20 := by omega
            clear nx sl sg h20 HUP HFU
            by_cases hp : k % 2 = 0
            · have HSQ := Lib.hid (show S = C.snap (ge, gc) by rw [HSD.out, if_pos hp])
              have hq : (k : Int) % 2 = 0 := by omega
              clear hp
              go_wp2_with fail
              have hc := ho_snap HOQ.out (ge, gc) HWK.out
              rw [HNX.out, ← HSQ.out] at hc
              refine hc.mono ?_
              clear hc
              rintro e wx ⟨rfl, ho, hoth⟩
              have HOX := Lib.hid ho
              have HBX := Lib.hid (hoth _ _ _ (by decide) (by decide) HBQ.out)
              clear ho hoth x0 x1 y0 y1
              obtain ⟨x0, x1⟩ := HC.out wx HOX.out.below
              go_wp2_with (refine wpList_store_then rfl 33 _ _ rfl gl #[.int .u64 ge, .int .u64 gc] rfl rfl 33 _ HBX.out guid_size rfl (guid_one _ _) ?_)
              refine Later.mk fun w6 hw6 => ?_
              have hkp : Kp (· = gl) wx w6 := by rw [hw6]; exact kp_setRow _ _ _
              have HO6 := Lib.hid (HOX.out.other hkp HBX.out (by decide) (by decide) HGL.out)
              have HB6 := Lib.hid (show Blk w6 gl 33 #[.int .u64 ge, .int .u64 gc] by rw [hw6]; exact HBX.out.row _)
              clear hw6 hkp
              go_wp2_with fail
              refine (ho_list HO6.out).mono ?_
              rintro e w7 ⟨vg, rfl, ho, hb⟩
              have HN := Lib.hid (And.intro (HO6.out.keep hb) (HB6.out.keep hb))
              obtain ⟨ag, cg, hvg, -⟩ := ho.rd.open_
              rw [List.length_map, HSL.out.1] at hvg
              subst hvg
              clear ho hb
              go_wp2
              clear i1 i2 i0 i3
              refine ⟨⟨k + 1, (cn : Int) + 1, rfl, rfl, S, HKN.out.1, HKN.out.2, by rw [HSL.out.1]; rfl, HN.out.1, ?_⟩, meas_succ HKN.out.2⟩
              rw [HSL.out.2]
              exact HN.out.2
            · have HSQ := Lib.hid (show S = C.add (ge, gc) [] by rw [HSD.out, if_neg hp])
              have hq : (k : Int) % 2 = 1 := by omega
              clear hp
              go_wp2_with fail
              have hc := ho_add HOQ.out (ge, gc) HWK.out (.slice none 0 0) [] (InC.nil_ _ _ _)
              rw [HAE.out, HNX.out, ← HSQ.out] at hc
              refine hc.mono ?_
              clear hc
              rintro e wx ⟨rfl, ho, hoth⟩
              have HOX := Lib.hid ho
              have HBX := Lib.hid (hoth _ _ _ (by decide) (by decide) HBQ.out)
              clear ho hoth x0 x1 y0 y1
              obtain ⟨x0, x1⟩ := HC.out wx HOX.out.below
              go_wp2_with (refine wpList_store_then rfl 33 _ _ rfl gl #[.int .u64 ge, .int .u64 gc] rfl rfl 33 _ HBX.out guid_size rfl (guid_one _ _) ?_)
              refine Later.mk fun w6 hw6 => ?_
              have hkp : Kp (· = gl) wx w6 := by rw [hw6]; exact kp_setRow _ _ _
              have HO6 := Lib.hid (HOX.out.other hkp HBX.out (by decide) (by decide) HGL.out)
              have HB6 := Lib.hid (show Blk w6 gl 33 #[.int .u64 ge, .int .u64 gc] by rw [hw6]; exact HBX.out.row _)
              clear hw6 hkp
              go_wp2_with fail
              refine (ho_list HO6.out).mono ?_
              rintro e w7 ⟨vg, rfl, ho, hb⟩
              have HN := Lib.hid (And.intro (HO6.out.keep hb) (HB6.out.keep hb))
              obtain ⟨ag, cg, hvg, -⟩ := ho.rd.open_
              rw [List.length_map, HSL.out.1] at hvg
              subst hvg
              clear ho hb
              go_wp2
              clear i1 i2 i0 i3
              refine ⟨⟨k + 1, (cn : Int) + 1, rfl, rfl, S, HKN.out.1, HKN.out.2, by rw [HSL.out.1]; rfl, HN.out.1, ?_⟩, meas_succ HKN.out.2⟩
              rw [HSL.out.2]
              exact HN.out.2
          · obtain rfl : cn = 20 := by have := HL20.out; omega
            obtain ⟨nx, se⟩ := HFU.out rfl
            have HNX := Lib.hid nx
            have HSL := Lib.hid (show S.snaps.length = 20 ∧ S.last.g = (le, lc) by rw [se]; exact ⟨HCN.out, HLL.out.symm⟩)
            clear nx se h20 HUP HFU
            by_cases hp : k % 2 = 0
            · have HSQ := Lib.hid (show S = C.snap (ge, gc) by rw [HSD.out, if_pos hp])
              have hq : (k : Int) % 2 = 0 := by omega
              clear hp
              go_wp2_with fail
              have hc := ho_snap HOQ.out (ge, gc) HWK.out
              rw [HNX.out, ← HSQ.out] at hc
              refine hc.mono ?_
              clear hc
              rintro e wx ⟨rfl, ho, hoth⟩
              have HOX := Lib.hid ho
              have HBX := Lib.hid (hoth _ _ _ (by decide) (by decide) HBQ.out)
              clear ho hoth x0 x1 y0 y1
              obtain ⟨x0, x1⟩ := HC.out wx HOX.out.below
              go_wp2_with fail
              refine (ho_list HOX.out).mono ?_
              rintro e w7 ⟨vg, rfl, ho, hb⟩
              have HN := Lib.hid (And.intro (HOX.out.keep hb) (HBX.out.keep hb))
              obtain ⟨ag, cg, hvg, -⟩ := ho.rd.open_
              rw [List.length_map, HSL.out.1] at hvg
              subst hvg
              clear ho hb
              go_wp2
              clear i1 i2 i0
              refine ⟨⟨k + 1, 20, rfl, rfl, S, HKN.out.1, HKN.out.2, by rw [HSL.out.1]; rfl, HN.out.1, ?_⟩, meas_succ HKN.out.2⟩
              rw [HSL.out.2]
              exact HN.out.2
            · have HSQ := Lib.hid (show S = C.add (ge, gc) [] by rw [HSD.out, if_neg hp])
              have hq : (k : Int) % 2 = 1 := by omega
              clear hp
              go_wp2_with fail
              have hc := ho_add HOQ.out (ge, gc) HWK.out (.slice none 0 0) [] (InC.nil_ _ _ _)
              rw [HAE.out, HNX.out, ← HSQ.out] at hc
              refine hc.mono ?_
              clear hc
              rintro e wx ⟨rfl, ho, hoth⟩
              have HOX := Lib.hid ho
              have HBX := Lib.hid (hoth _ _ _ (by decide) (by decide) HBQ.out)
              clear ho hoth x0 x1 y0 y1
              obtain ⟨x0, x1⟩ := HC.out wx HOX.out.below
              go_wp2_with fail
              refine (ho_list HOX.out).mono ?_
              rintro e w7 ⟨vg, rfl, ho, hb⟩
              have HN := Lib.hid (And.intro (HOX.out.keep hb) (HBX.out.keep hb))
              obtain ⟨ag, cg, hvg, -⟩ := ho.rd.open_
              rw [List.length_map, HSL.out.1] at hvg
              subst hvg
              clear ho hb
              go_wp2
              clear i1 i2 i0
              refine ⟨⟨k + 1, 20, rfl, rfl, S, HKN.out.1, HKN.out.2, by rw [HSL.out.1]; rfl, HN.out.1, ?_⟩, meas_succ HKN.out.2⟩
              rw [HSL.out.2]
              exact HN.out.2
        · have HUP := Lib.hid (HSU.out (decide_eq_true (.inr ⟨rfl, h2⟩)))
          have HFU := Lib.hid (HSF.out (decide_eq_true (.inr ⟨rfl, h2⟩)))
          clear HSU HSF HSN
          go_wp2_with fail
          go_quiet (fail)
          have HOQ := Lib.hid (show Ho W.heap.size W (wr.drewN nq) bc C from HO.out.keep (below_drewN (Below.refl _ _) nq))
          have HBQ := Lib.hid (show Blk (wr.drewN nq) gl 33 #[.int .u64 ge, .int .u64 lc] from HBK.out)
          replace x0 : (wr.drewN nq).cell? ⟨g, off + k * 2, none⟩ = some (.int .u64 ge) := x0
          replace x1 : (wr.drewN nq).cell? ⟨g, off + k * 2 + 1, none⟩ = some (.int .u64 gc) := x1
          replace y0 : (wr.drewN nq).cell? ⟨gl, 0, none⟩ = some (.int .u64 ge) := y0
          clear HO HBK
          generalize wr.drewN nq = wq at *
          clear h1 h2
          by_cases h20 : cn < 20
          · obtain ⟨nx, sl, sg⟩ := HUP.out h20
            have HNX := Lib.hid nx
            have HSL := Lib.hid (show S.snaps.length = cn + 1 ∧ S.last.g = (ge, gc) from ⟨sl, sg⟩)
            have i3 : (cn : Int) < 20 := by omega
            clear nx sl sg h20 HUP HFU
            by_cases hp : k % 2 = 0
            · have HSQ := Lib.hid (show S = C.snap (ge, gc) by rw [HSD.out, if_pos hp])
              have hq : (k : Int) % 2 = 0 := by omega
              clear hp
              go_wp2_with fail
              have hc := ho_snap HOQ.out (ge, gc) HWK.out
              rw [HNX.out, ← HSQ.out] at hc
              refine hc.mono ?_
              clear hc
              rintro e wx ⟨rfl, ho, hoth⟩
              have HOX := Lib.hid ho
              have HBX := Lib.hid (hoth _ _ _ (by decide) (by decide) HBQ.out)
              clear ho hoth x0 x1 y0 y1
              obtain ⟨x0, x1⟩ := HC.out wx HOX.out.below
              go_wp2_with (refine wpList_store_then rfl 33 _ _ rfl gl #[.int .u64 ge, .int .u64 gc] rfl rfl 33 _ HBX.out guid_size rfl (guid_one _ _) ?_)
              refine Later.mk fun w6 hw6 => ?_
              have hkp : Kp (· = gl) wx w6 := by rw [hw6]; exact kp_setRow _ _ _
              have HO6 := Lib.hid (HOX.out.other hkp HBX.out (by decide) (by decide) HGL.out)
              have HB6 := Lib.hid (show Blk w6 gl 33 #[.int .u64 ge, .int .u64 gc] by rw [hw6]; exact HBX.out.row _)
              clear hw6 hkp
              go_wp2_with fail
              refine (ho_list HO6.out).mono ?_
              rintro e w7 ⟨vg, rfl, ho, hb⟩
              have HN := Lib.hid (And.intro (HO6.out.keep hb) (HB6.out.keep hb))
              obtain ⟨ag, cg, hvg, -⟩ := ho.rd.open_
              rw [List.length_map, HSL.out.1] at hvg
              subst hvg
              clear ho hb
              go_wp2
              clear i1 i2 i0 i3
              refine ⟨⟨k + 1, (cn : Int) + 1, rfl, rfl, S, HKN.out.1, HKN.out.2, by rw [HSL.out.1]; rfl, HN.out.1, ?_⟩, meas_succ HKN.out.2⟩
              rw [HSL.out.2]
              exact HN.out.2
            · have HSQ := Lib.hid (show S = C.add (ge, gc) [] by rw [HSD.out, if_neg hp])
              have hq : (k : Int) % 2 = 1 := by omega
              clear hp
              go_wp2_with fail
              have hc := ho_add HOQ.out (ge, gc) HWK.out (.slice none 0 0) [] (InC.nil_ _ _ _)
              rw [HAE.out, HNX.out, ← HSQ.out] at hc
              refine hc.mono ?_
              clear hc
              rintro e wx ⟨rfl, ho, hoth⟩
              have HOX := Lib.hid ho
              have HBX := Lib.hid (hoth _ _ _ (by decide) (by decide) HBQ.out)
              clear ho hoth x0 x1 y0 y1
              obtain ⟨x0, x1⟩ := HC.out wx HOX.out.below
              go_wp2_with (refine wpList_store_then rfl 33 _ _ rfl gl #[.int .u64 ge, .int .u64 gc] rfl rfl 33 _ HBX.out guid_size rfl (guid_one _ _) ?_)
              refine Later.mk fun w6 hw6 => ?_
              have hkp : Kp (· = gl) wx w6 := by rw [hw6]; exact kp_setRow _ _ _
              have HO6 := Lib.hid (HOX.out.other hkp HBX.out (by decide) (by decide) HGL.out)
              have HB6 := Lib.hid (show Blk w6 gl 33 #[.int .u64 ge, .int .u64 gc] by rw [hw6]; exact HBX.out.row _)
              clear hw6 hkp
              go_wp2_with fail
              refine (ho_list HO6.out).mono ?_
              rintro e w7 ⟨vg, rfl, ho, hb⟩
              have HN := Lib.hid (And.intro (HO6.out.keep hb) (HB6.out.keep hb))
              obtain ⟨ag, cg, hvg, -⟩ := ho.rd.open_
              rw [List.length_map, HSL.out.1] at hvg
              subst hvg
              clear ho hb
              go_wp2
              clear i1 i2 i0 i3
              refine ⟨⟨k + 1, (cn : Int) + 1, rfl, rfl, S, HKN.out.1, HKN.out.2, by rw [HSL.out.1]; rfl, HN.out.1, ?_⟩, meas_succ HKN.out.2⟩
              rw [HSL.out.2]
              exact HN.out.2
          · obtain rfl : cn = 20 := by have := HL20.out; omega
            obtain ⟨nx, se⟩ := HFU.out rfl
            have HNX := Lib.hid nx
            have HSL := Lib.hid (show S.snaps.length = 20 ∧ S.last.g = (ge, lc) by rw [se]; exact ⟨HCN.out, HLL.out.symm⟩)
            clear nx se h20 HUP HFU
            by_cases hp : k % 2 = 0
            · have HSQ := Lib.hid (show S = C.snap (ge, gc) by rw [HSD.out, if_pos hp])
              have hq : (k : Int) % 2 = 0 := by omega
              clear hp
              go_wp2_with fail
              have hc := ho_snap HOQ.out (ge, gc) HWK.out
              rw [HNX.out, ← HSQ.out] at hc
              refine hc.mono ?_
              clear hc
              rintro e wx ⟨rfl, ho, hoth⟩
              have HOX := Lib.hid ho
              have HBX := Lib.hid (hoth _ _ _ (by decide) (by decide) HBQ.out)
              clear ho hoth x0 x1 y0 y1
              obtain ⟨x0, x1⟩ := HC.out wx HOX.out.below
              go_wp2_with fail
              refine (ho_list HOX.out).mono ?_
              rintro e w7 ⟨vg, rfl, ho, hb⟩
              have HN := Lib.hid (And.intro (HOX.out.keep hb) (HBX.out.keep hb))
              obtain ⟨ag, cg, hvg, -⟩ := ho.rd.open_
              rw [List.length_map, HSL.out.1] at hvg
              subst hvg
              clear ho hb
              go_wp2
              clear i1 i2 i0
              refine ⟨⟨k + 1, 20, rfl, rfl, S, HKN.out.1, HKN.out.2, by rw [HSL.out.1]; rfl, HN.out.1, ?_⟩, meas_succ HKN.out.2⟩
              rw [HSL.out.2]
              exact HN.out.2
            · have HSQ := Lib.hid (show S = C.add (ge, gc) [] by rw [HSD.out, if_neg hp])
              have hq : (k : Int) % 2 = 1 := by omega
              clear hp
              go_wp2_with fail
              have hc := ho_add HOQ.out (ge, gc) HWK.out (.slice none 0 0) [] (InC.nil_ _ _ _)
              rw [HAE.out, HNX.out, ← HSQ.out] at hc
              refine hc.mono ?_
              clear hc
              rintro e wx ⟨rfl, ho, hoth⟩
              have HOX := Lib.hid ho
              have HBX := Lib.hid (hoth _ _ _ (by decide) (by decide) HBQ.out)
              clear ho hoth x0 x1 y0 y1
              obtain ⟨x0, x1⟩ := HC.out wx HOX.out.below
              go_wp2_with fail
              refine (ho_list HOX.out).mono ?_
              rintro e w7 ⟨vg, rfl, ho, hb⟩
              have HN := Lib.hid (And.intro (HOX.out.keep hb) (HBX.out.keep hb))
              obtain ⟨ag, cg, hvg, -⟩ := ho.rd.open_
              rw [List.length_map, HSL.out.1] at hvg
              subst hvg
              clear ho hb
              go_wp2
              clear i1 i2 i0
              refine ⟨⟨k + 1, 20, rfl, rfl, S, HKN.out.1, HKN.out.2, by rw [HSL.out.1]; rfl, HN.out.1, ?_⟩, meas_succ HKN.out.2⟩
              rw [HSL.out.2]
              exact HN.out.2
        · have HNN := Lib.hid (HSN.out (decide_eq_false (fun h => by rcases h with h | ⟨_, h⟩ <;> omega)))
          clear HSU HSF HSN
          have d9 : decide (lc < gc) = false := decide_eq_false (by omega)
          go_wp2_with fail
          go_quiet (fail)
          have HOQ := Lib.hid (show Ho W.heap.size W (wr.drewN nq) bc C from HO.out.keep (below_drewN (Below.refl _ _) nq))
          have HBQ := Lib.hid (show Blk (wr.drewN nq) gl 33 #[.int .u64 ge, .int .u64 lc] from HBK.out)
          replace x0 : (wr.drewN nq).cell? ⟨g, off + k * 2, none⟩ = some (.int .u64 ge) := x0
          replace x1 : (wr.drewN nq).cell? ⟨g, off + k * 2 + 1, none⟩ = some (.int .u64 gc) := x1
          replace y0 : (wr.drewN nq).cell? ⟨gl, 0, none⟩ = some (.int .u64 ge) := y0
          clear HO HBK
          generalize wr.drewN nq = wq at *
          obtain ⟨nx, se⟩ := HNN.out
          have HNX := Lib.hid nx
          have HSL := Lib.hid (show S.snaps.length = cn ∧ S.last.g = (ge, lc) by rw [se]; exact ⟨HCN.out, HLL.out.symm⟩)
          clear nx se HNN
          by_cases hp : k % 2 = 0
          · have HSQ := Lib.hid (show S = C.snap (ge, gc) by rw [HSD.out, if_pos hp])
            have hq : (k : Int) % 2 = 0 := by omega
            clear hp
            go_wp2_with fail
            have hc := ho_snap HOQ.out (ge, gc) HWK.out
            rw [HNX.out, ← HSQ.out] at hc
            refine hc.mono ?_
            clear hc
            rintro e wx ⟨rfl, ho, hoth⟩
            have HOX := Lib.hid ho
            have HBX := Lib.hid (hoth _ _ _ (by decide) (by decide) HBQ.out)
            clear ho hoth x0 x1 y0 y1
            obtain ⟨x0, x1⟩ := HC.out wx HOX.out.below
            go_wp2_with fail
            refine (ho_list HOX.out).mono ?_
            rintro e w7 ⟨vg, rfl, ho, hb⟩
            have HN := Lib.hid (And.intro (HOX.out.keep hb) (HBX.out.keep hb))
            obtain ⟨ag, cg, hvg, -⟩ := ho.rd.open_
            rw [List.length_map, HSL.out.1] at hvg
            subst hvg
            clear ho hb
            go_wp2
            clear i1 i2 i0
            refine ⟨⟨k + 1, (cn : Int), rfl, rfl, S, HKN.out.1, HKN.out.2, by rw [HSL.out.1], HN.out.1, ?_⟩, meas_succ HKN.out.2⟩
            rw [HSL.out.2]
            exact HN.out.2
          · have HSQ := Lib.hid (show S = C.add (ge, gc) [] by rw [HSD.out, if_neg hp])
            have hq : (k : Int) % 2 = 1 := by omega
            clear hp
            go_wp2_with fail
            have hc := ho_add HOQ.out (ge, gc) HWK.out (.slice none 0 0) [] (InC.nil_ _ _ _)
            rw [HAE.out, HNX.out, ← HSQ.out] at hc
            refine hc.mono ?_
            clear hc
            rintro e wx ⟨rfl, ho, hoth⟩
            have HOX := Lib.hid ho
            have HBX := Lib.hid (hoth _ _ _ (by decide) (by decide) HBQ.out)
            clear ho hoth x0 x1 y0 y1
            obtain ⟨x0, x1⟩ := HC.out wx HOX.out.below
            go_wp2_with fail
            refine (ho_list HOX.out).mono ?_
            rintro e w7 ⟨vg, rfl, ho, hb⟩
            have HN := Lib.hid (And.intro (HOX.out.keep hb) (HBX.out.keep hb))
            obtain ⟨ag, cg, hvg, -⟩ := ho.rd.open_
            rw [List.length_map, HSL.out.1] at hvg
            subst hvg
            clear ho hb
            go_wp2
            clear i1 i2 i0
            refine ⟨⟨k + 1, (cn : Int), rfl, rfl, S, HKN.out.1, HKN.out.2, by rw [HSL.out.1], HN.out.1, ?_⟩, meas_succ HKN.out.2⟩
            rw [HSL.out.2]
            exact HN.out.2
        · have HNN := Lib.hid (HSN.out (decide_eq_false (fun h => by rcases h with h | ⟨h, _⟩ <;> omega)))
          clear HSU HSF HSN
          have d8 : (ge == le) = false := by
            rw [beq_eq_false_iff_ne]
            omega
          have d7 : decide (le < ge) = false := decide_eq_false (by omega)
          clear h1 h2
          go_wp2_with fail
          go_quiet (fail)
          have HOQ := Lib.hid (show Ho W.heap.size W (wr.drewN nq) bc C from HO.out.keep (below_drewN (Below.refl _ _) nq))
          have HBQ := Lib.hid (show Blk (wr.drewN nq) gl 33 #[.int .u64 le, .int .u64 lc] from HBK.out)
          replace x0 : (wr.drewN nq).cell? ⟨g, off + k * 2, none⟩ = some (.int .u64 ge) := x0
          replace x1 : (wr.drewN nq).cell? ⟨g, off + k * 2 + 1, none⟩ = some (.int .u64 gc) := x1
          replace y0 : (wr.drewN nq).cell? ⟨gl, 0, none⟩ = some (.int .u64 le) := y0
          clear HO HBK
          generalize wr.drewN nq = wq at *
          obtain ⟨nx, se⟩ := HNN.out
          have HNX := Lib.hid nx
          have HSL := Lib.hid (show S.snaps.length = cn ∧ S.last.g = (le, lc) by rw [se]; exact ⟨HCN.out, HLL.out.symm⟩)
          clear nx se HNN
          by_cases hp : k % 2 = 0
          · have HSQ := Lib.hid (show S = C.snap (ge, gc) by rw [HSD.out, if_pos hp])
            have hq : (k : Int) % 2 = 0 := by omega
            clear hp
            go_wp2_with fail
            have hc := ho_snap HOQ.out (ge, gc) HWK.out
            rw [HNX.out, ← HSQ.out] at hc
            refine hc.mono ?_
            clear hc
            rintro e wx ⟨rfl, ho, hoth⟩
            have HOX := Lib.hid ho
            have HBX := Lib.hid (hoth _ _ _ (by decide) (by decide) HBQ.out)
            clear ho hoth x0 x1 y0 y1
            obtain ⟨x0, x1⟩ := HC.out wx HOX.out.below
            go_wp2_with fail
            refine (ho_list HOX.out).mono ?_
            rintro e w7 ⟨vg, rfl, ho, hb⟩
            have HN := Lib.hid (And.intro (HOX.out.keep hb) (HBX.out.keep hb))
            obtain ⟨ag, cg, hvg, -⟩ := ho.rd.open_
            rw [List.length_map, HSL.out.1] at hvg
            subst hvg
            clear ho hb
            go_wp2
            clear i1 i2 i0
            refine ⟨⟨k + 1, (cn : Int), rfl, rfl, S, HKN.out.1, HKN.out.2, by rw [HSL.out.1], HN.out.1, ?_⟩, meas_succ HKN.out.2⟩
            rw [HSL.out.2]
            exact HN.out.2
          · have HSQ := Lib.hid (show S = C.add (ge, gc) [] by rw [HSD.out, if_neg hp])
            have hq : (k : Int) % 2 = 1 := by omega
            clear hp
            go_wp2_with fail
            have hc := ho_add HOQ.out (ge, gc) HWK.out (.slice none 0 0) [] (InC.nil_ _ _ _)
            rw [HAE.out, HNX.out, ← HSQ.out] at hc
            refine hc.mono ?_
            clear hc
            rintro e wx ⟨rfl, ho, hoth⟩
            have HOX := Lib.hid ho
            have HBX := Lib.hid (hoth _ _ _ (by decide) (by decide) HBQ.out)
            clear ho hoth x0 x1 y0 y1
            obtain ⟨x0, x1⟩ := HC.out wx HOX.out.below
            go_wp2_with fail
            refine (ho_list HOX.out).mono ?_
            rintro e w7 ⟨vg, rfl, ho, hb⟩
            have HN := Lib.hid (And.intro (HOX.out.keep hb) (HBX.out.keep hb))
            obtain ⟨ag, cg, hvg, -⟩ := ho.rd.open_
            rw [List.length_map, HSL.out.1] at hvg
            subst hvg
            clear ho hb
            go_wp2
            clear i1 i2 i0
            refine ⟨⟨k + 1, (cn : Int), rfl, rfl, S, HKN.out.1, HKN.out.2, by rw [HSL.out.1], HN.out.1, ?_⟩, meas_succ HKN.out.2⟩
            rw [HSL.out.2]
            exact HN.out.2
      · obtain rfl : k = 100 := by omega
        have i1 : (100 : Int) < (n : Int) := by omega
        clear hkn hkt hk hk100
        go_wp2
        go_ret
        exact ⟨rfl, HO.out.below⟩
    · obtain rfl : k = n := by omega
      have i1 : ¬ ((k : Int) < (k : Int)) := by omega
      clear hkn hk hk100
      go_wp2
      go_ret
      exact ⟨rfl, HO.out.below⟩
end Go.Proofs.Ytjeebpklinpmfaa
