/-
  THE REFERENCE'S CHAIN: Copy (printed by wip/gen-rcg.py).
-/
import Derived.Test.YtjeebpklinpmfaaRcD
namespace Go.Proofs.Ytjeebpklinpmfaa
open Go.RowKit Reg Go.WideShapes Go.ChangeShapes

section
variable {w w' : World} {B br : Nat} {nv sv : Value} {now : List ByteArray} {es : List Rs} {C : Ch}
theorem own_mono {base base' m n : Nat} {t : TypeId} {v : Value} {xs : List Value} (h : w.ownsRow base t m v n xs) (hb : base' ≤ base) : w.ownsRow base' t m v n xs := by
  refine ⟨h.1, ?_⟩
  rcases h.2 with hn | ⟨g, cap, cur, rfl, hg, rest⟩
  · exact .inl hn
  · exact .inr ⟨g, cap, cur, rfl, Nat.le_trans hb hg, rest⟩
theorem Rm.mono {B' : Nat} (h : Rm w B br nv sv now es) (hb : B' ≤ B) : Rm w B' br nv sv now es := ⟨h.obj, h.now.mono hb, own_mono h.row hb, fun e he => (h.bl e he).mono hb, h.ap, Nat.le_trans hb h.br⟩
def strip (e : Rs) : Gd × List ByteArray × Bool := (e.g, e.bl, e.hid)
theorem Lk.of_map (k : Lk C now es) {es' : List Rs} (h : es'.map strip = es.map strip) : Lk C now es' := ⟨k.n, k.live, k.wf, k.len, k.now, (show es'.map strip = _ from h).trans k.sn, k.tl, k.ts⟩
set_option maxRecDepth 100000 in
set_option maxHeartbeats 1000000 in
theorem copyR_any (h : Rm w B br nv sv now es) (k : Lk C now es) : Calls Try.prog 21 #[.pointer (some ⟨br, 0, none⟩)] w fun e w' => ∃ bd, e = .returned (.pointer (some ⟨bd, 0, none⟩)) ∧ Rc w' B bd C ∧ Below w.heap.size w w' := by
  obtain ⟨na, nc, sa, sc, rfl, rfl⟩ := h.open_
  have x0 := h.obj.cell 0
  have x1 := h.obj.cell 1
  simp at x0 x1
  have hnl : now.length ≤ 1000 := by rw [k.nlen]; have := k.n.2; omega
  have HOW := Lib.hid (ownR_any w _ now h.now.rd hnl)
  have HM := Lib.hid h
  have HK := Lib.hid k
  have HL20 := Lib.hid (show es.length ≤ 20 from by rw [k.elen]; exact k.len)
  have hbl8 : ∀ j, j < es.length → (es.getD j rs0).bl.length ≤ 1000 := fun j hj => by rw [(k.at_ j hj).2.1, List.length_take]; have := k.n.2; omega
  have HBL8 := Lib.hid hbl8
  have HAT := Lib.hid (show ∀ j, j < es.length → ∃ gl, sa = some ⟨gl, 0, none⟩ ∧ w.cell? ⟨gl, j * 4, none⟩ = some (.int .u64 (es.getD j rs0).g.1) ∧ w.cell? ⟨gl, j * 4 + 1, none⟩ = some (.int .u64 (es.getD j rs0).g.2) ∧ w.cell? ⟨gl, j * 4 + 2, none⟩ = some (es.getD j rs0).iv ∧ w.cell? ⟨gl, j * 4 + 3, none⟩ = some (.bool (es.getD j rs0).hid) ∧ InT w (es.getD j rs0).iv (es.getD j rs0).bl from fun j hj => by
    obtain ⟨gl, cap, e2, -⟩ := own_block_ h.row (show 0 < es.length by omega)
    simp only [Value.slice.injEq] at e2
    obtain ⟨rfl, -, rfl⟩ := e2
    obtain ⟨h0, h1, h2, h3⟩ := OwR.at_ h.row j hj
    have hmem : es.getD j rs0 ∈ es := by
      have : es.getD j rs0 = es[j] := by simp [hj]
      rw [this]
      exact List.getElem_mem hj
    exact ⟨gl, rfl, h0, h1, h2, h3, (h.bl _ hmem).rd⟩)
  have htk : ∀ j, j < es.length → (es.take (j + 1)).map strip = (es.take j).map strip ++ [strip (es.getD j rs0)] := fun j hj => by
    rw [List.take_add_one, List.map_append]
    simp [hj]
  have HTK := Lib.hid htk
  obtain ⟨N, hN⟩ : ∃ N, now.length = N := ⟨_, rfl⟩
  obtain ⟨L, hL⟩ : ∃ L, es.length = L := ⟨_, rfl⟩
  rw [hN] at HM HOW x0
  rw [hL] at HM HL20 HBL8 HAT HTK x1
  have HX1 := Lib.hid x1
  have HNN := Lib.hid hN
  have HLL := Lib.hid hL
  clear h k hnl hbl8 htk hN hL x1
  go_enter Try.func21, Try.ntmps21
  go_wp2_with fail
  refine HOW.out.mono ?_
  rintro e w1 ⟨u, rfl, ho, hb⟩
  obtain ⟨ua, uc, rfl⟩ := ho.slice_
  rw [HNN.out] at ho ⊢
  have hb2 := (Below.refl w1.heap.size w1).alloc (Nat.le_refl _) (Obj.cells #[.slice ua N uc, .slice none 0 0] 84)
  have HMD := Lib.hid (show Rm (w1.alloc (Obj.cells #[.slice ua N uc, .slice none 0 0] 84)) w.heap.size w1.heap.size (.slice ua N uc) (.slice none 0 0) now [] from
    ⟨Blk.new _ _ _, ho.keep hb2, OwR.nil_ _ _, (fun e he => by cases he), (fun e he => by cases he), hb.size⟩)
  have HB1 := Lib.hid (hb.trans (hb2.mono hb.size))
  clear ho hb hb2 HOW x0
  go_wp2_with fail
  generalize w1.alloc (Obj.cells #[.slice ua N uc, .slice none 0 0] 84) = w2 at *
  generalize w1.heap.size = bd at *
  go_loopw [4] (fun i wr => ∃ (j : Nat) (sa2 : Option Addr) (sc2 : Nat) (es2 : List Rs), j ≤ L ∧ i = .int .i64 j ∧ Below w.heap.size w wr ∧ Rm wr w.heap.size bd (.slice ua N uc) (.slice sa2 j sc2) now es2 ∧ es2.length = j ∧ es2.map strip = (es.take j).map strip) (fun i _ => L - (intOf i).toNat)
  case atStart => exact ⟨0, none, 0, [], Nat.zero_le _, rfl, HB1.out, HMD.out, rfl, rfl⟩
  case round =>
    obtain ⟨j, sa2, sc2, es2, hj, rfl, hb, hm, hl2, hs2⟩ := hrel
    have HB := Lib.hid hb
    have HMR := Lib.hid hm
    have HL2 := Lib.hid hl2
    have HS2 := Lib.hid hs2
    have x1 := cell_later hb HX1.out
    clear hm hl2 hs2
    by_cases hlt : j < L
    · obtain ⟨gl, rfl, r0, r1, r2, r3, hin⟩ := HAT.out j hlt
      replace r0 := cell_later hb r0
      replace r1 := cell_later hb r1
      replace r2 := cell_later hb r2
      replace r3 := cell_later hb r3
      have hbl := HBL8.out j hlt
      have htk := HTK.out j hlt
      replace hin := hin.keep hb
      generalize es.getD j rs0 = ex at *
      obtain ⟨⟨g1, g2⟩, eb, ea, ec, eh⟩ := ex
      replace r2 : wr.cell? ⟨gl, j * 4 + 2, none⟩ = some (.slice ea eb.length ec) := r2
      replace hin : InT wr (.slice ea eb.length ec) eb := hin
      replace hbl : eb.length ≤ 1000 := hbl
      have htk2 : (es.take (j + 1)).map strip = (es.take j).map strip ++ [((g1, g2), eb, eh)] := htk
      obtain ⟨M, hM⟩ : ∃ M, eb.length = M := ⟨_, rfl⟩
      rw [hM] at r2 hin
      have hb5 := (Below.refl wr.heap.size wr).alloc (Nat.le_refl _) (Obj.cells #[.int .u64 g1, .int .u64 g2, .slice ea M ec, .bool eh] 88)
      have HOE := Lib.hid (ownR_any (wr.alloc (Obj.cells #[.int .u64 g1, .int .u64 g2, .slice ea M ec, .bool eh] 88)) _ eb (hin.keep hb5) hbl)
      have HXS := Lib.hid (Blk.new wr 88 #[.int .u64 g1, .int .u64 g2, .slice ea M ec, .bool eh])
      have HB5 := Lib.hid hb5
      have HTK2 := Lib.hid htk2
      have HMM := Lib.hid hM
      have HLT := Lib.hid hlt
      have i1 : (j : Int) < (L : Int) := by omega
      have i0 : (0 : Int) ≤ (j : Int) := by omega
      clear hb hbl htk htk2 hin hM hb5 hlt hj
      go_wp2_with fail
      generalize wr.alloc (Obj.cells #[.int .u64 g1, .int .u64 g2, .slice ea M ec, .bool eh] 88) = w5 at *
      generalize hgs : wr.heap.size = gs at *
      clear r0 r1 r2 r3 x1 i1 i0
      refine HOE.out.mono ?_
      rintro e w6 ⟨v, rfl, ho, hb⟩
      obtain ⟨va, vc, rfl⟩ := ho.slice_
      rw [HMM.out] at ho ⊢
      have hxs := HXS.out.keep hb
      have y2 := hxs.cell 2
      have f2 := hxs.frozen 2
      simp at y2
      have hsl := HXS.out.lt
      have HB7 := Lib.hid (show Below wr.heap.size wr (w6.setCell ⟨gs, 2, none⟩ (.slice va M vc)) from by
        rw [hgs]
        exact (HB5.out.trans (hb.mono (Nat.le_of_lt hsl))).setCell (p := ⟨gs, 2, none⟩) (Nat.le_refl _) _)
      have HX7 := Lib.hid (show Blk (w6.setCell ⟨gs, 2, none⟩ (.slice va M vc)) gs 88 #[.int .u64 g1, .int .u64 g2, .slice va M vc, .bool eh] from hxs.set 2 (.slice va M vc))
      have HO7 := Lib.hid (show OwT (w6.setCell ⟨gs, 2, none⟩ (.slice va M vc)) w5.heap.size (.slice va M vc) eb from ho.kp (kp_cell w6 gs 2 (.slice va M vc)) (fun b hb2 e => by have := own_from ho.1 hb2; omega))
      have HSL := Lib.hid (show wr.heap.size ≤ w5.heap.size from by omega)
      clear hxs ho hb hsl HOE HXS HB5 hgs
      go_wp2_with fail
      generalize w6.setCell ⟨gs, 2, none⟩ (.slice va M vc) = w7 at *
      clear y2 f2
      have HM7 := Lib.hid (HMR.out.keep HB7.out)
      refine wp_region_chain [6, 7, 10] (kv [(6, .sl 1), (7, .sla (j + 1)), (10, .is undef)]) (fun l w2 => match l with | [] => Below w7.heap.size w7 w2 | [x] => Below w7.heap.size w7 w2 ∧ ∃ q, x = .slice (some ⟨q, 0, none⟩) 1 1 ∧ Blk w2 q 88 #[.int .u64 g1, .int .u64 g2, .slice va M vc, .bool eh] | [_, x] => w2.cell? ⟨bd, 1, none⟩ = some (.slice sa2 j sc2) ∧ w2.frozen? ⟨bd, 1, none⟩ = false ∧ Rm (w2.setCell ⟨bd, 1, none⟩ x) w.heap.size bd (.slice ua N uc) x now (es2 ++ [(⟨(g1, g2), eb, va, vc, eh⟩ : Rs)]) ∧ FR w.heap.size w7 (w2.setCell ⟨bd, 1, none⟩ x) | _ :: x :: _ => Rm w2 w.heap.size bd (.slice ua N uc) x now (es2 ++ [(⟨(g1, g2), eb, va, vc, eh⟩ : Rs)]) ∧ FR w.heap.size w7 w2) (by kernel_rfl) (by kernel_rfl) (by kernel_rfl) (kv_inh _) (Below.drew (Below.refl _ _)) ?_
      intro ν hν
      obtain ⟨g6, n6⟩ : ∃ g, ν 6 = .slice (some ⟨g, 0, none⟩) 1 1 := hν 6
      obtain ⟨a7, c7, n7⟩ : ∃ a c, ν 7 = .slice a (j + 1) c := hν 7
      have n10 : ν 10 = undef := hν 10
      clear hν
      refine ch_plain 0 3 6 (by rfl) rfl (by kernel_rfl) (by kernel_rfl) ?_
      apply Exists.intro
      refine ⟨fun st w2 hlo hhi hJ => ?_, ?_⟩
      · clear hlo hhi hJ
        go_simp
        exact And.intro rfl rfl
      simp only [Act.put, List.setIfInBounds_toArray, List.set_cons_succ, List.set_cons_zero, Nat.reduceAdd]
      refine ch_plain 0 3 6 (by rfl) rfl (by kernel_rfl) (by kernel_rfl) ?_
      apply Exists.intro
      refine ⟨fun st w2 hlo hhi hJ => ?_, ?_⟩
      · clear hlo hhi hJ
        go_simp
        exact And.intro rfl rfl
      simp only [Act.put, List.setIfInBounds_toArray, List.set_cons_succ, List.set_cons_zero, Nat.reduceAdd]
      refine ch_plain 0 3 6 (by rfl) rfl (by kernel_rfl) (by kernel_rfl) ?_
      apply Exists.intro
      refine ⟨fun st w2 hlo hhi hJ => ?_, ?_⟩
      · clear hlo hhi hJ
        go_simp
        exact And.intro rfl rfl
      simp only [Act.put, List.setIfInBounds_toArray, List.set_cons_succ, List.set_cons_zero, Nat.reduceAdd]
      refine ch_plain 0 3 6 (by rfl) rfl (by kernel_rfl) (by kernel_rfl) ?_
      apply Exists.intro
      refine ⟨fun st w2 hlo hhi hJ => ?_, ?_⟩
      · clear hlo hhi hJ
        go_simp
        exact And.intro rfl rfl
      simp only [Act.put, List.setIfInBounds_toArray, List.set_cons_succ, List.set_cons_zero, Nat.reduceAdd]
      refine ch_plain 0 1 6 (by rfl) rfl (by kernel_rfl) (by kernel_rfl) ?_
      apply Exists.intro
      refine ⟨fun st w2 hlo hhi hJ => ?_, ?_⟩
      · have hj : Below w7.heap.size w7 w2 := by
          have q : st = 0 ∨ st = 1 := by omega
          rcases q with rfl | rfl
          · exact hJ
          · have hj : Below w7.heap.size w7 w2 ∧ _ := hJ
            exact hj.1
        have x0 := (HM7.out.obj.keep hj).cell 0
        have x1 := (HM7.out.obj.keep hj).cell 1
        simp at x0 x1
        clear hj
        clear hlo hhi hJ
        go_simp
        exact And.intro rfl rfl
      simp only [Act.put, List.setIfInBounds_toArray, List.set_cons_succ, List.set_cons_zero, Nat.reduceAdd]
      refine ch_plain 0 0 6 (by rfl) rfl (by kernel_rfl) (by kernel_rfl) ?_
      apply Exists.intro
      refine ⟨fun st w2 hlo hhi hJ => ?_, ?_⟩
      · have hj : Below w7.heap.size w7 w2 := by
          obtain rfl : st = 0 := by omega
          exact hJ
        have y0 := (HX7.out.keep hj).cell 0
        have y1 := (HX7.out.keep hj).cell 1
        have y2 := (HX7.out.keep hj).cell 2
        have y3 := (HX7.out.keep hj).cell 3
        simp at y0 y1 y2 y3
        clear hj
        clear hlo hhi hJ
        go_simp
        exact And.intro rfl rfl
      simp only [Act.put, List.setIfInBounds_toArray, List.set_cons_succ, List.set_cons_zero, Nat.reduceAdd]
      refine ch_special 0 6 (by rfl) rfl (by decide) (by kernel_rfl) (fun w2 hJ => ?_) ?_
      · have hj : Below w7.heap.size w7 w2 := hJ
        go_simp
        have hb := (Below.refl w2.heap.size w2).alloc (Nat.le_refl _) (Obj.cells #[.int .u64 g1, .int .u64 g2, .slice va M vc, .bool eh] 88)
        exact ⟨⟨_, rfl⟩, hj.trans (hb.mono hj.size), _, rfl, Blk.new _ _ _⟩
      rw [n6]
      simp only [Act.put, List.setIfInBounds_toArray, List.set_cons_succ, List.set_cons_zero, Nat.reduceAdd]
      refine ch_special 1 6 (by rfl) rfl (by decide) (by kernel_rfl) (fun w2 hJ => ?_) ?_
      · have hj : Below w7.heap.size w7 w2 ∧ ∃ q, ν 6 = .slice (some ⟨q, 0, none⟩) 1 1 ∧ Blk w2 q 88 #[.int .u64 g1, .int .u64 g2, .slice va M vc, .bool eh] := hJ
        rw [n6] at hj
        have hm2 := HM7.out.keep hj.1
        have hcells : (⟨(g1, g2), eb, va, vc, eh⟩ : Rs).cells.toArray = #[.int .u64 g1, .int .u64 g2, .slice va M vc, .bool eh] := by show (#[.int .u64 g1, .int .u64 g2, .slice va eb.length vc, .bool eh] : Array Value) = _; rw [HMM.out]
        have hiv : (⟨(g1, g2), eb, va, vc, eh⟩ : Rs).iv = .slice va M vc := by show Value.slice va eb.length vc = _; rw [HMM.out]
        have hrw := HO7.out.keep hj.1
        obtain ⟨xa, xc, w', hr, h1, h2, h3, h4⟩ := hm2.put (e := (⟨(g1, g2), eb, va, vc, eh⟩ : Rs)) (u := .slice (some ⟨g6, 0, none⟩) 1 1) 82 (by rw [hcells]; exact hj.2) (by rw [hiv]; exact hrw.mono (Nat.le_trans HB.out.size HSL.out)) (by rw [hiv]; exact apart_new HMR.out.now.1 hrw.1 HSL.out) (by rw [HL2.out]; have := HL20.out; have := HLT.out; omega)
        rw [HL2.out] at hr h3 h4
        rw [exec_append3 (.tmp 37) (.tmp 39) 82 rfl (.slice sa2 j sc2) (.slice (some ⟨g6, 0, none⟩) 1 1) rfl rfl (.slice xa (j + 1) xc) hr]
        exact ⟨⟨xa, xc, rfl⟩, h1, h2, h3, (FR.of_below hj.1 HM7.out.base).trans h4⟩
      rw [n7]
      simp only [Act.put, List.setIfInBounds_toArray, List.set_cons_succ, List.set_cons_zero, Nat.reduceAdd]
      refine ch_plain 0 3 6 (by rfl) rfl (by kernel_rfl) (by kernel_rfl) ?_
      apply Exists.intro
      refine ⟨fun st w2 hlo hhi hJ => ?_, ?_⟩
      · clear hlo hhi hJ
        go_simp
        exact And.intro rfl rfl
      simp only [Act.put, List.setIfInBounds_toArray, List.set_cons_succ, List.set_cons_zero, Nat.reduceAdd]
      refine ch_plain 0 3 6 (by rfl) rfl (by kernel_rfl) (by kernel_rfl) ?_
      apply Exists.intro
      refine ⟨fun st w2 hlo hhi hJ => ?_, ?_⟩
      · clear hlo hhi hJ
        go_simp
        exact And.intro rfl rfl
      simp only [Act.put, List.setIfInBounds_toArray, List.set_cons_succ, List.set_cons_zero, Nat.reduceAdd]
      refine ch_special 2 6 (by rfl) rfl (by decide) (by kernel_rfl) (fun w2 hJ => ?_) ?_
      · have hj : w2.cell? ⟨bd, 1, none⟩ = some (.slice sa2 j sc2) ∧ w2.frozen? ⟨bd, 1, none⟩ = false ∧ Rm (w2.setCell ⟨bd, 1, none⟩ (ν 7)) w.heap.size bd (.slice ua N uc) (ν 7) now (es2 ++ [(⟨(g1, g2), eb, va, vc, eh⟩ : Rs)]) ∧ FR w.heap.size w7 (w2.setCell ⟨bd, 1, none⟩ (ν 7)) := hJ
        rw [n7] at hj
        obtain ⟨h1, h2, h3, h4⟩ := hj
        have H34 := Lib.hid (And.intro h3 h4)
        clear h3 h4 hJ
        go_simp
        exact ⟨rfl, H34.out.1, H34.out.2⟩
      rw [n10]
      simp only [Act.put, Nat.reduceAdd]
      refine ch_nil (fun w9 hJ => ?_)
      have hj : Rm w9 w.heap.size bd (.slice ua N uc) (ν 7) now (es2 ++ [(⟨(g1, g2), eb, va, vc, eh⟩ : Rs)]) ∧ FR w.heap.size w7 w9 := hJ
      rw [n7] at hj
      have H9 := Lib.hid hj
      clear hJ hj n6 n7 n10
      go_wp2
      rw [wrap_succ HLT.out (by have := HL20.out; unfold maxLen; omega)]
      exact ⟨⟨j + 1, a7, c7, _, HLT.out, rfl, ((HB.out.trans (HB7.out.mono HB.out.size)).trans H9.out.2.below), H9.out.1, by rw [List.length_append, HL2.out]; rfl, by rw [HTK2.out, List.map_append, HS2.out]; rfl⟩, meas_succ HLT.out⟩
    · obtain rfl : j = L := by omega
      have i1 : ¬ ((j : Int) < (j : Int)) := by omega
      clear hlt hj hb
      go_wp2
      go_ret
      exact ⟨bd, rfl, ⟨_, _, _, _, HMR.out.mono HM.out.base, HK.out.of_map (by rw [HS2.out, List.take_of_length_le (by rw [HLL.out]; exact Nat.le_refl _)])⟩, HB.out⟩
end
end Go.Proofs.Ytjeebpklinpmfaa
