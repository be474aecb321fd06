/-
  THE REFERENCE: Texts, Guids, Same (of what is alike), Changes (printed by wip/gen-rce.py).
-/
import Derived.Test.YtjeebpklinpmfaaRcD
import Derived.Test.YtjeebpklinpmfaaChBackP
namespace Go.Proofs.Ytjeebpklinpmfaa
open Go.RowKit Reg Go.WideShapes Go.ChangeShapes

theorem run_neq_gsame (x y : Int) (w : World) : (binOp .neq 33 (.agg #[.int .u64 x, .int .u64 y]) (.agg #[.int .u64 x, .int .u64 y])).run Try.prog w = .ok (.bool false) w := by
  rw [run_neq_guid]
  simp
set_option maxRecDepth 100000 in
theorem textsR_eq (w : World) (u v : Value) (zs : List ByteArray) (hu : InT w u zs) (hv : InT w v zs) : Calls Try.prog 46 #[u, v] w fun e w' => e = .returned (.bool true) ∧ Below w.heap.size w w' := by
  obtain ⟨ua, uc, rfl, -, hx⟩ := hu.open_
  obtain ⟨va, vc, rfl, -, hy⟩ := hv.open_
  have hml : zs.length ≤ maxLen := hu.2.1
  have HX := Lib.hid hx
  have HY := Lib.hid hy
  generalize hn : zs.length = n at *
  have HML := Lib.hid hml
  clear hu hv hx hy hn hml
  go_enter Try.func46, Try.ntmps46
  go_wp2_with fail
  go_loopw [5] (fun i wr => ∃ j : Nat, j ≤ n ∧ i = .int .i64 j ∧ Below w.heap.size w wr) (fun i _ => n - (intOf i).toNat)
  case atStart => exact ⟨0, Nat.zero_le _, rfl, Below.refl _ _⟩
  case round =>
    obtain ⟨j, hj, rfl, hb⟩ := hrel
    have HB := Lib.hid hb
    by_cases hlt : j < n
    · obtain ⟨g, off, rfl, c0⟩ := HX.out j hlt
      obtain ⟨g', off', rfl, d0⟩ := HY.out j hlt
      generalize zs.getD j ByteArray.empty = s at *
      replace c0 := cell_later hb c0
      replace d0 := cell_later hb d0
      have i1 : (j : Int) < (n : Int) := by omega
      have i0 : (0 : Int) ≤ (j : Int) := by omega
      have HLT := Lib.hid hlt
      clear hlt hj hb
      go_wp2_with fail
      go_quiet (fail)
      have HB2 := Lib.hid (below_drewN HB.out nq)
      go_wp2
      clear i1 i0
      rw [wrap_succ HLT.out HML.out]
      exact ⟨⟨j + 1, HLT.out, rfl, HB2.out⟩, meas_succ HLT.out⟩
    · obtain rfl : j = n := by omega
      have i1 : ¬ ((j : Int) < (j : Int)) := by omega
      clear hlt hj hb
      go_wp2
      go_ret
      exact ⟨rfl, HB.out⟩
set_option maxRecDepth 100000 in
theorem guidsR_eq (w : World) (u v : Value) (zs : List Gd) (hu : InG w u zs) (hv : InG w v zs) : Calls Try.prog 48 #[u, v] w fun e w' => e = .returned (.bool true) ∧ Below w.heap.size w w' := by
  obtain ⟨ua, uc, rfl, -, hx⟩ := hu.open_
  obtain ⟨va, vc, rfl, -, hy⟩ := hv.open_
  have hml : zs.length ≤ maxLen := hu.2.1
  have HX := Lib.hid hx
  have HY := Lib.hid hy
  generalize hn : zs.length = n at *
  have HML := Lib.hid hml
  clear hu hv hx hy hn hml
  go_enter Try.func48, Try.ntmps48
  go_wp2_with fail
  go_loopw [5] (fun i wr => ∃ j : Nat, j ≤ n ∧ i = .int .i64 j ∧ Below w.heap.size w wr) (fun i _ => n - (intOf i).toNat)
  case atStart => exact ⟨0, Nat.zero_le _, rfl, Below.refl _ _⟩
  case round =>
    obtain ⟨j, hj, rfl, hb⟩ := hrel
    have HB := Lib.hid hb
    by_cases hlt : j < n
    · obtain ⟨g, off, rfl, c0, c1⟩ := HX.out j hlt
      obtain ⟨g', off', rfl, d0, d1⟩ := HY.out j hlt
      generalize zs.getD j (0, 0) = s at *
      obtain ⟨s1, s2⟩ := s
      replace c0 := cell_later hb c0
      replace d0 := cell_later hb d0
      replace c1 := cell_later hb c1
      replace d1 := cell_later hb d1
      have hneq := run_neq_gsame s1 s2
      have i1 : (j : Int) < (n : Int) := by omega
      have i0 : (0 : Int) ≤ (j : Int) := by omega
      have HLT := Lib.hid hlt
      clear hlt hj hb
      go_wp2_with fail
      go_quiet (fail)
      have HB2 := Lib.hid (below_drewN HB.out nq)
      go_wp2
      clear i1 i0
      rw [wrap_succ HLT.out HML.out]
      exact ⟨⟨j + 1, HLT.out, rfl, HB2.out⟩, meas_succ HLT.out⟩
    · obtain rfl : j = n := by omega
      have i1 : ¬ ((j : Int) < (j : Int)) := by omega
      clear hlt hj hb
      go_wp2
      go_ret
      exact ⟨rfl, HB.out⟩
set_option maxRecDepth 100000 in
theorem sameR_eq (w : World) (u v : Value) (zs : List Cg) (hu : InC w u zs) (hv : InC w v zs) : Calls Try.prog 47 #[u, v] w fun e w' => e = .returned (.bool true) ∧ Below w.heap.size w w' := by
  have hml : zs.length ≤ maxLen := hu.choose_spec.choose_spec.2.1
  obtain ⟨ua, uc, rfl, -, hx⟩ := hu
  obtain ⟨va, vc, rfl, -, hy⟩ := hv
  have HX := Lib.hid hx
  have HY := Lib.hid hy
  generalize hn : zs.length = n at *
  have HML := Lib.hid hml
  clear hx hy hn hml
  go_enter Try.func47, Try.ntmps47
  go_wp2_with fail
  go_loopw [5] (fun i wr => ∃ j : Nat, j ≤ n ∧ i = .int .i64 j ∧ Below w.heap.size w wr) (fun i _ => n - (intOf i).toNat)
  case atStart => exact ⟨0, Nat.zero_le _, rfl, Below.refl _ _⟩
  case round =>
    obtain ⟨j, hj, rfl, hb⟩ := hrel
    have HB := Lib.hid hb
    by_cases hlt : j < n
    · obtain ⟨g, off, rfl, c0, c1⟩ := HX.out j hlt
      obtain ⟨g', off', rfl, d0, d1⟩ := HY.out j hlt
      generalize zs.getD j (0, ByteArray.empty) = s at *
      obtain ⟨s1, s2⟩ := s
      replace c0 := cell_later hb c0
      replace d0 := cell_later hb d0
      replace c1 := cell_later hb c1
      replace d1 := cell_later hb d1
      have hneq := run_neq_same s1 s2
      have i1 : (j : Int) < (n : Int) := by omega
      have i0 : (0 : Int) ≤ (j : Int) := by omega
      have HLT := Lib.hid hlt
      clear hlt hj hb
      go_wp2_with fail
      go_quiet (fail)
      have HB2 := Lib.hid (below_drewN HB.out nq)
      go_wp2
      clear i1 i0
      rw [wrap_succ HLT.out HML.out]
      exact ⟨⟨j + 1, HLT.out, rfl, HB2.out⟩, meas_succ HLT.out⟩
    · obtain rfl : j = n := by omega
      have i1 : ¬ ((j : Int) < (j : Int)) := by omega
      clear hlt hj hb
      go_wp2
      go_ret
      exact ⟨rfl, HB.out⟩

theorem cgAt_empty {a b : Vo} {n i : Nat} (ha : tailE n a) (hb : tailE n b) (hi : n ≤ i) (_ : i < 8) : cgAt a b i = [] := by
  have each : ∀ v : Vo, tailE n v → v.getD i ByteArray.empty = ByteArray.empty := fun v hv => by
    unfold tailE at hv
    have h1 : (v.drop n)[i - n]? = v[i]? := by rw [List.getElem?_drop]; congr 1; omega
    rw [hv, List.getElem?_replicate] at h1
    split at h1
    · simp [← h1]
    · simp [← h1]
  unfold cgAt
  rw [each a ha, each b hb, if_pos ((str_iff _ _).2 rfl)]
theorem chgs_tail {a b : Vo} {n : Nat} (ha : tailE n a) (hb : tailE n b) : ∀ m, n ≤ m → m ≤ 8 → chgs a b m = chgs a b n
  | 0, h, _ => by obtain rfl : n = 0 := by omega
                  rfl
  | m + 1, h, h8 => by
    rcases Nat.eq_or_lt_of_le h with e | e
    · rw [e]
    · rw [chgs_succ, cgAt_empty ha hb (by omega) (by omega), List.append_nil]
      exact chgs_tail ha hb m (by omega) (by omega)
theorem vtake_at {v : Vo} {n i : Nat} (h : i < n) : (v.take n).getD i ByteArray.empty = v.getD i ByteArray.empty := by
  simp [h]
section
variable {w w' : World} {B br : Nat} {nv sv : Value} {now : List ByteArray} {es : List Rs} {C : Ch}
theorem Lk.baseV (k : Lk C now es) (n : Nat) (hn : n < es.length) : wfV (C.baseV n) ∧ tailE C.n (C.baseV n) ∧ wfV (C.snaps.getD n nosn).vol ∧ tailE C.n (C.snaps.getD n nosn).vol := by
  have each : ∀ j, j < es.length → wfV (C.snaps.getD j nosn).vol ∧ tailE C.n (C.snaps.getD j nosn).vol := fun j hj => by
    have h2 : j < C.snaps.length := by rw [← k.elen]; exact hj
    have : C.snaps.getD j nosn = C.snaps[j] := by simp [h2]
    rw [this]
    exact ⟨(k.wf _ (List.getElem_mem h2)).vol, k.ts _ (List.getElem_mem h2)⟩
  refine ⟨?_, ?_, each n hn⟩
  · unfold Ch.baseV
    split
    · exact zeroVo_wf k.n.2
    · exact (each (n - 1) (by omega)).1
  · unfold Ch.baseV
    split
    · exact tail_zero _ k.n.2
    · exact (each (n - 1) (by omega)).2
theorem Rm.bl_at (h : Rm w B br nv sv now es) {j : Nat} (hj : j < es.length) : InT w (es.getD j rs0).iv (es.getD j rs0).bl := by
  have : es.getD j rs0 = es[j] := by simp [hj]
  rw [this]
  exact (h.bl _ (List.getElem_mem hj)).rd
set_option maxRecDepth 100000 in
theorem chgR_bad (h : Rm w B br nv sv now es) (k : Lk C now es) (n : Int) (hn : n < 0 ∨ (C.snaps.length : Int) ≤ n) : Calls Try.prog 45 #[.pointer (some ⟨br, 0, none⟩), .int .i64 n] w (ChgT w (C.chC n) (C.chE n)) := by
  have HR := Lib.hid (show C.chE n = 5 ∧ C.chC n = [] from ⟨by unfold Ch.chE; rw [if_pos hn], by unfold Ch.chC; rw [if_pos hn]⟩)
  obtain ⟨na, nc, sa, sc, rfl, rfl⟩ := h.open_
  have x1 := h.obj.cell 1
  simp at x1
  rw [← k.elen] at hn
  obtain ⟨L, hL⟩ : ∃ L, es.length = L := ⟨_, rfl⟩
  rw [hL] at hn x1
  clear h k hL
  have hs : n < 0 ∨ (0 ≤ n ∧ (L : Int) ≤ n) := by omega
  clear hn
  rcases hs with h1 | ⟨h1, h2⟩
  all_goals
    go_enter Try.func45, Try.ntmps45
    go_wp2
    go_ret2
    exact ⟨_, by rw [HR.out.1]; rfl, by rw [HR.out.2]; exact OwC.nil_ _ _, Below.refl _ _⟩
set_option maxRecDepth 100000 in
set_option maxHeartbeats 1000000 in
theorem chgR_good (h : Rm w B br nv sv now es) (k : Lk C now es) (n : Nat) (hn : n < C.snaps.length) : Calls Try.prog 45 #[.pointer (some ⟨br, 0, none⟩), .int .i64 n] w (ChgT w (C.chC n) (C.chE n)) := by
  have hnn : ¬ ((n : Int) < 0 ∨ (C.snaps.length : Int) ≤ (n : Int)) := by omega
  have hne : n < es.length := by rw [k.elen]; exact hn
  obtain ⟨wb, tb, wn, tn⟩ := k.baseV n hne
  obtain ⟨nv', hnv⟩ : ∃ v, v = (C.snaps.getD n nosn).vol := ⟨_, rfl⟩
  obtain ⟨bv, hbv⟩ : ∃ v, v = C.baseV n := ⟨_, rfl⟩
  rw [← hnv] at wn tn
  rw [← hbv] at wb tb
  have HR := Lib.hid (show C.chE (n : Int) = 0 ∧ C.chC (n : Int) = chgs nv' bv C.n from ⟨by unfold Ch.chE; rw [if_neg hnn], by unfold Ch.chC; rw [if_neg hnn, Int.toNat_natCast, ← hnv, ← hbv]; exact chgs_tail tn tb 8 k.n.2 (Nat.le_refl _)⟩)
  generalize C.chE (n : Int) = ze at *
  generalize C.chC (n : Int) = zC at *
  have hln : (nv'.take C.n).length = C.n := by rw [List.length_take, wn.1]; have := k.n.2; omega
  have hlb : (bv.take C.n).length = C.n := by rw [List.length_take, wb.1]; have := k.n.2; omega
  have hat := k.at_ n hne
  rw [← hnv] at hat
  have hbln := h.bl_at hne
  rw [hat.2.1] at hbln
  obtain ⟨gl, cap, e2, -⟩ := own_block_ h.row (show 0 < es.length by omega)
  subst e2
  obtain ⟨-, -, r2, -⟩ := OwR.at_ h.row n hne
  have hiv : (es.getD n rs0).iv = .slice (es.getD n rs0).a C.n (es.getD n rs0).c := by show Value.slice _ (es.getD n rs0).bl.length _ = _; rw [hat.2.1, hln]
  rw [hiv] at r2 hbln
  generalize (es.getD n rs0).a = nna at *
  generalize (es.getD n rs0).c = nnc at *
  have hprev : 0 < n → ∃ pa pc, w.cell? ⟨gl, (n - 1) * 4 + 2, none⟩ = some (.slice pa C.n pc) ∧ InT w (.slice pa C.n pc) (bv.take C.n) := fun hp => by
    have hm : n - 1 < es.length := by omega
    have hat2 := k.at_ (n - 1) hm
    have h1 := h.bl_at hm
    obtain ⟨-, -, h2, -⟩ := OwR.at_ h.row (n - 1) hm
    have hb2 : (C.snaps.getD (n - 1) nosn).vol = bv := by rw [hbv]; unfold Ch.baseV; rw [if_neg (by omega)]
    rw [hb2] at hat2
    have hiv2 : (es.getD (n - 1) rs0).iv = .slice (es.getD (n - 1) rs0).a C.n (es.getD (n - 1) rs0).c := by show Value.slice _ (es.getD (n - 1) rs0).bl.length _ = _; rw [hat2.2.1, hlb]
    rw [hiv2] at h1 h2
    rw [hat2.2.1] at h1
    exact ⟨_, _, h2, h1⟩
  have hzer : n = 0 → bv.take C.n = List.replicate C.n zB := fun h0 => by rw [hbv]; unfold Ch.baseV; rw [if_pos h0]; exact zero_take _
  have HOB := Lib.hid h.obj
  have HBN := Lib.hid hbln
  have HPV := Lib.hid hprev
  have HZE := Lib.hid hzer
  have HZR := Lib.hid (zerosR_any w C.n k.n.2)
  have HTA := Lib.hid (show ∀ i, i < C.n → (nv'.take C.n).getD i ByteArray.empty = nv'.getD i ByteArray.empty ∧ (bv.take C.n).getD i ByteArray.empty = bv.getD i ByteArray.empty from fun i hi => ⟨vtake_at hi, vtake_at hi⟩)
  have x0 := h.obj.cell 0
  have x1 := h.obj.cell 1
  simp at x0 x1
  obtain ⟨na, nc, e0⟩ := h.now.slice_
  subst e0
  rw [k.nlen] at x0
  obtain ⟨L, hL⟩ : ∃ L, es.length = L := ⟨_, rfl⟩
  rw [hL] at x1 hne
  have hn20 := k.len
  rw [← k.elen, hL] at hn20
  have hn8 := k.n.2
  clear hnv hbv
  generalize hN : C.n = N at *
  have HX := Lib.hid (And.intro x0 x1)
  have HR2 := Lib.hid r2
  have HN8 := Lib.hid (And.intro hn8 (And.intro hln hlb))
  have i1 : (n : Int) < (L : Int) := by omega
  have i0 : (0 : Int) ≤ (n : Int) := by omega
  have HNL := Lib.hid (And.intro i1 i0)
  have HNX := Lib.hid (And.intro hne hn20)
  clear h k hn hnn hne wb tb wn tn hln hlb hat hbln hiv hprev hzer hL hN hn8 r2 hn20 HOB
  go_enter Try.func45, Try.ntmps45
  go_wp2_with fail
  refine HZR.out.mono ?_
  rintro e w1 ⟨zv, rfl, ho, hb⟩
  obtain ⟨za, zc, rfl⟩ := ho.slice_
  rw [List.length_replicate] at ho ⊢
  have HZO := Lib.hid ho.rd
  have HB1 := Lib.hid hb
  replace x1 := cell_later hb x1
  clear ho hb x0 HZR
  rcases Nat.eq_zero_or_pos n with h0 | hp
  rotate_left
  · obtain ⟨pa, pc, p2, hin⟩ := HPV.out hp
    replace p2 := cell_later HB1.out p2
    have HIN := Lib.hid (hin.keep HB1.out)
    have I9 := Lib.hid (show IntKind.i64.wrap ((n : Int) - 1) = ((n - 1 : Nat) : Int) from by rw [IntKind.wrap_i64]; have := HNX.out; omega)
    have i9 := I9.out
    have i3 : decide ((0 : Int) < (n : Int)) = true := decide_eq_true (by omega)
    have i33 : decide (0 < n) = true := decide_eq_true (by omega)
    have i4 : ((n - 1 : Nat) : Int) < (L : Int) := by omega
    have i5 : (0 : Int) ≤ ((n - 1 : Nat) : Int) := by omega
    generalize n - 1 = m at *
    clear hp hin
    go_wp2_with fail
    clear i9 i3 i33 i4 i5 p2 x1 i1 i0
    go_loopw [7, 8] (fun l0 i wr => ∃ j : Nat, j ≤ N ∧ i = .int .i64 j ∧ Below w1.heap.size w1 wr ∧ OwC wr w1.heap.size l0 (chgs nv' bv j)) (fun _ i _ => N - (intOf i).toNat)
    case atStart => exact ⟨0, Nat.zero_le _, rfl, Below.refl _ _, OwC.nil_ _ _⟩
    case round =>
      obtain ⟨j, hj, rfl, hb, ho⟩ := hrel
      obtain ⟨la, lc, rfl⟩ := own_slice ho.1
      generalize (chgs nv' bv j).length = ll at ho ⊢
      have HB := Lib.hid hb
      have HO := Lib.hid ho
      by_cases hlt : j < N
      · have x1 := cell_later (HB1.out.trans (hb.mono HB1.out.size)) HX.out.2
        have r2 := cell_later (HB1.out.trans (hb.mono HB1.out.size)) HR2.out
        obtain ⟨a1, c1, e1, -, hx⟩ := (HBN.out.keep (HB1.out.trans (hb.mono HB1.out.size))).open_
        obtain ⟨a2, c2, e2, -, hy⟩ := (HIN.out.keep hb).open_
        rw [HN8.out.2.1] at e1 hx
        rw [HN8.out.2.2] at e2 hy
        obtain ⟨gn, offn, en, y0⟩ := hx j hlt
        obtain ⟨gb, offb, eb, y1⟩ := hy j hlt
        rw [(HTA.out j hlt).1] at y0
        rw [(HTA.out j hlt).2] at y1
        simp only [Value.slice.injEq] at e1 e2
        obtain ⟨e1, -, -⟩ := e1
        obtain ⟨e2, -, -⟩ := e2
        rw [en] at e1
        rw [eb] at e2
        subst e1
        subst e2
        have hsucc := chgs_succ nv' bv j
        unfold cgAt at hsucc
        have hle := chgs_le nv' bv j
        generalize nv'.getD j ByteArray.empty = ns at *
        generalize bv.getD j ByteArray.empty = bs at *
        have HSU := Lib.hid hsucc
        have i1 := HNL.out.1
        have i0 := HNL.out.2
        have j1 : (j : Int) < (N : Int) := by omega
        have j0 : (0 : Int) ≤ (j : Int) := by omega
        have HLT := Lib.hid hlt
        have HLE := Lib.hid hle
        clear hb ho hj hlt hsucc hle hx hy en eb
        cases hz : (ns.toList == bs.toList) with
        | true =>
          rw [hz] at HSU
          have hzz := (str_iff _ _).1 hz
          subst hzz
          clear hz
          go_wp2_with fail
          go_quiet (fail)
          have HB2 := Lib.hid (And.intro (below_drewN HB.out nq) (show OwC (wr.drewN nq) w1.heap.size (.slice la ll lc) (chgs nv' bv j) from HO.out))
          clear HB HO
          go_wp2
          clear i1 i0 j1 j0
          rw [wrap_succ HLT.out (by have := HN8.out.1; unfold maxLen; omega)]
          exact ⟨⟨j + 1, HLT.out, rfl, HB2.out.1, by rw [HSU.out, if_pos trivial, List.append_nil]; exact HB2.out.2⟩, meas_succ HLT.out⟩
        | false =>
          rw [hz] at HSU
          go_wp2_with fail
          go_quiet (fail)
          have HB2 := Lib.hid (And.intro (below_drewN HB.out nq) (show OwC (wr.drewN nq) w1.heap.size (.slice la ll lc) (chgs nv' bv j) from HO.out))
          replace y0 : (wr.drewN nq).cell? ⟨gn, offn + j, none⟩ = some (.string ns) := y0
          replace x1 : (wr.drewN nq).cell? ⟨br, 1, none⟩ = some (.slice (some ⟨gl, 0, none⟩) L cap) := x1
          replace r2 : (wr.drewN nq).cell? ⟨gl, n * 4 + 2, none⟩ = some (.slice (some ⟨gn, offn, none⟩) N nnc) := r2
          clear HB HO y1
          generalize wr.drewN nq = w5 at *
          have hap := app_chg (w := w5.alloc (.cells #[.int .i64 (j : Int), .string ns] 48)) 37 ((j : Int), ns) w5 _ rfl rfl (HB2.out.2.keep ((Below.refl _ _).alloc (Nat.le_refl _) _)) (by have := HLE.out; have := HLT.out; have := HN8.out.1; omega) (by have := HB2.out.1.size; simp; omega)
          have HA := Lib.hid hap
          have HO2 := Lib.hid (HB2.out.2.keep ((Below.refl _ _).alloc (Nat.le_refl _) (Obj.cells #[.int .i64 (j : Int), .string ns] 48)))
          have HB3 := Lib.hid (HB2.out.1.alloc HB2.out.1.size (Obj.cells #[.int .i64 (j : Int), .string ns] 48))
          clear hap
          go_wp2_with (at_builtin; refine wpList_append_run rfl _ _ 37 rfl _ _ rfl rfl _ HA.out ?_)
          refine Later.mk fun _ _ v' w' hp => ?_
          have HN := Lib.hid (And.intro (HB3.out.trans (hp.below HO2.out HB3.out.size)) hp.1)
          clear hp hz i1 i0 j1 j0 y0 x1 r2 HA
          go_wp2
          rw [wrap_succ HLT.out (by have := HN8.out.1; unfold maxLen; omega)]
          exact ⟨⟨j + 1, HLT.out, rfl, HN.out.1, by rw [HSU.out, if_neg (by decide)]; exact HN.out.2⟩, meas_succ HLT.out⟩
      · obtain rfl : j = N := by omega
        have i1 : ¬ ((j : Int) < (j : Int)) := by omega
        clear hlt hj hb ho
        go_wp2
        go_ret2
        exact ⟨_, by rw [HR.out.1]; rfl, by rw [HR.out.2]; exact HO.out.mono HB1.out.size, HB1.out.trans (HB.out.mono HB1.out.size)⟩
  · have i3 : decide ((0 : Int) < (n : Int)) = false := decide_eq_false (by omega)
    have i33 : decide (0 < n) = false := decide_eq_false (by omega)
    have hz := HZO.out
    rw [← HZE.out h0] at hz
    have HIN := Lib.hid hz
    clear hz h0
    go_wp2_with fail
    clear i3 i33 x1 i1 i0
    go_loopw [7, 8] (fun l0 i wr => ∃ j : Nat, j ≤ N ∧ i = .int .i64 j ∧ Below w1.heap.size w1 wr ∧ OwC wr w1.heap.size l0 (chgs nv' bv j)) (fun _ i _ => N - (intOf i).toNat)
    case atStart => exact ⟨0, Nat.zero_le _, rfl, Below.refl _ _, OwC.nil_ _ _⟩
    case round =>
      obtain ⟨j, hj, rfl, hb, ho⟩ := hrel
      obtain ⟨la, lc, rfl⟩ := own_slice ho.1
      generalize (chgs nv' bv j).length = ll at ho ⊢
      have HB := Lib.hid hb
      have HO := Lib.hid ho
      by_cases hlt : j < N
      · have x1 := cell_later (HB1.out.trans (hb.mono HB1.out.size)) HX.out.2
        have r2 := cell_later (HB1.out.trans (hb.mono HB1.out.size)) HR2.out
        obtain ⟨a1, c1, e1, -, hx⟩ := (HBN.out.keep (HB1.out.trans (hb.mono HB1.out.size))).open_
        obtain ⟨a2, c2, e2, -, hy⟩ := (HIN.out.keep hb).open_
        rw [HN8.out.2.1] at e1 hx
        rw [HN8.out.2.2] at e2 hy
        obtain ⟨gn, offn, en, y0⟩ := hx j hlt
        obtain ⟨gb, offb, eb, y1⟩ := hy j hlt
        rw [(HTA.out j hlt).1] at y0
        rw [(HTA.out j hlt).2] at y1
        simp only [Value.slice.injEq] at e1 e2
        obtain ⟨e1, -, -⟩ := e1
        obtain ⟨e2, -, -⟩ := e2
        rw [en] at e1
        rw [eb] at e2
        subst e1
        subst e2
        have hsucc := chgs_succ nv' bv j
        unfold cgAt at hsucc
        have hle := chgs_le nv' bv j
        generalize nv'.getD j ByteArray.empty = ns at *
        generalize bv.getD j ByteArray.empty = bs at *
        have HSU := Lib.hid hsucc
        have i1 := HNL.out.1
        have i0 := HNL.out.2
        have j1 : (j : Int) < (N : Int) := by omega
        have j0 : (0 : Int) ≤ (j : Int) := by omega
        have HLT := Lib.hid hlt
        have HLE := Lib.hid hle
        clear hb ho hj hlt hsucc hle hx hy en eb
        cases hz : (ns.toList == bs.toList) with
        | true =>
          rw [hz] at HSU
          have hzz := (str_iff _ _).1 hz
          subst hzz
          clear hz
          go_wp2_with fail
          go_quiet (fail)
          have HB2 := Lib.hid (And.intro (below_drewN HB.out nq) (show OwC (wr.drewN nq) w1.heap.size (.slice la ll lc) (chgs nv' bv j) from HO.out))
          clear HB HO
          go_wp2
          clear i1 i0 j1 j0
          rw [wrap_succ HLT.out (by have := HN8.out.1; unfold maxLen; omega)]
          exact ⟨⟨j + 1, HLT.out, rfl, HB2.out.1, by rw [HSU.out, if_pos trivial, List.append_nil]; exact HB2.out.2⟩, meas_succ HLT.out⟩
        | false =>
          rw [hz] at HSU
          go_wp2_with fail
          go_quiet (fail)
          have HB2 := Lib.hid (And.intro (below_drewN HB.out nq) (show OwC (wr.drewN nq) w1.heap.size (.slice la ll lc) (chgs nv' bv j) from HO.out))
          replace y0 : (wr.drewN nq).cell? ⟨gn, offn + j, none⟩ = some (.string ns) := y0
          replace x1 : (wr.drewN nq).cell? ⟨br, 1, none⟩ = some (.slice (some ⟨gl, 0, none⟩) L cap) := x1
          replace r2 : (wr.drewN nq).cell? ⟨gl, n * 4 + 2, none⟩ = some (.slice (some ⟨gn, offn, none⟩) N nnc) := r2
          clear HB HO y1
          generalize wr.drewN nq = w5 at *
          have hap := app_chg (w := w5.alloc (.cells #[.int .i64 (j : Int), .string ns] 48)) 37 ((j : Int), ns) w5 _ rfl rfl (HB2.out.2.keep ((Below.refl _ _).alloc (Nat.le_refl _) _)) (by have := HLE.out; have := HLT.out; have := HN8.out.1; omega) (by have := HB2.out.1.size; simp; omega)
          have HA := Lib.hid hap
          have HO2 := Lib.hid (HB2.out.2.keep ((Below.refl _ _).alloc (Nat.le_refl _) (Obj.cells #[.int .i64 (j : Int), .string ns] 48)))
          have HB3 := Lib.hid (HB2.out.1.alloc HB2.out.1.size (Obj.cells #[.int .i64 (j : Int), .string ns] 48))
          clear hap
          go_wp2_with (at_builtin; refine wpList_append_run rfl _ _ 37 rfl _ _ rfl rfl _ HA.out ?_)
          refine Later.mk fun _ _ v' w' hp => ?_
          have HN := Lib.hid (And.intro (HB3.out.trans (hp.below HO2.out HB3.out.size)) hp.1)
          clear hp hz i1 i0 j1 j0 y0 x1 r2 HA
          go_wp2
          rw [wrap_succ HLT.out (by have := HN8.out.1; unfold maxLen; omega)]
          exact ⟨⟨j + 1, HLT.out, rfl, HN.out.1, by rw [HSU.out, if_neg (by decide)]; exact HN.out.2⟩, meas_succ HLT.out⟩
      · obtain rfl : j = N := by omega
        have i1 : ¬ ((j : Int) < (j : Int)) := by omega
        clear hlt hj hb ho
        go_wp2
        go_ret2
        exact ⟨_, by rw [HR.out.1]; rfl, by rw [HR.out.2]; exact HO.out.mono HB1.out.size, HB1.out.trans (HB.out.mono HB1.out.size)⟩
theorem chgR_any (h : Rm w B br nv sv now es) (k : Lk C now es) (n : Int) : Calls Try.prog 45 #[.pointer (some ⟨br, 0, none⟩), .int .i64 n] w (ChgT w (C.chC n) (C.chE n)) := by
  by_cases hn : n < 0 ∨ (C.snaps.length : Int) ≤ n
  · exact chgR_bad h k n hn
  · obtain ⟨m, rfl⟩ : ∃ m : Nat, n = m := ⟨n.toNat, by omega⟩
    exact chgR_good h k m (by omega)
end
end Go.Proofs.Ytjeebpklinpmfaa
