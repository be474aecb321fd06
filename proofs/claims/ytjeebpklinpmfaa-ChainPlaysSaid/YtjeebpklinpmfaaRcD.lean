/-
  THE REFERENCE'S CHAIN: Rollback, find, Hide, Read, List (printed by wip/gen-rcd.py).
-/
import Derived.Test.YtjeebpklinpmfaaRcC
import Derived.BigQuiet
namespace Go.Proofs.Ytjeebpklinpmfaa
open Go.RowKit Reg Go.WideShapes Go.ChangeShapes

section
variable {w w' : World} {B br : Nat} {nv sv : Value} {now : List ByteArray} {es : List Rs} {C : Ch}
theorem OwR.cap {a : Option Addr} {n c : Nat} (h : OwR w B (.slice a n c) es) : es.length ≤ c := by
  rcases h.2 with ⟨e, h0⟩ | ⟨g, cap, cur, e, hg, hh, hc, hx, hs, ht⟩
  · omega
  · simp only [Value.slice.injEq] at e
    obtain ⟨-, -, rfl⟩ := e
    exact hc
theorem Rm.setSv (h : Rm w B br nv sv now es) {sv' : Value} {es' : List Rs} (hp : OwR w B sv' es') (hs : ∀ e ∈ es', e ∈ es) :
    Rm (w.setCell ⟨br, 1, none⟩ sv') B br nv sv' now es' ∧ FR B w (w.setCell ⟨br, 1, none⟩ sv') := by
  have hk := kp_cell w br 1 sv'
  exact ⟨⟨h.obj.set 1 _, h.now.kp hk (fun b hb e => own_ne h.now.1 h.obj (by decide) hb e), own_kp hk hp (fun b hb e => own_ne hp h.obj (by decide) hb e), fun e he => (h.bl e (hs e he)).kp hk (fun b hb e2 => own_ne (h.bl e (hs e he)).1 h.obj (by decide) hb e2), fun e he => h.ap e (hs e he), h.br⟩, FR.of_kp hk h.obj (.inl rfl) h.br⟩
theorem Rm.setNv (h : Rm w B br nv sv now es) {nv' : Value} {now' : List ByteArray} (hp : OwT w B nv' now') (ha : ∀ e ∈ es, Apart nv' e.iv) :
    Rm (w.setCell ⟨br, 0, none⟩ nv') B br nv' sv now' es ∧ FR B w (w.setCell ⟨br, 0, none⟩ nv') := by
  have hk := kp_cell w br 0 nv'
  exact ⟨⟨h.obj.set 0 _, hp.kp hk (fun b hb e => own_ne hp.1 h.obj (by decide) hb e), own_kp hk h.row (fun b hb e => own_ne h.row h.obj (by decide) hb e), fun e he => (h.bl e he).kp hk (fun b hb e2 => own_ne (h.bl e he).1 h.obj (by decide) hb e2), ha, h.br⟩, FR.of_kp hk h.obj (.inl rfl) h.br⟩
theorem Lk.cut (k : Lk C now es) (n : Nat) : Lk (C.cut n) now (es.take n) := by
  refine ⟨k.n, k.live, fun s hs => k.wf s (List.mem_of_mem_take hs), ?_, k.now, ?_, k.tl, fun s hs => k.ts s (List.mem_of_mem_take hs)⟩
  · show (C.snaps.take n).length ≤ 20
    rw [List.length_take]
    have := k.len
    omega
  · show (es.take n).map _ = (C.snaps.take n).map _
    rw [List.map_take, List.map_take, k.sn]
    rfl
theorem Lk.last_wf (k : Lk C now es) : wfV C.last.vol ∧ tailE C.n C.last.vol := by
  unfold Ch.last
  by_cases h : C.snaps.length = 0
  · rw [if_pos h]
    exact ⟨zeroVo_wf k.n.2, tail_zero _ k.n.2⟩
  · rw [if_neg h]
    refine ⟨(wf_getD k.wf _).vol, ?_⟩
    have hl : C.snaps.length - 1 < C.snaps.length := by omega
    have : C.snaps.getD (C.snaps.length - 1) nosn = C.snaps[C.snaps.length - 1] := by simp [hl]
    rw [this]
    exact k.ts _ (List.getElem_mem _)
theorem Lk.relive (k : Lk C now es) {v : Vo} (hv : wfV v) (ht : tailE C.n v) : Lk { C with live := v } (v.take C.n) es := ⟨k.n, hv, k.wf, k.len, rfl, k.sn, ht, k.ts⟩
set_option maxRecDepth 100000 in
theorem rollR_bad (h : Rm w B br nv sv now es) (k : Lk C now es) (n : Int) (hn : n < 0 ∨ (C.snaps.length : Int) < n) : Calls Try.prog 41 #[.pointer (some ⟨br, 0, none⟩), .int .i64 n] w (StR w B br (C.rollE n) (C.roll n)) := by
  have HR := Lib.hid (show C.rollE n = 2 ∧ C.roll n = C from ⟨by unfold Ch.rollE; rw [if_pos hn], by unfold Ch.roll; rw [if_pos hn]⟩)
  have HC := Lib.hid (And.intro h k)
  obtain ⟨na, nc, sa, sc, rfl, rfl⟩ := h.open_
  have x1 := h.obj.cell 1
  simp at x1
  rw [← k.elen] at hn
  obtain ⟨L, hL⟩ : ∃ L, es.length = L := ⟨_, rfl⟩
  rw [hL] at hn x1
  clear h k hL
  have hs : n < 0 ∨ (0 ≤ n ∧ (L : Int) < n) := by omega
  clear hn
  rcases hs with h1 | ⟨h1, h2⟩
  all_goals
    go_enter Try.func41, Try.ntmps41
    go_wp2
    go_ret
    exact ⟨by rw [HR.out.1]; rfl, by rw [HR.out.2]; exact ⟨_, _, _, _, HC.out.1, HC.out.2⟩, FR.refl _ _⟩
set_option maxRecDepth 100000 in
theorem rollR_good (h : Rm w B br nv sv now es) (k : Lk C now es) (n : Nat) (hn : n ≤ C.snaps.length) : Calls Try.prog 41 #[.pointer (some ⟨br, 0, none⟩), .int .i64 n] w (StR w B br (C.rollE n) (C.roll n)) := by
  have hnn : ¬ ((n : Int) < 0 ∨ (C.snaps.length : Int) < (n : Int)) := by omega
  have HR := Lib.hid (show C.rollE n = 0 ∧ C.roll n = { C.cut n with live := (C.cut n).last.vol } from ⟨by unfold Ch.rollE; rw [if_neg hnn], by unfold Ch.roll; rw [if_neg hnn]; rfl⟩)
  obtain ⟨na, nc, sa, sc, rfl, rfl⟩ := h.open_
  have x1 := h.obj.cell 1
  have f1 := h.obj.frozen 1
  simp at x1
  have hel : n ≤ es.length := by rw [k.elen]; exact hn
  have hcap := OwR.cap h.row
  obtain ⟨hm1, hf1⟩ := h.setSv (OwR.cut h.row hel) (fun e he => List.mem_of_mem_take he)
  have hk1 := k.cut n
  have HBA := Lib.hid (baseR_any hm1 hk1)
  have HM := Lib.hid hm1
  have HK := Lib.hid hk1
  have HF := Lib.hid hf1
  obtain ⟨L, hL⟩ : ∃ L, es.length = L := ⟨_, rfl⟩
  obtain ⟨N, hN⟩ : ∃ N, now.length = N := ⟨_, rfl⟩
  rw [hL] at x1 hel hcap
  rw [hN] at HM
  have i1 : ¬ ((n : Int) < 0) := by omega
  have i2 : ¬ ((L : Int) < (n : Int)) := by omega
  have hnc : n ≤ sc := by omega
  have i3 : (n : Int) ≤ (sc : Int) := by omega
  clear h k hnn hn hm1 hf1 hk1 hL hN hel hcap
  go_enter Try.func41, Try.ntmps41
  go_wp2_with fail
  generalize w.setCell ⟨br, 1, none⟩ (.slice sa n sc) = w1 at *
  refine HBA.out.mono ?_
  rintro e w2 ⟨u, rfl, ho, hb⟩
  have hm2 := HM.out.keep hb
  have y0 := hm2.obj.cell 0
  have y1 := hm2.obj.frozen 0
  simp at y0
  obtain ⟨hm3, hf3⟩ := hm2.setNv (ho.mono HM.out.base) (fun e he => fun b hb1 hb2 => by
    have h1 := own_from ho.1 hb1
    have h2 := own_in (HM.out.bl e he).1 hb2
    omega)
  obtain ⟨ua, uc, rfl⟩ := ho.slice_
  have H9 := Lib.hid (And.intro hm3 ((HF.out.trans (FR.of_below hb HM.out.base)).trans hf3))
  generalize (List.take (C.cut n).n (C.cut n).last.vol).length = UL at *
  clear ho hb hm2 hm3 hf3 x1 f1 i1 i2 i3 hnc HBA HM HF
  go_wp2
  go_ret
  exact ⟨by rw [HR.out.1]; rfl, ⟨_, _, _, _, H9.out.1, by rw [HR.out.2]; exact HK.out.relive HK.out.last_wf.1 HK.out.last_wf.2⟩, H9.out.2⟩
theorem rollR_any (h : Rm w B br nv sv now es) (k : Lk C now es) (n : Int) : Calls Try.prog 41 #[.pointer (some ⟨br, 0, none⟩), .int .i64 n] w (StR w B br (C.rollE n) (C.roll n)) := by
  by_cases hn : n < 0 ∨ (C.snaps.length : Int) < n
  · exact rollR_bad h k n hn
  · obtain ⟨m, rfl⟩ : ∃ m : Nat, n = m := ⟨n.toNat, by omega⟩
    exact rollR_good h k m (by omega)
/-- what find answers -/
def FiR (w : World) (C : Ch) (g : Gd) (e : Ending) (w' : World) : Prop := ∃ i : Int, e = .returned (.tuple #[.int .i64 i, .int .i64 (C.findE g)]) ∧ (C.findE g = 0 → i = (ixS C.snaps g : Nat)) ∧ Below w.heap.size w w'
set_option maxRecDepth 100000 in
set_option maxHeartbeats 1000000 in
theorem findR_any (h : Rm w B br nv sv now es) (k : Lk C now es) (g : Gd) : Calls Try.prog 57 #[.pointer (some ⟨br, 0, none⟩), aggG g] w (FiR w C g) := by
  have hb0 := (Below.refl w.heap.size w).alloc (Nat.le_refl _) (Obj.cells #[.int .u64 g.1, .int .u64 g.2] 33)
  have h1 := h.keep hb0
  obtain ⟨na, nc, sa, sc, rfl, rfl⟩ := h.open_
  have HM := Lib.hid h1
  have HB := Lib.hid hb0
  have HX := Lib.hid (Blk.new w 33 #[.int .u64 g.1, .int .u64 g.2])
  have hat := fun j hj => k.at_ j hj
  have hfe : C.findE g = if ixS C.snaps g < es.length then (if (C.snaps.getD (ixS C.snaps g) nosn).hid = true then 14 else 0) else 5 := by unfold Ch.findE; rw [k.elen]
  have hix1 : ∀ j, j < es.length → (∀ i, i < j → sameG (es.getD i rs0).g g = false) → sameG (es.getD j rs0).g g = true → ixS C.snaps g = j := fun j hj h1 h2 =>
    ixS_at (by rw [← k.elen]; exact hj) (fun i hi => by rw [← (hat i (by omega)).1]; exact h1 i hi) (by rw [← (hat j hj).1]; exact h2)
  have hix2 : (∀ i, i < es.length → sameG (es.getD i rs0).g g = false) → ixS C.snaps g = es.length := fun h1 => by
    rw [k.elen]
    exact ixS_none fun i hi => by rw [← (hat i (by rw [k.elen]; exact hi)).1]; exact h1 i (by rw [k.elen]; exact hi)
  have hlen := k.len
  rw [← k.elen] at hlen
  have HPO := Lib.hid (fun e w' => show (∃ i : Int, e = .returned (.tuple #[.int .i64 i, .int .i64 (C.findE g)]) ∧ (C.findE g = 0 → i = (ixS C.snaps g : Nat)) ∧ Below w.heap.size w w') → FiR w C g e w' from fun h => h)
  have HAT := Lib.hid hat
  have HFE := Lib.hid hfe
  have HI1 := Lib.hid hix1
  have HI2 := Lib.hid hix2
  obtain ⟨L, hL⟩ : ∃ L, es.length = L := ⟨_, rfl⟩
  obtain ⟨N, hN⟩ : ∃ N, now.length = N := ⟨_, rfl⟩
  rw [hL] at HM HAT HFE HI1 HI2 hlen
  rw [hN] at HM
  have HLL := Lib.hid hlen
  clear h k hb0 h1 hat hfe hix1 hix2 hL hN hlen
  unfold aggG
  go_enter Try.func57, Try.ntmps57
  go_wp2_with fail
  generalize w.alloc (Obj.cells #[.int .u64 g.1, .int .u64 g.2] 33) = w0 at *
  go_loopw [6] (fun i wr => ∃ j : Nat, j ≤ L ∧ i = .int .i64 j ∧ Below w0.heap.size w0 wr ∧ ∀ i, i < j → sameG (es.getD i rs0).g g = false) (fun i _ => L - (intOf i).toNat)
  case atStart => exact ⟨0, Nat.zero_le _, rfl, Below.refl _ _, fun i hi => by omega⟩
  case round =>
    obtain ⟨j, hj, rfl, hb, hno⟩ := hrel
    have hm := HM.out.keep hb
    have HMR := Lib.hid hm
    have HNO := Lib.hid hno
    have HBR := Lib.hid hb
    have x1 := hm.obj.cell 1
    simp at x1
    have y0 := (HX.out.keep hb).cell 0
    have y1 := (HX.out.keep hb).cell 1
    simp at y0 y1
    clear hb hno
    by_cases hlt : j < L
    · have HLT := Lib.hid hlt
      obtain ⟨gl, cap, e2, -⟩ := own_block_ hm.row (show 0 < es.length from Nat.lt_of_le_of_lt (Nat.zero_le _) (by have hh := hm.row; obtain ⟨_, _, e⟩ := own_slice hh; simp only [Value.slice.injEq] at e; rw [← e.2.1]; exact hlt))
      simp only [Value.slice.injEq] at e2
      obtain ⟨rfl, e3, rfl⟩ := e2
      have hat := OwR.at_ hm.row j (by rw [← e3]; exact hlt)
      have HA2 := Lib.hid (HAT.out j hlt)
      have HS1 := Lib.hid (fun hs => HI1.out j hlt HNO.out hs)
      have hse : ∀ x, es.getD j rs0 = x → sameG (es.getD j rs0).g g = sameG x.g g := fun x hx => by rw [hx]
      generalize hx : es.getD j rs0 = ex at hat HA2 HS1
      have HSE := Lib.hid (hse ex hx)
      clear hse hx
      obtain ⟨⟨g1, g2⟩, eb, ea, ec, eh⟩ := ex
      obtain ⟨r0, r1, -, r3⟩ := hat
      have heq := fun w => run_eq_guid g1 g2 g.1 g.2 w
      have i1 : (j : Int) < (L : Int) := by omega
      have i0 : (0 : Int) ≤ (j : Int) := by omega
      have HBI := Lib.hid (And.intro i1 i0)
      clear hj hlt hm e3
      go_wp2_with fail
      cases hsg : sameG (g1, g2) g with
      | true =>
        have heq2 : ∀ w, (binOp .eql 33 (.agg #[.int .u64 g1, .int .u64 g2]) (.agg #[.int .u64 g.1, .int .u64 g.2])).run Try.prog w = .ok (.bool true) w := fun w => (heq w).trans (congrArg (fun b => Result.ok (Value.bool b) w) hsg)
        clear heq
        refine wp_region_chain [] (kv []) (fun _ w2 => Below wr.heap.size wr w2) (by kernel_rfl) (by kernel_rfl) (by kernel_rfl) (kv_inh _) (Below.drew (Below.refl _ _)) ?_
        intro ν hν
        skip
        clear hν
        refine ch_plain 0 0 6 (by rfl) rfl (by kernel_rfl) (by kernel_rfl) ?_
        apply Exists.intro
        refine ⟨fun st w2 hlo hhi hJ => ?_, ?_⟩
        · clear hlo hhi hJ
          go_simp
          exact And.intro rfl rfl
        simp only [Act.put, List.setIfInBounds_toArray, List.set_cons_succ, List.set_cons_zero, Nat.reduceAdd]
        refine ch_plain 0 0 6 (by rfl) rfl (by kernel_rfl) (by kernel_rfl) ?_
        apply Exists.intro
        refine ⟨fun st w2 hlo hhi hJ => ?_, ?_⟩
        · clear hlo hhi hJ
          go_simp
          exact And.intro rfl rfl
        simp only [Act.put, List.setIfInBounds_toArray, List.set_cons_succ, List.set_cons_zero, Nat.reduceAdd]
        refine ch_plain 0 0 6 (by rfl) rfl (by kernel_rfl) (by kernel_rfl) ?_
        apply Exists.intro
        refine ⟨fun st w2 hlo hhi hJ => ?_, ?_⟩
        · clear hlo hhi hJ
          go_simp
          exact And.intro rfl rfl
        simp only [Act.put, List.setIfInBounds_toArray, List.set_cons_succ, List.set_cons_zero, Nat.reduceAdd]
        refine ch_plain 0 0 6 (by rfl) rfl (by kernel_rfl) (by kernel_rfl) ?_
        apply Exists.intro
        refine ⟨fun st w2 hlo hhi hJ => ?_, ?_⟩
        · have hj : Below wr.heap.size wr w2 := hJ
          have z1 := cell_later hj x1
          clear hj
          clear hlo hhi hJ
          go_simp
          exact And.intro rfl rfl
        simp only [Act.put, List.setIfInBounds_toArray, List.set_cons_succ, List.set_cons_zero, Nat.reduceAdd]
        refine ch_plain 0 0 6 (by rfl) rfl (by kernel_rfl) (by kernel_rfl) ?_
        apply Exists.intro
        refine ⟨fun st w2 hlo hhi hJ => ?_, ?_⟩
        · clear hlo hhi hJ
          go_simp
          exact And.intro rfl rfl
        simp only [Act.put, List.setIfInBounds_toArray, List.set_cons_succ, List.set_cons_zero, Nat.reduceAdd]
        refine ch_plain 0 0 6 (by rfl) rfl (by kernel_rfl) (by kernel_rfl) ?_
        apply Exists.intro
        refine ⟨fun st w2 hlo hhi hJ => ?_, ?_⟩
        · have hj : Below wr.heap.size wr w2 := hJ
          have z2 := HBI.out.1
          have z3 := HBI.out.2
          clear hj
          clear hlo hhi hJ
          go_simp
          exact And.intro rfl rfl
        simp only [Act.put, List.setIfInBounds_toArray, List.set_cons_succ, List.set_cons_zero, Nat.reduceAdd]
        refine ch_plain 0 0 6 (by rfl) rfl (by kernel_rfl) (by kernel_rfl) ?_
        apply Exists.intro
        refine ⟨fun st w2 hlo hhi hJ => ?_, ?_⟩
        · clear hlo hhi hJ
          go_simp
          exact And.intro rfl rfl
        simp only [Act.put, List.setIfInBounds_toArray, List.set_cons_succ, List.set_cons_zero, Nat.reduceAdd]
        refine ch_plain 0 0 6 (by rfl) rfl (by kernel_rfl) (by kernel_rfl) ?_
        apply Exists.intro
        refine ⟨fun st w2 hlo hhi hJ => ?_, ?_⟩
        · have hj : Below wr.heap.size wr w2 := hJ
          have z4 := cell_later hj r0
          have z5 := cell_later hj r1
          clear hj
          clear hlo hhi hJ
          go_simp
          exact And.intro rfl rfl
        simp only [Act.put, List.setIfInBounds_toArray, List.set_cons_succ, List.set_cons_zero, Nat.reduceAdd]
        refine ch_plain 0 0 6 (by rfl) rfl (by kernel_rfl) (by kernel_rfl) ?_
        apply Exists.intro
        refine ⟨fun st w2 hlo hhi hJ => ?_, ?_⟩
        · have hj : Below wr.heap.size wr w2 := hJ
          have z6 := cell_later hj y0
          have z7 := cell_later hj y1
          clear hj
          clear hlo hhi hJ
          go_simp
          exact And.intro rfl rfl
        simp only [Act.put, List.setIfInBounds_toArray, List.set_cons_succ, List.set_cons_zero, Nat.reduceAdd]
        refine ch_plain 0 0 6 (by rfl) rfl (by kernel_rfl) (by kernel_rfl) ?_
        apply Exists.intro
        refine ⟨fun st w2 hlo hhi hJ => ?_, ?_⟩
        · have hj : Below wr.heap.size wr w2 := hJ
          have z8 := heq2
          clear hj
          clear hlo hhi hJ
          go_simp
          exact And.intro rfl rfl
        simp only [Act.put, Nat.reduceAdd]
        refine ch_nil (fun w7 hJ => ?_)
        have hb7 : Below wr.heap.size wr w7 := hJ
        clear hJ
        have HB7 := Lib.hid (HBR.out.trans (hb7.mono HBR.out.size))
        replace x1 := cell_later hb7 x1
        replace r3 := cell_later hb7 r3
        have hix := HS1.out hsg
        have HFX := Lib.hid (show C.findE g = if eh = true then 14 else 0 from by rw [HFE.out, hix, if_pos HLT.out, ← HA2.out.2.2])
        have HIX := Lib.hid hix
        clear hsg hix HS1 hb7 r0 r1 y0 y1 heq2 HMR
        cases eh with
        | true =>
          go_wp2
          go_ret2
          exact HPO.out _ _ ⟨j, by rw [HFX.out]; rfl, (fun h => by rw [HFX.out] at h; cases h), HB.out.trans (HB7.out.mono HB.out.size)⟩
        | false =>
          go_wp2
          go_ret2
          exact HPO.out _ _ ⟨j, by rw [HFX.out]; rfl, (fun _ => by rw [HIX.out]), HB.out.trans (HB7.out.mono HB.out.size)⟩
      | false =>
        have heq2 : ∀ w, (binOp .eql 33 (.agg #[.int .u64 g1, .int .u64 g2]) (.agg #[.int .u64 g.1, .int .u64 g.2])).run Try.prog w = .ok (.bool false) w := fun w => (heq w).trans (congrArg (fun b => Result.ok (Value.bool b) w) hsg)
        clear heq
        refine wp_region_chain [] (kv []) (fun _ w2 => Below wr.heap.size wr w2) (by kernel_rfl) (by kernel_rfl) (by kernel_rfl) (kv_inh _) (Below.drew (Below.refl _ _)) ?_
        intro ν hν
        skip
        clear hν
        refine ch_plain 0 0 6 (by rfl) rfl (by kernel_rfl) (by kernel_rfl) ?_
        apply Exists.intro
        refine ⟨fun st w2 hlo hhi hJ => ?_, ?_⟩
        · clear hlo hhi hJ
          go_simp
          exact And.intro rfl rfl
        simp only [Act.put, List.setIfInBounds_toArray, List.set_cons_succ, List.set_cons_zero, Nat.reduceAdd]
        refine ch_plain 0 0 6 (by rfl) rfl (by kernel_rfl) (by kernel_rfl) ?_
        apply Exists.intro
        refine ⟨fun st w2 hlo hhi hJ => ?_, ?_⟩
        · clear hlo hhi hJ
          go_simp
          exact And.intro rfl rfl
        simp only [Act.put, List.setIfInBounds_toArray, List.set_cons_succ, List.set_cons_zero, Nat.reduceAdd]
        refine ch_plain 0 0 6 (by rfl) rfl (by kernel_rfl) (by kernel_rfl) ?_
        apply Exists.intro
        refine ⟨fun st w2 hlo hhi hJ => ?_, ?_⟩
        · clear hlo hhi hJ
          go_simp
          exact And.intro rfl rfl
        simp only [Act.put, List.setIfInBounds_toArray, List.set_cons_succ, List.set_cons_zero, Nat.reduceAdd]
        refine ch_plain 0 0 6 (by rfl) rfl (by kernel_rfl) (by kernel_rfl) ?_
        apply Exists.intro
        refine ⟨fun st w2 hlo hhi hJ => ?_, ?_⟩
        · have hj : Below wr.heap.size wr w2 := hJ
          have z1 := cell_later hj x1
          clear hj
          clear hlo hhi hJ
          go_simp
          exact And.intro rfl rfl
        simp only [Act.put, List.setIfInBounds_toArray, List.set_cons_succ, List.set_cons_zero, Nat.reduceAdd]
        refine ch_plain 0 0 6 (by rfl) rfl (by kernel_rfl) (by kernel_rfl) ?_
        apply Exists.intro
        refine ⟨fun st w2 hlo hhi hJ => ?_, ?_⟩
        · clear hlo hhi hJ
          go_simp
          exact And.intro rfl rfl
        simp only [Act.put, List.setIfInBounds_toArray, List.set_cons_succ, List.set_cons_zero, Nat.reduceAdd]
        refine ch_plain 0 0 6 (by rfl) rfl (by kernel_rfl) (by kernel_rfl) ?_
        apply Exists.intro
        refine ⟨fun st w2 hlo hhi hJ => ?_, ?_⟩
        · have hj : Below wr.heap.size wr w2 := hJ
          have z2 := HBI.out.1
          have z3 := HBI.out.2
          clear hj
          clear hlo hhi hJ
          go_simp
          exact And.intro rfl rfl
        simp only [Act.put, List.setIfInBounds_toArray, List.set_cons_succ, List.set_cons_zero, Nat.reduceAdd]
        refine ch_plain 0 0 6 (by rfl) rfl (by kernel_rfl) (by kernel_rfl) ?_
        apply Exists.intro
        refine ⟨fun st w2 hlo hhi hJ => ?_, ?_⟩
        · clear hlo hhi hJ
          go_simp
          exact And.intro rfl rfl
        simp only [Act.put, List.setIfInBounds_toArray, List.set_cons_succ, List.set_cons_zero, Nat.reduceAdd]
        refine ch_plain 0 0 6 (by rfl) rfl (by kernel_rfl) (by kernel_rfl) ?_
        apply Exists.intro
        refine ⟨fun st w2 hlo hhi hJ => ?_, ?_⟩
        · have hj : Below wr.heap.size wr w2 := hJ
          have z4 := cell_later hj r0
          have z5 := cell_later hj r1
          clear hj
          clear hlo hhi hJ
          go_simp
          exact And.intro rfl rfl
        simp only [Act.put, List.setIfInBounds_toArray, List.set_cons_succ, List.set_cons_zero, Nat.reduceAdd]
        refine ch_plain 0 0 6 (by rfl) rfl (by kernel_rfl) (by kernel_rfl) ?_
        apply Exists.intro
        refine ⟨fun st w2 hlo hhi hJ => ?_, ?_⟩
        · have hj : Below wr.heap.size wr w2 := hJ
          have z6 := cell_later hj y0
          have z7 := cell_later hj y1
          clear hj
          clear hlo hhi hJ
          go_simp
          exact And.intro rfl rfl
        simp only [Act.put, List.setIfInBounds_toArray, List.set_cons_succ, List.set_cons_zero, Nat.reduceAdd]
        refine ch_plain 0 0 6 (by rfl) rfl (by kernel_rfl) (by kernel_rfl) ?_
        apply Exists.intro
        refine ⟨fun st w2 hlo hhi hJ => ?_, ?_⟩
        · have hj : Below wr.heap.size wr w2 := hJ
          have z8 := heq2
          clear hj
          clear hlo hhi hJ
          go_simp
          exact And.intro rfl rfl
        simp only [Act.put, Nat.reduceAdd]
        refine ch_nil (fun w7 hJ => ?_)
        have hb7 : Below wr.heap.size wr w7 := hJ
        clear hJ
        have HB7 := Lib.hid (HBR.out.trans (hb7.mono HBR.out.size))
        have HSG := Lib.hid hsg
        clear hsg HS1 hb7 r0 r1 r3 y0 y1 heq2 HMR x1
        go_wp2
        rw [wrap_succ HLT.out (by have := HLL.out; unfold maxLen; omega)]
        refine ⟨⟨j + 1, HLT.out, rfl, HB7.out, fun i hi => ?_⟩, meas_succ HLT.out⟩
        rcases Nat.lt_or_ge i j with q | q
        · exact HNO.out i q
        · obtain rfl : i = j := by omega
          exact HSE.out.trans HSG.out
    · obtain rfl : j = L := by omega
      have hix := HI2.out HNO.out
      have HFX := Lib.hid (show C.findE g = 5 from by rw [HFE.out, hix, if_neg (Nat.lt_irrefl _)])
      clear hj hlt hm hix y0 y1
      go_wp2
      go_ret2
      exact HPO.out _ _ ⟨0, by rw [HFX.out]; rfl, (fun h => by rw [HFX.out] at h; cases h), HB.out.trans (HBR.out.mono HB.out.size)⟩
theorem Rm.hide (h : Rm w B br nv sv now es) {gl n cap : Nat} (hs : sv = .slice (some ⟨gl, 0, none⟩) n cap) (j : Nat) (hj : j < es.length) :
    Rm (w.setCell ⟨gl, j * 4 + 3, none⟩ (.bool true)) B br nv sv now (es.set j { es.getD j rs0 with hid := true }) ∧ FR B w (w.setCell ⟨gl, j * 4 + 3, none⟩ (.bool true)) := by
  subst hs
  have hk := kp_cell w gl (j * 4 + 3) (.bool true)
  have hob : (Value.slice (some ⟨gl, 0, none⟩) n cap).ownBlock = some gl := rfl
  obtain ⟨cs, hcs⟩ := own_cells h.row hob
  have hmem : es.getD j rs0 ∈ es := by
    have : es.getD j rs0 = es[j] := by simp [hj]
    rw [this]
    exact List.getElem_mem hj
  have each : ∀ e ∈ es.set j { es.getD j rs0 with hid := true }, ∃ e' ∈ es, e.iv = e'.iv ∧ e.bl = e'.bl := fun e he => by
    rcases List.mem_or_eq_of_mem_set he with h1 | rfl
    · exact ⟨e, h1, rfl, rfl⟩
    · exact ⟨_, hmem, rfl, rfl⟩
  refine ⟨⟨hk.blk h.obj (fun e => own_ne h.row h.obj (by decide) hob e.symm), h.now.kp hk (fun b hb e => own_apart h.row h.now.1 (by decide) hob (by rw [hb, e])), OwR.hide h.row j hj, fun e he => ?_, fun e he => ?_, h.br⟩, FR.of_kp hk (show Blk w gl 88 cs from hcs) (.inr (.inl rfl)) (own_from h.row hob)⟩
  · obtain ⟨e', h1, h2, h3⟩ := each e he
    rw [h2, h3]
    exact (h.bl e' h1).kp hk (fun b hb e2 => own_apart h.row (h.bl e' h1).1 (by decide) hob (by rw [hb, e2]))
  · obtain ⟨e', h1, h2, h3⟩ := each e he
    rw [h2]
    exact h.ap e' h1
theorem find_ix {g : Gd} (h : C.findE g = 0) : ixS C.snaps g < C.snaps.length := by
  unfold Ch.findE at h
  split at h
  · assumption
  · cases h
theorem Lk.hide (k : Lk C now es) {g : Gd} (hf : C.findE g = 0) : Lk (C.hide g) now (es.set (ixS C.snaps g) { es.getD (ixS C.snaps g) rs0 with hid := true }) := by
  have hix := find_ix hf
  have hat := k.at_ (ixS C.snaps g) (by rw [k.elen]; exact hix)
  unfold Ch.hide
  rw [if_pos hf]
  refine ⟨k.n, k.live, wf_hide k.wf _, by simpa using k.len, k.now, ?_, k.tl, fun s hs => ?_⟩
  · show (es.set _ _).map _ = (C.snaps.set _ _).map _
    rw [List.map_set, List.map_set, k.sn]
    show List.set _ _ ((es.getD (ixS C.snaps g) rs0).g, (es.getD (ixS C.snaps g) rs0).bl, true) = List.set _ _ ((C.snaps.getD (ixS C.snaps g) nosn).g, (C.snaps.getD (ixS C.snaps g) nosn).vol.take C.n, true)
    rw [hat.1, hat.2.1]
  · rcases List.mem_or_eq_of_mem_set hs with h1 | rfl
    · exact k.ts s h1
    · have : C.snaps.getD (ixS C.snaps g) nosn = C.snaps[ixS C.snaps g] := by simp [hix]
      show tailE C.n (C.snaps.getD (ixS C.snaps g) nosn).vol
      rw [this]
      exact k.ts _ (List.getElem_mem hix)
set_option maxRecDepth 100000 in
theorem hideR_any (h : Rm w B br nv sv now es) (k : Lk C now es) (g : Gd) : Calls Try.prog 42 #[.pointer (some ⟨br, 0, none⟩), aggG g] w (StR w B br (C.findE g) (C.hide g)) := by
  have hb0 := (Below.refl w.heap.size w).alloc (Nat.le_refl _) (Obj.cells #[.int .u64 g.1, .int .u64 g.2] 33)
  have HF := Lib.hid (findR_any (h.keep hb0) k g)
  have HB := Lib.hid hb0
  have HM := Lib.hid h
  have HK := Lib.hid k
  have hng : C.findE g ≠ 0 → C.hide g = C := fun hz => by unfold Ch.hide; rw [if_neg hz]
  have hfi := fun hz : C.findE g = 0 => And.intro (find_ix hz) (k.hide hz)
  obtain ⟨na, nc, sa, sc, rfl, rfl⟩ := h.open_
  unfold FiR at HF
  generalize C.findE g = fe at *
  have HNG := Lib.hid hng
  have HFI := Lib.hid hfi
  have HEL := Lib.hid k.elen
  unfold aggG at HF ⊢
  clear h k hb0 hng hfi
  go_enter Try.func42, Try.ntmps42
  go_wp2_with fail
  generalize w.alloc (Obj.cells #[.int .u64 g.1, .int .u64 g.2] 33) = w0 at *
  refine HF.out.mono ?_
  rintro e w1 ⟨i, rfl, hi, hb⟩
  have HB1 := Lib.hid (HB.out.trans (hb.mono HB.out.size))
  have hm1 := HM.out.keep HB1.out
  have HM1 := Lib.hid hm1
  by_cases hz : fe = 0
  · obtain rfl := hi hz
    obtain ⟨hix, hlk⟩ := HFI.out hz
    subst hz
    have hix2 : ixS C.snaps g < es.length := by rw [HEL.out]; exact hix
    obtain ⟨gl, cap, e2, -⟩ := own_block_ hm1.row (show 0 < es.length by omega)
    simp only [Value.slice.injEq] at e2
    obtain ⟨rfl, -, rfl⟩ := e2
    have x1 := hm1.obj.cell 1
    simp at x1
    obtain ⟨-, -, -, r3⟩ := OwR.at_ hm1.row _ hix2
    have f3 := World.ownsRow.frozenAt hm1.row (ixS C.snaps g * 4 + 3)
    obtain ⟨hs1, hs2⟩ := hm1.hide rfl _ hix2
    have H9 := Lib.hid (And.intro hs1 ((FR.of_below HB1.out HM.out.base).trans hs2))
    have HLK := Lib.hid hlk
    generalize ixS C.snaps g = ix at *
    obtain ⟨L, hL⟩ : ∃ L, es.length = L := ⟨_, rfl⟩
    rw [hL] at x1 hix2
    have i1 : (ix : Int) < (L : Int) := by omega
    have i0 : (0 : Int) ≤ (ix : Int) := by omega
    clear hi hb hm1 hix hlk hix2 hs1 hs2 hL HFI HM1 HF
    go_wp2
    go_ret
    exact ⟨rfl, ⟨_, _, _, _, H9.out.1, HLK.out⟩, H9.out.2⟩
  · have e1 : (fe == 0) = false := by simpa using hz
    have e2 : decide (fe = 0) = false := decide_eq_false hz
    have HZ := Lib.hid hz
    clear hz hi hb hm1
    go_wp2
    go_ret
    exact ⟨rfl, by rw [HNG.out HZ.out]; exact ⟨_, _, _, _, HM1.out, HK.out⟩, FR.of_below HB1.out HM.out.base⟩
set_option maxRecDepth 100000 in
theorem readR_any (h : Rm w B br nv sv now es) (k : Lk C now es) (g : Gd) : Calls Try.prog 44 #[.pointer (some ⟨br, 0, none⟩), aggG g] w (ReadT w (C.readL g) (C.findE g)) := by
  have hb0 := (Below.refl w.heap.size w).alloc (Nat.le_refl _) (Obj.cells #[.int .u64 g.1, .int .u64 g.2] 33)
  have HF := Lib.hid (findR_any (h.keep hb0) k g)
  have HB := Lib.hid hb0
  have HM := Lib.hid h
  have hng : C.findE g ≠ 0 → C.readL g = [] := fun hz => by unfold Ch.readL; rw [if_neg hz]
  have hfi := fun hz : C.findE g = 0 => show ixS C.snaps g < es.length ∧ C.readL g = (es.getD (ixS C.snaps g) rs0).bl ∧ (C.readL g).length ≤ 1000 from by
    have h1 := find_ix hz
    have h2 : ixS C.snaps g < es.length := by rw [k.elen]; exact h1
    have h3 : C.readL g = (C.snaps.getD (ixS C.snaps g) nosn).vol.take C.n := by unfold Ch.readL; rw [if_pos hz]
    refine ⟨h2, h3.trans (k.at_ _ h2).2.1.symm, ?_⟩
    rw [h3, List.length_take]
    have := k.n.2
    omega
  obtain ⟨na, nc, sa, sc, rfl, rfl⟩ := h.open_
  unfold FiR at HF
  generalize C.findE g = fe at *
  generalize C.readL g = rl at *
  generalize ixS C.snaps g = ix at *
  have HNG := Lib.hid hng
  have HFI := Lib.hid hfi
  unfold aggG at HF ⊢
  clear h k hb0 hng hfi
  go_enter Try.func44, Try.ntmps44
  go_wp2_with fail
  generalize w.alloc (Obj.cells #[.int .u64 g.1, .int .u64 g.2] 33) = w0 at *
  refine HF.out.mono ?_
  rintro e w1 ⟨i, rfl, hi, hb⟩
  have HB1 := Lib.hid (HB.out.trans (hb.mono HB.out.size))
  have hm1 := HM.out.keep HB1.out
  by_cases hz : fe = 0
  · obtain rfl := hi hz
    obtain ⟨hix, hrl, hle⟩ := HFI.out hz
    subst hz
    obtain ⟨gl, cap, e2, -⟩ := own_block_ hm1.row (show 0 < es.length by omega)
    simp only [Value.slice.injEq] at e2
    obtain ⟨rfl, -, rfl⟩ := e2
    have x1 := hm1.obj.cell 1
    simp at x1
    obtain ⟨-, -, r2, -⟩ := OwR.at_ hm1.row _ hix
    have hmem : es.getD ix rs0 ∈ es := by
      have : es.getD ix rs0 = es[ix] := by simp [hix]
      rw [this]
      exact List.getElem_mem hix
    have hrd := (hm1.bl _ hmem).rd
    generalize es.getD ix rs0 = ex at *
    obtain ⟨eg, eb, ea, ec, eh⟩ := ex
    have hrl2 : rl = eb := hrl
    subst hrl2
    have hoo := ownR_any w1 _ rl hrd hle
    replace r2 : w1.cell? ⟨gl, ix * 4 + 2, none⟩ = some (.slice ea rl.length ec) := r2
    replace hoo : Calls Try.prog 38 #[.slice ea rl.length ec] w1 (RetT w1 rl) := hoo
    have HO := Lib.hid hoo
    obtain ⟨L, hL⟩ : ∃ L, es.length = L := ⟨_, rfl⟩
    rw [hL] at x1 hix
    have i1 : (ix : Int) < (L : Int) := by omega
    have i0 : (0 : Int) ≤ (ix : Int) := by omega
    clear hi hb hm1 hrl hle hix hL hmem hrd hoo HF
    go_wp2_with fail
    refine HO.out.mono ?_
    rintro e w2 ⟨u, rfl, ho, hb⟩
    have H9 := Lib.hid (And.intro (ho.mono HB1.out.size) (HB1.out.trans (hb.mono HB1.out.size)))
    clear ho hb HO x1 r2 i1 i0
    go_wp2
    go_ret2
    exact ⟨_, rfl, H9.out.1, H9.out.2⟩
  · have e1 : (fe == 0) = false := by simpa using hz
    have e2 : decide (fe = 0) = false := decide_eq_false hz
    have HZ := Lib.hid hz
    clear hz hi hb hm1
    go_wp2
    go_ret2
    exact ⟨_, rfl, by rw [HNG.out HZ.out]; exact OwT.nil_ _ _, HB1.out⟩
set_option maxRecDepth 100000 in
theorem listR_any (h : Rm w B br nv sv now es) (k : Lk C now es) : Calls Try.prog 49 #[.pointer (some ⟨br, 0, none⟩)] w (RetG w (C.snaps.map (·.g))) := by
  have hwf := fun j => wf_getD k.wf j
  have hat := fun j hj => (k.at_ j hj).1
  obtain ⟨G, hG⟩ : ∃ G : Nat → List Gd, ∀ k, G k = (C.snaps.map (·.g)).take k := ⟨_, fun _ => rfl⟩
  have hG0 : G 0 = [] := by rw [hG]; rfl
  have hGn : G es.length = C.snaps.map (·.g) := (hG _).trans (List.take_of_length_le (by simp [k.elen]))
  have hGs : ∀ j, j < es.length → G (j + 1) = G j ++ [(es.getD j rs0).g] := fun j hj => by
    rw [hat j hj, hG, hG, List.take_add_one]
    have : j < C.snaps.length := by rw [← k.elen]; exact hj
    simp [this]
  have hGw : ∀ j, j < es.length → wfG (es.getD j rs0).g := fun j hj => by rw [hat j hj]; exact (hwf j).g
  have hlen := k.len
  rw [← k.elen] at hlen
  have hGl : ∀ j, (G j).length ≤ 20 := fun j => by rw [hG]; simp; have := k.elen; omega
  have HM := Lib.hid h
  obtain ⟨na, nc, sa, sc, rfl, rfl⟩ := h.open_
  have HGN := Lib.hid hGn
  have HGS := Lib.hid hGs
  have HGW := Lib.hid hGw
  have HGL := Lib.hid hGl
  have HG0 := Lib.hid hG0
  have HOR := Lib.hid (show w.ownsRow B 88 4 (.slice sa es.length sc) es.length (cellsR es) from h.row)
  have HOB := Lib.hid h.obj
  have HLE := Lib.hid hlen
  have hx := h.obj.cell 1
  simp at hx
  obtain ⟨n, hL⟩ : ∃ L, es.length = L := ⟨_, rfl⟩
  obtain ⟨N, hN⟩ : ∃ N, now.length = N := ⟨_, rfl⟩
  obtain ⟨Z, hZ⟩ : ∃ Z : Nat → Rs, ∀ j, es.getD j rs0 = Z j := ⟨_, fun _ => rfl⟩
  have HAT := Lib.hid (show ∀ j, j < es.length → ∃ gl, sa = some ⟨gl, 0, none⟩ ∧ w.cell? ⟨gl, j * 4, none⟩ = some (.int .u64 (Z j).g.1) ∧ w.cell? ⟨gl, j * 4 + 1, none⟩ = some (.int .u64 (Z j).g.2) from fun j hj => by
    obtain ⟨gl, cap, e2, -⟩ := own_block_ h.row (show 0 < es.length by omega)
    simp only [Value.slice.injEq] at e2
    obtain ⟨rfl, -, rfl⟩ := e2
    have := OwR.at_ h.row j hj
    rw [hZ] at this
    exact ⟨gl, rfl, this.1, this.2.1⟩)
  simp only [hZ] at HGS HGW
  rw [hL] at HGN HGS HGW HLE hx HAT
  have HX := Lib.hid hx
  clear h k hwf hat hG hG0 hGn hGs hGw hlen hGl hL hN hZ HOR HOB HM hx
  go_enter Try.func49, Try.ntmps49
  go_wp2_with fail
  go_loopw [3, 4] (fun l0 i wr => ∃ (j : Nat) (l : Value), j ≤ n ∧ i = .int .i64 j ∧ l = l0 ∧ Below w.heap.size w wr ∧ OwG wr w.heap.size l (G j)) (fun _ i _ => n - (intOf i).toNat)
  case atStart => exact ⟨0, _, Nat.zero_le _, rfl, rfl, Below.refl _ _, by rw [HG0.out]; exact OwG.nil_ _ _⟩
  case round =>
    obtain ⟨j, l, hj, rfl, rfl, hb, ho⟩ := hrel
    have HB := Lib.hid hb
    have HO := Lib.hid ho
    have x1 := cell_later hb HX.out
    clear ho
    by_cases hlt : j < n
    · obtain ⟨gl, rfl, r0, r1⟩ := HAT.out j hlt
      replace r0 := cell_later hb r0
      replace r1 := cell_later hb r1
      have hwg := HGW.out j hlt
      have hgs := HGS.out j hlt
      generalize Z j = e at *
      obtain ⟨⟨g1, g2⟩, eb, ea, ec, eh⟩ := e
      have hap : ∃ v' w', (Builtin.append_ #[45, 45] 45 #[l, .slice (some ⟨wr.heap.size, 0, none⟩) 1 1]).run Try.prog (wr.alloc (.cells #[.int .u64 g1, .int .u64 g2] 33)) = .ok v' w' ∧ AppG (wr.alloc (.cells #[.int .u64 g1, .int .u64 g2] 33)) w.heap.size l (G j ++ [(g1, g2)]) v' w' := by
        have hs0 := HB.out.size
        refine app_guids _ (HO.out.keep ((Below.refl _ _).alloc (Nat.le_refl _) _)) (InG.litAt wr [(g1, g2)] _ _ rfl rfl (by simp) (by simpa using hwg)) (by have := HGL.out j; simp; omega) ?_
        simp
        omega
      have HA := Lib.hid hap
      have HO2 := Lib.hid (HO.out.keep ((Below.refl _ _).alloc (Nat.le_refl _) (Obj.cells #[.int .u64 g1, .int .u64 g2] 33)))
      have HB2 := Lib.hid (HB.out.alloc HB.out.size (Obj.cells #[.int .u64 g1, .int .u64 g2] 33))
      have HGS2 := Lib.hid hgs
      have i1 : (j : Int) < (n : Int) := by omega
      have i0 : (0 : Int) ≤ (j : Int) := by omega
      have HLT := Lib.hid hlt
      clear hap hwg hgs hlt hj hb
      go_wp2_with (at_builtin; refine wpList_append_run rfl _ _ 45 rfl _ _ rfl rfl _ HA.out ?_)
      refine Later.mk fun _ _ v' w' hp => ?_
      have HN := Lib.hid (And.intro (HB2.out.trans (hp.below HO2.out HB2.out.size)) hp.1)
      clear hp HA x1 r0 r1 i1 i0
      go_wp2
      rw [wrap_succ HLT.out (by have := HLE.out; unfold maxLen; omega)]
      exact ⟨⟨j + 1, v', HLT.out, rfl, rfl, HN.out.1, by rw [HGS2.out]; exact HN.out.2⟩, meas_succ HLT.out⟩
    · obtain rfl : j = n := by omega
      have i1 : ¬ ((j : Int) < (j : Int)) := by omega
      clear hlt hj hb
      go_wp2
      go_ret
      exact ⟨_, rfl, by rw [← HGN.out]; exact HO.out, HB.out⟩
end
end Go.Proofs.Ytjeebpklinpmfaa
