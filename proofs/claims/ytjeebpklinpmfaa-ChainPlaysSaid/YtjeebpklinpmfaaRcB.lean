/-
  THE REFERENCE'S CHAIN: own, zeros, Above, last, base, may (printed by wip/gen-rcb.py).
-/
import Derived.Test.YtjeebpklinpmfaaRcA
namespace Go.Proofs.Ytjeebpklinpmfaa
open Go.RowKit Reg Go.WideShapes Go.ChangeShapes

set_option maxRecDepth 100000 in
theorem ownR_any (w : World) (v : Value) (zs : List ByteArray) (hv : InT w v zs) (hn : zs.length ≤ 1000) : Calls Try.prog 38 #[v] w (RetT w zs) := by
  have HA := Lib.hid (app_texts 35 (OwT.nil_ w w.heap.size) hv (by simp; omega) (Nat.le_refl _))
  obtain ⟨a, c, rfl, -, -⟩ := hv.open_
  clear hv hn
  go_enter Try.func38, Try.ntmps38
  go_wp2_with (at_builtin; refine wpList_append_run rfl _ _ 35 rfl _ _ rfl rfl _ HA.out ?_)
  refine Later.mk fun _ _ v' w' hp => ?_
  have HP := Lib.hid (show OwT w' w.heap.size v' zs ∧ Below w.heap.size w w' from ⟨hp.1, hp.below (OwT.nil_ _ _) (Nat.le_refl _)⟩)
  clear hp HA
  go_wp2
  go_ret
  exact ⟨_, rfl, HP.out.1, HP.out.2⟩
set_option maxRecDepth 100000 in
theorem zerosR_any (w : World) (n : Nat) (hn : n ≤ 8) : Calls Try.prog 36 #[.int .i64 n] w (RetT w (List.replicate n zB)) := by
  have HN := Lib.hid hn
  clear hn
  go_enter Try.func36, Try.ntmps36
  go_wp2_with fail
  go_loopw [3, 4] (fun u i wr => ∃ k : Nat, k ≤ n ∧ i = .int .i64 k ∧ OwT wr w.heap.size u (List.replicate k zB) ∧ Below w.heap.size w wr) (fun _ i _ => n - (intOf i).toNat)
  case atStart => exact ⟨0, Nat.zero_le _, rfl, OwT.nil_ _ _, Below.refl _ _⟩
  case round =>
    obtain ⟨k, hk, rfl, ho, hb⟩ := hrel
    obtain ⟨ua, uc, rfl⟩ := ho.slice_
    by_cases hkn : k < n
    · have hmk := made_32 wr
      have a0 := Blk.new wr 5 (layC 0 0)
      have hb1 := (Below.refl wr.heap.size wr).alloc (Nat.le_refl _) (Obj.cells (layC 0 0) 5)
      have HB1 := Lib.hid (hb.trans (hb1.mono hb.size))
      have HO1 := Lib.hid (ho.keep hb1)
      generalize wr.alloc (Obj.cells (layC 0 0) 5) = w1 at *
      have hcv := zB_run w1 wr.heap.size a0
      have hA := app_text 35 zB HO1.out (by rw [zB_size]; decide) (by simp; have := HN.out; omega) HB1.out.size
      rw [← List.replicate_succ'] at hA
      have HA := Lib.hid hA
      have HKN := Lib.hid hkn
      have i1 : (k : Int) < (n : Int) := by omega
      have I9 := Lib.hid (wrap_succ hkn (by have := HN.out; unfold maxLen; omega))
      rw [List.length_replicate] at HO1 HA ⊢
      clear ho hb hb1 a0 hA hkn hk
      go_wp2_with (at_builtin; refine wpList_append_run rfl _ _ 35 rfl _ _ rfl rfl _ HA.out ?_)
      refine Later.mk fun _ _ v' w' hp => ?_
      have HP := Lib.hid (show OwT w' w.heap.size v' (List.replicate (k + 1) zB) ∧ Below w.heap.size w w' from ⟨hp.1, HB1.out.trans (hp.below HO1.out HB1.out.size)⟩)
      clear hp HA i1 hmk hcv
      go_wp2
      rw [I9.out]
      exact ⟨⟨k + 1, HKN.out, rfl, HP.out.1, HP.out.2⟩, meas_succ HKN.out⟩
    · obtain rfl : k = n := by omega
      have HO := Lib.hid ho
      have HB := Lib.hid hb
      clear hkn hk ho hb
      go_wp2
      go_ret
      exact ⟨_, rfl, HO.out, HB.out⟩
set_option maxRecDepth 100000 in
theorem aboveR_any (g l : Gd) (w : World) : Calls Try.prog 59 #[aggG g, aggG l] w fun e w' => e = .returned (.bool (upG l g)) ∧ Below w.heap.size w w' := by
  obtain ⟨ge, gc⟩ := g
  obtain ⟨le, lc⟩ := l
  have hup : upG (le, lc) (ge, gc) = decide (le < ge ∨ (le = ge ∧ lc < gc)) := rfl
  generalize upG (le, lc) (ge, gc) = up at *
  have HUP := Lib.hid hup
  unfold aggG
  have HB := Lib.hid (((Below.refl w.heap.size w).alloc (Nat.le_refl _) (Obj.cells #[.int .u64 ge, .int .u64 gc] 33)).alloc (by simp) (Obj.cells #[.int .u64 le, .int .u64 lc] 33))
  clear hup
  by_cases h1 : le < ge
  · have HR := Lib.hid (show up = true by rw [HUP.out]; simp [h1])
    go_enter Try.func59, Try.ntmps59
    go_wp2
    go_ret
    exact ⟨by rw [HR.out]; rfl, HB.out⟩
  · by_cases h2 : le = ge
    · subst h2
      by_cases h3 : lc < gc
      · have HR := Lib.hid (show up = true by rw [HUP.out]; simp [h3])
        go_enter Try.func59, Try.ntmps59
        go_wp2
        go_ret
        exact ⟨by rw [HR.out]; rfl, HB.out⟩
      · have HR := Lib.hid (show up = false by rw [HUP.out]; simp [h3])
        have h3' : gc ≤ lc := by omega
        go_enter Try.func59, Try.ntmps59
        go_wp2
        go_ret
        exact ⟨by rw [HR.out]; rfl, HB.out⟩
    · have HR := Lib.hid (show up = decide (le < ge) by rw [HUP.out]; simp [h2])
      have h1' : ge ≤ le := by omega
      have h2' : (ge == le) = false := by simp; omega
      clear h1 h2
      go_enter Try.func59, Try.ntmps59
      go_wp2
      go_ret
      exact ⟨by rw [HR.out]; rfl, HB.out⟩
section
variable {w : World} {B br : Nat} {nv sv : Value} {now : List ByteArray} {es : List Rs} {C : Ch}
theorem Lk.last0 (k : Lk C now es) (h : es.length = 0) : C.last = ⟨zeroVo C.n, (0, 0), false⟩ := by
  unfold Ch.last
  rw [if_pos (by rw [← k.elen]; exact h)]
theorem Lk.last1 (k : Lk C now es) {m : Nat} (h : es.length = m + 1) : (es.getD m rs0).g = C.last.g ∧ (es.getD m rs0).bl = C.last.vol.take C.n := by
  have h2 := k.at_ m (by omega)
  unfold Ch.last
  rw [if_neg (by rw [← k.elen]; omega), ← k.elen, h, Nat.add_sub_cancel]
  exact ⟨h2.1, h2.2.1⟩
/-- the chain's two cells -/
theorem Rm.open_ (h : Rm w B br nv sv now es) : ∃ na nc sa sc, nv = .slice na now.length nc ∧ sv = .slice sa es.length sc := by
  obtain ⟨na, nc, h1⟩ := h.now.slice_
  obtain ⟨sa, sc, h2⟩ := own_slice h.row
  exact ⟨na, nc, sa, sc, h1, h2⟩
set_option maxRecDepth 100000 in
theorem lastR_any (h : Rm w B br nv sv now es) (k : Lk C now es) : Calls Try.prog 60 #[.pointer (some ⟨br, 0, none⟩)] w fun e w' => e = .returned (aggG C.last.g) ∧ Below w.heap.size w w' := by
  have hb0 := (Below.refl w.heap.size w).alloc (Nat.le_refl _) (Obj.cells #[.int .u64 0, .int .u64 0] 33)
  have h1 := h.keep hb0
  obtain ⟨na, nc, sa, sc, rfl, rfl⟩ := h.open_
  have HO := Lib.hid h1.obj
  have HB := Lib.hid hb0
  have HZ := Lib.hid (Blk.new w 33 #[.int .u64 0, .int .u64 0])
  have x0 := h1.obj.cell 0
  have x1 := h1.obj.cell 1
  simp at x0 x1
  cases hl : es.length with
  | zero =>
    have HL := Lib.hid (show C.last.g = (0, 0) by rw [k.last0 hl])
    rw [hl] at x1
    clear h h1 k hb0 hl HO
    unfold aggG
    go_enter Try.func60, Try.ntmps60
    go_wp2
    refine bodyPost_ret (results_cell (ty := 33) (g := w.heap.size) (k := 2) rfl rfl HZ.out Try.underlying33 rfl (by kernel_rfl)) rfl ⟨by rw [HL.out], HB.out⟩
  | succ m =>
    obtain ⟨e, he⟩ : ∃ e, e = es.getD m rs0 := ⟨_, rfl⟩
    have HL := Lib.hid (show C.last.g = e.g by rw [he, (k.last1 hl).1])
    obtain ⟨gl, cap, e2, -⟩ := own_block_ h1.row (by omega)
    simp only [Value.slice.injEq] at e2
    obtain ⟨rfl, -, rfl⟩ := e2
    have hat := h1.row.at_ m (by omega)
    rw [← he] at hat
    have HE := Lib.hid (And.intro hat.1 hat.2.1)
    obtain ⟨L, hL⟩ : ∃ L, es.length = L := ⟨_, rfl⟩
    rw [hL] at hl x1 HO
    have hlen := k.len
    rw [← k.elen, hL] at hlen
    have I9 := Lib.hid (show IntKind.i64.wrap ((L : Int) - 1) = (m : Int) from by rw [IntKind.wrap_i64]; omega)
    have I1 := Lib.hid (show (m : Int) < (L : Int) ∧ (0 : Int) ≤ (m : Int) from by omega)
    have i3 : ((L : Int) == 0) = false := by simp; omega
    have i4 : ¬ ((L : Int) = 0) := by omega
    have i5 : ¬ (L = 0) := by omega
    generalize now.length = N at *
    clear h h1 k hb0 hl hL hlen he hat
    unfold aggG
    go_enter Try.func60, Try.ntmps60
    go_wp2_with fail
    generalize w.alloc (Obj.cells #[.int .u64 0, .int .u64 0] 33) = w1 at *
    clear x0 x1 i3 i4 i5
    refine wp_region_chain [13] (kv [(13, .is undef)]) (fun l w9 => match l with | [] => Below w1.heap.size w1 w9 | _ => Below w.heap.size w w9 ∧ Blk w9 w.heap.size 33 #[.int .u64 e.g.1, .int .u64 e.g.2]) (by kernel_rfl) (by kernel_rfl) (by kernel_rfl) (kv_inh _) (Below.drew (Below.refl _ _)) ?_
    intro ν hν
    have n13 : ν 13 = undef := hν 13
    clear hν
    refine ch_plain 0 1 6 (by rfl) rfl (by kernel_rfl) (by kernel_rfl) ?_
    apply Exists.intro
    refine ⟨fun st w2 hlo hhi hJ => ?_, ?_⟩
    · clear hlo hhi hJ
      go_simp
      exact And.intro rfl rfl
    simp only [Act.put, List.setIfInBounds_toArray, List.set_cons_succ, List.set_cons_zero, Nat.reduceAdd]
    refine ch_plain 0 1 6 (by rfl) rfl (by kernel_rfl) (by kernel_rfl) ?_
    apply Exists.intro
    refine ⟨fun st w2 hlo hhi hJ => ?_, ?_⟩
    · clear hlo hhi hJ
      go_simp
      exact And.intro rfl rfl
    simp only [Act.put, List.setIfInBounds_toArray, List.set_cons_succ, List.set_cons_zero, Nat.reduceAdd]
    refine ch_plain 0 1 6 (by rfl) rfl (by kernel_rfl) (by kernel_rfl) ?_
    apply Exists.intro
    refine ⟨fun st w2 hlo hhi hJ => ?_, ?_⟩
    · clear hlo hhi hJ
      go_simp
      exact And.intro rfl rfl
    simp only [Act.put, List.setIfInBounds_toArray, List.set_cons_succ, List.set_cons_zero, Nat.reduceAdd]
    refine ch_plain 0 0 6 (by rfl) rfl (by kernel_rfl) (by kernel_rfl) ?_
    apply Exists.intro
    refine ⟨fun st w2 hlo hhi hJ => ?_, ?_⟩
    · have hj : Below w1.heap.size w1 w2 := by
        obtain rfl : st = 0 := by omega
        exact hJ
      have x0 := (HO.out.keep hj).cell 0
      have x1 := (HO.out.keep hj).cell 1
      simp at x0 x1
      clear hj
      clear hlo hhi hJ
      go_simp
      exact And.intro rfl rfl
    simp only [Act.put, List.setIfInBounds_toArray, List.set_cons_succ, List.set_cons_zero, Nat.reduceAdd]
    refine ch_plain 0 1 6 (by rfl) rfl (by kernel_rfl) (by kernel_rfl) ?_
    apply Exists.intro
    refine ⟨fun st w2 hlo hhi hJ => ?_, ?_⟩
    · clear hlo hhi hJ
      go_simp
      exact And.intro rfl rfl
    simp only [Act.put, List.setIfInBounds_toArray, List.set_cons_succ, List.set_cons_zero, Nat.reduceAdd]
    refine ch_plain 0 1 6 (by rfl) rfl (by kernel_rfl) (by kernel_rfl) ?_
    apply Exists.intro
    refine ⟨fun st w2 hlo hhi hJ => ?_, ?_⟩
    · clear hlo hhi hJ
      go_simp
      exact And.intro rfl rfl
    simp only [Act.put, List.setIfInBounds_toArray, List.set_cons_succ, List.set_cons_zero, Nat.reduceAdd]
    refine ch_plain 0 1 6 (by rfl) rfl (by kernel_rfl) (by kernel_rfl) ?_
    apply Exists.intro
    refine ⟨fun st w2 hlo hhi hJ => ?_, ?_⟩
    · clear hlo hhi hJ
      go_simp
      exact And.intro rfl rfl
    simp only [Act.put, List.setIfInBounds_toArray, List.set_cons_succ, List.set_cons_zero, Nat.reduceAdd]
    refine ch_plain 0 0 6 (by rfl) rfl (by kernel_rfl) (by kernel_rfl) ?_
    apply Exists.intro
    refine ⟨fun st w2 hlo hhi hJ => ?_, ?_⟩
    · have hj : Below w1.heap.size w1 w2 := by
        obtain rfl : st = 0 := by omega
        exact hJ
      have x0 := (HO.out.keep hj).cell 0
      have x1 := (HO.out.keep hj).cell 1
      simp at x0 x1
      clear hj
      clear hlo hhi hJ
      go_simp
      exact And.intro rfl rfl
    simp only [Act.put, List.setIfInBounds_toArray, List.set_cons_succ, List.set_cons_zero, Nat.reduceAdd]
    refine ch_plain 0 1 6 (by rfl) rfl (by kernel_rfl) (by kernel_rfl) ?_
    apply Exists.intro
    refine ⟨fun st w2 hlo hhi hJ => ?_, ?_⟩
    · clear hlo hhi hJ
      go_simp
      exact And.intro rfl rfl
    simp only [Act.put, List.setIfInBounds_toArray, List.set_cons_succ, List.set_cons_zero, Nat.reduceAdd]
    refine ch_plain 0 1 6 (by rfl) rfl (by kernel_rfl) (by kernel_rfl) ?_
    apply Exists.intro
    refine ⟨fun st w2 hlo hhi hJ => ?_, ?_⟩
    · have i9 := I9.out
      clear hlo hhi hJ
      go_simp
      exact And.intro rfl rfl
    simp only [Act.put, List.setIfInBounds_toArray, List.set_cons_succ, List.set_cons_zero, Nat.reduceAdd]
    refine ch_plain 0 1 6 (by rfl) rfl (by kernel_rfl) (by kernel_rfl) ?_
    apply Exists.intro
    refine ⟨fun st w2 hlo hhi hJ => ?_, ?_⟩
    · have i1 := I1.out.1
      have i0 := I1.out.2
      clear hlo hhi hJ
      go_simp
      exact And.intro rfl rfl
    simp only [Act.put, List.setIfInBounds_toArray, List.set_cons_succ, List.set_cons_zero, Nat.reduceAdd]
    refine ch_plain 0 1 6 (by rfl) rfl (by kernel_rfl) (by kernel_rfl) ?_
    apply Exists.intro
    refine ⟨fun st w2 hlo hhi hJ => ?_, ?_⟩
    · clear hlo hhi hJ
      go_simp
      exact And.intro rfl rfl
    simp only [Act.put, List.setIfInBounds_toArray, List.set_cons_succ, List.set_cons_zero, Nat.reduceAdd]
    refine ch_plain 0 0 6 (by rfl) rfl (by kernel_rfl) (by kernel_rfl) ?_
    apply Exists.intro
    refine ⟨fun st w2 hlo hhi hJ => ?_, ?_⟩
    · have hj : Below w1.heap.size w1 w2 := by
        obtain rfl : st = 0 := by omega
        exact hJ
      have y0 := cell_later hj HE.out.1
      have y1 := cell_later hj HE.out.2
      clear hj
      clear hlo hhi hJ
      go_simp
      exact And.intro rfl rfl
    simp only [Act.put, List.setIfInBounds_toArray, List.set_cons_succ, List.set_cons_zero, Nat.reduceAdd]
    refine ch_special 0 6 (by rfl) rfl (by decide) (by kernel_rfl) (fun w2 hJ => ?_) ?_
    · have hj : Below w1.heap.size w1 w2 := hJ
      rw [exec_store 33 (.tmp 2) (.tmp 22) rfl w.heap.size #[.int .u64 e.g.1, .int .u64 e.g.2] rfl rfl 33 _ (HZ.out.keep hj) (by kernel_rfl) rfl (by simp; exact ⟨rfl, rfl⟩)]
      exact ⟨rfl, Below.setRow (HB.out.trans (hj.mono HB.out.size)) (Nat.le_refl _) _, (HZ.out.keep hj).row _⟩
    rw [n13]
    simp only [Act.put, Nat.reduceAdd]
    refine ch_nil (fun w9 hJ => ?_)
    have H9 := Lib.hid (show Below w.heap.size w w9 ∧ Blk w9 w.heap.size 33 #[.int .u64 e.g.1, .int .u64 e.g.2] from hJ)
    clear hJ n13
    go_wp2
    refine bodyPost_ret (results_cell (ty := 33) (g := w.heap.size) (k := 2) rfl rfl H9.out.2 Try.underlying33 rfl (by kernel_rfl)) rfl ⟨by rw [HL.out], H9.out.1⟩
set_option maxRecDepth 100000 in
theorem baseR_any (h : Rm w B br nv sv now es) (k : Lk C now es) : Calls Try.prog 56 #[.pointer (some ⟨br, 0, none⟩)] w (RetT w (C.last.vol.take C.n)) := by
  obtain ⟨na, nc, sa, sc, rfl, rfl⟩ := h.open_
  have HO := Lib.hid h.obj
  have x0 := h.obj.cell 0
  have x1 := h.obj.cell 1
  simp at x0 x1
  have hn := k.n
  cases hl : es.length with
  | zero =>
    have hz := zerosR_any w C.n hn.2
    have e1 : C.last.vol.take C.n = List.replicate C.n zB := by
      rw [k.last0 hl]
      show (zeroVo C.n).take C.n = _
      unfold zeroVo
      rw [List.take_left' (by simp)]
    rw [← e1] at hz
    have HZ := Lib.hid hz
    rw [hl] at x1
    rw [k.nlen] at x0
    clear h k hl HO hz e1 hn
    go_enter Try.func56, Try.ntmps56
    go_wp2_with fail
    refine HZ.out.mono ?_
    rintro e w2 ⟨u, rfl, ho, hb⟩
    have H9 := Lib.hid (And.intro ho hb)
    clear ho hb HZ x0 x1
    go_wp2
    go_ret
    exact ⟨_, rfl, H9.out.1, H9.out.2⟩
  | succ m =>
    obtain ⟨e, he⟩ : ∃ e, e = es.getD m rs0 := ⟨_, rfl⟩
    have hmem : e ∈ es := by
      have : es.getD m rs0 = es[m]'(by omega) := by simp [hl]
      rw [he, this]
      exact List.getElem_mem _
    obtain ⟨zs, hzs⟩ : ∃ zs, zs = e.bl := ⟨_, rfl⟩
    have hzl : zs = C.last.vol.take C.n := by rw [hzs, he]; exact (k.last1 hl).2
    have hv8 : C.last.vol.length = 8 := by
      unfold Ch.last
      rw [if_neg (by rw [← k.elen]; omega)]
      exact (wf_getD k.wf _).vol.1
    have hlen : zs.length = C.n := by rw [hzl, List.length_take, hv8]; omega
    obtain ⟨gl, cap, e2, -⟩ := own_block_ h.row (by omega)
    simp only [Value.slice.injEq] at e2
    obtain ⟨rfl, -, rfl⟩ := e2
    have hat := (h.row.at_ m (by omega)).2.2.1
    rw [← he] at hat
    have hbl := (h.bl e hmem).rd
    have hiv : e.iv = .slice e.a C.n e.c := by show Value.slice e.a e.bl.length e.c = _; rw [← hzs, hlen]
    rw [hiv] at hat hbl
    rw [← hzs] at hbl
    obtain ⟨N, hN⟩ : ∃ N, N = C.n := ⟨_, rfl⟩
    rw [← hN] at hat hbl hlen
    have HE := Lib.hid hat
    have HT := Lib.hid hbl
    have HN := Lib.hid (show zs.length ≤ 1000 ∧ zs.length = N from ⟨by rw [hlen, hN]; omega, hlen⟩)
    obtain ⟨L, hL⟩ : ∃ L, es.length = L := ⟨_, rfl⟩
    rw [hL] at hl x1 HO
    have hlen2 := k.len
    rw [← k.elen, hL] at hlen2
    have I9 := Lib.hid (show IntKind.i64.wrap ((L : Int) - 1) = (m : Int) from by rw [IntKind.wrap_i64]; omega)
    have I1 := Lib.hid (show (m : Int) < (L : Int) ∧ (0 : Int) ≤ (m : Int) from by omega)
    have i3 : ((L : Int) == 0) = false := by simp; omega
    have i4 : ¬ ((L : Int) = 0) := by omega
    have i5 : ¬ (L = 0) := by omega
    rw [← hzl]
    generalize now.length = NN at *
    obtain ⟨eg, eb, ea, ec, eh⟩ := e
    clear h k hl hL hlen hlen2 he hat hbl hiv hmem hn hN hzl hzs hv8
    go_enter Try.func56, Try.ntmps56
    go_wp2_with fail
    clear x0 x1 i3 i4 i5
    refine wp_region_chain [13] (kv [(13, .ex (fun u => ∃ a c, u = .slice a N c) ⟨_, none, 0, rfl⟩)]) (fun l w9 => match l with | [] => Below w.heap.size w w9 | u :: _ => OwT w9 w.heap.size u zs ∧ Below w.heap.size w w9) (by kernel_rfl) (by kernel_rfl) (by kernel_rfl) (kv_inh _) (Below.drew (Below.refl _ _)) ?_
    intro ν hν
    obtain ⟨a13, c13, n13⟩ : ∃ a c, ν 13 = .slice a N c := hν 13
    clear hν
    refine ch_plain 0 1 6 (by rfl) rfl (by kernel_rfl) (by kernel_rfl) ?_
    apply Exists.intro
    refine ⟨fun st w2 hlo hhi hJ => ?_, ?_⟩
    · clear hlo hhi hJ
      go_simp
      exact And.intro rfl rfl
    simp only [Act.put, List.setIfInBounds_toArray, List.set_cons_succ, List.set_cons_zero, Nat.reduceAdd]
    refine ch_plain 0 1 6 (by rfl) rfl (by kernel_rfl) (by kernel_rfl) ?_
    apply Exists.intro
    refine ⟨fun st w2 hlo hhi hJ => ?_, ?_⟩
    · clear hlo hhi hJ
      go_simp
      exact And.intro rfl rfl
    simp only [Act.put, List.setIfInBounds_toArray, List.set_cons_succ, List.set_cons_zero, Nat.reduceAdd]
    refine ch_plain 0 1 6 (by rfl) rfl (by kernel_rfl) (by kernel_rfl) ?_
    apply Exists.intro
    refine ⟨fun st w2 hlo hhi hJ => ?_, ?_⟩
    · clear hlo hhi hJ
      go_simp
      exact And.intro rfl rfl
    simp only [Act.put, List.setIfInBounds_toArray, List.set_cons_succ, List.set_cons_zero, Nat.reduceAdd]
    refine ch_plain 0 0 6 (by rfl) rfl (by kernel_rfl) (by kernel_rfl) ?_
    apply Exists.intro
    refine ⟨fun st w2 hlo hhi hJ => ?_, ?_⟩
    · have hj : Below w.heap.size w w2 := by
        obtain rfl : st = 0 := by omega
        exact hJ
      have x0 := (HO.out.keep hj).cell 0
      have x1 := (HO.out.keep hj).cell 1
      simp at x0 x1
      clear hj
      clear hlo hhi hJ
      go_simp
      exact And.intro rfl rfl
    simp only [Act.put, List.setIfInBounds_toArray, List.set_cons_succ, List.set_cons_zero, Nat.reduceAdd]
    refine ch_plain 0 1 6 (by rfl) rfl (by kernel_rfl) (by kernel_rfl) ?_
    apply Exists.intro
    refine ⟨fun st w2 hlo hhi hJ => ?_, ?_⟩
    · clear hlo hhi hJ
      go_simp
      exact And.intro rfl rfl
    simp only [Act.put, List.setIfInBounds_toArray, List.set_cons_succ, List.set_cons_zero, Nat.reduceAdd]
    refine ch_plain 0 1 6 (by rfl) rfl (by kernel_rfl) (by kernel_rfl) ?_
    apply Exists.intro
    refine ⟨fun st w2 hlo hhi hJ => ?_, ?_⟩
    · clear hlo hhi hJ
      go_simp
      exact And.intro rfl rfl
    simp only [Act.put, List.setIfInBounds_toArray, List.set_cons_succ, List.set_cons_zero, Nat.reduceAdd]
    refine ch_plain 0 1 6 (by rfl) rfl (by kernel_rfl) (by kernel_rfl) ?_
    apply Exists.intro
    refine ⟨fun st w2 hlo hhi hJ => ?_, ?_⟩
    · clear hlo hhi hJ
      go_simp
      exact And.intro rfl rfl
    simp only [Act.put, List.setIfInBounds_toArray, List.set_cons_succ, List.set_cons_zero, Nat.reduceAdd]
    refine ch_plain 0 0 6 (by rfl) rfl (by kernel_rfl) (by kernel_rfl) ?_
    apply Exists.intro
    refine ⟨fun st w2 hlo hhi hJ => ?_, ?_⟩
    · have hj : Below w.heap.size w w2 := by
        obtain rfl : st = 0 := by omega
        exact hJ
      have x0 := (HO.out.keep hj).cell 0
      have x1 := (HO.out.keep hj).cell 1
      simp at x0 x1
      clear hj
      clear hlo hhi hJ
      go_simp
      exact And.intro rfl rfl
    simp only [Act.put, List.setIfInBounds_toArray, List.set_cons_succ, List.set_cons_zero, Nat.reduceAdd]
    refine ch_plain 0 1 6 (by rfl) rfl (by kernel_rfl) (by kernel_rfl) ?_
    apply Exists.intro
    refine ⟨fun st w2 hlo hhi hJ => ?_, ?_⟩
    · clear hlo hhi hJ
      go_simp
      exact And.intro rfl rfl
    simp only [Act.put, List.setIfInBounds_toArray, List.set_cons_succ, List.set_cons_zero, Nat.reduceAdd]
    refine ch_plain 0 1 6 (by rfl) rfl (by kernel_rfl) (by kernel_rfl) ?_
    apply Exists.intro
    refine ⟨fun st w2 hlo hhi hJ => ?_, ?_⟩
    · have i9 := I9.out
      clear hlo hhi hJ
      go_simp
      exact And.intro rfl rfl
    simp only [Act.put, List.setIfInBounds_toArray, List.set_cons_succ, List.set_cons_zero, Nat.reduceAdd]
    refine ch_plain 0 1 6 (by rfl) rfl (by kernel_rfl) (by kernel_rfl) ?_
    apply Exists.intro
    refine ⟨fun st w2 hlo hhi hJ => ?_, ?_⟩
    · have i1 := I1.out.1
      have i0 := I1.out.2
      clear hlo hhi hJ
      go_simp
      exact And.intro rfl rfl
    simp only [Act.put, List.setIfInBounds_toArray, List.set_cons_succ, List.set_cons_zero, Nat.reduceAdd]
    refine ch_plain 0 1 6 (by rfl) rfl (by kernel_rfl) (by kernel_rfl) ?_
    apply Exists.intro
    refine ⟨fun st w2 hlo hhi hJ => ?_, ?_⟩
    · clear hlo hhi hJ
      go_simp
      exact And.intro rfl rfl
    simp only [Act.put, List.setIfInBounds_toArray, List.set_cons_succ, List.set_cons_zero, Nat.reduceAdd]
    refine ch_plain 0 0 6 (by rfl) rfl (by kernel_rfl) (by kernel_rfl) ?_
    apply Exists.intro
    refine ⟨fun st w2 hlo hhi hJ => ?_, ?_⟩
    · have hj : Below w.heap.size w w2 := by
        obtain rfl : st = 0 := by omega
        exact hJ
      have y0 := cell_later hj HE.out
      clear hj
      clear hlo hhi hJ
      go_simp
      exact And.intro rfl rfl
    simp only [Act.put, List.setIfInBounds_toArray, List.set_cons_succ, List.set_cons_zero, Nat.reduceAdd]
    refine ch_special 0 6 (by rfl) rfl (by decide) (by kernel_rfl) (fun w2 hJ => ?_) ?_
    · have hj : Below w.heap.size w w2 := hJ
      go_simp
      refine (ownR_any w2 _ zs (HT.out.keep hj) HN.out.1).mono ?_
      rintro e w3 ⟨u, rfl, ho, hb⟩
      obtain ⟨ua, uc, rfl⟩ := ho.slice_
      rw [HN.out.2] at ho ⊢
      exact ⟨_, rfl, ⟨_, _, rfl⟩, ho.mono hj.size, hj.trans (hb.mono hj.size)⟩
    rw [n13]
    simp only [Act.put, List.setIfInBounds_toArray, List.set_cons_succ, List.set_cons_zero, Nat.reduceAdd]
    refine ch_plain 0 1 6 (by rfl) rfl (by kernel_rfl) (by kernel_rfl) ?_
    apply Exists.intro
    refine ⟨fun st w2 hlo hhi hJ => ?_, ?_⟩
    · clear hlo hhi hJ
      go_simp
      exact And.intro rfl rfl
    simp only [Act.put, Nat.reduceAdd]
    refine ch_nil (fun w9 hJ => ?_)
    have hj : OwT w9 w.heap.size (ν 13) zs ∧ Below w.heap.size w w9 := hJ
    rw [n13] at hj
    have H9 := Lib.hid hj
    clear hJ hj n13
    go_wp2
    go_ret
    exact ⟨_, rfl, H9.out.1, H9.out.2⟩
set_option maxRecDepth 100000 in
theorem mayR_any (h : Rm w B br nv sv now es) (k : Lk C now es) (g : Gd) : Calls Try.prog 55 #[.pointer (some ⟨br, 0, none⟩), aggG g] w fun e w' => e = .returned (.int .i64 (C.next g)) ∧ Below w.heap.size w w' := by
  have hb0 := (Below.refl w.heap.size w).alloc (Nat.le_refl _) (Obj.cells #[.int .u64 g.1, .int .u64 g.2] 33)
  have h1 := h.keep hb0
  have HLA := Lib.hid (fun w2 (hb : Below (w.alloc (Obj.cells #[.int .u64 g.1, .int .u64 g.2] 33)).heap.size (w.alloc (Obj.cells #[.int .u64 g.1, .int .u64 g.2] 33)) w2) => lastR_any (h1.keep hb) k)
  have hab := fun w2 => aboveR_any g C.last.g w2
  obtain ⟨na, nc, sa, sc, rfl, rfl⟩ := h.open_
  have HO := Lib.hid h1.obj
  have HB := Lib.hid hb0
  have HX := Lib.hid (Blk.new w 33 #[.int .u64 g.1, .int .u64 g.2])
  have hnx : C.next g = if upG C.last.g g = true then (if 20 ≤ es.length then 3 else 0) else 2 := by unfold Ch.next; rw [k.elen]
  unfold aggG at HLA hab ⊢
  generalize upG C.last.g g = up at *
  generalize C.last.g = lg at *
  obtain ⟨l1, l2⟩ := lg
  have HAB := Lib.hid hab
  have HNX := Lib.hid hnx
  have hlen := k.len
  rw [← k.elen] at hlen
  obtain ⟨L, hL⟩ : ∃ L, es.length = L := ⟨_, rfl⟩
  rw [hL] at HO HNX hlen
  have HL := Lib.hid hlen
  generalize now.length = NN at *
  clear h h1 k hb0 hab hnx hL hlen
  go_enter Try.func55, Try.ntmps55
  go_wp2_with fail
  generalize w.alloc (Obj.cells #[.int .u64 g.1, .int .u64 g.2] 33) = w1 at *
  refine wp_region_chain [2, 3] (kv [(2, .is (.agg #[.int .u64 l1, .int .u64 l2])), (3, .is (.bool up))]) (fun _ w9 => Below w1.heap.size w1 w9) (by kernel_rfl) (by kernel_rfl) (by kernel_rfl) (kv_inh _) (Below.drew (Below.refl _ _)) ?_
  intro ν hν
  have n2 : ν 2 = .agg #[.int .u64 l1, .int .u64 l2] := hν 2
  have n3 : ν 3 = .bool up := hν 3
  clear hν
  refine ch_plain 0 2 6 (by rfl) rfl (by kernel_rfl) (by kernel_rfl) ?_
  apply Exists.intro
  refine ⟨fun st w2 hlo hhi hJ => ?_, ?_⟩
  · replace hJ : Below w1.heap.size w1 w2 := hJ
    have y0 := (HX.out.keep hJ).cell 0
    have y1 := (HX.out.keep hJ).cell 1
    simp at y0 y1
    clear hlo hhi hJ
    go_simp
    exact And.intro rfl rfl
  simp only [Act.put, List.setIfInBounds_toArray, List.set_cons_succ, List.set_cons_zero, Nat.reduceAdd]
  refine ch_plain 0 2 6 (by rfl) rfl (by kernel_rfl) (by kernel_rfl) ?_
  apply Exists.intro
  refine ⟨fun st w2 hlo hhi hJ => ?_, ?_⟩
  · clear hlo hhi hJ
    go_simp
    exact And.intro rfl rfl
  simp only [Act.put, List.setIfInBounds_toArray, List.set_cons_succ, List.set_cons_zero, Nat.reduceAdd]
  refine ch_special 0 6 (by rfl) rfl (by decide) (by kernel_rfl) (fun w2 hJ => ?_) ?_
  · replace hJ : Below w1.heap.size w1 w2 := hJ
    go_simp
    refine (HLA.out w2 hJ).mono ?_
    rintro e w3 ⟨rfl, hb⟩
    exact ⟨_, rfl, rfl, hJ.trans (hb.mono hJ.size)⟩
  rw [n2]
  simp only [Act.put, List.setIfInBounds_toArray, List.set_cons_succ, List.set_cons_zero, Nat.reduceAdd]
  refine ch_special 1 6 (by rfl) rfl (by decide) (by kernel_rfl) (fun w2 hJ => ?_) ?_
  · replace hJ : Below w1.heap.size w1 w2 := hJ
    go_simp
    refine (HAB.out w2).mono ?_
    rintro e w3 ⟨rfl, hb⟩
    exact ⟨_, rfl, rfl, hJ.trans (hb.mono hJ.size)⟩
  rw [n3]
  simp only [Act.put, List.setIfInBounds_toArray, List.set_cons_succ, List.set_cons_zero, Nat.reduceAdd]
  refine ch_plain 0 2 6 (by rfl) rfl (by kernel_rfl) (by kernel_rfl) ?_
  apply Exists.intro
  refine ⟨fun st w2 hlo hhi hJ => ?_, ?_⟩
  · clear hlo hhi hJ
    go_simp
    exact And.intro rfl rfl
  simp only [Act.put, Nat.reduceAdd]
  refine ch_nil (fun w9 hJ => ?_)
  have hb9 : Below w1.heap.size w1 w9 := hJ
  clear hJ n2 n3
  have HB9 := Lib.hid (HB.out.trans (hb9.mono HB.out.size))
  have x0 := (HO.out.keep hb9).cell 0
  have x1 := (HO.out.keep hb9).cell 1
  simp at x0 x1
  clear hb9 HLA HAB HO HX HB
  cases up with
  | false =>
    go_wp2
    go_ret
    exact ⟨by rw [HNX.out]; rfl, HB9.out⟩
  | true =>
    by_cases h20 : 20 ≤ L
    · have HR := Lib.hid (show (if 20 ≤ L then (3 : Int) else 0) = 3 from if_pos h20)
      have i1 : (20 : Int) ≤ (L : Int) := by omega
      clear h20
      go_wp2
      go_ret
      exact ⟨by rw [HNX.out, if_pos trivial, HR.out]; rfl, HB9.out⟩
    · have HR := Lib.hid (show (if 20 ≤ L then (3 : Int) else 0) = 0 from if_neg h20)
      have i1 : (L : Int) < 20 := by omega
      clear h20
      go_wp2
      go_ret
      exact ⟨by rw [HNX.out, if_pos trivial, HR.out]; rfl, HB9.out⟩
end
end Go.Proofs.Ytjeebpklinpmfaa
