/-
  LineKeeps, WALKED (its region printed by wip/gen-linekeeps.py).
-/
import Derived.Test.YtfkgidljgbhccaaLineLaw1
namespace Go.Proofs.Ytfkgidljgbhccaa
open Go.RowKit Reg

theorem comm_same : ∀ (gs hs : List Gd) (j : Nat), j < comm gs hs → gs.getD j (0, 0) = hs.getD j (0, 0)
  | [], _, _, h => by simp [comm] at h
  | _ :: _, [], _, h => by simp [comm] at h
  | a :: xs, b :: ys, j, h => by
    unfold comm at h
    split at h
    · rename_i hs
      cases j with
      | zero => simpa using sameG_iff.1 hs
      | succ j => simpa using comm_same xs ys j (by omega)
    · omega
theorem comm_diff : ∀ (gs hs : List Gd), comm gs hs < gs.length → comm gs hs < hs.length → sameG (gs.getD (comm gs hs) (0, 0)) (hs.getD (comm gs hs) (0, 0)) = false
  | [], _, h, _ => by simp [comm] at h
  | _ :: _, [], _, h => by simp [comm] at h
  | a :: xs, b :: ys, h1, h2 => by
    by_cases hs : sameG a b = true
    · have e : comm (a :: xs) (b :: ys) = comm xs ys + 1 := by rw [comm, if_pos hs]
      rw [e] at h1 h2 ⊢
      simpa using comm_diff xs ys (by simpa using h1) (by simpa using h2)
    · have e : comm (a :: xs) (b :: ys) = 0 := by rw [comm, if_neg hs]
      rw [e]
      simpa using hs
theorem run_all (E : Int) : ∀ (gs : List Gd) (j : Nat), j < run_ E gs → E ≤ (gs.getD j (0, 0)).1
  | [], _, h => by simp [run_] at h
  | g :: gs, j, h => by
    unfold run_ at h
    split at h
    · omega
    · cases j with
      | zero => simp; omega
      | succ j => simpa using run_all E gs j (by omega)
theorem run_end (E : Int) : ∀ gs : List Gd, run_ E gs = gs.length ∨ (gs.getD (run_ E gs) (0, 0)).1 < E
  | [] => .inl rfl
  | g :: gs => by
    unfold run_
    split
    · right; simpa
    · rcases run_end E gs with h | h
      · left; simp [h]
      · right; simpa using h
theorem stays_all {gs hs : List Gd} {E : Int} {j : Nat} (h1 : comm gs hs ≤ j) (h2 : j < stays gs E hs) : E ≤ (gs.getD j (0, 0)).1 := by
  unfold stays at h2
  split at h2
  · omega
  · have := run_all E (gs.drop (comm gs hs)) (j - comm gs hs) (by omega)
    have e : comm gs hs + (j - comm gs hs) = j := by omega
    simpa [e] using this
theorem stays_end {gs hs : List Gd} {E : Int} (h : ¬ (comm gs hs < gs.length ∧ comm gs hs < hs.length)) : stays gs E hs = gs.length ∨ (gs.getD (stays gs E hs) (0, 0)).1 < E := by
  have hl := comm_le gs hs
  unfold stays
  split
  · left; omega
  · have hr := run_end E (gs.drop (comm gs hs))
    rw [List.length_drop] at hr
    rcases hr with hr | hr
    · left; omega
    · right; simpa using hr
set_option maxRecDepth 100000 in
set_option maxHeartbeats 2000000 in
theorem law_LineKeeps (v : Value) (gs : List Gd) (v' : Value) (x : Ln) (w : World) (hv : InG w v gs) (_ : gs.length ≤ 2 ^ 43) (hv' : InL w v' x) (_ : x.l.length ≤ 2 ^ 43) :
    Calls Try.prog 5 #[v, v'] w fun e w' => e = .returned (.bool true) ∧ Below w.heap.size w w' := by
  obtain ⟨sl, rfl, hs, -, -⟩ := hv'
  obtain ⟨E, B, L, hl⟩ := x
  simp only at hs ⊢
  obtain ⟨a, c, rfl, -, hxh⟩ := hs.open_
  obtain ⟨p, q, rfl, -, hxg⟩ := hv.open_
  have hneq := run_neq_guid
  have hb0 := (Below.refl w.heap.size w).alloc (Nat.le_refl _) (Obj.cells #[.int .u64 E, .int .i64 B, .bool L, .slice a hl.length c] 25)
  have hb1 := Blk.new w 25 #[.int .u64 E, .int .i64 B, .bool L, .slice a hl.length c]
  have hg := hv.keep hb0
  have hh := hs.keep hb0
  have HB0 := Lib.hid hb0
  have HBL := Lib.hid hb1
  have HG := Lib.hid hg
  have HH := Lib.hid hh
  have hn := hv.2.1
  clear hb0 hb1 hg hh hv hs
  go_enter Try.func5, Try.ntmps5
  go_wp2_with fail
  generalize w.alloc (Obj.cells #[.int .u64 E, .int .i64 B, .bool L, .slice a hl.length c] 25) = w1 at *
  refine (works_any _).mono ?_
  rintro e w2 ⟨rfl, hb⟩
  have HB0 := Lib.hid (HB0.out.trans (hb.mono HB0.out.size))
  have HBL := Lib.hid (HBL.out.keep hb)
  have HG := Lib.hid (HG.out.keep hb)
  have HH := Lib.hid (HH.out.keep hb)
  clear hb
  have hle := comm_le gs hl
  have hsl := stays_le gs E hl
  have hsame := comm_same gs hl
  have hdiff := comm_diff gs hl
  have hall : ∀ j, comm gs hl ≤ j → j < stays gs E hl → E ≤ (gs.getD j (0, 0)).1 := fun j h1 h2 => stays_all h1 h2
  have hend := @stays_end gs hl E
  have hcut := stays_cut (gs := gs) (hs := hl) E
  have c1 : ∀ w3, Below w2.heap.size w2 w3 → Calls Try.prog 14 #[.slice p gs.length q, .agg #[.int .u64 E, .int .i64 B, .bool L, .slice a hl.length c]] w3 fun e w' => e = .returned (.int .i64 (comm gs hl : Nat)) ∧ Below w3.heap.size w3 w' := fun w3 hb => common_any _ gs E B L _ hl w3 (HG.out.keep hb) (HH.out.keep hb)
  have c2 : ∀ w3, Below w2.heap.size w2 w3 → Calls Try.prog 16 #[.slice p gs.length q, .agg #[.int .u64 E, .int .i64 B, .bool L, .slice a hl.length c]] w3 fun e w' => e = .returned (.int .i64 (stays gs E hl : Nat)) ∧ Below w3.heap.size w3 w' := fun w3 hb => stays_any _ gs E B L _ hl w3 (HG.out.keep hb) (HH.out.keep hb)
  clear HG HH
  generalize stays gs E hl = s at *
  generalize comm gs hl = m at *
  generalize hZ : (fun j => gs.getD j (0, 0)) = Z at *
  generalize hZ' : (fun j => hl.getD j (0, 0)) = Z' at *
  have g1 : ∀ j, gs.getD j (0, 0) = Z j := fun j => by subst hZ; rfl
  have g2 : ∀ j, hl.getD j (0, 0) = Z' j := fun j => by subst hZ'; rfl
  simp only [g1, g2] at hxg hxh hsame hdiff hall hend
  clear hZ hZ' g1 g2
  generalize gs.length = n at *
  generalize hl.length = n' at *
  unfold maxLen at hn
  have HXG := Lib.hid hxg
  have HXH := Lib.hid hxh
  have HSAME := Lib.hid hsame
  have HDIFF := Lib.hid hdiff
  have HALL := Lib.hid hall
  have HEND := Lib.hid hend
  have HCUT := Lib.hid hcut
  have HLE := Lib.hid (And.intro hle hsl)
  have C1 := Lib.hid c1
  have C2 := Lib.hid c2
  have HN := Lib.hid hn
  have i1 : (m : Int) ≤ (s : Int) := by omega
  have i2 : (s : Int) ≤ (n : Int) := by omega
  have i3 : (m : Int) ≤ (n' : Int) := by omega
  have d1 : decide (s < m) = false := by simp; omega
  have d2 : decide (n < s) = false := by simp; omega
  have d3 : decide (n' < m) = false := by simp; omega
  clear hxg hxh hsame hdiff hall hend hle hsl c1 c2 hn hcut
  go_wp2_with fail
  refine wp_region_spec (fun i => i == 2 || i == 5) (kinds [(2, .is (.int .i64 (m : Int))), (5, .is (.int .i64 (s : Int)))]) (CG w2 [] (Fof w2.heap.size [])) (by kernel_rfl) (by kernel_rfl) (kinds_inh _) CG.start ?_
  intro ν hν
  have n2 : ν 2 = (.int .i64 (m : Int)) := hν 2
  have n5 : ν 5 = (.int .i64 (s : Int)) := hν 5
  clear hν
  refine lex_plain (by rfl) rfl ?_
  apply Exists.intro
  refine ⟨fun σ wq hA hD hC => ?_, ?_⟩
  · clear hA hD hC
    go_simp
    exact And.intro rfl rfl
  simp only [Act.put, List.setIfInBounds_toArray, List.set_cons_succ, List.set_cons_zero, Nat.reduceAdd]
  refine lex_plain (by rfl) rfl ⟨.agg #[.int .u64 E, .int .i64 B, .bool L, .slice a n' c], fun σ wq hA hD hC => ?_, ?_⟩
  · rw [exec_load 25 (.tmp 3) rfl w.heap.size rfl 25 _ _ (HBL.out.keep hC.below) Try.underlying25 rfl (by kernel_rfl)]
    exact ⟨rfl, rfl⟩
  simp only [Act.put, List.setIfInBounds_toArray, List.set_cons_succ, List.set_cons_zero, Nat.reduceAdd]
  refine lex_special (by rfl) rfl (fun σ wq hA hD hn hC => ?_) ?_
  · go_simp
    exact num_ok hC hn (by simp) _ (C1.out _ hC.below) (fun _ _ => trivial) rfl
  rw [n2]
  simp only [Act.put, List.setIfInBounds_toArray, List.set_cons_succ, List.set_cons_zero, Nat.reduceAdd]
  refine lex_plain (by rfl) rfl ?_
  apply Exists.intro
  refine ⟨fun σ wq hA hD hC => ?_, ?_⟩
  · clear hA hD hC
    go_simp
    exact And.intro rfl rfl
  simp only [Act.put, List.setIfInBounds_toArray, List.set_cons_succ, List.set_cons_zero, Nat.reduceAdd]
  refine lex_plain (by rfl) rfl ⟨.agg #[.int .u64 E, .int .i64 B, .bool L, .slice a n' c], fun σ wq hA hD hC => ?_, ?_⟩
  · rw [exec_load 25 (.tmp 3) rfl w.heap.size rfl 25 _ _ (HBL.out.keep hC.below) Try.underlying25 rfl (by kernel_rfl)]
    exact ⟨rfl, rfl⟩
  simp only [Act.put, List.setIfInBounds_toArray, List.set_cons_succ, List.set_cons_zero, Nat.reduceAdd]
  refine lex_special (by rfl) rfl (fun σ wq hA hD hn hC => ?_) ?_
  · go_simp
    exact num_ok hC hn (by simp) _ (C2.out _ hC.below) (fun _ _ => trivial) rfl
  rw [n5]
  simp only [Act.put, List.setIfInBounds_toArray, List.set_cons_succ, List.set_cons_zero, Nat.reduceAdd]
  refine lex_plain (by rfl) rfl ?_
  apply Exists.intro
  refine ⟨fun σ wq hA hD hC => ?_, ?_⟩
  · clear hA hD hC
    go_simp
    exact And.intro rfl rfl
  simp only [Act.put, List.setIfInBounds_toArray, List.set_cons_succ, List.set_cons_zero, Nat.reduceAdd]
  refine lex_plain (by rfl) rfl ?_
  apply Exists.intro
  refine ⟨fun σ wq hA hD hC => ?_, ?_⟩
  · clear hA hD hC
    go_simp
    exact And.intro rfl rfl
  simp only [Act.put, List.setIfInBounds_toArray, List.set_cons_succ, List.set_cons_zero, Nat.reduceAdd]
  refine lex_nil (fun σ w9 hA hall hC => ?_)
  have HB := Lib.hid (HB0.out.trans (hC.below.mono HB0.out.size))
  have HBL := Lib.hid (HBL.out.keep hC.below)
  clear hA hall hC n2 n5 HB0 C1 C2
  have hk3 := HBL.out.cell 3
  simp at hk3
  go_wp2_with fail
  go_loopw [7] (fun x wr => ∃ k : Nat, k ≤ m ∧ x = .int .i64 k ∧ Below w9.heap.size w9 wr) (fun x _ => m - (intOf x).toNat)
  case atStart => exact ⟨0, Nat.zero_le _, rfl, Below.refl _ _⟩
  case round =>
    clear hk3
    obtain ⟨k, hk, rfl, hb⟩ := hrel
    have HBW := Lib.hid hb
    have HBK := Lib.hid (HB.out.trans (hb.mono HB.out.size))
    have HBLK := Lib.hid (HBL.out.keep hb)
    have hk3 := (HBL.out.keep hb).cell 3
    simp at hk3
    clear hb
    by_cases hkm : k < m
    · obtain ⟨g, off, rfl, hc, hd⟩ := HXG.out k (by have := HLE.out; omega)
      obtain ⟨g', off', rfl, hc', hd'⟩ := HXH.out k (by have := HLE.out; omega)
      have hc1 := cell_later HBK.out hc
      have hc2 := cell_later HBK.out hd
      have hc3 := cell_later HBK.out hc'
      have hc4 := cell_later HBK.out hd'
      have hzz := HSAME.out k hkm
      rw [← hzz] at hc3 hc4
      have j1 : (k : Int) < (m : Int) := by omega
      have j2 : (k : Int) < (n : Int) := by omega
      have j3 : (k : Int) < (n' : Int) := by omega
      have j4 : (k : Int) < 9223372036854775807 := by have := HN.out; omega
      have HKM := Lib.hid hkm
      clear hc hd hc' hd' hzz hkm
      generalize Z k = z at *
      obtain ⟨z1, z2⟩ := z
      go_wp2_with fail
      go_quiet (fail)
      have HB1 := Lib.hid (below_drewN HBW.out nq)
      clear HBW HBK HBLK hk3
      go_wp2
      refine ⟨⟨k + 1, by have := HKM.out; omega, by go_num, HB1.out⟩, by have := HKM.out; simp [intOf]; omega⟩
    · have j1 : ¬ (k : Int) < (m : Int) := by omega
      clear hkm hk HBW
      by_cases hA : m < n ∧ m < n'
      · obtain ⟨g, off, rfl, hc, hd⟩ := HXG.out m hA.1
        obtain ⟨g', off', rfl, hc', hd'⟩ := HXH.out m hA.2
        have hc1 := cell_later HBK.out hc
        have hc2 := cell_later HBK.out hd
        have hc3 := cell_later HBK.out hc'
        have hc4 := cell_later HBK.out hd'
        have hz2 := HDIFF.out hA.1 hA.2
        unfold sameG at hz2
        have hsm : s = m := HCUT.out hA.2
        have j2 : (m : Int) < (n : Int) := by omega
        have j3 : (m : Int) < (n' : Int) := by omega
        subst hsm
        clear hc hd hc' hd' hA
        go_wp2_with fail
        go_quiet (fail)
        have HB1 := Lib.hid (below_drewN HBK.out nq)
        clear HBK HBLK hk3
        go_wp2
        go_ret
        exact ⟨rfl, HB1.out⟩
      · have hend := HEND.out hA
        have HENDD := Lib.hid hend
        have hcs : (m < n ∧ ¬ m < n') ∨ ¬ m < n := by omega
        have HA2 := Lib.hid hA
        clear hend hA
        have hboth : ((m : Int) < (n : Int) ∧ ¬ (m : Int) < (n' : Int)) ∨ ¬ (m : Int) < (n : Int) := by omega
        clear hcs
        rcases hboth with ⟨j2, j3⟩ | j2
        all_goals
          go_wp2_with fail
          go_loopw [8] (fun x wr2 => ∃ i : Nat, m ≤ i ∧ i ≤ s ∧ x = .int .i64 i ∧ Below wr.heap.size wr wr2) (fun x _ => s - (intOf x).toNat)
          case atStart => exact ⟨m, Nat.le_refl _, by have := HLE.out; omega, rfl, Below.refl _ _⟩
          case round =>
            rename_i wr2
            obtain ⟨i, hi1, hi2, rfl, hb⟩ := hrel
            have HB2 := Lib.hid hb
            have HBK2 := Lib.hid (HBK.out.trans (hb.mono HBK.out.size))
            have hk0 := (HBLK.out.keep hb).cell 0
            simp at hk0
            clear hb
            have HI := Lib.hid (And.intro hi1 hi2)
            clear hi1 hi2
            by_cases his : i < s
            · obtain ⟨g, off, rfl, hc, hd⟩ := HXG.out i (by have := HLE.out; omega)
              have hc1 := cell_later HBK2.out hc
              have hc2 := cell_later HBK2.out hd
              have hge := HALL.out i HI.out.1 his
              have k1 : (i : Int) < (s : Int) := by omega
              have k2 : (i : Int) < (n : Int) := by omega
              have k4 : (i : Int) < 9223372036854775807 := by have := HN.out; omega
              have HIS := Lib.hid his
              clear hc hd his
              generalize Z i = z at *
              obtain ⟨z1, z2⟩ := z
              have hdd : decide (z1 < E) = false := decide_eq_false (by simp only at hge; omega)
              clear hge
              go_wp2_with fail
              go_quiet (fail)
              have HB3 := Lib.hid (below_drewN HB2.out nq)
              clear HB2 HBK2 hk0
              go_wp2
              refine ⟨⟨i + 1, by have := HI.out; omega, by have := HIS.out; omega, by go_num, HB3.out⟩, by have := HIS.out; simp [intOf]; omega⟩
            · have k1 : ¬ (i : Int) < (s : Int) := by omega
              clear his
              by_cases hsn : s = n
              · have e1 : ((s : Int) == (n : Int)) = true := by simp [hsn]
                have e2 : (s == n) = true := by simp [hsn]
                clear hsn HB2
                go_wp2_with fail
                go_quiet (fail)
                have HB3 := Lib.hid (below_drewN HBK2.out nq)
                clear HBK2 hk0
                go_wp2
                go_ret
                exact ⟨rfl, HB3.out⟩
              · have hlt : (Z s).1 < E := HENDD.out.resolve_left hsn
                obtain ⟨g, off, rfl, hc, hd⟩ := HXG.out s (by have := HLE.out; omega)
                have hc1 := cell_later HBK2.out hc
                have hc2 := cell_later HBK2.out hd
                have k2 : (s : Int) < (n : Int) := by have := HLE.out; omega
                have e1 : ((s : Int) == (n : Int)) = false := by simp; omega
                have e2 : (s == n) = false := by simp [hsn]
                clear hsn HB2 hc hd
                generalize Z s = z at *
                obtain ⟨z1, z2⟩ := z
                have hdd : decide (z1 < E) = true := decide_eq_true hlt
                clear hlt
                go_wp2_with fail
                go_quiet (fail)
                have HB3 := Lib.hid (below_drewN HBK2.out nq)
                clear HBK2 hk0
                go_wp2
                go_ret
                exact ⟨rfl, HB3.out⟩
end Go.Proofs.Ytfkgidljgbhccaa
