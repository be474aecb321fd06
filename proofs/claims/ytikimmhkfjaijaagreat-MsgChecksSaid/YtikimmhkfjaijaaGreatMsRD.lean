/-
  MESSAGES, THE REFERENCE: Encode (printed by wip/gen-msrd.py).
-/
import Derived.Test.YtikimmhkfjaijaaGreatGG
namespace Go.Proofs.YtikimmhkfjaijaaGreat
open Go.RowKit Reg Go.ChangeShapes

theorem rpn (l : List UInt8) (x : Int) (w : World) (hx : u64 x) (hl : l.length ≤ 100000) : Calls Tryz.prog 16 #[.string (strOf l), .int .u64 x] w fun e w' => e = .returned (.string (strOf (l ++ nB x))) ∧ Below w.heap.size w w' := by
  obtain ⟨n, rfl, hn⟩ := u64_nat hx
  have h := refPutNum_any (strOf l) n w hn (by rw [size_strOf]; unfold maxLen; omega)
  rw [strOf_list] at h
  exact h
theorem rpt (l t : List UInt8) (w : World) (hl : l.length ≤ 100000) (ht : t.length ≤ 100000) : Calls Tryz.prog 21 #[.string (strOf l), .string (strOf t)] w fun e w' => e = .returned (.string (strOf (l ++ Wire.putText t))) ∧ Below w.heap.size w w' := by
  have h := refPutText_any (strOf l) (strOf t) w (by rw [size_strOf]; exact ht) (by rw [size_strOf]; omega)
  rw [strOf_list, strOf_list] at h
  exact h
theorem rseal (l : List UInt8) (w : World) (hl : l.length ≤ 100000) : Calls Tryz.prog 22 #[.string (strOf l)] w fun e w' => e = .returned (.string (strOf (Crc.sealed l))) ∧ Below w.heap.size w w' := by
  have h := refSeal_any (strOf l) w (by rw [size_strOf]; unfold maxLen; omega)
  rw [strOf_list] at h
  exact h
theorem rbit_any (b : Bool) (w : World) : Calls Tryz.prog 18 #[.bool b] w fun e w' => e = .returned (.int .u64 ((b01 b : Nat) : Int)) ∧ w = w' := by
  cases b
  all_goals
    go_enter Tryz.func18, Tryz.ntmps18
    go_wp2
    go_ret
    exact ⟨rfl, rfl⟩
theorem b01_u64 (b : Bool) : u64 ((b01 b : Nat) : Int) := by cases b <;> rfl
set_option maxRecDepth 100000 in
theorem rguid_any (l : List UInt8) (g : Gd) (w : World) (hg : wfG g) (hl : l.length ≤ 50000) : Calls Tryz.prog 19 #[.string (strOf l), .agg #[.int .u64 g.1, .int .u64 g.2]] w fun e w' => e = .returned (.string (strOf (l ++ gdB g))) ∧ Below w.heap.size w w' := by
  obtain ⟨a, b⟩ := g
  obtain ⟨h1, h2⟩ := hg
  have hla := nB_le a
  have H1 := Lib.hid (fun w => rpn l a w h1 (by omega))
  have H2 := Lib.hid (fun w => rpn (l ++ nB a) b w h2 (by rw [List.length_append]; omega))
  obtain ⟨L2, hL2⟩ : ∃ L, l ++ nB a = L := ⟨_, rfl⟩
  have e : l ++ gdB (a, b) = L2 ++ nB b := by rw [← hL2]; unfold gdB; rw [List.append_assoc]
  rw [e]
  rw [hL2] at H1 H2
  clear h1 h2 hla hL2 e
  generalize L2 ++ nB b = L3 at *
  have hb := (Below.refl w.heap.size w).alloc (Nat.le_refl _) (Obj.cells #[.int .u64 a, .int .u64 b] 28)
  have hk := Blk.new w 28 #[.int .u64 a, .int .u64 b]
  have HB := Lib.hid hb
  have HK := Lib.hid hk
  clear hb hk
  dsimp only
  go_enter Tryz.func19, Tryz.ntmps19
  go_upto_region 1 with fail
  generalize w.alloc (Obj.cells #[.int .u64 a, .int .u64 b] 28) = w1 at *
  have k0 : w1.cell? ⟨w.heap.size, 0, none⟩ = some (.int .u64 a) := HK.out.cell 0
  have k1 : w1.cell? ⟨w.heap.size, 1, none⟩ = some (.int .u64 b) := HK.out.cell 1
  refine wp_region_chain [3, 6] (kv [(3, .is (.string (strOf L2))), (6, .is (.string (strOf L3)))]) (fun _ w => Below (w1).heap.size (w1) w) (by kernel_rfl) (by kernel_rfl) (by kernel_rfl) (kv_inh _) (Below.drew (Below.refl _ _)) ?_
  intro ν hν
  have n3 : ν 3 = .string (strOf L2) := hν 3
  have n6 : ν 6 = .string (strOf L3) := hν 6
  clear hν
  refine ch_plain 0 2 1 (by rfl) rfl (by kernel_rfl) (by kernel_rfl) ?_
  apply Exists.intro
  refine ⟨fun st w2 hlo hhi hJ => ?_, ?_⟩
  · clear hlo hhi hJ
    go_simp
    exact And.intro rfl rfl
  simp only [Act.put, List.setIfInBounds_toArray, List.set_cons_succ, List.set_cons_zero, Nat.reduceAdd]
  refine ch_plain 0 2 1 (by rfl) rfl (by kernel_rfl) (by kernel_rfl) ?_
  apply Exists.intro
  refine ⟨fun st w2 hlo hhi hJ => ?_, ?_⟩
  · clear hlo hhi hJ
    go_simp
    exact And.intro rfl rfl
  simp only [Act.put, List.setIfInBounds_toArray, List.set_cons_succ, List.set_cons_zero, Nat.reduceAdd]
  refine ch_plain 0 2 1 (by rfl) rfl (by kernel_rfl) (by kernel_rfl) ?_
  apply Exists.intro
  refine ⟨fun st w2 hlo hhi hJ => ?_, ?_⟩
  · replace hJ : Below (w1).heap.size (w1) w2 := hJ
    have y0 := cell_later hJ k0
    clear hlo hhi hJ
    go_simp
    exact And.intro rfl rfl
  simp only [Act.put, List.setIfInBounds_toArray, List.set_cons_succ, List.set_cons_zero, Nat.reduceAdd]
  refine ch_special 0 6 (by rfl) rfl (by decide) (by kernel_rfl) (fun w2 hJ => ?_) ?_
  · replace hJ : Below (w1).heap.size (w1) w2 := hJ
    go_simp
    refine (H1.out w2).mono ?_
    rintro e w3 ⟨rfl, hb⟩
    exact ⟨_, rfl, rfl, hJ.trans (hb.mono hJ.size)⟩
  rw [n3]
  simp only [Act.put, List.setIfInBounds_toArray, List.set_cons_succ, List.set_cons_zero, Nat.reduceAdd]
  refine ch_plain 0 2 1 (by rfl) rfl (by kernel_rfl) (by kernel_rfl) ?_
  apply Exists.intro
  refine ⟨fun st w2 hlo hhi hJ => ?_, ?_⟩
  · clear hlo hhi hJ
    go_simp
    exact And.intro rfl rfl
  simp only [Act.put, List.setIfInBounds_toArray, List.set_cons_succ, List.set_cons_zero, Nat.reduceAdd]
  refine ch_plain 0 2 1 (by rfl) rfl (by kernel_rfl) (by kernel_rfl) ?_
  apply Exists.intro
  refine ⟨fun st w2 hlo hhi hJ => ?_, ?_⟩
  · replace hJ : Below (w1).heap.size (w1) w2 := hJ
    have y1 := cell_later hJ k1
    clear hlo hhi hJ
    go_simp
    exact And.intro rfl rfl
  simp only [Act.put, List.setIfInBounds_toArray, List.set_cons_succ, List.set_cons_zero, Nat.reduceAdd]
  refine ch_special 1 6 (by rfl) rfl (by decide) (by kernel_rfl) (fun w2 hJ => ?_) ?_
  · replace hJ : Below (w1).heap.size (w1) w2 := hJ
    go_simp
    refine (H2.out w2).mono ?_
    rintro e w3 ⟨rfl, hb⟩
    exact ⟨_, rfl, rfl, hJ.trans (hb.mono hJ.size)⟩
  rw [n6]
  simp only [Act.put, List.setIfInBounds_toArray, List.set_cons_succ, List.set_cons_zero, Nat.reduceAdd]
  refine ch_plain 0 2 1 (by rfl) rfl (by kernel_rfl) (by kernel_rfl) ?_
  apply Exists.intro
  refine ⟨fun st w2 hlo hhi hJ => ?_, ?_⟩
  · clear hlo hhi hJ
    go_simp
    exact And.intro rfl rfl
  simp only [Act.put, Nat.reduceAdd]
  refine ch_nil (fun w5 hJ => ?_)
  replace hJ : Below (w1).heap.size (w1) w5 := hJ
  clear n3 n6
  have HB7 := Lib.hid (HB.out.trans (hJ.mono HB.out.size))
  clear hJ H1 H2
  go_wp2
  go_ret
  exact ⟨rfl, HB7.out⟩
theorem take_flat {α : Type} (f : α → List UInt8) (d : α) (l : List α) (k : Nat) (hk : k < l.length) : (l.take (k + 1)).flatMap f = (l.take k).flatMap f ++ f (l.getD k d) := by
  rw [List.take_succ_eq_append_getElem hk, List.flatMap_append, List.getD_eq_getElem?_getD, List.getElem?_eq_getElem hk]
  simp
theorem nat_u64' {n : Nat} (h : n ≤ 1000000) : u64 (n : Int) := nat_u64 (by rw [p256]; omega)
theorem small_u64 {x : Int} (h : 0 ≤ x ∧ x ≤ 9223372036854775807) : u64 x ∧ IntKind.u64.wrap x = x := by
  obtain ⟨n, rfl⟩ : ∃ n : Nat, x = n := ⟨x.toNat, by omega⟩
  have : n < 256 ^ 8 := by rw [p256]; omega
  exact ⟨nat_u64 this, wrap_u64 n this⟩
set_option maxRecDepth 100000 in
set_option maxHeartbeats 2000000 in
theorem rline_any (l : List UInt8) (v : Value) (x : Ln) (w : World) (hv : InL w v x) (hB : 0 ≤ x.B ∧ x.B ≤ 20) (hn : x.l.length ≤ 20) (hgs : ∀ g ∈ x.l, wfG g) (hl : l.length ≤ 20000) : Calls Tryz.prog 17 #[.string (strOf l), v] w fun e w' => e = .returned (.string (strOf (l ++ lineB x))) ∧ Below w.heap.size w w' := by
  obtain ⟨sl, rfl, hs, hE, -⟩ := hv
  obtain ⟨a, c, rfl, -, hxx⟩ := hs.open_
  obtain ⟨E, B, L, gs⟩ := x
  dsimp only at *
  have k1 := nB_le E
  have k2 := nB_le B
  have k3 := putNum_le (b01 L)
  have k4 := nB_le (gs.length : Nat)
  have hB2 := small_u64 (x := B) ⟨hB.1, by omega⟩
  have hn2 := small_u64 (x := (gs.length : Nat)) ⟨by omega, by omega⟩
  obtain ⟨L1, h1⟩ : ∃ X, X = l ++ nB E := ⟨_, rfl⟩
  obtain ⟨L2, h2⟩ : ∃ X, X = L1 ++ nB B := ⟨_, rfl⟩
  obtain ⟨L3, h3⟩ : ∃ X, X = L2 ++ nB ((b01 L : Nat) : Int) := ⟨_, rfl⟩
  obtain ⟨L4, h4⟩ : ∃ X, X = L3 ++ nB (gs.length : Nat) := ⟨_, rfl⟩
  have b1 : L1.length ≤ 20010 := by rw [h1, List.length_append]; omega
  have b2 : L2.length ≤ 20020 := by rw [h2, List.length_append]; omega
  have b3 : L3.length ≤ 20030 := by rw [h3, List.length_append]; have : (nB ((b01 L : Nat) : Int)).length ≤ 9 := k3; omega
  have b4 : L4.length ≤ 20040 := by rw [h4, List.length_append]; omega
  have H1 := Lib.hid (fun w => rpn l E w hE (by omega))
  rw [← h1] at H1
  have H2 := Lib.hid (fun w => rpn L1 B w hB2.1 (by omega))
  rw [← h2] at H2
  have H3 := Lib.hid (fun w => rpn L2 ((b01 L : Nat) : Int) w (b01_u64 L) (by omega))
  rw [← h3] at H3
  have H4 := Lib.hid (fun w => rpn L3 (gs.length : Nat) w hn2.1 (by omega))
  rw [← h4] at H4
  obtain ⟨S, hS⟩ : ∃ S : Nat → List UInt8, S = fun k => L4 ++ (gs.take k).flatMap gdB := ⟨_, rfl⟩
  have S0 : S 0 = L4 := by rw [hS]; simp
  have SN : S gs.length = l ++ lineB ⟨E, B, L, gs⟩ := by
    rw [hS]
    dsimp only
    rw [List.take_length, h4, h3, h2, h1]
    unfold lineB
    simp only [List.append_assoc]
    rfl
  have SS : ∀ k, k < gs.length → ∀ w, Calls Tryz.prog 19 #[.string (strOf (S k)), .agg #[.int .u64 (gs.getD k (0, 0)).1, .int .u64 (gs.getD k (0, 0)).2]] w fun e w' => e = .returned (.string (strOf (S (k + 1)))) ∧ Below w.heap.size w w' := fun k hk w => by
    have hwf : wfG (gs.getD k (0, 0)) := by rw [List.getD_eq_getElem?_getD, List.getElem?_eq_getElem hk]; exact hgs _ (List.getElem_mem hk)
    have hlen : (S k).length ≤ 50000 := by
      rw [hS]
      dsimp only
      rw [List.length_append]
      have := flat_le gdB 18 gdB_le (gs.take k)
      rw [List.length_take] at this
      omega
    have e : S (k + 1) = S k ++ gdB (gs.getD k (0, 0)) := by
      rw [hS]
      dsimp only
      rw [take_flat gdB (0, 0) gs k hk, List.append_assoc]
    rw [e]
    exact rguid_any (S k) (gs.getD k (0, 0)) w hwf hlen
  rw [← SN]
  have HS := Lib.hid SS
  have i2 := hB2.2
  have i4 := hn2.2
  clear SN h1 h2 h3 h4 b1 b2 b3 b4 k1 k2 k3 k4 hS SS hB hgs hl hB2 hn2 hE hs
  generalize hZ : (fun j => (gs.getD j (0, 0))) = Z at *
  have g1 : ∀ j, gs.getD j (0, 0) = Z j := fun j => by subst hZ; rfl
  simp only [g1] at hxx HS
  clear hZ g1
  generalize gs.length = n at *
  have HX := Lib.hid hxx
  have HN := Lib.hid hn
  have hb := (Below.refl w.heap.size w).alloc (Nat.le_refl _) (Obj.cells #[.int .u64 E, .int .i64 B, .bool L, .slice a n c] 26)
  have HB := Lib.hid hb
  have HK := Lib.hid (Blk.new w 26 #[.int .u64 E, .int .i64 B, .bool L, .slice a n c])
  clear hxx hn hb
  go_enter Tryz.func17, Tryz.ntmps17
  go_upto_region 1 with fail
  generalize w.alloc (Obj.cells #[.int .u64 E, .int .i64 B, .bool L, .slice a n c] 26) = w1 at *
  have k0 := HK.out.cell 0
  simp at k0
  go_wp2_with fail
  refine (H1.out _).mono ?_
  rintro e w2 ⟨rfl, hb⟩
  replace HB := Lib.hid (HB.out.trans (hb.mono HB.out.size))
  replace HK := Lib.hid (HK.out.keep hb)
  clear hb k0 H1
  have k1 := HK.out.cell 1
  simp at k1
  go_wp2_with fail
  refine (H2.out _).mono ?_
  rintro e w3 ⟨rfl, hb⟩
  replace HB := Lib.hid (HB.out.trans (hb.mono HB.out.size))
  replace HK := Lib.hid (HK.out.keep hb)
  clear hb k1 H2 i2
  have k2 := HK.out.cell 2
  simp at k2
  go_wp2_with fail
  refine (rbit_any _ _).mono ?_
  rintro e w4 ⟨rfl, rfl⟩
  go_wp2_with fail
  refine (H3.out _).mono ?_
  rintro e w5 ⟨rfl, hb⟩
  replace HB := Lib.hid (HB.out.trans (hb.mono HB.out.size))
  replace HK := Lib.hid (HK.out.keep hb)
  clear hb k2 H3
  have k3 := HK.out.cell 3
  simp at k3
  go_wp2_with fail
  refine (H4.out _).mono ?_
  rintro e w6 ⟨rfl, hb⟩
  replace HB := Lib.hid (HB.out.trans (hb.mono HB.out.size))
  replace HK := Lib.hid (HK.out.keep hb)
  clear hb k3 H4 i4
  rw [← S0]
  have HS0 := Lib.hid S0
  clear S0
  go_wp2_with fail
  go_loopw [0, 5] (fun s i wr => ∃ k : Nat, k ≤ n ∧ s = .string (strOf (S k)) ∧ i = .int .i64 k ∧ Below w.heap.size w wr ∧ Blk wr w.heap.size 26 #[.int .u64 E, .int .i64 B, .bool L, .slice a n c]) (fun _ i _ => n - (intOf i).toNat)
  case atStart => exact ⟨0, Nat.zero_le _, rfl, rfl, HB.out, HK.out⟩
  case round =>
    obtain ⟨k, hk, rfl, rfl, hb, hbk⟩ := hrel
    clear HB HK
    have HB := Lib.hid hb
    have HK := Lib.hid hbk
    have k3 := hbk.cell 3
    simp at k3
    clear hb hbk
    by_cases hkn : k < n
    · obtain ⟨g, off, rfl, hc, hd⟩ := HX.out k hkn
      have c1 := cell_later HB.out hc
      have c2 := cell_later HB.out hd
      have i1 : (k : Int) < (n : Int) := by omega
      have HC := Lib.hid (HS.out k hkn)
      have HKN := Lib.hid hkn
      have I9 := Lib.hid (show wrap64 ((k : Int) + 1) = (k : Int) + 1 from IntWalk.wrap64_in _ (by have := HN.out; omega))
      clear hc hd hkn hk
      generalize Z k = z at *
      obtain ⟨z1, z2⟩ := z
      dsimp only at c1 c2
      go_wp2_with fail
      refine (HC.out _).mono ?_
      rintro e w8 ⟨rfl, hb⟩
      have HB8 := Lib.hid (HB.out.trans (hb.mono HB.out.size))
      have HK8 := Lib.hid (HK.out.keep hb)
      clear hb c1 c2 k3
      go_wp2
      rw [I9.out]
      exact ⟨⟨k + 1, HKN.out, rfl, rfl, HB8.out, HK8.out⟩, meas_succ HKN.out⟩
    · obtain rfl : k = n := by omega
      clear hkn hk
      go_wp2
      go_ret
      exact ⟨rfl, HB.out⟩
end Go.Proofs.YtikimmhkfjaijaaGreat
