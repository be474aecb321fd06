/-
  THE REFERENCE's SMALL FUNCTIONS (printed by wip/gen-tells1.py).
-/
import Derived.Test.YteplcpiamocclaaLook10
namespace Go.Proofs.Yteplcpiamocclaa
open Go.RowKit Reg Go.ChangeShapes

set_option maxRecDepth 100000 in
theorem commonR_any (v : Value) (gs : List Gd) (E B : Int) (L : Bool) (sl : Value) (hs : List Gd) (w : World) (hv : InG w v gs) (hv' : InG w sl hs) :
    Calls Try.prog 54 #[v, .agg #[.int .u64 E, .int .i64 B, .bool L, sl]] w fun e w' => e = .returned (.int .i64 (comm gs hs : Nat)) ∧ Below w.heap.size w w' := by
  obtain ⟨a, c, rfl, -, hx⟩ := hv.open_
  obtain ⟨a', c', rfl, -, hx'⟩ := hv'.open_
  have heq := run_eq_guid
  have hres := comm_spec gs hs
  generalize comm gs hs = m at *
  generalize hZ : (fun j => gs.getD j (0, 0)) = Z at *
  generalize hZ' : (fun j => hs.getD j (0, 0)) = Z' at *
  have g1 : ∀ j, gs.getD j (0, 0) = Z j := fun j => by subst hZ; rfl
  have g2 : ∀ j, hs.getD j (0, 0) = Z' j := fun j => by subst hZ'; rfl
  simp only [g1] at hx hres
  simp only [g2] at hx' hres
  have hn := hv.2.1
  have hn' := hv'.2.1
  clear hZ hZ' hv hv' g1 g2
  generalize gs.length = n at *
  generalize hs.length = n' at *
  have HX := Lib.hid hx
  have HX' := Lib.hid hx'
  have HR := Lib.hid hres
  have HN := Lib.hid hn
  have HN' := Lib.hid hn'
  clear hx hx' hres hn hn'
  go_enter Try.func54, Try.ntmps54
  go_wp2_with fail
  have hblk := Blk.new w 37 #[.int .u64 E, .int .i64 B, .bool L, .slice a' n' c']
  have hb0 := (Below.refl w.heap.size w).alloc (Nat.le_refl _) (Obj.cells #[.int .u64 E, .int .i64 B, .bool L, .slice a' n' c'] 37)
  generalize w.alloc (Obj.cells #[.int .u64 E, .int .i64 B, .bool L, .slice a' n' c'] 37) = w1 at *
  have HBLK := Lib.hid hblk
  have HB0 := Lib.hid hb0
  clear hblk hb0
  go_loopw [5] (fun i wr => ∃ k : Nat, k ≤ n ∧ k ≤ n' ∧ (∀ j, j < k → Z j = Z' j) ∧ i = .int .i64 k ∧ Below w1.heap.size w1 wr) (fun i _ => n - (intOf i).toNat)
  case atStart => exact ⟨0, Nat.zero_le _, Nat.zero_le _, fun j hj => by omega, rfl, Below.refl _ _⟩
  case round =>
    obtain ⟨k, hk, hk', hq, rfl, hb⟩ := hrel
    have HB := Lib.hid (HB0.out.trans (hb.mono HB0.out.size))
    have HBW := Lib.hid hb
    have hbk := (HBLK.out.keep hb).cell 3
    have HQ := Lib.hid hq
    simp at hbk
    clear hb hq
    have HK := Lib.hid (And.intro hk hk')
    clear hk hk'
    by_cases hkn : k < n ∧ k < n'
    · obtain ⟨g, off, rfl, hc, hd⟩ := HX.out k hkn.1
      obtain ⟨g', off', rfl, hc', hd'⟩ := HX'.out k hkn.2
      have hc1 := cell_later HB.out hc
      have hc2 := cell_later HB.out hd
      have hc3 := cell_later HB.out hc'
      have hc4 := cell_later HB.out hd'
      have i1 : (k : Int) < (n : Int) := by omega
      have i2 : (k : Int) < (n' : Int) := by omega
      have d1 : decide ((k : Int) < (n : Int)) = true := decide_eq_true i1
      have d2 : decide ((k : Int) < (n' : Int)) = true := decide_eq_true i2
      have hn := HN.out
      unfold maxLen at hn
      have k9 : (k : Int) < 9223372036854775807 := by omega
      have HKN := Lib.hid hkn
      clear hc hd hc' hd' hkn hn
      by_cases hz : sameG (Z k) (Z' k) = true
      · have hzz := sameG_iff.1 hz
        unfold sameG at hz
        have HZ := Lib.hid hzz
        clear hzz
        go_wp2_with fail
        go_quiet (fail)
        have HB1 := Lib.hid (below_drewN HBW.out nq)
        clear HB HBW hbk
        go_wp2
        have hkn := HKN.out
        refine ⟨⟨k + 1, by omega, by omega, ?_, by go_num, HB1.out⟩, by simp [intOf]; omega⟩
        intro j hj
        rcases Nat.lt_succ_iff_lt_or_eq.1 hj with h | rfl
        · exact HQ.out j h
        · exact HZ.out
      · have hb : m = k := HR.out k HK.out.1 HK.out.2 HQ.out (.inr (.inr fun h => hz (sameG_iff.2 h)))
        have hz2 : sameG (Z k) (Z' k) = false := by simpa using hz
        unfold sameG at hz2
        have HBB := Lib.hid hb
        clear hb hz
        go_wp2_with fail
        go_quiet (fail)
        have HB1 := Lib.hid (below_drewN HB.out nq)
        clear HB HBW hbk
        go_wp2
        go_ret
        exact ⟨by rw [HBB.out]; rfl, HB1.out⟩
    · have hb : m = k := HR.out k HK.out.1 HK.out.2 HQ.out (by have := HK.out; omega)
      have HBB := Lib.hid hb
      clear hb
      by_cases hkn1 : k < n
      · have i1 : (k : Int) < (n : Int) := by omega
        have i2 : ¬ (k : Int) < (n' : Int) := by omega
        have d1 : decide ((k : Int) < (n : Int)) = true := decide_eq_true i1
        have d2 : decide (k < n') = false := decide_eq_false (by omega)
        clear hkn hkn1
        go_wp2_with fail
        go_quiet (fail)
        have HB1 := Lib.hid (below_drewN HB.out nq)
        clear HB HBW hbk
        go_wp2
        go_ret
        exact ⟨by rw [HBB.out]; rfl, HB1.out⟩
      · have i1 : ¬ (k : Int) < (n : Int) := by omega
        have d1 : decide (k < n) = false := decide_eq_false hkn1
        clear hkn hkn1
        go_wp2_with fail
        go_quiet (fail)
        have HB1 := Lib.hid (below_drewN HB.out nq)
        clear HB HBW hbk
        go_wp2
        go_ret
        exact ⟨by rw [HBB.out]; rfl, HB1.out⟩

theorem begB_yes {gs hs : List Gd} (hl : gs.length ≤ hs.length) (h : ∀ j, j < gs.length → gth gs j = gth hs j) : begB gs hs = true := by
  unfold begB
  rw [decide_eq_true hl, Bool.true_and, decide_eq_true_iff]
  apply List.ext_getElem
  · rw [List.length_take]; omega
  intro i h1 h2
  have := h i h1
  unfold gth at this
  simp only [List.getD_eq_getElem?_getD] at this
  rw [List.getElem?_eq_getElem h1, List.getElem?_eq_getElem (by omega)] at this
  rw [List.getElem_take]
  simpa using this
theorem begB_no {gs hs : List Gd} {k : Nat} (hk : k < gs.length) (h : gth gs k ≠ gth hs k) : begB gs hs = false := by
  unfold begB
  rw [Bool.and_eq_false_iff]
  right
  rw [decide_eq_false_iff_not]
  intro e
  apply h
  have h1 := congrArg (fun l => gth l k) e
  simp only [gth, List.getD_eq_getElem?_getD] at h1 ⊢
  rw [h1, List.getElem?_take_of_lt hk]
theorem begB_long {gs hs : List Gd} (h : ¬ gs.length ≤ hs.length) : begB gs hs = false := by
  unfold begB
  rw [decide_eq_false h, Bool.false_and]
theorem beginsR_any (v v' : Value) (gs hs : List Gd) (w : World) (hv : InG w v gs) (hv' : InG w v' hs) :
    Calls Try.prog 43 #[v, v'] w fun e w' => e = .returned (.bool (begB gs hs)) ∧ Below w.heap.size w w' := by
  obtain ⟨a, c, rfl, -, hx⟩ := hv.open_
  obtain ⟨a', c', rfl, -, hx'⟩ := hv'.open_
  have hneq := run_neq_guid
  have hr1 := fun (h1 : gs.length ≤ hs.length) (h2 : ∀ j, j < gs.length → gth gs j = gth hs j) => begB_yes h1 h2
  have hr2 := fun (k : Nat) (h1 : k < gs.length) (h2 : gth gs k ≠ gth hs k) => begB_no h1 h2
  have hr3 := fun (h1 : ¬ gs.length ≤ hs.length) => begB_long h1
  change ∀ j, j < gs.length → ∃ g off, a = some ⟨g, off, none⟩ ∧ w.cell? ⟨g, off + j * 2, none⟩ = some (.int .u64 (gth gs j).1) ∧ w.cell? ⟨g, off + j * 2 + 1, none⟩ = some (.int .u64 (gth gs j).2) at hx
  change ∀ j, j < hs.length → ∃ g off, a' = some ⟨g, off, none⟩ ∧ w.cell? ⟨g, off + j * 2, none⟩ = some (.int .u64 (gth hs j).1) ∧ w.cell? ⟨g, off + j * 2 + 1, none⟩ = some (.int .u64 (gth hs j).2) at hx'
  have hn := hv.2.1
  clear hv hv'
  generalize begB gs hs = m at *
  generalize gth gs = Z at *
  generalize gth hs = Z' at *
  generalize gs.length = n at *
  generalize hs.length = n' at *
  have HX := Lib.hid hx
  have HX' := Lib.hid hx'
  have HR1 := Lib.hid hr1
  have HR2 := Lib.hid hr2
  have HR3 := Lib.hid hr3
  have HN := Lib.hid hn
  clear hx hx' hr1 hr2 hr3 hn
  go_enter Try.func43, Try.ntmps43
  by_cases hl : n ≤ n'
  · have i0 : ¬ (n : Int) > (n' : Int) := by omega
    have HL := Lib.hid hl
    clear hl
    go_wp2_with fail
    go_loopw [5] (fun i wr => ∃ k : Nat, k ≤ n ∧ (∀ j, j < k → Z j = Z' j) ∧ i = .int .i64 k ∧ Below w.heap.size w wr) (fun i _ => n - (intOf i).toNat)
    case atStart => exact ⟨0, Nat.zero_le _, fun j hj => by omega, rfl, Below.refl _ _⟩
    case round =>
      obtain ⟨k, hk, hq, rfl, hb⟩ := hrel
      have HB := Lib.hid hb
      have HQ := Lib.hid hq
      clear hb hq
      by_cases hkn : k < n
      · obtain ⟨g, off, rfl, hc, hd⟩ := HX.out k hkn
        obtain ⟨g', off', rfl, hc', hd'⟩ := HX'.out k (by have := HL.out; omega)
        have hc1 := cell_later HB.out hc
        have hc2 := cell_later HB.out hd
        have hc3 := cell_later HB.out hc'
        have hc4 := cell_later HB.out hd'
        have i1 : (k : Int) < (n : Int) := by omega
        have i2 : (k : Int) < (n' : Int) := by have := HL.out; omega
        have hn := HN.out
        unfold maxLen at hn
        have k9 : (k : Int) < 9223372036854775807 := by omega
        have HKN := Lib.hid hkn
        clear hc hd hc' hd' hkn hn hk
        by_cases hz : sameG (Z k) (Z' k) = true
        · have hzz := sameG_iff.1 hz
          unfold sameG at hz
          have HZ := Lib.hid hzz
          clear hzz
          go_wp2_with fail
          go_quiet (fail)
          have HB1 := Lib.hid (below_drewN HB.out nq)
          clear HB
          go_wp2
          have hkn := HKN.out
          refine ⟨⟨k + 1, by omega, ?_, by go_num, HB1.out⟩, by simp [intOf]; omega⟩
          intro j hj
          rcases Nat.lt_succ_iff_lt_or_eq.1 hj with h | rfl
          · exact HQ.out j h
          · exact HZ.out
        · have hb : m = false := HR2.out k HKN.out (fun h => hz (sameG_iff.2 h))
          have hz2 : sameG (Z k) (Z' k) = false := by simpa using hz
          unfold sameG at hz2
          have HBB := Lib.hid hb
          clear hb hz
          go_wp2_with fail
          go_quiet (fail)
          have HB1 := Lib.hid (below_drewN HB.out nq)
          clear HB
          go_wp2
          go_ret
          exact ⟨by rw [HBB.out]; rfl, HB1.out⟩
      · obtain rfl : n = k := by omega
        have hb : m = true := HR1.out HL.out HQ.out
        have HBB := Lib.hid hb
        clear hb hkn hk
        go_wp2
        go_ret
        exact ⟨by rw [HBB.out]; rfl, HB.out⟩
  · have i0 : (n : Int) > (n' : Int) := by omega
    have HBB := Lib.hid (HR3.out hl)
    clear hl
    go_wp2
    go_ret
    exact ⟨by rw [HBB.out]; rfl, Below.refl _ _⟩
theorem inB_yes {gs : List Gd} {g : Gd} {k : Nat} (hk : k < gs.length) (h : gth gs k = g) : decide (g ∈ gs) = true := decide_eq_true (mem_iff_gth.2 ⟨k, hk, h⟩)
theorem inB_no {gs : List Gd} {g : Gd} (h : ∀ j, j < gs.length → gth gs j ≠ g) : decide (g ∈ gs) = false := decide_eq_false fun e => by
  obtain ⟨j, hj, e⟩ := mem_iff_gth.1 e
  exact h j hj e
theorem inR_any (v : Value) (gs : List Gd) (g : Gd) (w : World) (hv : InG w v gs) :
    Calls Try.prog 46 #[v, aggG g] w fun e w' => e = .returned (.bool (decide (g ∈ gs))) ∧ Below w.heap.size w w' := by
  obtain ⟨a, c, rfl, -, hx⟩ := hv.open_
  have heq := run_eq_guid
  have hr1 := fun (k : Nat) (h1 : k < gs.length) (h2 : gth gs k = g) => inB_yes h1 h2
  have hr2 := fun (h1 : ∀ j, j < gs.length → gth gs j ≠ g) => inB_no h1
  change ∀ j, j < gs.length → ∃ g off, a = some ⟨g, off, none⟩ ∧ w.cell? ⟨g, off + j * 2, none⟩ = some (.int .u64 (gth gs j).1) ∧ w.cell? ⟨g, off + j * 2 + 1, none⟩ = some (.int .u64 (gth gs j).2) at hx
  have hn := hv.2.1
  clear hv
  generalize decide (g ∈ gs) = m at *
  generalize gth gs = Z at *
  generalize gs.length = n at *
  obtain ⟨ga, gb⟩ := g
  have hb0 := (Below.refl w.heap.size w).alloc (Nat.le_refl _) (Obj.cells #[.int .u64 ga, .int .u64 gb] 34)
  have bg := Blk.new w 34 #[.int .u64 ga, .int .u64 gb]
  have HX := Lib.hid hx
  have HN := Lib.hid hn
  have HR1 := Lib.hid hr1
  have HR2 := Lib.hid hr2
  have HB0 := Lib.hid hb0
  have HBG := Lib.hid bg
  clear hx hn hr1 hr2 hb0 bg
  unfold aggG
  simp only
  go_enter Try.func46, Try.ntmps46
  go_wp2_with fail
  generalize w.alloc (Obj.cells #[.int .u64 ga, .int .u64 gb] 34) = w1 at *
  obtain ⟨qx, hqx⟩ : ∃ z, z = w.heap.size := ⟨_, rfl⟩
  rw [← hqx] at HBG
  rw [← hqx]
  clear hqx
  go_loopw [5] (fun i wr => ∃ k : Nat, k ≤ n ∧ i = .int .i64 k ∧ Below w.heap.size w wr ∧ Blk wr qx 34 #[.int .u64 ga, .int .u64 gb] ∧ ∀ j, j < k → Z j ≠ (ga, gb)) (fun i _ => n - (intOf i).toNat)
  case atStart => exact ⟨0, Nat.zero_le _, rfl, HB0.out, HBG.out, fun j hj => absurd hj (Nat.not_lt_zero j)⟩
  case round =>
    obtain ⟨k, hk, rfl, hb, hbg, hq⟩ := hrel
    have HB := Lib.hid hb
    have HBG := Lib.hid hbg
    have HQ := Lib.hid hq
    have d1 := hbg.cell 0
    have d2 := hbg.cell 1
    simp at d1 d2
    have hn := HN.out
    unfold maxLen at hn
    clear hb hbg hq
    by_cases hkn : k < n
    · obtain ⟨g, off, rfl, hc, hd⟩ := HX.out k hkn
      have hc := cell_later HB.out hc
      have hd := cell_later HB.out hd
      have i1 : (k : Int) < (n : Int) := by omega
      have i9 : (k : Int) < 9223372036854775807 := by omega
      have HKN := Lib.hid hkn
      clear hkn hn hk
      by_cases hz : sameG (Z k) (ga, gb) = true
      · have hr := HR1.out k HKN.out (sameG_iff.1 hz)
        have HRR := Lib.hid hr
        unfold sameG at hz
        simp only at hz
        clear hr
        go_wp2_with fail
        go_quiet (fail)
        have HB1 := Lib.hid (below_drewN HB.out nq)
        clear HB HBG
        go_wp2
        go_ret
        exact ⟨by rw [HRR.out]; rfl, HB1.out⟩
      · have HZ := Lib.hid (show Z k ≠ (ga, gb) from fun h => hz (sameG_iff.2 h))
        have hz2 : sameG (Z k) (ga, gb) = false := by simpa using hz
        unfold sameG at hz2
        simp only at hz2
        clear hz
        go_wp2_with fail
        go_quiet (fail)
        have HB1 := Lib.hid (below_drewN HB.out nq)
        have HBG1 := Lib.hid (HBG.out.keep (below_drewN (Below.refl _ _) nq))
        clear HB HBG
        have hkn := HKN.out
        go_wp2
        refine ⟨⟨k + 1, by omega, by go_num, HB1.out, HBG1.out, fun j hj => ?_⟩, by simp [intOf]; omega⟩
        rcases Nat.lt_succ_iff_lt_or_eq.1 hj with h | rfl
        · exact HQ.out j h
        · exact HZ.out
    · obtain rfl : n = k := by omega
      have HRR := Lib.hid (HR2.out HQ.out)
      clear hkn hn hk
      go_wp2
      go_ret
      exact ⟨by rw [HRR.out]; rfl, HB.out⟩
theorem knownR_any (v : Value) (es : List El) (w : World) (hv : InS w v es) :
    Calls Try.prog 44 #[v] w fun e w' => ∃ u, e = .returned u ∧ InG w u (kn es) ∧ Below w.heap.size w w' := by
  obtain ⟨a, c, rfl, hc, hm, hx⟩ := hv
  obtain ⟨n, hn⟩ : ∃ z, z = es.length := ⟨_, rfl⟩
  rw [← hn] at hx hc hm
  rw [← hn]
  have HX := Lib.hid hx
  have HM := Lib.hid hm
  have HN := Lib.hid hn
  clear hx hc hm hn
  go_enter Try.func44, Try.ntmps44
  go_wp2_with fail
  go_loopw [3, 4] (fun o i wr => ∃ (k : Nat), k ≤ n ∧ i = .int .i64 k ∧ w = wr ∧ InG w o (kn (es.take k))) (fun _ i _ => n - (intOf i).toNat)
  case atStart => exact ⟨0, Nat.zero_le _, rfl, rfl, InG.nil_ _⟩
  case round =>
    obtain ⟨k, hk, rfl, rfl, ho⟩ := hrel
    obtain ⟨oa, oc, rfl⟩ := ho.slice_
    have HO := Lib.hid ho
    have hm := HM.out
    unfold maxLen at hm
    by_cases hkn : k < n
    · obtain ⟨⟨g, off, rfl, hs⟩, hok⟩ := HX.out k hkn
      change SeenAt w g (off + k * 9) (nth es k) at hs
      change ElOK w (nth es k) at hok
      have hsn := take_snoc (es := es) (k := k) (by have := HN.out; omega)
      obtain ⟨x, hx⟩ : ∃ z, z = nth es k := ⟨_, rfl⟩
      rw [← hx] at hs hok hsn
      obtain ⟨s0, s1, s2, s3, s4, s5, s6, s7, s8⟩ := hs
      dsimp only [El.vl] at s5
      have hks := kn_snoc (es.take k) x
      rw [← hsn] at hks
      have HOK := Lib.hid hok
      have HKN := Lib.hid hkn
      have i1 : (k : Int) < (n : Int) := by omega
      have i9 : (k : Int) < 9223372036854775807 := by omega
      obtain ⟨kz, hkz⟩ : ∃ z, z = kn (es.take k) := ⟨_, rfl⟩
      rw [← hkz] at hks HO
      rw [← hkz]
      clear hx hsn hok ho hkn hk hm s0 s1 s2 s3 s4 s6 s7 s8 hkz
      by_cases hlt : kz.length < x.line.length
      · rw [if_pos hlt] at hks
        have i2 : (kz.length : Int) < (x.line.length : Int) := by omega
        have HKS := Lib.hid hks
        clear hlt hks
        go_wp2
        have hkn := HKN.out
        refine ⟨⟨k + 1, by omega, by go_num, by trivial, by rw [HKS.out]; exact HOK.out.1⟩, by simp [intOf]; omega⟩
      · rw [if_neg hlt] at hks
        have i2 : ¬ ((kz.length : Int) < (x.line.length : Int)) := by omega
        have HKS := Lib.hid hks
        clear hlt hks
        go_wp2
        have hkn := HKN.out
        refine ⟨⟨k + 1, by omega, by go_num, by trivial, by rw [HKS.out]; exact HO.out⟩, by simp [intOf]; omega⟩
    · obtain rfl : n = k := by omega
      have htk : es.take n = es := by have := HN.out; rw [this]; exact List.take_length
      rw [htk] at HO
      rw [htk]
      clear hkn hk hm ho
      go_wp2
      go_ret
      exact ⟨_, rfl, HO.out, Below.refl _ _⟩
theorem common27_any (v v' : Value) (gs hs : List Gd) (w : World) (hv : InG w v gs) (hv' : InG w v' hs) :
    Calls Try.prog 45 #[v, v'] w fun e w' => e = .returned (.int .i64 (comm gs hs : Nat)) ∧ Below w.heap.size w w' := by
  obtain ⟨a', c', rfl⟩ := hv'.slice_
  go_enter Try.func45, Try.ntmps45
  go_wp2_with fail
  refine (commonR_any v gs 0 0 false _ hs w hv hv').mono ?_
  rintro e w1 ⟨rfl, hb⟩
  have HB := Lib.hid hb
  clear hb
  go_wp2
  go_ret
  exact ⟨rfl, HB.out⟩
end Go.Proofs.Yteplcpiamocclaa
