/-
  WHAT IS COMMON AND WHAT STAYS, the reference's way.
-/
import Derived.Test.YtfkgidljgbhccaaLineStays
namespace Go.Proofs.Ytfkgidljgbhccaa
open Go.RowKit Reg

set_option maxRecDepth 100000 in
theorem commonR_any (v : Value) (gs : List Gd) (E B : Int) (L : Bool) (sl : Value) (hs : List Gd) (w : World) (hv : InG w v gs) (hv' : InG w sl hs) :
    Calls Try.prog 15 #[v, .agg #[.int .u64 E, .int .i64 B, .bool L, sl]] w fun e w' => e = .returned (.int .i64 (comm gs hs : Nat)) ∧ Below w.heap.size w w' := by
  obtain ⟨a, c, rfl, -, hx⟩ := hv.open_
  obtain ⟨a', c', rfl, -, hx'⟩ := hv'.open_
  have heq := run_eq_guid
  have hres := comm_spec gs hs
  generalize comm gs hs = m at *
  generalize hZ : (fun j => gs.getD j (0, 0)) = Z at *
  generalize hZ' : (fun j => hs.getD j (0, 0)) = Z' at *
  have g1 : ∀ j, gs.getD j (0, 0) = Z j := fun j => by subst hZ; rfl
  have g2 : ∀ j, hs.getD j (0, 0) = Z' j := fun j => by subst hZ'; rfl
  simp only [g1] at hx hres
  simp only [g2] at hx' hres
  have hn := hv.2.1
  have hn' := hv'.2.1
  clear hZ hZ' hv hv' g1 g2
  generalize gs.length = n at *
  generalize hs.length = n' at *
  have HX := Lib.hid hx
  have HX' := Lib.hid hx'
  have HR := Lib.hid hres
  have HN := Lib.hid hn
  have HN' := Lib.hid hn'
  clear hx hx' hres hn hn'
  go_enter Try.func15, Try.ntmps15
  go_wp2_with fail
  have hblk := Blk.new w 25 #[.int .u64 E, .int .i64 B, .bool L, .slice a' n' c']
  have hb0 := (Below.refl w.heap.size w).alloc (Nat.le_refl _) (Obj.cells #[.int .u64 E, .int .i64 B, .bool L, .slice a' n' c'] 25)
  generalize w.alloc (Obj.cells #[.int .u64 E, .int .i64 B, .bool L, .slice a' n' c'] 25) = w1 at *
  have HBLK := Lib.hid hblk
  have HB0 := Lib.hid hb0
  clear hblk hb0
  go_loopw [5] (fun i wr => ∃ k : Nat, k ≤ n ∧ k ≤ n' ∧ (∀ j, j < k → Z j = Z' j) ∧ i = .int .i64 k ∧ Below w1.heap.size w1 wr) (fun i _ => n - (intOf i).toNat)
  case atStart => exact ⟨0, Nat.zero_le _, Nat.zero_le _, fun j hj => by omega, rfl, Below.refl _ _⟩
  case round =>
    obtain ⟨k, hk, hk', hq, rfl, hb⟩ := hrel
    have HB := Lib.hid (HB0.out.trans (hb.mono HB0.out.size))
    have HBW := Lib.hid hb
    have hbk := (HBLK.out.keep hb).cell 3
    have HQ := Lib.hid hq
    simp at hbk
    clear hb hq
    have HK := Lib.hid (And.intro hk hk')
    clear hk hk'
    by_cases hkn : k < n ∧ k < n'
    · obtain ⟨g, off, rfl, hc, hd⟩ := HX.out k hkn.1
      obtain ⟨g', off', rfl, hc', hd'⟩ := HX'.out k hkn.2
      have hc1 := cell_later HB.out hc
      have hc2 := cell_later HB.out hd
      have hc3 := cell_later HB.out hc'
      have hc4 := cell_later HB.out hd'
      have i1 : (k : Int) < (n : Int) := by omega
      have i2 : (k : Int) < (n' : Int) := by omega
      have d1 : decide ((k : Int) < (n : Int)) = true := decide_eq_true i1
      have d2 : decide ((k : Int) < (n' : Int)) = true := decide_eq_true i2
      have hn := HN.out
      unfold maxLen at hn
      have k9 : (k : Int) < 9223372036854775807 := by omega
      have HKN := Lib.hid hkn
      clear hc hd hc' hd' hkn hn
      by_cases hz : sameG (Z k) (Z' k) = true
      · have hzz := sameG_iff.1 hz
        unfold sameG at hz
        have HZ := Lib.hid hzz
        clear hzz
        go_wp2_with fail
        go_quiet (fail)
        have HB1 := Lib.hid (below_drewN HBW.out nq)
        clear HB HBW hbk
        go_wp2
        have hkn := HKN.out
        refine ⟨⟨k + 1, by omega, by omega, ?_, by go_num, HB1.out⟩, by simp [intOf]; omega⟩
        intro j hj
        rcases Nat.lt_succ_iff_lt_or_eq.1 hj with h | rfl
        · exact HQ.out j h
        · exact HZ.out
      · have hb : m = k := HR.out k HK.out.1 HK.out.2 HQ.out (.inr (.inr fun h => hz (sameG_iff.2 h)))
        have hz2 : sameG (Z k) (Z' k) = false := by simpa using hz
        unfold sameG at hz2
        have HBB := Lib.hid hb
        clear hb hz
        go_wp2_with fail
        go_quiet (fail)
        have HB1 := Lib.hid (below_drewN HB.out nq)
        clear HB HBW hbk
        go_wp2
        go_ret
        exact ⟨by rw [HBB.out]; rfl, HB1.out⟩
    · have hb : m = k := HR.out k HK.out.1 HK.out.2 HQ.out (by have := HK.out; omega)
      have HBB := Lib.hid hb
      clear hb
      by_cases hkn1 : k < n
      · have i1 : (k : Int) < (n : Int) := by omega
        have i2 : ¬ (k : Int) < (n' : Int) := by omega
        have d1 : decide ((k : Int) < (n : Int)) = true := decide_eq_true i1
        have d2 : decide (k < n') = false := decide_eq_false (by omega)
        clear hkn hkn1
        go_wp2_with fail
        go_quiet (fail)
        have HB1 := Lib.hid (below_drewN HB.out nq)
        clear HB HBW hbk
        go_wp2
        go_ret
        exact ⟨by rw [HBB.out]; rfl, HB1.out⟩
      · have i1 : ¬ (k : Int) < (n : Int) := by omega
        have d1 : decide (k < n) = false := decide_eq_false hkn1
        clear hkn hkn1
        go_wp2_with fail
        go_quiet (fail)
        have HB1 := Lib.hid (below_drewN HB.out nq)
        clear HB HBW hbk
        go_wp2
        go_ret
        exact ⟨by rw [HBB.out]; rfl, HB1.out⟩

set_option maxRecDepth 100000 in
theorem staysR_any (v : Value) (gs : List Gd) (E B : Int) (L : Bool) (sl : Value) (hs : List Gd) (w : World) (hv : InG w v gs) (hv' : InG w sl hs) :
    Calls Try.prog 17 #[v, .agg #[.int .u64 E, .int .i64 B, .bool L, sl]] w fun e w' => e = .returned (.int .i64 (stays gs E hs : Nat)) ∧ Below w.heap.size w w' := by
  have hcm := fun w1 hb => commonR_any v gs E B L sl hs w1 (hv.keep (w' := w1) hb) (hv'.keep hb)
  have hsc := stays_cut (gs := gs) (hs := hs) E
  have hsr := @stays_run gs hs E
  have hcl := comm_le gs hs
  generalize stays gs E hs = st at *
  generalize comm gs hs = m at *
  obtain ⟨a, c, rfl, -, hx⟩ := hv.open_
  obtain ⟨a', c', rfl, -, -⟩ := hv'.open_
  have hn := hv.2.1
  generalize hZ : (fun j => (gs.getD j (0, 0))) = Z at *
  have g1 : ∀ j, gs.getD j (0, 0) = Z j := fun j => by subst hZ; rfl
  simp only [g1] at hx hsr
  clear hZ g1 hv hv'
  generalize gs.length = n at *
  generalize hs.length = n' at *
  have HCM := Lib.hid hcm
  have HX := Lib.hid hx
  have HSC := Lib.hid hsc
  have HSR := Lib.hid hsr
  have HN := Lib.hid hn
  have HCL := Lib.hid hcl
  clear hcm hx hsc hsr hn hcl
  go_enter Try.func17, Try.ntmps17
  go_wp2_with fail
  have hblk := Blk.new w 25 #[.int .u64 E, .int .i64 B, .bool L, .slice a' n' c']
  have hb0 := (Below.refl w.heap.size w).alloc (Nat.le_refl _) (Obj.cells #[.int .u64 E, .int .i64 B, .bool L, .slice a' n' c'] 25)
  refine (HCM.out _ hb0).mono ?_
  rintro e w1 ⟨rfl, hb⟩
  have HBLK := Lib.hid (hblk.keep hb)
  have HB1 := Lib.hid (hb0.trans (hb.mono hb0.size))
  have hk3 := (hblk.keep hb).cell 3
  simp at hk3
  clear hblk hb0 hb
  by_cases hcut : m < n'
  · have i1 : (m : Int) < (n' : Int) := by omega
    have i2 : ((m : Int) == (n' : Int)) = false := by simp; omega
    have e1 := HSC.out hcut
    have E1 := Lib.hid e1
    clear e1 hcut
    go_wp2
    go_ret
    exact ⟨by rw [E1.out]; rfl, HB1.out⟩
  · have HCUT := Lib.hid hcut
    have hmn : m = n' := by have := HCL.out; omega
    subst hmn
    clear hcut
    go_wp2_with fail
    go_loopw [5] (fun x wr => ∃ s : Nat, m ≤ s ∧ s ≤ n ∧ (∀ j, m ≤ j → j < s → E ≤ (Z j).1) ∧ x = .int .i64 s ∧ Below w1.heap.size w1 wr) (fun i _ => n - (intOf i).toNat)
    case atStart => exact ⟨m, Nat.le_refl _, HCL.out.1, fun j h1 h2 => by omega, rfl, Below.refl _ _⟩
    case round =>
      obtain ⟨s, hs1, hs2, hq, rfl, hb⟩ := hrel
      have HB := Lib.hid (HB1.out.trans (hb.mono HB1.out.size))
      have HBW := Lib.hid hb
      have hk0 := (HBLK.out.keep hb).cell 0
      simp at hk0
      have HQ := Lib.hid hq
      have HSS := Lib.hid (And.intro hs1 hs2)
      clear hb hq hk3 hs1 hs2
      by_cases hkn : s < n
      · obtain ⟨g, off, rfl, hc, hd⟩ := HX.out s hkn
        have hc1 := cell_later HB.out hc
        have hc2 := cell_later HB.out hd
        have i4 : (s : Int) < (n : Int) := by omega
        have d1 : decide ((s : Int) < (n : Int)) = true := decide_eq_true i4
        have hn := HN.out
        unfold maxLen at hn
        have k9 : (s : Int) < 9223372036854775807 := by omega
        have HKN := Lib.hid hkn
        clear hc hd hn hkn
        by_cases hz : (Z s).1 < E
        · have e1 := HSR.out HCUT.out (k := s) HSS.out.1 HSS.out.2 HQ.out (.inr hz)
          have E1 := Lib.hid e1
          clear e1 HX HCM HSR HQ HBW
          generalize Z s = z at *
          obtain ⟨z1, z2⟩ := z
          have hd : decide (E ≤ z1) = false := decide_eq_false (by omega)
          clear hz
          go_wp2_with fail
          go_quiet (fail)
          have HB2 := Lib.hid (below_drewN HB.out nq)
          clear HB
          go_wp2
          go_ret
          exact ⟨by rw [E1.out]; rfl, HB2.out⟩
        · have hge : E ≤ (Z s).1 := by omega
          have hq2 : ∀ j, m ≤ j → j < s + 1 → E ≤ (Z j).1 := by
            intro j h1 h2
            rcases Nat.lt_or_ge j s with q | q
            · exact HQ.out j h1 q
            · rw [show j = s from by omega]; exact hge
          have HQ2 := Lib.hid hq2
          clear hge hq2
          generalize Z s = z at *
          obtain ⟨z1, z2⟩ := z
          have hd : decide (E ≤ z1) = true := decide_eq_true (by omega)
          clear hz HX HCM HSR HQ HB
          go_wp2_with fail
          go_quiet (fail)
          have HB2 := Lib.hid (below_drewN HBW.out nq)
          clear HBW
          go_wp2
          refine ⟨⟨s + 1, by have := HSS.out; omega, by have := HKN.out; omega, HQ2.out, by go_num, HB2.out⟩, by have := HKN.out; simp [intOf]; omega⟩
      · have i4 : ¬ (s : Int) < (n : Int) := by omega
        have d1 : decide (s < n) = false := decide_eq_false hkn
        have e1 := HSR.out HCUT.out (k := s) HSS.out.1 HSS.out.2 HQ.out (.inl (by have := HSS.out; omega))
        have E1 := Lib.hid e1
        clear e1 hkn
        go_wp2_with fail
        go_quiet (fail)
        have HB2 := Lib.hid (below_drewN HB.out nq)
        clear HB
        go_wp2
        go_ret
        exact ⟨by rw [E1.out]; rfl, HB2.out⟩
end Go.Proofs.Ytfkgidljgbhccaa
