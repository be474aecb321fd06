/-
  LOOK: Index, Contains; IndexFunc, ContainsFunc over whatever closure; rises.
-/
import Derived.Test.YteplcpiamocclaaLook1
namespace Go.Proofs.Yteplcpiamocclaa
open Go.RowKit Reg Go.ChangeShapes

def gth (gs : List Gd) (j : Nat) : Gd := gs.getD j (0, 0)
set_option maxRecDepth 100000 in
theorem index_any (v : Value) (gs : List Gd) (g : Gd) (w : World) (hv : InG w v gs) :
    Calls Try.prog 53 #[v, aggG g] w fun e w' => e = .returned (.int .i64 (fIx gs.length fun i => sameG g (gth gs i))) ∧ Below w.heap.size w w' := by
  obtain ⟨a, c, rfl, -, hx⟩ := hv.open_
  have heq := run_eq_guid
  have hn := hv.2.1
  have hres1 := fun (k : Nat) (h1 : k < gs.length) (h2 : ∀ j, j < k → sameG g (gth gs j) = false) (h3 : sameG g (gth gs k) = true) => fIx_some (p := fun i => sameG g (gth gs i)) h1 h2 h3
  have hres2 := fun (h : ∀ j, j < gs.length → sameG g (gth gs j) = false) => fIx_none (p := fun i => sameG g (gth gs i)) h
  have hx : ∀ j, j < gs.length → ∃ g' off, a = some ⟨g', off, none⟩ ∧ w.cell? ⟨g', off + j * 2, none⟩ = some (.int .u64 (gth gs j).1) ∧ w.cell? ⟨g', off + j * 2 + 1, none⟩ = some (.int .u64 (gth gs j).2) := hx
  obtain ⟨res, hr⟩ : ∃ z, z = fIx gs.length fun i => sameG g (gth gs i) := ⟨_, rfl⟩
  rw [← hr] at hres1 hres2
  rw [← hr]
  generalize gth gs = Z at *
  generalize gs.length = n at *
  obtain ⟨ga, gb⟩ := g
  have hb0 := (Below.refl w.heap.size w).alloc (Nat.le_refl _) (Obj.cells #[.int .u64 ga, .int .u64 gb] 34)
  have bg := Blk.new w 34 #[.int .u64 ga, .int .u64 gb]
  have HX := Lib.hid hx
  have HN := Lib.hid hn
  have HR1 := Lib.hid hres1
  have HR2 := Lib.hid hres2
  have HB0 := Lib.hid hb0
  have HBG := Lib.hid bg
  clear hx hn hres1 hres2 hb0 bg hr hv
  unfold aggG
  simp only
  go_enter Try.func53, Try.ntmps53
  go_wp2_with fail
  generalize w.alloc (Obj.cells #[.int .u64 ga, .int .u64 gb] 34) = w1 at *
  obtain ⟨qx, hqx⟩ : ∃ z, z = w.heap.size := ⟨_, rfl⟩
  rw [← hqx] at HBG
  rw [← hqx]
  clear hqx
  go_loopw [8] (fun i wr => ∃ k : Nat, k ≤ n ∧ i = .int .i64 k ∧ Below w.heap.size w wr ∧ Blk wr qx 34 #[.int .u64 ga, .int .u64 gb] ∧ ∀ j, j < k → sameG (ga, gb) (Z j) = false) (fun i _ => n - (intOf i).toNat)
  case atStart => exact ⟨0, Nat.zero_le _, rfl, HB0.out, HBG.out, fun j hj => absurd hj (Nat.not_lt_zero j)⟩
  case round =>
    obtain ⟨k, hk, rfl, hb, hbg, hq⟩ := hrel
    have HB := Lib.hid hb
    have HBG := Lib.hid hbg
    have HQ := Lib.hid hq
    have d1 := hbg.cell 0
    have d2 := hbg.cell 1
    simp at d1 d2
    have hn := HN.out
    unfold maxLen at hn
    clear hb hbg hq
    by_cases hkn : k < n
    · obtain ⟨g, off, rfl, hc, hd⟩ := HX.out k hkn
      have hc := cell_later HB.out hc
      have hd := cell_later HB.out hd
      have i1 : (k : Int) < (n : Int) := by omega
      have i9 : (k : Int) < 9223372036854775807 := by omega
      have HKN := Lib.hid hkn
      clear hkn hn hk
      cases hz : sameG (ga, gb) (Z k) with
      | false =>
        have HZ := Lib.hid hz
        unfold sameG at hz
        simp only at hz
        go_wp2_with fail
        go_quiet (fail)
        have HB1 := Lib.hid (below_drewN HB.out nq)
        have HBG1 := Lib.hid (HBG.out.keep (below_drewN (Below.refl _ _) nq))
        clear HB HBG
        have hkn := HKN.out
        go_wp2
        refine ⟨⟨k + 1, by omega, by go_num, HB1.out, HBG1.out, fun j hj => ?_⟩, by simp [intOf]; omega⟩
        rcases Nat.lt_succ_iff_lt_or_eq.1 hj with h | rfl
        · exact HQ.out j h
        · exact HZ.out
      | true =>
        have hr := HR1.out k HKN.out HQ.out hz
        have HRR := Lib.hid hr
        unfold sameG at hz
        simp only at hz
        clear hr
        go_wp2_with fail
        go_quiet (fail)
        have HB1 := Lib.hid (below_drewN HB.out nq)
        clear HB HBG
        go_wp2
        go_ret
        exact ⟨by rw [HRR.out]; rfl, HB1.out⟩
    · obtain rfl : k = n := by omega
      have i1 : ¬ ((k : Int) < (k : Int)) := by omega
      have HRR := Lib.hid (HR2.out HQ.out)
      clear hkn hn hk
      go_wp2
      go_ret
      exact ⟨by rw [HRR.out]; rfl, HB.out⟩
theorem mem_iff_gth {gs : List Gd} {g : Gd} : g ∈ gs ↔ ∃ j, j < gs.length ∧ gth gs j = g := by
  rw [List.mem_iff_getElem]
  constructor
  · rintro ⟨i, h, e⟩
    exact ⟨i, h, by simp [gth, h, e]⟩
  · rintro ⟨i, h, e⟩
    exact ⟨i, h, by simpa [gth, h] using e⟩
theorem contains_any (v : Value) (gs : List Gd) (g : Gd) (w : World) (hv : InG w v gs) :
    Calls Try.prog 38 #[v, aggG g] w fun e w' => e = .returned (.bool (decide (g ∈ gs))) ∧ Below w.heap.size w w' := by
  have hb0 := (Below.refl w.heap.size w).alloc (Nat.le_refl _) (Obj.cells #[.int .u64 g.1, .int .u64 g.2] 34)
  have hi := index_any v gs g _ (hv.keep hb0)
  have hres : decide (g ∈ gs) = decide (0 ≤ fIx gs.length fun i => sameG g (gth gs i)) := by
    rcases fIx_cases gs.length fun i => sameG g (gth gs i) with ⟨h1, h2⟩ | ⟨k, hk, h1, h2, h3⟩
    · rw [h1]
      refine decide_eq_decide.2 ⟨fun h => ?_, fun h => by omega⟩
      obtain ⟨j, hj, e⟩ := mem_iff_gth.1 h
      have := h2 j hj
      simp only [e] at this
      rw [sameG_iff.2 rfl] at this
      cases this
    · rw [h1]
      exact decide_eq_decide.2 ⟨fun h => by omega, fun _ => mem_iff_gth.2 ⟨k, hk, (sameG_iff.1 h2).symm⟩⟩
  rw [hres]
  obtain ⟨z, hz⟩ : ∃ z, z = fIx gs.length fun i => sameG g (gth gs i) := ⟨_, rfl⟩
  rw [← hz] at hi
  rw [← hz]
  have HI := Lib.hid hi
  have HB0 := Lib.hid hb0
  clear hi hb0 hres hz hv
  unfold aggG at HI ⊢
  go_enter Try.func38, Try.ntmps38
  go_wp2_with fail
  refine HI.out.mono ?_
  rintro e w2 ⟨rfl, hb⟩
  have HB := Lib.hid (HB0.out.trans (hb.mono HB0.out.size))
  clear hb
  go_wp2
  go_ret
  exact ⟨rfl, HB.out⟩
end Go.Proofs.Yteplcpiamocclaa
