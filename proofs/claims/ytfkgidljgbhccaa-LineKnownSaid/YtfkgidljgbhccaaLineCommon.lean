/-
  WHAT A LIST AND A LINE HAVE IN COMMON, walked.
-/
import Derived.Test.YtfkgidljgbhccaaLineWalks
namespace Go.Proofs.Ytfkgidljgbhccaa
open Go.RowKit Reg

def comm : List Gd → List Gd → Nat
  | a :: xs, b :: ys => if sameG a b = true then comm xs ys + 1 else 0
  | _, _ => 0
theorem comm_spec : ∀ (gs hs : List Gd) (k : Nat), k ≤ gs.length → k ≤ hs.length → (∀ j, j < k → gs.getD j (0, 0) = hs.getD j (0, 0)) → (k = gs.length ∨ k = hs.length ∨ gs.getD k (0, 0) ≠ hs.getD k (0, 0)) → comm gs hs = k
  | [], hs, k, h1, _, _, _ => by
    have : k = 0 := by simpa using h1
    subst this
    cases hs <;> rfl
  | _ :: _, [], k, _, h2, _, _ => by
    have : k = 0 := by simpa using h2
    subst this
    rfl
  | a :: xs, b :: ys, 0, _, _, _, h4 => by
    have : a ≠ b := by simpa using h4
    unfold comm
    rw [if_neg]
    exact fun h => this (sameG_iff.1 h)
  | a :: xs, b :: ys, k + 1, h1, h2, h3, h4 => by
    have h0 : a = b := by simpa using h3 0 (by omega)
    unfold comm
    rw [if_pos (sameG_iff.2 h0), comm_spec xs ys k (by simpa using h1) (by simpa using h2) (fun j hj => by simpa using h3 (j + 1) (by omega)) (by simpa using h4)]
theorem comm_le : ∀ (gs hs : List Gd), comm gs hs ≤ gs.length ∧ comm gs hs ≤ hs.length
  | [], _ => ⟨Nat.zero_le _, Nat.zero_le _⟩
  | _ :: _, [] => ⟨Nat.zero_le _, Nat.zero_le _⟩
  | a :: xs, b :: ys => by
    have := comm_le xs ys
    unfold comm
    split
    · simp only [List.length_cons]; omega
    · exact ⟨Nat.zero_le _, Nat.zero_le _⟩

set_option maxRecDepth 100000 in
theorem common_any (v : Value) (gs : List Gd) (E B : Int) (L : Bool) (sl : Value) (hs : List Gd) (w : World) (hv : InG w v gs) (hv' : InG w sl hs) :
    Calls Try.prog 14 #[v, .agg #[.int .u64 E, .int .i64 B, .bool L, sl]] w fun e w' => e = .returned (.int .i64 (comm gs hs : Nat)) ∧ Below w.heap.size w w' := by
  obtain ⟨a, c, rfl, -, hx⟩ := hv.open_
  obtain ⟨a', c', rfl, -, hx'⟩ := hv'.open_
  have hneq := run_neq_guid
  have hres := comm_spec gs hs
  generalize comm gs hs = m at *
  generalize hZ : (fun j => gs.getD j (0, 0)) = Z at *
  generalize hZ' : (fun j => hs.getD j (0, 0)) = Z' at *
  have g1 : ∀ j, gs.getD j (0, 0) = Z j := fun j => by subst hZ; rfl
  have g2 : ∀ j, hs.getD j (0, 0) = Z' j := fun j => by subst hZ'; rfl
  simp only [g1] at hx hres
  simp only [g2] at hx' hres
  have hn := hv.2.1
  have hn' := hv'.2.1
  clear hZ hZ' hv hv' g1 g2
  generalize gs.length = n at *
  generalize hs.length = n' at *
  have HX := Lib.hid hx
  have HX' := Lib.hid hx'
  have HR := Lib.hid hres
  have HN := Lib.hid hn
  have HN' := Lib.hid hn'
  clear hx hx' hres hn hn'
  rcases Int.lt_or_le (n' : Int) (n : Int) with i3 | i3
  all_goals
    go_enter Try.func14, Try.ntmps14
    go_wp2_with fail
    have hblk := Blk.new w 25 #[.int .u64 E, .int .i64 B, .bool L, .slice a' n' c']
    have hb0 := (Below.refl w.heap.size w).alloc (Nat.le_refl _) (Obj.cells #[.int .u64 E, .int .i64 B, .bool L, .slice a' n' c'] 25)
    generalize w.alloc (Obj.cells #[.int .u64 E, .int .i64 B, .bool L, .slice a' n' c'] 25) = w1 at *
    have HBLK := Lib.hid hblk
    have HB0 := Lib.hid hb0
    clear hblk hb0
    go_loopw [14] (fun i wr => ∃ k : Nat, k ≤ n ∧ k ≤ n' ∧ (∀ j, j < k → Z j = Z' j) ∧ i = .int .i64 k ∧ Below w1.heap.size w1 wr) (fun i _ => n - (intOf i).toNat)
    case atStart => exact ⟨0, Nat.zero_le _, Nat.zero_le _, fun j hj => by omega, rfl, Below.refl _ _⟩
    case round =>
      obtain ⟨k, hk, hk', hq, rfl, hb⟩ := hrel
      have HB := Lib.hid (HB0.out.trans (hb.mono HB0.out.size))
      have HBW := Lib.hid hb
      have hbk := (HBLK.out.keep hb).cell 3
      have HQ := Lib.hid hq
      simp at hbk
      clear hb hq
      by_cases hkn : k < n ∧ k < n'
      · obtain ⟨g, off, rfl, hc, hd⟩ := HX.out k hkn.1
        obtain ⟨g', off', rfl, hc', hd'⟩ := HX'.out k hkn.2
        have hc1 := cell_later HB.out hc
        have hc2 := cell_later HB.out hd
        have hc3 := cell_later HB.out hc'
        have hc4 := cell_later HB.out hd'
        have i1 : (k : Int) < (n : Int) := by omega
        have i2 : (k : Int) < (n' : Int) := by omega
        have hn := HN.out
        unfold maxLen at hn
        have k9 : (k : Int) < 9223372036854775807 := by omega
        have HKN := Lib.hid hkn
        clear hc hd hc' hd' hkn hn
        by_cases hz : sameG (Z k) (Z' k) = true
        · have hzz := sameG_iff.1 hz
          unfold sameG at hz
          have HZ := Lib.hid hzz
          clear hzz
          go_wp2_with fail
          go_quiet (fail)
          have HB1 := Lib.hid (below_drewN HBW.out nq)
          clear HB HBW hbk
          have hkn := HKN.out
          go_wp2
          refine ⟨⟨k + 1, by omega, by omega, ?_, by go_num, HB1.out⟩, by simp [intOf]; omega⟩
          intro j hj
          rcases Nat.lt_succ_iff_lt_or_eq.1 hj with h | rfl
          · exact HQ.out j h
          · exact HZ.out
        · have hb : m = k := HR.out k hk hk' HQ.out (.inr (.inr fun h => hz (sameG_iff.2 h)))
          have hz2 : sameG (Z k) (Z' k) = false := by simpa using hz
          unfold sameG at hz2
          have HBB := Lib.hid hb
          clear hb hz
          go_wp2_with fail
          go_quiet (fail)
          have HB1 := Lib.hid (below_drewN HB.out nq)
          clear HB HBW hbk
          go_wp2
          go_ret
          exact ⟨by rw [HBB.out]; rfl, HB1.out⟩
      · have hb : m = k := HR.out k hk hk' HQ.out (by omega)
        have HBB := Lib.hid hb
        have i4 : (k : Int) = (n : Int) ∨ (k : Int) = (n' : Int) := by omega
        clear hb
        first
        | (have i5 : ¬ (k : Int) < (n : Int) := by omega
           have i6 : (n : Int) = (k : Int) := by omega
           clear i4
           go_wp2
           go_ret
           exact ⟨by rw [HBB.out]; rfl, HB.out⟩)
        | (have i5 : ¬ (k : Int) < (n' : Int) := by omega
           have i6 : (n' : Int) = (k : Int) := by omega
           clear i4
           go_wp2
           go_ret
           exact ⟨by rw [HBB.out]; rfl, HB.out⟩)
end Go.Proofs.Ytfkgidljgbhccaa
