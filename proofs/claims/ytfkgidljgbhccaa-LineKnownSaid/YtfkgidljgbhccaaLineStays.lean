/-
  WHAT STAYS, walked; what is common, the reference's way.
-/
import Derived.Test.YtfkgidljgbhccaaLineCommon
namespace Go.Proofs.Ytfkgidljgbhccaa
open Go.RowKit Reg

def run_ (E : Int) : List Gd → Nat
  | [] => 0
  | g :: gs => if g.1 < E then 0 else run_ E gs + 1
def stays (gs : List Gd) (E : Int) (hs : List Gd) : Nat := if comm gs hs < hs.length then comm gs hs else comm gs hs + run_ E (gs.drop (comm gs hs))
theorem run_spec (E : Int) : ∀ (gs : List Gd) (k : Nat), k ≤ gs.length → (∀ j, j < k → ¬ (gs.getD j (0, 0)).1 < E) → (k = gs.length ∨ (gs.getD k (0, 0)).1 < E) → run_ E gs = k
  | [], k, h1, _, _ => by
    have : k = 0 := by simpa using h1
    subst this
    rfl
  | g :: gs, 0, _, _, h3 => by
    have : g.1 < E := by simpa using h3
    unfold run_
    rw [if_pos this]
  | g :: gs, k + 1, h1, h2, h3 => by
    have h0 : ¬ g.1 < E := by simpa using h2 0 (by omega)
    unfold run_
    rw [if_neg h0, run_spec E gs k (by simpa using h1) (fun j hj => by simpa using h2 (j + 1) (by omega)) (by simpa using h3)]
theorem run_le (E : Int) : ∀ gs : List Gd, run_ E gs ≤ gs.length
  | [] => Nat.zero_le _
  | g :: gs => by
    have := run_le E gs
    unfold run_
    split
    · exact Nat.zero_le _
    · simp only [List.length_cons]; omega
theorem stays_cut {gs hs : List Gd} (E : Int) (h : comm gs hs < hs.length) : stays gs E hs = comm gs hs := by unfold stays; rw [if_pos h]
theorem stays_run {gs hs : List Gd} {E : Int} (h : ¬ comm gs hs < hs.length) {k : Nat} (h1 : comm gs hs ≤ k) (h2 : k ≤ gs.length) (h3 : ∀ j, comm gs hs ≤ j → j < k → ¬ (gs.getD j (0, 0)).1 < E) (h4 : k = gs.length ∨ (gs.getD k (0, 0)).1 < E) : stays gs E hs = k := by
  unfold stays
  rw [if_neg h, run_spec E _ (k - comm gs hs)]
  · omega
  · rw [List.length_drop]; omega
  · intro j hj
    have := h3 (comm gs hs + j) (by omega) (by omega)
    simpa using this
  · rw [List.length_drop]
    rcases h4 with h4 | h4
    · left; omega
    · right
      have e : comm gs hs + (k - comm gs hs) = k := by omega
      simpa [e] using h4
theorem stays_le (gs : List Gd) (E : Int) (hs : List Gd) : comm gs hs ≤ stays gs E hs ∧ stays gs E hs ≤ gs.length := by
  have h1 := (comm_le gs hs).1
  unfold stays
  split
  · omega
  · have := run_le E (gs.drop (comm gs hs))
    rw [List.length_drop] at this
    omega

set_option maxRecDepth 100000 in
theorem stays_any (v : Value) (gs : List Gd) (E B : Int) (L : Bool) (sl : Value) (hs : List Gd) (w : World) (hv : InG w v gs) (hv' : InG w sl hs) :
    Calls Try.prog 16 #[v, .agg #[.int .u64 E, .int .i64 B, .bool L, sl]] w fun e w' => e = .returned (.int .i64 (stays gs E hs : Nat)) ∧ Below w.heap.size w w' := by
  have hcm := fun w1 hb => common_any v gs E B L sl hs w1 (hv.keep (w' := w1) hb) (hv'.keep hb)
  have hsc := stays_cut (gs := gs) (hs := hs) E
  have hsr := @stays_run gs hs E
  have hcl := comm_le gs hs
  generalize stays gs E hs = st at *
  generalize comm gs hs = m at *
  obtain ⟨a, c, rfl, hac, hx⟩ := hv.open_
  obtain ⟨a', c', rfl, -, -⟩ := hv'.open_
  have hn := hv.2.1
  generalize hZ : (fun j => (gs.getD j (0, 0))) = Z at *
  have g1 : ∀ j, gs.getD j (0, 0) = Z j := fun j => by subst hZ; rfl
  simp only [g1] at hx hsr
  clear hZ g1 hv hv'
  generalize gs.length = n at *
  generalize hs.length = n' at *
  have HCM := Lib.hid hcm
  have HX := Lib.hid hx
  have HSC := Lib.hid hsc
  have HSR := Lib.hid hsr
  have HN := Lib.hid hn
  have HCL := Lib.hid hcl
  have HAC := Lib.hid hac
  clear hcm hx hsc hsr hn hcl hac
  go_enter Try.func16, Try.ntmps16
  go_wp2_with fail
  have hblk := Blk.new w 25 #[.int .u64 E, .int .i64 B, .bool L, .slice a' n' c']
  have hb0 := (Below.refl w.heap.size w).alloc (Nat.le_refl _) (Obj.cells #[.int .u64 E, .int .i64 B, .bool L, .slice a' n' c'] 25)
  refine (HCM.out _ hb0).mono ?_
  rintro e w1 ⟨rfl, hb⟩
  have HBLK := Lib.hid (hblk.keep hb)
  have HB1 := Lib.hid (hb0.trans (hb.mono hb0.size))
  have hk3 := (hblk.keep hb).cell 3
  simp at hk3
  clear hblk hb0 hb
  by_cases hcut : m < n'
  · have i1 : (m : Int) < (n' : Int) := by omega
    have e1 := HSC.out hcut
    have E1 := Lib.hid e1
    clear e1 hcut
    go_wp2
    go_ret
    exact ⟨by rw [E1.out]; rfl, HB1.out⟩
  · have i1 : (n' : Int) ≤ (m : Int) := by omega
    have HCUT := Lib.hid hcut
    clear hcut
    have d1 : decide (m < n') = false := by simp; omega
    by_cases hend : m = n
    · have e1 := HSR.out HCUT.out (Nat.le_refl _) (by omega) (fun j h1 h2 => by omega) (.inl hend)
      have E1 := Lib.hid e1
      subst hend
      clear e1
      by_cases i3 : c = m
      all_goals
        go_wp2_with fail
        refine wp_loop_rounds 1 ?_
        rw [rounds_succ]
        go_wp2
        go_ret
        exact ⟨by rw [E1.out]; rfl, HB1.out⟩
    · have i2 : (m : Int) < (n : Int) := by have := HCL.out; omega
      have i3 : ¬ c = m := by have := HAC.out; have := HCL.out; omega
      clear hend
      obtain ⟨g, off, rfl, -, -⟩ := HX.out m (by omega)
      go_wp2_with fail
      generalize hq : n - m = q at *
      have HQQ := Lib.hid hq
      clear hq
      go_loopw [5, 21] (fun x i wr => ∃ k s : Nat, s = m + k ∧ k ≤ q ∧ (∀ j, m ≤ j → j < m + k → E ≤ (Z j).1) ∧ x = .int .i64 s ∧ i = .int .i64 k ∧ Below w1.heap.size w1 wr) (fun _ i _ => q - (intOf i).toNat)
      case atStart => exact ⟨0, m, rfl, Nat.zero_le _, fun j h1 h2 => by omega, rfl, rfl, Below.refl _ _⟩
      case round =>
        obtain ⟨k, s, hs, hk, hq, rfl, rfl, hb⟩ := hrel
        have HSS := Lib.hid hs
        have HB := Lib.hid (HB1.out.trans (hb.mono HB1.out.size))
        have HBW := Lib.hid hb
        have hk0 := (HBLK.out.keep hb).cell 0
        simp at hk0
        have hka : ∀ o, (wr.alloc o).cell? ⟨w.heap.size, 0, none⟩ = some (Value.int .u64 E) := fun o => cell_later ((Below.refl _ _).alloc (Nat.le_refl _) o) hk0
        have HQ := Lib.hid hq
        clear hk0
        clear hb hq hk3 hs
        by_cases hkn : k < q
        · obtain ⟨g', off', hgg, hc, hd⟩ := HX.out s (by have := HSS.out; have := HQQ.out; omega)
          cases hgg
          have e2 : off + s * 2 = off + m * 2 + k * 2 := by have := HSS.out; omega
          rw [e2] at hc hd
          have hc1 := cell_later HB.out hc
          have hc2 := cell_later HB.out hd
          have i4 : (k : Int) < (q : Int) := by omega
          have hn := HN.out
          unfold maxLen at hn
          have k9 : (s : Int) < 9223372036854775807 := by have := HSS.out; have := HQQ.out; omega
          have k8 : (k : Int) < 9223372036854775807 := by have := HQQ.out; omega
          have HK := Lib.hid hk
          have HKN := Lib.hid hkn
          clear hc hd e2 hn hk hkn
          by_cases hz : (Z s).1 < E
          · have e1 := HSR.out HCUT.out (k := s) (by have := HSS.out; omega) (by have := HSS.out; have := HQQ.out; have := HK.out; omega) (fun j h1 h2 => HQ.out j h1 (by have := HSS.out; omega)) (.inr hz)
            have E1 := Lib.hid e1
            clear e1
            generalize Z s = z at *
            go_wp2
            go_ret
            exact ⟨by rw [E1.out]; rfl, HB.out.alloc HB.out.size _⟩
          · have hge : E ≤ (Z s).1 := by omega
            have hq2 : ∀ j, m ≤ j → j < m + (k + 1) → E ≤ (Z j).1 := by
              intro j h1 h2
              rcases Nat.lt_or_ge j (m + k) with q | q
              · exact HQ.out j h1 q
              · rw [show j = s from by have := HSS.out; omega]; exact hge
            have HQ2 := Lib.hid hq2
            clear hge hq2
            generalize Z s = z at *
            obtain ⟨z1, z2⟩ := z
            have hd : decide (z1 < E) = false := decide_eq_false hz
            have HBN := Lib.hid (HBW.out.alloc HBW.out.size (Obj.cells #[Value.int .u64 z1, .int .u64 z2] 32))
            clear hz HX HCM HSR HQ HBW HB
            go_wp2
            refine ⟨⟨k + 1, s + 1, by have := HSS.out; omega, by have := HKN.out; omega, HQ2.out, by go_num, by go_num, HBN.out⟩, by have := HKN.out; simp [intOf]; omega⟩
        · have i4 : (q : Int) ≤ (k : Int) := by omega
          have hsn : s = n := by have := HSS.out; have := HQQ.out; omega
          have e1 := HSR.out HCUT.out (k := s) (by have := HSS.out; omega) (by omega) (fun j h1 h2 => HQ.out j h1 (by have := HSS.out; omega)) (.inl hsn)
          have E1 := Lib.hid e1
          clear e1 hsn hka hkn hk
          go_wp2
          go_ret
          exact ⟨by rw [E1.out]; rfl, HB.out⟩
end Go.Proofs.Ytfkgidljgbhccaa
