/-
  LISTS OF GUIDS: two compared, one copied, one a beginning of another.
-/
import Derived.Test.YteplcpiamocclaaGuidEq
import Derived.Test.YteplcpiamocclaaRegion
import Derived.Lib.LazyBuf
namespace Go.Proofs.Yteplcpiamocclaa
open Go.RowKit Reg

theorem OwG.above {w w' : World} {base : Nat} {v : Value} {gs : List Gd} (h : OwG w base v gs) (hh : ∀ b, base ≤ b → w'.heap[b]? = w.heap[b]?) : OwG w' base v gs := by
  refine ⟨⟨h.1.1, ?_⟩, h.2⟩
  rcases h.1.2 with hn | ⟨g, cap, cur, rfl, hg, hh2, rest⟩
  · exact .inl hn
  · exact .inr ⟨g, cap, cur, rfl, hg, (hh g hg).trans hh2, rest⟩
theorem OwG.mono {w : World} {base base' : Nat} {v : Value} {gs : List Gd} (h : OwG w base v gs) (hb : base' ≤ base) : OwG w base' v gs := by
  refine ⟨⟨h.1.1, ?_⟩, h.2⟩
  rcases h.1.2 with hn | ⟨g, cap, cur, rfl, hg, rest⟩
  · exact .inl hn
  · exact .inr ⟨g, cap, cur, rfl, Nat.le_trans hb hg, rest⟩
section
variable {w : World}
theorem InG.take {a : Option Addr} {n c m : Nat} {gs : List Gd} (h : InG w (.slice a n c) gs) (hm : m ≤ gs.length) : InG w (.slice a m c) (gs.take m) := by
  obtain ⟨⟨a', c', e, h0⟩, h1, h2⟩ := h
  simp only [Value.slice.injEq] at e
  obtain ⟨rfl, rfl, rfl⟩ := e
  have hl : (gs.take m).length = m := by rw [List.length_take]; omega
  refine ⟨⟨a, c, by rw [hl], ?_⟩, by omega, fun g hg => h2 g (List.mem_of_mem_take hg)⟩
  rcases h0 with rfl | ⟨hc, g, off, rfl, hx⟩
  · left; simp
  · right
    refine ⟨by omega, g, off, rfl, fun j u hj => ?_⟩
    rw [← cellsG_take, List.getElem?_take] at hj
    split at hj
    · exact hx j u hj
    · cases hj
end
theorem equal_any (v v' : Value) (gs hs : List Gd) (w : World) (hv : InG w v gs) (hv' : InG w v' hs) :
    Calls Try.prog 41 #[v, v'] w fun e w' => e = .returned (.bool (decide (gs = hs))) ∧ Below w.heap.size w w' := by
  obtain ⟨a, c, rfl, -, hx⟩ := hv.open_
  obtain ⟨a', c', rfl, -, hx'⟩ := hv'.open_
  have hneq := run_neq_guid
  by_cases hl : gs.length = hs.length
  · rw [← hl] at hx' ⊢
    have hres : ∀ b, (b = true ↔ ∀ j, j < gs.length → gs.getD j (0, 0) = hs.getD j (0, 0)) → decide (gs = hs) = b := by
      intro b hb
      rw [Bool.eq_iff_iff, hb, decide_eq_true_iff]
      exact ⟨fun h => h ▸ fun _ _ => rfl, eqG_of_getD hl⟩
    generalize decide (gs = hs) = b at *
    generalize hZ : (fun j => gs.getD j (0, 0)) = Z at *
    generalize hZ' : (fun j => hs.getD j (0, 0)) = Z' at *
    have g1 : ∀ j, gs.getD j (0, 0) = Z j := fun j => by subst hZ; rfl
    have g2 : ∀ j, hs.getD j (0, 0) = Z' j := fun j => by subst hZ'; rfl
    simp only [g1] at hx hres
    simp only [g2] at hx' hres
    have hn := hv.2.1
    clear hZ hZ' hv hv' hl g1 g2
    generalize gs.length = n at *
    have HX := Lib.hid hx
    have HX' := Lib.hid hx'
    have HR := Lib.hid hres
    have HN := Lib.hid hn
    clear hx hx' hres hn
    go_enter Try.func41, Try.ntmps41
    go_wp2_with fail
    go_loopw [13] (fun i wr => ∃ k : Nat, k ≤ n ∧ (∀ j, j < k → Z j = Z' j) ∧ i = .int .i64 k ∧ Below w.heap.size w wr) (fun i _ => n - (intOf i).toNat)
    case atStart => exact ⟨0, Nat.zero_le _, fun j hj => by omega, rfl, Below.refl _ _⟩
    case round =>
      obtain ⟨k, hk, hq, rfl, hb⟩ := hrel
      have HB := Lib.hid hb
      have HQ := Lib.hid hq
      clear hb hq
      by_cases hkn : k < n
      · obtain ⟨g, off, rfl, hc, hd⟩ := HX.out k hkn
        obtain ⟨g', off', rfl, hc', hd'⟩ := HX'.out k hkn
        have hc1 := cell_later HB.out hc
        have hc2 := cell_later HB.out hd
        have hc3 := cell_later HB.out hc'
        have hc4 := cell_later HB.out hd'
        have i1 : (k : Int) < (n : Int) := by omega
        have hn := HN.out
        unfold maxLen at hn
        have k9 : (k : Int) < 9223372036854775807 := by omega
        have HKN := Lib.hid hkn
        clear hc hd hc' hd' hkn hn
        by_cases hz : sameG (Z k) (Z' k) = true
        · have hzz := sameG_iff.1 hz
          unfold sameG at hz
          have HZ := Lib.hid hzz
          clear hzz
          go_wp2_with fail
          go_quiet (fail)
          have HB1 := Lib.hid (below_drewN HB.out nq)
          clear HB
          have hkn := HKN.out
          go_wp2
          refine ⟨⟨k + 1, by omega, ?_, by go_num, HB1.out⟩, by simp [intOf]; omega⟩
          intro j hj
          rcases Nat.lt_succ_iff_lt_or_eq.1 hj with h | rfl
          · exact HQ.out j h
          · exact HZ.out
        · have hb : b = false := HR.out false ⟨(fun h => by cases h), fun h => absurd (sameG_iff.2 (h k HKN.out)) hz⟩
          have hz2 : sameG (Z k) (Z' k) = false := by simpa using hz
          unfold sameG at hz2
          have HBB := Lib.hid hb
          clear hb hz
          go_wp2_with fail
          go_quiet (fail)
          have HB1 := Lib.hid (below_drewN HB.out nq)
          clear HB
          go_wp2
          go_ret
          exact ⟨by rw [HBB.out]; rfl, HB1.out⟩
      · obtain rfl : k = n := by omega
        have hb : b = true := HR.out true ⟨fun _ => HQ.out, fun _ => rfl⟩
        have HBB := Lib.hid hb
        clear hb
        go_wp2
        go_ret
        exact ⟨by rw [HBB.out]; rfl, HB.out⟩
  · have hd : decide (gs = hs) = false := by
      rw [decide_eq_false_iff_not]
      rintro rfl
      exact hl rfl
    have i1 : ((gs.length : Int) == (hs.length : Int)) = false := by simp; omega
    have i2 : ¬ (gs.length : Int) = (hs.length : Int) := by omega
    rw [hd]
    clear hx hx' hv hv' hd hneq
    generalize gs.length = n at *
    generalize hs.length = n' at *
    go_enter Try.func41, Try.ntmps41
    go_wp2
    go_ret
    exact ⟨rfl, Below.refl _ _⟩

def comm : List Gd → List Gd → Nat
  | a :: xs, b :: ys => if sameG a b = true then comm xs ys + 1 else 0
  | _, _ => 0
theorem comm_spec : ∀ (gs hs : List Gd) (k : Nat), k ≤ gs.length → k ≤ hs.length → (∀ j, j < k → gs.getD j (0, 0) = hs.getD j (0, 0)) → (k = gs.length ∨ k = hs.length ∨ gs.getD k (0, 0) ≠ hs.getD k (0, 0)) → comm gs hs = k
  | [], hs, k, h1, _, _, _ => by
    have : k = 0 := by simpa using h1
    subst this
    cases hs <;> rfl
  | _ :: _, [], k, _, h2, _, _ => by
    have : k = 0 := by simpa using h2
    subst this
    rfl
  | a :: xs, b :: ys, 0, _, _, _, h4 => by
    have : a ≠ b := by simpa using h4
    unfold comm
    rw [if_neg]
    exact fun h => this (sameG_iff.1 h)
  | a :: xs, b :: ys, k + 1, h1, h2, h3, h4 => by
    have h0 : a = b := by simpa using h3 0 (by omega)
    unfold comm
    rw [if_pos (sameG_iff.2 h0), comm_spec xs ys k (by simpa using h1) (by simpa using h2) (fun j hj => by simpa using h3 (j + 1) (by omega)) (by simpa using h4)]
theorem comm_le : ∀ (gs hs : List Gd), comm gs hs ≤ gs.length ∧ comm gs hs ≤ hs.length
  | [], _ => ⟨Nat.zero_le _, Nat.zero_le _⟩
  | _ :: _, [] => ⟨Nat.zero_le _, Nat.zero_le _⟩
  | a :: xs, b :: ys => by
    have := comm_le xs ys
    unfold comm
    split
    · simp only [List.length_cons]; omega
    · exact ⟨Nat.zero_le _, Nat.zero_le _⟩

set_option maxRecDepth 100000 in
theorem common_any (v : Value) (gs : List Gd) (E B : Int) (L : Bool) (sl : Value) (hs : List Gd) (w : World) (hv : InG w v gs) (hv' : InG w sl hs) :
    Calls Try.prog 34 #[v, .agg #[.int .u64 E, .int .i64 B, .bool L, sl]] w fun e w' => e = .returned (.int .i64 (comm gs hs : Nat)) ∧ Below w.heap.size w w' := by
  obtain ⟨a, c, rfl, -, hx⟩ := hv.open_
  obtain ⟨a', c', rfl, -, hx'⟩ := hv'.open_
  have hneq := run_neq_guid
  have hres := comm_spec gs hs
  generalize comm gs hs = m at *
  generalize hZ : (fun j => gs.getD j (0, 0)) = Z at *
  generalize hZ' : (fun j => hs.getD j (0, 0)) = Z' at *
  have g1 : ∀ j, gs.getD j (0, 0) = Z j := fun j => by subst hZ; rfl
  have g2 : ∀ j, hs.getD j (0, 0) = Z' j := fun j => by subst hZ'; rfl
  simp only [g1] at hx hres
  simp only [g2] at hx' hres
  have hn := hv.2.1
  have hn' := hv'.2.1
  clear hZ hZ' hv hv' g1 g2
  generalize gs.length = n at *
  generalize hs.length = n' at *
  have HX := Lib.hid hx
  have HX' := Lib.hid hx'
  have HR := Lib.hid hres
  have HN := Lib.hid hn
  have HN' := Lib.hid hn'
  clear hx hx' hres hn hn'
  rcases Int.lt_or_le (n' : Int) (n : Int) with i3 | i3
  all_goals
    go_enter Try.func34, Try.ntmps34
    go_wp2_with fail
    have hblk := Blk.new w 37 #[.int .u64 E, .int .i64 B, .bool L, .slice a' n' c']
    have hb0 := (Below.refl w.heap.size w).alloc (Nat.le_refl _) (Obj.cells #[.int .u64 E, .int .i64 B, .bool L, .slice a' n' c'] 37)
    generalize w.alloc (Obj.cells #[.int .u64 E, .int .i64 B, .bool L, .slice a' n' c'] 37) = w1 at *
    have HBLK := Lib.hid hblk
    have HB0 := Lib.hid hb0
    clear hblk hb0
    go_loopw [14] (fun i wr => ∃ k : Nat, k ≤ n ∧ k ≤ n' ∧ (∀ j, j < k → Z j = Z' j) ∧ i = .int .i64 k ∧ Below w1.heap.size w1 wr) (fun i _ => n - (intOf i).toNat)
    case atStart => exact ⟨0, Nat.zero_le _, Nat.zero_le _, fun j hj => by omega, rfl, Below.refl _ _⟩
    case round =>
      obtain ⟨k, hk, hk', hq, rfl, hb⟩ := hrel
      have HB := Lib.hid (HB0.out.trans (hb.mono HB0.out.size))
      have HBW := Lib.hid hb
      have hbk := (HBLK.out.keep hb).cell 3
      have HQ := Lib.hid hq
      simp at hbk
      clear hb hq
      by_cases hkn : k < n ∧ k < n'
      · obtain ⟨g, off, rfl, hc, hd⟩ := HX.out k hkn.1
        obtain ⟨g', off', rfl, hc', hd'⟩ := HX'.out k hkn.2
        have hc1 := cell_later HB.out hc
        have hc2 := cell_later HB.out hd
        have hc3 := cell_later HB.out hc'
        have hc4 := cell_later HB.out hd'
        have i1 : (k : Int) < (n : Int) := by omega
        have i2 : (k : Int) < (n' : Int) := by omega
        have hn := HN.out
        unfold maxLen at hn
        have k9 : (k : Int) < 9223372036854775807 := by omega
        have HKN := Lib.hid hkn
        clear hc hd hc' hd' hkn hn
        by_cases hz : sameG (Z k) (Z' k) = true
        · have hzz := sameG_iff.1 hz
          unfold sameG at hz
          have HZ := Lib.hid hzz
          clear hzz
          go_wp2_with fail
          go_quiet (fail)
          have HB1 := Lib.hid (below_drewN HBW.out nq)
          clear HB HBW hbk
          have hkn := HKN.out
          go_wp2
          refine ⟨⟨k + 1, by omega, by omega, ?_, by go_num, HB1.out⟩, by simp [intOf]; omega⟩
          intro j hj
          rcases Nat.lt_succ_iff_lt_or_eq.1 hj with h | rfl
          · exact HQ.out j h
          · exact HZ.out
        · have hb : m = k := HR.out k hk hk' HQ.out (.inr (.inr fun h => hz (sameG_iff.2 h)))
          have hz2 : sameG (Z k) (Z' k) = false := by simpa using hz
          unfold sameG at hz2
          have HBB := Lib.hid hb
          clear hb hz
          go_wp2_with fail
          go_quiet (fail)
          have HB1 := Lib.hid (below_drewN HB.out nq)
          clear HB HBW hbk
          go_wp2
          go_ret
          exact ⟨by rw [HBB.out]; rfl, HB1.out⟩
      · have hb : m = k := HR.out k hk hk' HQ.out (by omega)
        have HBB := Lib.hid hb
        have i4 : (k : Int) = (n : Int) ∨ (k : Int) = (n' : Int) := by omega
        clear hb
        first
        | (have i5 : ¬ (k : Int) < (n : Int) := by omega
           have i6 : (n : Int) = (k : Int) := by omega
           clear i4
           go_wp2
           go_ret
           exact ⟨by rw [HBB.out]; rfl, HB.out⟩)
        | (have i5 : ¬ (k : Int) < (n' : Int) := by omega
           have i6 : (n' : Int) = (k : Int) := by omega
           clear i4
           go_wp2
           go_ret
           exact ⟨by rw [HBB.out]; rfl, HB.out⟩)
def begB (gs hs : List Gd) : Bool := decide (gs.length ≤ hs.length) && decide (gs = hs.take gs.length)
theorem begins_any (v v' : Value) (gs hs : List Gd) (w : World) (hv : InG w v gs) (hv' : InG w v' hs) :
    Calls Try.prog 30 #[v, v'] w fun e w' => e = .returned (.bool (begB gs hs)) ∧ Below w.heap.size w w' := by
  have heq := fun w1 (hb : Below w.heap.size w w1) u (hu : InG w1 u (hs.take gs.length)) => equal_any v u gs (hs.take gs.length) w1 (hv.keep hb) hu
  have htk : ∀ a c, gs.length ≤ hs.length → v' = .slice a hs.length c → InG w (.slice a gs.length c) (hs.take gs.length) := fun a c h e => by subst e; exact hv'.take h
  obtain ⟨a, c, rfl, -, -⟩ := hv.open_
  obtain ⟨a', c', rfl, hac, -⟩ := hv'.open_
  unfold begB
  by_cases hl : gs.length ≤ hs.length
  · have hin := htk a' c' hl rfl
    rw [decide_eq_true hl, Bool.true_and]
    have hc := heq w (Below.refl _ _) _ hin
    have hle : gs.length ≤ c' := by omega
    have i1 : (gs.length : Int) ≤ (hs.length : Int) := by omega
    have HC := Lib.hid hc
    generalize decide (gs = hs.take gs.length) = r at *
    clear heq htk hc hin hv hv' hac
    generalize gs.length = n at *
    generalize hs.length = n' at *
    go_enter Try.func30, Try.ntmps30
    go_wp2_with fail
    refine HC.out.mono ?_
    rintro e w1 ⟨rfl, hb⟩
    have HB := Lib.hid hb
    clear hb HC
    go_wp2
    go_ret
    exact ⟨rfl, HB.out⟩
  · rw [decide_eq_false hl, Bool.false_and]
    have i1 : ¬ ((gs.length : Int) ≤ (hs.length : Int)) := by omega
    have d1 : decide ((gs.length : Int) ≤ (hs.length : Int)) = false := decide_eq_false i1
    clear heq htk hv hv' hac
    generalize gs.length = n at *
    generalize hs.length = n' at *
    go_enter Try.func30, Try.ntmps30
    go_wp2
    go_ret
    exact ⟨rfl, Below.refl _ _⟩
end Go.Proofs.Yteplcpiamocclaa
