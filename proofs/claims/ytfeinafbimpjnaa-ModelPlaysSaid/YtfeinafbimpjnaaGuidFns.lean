/-
  LISTS OF GUIDS: two compared, one copied, one a beginning of another.
-/
import Derived.Test.YtfeinafbimpjnaaGuidEq
import Derived.Test.YtfeinafbimpjnaaRegion
import Derived.Lib.LazyBuf
namespace Go.Proofs.Ytfeinafbimpjnaa
open Go.RowKit Reg

theorem OwG.above {w w' : World} {base : Nat} {v : Value} {gs : List Gd} (h : OwG w base v gs) (hh : ∀ b, base ≤ b → w'.heap[b]? = w.heap[b]?) : OwG w' base v gs := by
  refine ⟨⟨h.1.1, ?_⟩, h.2⟩
  rcases h.1.2 with hn | ⟨g, cap, cur, rfl, hg, hh2, rest⟩
  · exact .inl hn
  · exact .inr ⟨g, cap, cur, rfl, hg, (hh g hg).trans hh2, rest⟩
theorem OwG.mono {w : World} {base base' : Nat} {v : Value} {gs : List Gd} (h : OwG w base v gs) (hb : base' ≤ base) : OwG w base' v gs := by
  refine ⟨⟨h.1.1, ?_⟩, h.2⟩
  rcases h.1.2 with hn | ⟨g, cap, cur, rfl, hg, rest⟩
  · exact .inl hn
  · exact .inr ⟨g, cap, cur, rfl, Nat.le_trans hb hg, rest⟩
section
variable {w : World}
theorem InG.take {a : Option Addr} {n c m : Nat} {gs : List Gd} (h : InG w (.slice a n c) gs) (hm : m ≤ gs.length) : InG w (.slice a m c) (gs.take m) := by
  obtain ⟨⟨a', c', e, h0⟩, h1, h2⟩ := h
  simp only [Value.slice.injEq] at e
  obtain ⟨rfl, rfl, rfl⟩ := e
  have hl : (gs.take m).length = m := by rw [List.length_take]; omega
  refine ⟨⟨a, c, by rw [hl], ?_⟩, by omega, fun g hg => h2 g (List.mem_of_mem_take hg)⟩
  rcases h0 with rfl | ⟨hc, g, off, rfl, hx⟩
  · left; simp
  · right
    refine ⟨by omega, g, off, rfl, fun j u hj => ?_⟩
    rw [← cellsG_take, List.getElem?_take] at hj
    split at hj
    · exact hx j u hj
    · cases hj
end
theorem equal_any (v v' : Value) (gs hs : List Gd) (w : World) (hv : InG w v gs) (hv' : InG w v' hs) :
    Calls Try.prog 32 #[v, v'] w fun e w' => e = .returned (.bool (decide (gs = hs))) ∧ Below w.heap.size w w' := by
  obtain ⟨a, c, rfl, -, hx⟩ := hv.open_
  obtain ⟨a', c', rfl, -, hx'⟩ := hv'.open_
  have hneq := run_neq_guid
  by_cases hl : gs.length = hs.length
  · rw [← hl] at hx' ⊢
    have hres : ∀ b, (b = true ↔ ∀ j, j < gs.length → gs.getD j (0, 0) = hs.getD j (0, 0)) → decide (gs = hs) = b := by
      intro b hb
      rw [Bool.eq_iff_iff, hb, decide_eq_true_iff]
      exact ⟨fun h => h ▸ fun _ _ => rfl, eqG_of_getD hl⟩
    generalize decide (gs = hs) = b at *
    generalize hZ : (fun j => gs.getD j (0, 0)) = Z at *
    generalize hZ' : (fun j => hs.getD j (0, 0)) = Z' at *
    have g1 : ∀ j, gs.getD j (0, 0) = Z j := fun j => by subst hZ; rfl
    have g2 : ∀ j, hs.getD j (0, 0) = Z' j := fun j => by subst hZ'; rfl
    simp only [g1] at hx hres
    simp only [g2] at hx' hres
    have hn := hv.2.1
    clear hZ hZ' hv hv' hl g1 g2
    generalize gs.length = n at *
    have HX := Lib.hid hx
    have HX' := Lib.hid hx'
    have HR := Lib.hid hres
    have HN := Lib.hid hn
    clear hx hx' hres hn
    go_enter Try.func32, Try.ntmps32
    go_wp2_with fail
    go_loopw [13] (fun i wr => ∃ k : Nat, k ≤ n ∧ (∀ j, j < k → Z j = Z' j) ∧ i = .int .i64 k ∧ Below w.heap.size w wr) (fun i _ => n - (intOf i).toNat)
    case atStart => exact ⟨0, Nat.zero_le _, fun j hj => by omega, rfl, Below.refl _ _⟩
    case round =>
      obtain ⟨k, hk, hq, rfl, hb⟩ := hrel
      have HB := Lib.hid hb
      have HQ := Lib.hid hq
      clear hb hq
      by_cases hkn : k < n
      · obtain ⟨g, off, rfl, hc, hd⟩ := HX.out k hkn
        obtain ⟨g', off', rfl, hc', hd'⟩ := HX'.out k hkn
        have hc1 := cell_later HB.out hc
        have hc2 := cell_later HB.out hd
        have hc3 := cell_later HB.out hc'
        have hc4 := cell_later HB.out hd'
        have i1 : (k : Int) < (n : Int) := by omega
        have hn := HN.out
        unfold maxLen at hn
        have k9 : (k : Int) < 9223372036854775807 := by omega
        have HKN := Lib.hid hkn
        clear hc hd hc' hd' hkn hn
        by_cases hz : sameG (Z k) (Z' k) = true
        · have hzz := sameG_iff.1 hz
          unfold sameG at hz
          have HZ := Lib.hid hzz
          clear hzz
          go_wp2_with fail
          go_quiet (fail)
          have HB1 := Lib.hid (below_drewN HB.out nq)
          clear HB
          have hkn := HKN.out
          go_wp2
          refine ⟨⟨k + 1, by omega, ?_, by go_num, HB1.out⟩, by simp [intOf]; omega⟩
          intro j hj
          rcases Nat.lt_succ_iff_lt_or_eq.1 hj with h | rfl
          · exact HQ.out j h
          · exact HZ.out
        · have hb : b = false := HR.out false ⟨(fun h => by cases h), fun h => absurd (sameG_iff.2 (h k HKN.out)) hz⟩
          have hz2 : sameG (Z k) (Z' k) = false := by simpa using hz
          unfold sameG at hz2
          have HBB := Lib.hid hb
          clear hb hz
          go_wp2_with fail
          go_quiet (fail)
          have HB1 := Lib.hid (below_drewN HB.out nq)
          clear HB
          go_wp2
          go_ret
          exact ⟨by rw [HBB.out]; rfl, HB1.out⟩
      · obtain rfl : k = n := by omega
        have hb : b = true := HR.out true ⟨fun _ => HQ.out, fun _ => rfl⟩
        have HBB := Lib.hid hb
        clear hb
        go_wp2
        go_ret
        exact ⟨by rw [HBB.out]; rfl, HB.out⟩
  · have hd : decide (gs = hs) = false := by
      rw [decide_eq_false_iff_not]
      rintro rfl
      exact hl rfl
    have i1 : ((gs.length : Int) == (hs.length : Int)) = false := by simp; omega
    have i2 : ¬ (gs.length : Int) = (hs.length : Int) := by omega
    rw [hd]
    clear hx hx' hv hv' hd hneq
    generalize gs.length = n at *
    generalize hs.length = n' at *
    go_enter Try.func32, Try.ntmps32
    go_wp2
    go_ret
    exact ⟨rfl, Below.refl _ _⟩
theorem clone_any (v : Value) (gs : List Gd) (w : World) (hv : InG w v gs) (h1 : gs.length ≤ 2 ^ 43) :
    Calls Try.prog 30 #[v] w fun e w' => ∃ u, e = .returned u ∧ OwG w' w.heap.size u gs ∧ Below w.heap.size w w' := by
  obtain ⟨a, c, rfl, -, hx⟩ := hv.open_
  cases a with
  | none =>
    have h0 : gs = [] := by
      rcases Nat.eq_zero_or_pos gs.length with q | q
      · exact List.length_eq_zero_iff.1 q
      · obtain ⟨g, off, e, _⟩ := hx 0 q
        cases e
    subst h0
    clear hx hv h1
    have heq : ∀ w : World, (binOp BinOp.eql 29 (.slice none 0 c) (.slice none 0 0)).run Try.prog w = .ok (.bool true) w := fun w => Lib.run_eql_slice_nil w 29 34 _ _ _ _ _ Try.underlying29
    rw [List.length_nil]
    go_enter Try.func30, Try.ntmps30
    go_wp2
    go_ret
    exact ⟨_, rfl, OwG.nil_ _ _, Below.refl _ _⟩
  | some ad =>
    have h0 : OwG (w.alloc (.cells #[] 34)) w.heap.size (.slice (some ⟨w.heap.size, 0, none⟩) 0 0) [] := ⟨own_new w w.heap.size 34 #[] 2 0 rfl (Nat.le_refl _) (by decide), by simp, by simp⟩
    have hA := app_guids 29 h0 (hv.keep ((Below.refl _ _).alloc (Nat.le_refl _) _)) (by simp; omega) (by simp)
    have HA := Lib.hid hA
    have H0 := Lib.hid h0
    have heq : ∀ w : World, (binOp BinOp.eql 29 (.slice (some ad) gs.length c) (.slice none 0 0)).run Try.prog w = .ok (.bool false) w := fun w => Lib.run_eql_slice_nil w 29 34 _ _ _ _ _ Try.underlying29
    clear hA h0 hx hv h1
    go_enter Try.func30, Try.ntmps30
    go_wp2_with (at_builtin; refine wpList_append_run rfl _ _ 29 rfl _ _ rfl rfl _ HA.out ?_)
    refine Later.mk fun _ _ v' w' hp => ?_
    have HO := Lib.hid hp.1
    have HB := Lib.hid (((Below.refl w.heap.size w).alloc (Nat.le_refl _) _).trans (hp.below H0.out (by simp)))
    clear hp HA H0
    go_wp2
    go_ret
    exact ⟨_, rfl, HO.out, HB.out⟩
end Go.Proofs.Ytfeinafbimpjnaa
