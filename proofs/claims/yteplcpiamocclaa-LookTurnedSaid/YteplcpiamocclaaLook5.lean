/-
  LOOK: rises (printed by wip/gen-look5.py).
-/
import Derived.Test.YteplcpiamocclaaLook4
import Derived.Test.YteplcpiamocclaaCmp
namespace Go.Proofs.Yteplcpiamocclaa
open Go.RowKit Reg Go.ChangeShapes

/-- do guids rise? -/
def risesB (gs : List Gd) : Bool := (List.range gs.length).all fun j => j == 0 || upG (gth gs (j - 1)) (gth gs j)
theorem risesB_true {gs : List Gd} (h : ∀ j, 0 < j → j < gs.length → upG (gth gs (j - 1)) (gth gs j) = true) : risesB gs = true := by
  unfold risesB
  rw [List.all_eq_true]
  intro j hj
  have hj := List.mem_range.1 hj
  rcases Nat.eq_zero_or_pos j with rfl | hp
  · rfl
  · rw [h j hp hj]; simp
theorem risesB_false {gs : List Gd} {j : Nat} (hp : 0 < j) (hj : j < gs.length) (h : upG (gth gs (j - 1)) (gth gs j) = false) : risesB gs = false := by
  unfold risesB
  rw [List.all_eq_false]
  refine ⟨j, List.mem_range.2 hj, ?_⟩
  rw [h]
  simp; omega
def kinds5 (r0 r1 z : Int) (s : Nat) (u : Value) : Prop := kinds [(11, .is (.int .i64 r0)), (23, .is (.int .i64 r1)), (24, .sl 2), (25, .is (.int .i64 z))] s u
def F5 (r0 r1 : Int) (s : Nat) (w : World) (u : Value) : Prop := s = 24 → ∃ g, u = .slice (some ⟨g, 0, none⟩) 2 2 ∧ Blk w g 3 #[.int .i64 r0, .int .i64 r1]
theorem F5.stable {r0 r1 : Int} : Stable (F5 r0 r1) := fun _ _ _ _ h hb e => by
  obtain ⟨g, h1, h2⟩ := h e
  exact ⟨g, h1, h2.keep hb⟩
set_option maxRecDepth 100000 in
set_option maxHeartbeats 1000000 in
theorem rises_any (v : Value) (gs : List Gd) (w : World) (hv : InG w v gs) :
    Calls Try.prog 35 #[v] w fun e w' => e = .returned (.bool (risesB gs)) ∧ Below w.heap.size w w' := by
  obtain ⟨a, c, rfl, -, hx⟩ := hv.open_
  have hn := hv.2.1
  replace hx : ∀ j, j < gs.length → ∃ g' off, a = some ⟨g', off, none⟩ ∧ w.cell? ⟨g', off + j * 2, none⟩ = some (.int .u64 (gth gs j).1) ∧ w.cell? ⟨g', off + j * 2 + 1, none⟩ = some (.int .u64 (gth gs j).2) := hx
  have hr1 := @risesB_true gs
  have hr2 := @risesB_false gs
  obtain ⟨res, hr⟩ : ∃ z, z = risesB gs := ⟨_, rfl⟩
  rw [← hr] at hr1 hr2
  rw [← hr]
  generalize gth gs = Z at *
  generalize gs.length = n at *
  have HX := Lib.hid hx
  have HN := Lib.hid hn
  have HR1 := Lib.hid hr1
  have HR2 := Lib.hid (fun j => @hr2 j)
  clear hx hn hr1 hr2 hr hv
  go_enter Try.func35, Try.ntmps35
  go_wp2_with fail
  go_loopw [3] (fun i wr => ∃ k : Nat, i = .int .i64 ((k : Int) + 1) ∧ Below w.heap.size w wr ∧ (k = 0 ∨ k < n) ∧ ∀ j, 0 < j → j < k + 1 → j < n → upG (Z (j - 1)) (Z j) = true) (fun i _ => n + 1 - (intOf i).toNat)
  case atStart => exact ⟨0, rfl, Below.refl _ _, .inl rfl, fun j h1 h2 => by omega⟩
  case round =>
    obtain ⟨k, rfl, hb, hk, hq⟩ := hrel
    have HB := Lib.hid hb
    have HQ := Lib.hid hq
    have HK := Lib.hid hk
    have hn := HN.out
    unfold maxLen at hn
    clear hb hq hk
    by_cases hkn : k + 1 < n
    · obtain ⟨g, off, rfl, hc, hd⟩ := HX.out (k + 1) hkn
      obtain ⟨g', off', he, hc', hd'⟩ := HX.out k (by omega)
      simp only [Option.some.injEq, Addr.mk.injEq, and_true] at he
      obtain ⟨rfl, rfl⟩ := he
      have HC := Lib.hid (And.intro (cell_later HB.out hc) (And.intro (cell_later HB.out hd) (And.intro (cell_later HB.out hc') (cell_later HB.out hd'))))
      have i1 : (k : Int) + 1 < (n : Int) := by omega
      have i2 : (k : Int) < (n : Int) := by omega
      have hwk : IntKind.i64.wrap (k : Int) = (k : Int) := IntWalk.i64_in _ (by omega)
      have I9 := Lib.hid (show (k : Int) + 1 < 9223372036854775807 by omega)
      have HKN := Lib.hid hkn
      have hup := or2_le (Z k) (Z (k + 1))
      obtain ⟨r0, hr0⟩ : ∃ z, z = cmp3 (Z (k + 1)).1 (Z k).1 := ⟨_, rfl⟩
      obtain ⟨r1, hr1⟩ : ∃ z, z = cmp3 (Z (k + 1)).2 (Z k).2 := ⟨_, rfl⟩
      obtain ⟨oz, hoz⟩ : ∃ z, z = or2 r0 r1 := ⟨_, rfl⟩
      rw [← hr0, ← hr1, ← hoz] at hup
      have HR := Lib.hid (And.intro hr0 (And.intro hr1 hoz))
      have HUP := Lib.hid hup
      clear hkn hn hc hd hc' hd' hr0 hr1 hoz hup
      go_wp2_with fail
      refine wp_region_spec (fun i => i == 11 || i == 23 || i == 24 || i == 25) (kinds5 r0 r1 oz) (CF wr (F5 r0 r1)) (by kernel_rfl) (by kernel_rfl) (kinds_inh _) CF.start ?_
      intro ν hν
      have n11 : ν 11 = .int .i64 r0 := hν 11
      have n23 : ν 23 = .int .i64 r1 := hν 23
      obtain ⟨g24, n24⟩ : ∃ g, ν 24 = .slice (some ⟨g, 0, none⟩) 2 2 := hν 24
      have n25 : ν 25 = .int .i64 oz := hν 25
      clear hν
      refine lex_plain (by rfl) rfl ?_
      apply Exists.intro
      refine ⟨fun σ w2 hA hD hC => ?_, ?_⟩
      · clear hA hD hC
        go_simp
        exact And.intro rfl rfl
      simp only [Act.put, List.setIfInBounds_toArray, List.set_cons_succ, List.set_cons_zero, Nat.reduceAdd]
      refine lex_plain (by rfl) rfl ?_
      apply Exists.intro
      refine ⟨fun σ w2 hA hD hC => ?_, ?_⟩
      · clear hA hD hC
        go_simp
        exact And.intro rfl rfl
      simp only [Act.put, List.setIfInBounds_toArray, List.set_cons_succ, List.set_cons_zero, Nat.reduceAdd]
      refine lex_plain (by rfl) rfl ?_
      apply Exists.intro
      refine ⟨fun σ w2 hA hD hC => ?_, ?_⟩
      · clear hA hD hC
        go_simp
        exact And.intro rfl rfl
      simp only [Act.put, List.setIfInBounds_toArray, List.set_cons_succ, List.set_cons_zero, Nat.reduceAdd]
      refine lex_plain (by rfl) rfl ?_
      apply Exists.intro
      refine ⟨fun σ w2 hA hD hC => ?_, ?_⟩
      · clear hA hD hC
        go_simp
        exact And.intro rfl rfl
      simp only [Act.put, List.setIfInBounds_toArray, List.set_cons_succ, List.set_cons_zero, Nat.reduceAdd]
      refine lex_plain (by rfl) rfl ?_
      apply Exists.intro
      refine ⟨fun σ w2 hA hD hC => ?_, ?_⟩
      · have hx := cell_later hC.1 HC.out.1
        clear hA hD hC
        go_simp
        exact And.intro rfl rfl
      simp only [Act.put, List.setIfInBounds_toArray, List.set_cons_succ, List.set_cons_zero, Nat.reduceAdd]
      refine lex_plain (by rfl) rfl ?_
      apply Exists.intro
      refine ⟨fun σ w2 hA hD hC => ?_, ?_⟩
      · clear hA hD hC
        go_simp
        exact And.intro rfl rfl
      simp only [Act.put, List.setIfInBounds_toArray, List.set_cons_succ, List.set_cons_zero, Nat.reduceAdd]
      refine lex_plain (by rfl) rfl ?_
      apply Exists.intro
      refine ⟨fun σ w2 hA hD hC => ?_, ?_⟩
      · clear hA hD hC
        go_simp
        exact And.intro rfl rfl
      simp only [Act.put, List.setIfInBounds_toArray, List.set_cons_succ, List.set_cons_zero, Nat.reduceAdd]
      refine lex_plain (by rfl) rfl ?_
      apply Exists.intro
      refine ⟨fun σ w2 hA hD hC => ?_, ?_⟩
      · clear hA hD hC
        go_simp
        exact And.intro rfl rfl
      simp only [Act.put, List.setIfInBounds_toArray, List.set_cons_succ, List.set_cons_zero, Nat.reduceAdd]
      refine lex_plain (by rfl) rfl ?_
      apply Exists.intro
      refine ⟨fun σ w2 hA hD hC => ?_, ?_⟩
      · clear hA hD hC
        go_simp
        exact And.intro rfl rfl
      simp only [Act.put, List.setIfInBounds_toArray, List.set_cons_succ, List.set_cons_zero, Nat.reduceAdd]
      refine lex_plain (by rfl) rfl ?_
      apply Exists.intro
      refine ⟨fun σ w2 hA hD hC => ?_, ?_⟩
      · clear hA hD hC
        go_simp
        exact And.intro rfl rfl
      simp only [Act.put, List.setIfInBounds_toArray, List.set_cons_succ, List.set_cons_zero, Nat.reduceAdd]
      refine lex_plain (by rfl) rfl ?_
      apply Exists.intro
      refine ⟨fun σ w2 hA hD hC => ?_, ?_⟩
      · have hx := cell_later hC.1 HC.out.2.2.1
        clear hA hD hC
        go_simp
        exact And.intro rfl rfl
      simp only [Act.put, List.setIfInBounds_toArray, List.set_cons_succ, List.set_cons_zero, Nat.reduceAdd]
      refine lex_special (by rfl) rfl (fun σ w2 hA hD hn hC => ?_) ?_
      · go_simp
        refine call_ok F5.stable hC ((cmp_any _ _ _).mono ?_)
        rintro e' w' ⟨rfl, rfl⟩
        exact ⟨_, rfl, (show Value.int .i64 _ = .int .i64 _ from by rw [HR.out.1]), (fun e => by cases e), Below.refl _ _⟩
      rw [n11]
      simp only [Act.put, List.setIfInBounds_toArray, List.set_cons_succ, List.set_cons_zero, Nat.reduceAdd]
      refine lex_plain (by rfl) rfl ?_
      apply Exists.intro
      refine ⟨fun σ w2 hA hD hC => ?_, ?_⟩
      · clear hA hD hC
        go_simp
        exact And.intro rfl rfl
      simp only [Act.put, List.setIfInBounds_toArray, List.set_cons_succ, List.set_cons_zero, Nat.reduceAdd]
      refine lex_plain (by rfl) rfl ?_
      apply Exists.intro
      refine ⟨fun σ w2 hA hD hC => ?_, ?_⟩
      · clear hA hD hC
        go_simp
        exact And.intro rfl rfl
      simp only [Act.put, List.setIfInBounds_toArray, List.set_cons_succ, List.set_cons_zero, Nat.reduceAdd]
      refine lex_plain (by rfl) rfl ?_
      apply Exists.intro
      refine ⟨fun σ w2 hA hD hC => ?_, ?_⟩
      · clear hA hD hC
        go_simp
        exact And.intro rfl rfl
      simp only [Act.put, List.setIfInBounds_toArray, List.set_cons_succ, List.set_cons_zero, Nat.reduceAdd]
      refine lex_plain (by rfl) rfl ?_
      apply Exists.intro
      refine ⟨fun σ w2 hA hD hC => ?_, ?_⟩
      · clear hA hD hC
        go_simp
        exact And.intro rfl rfl
      simp only [Act.put, List.setIfInBounds_toArray, List.set_cons_succ, List.set_cons_zero, Nat.reduceAdd]
      refine lex_plain (by rfl) rfl ?_
      apply Exists.intro
      refine ⟨fun σ w2 hA hD hC => ?_, ?_⟩
      · have hx := cell_later hC.1 HC.out.2.1
        clear hA hD hC
        go_simp
        exact And.intro rfl rfl
      simp only [Act.put, List.setIfInBounds_toArray, List.set_cons_succ, List.set_cons_zero, Nat.reduceAdd]
      refine lex_plain (by rfl) rfl ?_
      apply Exists.intro
      refine ⟨fun σ w2 hA hD hC => ?_, ?_⟩
      · clear hA hD hC
        go_simp
        exact And.intro rfl rfl
      simp only [Act.put, List.setIfInBounds_toArray, List.set_cons_succ, List.set_cons_zero, Nat.reduceAdd]
      refine lex_plain (by rfl) rfl ?_
      apply Exists.intro
      refine ⟨fun σ w2 hA hD hC => ?_, ?_⟩
      · clear hA hD hC
        go_simp
        exact And.intro rfl rfl
      simp only [Act.put, List.setIfInBounds_toArray, List.set_cons_succ, List.set_cons_zero, Nat.reduceAdd]
      refine lex_plain (by rfl) rfl ?_
      apply Exists.intro
      refine ⟨fun σ w2 hA hD hC => ?_, ?_⟩
      · clear hA hD hC
        go_simp
        exact And.intro rfl rfl
      simp only [Act.put, List.setIfInBounds_toArray, List.set_cons_succ, List.set_cons_zero, Nat.reduceAdd]
      refine lex_plain (by rfl) rfl ?_
      apply Exists.intro
      refine ⟨fun σ w2 hA hD hC => ?_, ?_⟩
      · clear hA hD hC
        go_simp
        exact And.intro rfl rfl
      simp only [Act.put, List.setIfInBounds_toArray, List.set_cons_succ, List.set_cons_zero, Nat.reduceAdd]
      refine lex_plain (by rfl) rfl ?_
      apply Exists.intro
      refine ⟨fun σ w2 hA hD hC => ?_, ?_⟩
      · clear hA hD hC
        go_simp
        exact And.intro rfl rfl
      simp only [Act.put, List.setIfInBounds_toArray, List.set_cons_succ, List.set_cons_zero, Nat.reduceAdd]
      refine lex_plain (by rfl) rfl ?_
      apply Exists.intro
      refine ⟨fun σ w2 hA hD hC => ?_, ?_⟩
      · have hx := cell_later hC.1 HC.out.2.2.2
        clear hA hD hC
        go_simp
        exact And.intro rfl rfl
      simp only [Act.put, List.setIfInBounds_toArray, List.set_cons_succ, List.set_cons_zero, Nat.reduceAdd]
      refine lex_special (by rfl) rfl (fun σ w2 hA hD hn hC => ?_) ?_
      · go_simp
        refine call_ok F5.stable hC ((cmp_any _ _ _).mono ?_)
        rintro e' w' ⟨rfl, rfl⟩
        exact ⟨_, rfl, (show Value.int .i64 _ = .int .i64 _ from by rw [HR.out.2.1]), (fun e => by cases e), Below.refl _ _⟩
      rw [n23]
      simp only [Act.put, List.setIfInBounds_toArray, List.set_cons_succ, List.set_cons_zero, Nat.reduceAdd]
      refine lex_special (by rfl) rfl (fun σ w2 hA hD hn hC => ?_) ?_
      · have e11 := got1 hA hD 11 rfl (by kernel_rfl)
        go_simp
        refine value_ok F5.stable hC ((Below.refl _ _).alloc (Nat.le_refl _) _) ⟨_, rfl⟩ (fun _ => ⟨_, rfl, Blk.new _ _ _⟩)
      rw [n24]
      simp only [Act.put, List.setIfInBounds_toArray, List.set_cons_succ, List.set_cons_zero, Nat.reduceAdd]
      refine lex_special (by rfl) rfl (fun σ w2 hA hD hn hC => ?_) ?_
      · have e24 := got1 hA hD 24 rfl (by kernel_rfl)
        obtain ⟨g', e1, hb⟩ := hC.2 24 _ e24 rfl
        rw [n24] at e1
        simp only [Value.slice.injEq, Option.some.injEq, Addr.mk.injEq, and_true] at e1
        subst e1
        go_simp
        refine call_ok F5.stable hC ((or_any r0 r1 _ 2 w2 (hb.cell 0) (hb.cell 1)).mono ?_)
        rintro e' w' ⟨rfl, rfl⟩
        exact ⟨_, rfl, (show Value.int .i64 _ = .int .i64 _ from by rw [HR.out.2.2]), (fun e => by cases e), Below.refl _ _⟩
      rw [n25]
      simp only [Act.put, List.setIfInBounds_toArray, List.set_cons_succ, List.set_cons_zero, Nat.reduceAdd]
      refine lex_plain (by rfl) rfl ?_
      apply Exists.intro
      refine ⟨fun σ w2 hA hD hC => ?_, ?_⟩
      · clear hA hD hC
        go_simp
        exact And.intro rfl rfl
      simp only [Act.put, List.setIfInBounds_toArray, List.set_cons_succ, List.set_cons_zero, Nat.reduceAdd]
      refine lex_nil (fun σ w9 hA hall hC => ?_)
      have HB9 := Lib.hid (HB.out.trans (hC.1.mono HB.out.size))
      clear hA hall hC n11 n23 n24 n25 i1 i2 hwk
      have hup := HUP.out
      cases hz : upG (Z k) (Z (k + 1)) with
      | true =>
        rw [hup, hz, Bool.not_true]
        have HZ := Lib.hid hz
        have i9 := I9.out
        clear hz hup
        go_wp2
        have hkn := HKN.out
        refine ⟨⟨k + 1, by go_num, HB9.out, .inr hkn, fun j h1 h2 h3 => ?_⟩, by simp [intOf]; omega⟩
        rcases Nat.lt_succ_iff_lt_or_eq.1 h2 with h | rfl
        · exact HQ.out j h1 h h3
        · exact HZ.out
      | false =>
        rw [hup, hz, Bool.not_false]
        have HRR := Lib.hid (HR2.out (k + 1) (Nat.succ_pos _) HKN.out hz)
        clear hz hup
        go_wp2
        go_ret
        exact ⟨by rw [HRR.out]; rfl, HB9.out⟩
    · have i1 : ¬ ((k : Int) + 1 < (n : Int)) := by omega
      have HRR := Lib.hid (HR1.out fun j h1 h2 => HQ.out j h1 (by omega) h2)
      clear hkn hn
      go_wp2
      go_ret
      exact ⟨by rw [HRR.out]; rfl, HB.out⟩
end Go.Proofs.Yteplcpiamocclaa
