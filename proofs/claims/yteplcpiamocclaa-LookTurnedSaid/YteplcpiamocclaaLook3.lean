/-
  LOOK: IndexFunc, ContainsFunc over whatever closure of one or two captured variables (printed by wip/gen-look3.py).
-/
import Derived.Test.YteplcpiamocclaaLook2
namespace Go.Proofs.Yteplcpiamocclaa
open Go.RowKit Reg Go.ChangeShapes

theorem fIx_nonneg {n : Nat} {p : Nat → Bool} : decide (0 ≤ fIx n p) = (List.range n).any p := by
  rcases fIx_cases n p with ⟨h1, h2⟩ | ⟨k, hk, h1, h2, h3⟩
  · rw [h1]
    have : (List.range n).any p = false := by
      rw [List.any_eq_false]
      intro x hx
      rw [h2 x (List.mem_range.1 hx)]
      simp
    rw [this]
    rfl
  · rw [h1]
    have : (List.range n).any p = true := List.any_eq_true.2 ⟨k, List.mem_range.2 hk, h2⟩
    rw [this]
    exact decide_eq_true (by omega)
set_option maxRecDepth 100000 in
theorem indexS_1 (fid : FuncId) (c1 : Value) (p : Nat → Bool) (v : Value) (es : List El) (w : World) (hv : InS w v es)
    (hf : ∀ (args : Array Value) (w : World), (callFunc fid args).run Try.prog w = .ok (.enter fid args) w) (hcall : ∀ j, j < es.length → ∀ w', Below w.heap.size w w' → Calls Try.prog fid #[(nth es j).enc, c1] w' fun e w'' => e = .returned (.bool (p j)) ∧ Below w'.heap.size w' w'') :
    Calls Try.prog 27 #[v, .func (.func fid) #[] #[c1]] w fun e w' => e = .returned (.int .i64 (fIx es.length p)) ∧ Below w.heap.size w w' := by
  obtain ⟨a, c, rfl, -, hn, hx⟩ := hv
  have hx : ∀ j, j < es.length → (∃ g off, a = some ⟨g, off, none⟩ ∧ SeenAt w g (off + j * 9) (nth es j)) := fun j hj => (hx j hj).1
  have hres1 := fun (k : Nat) (h1 : k < es.length) (h2 : ∀ j, j < k → p j = false) (h3 : p k = true) => fIx_some (p := p) h1 h2 h3
  have hres2 := fun (h : ∀ j, j < es.length → p j = false) => fIx_none (p := p) h
  obtain ⟨res, hr⟩ : ∃ z, z = fIx es.length p := ⟨_, rfl⟩
  rw [← hr] at hres1 hres2
  rw [← hr]
  generalize nth es = Z at *
  generalize es.length = n at *
  have HX := Lib.hid hx
  have HN := Lib.hid hn
  have HR1 := Lib.hid hres1
  have HR2 := Lib.hid hres2
  have HC := Lib.hid hcall
  have HF := Lib.hid hf
  clear hx hn hres1 hres2 hr hcall hf
  go_enter Try.func27, Try.ntmps27
  go_wp2_with fail
  go_loopw [8] (fun i wr => ∃ k : Nat, k ≤ n ∧ i = .int .i64 k ∧ Below w.heap.size w wr ∧ ∀ j, j < k → p j = false) (fun i _ => n - (intOf i).toNat)
  case atStart => exact ⟨0, Nat.zero_le _, rfl, Below.refl _ _, fun j hj => absurd hj (Nat.not_lt_zero j)⟩
  case round =>
    obtain ⟨k, hk, rfl, hb, hq⟩ := hrel
    have HB := Lib.hid hb
    have HQ := Lib.hid hq
    have hn := HN.out
    unfold maxLen at hn
    clear hb hq
    by_cases hkn : k < n
    · obtain ⟨g, off, rfl, hs⟩ := HX.out k hkn
      obtain ⟨s0, s1, s2, s3, s4, s5, s6, s7, s8⟩ := hs.keep HB.out
      dsimp only [El.vl, El.vs, El.vt, El.vi] at s5 s6 s7 s8
      clear hs
      have i1 : (k : Int) < (n : Int) := by omega
      have I9 := Lib.hid (show (k : Int) < 9223372036854775807 by omega)
      have HKN := Lib.hid hkn
      have hc := HC.out k hkn wr HB.out
      unfold El.enc El.cells at hc
      have HCK := Lib.hid hc
      clear hkn hn hk hc
      go_wp2_with fail
      rw [HF.out]
      refine HCK.out.mono ?_
      rintro e w2 ⟨rfl, hb⟩
      have HB1 := Lib.hid (HB.out.trans (hb.mono HB.out.size))
      clear hb HCK s0 s1 s2 s3 s4 s5 s6 s7 s8
      cases hz : p k with
      | false =>
        have HZ := Lib.hid hz
        clear hz
        have i9 := I9.out
        go_wp2
        have hkn := HKN.out
        refine ⟨⟨k + 1, by omega, by go_num, HB1.out, fun j hj => ?_⟩, by simp [intOf]; omega⟩
        rcases Nat.lt_succ_iff_lt_or_eq.1 hj with h | rfl
        · exact HQ.out j h
        · exact HZ.out
      | true =>
        have HRR := Lib.hid (HR1.out k HKN.out HQ.out hz)
        clear hz
        go_wp2
        go_ret
        exact ⟨by rw [HRR.out]; rfl, HB1.out⟩
    · obtain rfl : k = n := by omega
      have i1 : ¬ ((k : Int) < (k : Int)) := by omega
      have HRR := Lib.hid (HR2.out HQ.out)
      clear hkn hn hk
      go_wp2
      go_ret
      exact ⟨by rw [HRR.out]; rfl, HB.out⟩
theorem containsS_1 (fid : FuncId) (c1 : Value) (p : Nat → Bool) (v : Value) (es : List El) (w : World) (hv : InS w v es)
    (hf : ∀ (args : Array Value) (w : World), (callFunc fid args).run Try.prog w = .ok (.enter fid args) w) (hcall : ∀ j, j < es.length → ∀ w', Below w.heap.size w w' → Calls Try.prog fid #[(nth es j).enc, c1] w' fun e w'' => e = .returned (.bool (p j)) ∧ Below w'.heap.size w' w'') :
    Calls Try.prog 31 #[v, .func (.func fid) #[] #[c1]] w fun e w' => e = .returned (.bool ((List.range es.length).any p)) ∧ Below w.heap.size w w' := by
  have hi := indexS_1 fid c1 p v es w hv hf hcall
  rw [← fIx_nonneg]
  generalize fIx es.length p = z at *
  obtain ⟨a, c, rfl⟩ : ∃ a c, v = .slice a es.length c := by
    obtain ⟨a, c, e, _⟩ := hv
    exact ⟨a, c, e⟩
  generalize es.length = n at *
  have HI := Lib.hid hi
  clear hi hcall hv hf
  go_enter Try.func31, Try.ntmps31
  go_wp2_with fail
  refine HI.out.mono ?_
  rintro e w2 ⟨rfl, hb⟩
  have HB := Lib.hid hb
  clear hb
  go_wp2
  go_ret
  exact ⟨rfl, HB.out⟩
set_option maxRecDepth 100000 in
theorem indexG_1 (fid : FuncId) (c1 : Value) (p : Nat → Bool) (v : Value) (es : List Gd) (w : World) (hv : InG w v es)
    (hf : ∀ (args : Array Value) (w : World), (callFunc fid args).run Try.prog w = .ok (.enter fid args) w) (hcall : ∀ j, j < es.length → ∀ w', Below w.heap.size w w' → Calls Try.prog fid #[aggG (gth es j), c1] w' fun e w'' => e = .returned (.bool (p j)) ∧ Below w'.heap.size w' w'') :
    Calls Try.prog 52 #[v, .func (.func fid) #[] #[c1]] w fun e w' => e = .returned (.int .i64 (fIx es.length p)) ∧ Below w.heap.size w w' := by
  obtain ⟨a, c, rfl, -, hx⟩ := hv.open_
  have hn := hv.2.1
  have hx : ∀ j, j < es.length → ∃ g' off, a = some ⟨g', off, none⟩ ∧ w.cell? ⟨g', off + j * 2, none⟩ = some (.int .u64 (gth es j).1) ∧ w.cell? ⟨g', off + j * 2 + 1, none⟩ = some (.int .u64 (gth es j).2) := hx
  clear hv
  have hres1 := fun (k : Nat) (h1 : k < es.length) (h2 : ∀ j, j < k → p j = false) (h3 : p k = true) => fIx_some (p := p) h1 h2 h3
  have hres2 := fun (h : ∀ j, j < es.length → p j = false) => fIx_none (p := p) h
  obtain ⟨res, hr⟩ : ∃ z, z = fIx es.length p := ⟨_, rfl⟩
  rw [← hr] at hres1 hres2
  rw [← hr]
  generalize gth es = Z at *
  generalize es.length = n at *
  have HX := Lib.hid hx
  have HN := Lib.hid hn
  have HR1 := Lib.hid hres1
  have HR2 := Lib.hid hres2
  have HC := Lib.hid hcall
  have HF := Lib.hid hf
  clear hx hn hres1 hres2 hr hcall hf
  go_enter Try.func52, Try.ntmps52
  go_wp2_with fail
  go_loopw [8] (fun i wr => ∃ k : Nat, k ≤ n ∧ i = .int .i64 k ∧ Below w.heap.size w wr ∧ ∀ j, j < k → p j = false) (fun i _ => n - (intOf i).toNat)
  case atStart => exact ⟨0, Nat.zero_le _, rfl, Below.refl _ _, fun j hj => absurd hj (Nat.not_lt_zero j)⟩
  case round =>
    obtain ⟨k, hk, rfl, hb, hq⟩ := hrel
    have HB := Lib.hid hb
    have HQ := Lib.hid hq
    have hn := HN.out
    unfold maxLen at hn
    clear hb hq
    by_cases hkn : k < n
    · obtain ⟨g, off, rfl, s0, s1⟩ := HX.out k hkn
      have s0 := cell_later HB.out s0
      have s1 := cell_later HB.out s1
      have i1 : (k : Int) < (n : Int) := by omega
      have I9 := Lib.hid (show (k : Int) < 9223372036854775807 by omega)
      have HKN := Lib.hid hkn
      have hc := HC.out k hkn wr HB.out
      unfold aggG at hc
      have HCK := Lib.hid hc
      clear hkn hn hk hc
      go_wp2_with fail
      rw [HF.out]
      refine HCK.out.mono ?_
      rintro e w2 ⟨rfl, hb⟩
      have HB1 := Lib.hid (HB.out.trans (hb.mono HB.out.size))
      clear hb HCK s0 s1
      cases hz : p k with
      | false =>
        have HZ := Lib.hid hz
        clear hz
        have i9 := I9.out
        go_wp2
        have hkn := HKN.out
        refine ⟨⟨k + 1, by omega, by go_num, HB1.out, fun j hj => ?_⟩, by simp [intOf]; omega⟩
        rcases Nat.lt_succ_iff_lt_or_eq.1 hj with h | rfl
        · exact HQ.out j h
        · exact HZ.out
      | true =>
        have HRR := Lib.hid (HR1.out k HKN.out HQ.out hz)
        clear hz
        go_wp2
        go_ret
        exact ⟨by rw [HRR.out]; rfl, HB1.out⟩
    · obtain rfl : k = n := by omega
      have i1 : ¬ ((k : Int) < (k : Int)) := by omega
      have HRR := Lib.hid (HR2.out HQ.out)
      clear hkn hn hk
      go_wp2
      go_ret
      exact ⟨by rw [HRR.out]; rfl, HB.out⟩
theorem containsG_1 (fid : FuncId) (c1 : Value) (p : Nat → Bool) (v : Value) (es : List Gd) (w : World) (hv : InG w v es)
    (hf : ∀ (args : Array Value) (w : World), (callFunc fid args).run Try.prog w = .ok (.enter fid args) w) (hcall : ∀ j, j < es.length → ∀ w', Below w.heap.size w w' → Calls Try.prog fid #[aggG (gth es j), c1] w' fun e w'' => e = .returned (.bool (p j)) ∧ Below w'.heap.size w' w'') :
    Calls Try.prog 36 #[v, .func (.func fid) #[] #[c1]] w fun e w' => e = .returned (.bool ((List.range es.length).any p)) ∧ Below w.heap.size w w' := by
  have hi := indexG_1 fid c1 p v es w hv hf hcall
  rw [← fIx_nonneg]
  generalize fIx es.length p = z at *
  obtain ⟨a, c, rfl⟩ : ∃ a c, v = .slice a es.length c := hv.slice_
  generalize es.length = n at *
  have HI := Lib.hid hi
  clear hi hcall hv hf
  go_enter Try.func36, Try.ntmps36
  go_wp2_with fail
  refine HI.out.mono ?_
  rintro e w2 ⟨rfl, hb⟩
  have HB := Lib.hid hb
  clear hb
  go_wp2
  go_ret
  exact ⟨rfl, HB.out⟩
set_option maxRecDepth 100000 in
theorem indexS_2 (fid : FuncId) (c1 c2 : Value) (p : Nat → Bool) (v : Value) (es : List El) (w : World) (hv : InS w v es)
    (hf : ∀ (args : Array Value) (w : World), (callFunc fid args).run Try.prog w = .ok (.enter fid args) w) (hcall : ∀ j, j < es.length → ∀ w', Below w.heap.size w w' → Calls Try.prog fid #[(nth es j).enc, c1, c2] w' fun e w'' => e = .returned (.bool (p j)) ∧ Below w'.heap.size w' w'') :
    Calls Try.prog 27 #[v, .func (.func fid) #[] #[c1, c2]] w fun e w' => e = .returned (.int .i64 (fIx es.length p)) ∧ Below w.heap.size w w' := by
  obtain ⟨a, c, rfl, -, hn, hx⟩ := hv
  have hx : ∀ j, j < es.length → (∃ g off, a = some ⟨g, off, none⟩ ∧ SeenAt w g (off + j * 9) (nth es j)) := fun j hj => (hx j hj).1
  have hres1 := fun (k : Nat) (h1 : k < es.length) (h2 : ∀ j, j < k → p j = false) (h3 : p k = true) => fIx_some (p := p) h1 h2 h3
  have hres2 := fun (h : ∀ j, j < es.length → p j = false) => fIx_none (p := p) h
  obtain ⟨res, hr⟩ : ∃ z, z = fIx es.length p := ⟨_, rfl⟩
  rw [← hr] at hres1 hres2
  rw [← hr]
  generalize nth es = Z at *
  generalize es.length = n at *
  have HX := Lib.hid hx
  have HN := Lib.hid hn
  have HR1 := Lib.hid hres1
  have HR2 := Lib.hid hres2
  have HC := Lib.hid hcall
  have HF := Lib.hid hf
  clear hx hn hres1 hres2 hr hcall hf
  go_enter Try.func27, Try.ntmps27
  go_wp2_with fail
  go_loopw [8] (fun i wr => ∃ k : Nat, k ≤ n ∧ i = .int .i64 k ∧ Below w.heap.size w wr ∧ ∀ j, j < k → p j = false) (fun i _ => n - (intOf i).toNat)
  case atStart => exact ⟨0, Nat.zero_le _, rfl, Below.refl _ _, fun j hj => absurd hj (Nat.not_lt_zero j)⟩
  case round =>
    obtain ⟨k, hk, rfl, hb, hq⟩ := hrel
    have HB := Lib.hid hb
    have HQ := Lib.hid hq
    have hn := HN.out
    unfold maxLen at hn
    clear hb hq
    by_cases hkn : k < n
    · obtain ⟨g, off, rfl, hs⟩ := HX.out k hkn
      obtain ⟨s0, s1, s2, s3, s4, s5, s6, s7, s8⟩ := hs.keep HB.out
      dsimp only [El.vl, El.vs, El.vt, El.vi] at s5 s6 s7 s8
      clear hs
      have i1 : (k : Int) < (n : Int) := by omega
      have I9 := Lib.hid (show (k : Int) < 9223372036854775807 by omega)
      have HKN := Lib.hid hkn
      have hc := HC.out k hkn wr HB.out
      unfold El.enc El.cells at hc
      have HCK := Lib.hid hc
      clear hkn hn hk hc
      go_wp2_with fail
      rw [HF.out]
      refine HCK.out.mono ?_
      rintro e w2 ⟨rfl, hb⟩
      have HB1 := Lib.hid (HB.out.trans (hb.mono HB.out.size))
      clear hb HCK s0 s1 s2 s3 s4 s5 s6 s7 s8
      cases hz : p k with
      | false =>
        have HZ := Lib.hid hz
        clear hz
        have i9 := I9.out
        go_wp2
        have hkn := HKN.out
        refine ⟨⟨k + 1, by omega, by go_num, HB1.out, fun j hj => ?_⟩, by simp [intOf]; omega⟩
        rcases Nat.lt_succ_iff_lt_or_eq.1 hj with h | rfl
        · exact HQ.out j h
        · exact HZ.out
      | true =>
        have HRR := Lib.hid (HR1.out k HKN.out HQ.out hz)
        clear hz
        go_wp2
        go_ret
        exact ⟨by rw [HRR.out]; rfl, HB1.out⟩
    · obtain rfl : k = n := by omega
      have i1 : ¬ ((k : Int) < (k : Int)) := by omega
      have HRR := Lib.hid (HR2.out HQ.out)
      clear hkn hn hk
      go_wp2
      go_ret
      exact ⟨by rw [HRR.out]; rfl, HB.out⟩
theorem containsS_2 (fid : FuncId) (c1 c2 : Value) (p : Nat → Bool) (v : Value) (es : List El) (w : World) (hv : InS w v es)
    (hf : ∀ (args : Array Value) (w : World), (callFunc fid args).run Try.prog w = .ok (.enter fid args) w) (hcall : ∀ j, j < es.length → ∀ w', Below w.heap.size w w' → Calls Try.prog fid #[(nth es j).enc, c1, c2] w' fun e w'' => e = .returned (.bool (p j)) ∧ Below w'.heap.size w' w'') :
    Calls Try.prog 31 #[v, .func (.func fid) #[] #[c1, c2]] w fun e w' => e = .returned (.bool ((List.range es.length).any p)) ∧ Below w.heap.size w w' := by
  have hi := indexS_2 fid c1 c2 p v es w hv hf hcall
  rw [← fIx_nonneg]
  generalize fIx es.length p = z at *
  obtain ⟨a, c, rfl⟩ : ∃ a c, v = .slice a es.length c := by
    obtain ⟨a, c, e, _⟩ := hv
    exact ⟨a, c, e⟩
  generalize es.length = n at *
  have HI := Lib.hid hi
  clear hi hcall hv hf
  go_enter Try.func31, Try.ntmps31
  go_wp2_with fail
  refine HI.out.mono ?_
  rintro e w2 ⟨rfl, hb⟩
  have HB := Lib.hid hb
  clear hb
  go_wp2
  go_ret
  exact ⟨rfl, HB.out⟩
end Go.Proofs.Yteplcpiamocclaa
