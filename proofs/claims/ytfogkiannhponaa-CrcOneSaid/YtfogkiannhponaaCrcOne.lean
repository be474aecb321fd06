/-
  THE SUMS OF SINGLE BYTES ARE ALL UNLIKE.
-/
import Derived.Test.YtfogkiannhponaaCrcLaws
import Derived.Test.YtfogkiannhponaaRegion
namespace Go.Proofs.Ytfogkiannhponaa
open Go.RowKit Reg
theorem one_str {P : Program} (w : World) (x : UInt8) (v : Value) (src dst e : TypeId) (hs : P.underlying src = some (.slice e)) (he : P.underlying e = some (.int .u8)) (hd : P.underlying dst = some .string)
    (h : ∃ g, v = .slice (some ⟨g, 0, none⟩) 1 1 ∧ Blk w g e #[.int .u8 (x.toNat : Int)]) : (convert src dst v).run P w = .ok (.string (strOf [x])) w := by
  obtain ⟨g, rfl, hb⟩ := h
  exact str_of w src dst e g 1 1 [x] hs he hd rfl (fun j hj => by
    have : j = 0 := by simpa using hj
    subst this
    rw [hb.cell]; rfl)
def OneBlk (x : UInt8) (w : World) (v : Value) : Prop := ∃ g, v = .slice (some ⟨g, 0, none⟩) 1 1 ∧ Blk w g 5 #[.int .u8 (x.toNat : Int)]
def oneF (x y : UInt8) : Nat → World → Value → Prop := fun s w v => (s = 3 → OneBlk x w v) ∧ (s = 7 → OneBlk y w v)
theorem oneF_stable (x y : UInt8) : Stable (oneF x y) := fun s w w' u h hb =>
  ⟨fun e => by obtain ⟨g, h1, h2⟩ := h.1 e; exact ⟨g, h1, h2.keep hb⟩, fun e => by obtain ⟨g, h1, h2⟩ := h.2 e; exact ⟨g, h1, h2.keep hb⟩⟩
def oneP (x y : UInt8) : Nat → Value → Prop := fun s u => (s = 0 → u = .bool true) ∧ (s = 5 → u = .int .u32 ((Crc.sum [x]).toNat : Int)) ∧ (s = 9 → u = .int .u32 ((Crc.sum [y]).toNat : Int))
set_option maxHeartbeats 1000000 in
theorem law_CrcOne (a b : Int) (w : World) (wa : (Lit.int .u8 a).wf = true) (wb : (Lit.int .u8 b).wf = true) :
    Calls Try.prog 7 #[.int .u8 a, .int .u8 b] w fun e w' => e = .returned (.bool true) ∧ Below w.heap.size w w' := by
  obtain ⟨x, rfl⟩ : ∃ x : UInt8, a = (x.toNat : Int) := ⟨UInt8.ofNat a.toNat, by have := wf_u8 wa; rw [UInt8.toNat_ofNat']; omega⟩
  obtain ⟨y, rfl⟩ : ∃ y : UInt8, b = (y.toNat : Int) := ⟨UInt8.ofNat b.toNat, by have := wf_u8 wb; rw [UInt8.toNat_ofNat']; omega⟩
  clear wa wb
  go_enter Try.func7, Try.ntmps7
  go_wp2_with fail
  refine wp_region_spec (fun i => i == 0 || i == 3 || i == 5 || i == 7 || i == 9) (oneP x y) (CF w (oneF x y)) (by kernel_rfl) (by kernel_rfl) ?_ CF.start ?_
  · intro s
    by_cases h0 : s = 0
    · exact ⟨.bool true, by simp [oneP, h0]⟩
    by_cases h5 : s = 5
    · exact ⟨.int .u32 ((Crc.sum [x]).toNat : Int), by simp [oneP, h5]⟩
    · exact ⟨.int .u32 ((Crc.sum [y]).toNat : Int), by simp [oneP, h0, h5]⟩
  intro ν hν
  have n0 := (hν 0).1 rfl
  refine lex_special (by rfl) rfl (fun σ w1 hA hD hn hC => ?_) ?_
  · go_simp
    refine call_ok (oneF_stable x y) hC ((works_any w1).mono fun e w2 ⟨he, hb⟩ => ⟨_, he, ?_, ?_, hb⟩)
    · simp [oneP]
    · simp [oneF]
  rw [n0]
  simp only [Act.put, List.setIfInBounds_toArray, List.set_cons_succ, List.set_cons_zero]
  repeat (refine lex_plain (by rfl) rfl ?_; apply Exists.intro; refine ⟨fun σ w1 hA hD hC => ?_, ?_⟩; (· clear hA hD hC; go_simp; exact And.intro rfl rfl); simp only [Act.put, List.setIfInBounds_toArray, List.set_cons_succ, List.set_cons_zero])
  refine lex_special (by rfl) rfl (fun σ w1 hA hD hn hC => ?_) ?_
  · go_simp
    refine value_ok (oneF_stable x y) hC ((Below.refl _ _).alloc (Nat.le_refl _) _) (by simp [oneP]) ⟨fun _ => ⟨_, rfl, Blk.new _ _ _⟩, (fun h => by cases h)⟩
  simp only [Act.put, List.setIfInBounds_toArray, List.set_cons_succ, List.set_cons_zero]
  refine lex_plain (by rfl) rfl ?_
  refine ⟨.string (strOf [x]), fun σ w1 hA hD hC => ?_, ?_⟩
  · have h3 := got hA hD 3 rfl (by kernel_rfl)
    have hc := one_str (P := Try.prog) w1 x (ν 3) 29 9 5 Try.underlying29 Try.underlying5 Try.underlying9 ((hC.2 3 _ h3).1 rfl)
    go_simp
    exact And.intro rfl rfl
  simp only [Act.put, List.setIfInBounds_toArray, List.set_cons_succ, List.set_cons_zero]
  refine lex_special (by rfl) rfl (fun σ w1 hA hD hn hC => ?_) ?_
  · go_simp
    refine call_ok (oneF_stable x y) hC ((sum_any _ w1 (by rw [size_strOf]; unfold maxLen; simp)).mono fun e w2 ⟨he, hb⟩ => ⟨_, he, ?_, ?_, hb⟩)
    · simp [oneP, strOf_list]
    · simp [oneF]
  rw [(hν 5).2.1 rfl]
  simp only [Act.put, List.setIfInBounds_toArray, List.set_cons_succ, List.set_cons_zero]
  repeat (refine lex_plain (by rfl) rfl ?_; apply Exists.intro; refine ⟨fun σ w1 hA hD hC => ?_, ?_⟩; (· clear hA hD hC; go_simp; exact And.intro rfl rfl); simp only [Act.put, List.setIfInBounds_toArray, List.set_cons_succ, List.set_cons_zero])
  refine lex_special (by rfl) rfl (fun σ w1 hA hD hn hC => ?_) ?_
  · go_simp
    refine value_ok (oneF_stable x y) hC ((Below.refl _ _).alloc (Nat.le_refl _) _) (by simp [oneP]) ⟨(fun h => by cases h), fun _ => ⟨_, rfl, Blk.new _ _ _⟩⟩
  simp only [Act.put, List.setIfInBounds_toArray, List.set_cons_succ, List.set_cons_zero]
  refine lex_plain (by rfl) rfl ?_
  refine ⟨.string (strOf [y]), fun σ w1 hA hD hC => ?_, ?_⟩
  · have h3 := got hA hD 7 rfl (by kernel_rfl)
    have hc := one_str (P := Try.prog) w1 y (ν 7) 29 9 5 Try.underlying29 Try.underlying5 Try.underlying9 ((hC.2 7 _ h3).2 rfl)
    go_simp
    exact And.intro rfl rfl
  simp only [Act.put, List.setIfInBounds_toArray, List.set_cons_succ, List.set_cons_zero]
  refine lex_special (by rfl) rfl (fun σ w1 hA hD hn hC => ?_) ?_
  · go_simp
    refine call_ok (oneF_stable x y) hC ((sum_any _ w1 (by rw [size_strOf]; unfold maxLen; simp)).mono fun e w2 ⟨he, hb⟩ => ⟨_, he, ?_, ?_, hb⟩)
    · simp [oneP, strOf_list]
    · simp [oneF]
  rw [(hν 9).2.2 rfl]
  simp only [Act.put, List.setIfInBounds_toArray, List.set_cons_succ, List.set_cons_zero]
  have heq : ((((Crc.sum [x]).toNat : Int) == ((Crc.sum [y]).toNat : Int)) == ((x.toNat : Int) == (y.toNat : Int))) = true := by
    by_cases e : x = y
    · subst e; simp
    · have h1 : Crc.sum [x] ≠ Crc.sum [y] := fun h => e ((Crc.sum_one x y).1 h)
      have h2 : ((Crc.sum [x]).toNat : Int) ≠ ((Crc.sum [y]).toNat : Int) := fun h => h1 (BitVec.eq_of_toNat_eq (by omega))
      have h3 : (x.toNat : Int) ≠ (y.toNat : Int) := fun h => e (UInt8.toNat.inj (by omega))
      rw [beq_eq_false_iff_ne.2 h2, beq_eq_false_iff_ne.2 h3]; rfl
  repeat (refine lex_plain (by rfl) rfl ?_; apply Exists.intro; refine ⟨fun σ w1 hA hD hC => ?_, ?_⟩; (· clear hA hD hC; go_simp; exact And.intro rfl rfl); simp only [Act.put, List.setIfInBounds_toArray, List.set_cons_succ, List.set_cons_zero])
  refine lex_nil ?_
  intro σ w2 _ _ hC
  have HB := Lib.hid hC.1
  clear hC
  go_wp2
  go_ret
  exact ⟨rfl, HB.out⟩
end Go.Proofs.Ytfogkiannhponaa
