/-
  THE PROGRAM's READER: Num, Text, OK, End.
-/
import Derived.Test.YtikimmhkfjaijaaQWireRead
namespace Go.Proofs.Ytikimmhkfjaijaa
open Go.RowKit Reg

def NumPost (w : World) (r : Nat) (st : Wire.St) (e : Ending) (w' : World) : Prop := e = .returned (.int .u64 ((Wire.num st).1 : Int)) ∧ Rdr w' r (Wire.num st).2 ∧ w.grownBy w' (some r)

set_option maxHeartbeats 400000 in
theorem num_none (r : Nat) (w : World) (h : Rdr w r none) : Calls Try.prog 52 #[.pointer (some ⟨r, 0, none⟩)] w (NumPost w r none) := by
  have hmf : ∀ (fn : Fn) (first cap : Array Value) (w : World), (Instr.makeFunc fn first cap).run Try.prog w = .ok (.func fn first cap) w := fun _ _ _ _ => rfl
  go_enter Try.func52, Try.ntmps52
  go_wp2_with fail
  refine (take_bad r 1 w h).mono ?_
  rintro e w1 ⟨rfl, h1, h2⟩
  have H1 := Lib.hid h1
  have H2 := Lib.hid h2
  clear h h1 h2
  go_wp2
  go_ret
  exact ⟨rfl, H1.out, H2.out⟩
set_option maxHeartbeats 400000 in
theorem num_nil (r : Nat) (w : World) (h : Rdr w r (some [])) : Calls Try.prog 52 #[.pointer (some ⟨r, 0, none⟩)] w (NumPost w r (some [])) := by
  have hmf : ∀ (fn : Fn) (first cap : Array Value) (w : World), (Instr.makeFunc fn first cap).run Try.prog w = .ok (.func fn first cap) w := fun _ _ _ _ => rfl
  go_enter Try.func52, Try.ntmps52
  go_wp2_with fail
  refine (take_over r 1 [] w h (by simp)).mono ?_
  rintro e w1 ⟨rfl, h1, h2⟩
  have H1 := Lib.hid h1
  have H2 := Lib.hid h2
  clear h h1 h2
  go_wp2
  go_ret
  exact ⟨rfl, H1.out, H2.out⟩
theorem Rdr.bad {w : World} {r : Nat} {l : List UInt8} (h : Rdr w r (some l)) : ∃ v, w.cell? ⟨r, 1, none⟩ = some v ∧ w.frozen? ⟨r, 1, none⟩ = false ∧ Rdr (w.setCell ⟨r, 1, none⟩ (.bool true)) r none := by
  obtain ⟨g, off, c, b, _⟩ := h
  exact ⟨_, b.cell 1, b.frozen 1, ⟨_, b.set 1 _⟩⟩
theorem rd_first {w : World} {g off n c : Nat} {b : UInt8} {l : List UInt8} (h : RdB w (.slice (some ⟨g, off, none⟩) n c) (b :: l)) : w.cell? ⟨g, off, none⟩ = some (.int .u8 (b.toNat : Int)) := by
  rcases h.2 with ⟨h, _⟩ | ⟨g', off', c', h, _, hx⟩
  · cases h
  · cases h
    have := hx 0 (vb b) rfl
    rw [Nat.add_zero] at this
    exact this
theorem rd_at {w : World} {g off n c : Nat} {l : List UInt8} (h : RdB w (.slice (some ⟨g, off, none⟩) n c) l) (k : Nat) (hk : k < l.length) : w.cell? ⟨g, off + k, none⟩ = some (.int .u8 (l[k].toNat : Int)) := by
  rcases h.2 with ⟨h, _⟩ | ⟨g', off', c', h, _, hx⟩
  · cases h
  · cases h
    exact hx k _ (by simp [hk, vb])
set_option maxHeartbeats 1000000 in
theorem num_over (r : Nat) (k : UInt8) (l : List UInt8) (w : World) (h : Rdr w r (some (k :: l))) (hk : 8 < k.toNat ∨ l.length < k.toNat) : Calls Try.prog 52 #[.pointer (some ⟨r, 0, none⟩)] w (NumPost w r (some (k :: l))) := by
  have hmf : ∀ (fn : Fn) (first cap : Array Value) (w : World), (Instr.makeFunc fn first cap).run Try.prog w = .ok (.func fn first cap) w := fun _ _ _ _ => rfl
  have hnum : Wire.num (some (k :: l)) = (0, none) := by
    unfold Wire.num; dsimp only; rw [if_pos]; rcases hk with hk | hk
    · exact .inl hk
    · exact .inr (.inl hk)
  have HNUM := Lib.hid hnum
  clear hnum
  go_enter Try.func52, Try.ntmps52
  go_wp2_with fail
  refine (take_ok r 1 (k :: l) w h (by simp)).mono ?_
  rintro e w1 ⟨g, off, rfl, hg, hrd, h1, h2⟩
  have c1 := rd_first (l := []) hrd
  have H1 := Lib.hid h1
  have H2 := Lib.hid h2
  have HK := Lib.hid hk
  clear h hrd h1 h2
  by_cases h8 : 8 < k.toNat
  · obtain ⟨v, q1, q2, q3⟩ := H1.out.bad
    have HQ := Lib.hid q3
    clear q3 hk
    have hk8 : (8 : Int) < (k.toNat : Int) := by omega
    go_wp2
    go_ret
    exact ⟨by rw [HNUM.out]; rfl, by rw [HNUM.out]; exact HQ.out, grownBy_trans H2.out (grownBy_set _ _ _ _)⟩
  · have hk2 : l.length < k.toNat := by rcases hk with hk | hk <;> omega
    have hk8 : ¬ (8 : Int) < (k.toNat : Int) := by omega
    have HK2 := Lib.hid hk2
    clear hk hk2
    have hw : IntKind.u64.wrap (k.toNat : Int) = (k.toNat : Int) := wrap_u64 _ (by have := k.toNat_lt; omega)
    go_wp2_with fail
    refine (take_over r k.toNat l w1 H1.out HK2.out).mono ?_
    rintro e w2 ⟨rfl, h3, h4⟩
    have H3 := Lib.hid h3
    have H4 := Lib.hid h4
    clear h3 h4
    go_wp2
    refine wp_loop_rounds 1 ?_
    rw [rounds_succ]
    go_wp2
    go_ret
    exact ⟨by rw [HNUM.out]; rfl, by rw [HNUM.out]; exact H3.out, grownBy_trans H2.out H4.out⟩
set_option maxHeartbeats 1000000 in
theorem num_some (r : Nat) (k : UInt8) (l : List UInt8) (w : World) (h : Rdr w r (some (k :: l))) (h8 : k.toNat ≤ 8) (hl : k.toNat ≤ l.length) : Calls Try.prog 52 #[.pointer (some ⟨r, 0, none⟩)] w (NumPost w r (some (k :: l))) := by
  have hmf : ∀ (fn : Fn) (first cap : Array Value) (w : World), (Instr.makeFunc fn first cap).run Try.prog w = .ok (.func fn first cap) w := fun _ _ _ _ => rfl
  have HL := Lib.hid hl
  go_enter Try.func52, Try.ntmps52
  go_wp2_with fail
  refine (take_ok r 1 (k :: l) w h (by simp)).mono ?_
  rintro e w1 ⟨g, off, rfl, hg, hrd, h1, h2⟩
  have c1 := rd_first (l := []) hrd
  have H1 := Lib.hid h1
  have H2 := Lib.hid h2
  clear h hrd h1 h2 hl
  have hk8 : ¬ (8 : Int) < (k.toNat : Int) := by omega
  have hw : IntKind.u64.wrap (k.toNat : Int) = (k.toNat : Int) := wrap_u64 _ (by have := k.toNat_lt; omega)
  go_wp2_with fail
  refine (take_ok r k.toNat l w1 H1.out HL.out).mono ?_
  rintro e w2 ⟨g2, off2, rfl, hg2, hrd2, h3, h4⟩
  have H3 := Lib.hid h3
  have H4 := Lib.hid h4
  have HRD := Lib.hid hrd2
  clear h3 h4 hrd2 c1
  have hlen : (l.take k.toNat).length = k.toNat := by rw [List.length_take]; have := HL.out; omega
  go_wp2
  go_loopw [5, 31] (fun n i wr => ∃ j : Nat, j ≤ k.toNat ∧ i = .int .i64 j ∧ n = .int .u64 ((Wire.be ((l.take k.toNat).take j) : Nat) : Int) ∧ w2 = wr) (fun _ i _ => k.toNat - (intOf i).toNat)
  case atStart => exact ⟨0, Nat.zero_le _, rfl, rfl, rfl⟩
  case round =>
    obtain ⟨j, hj, rfl, rfl, rfl⟩ := hrel
    by_cases hlt : j < k.toNat
    · have c2 := rd_at HRD.out j (by omega)
      have hb : Wire.be ((l.take k.toNat).take (j + 1)) = Wire.be ((l.take k.toNat).take j) * 256 + (l.take k.toNat)[j].toNat := by
        rw [List.take_succ_eq_append_getElem (by omega), Wire.be_append]
      have hlim : Wire.be ((l.take k.toNat).take (j + 1)) < 256 ^ 8 := by
        refine Nat.lt_of_lt_of_le (Wire.be_lt _) (Nat.pow_le_pow_right (by omega) ?_)
        rw [List.length_take]; omega
      rw [hb] at hlim
      have ho := or_low _ _ hlim (UInt8.toNat_lt _)
      rw [← hb] at ho
      have HO := Lib.hid ho
      clear hb hlim ho
      generalize (l.take k.toNat)[j].toNat = x at *
      generalize Wire.be ((l.take k.toNat).take j) = y at *
      go_wp2
      refine ⟨⟨j + 1, by omega, by go_num, ?_⟩, by simp [intOf]; omega⟩
      first | exact ⟨by rw [HO.out], trivial⟩ | exact ⟨by rw [HO.out], rfl⟩
    · obtain rfl : j = k.toNat := by omega
      have ht : (l.take k.toNat).take k.toNat = l.take k.toNat := List.take_of_length_le (by omega)
      have hbl : Wire.be (l.take k.toNat) < 256 ^ 8 := Nat.lt_of_lt_of_le (Wire.be_lt _) (Nat.pow_le_pow_right (by omega) (by omega))
      by_cases h0 : k.toNat = 0
      · have hnum : Wire.num (some (k :: l)) = (Wire.be (l.take k.toNat), some (l.drop k.toNat)) := by
          unfold Wire.num; dsimp only
          rw [if_neg]
          rintro (q | q | ⟨q, _⟩) <;> omega
        have HNUM := Lib.hid hnum
        rw [ht]
        clear hnum ht hbl hlen
        generalize hy : Wire.be (l.take k.toNat) = y at *
        have HY := Lib.hid hy
        clear hy
        have hkk : ((k.toNat : Nat) : Int) ≤ 0 := by omega
        go_wp2
        go_ret
        exact ⟨by rw [HNUM.out]; rfl, by rw [HNUM.out]; exact H3.out, grownBy_trans H2.out H4.out⟩
      · obtain ⟨b, l', rfl⟩ : ∃ b l', l = b :: l' := by
          cases l with
          | nil => have := HL.out; simp at this; omega
          | cons b l' => exact ⟨b, l', rfl⟩
        have hfirst : w2.cell? ⟨g2, off2, none⟩ = some (.int .u8 (b.toNat : Int)) := by
          have q := HRD.out
          rw [show k.toNat = (k.toNat - 1) + 1 from by omega, List.take_succ_cons] at q
          exact rd_first q
        rw [ht]
        have hkk : (0 : Int) < ((k.toNat : Nat) : Int) := by omega
        by_cases hb0 : b = 0
        · have hnum : Wire.num (some (k :: b :: l')) = (0, none) := by
            unfold Wire.num; dsimp only
            rw [if_pos]
            exact .inr (.inr ⟨by omega, by rw [hb0]; rfl⟩)
          have HNUM := Lib.hid hnum
          have hz : ((b.toNat : Int) == 0) = true := by rw [hb0]; rfl
          obtain ⟨v, q1, q2, q3⟩ := H3.out.bad
          have HQ := Lib.hid q3
          clear hnum ht hbl hlen q3 hb0
          go_wp2
          go_ret
          exact ⟨by rw [HNUM.out]; rfl, by rw [HNUM.out]; exact HQ.out, grownBy_trans (grownBy_trans H2.out H4.out) (grownBy_set _ _ _ _)⟩
        · have hnum : Wire.num (some (k :: b :: l')) = (Wire.be ((b :: l').take k.toNat), some ((b :: l').drop k.toNat)) := by
            unfold Wire.num; dsimp only
            rw [if_neg]
            rintro (q | q | ⟨_, q⟩)
            · omega
            · have := HL.out; omega
            · apply hb0; simpa using q
          have HNUM := Lib.hid hnum
          have hz : ((b.toNat : Int) == 0) = false := by
            rw [beq_eq_false_iff_ne]
            intro e
            exact hb0 (UInt8.toNat.inj (by simpa using e))
          clear hnum ht hbl hlen hb0
          generalize hy : Wire.be ((b :: l').take k.toNat) = y at *
          have HY := Lib.hid hy
          clear hy
          go_wp2
          go_ret
          exact ⟨by rw [HNUM.out]; rfl, by rw [HNUM.out]; exact H3.out, grownBy_trans H2.out H4.out⟩
/-- Num, whatever the reader's state. -/
theorem num_any (r : Nat) (st : Wire.St) (w : World) (h : Rdr w r st) : Calls Try.prog 52 #[.pointer (some ⟨r, 0, none⟩)] w (NumPost w r st) := by
  cases st with
  | none => exact num_none r w h
  | some l =>
    cases l with
    | nil => exact num_nil r w h
    | cons k l =>
      by_cases h1 : 8 < k.toNat ∨ l.length < k.toNat
      · exact num_over r k l w h h1
      · exact num_some r k l w h (by omega) (by omega)
end Go.Proofs.Ytikimmhkfjaijaa
