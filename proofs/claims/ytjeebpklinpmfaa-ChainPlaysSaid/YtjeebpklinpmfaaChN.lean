/-
  THE LAWS' HELPERS: blocks; a chain of the call's own, step by step (printed by wip/gen-chn.py).
-/
import Derived.Test.YtjeebpklinpmfaaChM
namespace Go.Proofs.Ytjeebpklinpmfaa
open Go.RowKit Reg Go.WideShapes Go.ChangeShapes

def letB (s : ByteArray) (k : Nat) : Int := if s.data.toList.getD k 0 = 48 then 0 else ((s.data.toList.getD k 0).toNat : Int)
theorem letB_range (s : ByteArray) (k : Nat) : 0 ≤ letB s k ∧ letB s k < 256 := by
  unfold letB
  have := (s.data.toList.getD k 0).toNat_lt
  split <;> omega
set_option maxRecDepth 100000 in
theorem blocks_any (w : World) (v : Value) (zs : List ByteArray) (s : ByteArray) (hv : InT w v zs) (hl : zs.length = s.size) (hs : s.size ≤ 8) (hz : ∀ k, k < zs.length → zs.getD k ByteArray.empty = dataS (letB s k)) :
    Calls Try.prog 28 #[v, .int .i64 0, .string s] w fun e w' => e = .returned (.bool true) ∧ Below w.heap.size w w' := by
  obtain ⟨a, c, rfl, -, hx⟩ := hv.open_
  have hb : ∀ k (hk : k < s.size), s[k] = s.data.toList.getD k 0 := fun k hk => by
    rw [List.getD_eq_getElem?_getD, Array.getElem?_toList]
    have : k < s.data.size := hk
    rw [Array.getElem?_eq_getElem this]
    rfl
  have HX := Lib.hid hx
  have HL := Lib.hid hl
  have HZ := Lib.hid hz
  have HB := Lib.hid hb
  have HS8 := Lib.hid hs
  obtain ⟨n, hn⟩ : ∃ n, n = s.size := ⟨_, rfl⟩
  rw [hl, ← hn]
  have e0 : ((s.size : Nat) : Int) = (n : Int) := by rw [hn]
  have HN := Lib.hid hn
  clear hx hl hz hb hs hv hn
  go_enter Try.func28, Try.ntmps28
  go_wp2_with fail
  clear e0
  go_loopw [7] (fun i wr => ∃ k : Nat, k ≤ n ∧ i = .int .i64 k ∧ Below w.heap.size w wr) (fun i _ => n - (intOf i).toNat)
  case atStart => exact ⟨0, Nat.zero_le _, rfl, Below.refl _ _⟩
  case round =>
    obtain ⟨k, hk, rfl, hb⟩ := hrel
    have HBE := Lib.hid hb
    clear hb
    by_cases hkn : k < n
    · have hks : k < s.size := by have := HN.out; omega
      have hkl : k < zs.length := by have := HL.out; omega
      obtain ⟨g, off, rfl, hc⟩ := HX.out k hkl
      have c0 := cell_later HBE.out hc
      rw [HZ.out k hkl] at c0
      have hby := HB.out k hks
      have HLE := Lib.hid (letB_range s k)
      have hlb : letB s k = if s.data.toList.getD k 0 = 48 then 0 else ((s.data.toList.getD k 0).toNat : Int) := rfl
      generalize s.data.toList.getD k 0 = bb at *
      have i1 : (k : Int) < (n : Int) := by omega
      have h8 := HS8.out
      have hk8 : (k : Int) < 8 := by have := HN.out; omega
      have hks2 : (k : Int) < (s.size : Int) := by omega
      have HKN := Lib.hid hkn
      generalize letB s k = lb at *
      obtain ⟨l0, l1⟩ := HLE.out
      by_cases h48 : bb = 48
      · rw [if_pos h48] at hlb
        subst hlb
        subst h48
        have hbi : ((s[k]'hks).toNat : Int) = 48 := by rw [hby]; rfl
        have hbb : ((s[k]'hks) == 48) = true := by rw [hby]; rfl
        clear hc hkn hk hkl h8
        go_wp2_with fail
        refine wp_region_below (by kernel_rfl) (by kernel_rfl) ?_
        have e0 : ∀ z : Bw wr, z.w.cell? ⟨g, off + k, none⟩ = some (.string (dataS 0)) := fun z => z.cell c0
        repeat (go_big_quiet_step (first | (go_at_call 23; exact below_call (data_any _ HLE.out.1 HLE.out.2 _))))
        refine wpQuiet_nil ?_
        intro w4 hb
        have HB4 := Lib.hid (HBE.out.trans (hb.mono HBE.out.size))
        clear hb e0
        go_wp2
        clear hk8 i1 hks2
        exact ⟨⟨k + 1, HKN.out, rfl, HB4.out⟩, meas_succ HKN.out⟩
      · rw [if_neg h48] at hlb
        have hbi : ((s[k]'hks).toNat : Int) = lb := by rw [hby, hlb]
        have hne : ¬ lb = 48 := by
          rw [hlb]
          intro e
          exact h48 (UInt8.toNat_inj.1 (by have : bb.toNat = 48 := by omega
                                           rw [this]; rfl))
        have hn1 : (lb == 48) = false := by simpa using hne
        have hn2 : decide (lb = 48) = false := decide_eq_false hne
        clear hc hkn hk hkl h8 hlb hby h48 hne
        go_wp2_with fail
        refine wp_region_below (by kernel_rfl) (by kernel_rfl) ?_
        have e0 : ∀ z : Bw wr, z.w.cell? ⟨g, off + k, none⟩ = some (.string (dataS lb)) := fun z => z.cell c0
        repeat (go_big_quiet_step (first | (go_at_call 23; exact below_call (data_any _ HLE.out.1 HLE.out.2 _))))
        refine wpQuiet_nil ?_
        intro w4 hb
        have HB4 := Lib.hid (HBE.out.trans (hb.mono HBE.out.size))
        clear hb e0
        go_wp2
        clear hk8 i1 hks2
        exact ⟨⟨k + 1, HKN.out, rfl, HB4.out⟩, meas_succ HKN.out⟩
    · obtain rfl : k = n := by omega
      have i1 : ¬ ((k : Int) < (k : Int)) := by omega
      clear hkn hk
      go_wp2
      go_ret
      exact ⟨rfl, HBE.out⟩
/-- a chain of the call's own: all of it lies from block B on -/
structure Ho (B : Nat) (w0 w : World) (bc : Nat) (C : Ch) : Prop where
  ex : ∃ sl, Cm w bc sl C ∧ ∀ b, sl.ownBlock = some b → B ≤ b
  bc : B ≤ bc
  below : Below B w0 w
  size : B ≤ w.heap.size
section
variable {B : Nat} {w0 w w' : World} {bc : Nat} {C : Ch}
theorem Ho.keep (h : Ho B w0 w bc C) (hb : Below w.heap.size w w') : Ho B w0 w' bc C := by
  obtain ⟨sl, h1, h2⟩ := h.ex
  exact ⟨⟨sl, h1.keep hb, h2⟩, h.bc, h.below.trans (hb.mono h.size), Nat.le_trans h.size hb.size⟩
theorem Ho.of_new {e : Ending} {n : Nat} (hb : Below B w0 w) (hs : B ≤ w.heap.size) (h : NewT w n e w') : ∃ bc, e = .returned (.pointer (some ⟨bc, 0, none⟩)) ∧ Ho B w0 w' bc (Ch.new n) := by
  obtain ⟨bc, h1, h2, h3, h4⟩ := h
  exact ⟨bc, h1, ⟨⟨_, h2, fun b hb => by cases hb⟩, Nat.le_trans hs h3, hb.trans (h4.mono hs), Nat.le_trans hs h4.size⟩⟩
/-- what is of another type stays -/
def Oth (w w' : World) : Prop := ∀ q t cs, t ≠ 72 → t ≠ 74 → Blk w q t cs → Blk w' q t cs
theorem Oth.of_kp {sl : Value} (h : Cm w bc sl C) (hk : Kp (fpC bc sl) w w') : Oth w w' := by
  intro q t cs h1 h2 hb
  refine hk.blk hb ?_
  rintro (rfl | hq)
  · have ho := h.obj
    unfold Blk at ho hb
    rw [ho] at hb
    simp only [Option.some.injEq, Obj.cells.injEq] at hb
    exact h1 hb.2.1.symm
  · obtain ⟨cs', ho⟩ := h.snaps.blk hq
    unfold Blk at ho hb
    rw [ho] at hb
    simp only [Option.some.injEq, Obj.cells.injEq] at hb
    exact h2 hb.2.1.symm
theorem Ho.other {q : Nat} {t : TypeId} {cs : Array Value} (h : Ho B w0 w bc C) (hk : Kp (· = q) w w') (hb : Blk w q t cs) (h1 : t ≠ 72) (h2 : t ≠ 74) (hq : B ≤ q) : Ho B w0 w' bc C := by
  obtain ⟨sl, h3, h4⟩ := h.ex
  refine ⟨⟨sl, h3.kp hk ?_ ?_, h4⟩, h.bc, h.below.trans (hk.below (fun b hb => by rw [hb]; exact hq) h.size), Nat.le_trans h.size hk.size⟩
  · rintro rfl
    have ho := h3.obj
    unfold Blk at ho hb
    rw [ho] at hb
    simp only [Option.some.injEq, Obj.cells.injEq] at hb
    exact h1 hb.2.1.symm
  · rintro b hb1 rfl
    obtain ⟨cs', ho⟩ := h3.snaps.blk hb1
    unfold Blk at ho hb
    rw [ho] at hb
    simp only [Option.some.injEq, Obj.cells.injEq] at hb
    exact h2 hb.2.1.symm
theorem Ho.of_st {e : Ending} {sl : Value} {r : Int} {C' : Ch} (h : Ho B w0 w bc C) (hsl : ∀ b, sl.ownBlock = some b → B ≤ b) (hcm : Cm w bc sl C) (hs : StT w bc sl r C' e w') : e = .returned (.int .i64 r) ∧ Ho B w0 w' bc C' ∧ Oth w w' := by
  obtain ⟨h1, sl', h2, h3, h4⟩ := hs
  refine ⟨h1, ⟨⟨sl', h2, fun b hb => ?_⟩, h.bc, h.below.trans (h3.below (fun b hb => ?_) h.size), Nat.le_trans h.size h3.size⟩, Oth.of_kp hcm h3⟩
  · rcases h4 b hb with h | h'
    · exact hsl b h
    · exact Nat.le_trans h.size h'
  · rcases hb with rfl | hb
    · exact h.bc
    · exact hsl b hb
theorem ho_write (h : Ho B w0 w bc C) (b : Int) (d : ByteArray) : Calls Try.prog 22 #[.pointer (some ⟨bc, 0, none⟩), .int .i64 b, .string d] w fun e w' => e = .returned (.int .i64 (C.writeE b d)) ∧ Ho B w0 w' bc (C.write b d) ∧ Oth w w' := by
  obtain ⟨sl, h1, h2⟩ := h.ex
  refine (write_any h1 b d).mono ?_
  rintro e w' ⟨rfl, h3, h4⟩
  exact ⟨rfl, ⟨⟨sl, h3, h2⟩, h.bc, h.below.trans (h4.below (fun b hb => by rw [hb]; exact h.bc) h.size), Nat.le_trans h.size h4.size⟩, Oth.of_kp h1 (h4.mono fun b hb => .inl hb)⟩
theorem ho_snap (h : Ho B w0 w bc C) (g : Gd) (hg : wfG g) : Calls Try.prog 11 #[.pointer (some ⟨bc, 0, none⟩), aggG g] w fun e w' => e = .returned (.int .i64 (C.next g)) ∧ Ho B w0 w' bc (C.snap g) ∧ Oth w w' := by
  obtain ⟨sl, h1, h2⟩ := h.ex
  exact (snap_any h1 g hg).mono fun _ _ hs => h.of_st h2 h1 hs
theorem ho_add (h : Ho B w0 w bc C) (g : Gd) (hg : wfG g) (cv : Value) (cs : List Cg) (hc : InC w cv cs) : Calls Try.prog 15 #[.pointer (some ⟨bc, 0, none⟩), aggG g, cv] w fun e w' => e = .returned (.int .i64 (C.addE g cs)) ∧ Ho B w0 w' bc (C.add g cs) ∧ Oth w w' := by
  obtain ⟨sl, h1, h2⟩ := h.ex
  exact (add_any h1 g hg cv cs hc).mono fun _ _ hs => h.of_st h2 h1 hs
theorem ho_roll (h : Ho B w0 w bc C) (n : Int) : Calls Try.prog 17 #[.pointer (some ⟨bc, 0, none⟩), .int .i64 n] w fun e w' => e = .returned (.int .i64 (C.rollE n)) ∧ Ho B w0 w' bc (C.roll n) ∧ Oth w w' := by
  obtain ⟨sl, h1, h2⟩ := h.ex
  exact (roll_any h1 n).mono fun _ _ hs => h.of_st h2 h1 hs
theorem ho_hide (h : Ho B w0 w bc C) (g : Gd) : Calls Try.prog 27 #[.pointer (some ⟨bc, 0, none⟩), aggG g] w fun e w' => e = .returned (.int .i64 (C.findE g)) ∧ Ho B w0 w' bc (C.hide g) ∧ Oth w w' := by
  obtain ⟨sl, h1, h2⟩ := h.ex
  exact (hide_any h1 g).mono fun _ _ hs => h.of_st h2 h1 hs
theorem ho_live (h : Ho B w0 w bc C) : Calls Try.prog 13 #[.pointer (some ⟨bc, 0, none⟩)] w (RetT w (C.live.take C.n)) := by
  obtain ⟨sl, h1, h2⟩ := h.ex
  exact live_any h1
theorem ho_list (h : Ho B w0 w bc C) : Calls Try.prog 18 #[.pointer (some ⟨bc, 0, none⟩)] w (RetG w (C.snaps.map (·.g))) := by
  obtain ⟨sl, h1, h2⟩ := h.ex
  exact listG_any h1
theorem ho_read (h : Ho B w0 w bc C) (g : Gd) : Calls Try.prog 16 #[.pointer (some ⟨bc, 0, none⟩), aggG g] w (ReadT w (C.readL g) (C.findE g)) := by
  obtain ⟨sl, h1, h2⟩ := h.ex
  exact read_any h1 g
theorem ho_chg (h : Ho B w0 w bc C) (n : Int) : Calls Try.prog 14 #[.pointer (some ⟨bc, 0, none⟩), .int .i64 n] w (ChgT w (C.chC n) (C.chE n)) := by
  obtain ⟨sl, h1, h2⟩ := h.ex
  exact chg_any h1 n
end
end Go.Proofs.Ytjeebpklinpmfaa
