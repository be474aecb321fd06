/-
  THE LAW ChainPlays, walked (printed by wip/gen-rcj.py).
-/
import Derived.Test.YtjeebpklinpmfaaRcI
namespace Go.Proofs.Ytjeebpklinpmfaa
open Go.RowKit Reg Go.WideShapes Go.ChangeShapes

def ac0 : Ac := ⟨0, 0, 0, (0, 0), []⟩
/-- v is read as the acts l: six cells each -/
def InAs (w : World) (v : Value) (l : List Ac) : Prop :=
  ∃ a c, v = .slice a l.length c ∧ l.length ≤ maxLen ∧ ∀ j, j < l.length → ∃ g off lv, a = some ⟨g, off, none⟩ ∧
    (w.cell? ⟨g, off + j * 6, none⟩ = some (.int .i64 (l.getD j ac0).wh) ∧ w.cell? ⟨g, off + j * 6 + 1, none⟩ = some (.int .i64 (l.getD j ac0).n) ∧ w.cell? ⟨g, off + j * 6 + 2, none⟩ = some (.int .u8 (l.getD j ac0).c) ∧
     w.cell? ⟨g, off + j * 6 + 3, none⟩ = some (.int .u64 (l.getD j ac0).g.1) ∧ w.cell? ⟨g, off + j * 6 + 4, none⟩ = some (.int .u64 (l.getD j ac0).g.2) ∧ w.cell? ⟨g, off + j * 6 + 5, none⟩ = some lv) ∧ InP w lv (l.getD j ac0).ps ∧ wfA (l.getD j ac0)
section
variable {B : Nat} {w0 w w' : World} {ba bb bc br : Nat} {A C D : Ch}
theorem lit_u8y {z : Int} : (Lit.int .u8 z).wf = true ↔ 0 ≤ z ∧ z ≤ 255 := by
  simp [Lit.wf, show IntKind.u8.min = 0 from by decide, show IntKind.u8.max = 255 from by decide]
theorem ho_copy (h : Ho B w0 w bc C) : Calls Try.prog 20 #[.pointer (some ⟨bc, 0, none⟩)] w fun e w' => ∃ bd, e = .returned (.pointer (some ⟨bd, 0, none⟩)) ∧ Hp B w0 w' bc C bd C ∧ Below w.heap.size w w' := by
  obtain ⟨sl, h1, h2⟩ := h.ex
  refine (copy_any h1).mono ?_
  rintro e w' ⟨bd, sl', rfl, h3, h4, h5, h6⟩
  have hlt := h1.obj.lt
  have hs := h.size
  exact ⟨bd, rfl, ⟨⟨sl, sl', h1.keep h6, h3, h2, fun b hb => Nat.le_trans hs (h5 b hb), fun b hb hb2 => by have := h1.snaps.lt hb; have := h5 b hb2; omega⟩, by omega, h.bc, by omega, h.below.trans (h6.mono hs), Nat.le_trans hs h6.size⟩, h6⟩
theorem hp_write (h : Hp B w0 w ba A bb D) (b : Int) (d : ByteArray) : Calls Try.prog 22 #[.pointer (some ⟨ba, 0, none⟩), .int .i64 b, .string d] w fun e w' => e = .returned (.int .i64 (A.writeE b d)) ∧ Hp B w0 w' ba (A.write b d) bb D ∧ Oth w w' := by
  obtain ⟨sa, sb, h1, h2, h3, h4, h5⟩ := h.ex
  refine (write_any h1 b d).mono ?_
  rintro e w' ⟨rfl, h6, h7⟩
  exact ⟨rfl, Hp.step h1 h2 h3 h4 h5 h h6 (h7.mono fun b hb => .inl hb) (fun b hb => .inl hb)⟩
theorem Hp.right (h : Hp B w0 w ba A bb D) : Ho B w0 w bb D := by
  obtain ⟨sa, sb, h1, h2, h3, h4, h5⟩ := h.ex
  exact ⟨⟨sb, h2, h4⟩, h.bb, h.below, h.size⟩
theorem Rc.copy (h : Rc w B br C) : Calls Try.prog 21 #[.pointer (some ⟨br, 0, none⟩)] w fun e w' => ∃ bd, e = .returned (.pointer (some ⟨bd, 0, none⟩)) ∧ Rc w' B bd C ∧ Below w.heap.size w w' := by
  obtain ⟨nv, sv, now, es, h1, h2⟩ := h
  exact copyR_any h1 h2
set_option maxRecDepth 100000 in
set_option maxHeartbeats 4000000 in
theorem law_ChainPlays (v : Value) (l : List Ac) (b c : Int) (w : World) (hv : InAs w v l) (_ : True) (wb : (Lit.int .i64 b).wf = true) (wc : (Lit.int .u8 c).wf = true) :
    Calls Try.prog 6 #[v, .int .i64 b, .int .u8 c] w fun e w' => e = .returned (.bool true) ∧ Below w.heap.size w w' := by
  obtain ⟨va, vc, rfl, hml, hx⟩ := hv
  have hc := lit_u8y.1 wc
  generalize hL : l.length = L at *
  have HX := Lib.hid hx
  by_cases hbad : b < 1 ∨ 8 < b
  · have HN1 := Lib.hid (fun w => @new_bad w b hbad)
    have HN2 := Lib.hid (fun w => newR_bad w b hbad)
    clear hx hbad wb wc hml hL hc
    go_enter Try.func6, Try.ntmps6
    go_wp2_with fail
    refine (HN1.out _).mono ?_
    rintro e w1 ⟨rfl, rfl⟩
    go_wp2_with fail
    refine (HN2.out _).mono ?_
    rintro e w1 ⟨rfl, rfl⟩
    go_wp2_with fail
    refine (works_any _).mono ?_
    rintro e w1 ⟨rfl, hb⟩
    have HB := Lib.hid hb
    clear hb HN1 HN2
    go_wp2
    go_ret
    exact ⟨rfl, HB.out⟩
  · obtain ⟨n, rfl⟩ : ∃ n : Nat, b = n := ⟨b.toNat, by omega⟩
    have HN1 := Lib.hid (new_any w n (by omega) (by omega))
    have HN2 := Lib.hid (fun w2 (h : w.heap.size ≤ w2.heap.size) => newR_any w2 w.heap.size n h (by omega) (by omega))
    obtain ⟨q, hq⟩ : ∃ q : Nat, c.tmod 60 = (q : Int) := ⟨(c.tmod 60).toNat, by have := Int.tmod_nonneg (b := 60) hc.1; omega⟩
    have hq60 : q < 60 := by have := Int.tmod_lt_of_pos c (show (0 : Int) < 60 by omega); omega
    obtain ⟨M, hM1, hM2⟩ : ∃ M : Nat, (∀ k, k < M ↔ (k < L ∧ k < 60)) ∧ M ≤ 60 := ⟨min L 60, fun k => by omega, by omega⟩
    have HQ := Lib.hid (And.intro hq hq60)
    have HM := Lib.hid (And.intro hM1 hM2)
    have HML := Lib.hid hml
    have i9 : c.tmod 60 = (q : Int) := hq
    have HI9 := Lib.hid i9
    clear hx hbad wb wc hml hL hc hq hq60 hM1 hM2 i9
    go_enter Try.func6, Try.ntmps6
    go_wp2_with fail
    refine HN1.out.mono ?_
    rintro e w1 hn1
    obtain ⟨bc, rfl, hho⟩ := Ho.of_new (B := w.heap.size) (w0 := w) (Below.refl _ _) (Nat.le_refl _) hn1
    have HH := Lib.hid hho
    clear hn1 hho HN1
    go_wp2_with fail
    refine (HN2.out _ HH.out.size).mono ?_
    rintro e w2 ⟨br, rfl, hrc, hb⟩
    have HP := Lib.hid (show Pr w.heap.size w w2 bc br (Ch.new n) from ⟨HH.out.keep hb, hrc⟩)
    clear hrc hb HH HN2
    go_wp2_with fail
    go_loopw [7, 8, 9, 10] (fun c r i _ wr => ∃ (k bc br : Nat) (C : Ch), k ≤ M ∧ c = .pointer (some ⟨bc, 0, none⟩) ∧ r = .pointer (some ⟨br, 0, none⟩) ∧ i = .int .i64 k ∧ Pr w.heap.size w wr bc br C) (fun _ _ i _ _ => M - (intOf i).toNat)
    case atStart => exact ⟨0, bc, br, Ch.new n, Nat.zero_le _, rfl, rfl, rfl, HP.out⟩
    case round =>
      obtain ⟨k, b1, r1, C, hk, rfl, rfl, rfl, hp⟩ := hrel
      have HPR := Lib.hid hp
      clear hp
      by_cases hlt : k < M
      · obtain ⟨hkL, hk60⟩ := (HM.out.1 k).1 hlt
        obtain ⟨ga, offa, lv, rfl, ⟨r0, r1', r2, r3, r4, r5⟩, hip, hwf⟩ := HX.out k hkL
        obtain ⟨x, hxx⟩ : ∃ x, l.getD k ac0 = x := ⟨_, rfl⟩
        rw [hxx] at r0 r1' r2 r3 r4 hip hwf
        have HIP := Lib.hid hip
        have HWF := Lib.hid hwf
        obtain ⟨pa, pc, e, -⟩ := hip
        subst e
        obtain ⟨wh, xn, xc, xg, xps⟩ := x
        have HR := Lib.hid (And.intro r0 (And.intro r1' (And.intro r2 (And.intro r3 (And.intro r4 r5)))))
        have i1 : (k : Int) < (L : Int) := by omega
        have i2 : (k : Int) < 60 := by omega
        have i0 : (0 : Int) ≤ (k : Int) := by omega
        have HII := Lib.hid (And.intro i1 i0)
        have HLT := Lib.hid hlt
        have i9 := HI9.out
        clear hk hlt hkL hk60 hwf hxx r0 r1' r2 r3 r4 r5
        by_cases hqk : k = q
        · subst hqk
          go_wp2_with fail
          refine (ho_copy HPR.out.ho).mono ?_
          rintro e w3 ⟨b3, rfl, hh, hb⟩
          have HH := Lib.hid hh
          have HRC := Lib.hid (HPR.out.rc.keep hb)
          clear hh hb
          go_wp2_with fail
          refine HRC.out.copy.mono ?_
          rintro e w4 ⟨r4, rfl, hr, hb⟩
          replace HH := Lib.hid (HH.out.keep hb)
          replace HRC := Lib.hid hr
          clear hr hb
          go_wp2_with fail
          refine (data_any 120 (by decide) (by decide) _).mono ?_
          rintro e w5 ⟨rfl, hb⟩
          replace HH := Lib.hid (HH.out.keep hb)
          replace HRC := Lib.hid (HRC.out.keep hb)
          generalize dataS 120 = dx at *
          clear hb
          go_wp2_with fail
          refine (hp_write HH.out 0 dx).mono ?_
          generalize C.writeE 0 dx = we
          rintro e w6 ⟨rfl, hh, ho⟩
          replace HH := Lib.hid hh
          replace HRC := Lib.hid (HRC.out.oth ho)
          clear hh ho
          go_wp2_with fail
          refine (hp_roll HH.out 0).mono ?_
          generalize (C.write 0 dx).rollE 0 = re
          rintro e w7 ⟨rfl, hh, ho⟩
          have HP1 := Lib.hid (show Pr w.heap.size w w7 b3 r4 C from ⟨hh.right, HRC.out.oth ho⟩)
          clear hh ho HH HRC
          go_wp2_with fail
          refine wp_region_chain [6, 21] (kv [(6, .is (.bool true)), (21, .is (.bool true))]) (fun l w2 => match l with | [] => Pr w.heap.size w w2 b3 r4 C | _ => Pr w.heap.size w w2 b3 r4 (actC C (⟨wh, xn, xc, xg, xps⟩ : Ac))) (by kernel_rfl) (by kernel_rfl) (by kernel_rfl) (kv_inh _) (HP1.out.keep (Below.drew (Below.refl _ _))) ?_
          intro ν hν
          have n6 : ν 6 = .bool true := hν 6
          have n21 : ν 21 = .bool true := hν 21
          clear hν
          refine ch_plain 0 2 8 (by rfl) rfl (by kernel_rfl) (by kernel_rfl) ?_
          apply Exists.intro
          refine ⟨fun st w2 hlo hhi hJ => ?_, ?_⟩
          · clear hlo hhi hJ
            go_simp
            exact And.intro rfl rfl
          simp only [Act.put, List.setIfInBounds_toArray, List.set_cons_succ, List.set_cons_zero, Nat.reduceAdd]
          refine ch_plain 0 2 8 (by rfl) rfl (by kernel_rfl) (by kernel_rfl) ?_
          apply Exists.intro
          refine ⟨fun st w2 hlo hhi hJ => ?_, ?_⟩
          · clear hlo hhi hJ
            go_simp
            exact And.intro rfl rfl
          simp only [Act.put, List.setIfInBounds_toArray, List.set_cons_succ, List.set_cons_zero, Nat.reduceAdd]
          refine ch_plain 0 2 8 (by rfl) rfl (by kernel_rfl) (by kernel_rfl) ?_
          apply Exists.intro
          refine ⟨fun st w2 hlo hhi hJ => ?_, ?_⟩
          · clear hlo hhi hJ
            go_simp
            exact And.intro rfl rfl
          simp only [Act.put, List.setIfInBounds_toArray, List.set_cons_succ, List.set_cons_zero, Nat.reduceAdd]
          refine ch_plain 0 2 8 (by rfl) rfl (by kernel_rfl) (by kernel_rfl) ?_
          apply Exists.intro
          refine ⟨fun st w2 hlo hhi hJ => ?_, ?_⟩
          · clear hlo hhi hJ
            go_simp
            exact And.intro rfl rfl
          simp only [Act.put, List.setIfInBounds_toArray, List.set_cons_succ, List.set_cons_zero, Nat.reduceAdd]
          refine ch_plain 0 2 8 (by rfl) rfl (by kernel_rfl) (by kernel_rfl) ?_
          apply Exists.intro
          refine ⟨fun st w2 hlo hhi hJ => ?_, ?_⟩
          · have i1 := HII.out.1
            have i0 := HII.out.2
            clear hlo hhi hJ
            go_simp
            exact And.intro rfl rfl
          simp only [Act.put, List.setIfInBounds_toArray, List.set_cons_succ, List.set_cons_zero, Nat.reduceAdd]
          refine ch_plain 0 2 8 (by rfl) rfl (by kernel_rfl) (by kernel_rfl) ?_
          apply Exists.intro
          refine ⟨fun st w2 hlo hhi hJ => ?_, ?_⟩
          · have hj : ∃ D, Pr w.heap.size w w2 b3 r4 D := by
              have q : st = 0 ∨ st = 1 ∨ st = 2 := by omega
              rcases q with rfl | rfl | rfl
              · exact ⟨C, hJ⟩
              · exact ⟨(actC C (⟨wh, xn, xc, xg, xps⟩ : Ac)), hJ⟩
              · exact ⟨(actC C (⟨wh, xn, xc, xg, xps⟩ : Ac)), hJ⟩
            obtain ⟨D1, hj⟩ := hj
            have y0 := cell_later hj.ho.below HR.out.1
            have y1 := cell_later hj.ho.below HR.out.2.1
            have y2 := cell_later hj.ho.below HR.out.2.2.1
            have y3 := cell_later hj.ho.below HR.out.2.2.2.1
            have y4 := cell_later hj.ho.below HR.out.2.2.2.2.1
            have y5 := cell_later hj.ho.below HR.out.2.2.2.2.2
            clear hj
            clear hlo hhi hJ
            go_simp
            exact And.intro rfl rfl
          simp only [Act.put, List.setIfInBounds_toArray, List.set_cons_succ, List.set_cons_zero, Nat.reduceAdd]
          refine ch_special 0 8 (by rfl) rfl (by decide) (by kernel_rfl) (fun w2 hJ => ?_) ?_
          · have hj : Pr w.heap.size w w2 b3 r4 C := hJ
            go_simp
            refine (do_any hj (⟨wh, xn, xc, xg, xps⟩ : Ac) HWF.out _ HIP.out).mono ?_
            rintro e w8 ⟨rfl, hh⟩
            exact ⟨_, rfl, rfl, hh⟩
          rw [n6]
          simp only [Act.put, List.setIfInBounds_toArray, List.set_cons_succ, List.set_cons_zero, Nat.reduceAdd]
          refine ch_plain 0 2 8 (by rfl) rfl (by kernel_rfl) (by kernel_rfl) ?_
          apply Exists.intro
          refine ⟨fun st w2 hlo hhi hJ => ?_, ?_⟩
          · clear hlo hhi hJ
            go_simp
            exact And.intro rfl rfl
          simp only [Act.put, List.setIfInBounds_toArray, List.set_cons_succ, List.set_cons_zero, Nat.reduceAdd]
          refine ch_plain 0 2 8 (by rfl) rfl (by kernel_rfl) (by kernel_rfl) ?_
          apply Exists.intro
          refine ⟨fun st w2 hlo hhi hJ => ?_, ?_⟩
          · clear hlo hhi hJ
            go_simp
            exact And.intro rfl rfl
          simp only [Act.put, List.setIfInBounds_toArray, List.set_cons_succ, List.set_cons_zero, Nat.reduceAdd]
          refine ch_plain 0 2 8 (by rfl) rfl (by kernel_rfl) (by kernel_rfl) ?_
          apply Exists.intro
          refine ⟨fun st w2 hlo hhi hJ => ?_, ?_⟩
          · clear hlo hhi hJ
            go_simp
            exact And.intro rfl rfl
          simp only [Act.put, List.setIfInBounds_toArray, List.set_cons_succ, List.set_cons_zero, Nat.reduceAdd]
          refine ch_plain 0 2 8 (by rfl) rfl (by kernel_rfl) (by kernel_rfl) ?_
          apply Exists.intro
          refine ⟨fun st w2 hlo hhi hJ => ?_, ?_⟩
          · clear hlo hhi hJ
            go_simp
            exact And.intro rfl rfl
          simp only [Act.put, List.setIfInBounds_toArray, List.set_cons_succ, List.set_cons_zero, Nat.reduceAdd]
          refine ch_plain 0 2 8 (by rfl) rfl (by kernel_rfl) (by kernel_rfl) ?_
          apply Exists.intro
          refine ⟨fun st w2 hlo hhi hJ => ?_, ?_⟩
          · clear hlo hhi hJ
            go_simp
            exact And.intro rfl rfl
          simp only [Act.put, List.setIfInBounds_toArray, List.set_cons_succ, List.set_cons_zero, Nat.reduceAdd]
          refine ch_plain 0 2 8 (by rfl) rfl (by kernel_rfl) (by kernel_rfl) ?_
          apply Exists.intro
          refine ⟨fun st w2 hlo hhi hJ => ?_, ?_⟩
          · clear hlo hhi hJ
            go_simp
            exact And.intro rfl rfl
          simp only [Act.put, List.setIfInBounds_toArray, List.set_cons_succ, List.set_cons_zero, Nat.reduceAdd]
          refine ch_plain 0 2 8 (by rfl) rfl (by kernel_rfl) (by kernel_rfl) ?_
          apply Exists.intro
          refine ⟨fun st w2 hlo hhi hJ => ?_, ?_⟩
          · have i1 := HII.out.1
            have i0 := HII.out.2
            clear hlo hhi hJ
            go_simp
            exact And.intro rfl rfl
          simp only [Act.put, List.setIfInBounds_toArray, List.set_cons_succ, List.set_cons_zero, Nat.reduceAdd]
          refine ch_plain 0 2 8 (by rfl) rfl (by kernel_rfl) (by kernel_rfl) ?_
          apply Exists.intro
          refine ⟨fun st w2 hlo hhi hJ => ?_, ?_⟩
          · clear hlo hhi hJ
            go_simp
            exact And.intro rfl rfl
          simp only [Act.put, List.setIfInBounds_toArray, List.set_cons_succ, List.set_cons_zero, Nat.reduceAdd]
          refine ch_plain 0 2 8 (by rfl) rfl (by kernel_rfl) (by kernel_rfl) ?_
          apply Exists.intro
          refine ⟨fun st w2 hlo hhi hJ => ?_, ?_⟩
          · have hj : ∃ D, Pr w.heap.size w w2 b3 r4 D := by
              have q : st = 0 ∨ st = 1 ∨ st = 2 := by omega
              rcases q with rfl | rfl | rfl
              · exact ⟨C, hJ⟩
              · exact ⟨(actC C (⟨wh, xn, xc, xg, xps⟩ : Ac)), hJ⟩
              · exact ⟨(actC C (⟨wh, xn, xc, xg, xps⟩ : Ac)), hJ⟩
            obtain ⟨D1, hj⟩ := hj
            have y3 := cell_later hj.ho.below HR.out.2.2.2.1
            have y4 := cell_later hj.ho.below HR.out.2.2.2.2.1
            clear hj
            clear hlo hhi hJ
            go_simp
            exact And.intro rfl rfl
          simp only [Act.put, List.setIfInBounds_toArray, List.set_cons_succ, List.set_cons_zero, Nat.reduceAdd]
          refine ch_plain 0 2 8 (by rfl) rfl (by kernel_rfl) (by kernel_rfl) ?_
          apply Exists.intro
          refine ⟨fun st w2 hlo hhi hJ => ?_, ?_⟩
          · clear hlo hhi hJ
            go_simp
            exact And.intro rfl rfl
          simp only [Act.put, List.setIfInBounds_toArray, List.set_cons_succ, List.set_cons_zero, Nat.reduceAdd]
          refine ch_plain 0 2 8 (by rfl) rfl (by kernel_rfl) (by kernel_rfl) ?_
          apply Exists.intro
          refine ⟨fun st w2 hlo hhi hJ => ?_, ?_⟩
          · clear hlo hhi hJ
            go_simp
            exact And.intro rfl rfl
          simp only [Act.put, List.setIfInBounds_toArray, List.set_cons_succ, List.set_cons_zero, Nat.reduceAdd]
          refine ch_plain 0 2 8 (by rfl) rfl (by kernel_rfl) (by kernel_rfl) ?_
          apply Exists.intro
          refine ⟨fun st w2 hlo hhi hJ => ?_, ?_⟩
          · have i1 := HII.out.1
            have i0 := HII.out.2
            clear hlo hhi hJ
            go_simp
            exact And.intro rfl rfl
          simp only [Act.put, List.setIfInBounds_toArray, List.set_cons_succ, List.set_cons_zero, Nat.reduceAdd]
          refine ch_plain 0 2 8 (by rfl) rfl (by kernel_rfl) (by kernel_rfl) ?_
          apply Exists.intro
          refine ⟨fun st w2 hlo hhi hJ => ?_, ?_⟩
          · clear hlo hhi hJ
            go_simp
            exact And.intro rfl rfl
          simp only [Act.put, List.setIfInBounds_toArray, List.set_cons_succ, List.set_cons_zero, Nat.reduceAdd]
          refine ch_plain 0 2 8 (by rfl) rfl (by kernel_rfl) (by kernel_rfl) ?_
          apply Exists.intro
          refine ⟨fun st w2 hlo hhi hJ => ?_, ?_⟩
          · have hj : ∃ D, Pr w.heap.size w w2 b3 r4 D := by
              have q : st = 0 ∨ st = 1 ∨ st = 2 := by omega
              rcases q with rfl | rfl | rfl
              · exact ⟨C, hJ⟩
              · exact ⟨(actC C (⟨wh, xn, xc, xg, xps⟩ : Ac)), hJ⟩
              · exact ⟨(actC C (⟨wh, xn, xc, xg, xps⟩ : Ac)), hJ⟩
            obtain ⟨D1, hj⟩ := hj
            have y1 := cell_later hj.ho.below HR.out.2.1
            clear hj
            clear hlo hhi hJ
            go_simp
            exact And.intro rfl rfl
          simp only [Act.put, List.setIfInBounds_toArray, List.set_cons_succ, List.set_cons_zero, Nat.reduceAdd]
          refine ch_special 1 8 (by rfl) rfl (by decide) (by kernel_rfl) (fun w2 hJ => ?_) ?_
          · have hj : Pr w.heap.size w w2 b3 r4 (actC C (⟨wh, xn, xc, xg, xps⟩ : Ac)) := hJ
            go_simp
            refine (same_any hj xg xn).mono ?_
            rintro e w8 ⟨rfl, hb⟩
            exact ⟨_, rfl, rfl, hj.keep hb⟩
          rw [n21]
          simp only [Act.put, List.setIfInBounds_toArray, List.set_cons_succ, List.set_cons_zero, Nat.reduceAdd]
          refine ch_plain 0 2 8 (by rfl) rfl (by kernel_rfl) (by kernel_rfl) ?_
          apply Exists.intro
          refine ⟨fun st w2 hlo hhi hJ => ?_, ?_⟩
          · clear hlo hhi hJ
            go_simp
            exact And.intro rfl rfl
          simp only [Act.put, List.setIfInBounds_toArray, List.set_cons_succ, List.set_cons_zero, Nat.reduceAdd]
          refine ch_plain 0 2 8 (by rfl) rfl (by kernel_rfl) (by kernel_rfl) ?_
          apply Exists.intro
          refine ⟨fun st w2 hlo hhi hJ => ?_, ?_⟩
          · clear hlo hhi hJ
            go_simp
            exact And.intro rfl rfl
          simp only [Act.put, Nat.reduceAdd]
          refine ch_nil (fun w9 hJ => ?_)
          have H9 := Lib.hid (show Pr w.heap.size w w9 b3 r4 (actC C (⟨wh, xn, xc, xg, xps⟩ : Ac)) from hJ)
          clear hJ n6 n21
          go_wp2
          try rw [wrap_succ HLT.out (by have := HM.out.2; unfold maxLen; omega)]
          exact ⟨⟨k + 1, b3, r4, _, HLT.out, rfl, rfl, rfl, H9.out⟩, meas_succ HLT.out⟩
        · have i8 : wrap64 (q : Int) = (q : Int) := IntWalk.wrap64_in _ (by have := HQ.out.2; omega)
          have e1 : ((k : Int) == (q : Int)) = false := by simp; omega
          have d1 : decide ((k : Int) = (q : Int)) = false := decide_eq_false (by omega)
          have d2 : decide (k = q) = false := decide_eq_false hqk
          have d3 : (k == q) = false := by simpa using hqk
          clear hqk
          go_wp2_with fail
          have HP1 := Lib.hid HPR.out
          refine wp_region_chain [6, 21] (kv [(6, .is (.bool true)), (21, .is (.bool true))]) (fun l w2 => match l with | [] => Pr w.heap.size w w2 b1 r1 C | _ => Pr w.heap.size w w2 b1 r1 (actC C (⟨wh, xn, xc, xg, xps⟩ : Ac))) (by kernel_rfl) (by kernel_rfl) (by kernel_rfl) (kv_inh _) (HP1.out.keep (Below.drew (Below.refl _ _))) ?_
          intro ν hν
          have n6 : ν 6 = .bool true := hν 6
          have n21 : ν 21 = .bool true := hν 21
          clear hν
          refine ch_plain 0 2 8 (by rfl) rfl (by kernel_rfl) (by kernel_rfl) ?_
          apply Exists.intro
          refine ⟨fun st w2 hlo hhi hJ => ?_, ?_⟩
          · clear hlo hhi hJ
            go_simp
            exact And.intro rfl rfl
          simp only [Act.put, List.setIfInBounds_toArray, List.set_cons_succ, List.set_cons_zero, Nat.reduceAdd]
          refine ch_plain 0 2 8 (by rfl) rfl (by kernel_rfl) (by kernel_rfl) ?_
          apply Exists.intro
          refine ⟨fun st w2 hlo hhi hJ => ?_, ?_⟩
          · clear hlo hhi hJ
            go_simp
            exact And.intro rfl rfl
          simp only [Act.put, List.setIfInBounds_toArray, List.set_cons_succ, List.set_cons_zero, Nat.reduceAdd]
          refine ch_plain 0 2 8 (by rfl) rfl (by kernel_rfl) (by kernel_rfl) ?_
          apply Exists.intro
          refine ⟨fun st w2 hlo hhi hJ => ?_, ?_⟩
          · clear hlo hhi hJ
            go_simp
            exact And.intro rfl rfl
          simp only [Act.put, List.setIfInBounds_toArray, List.set_cons_succ, List.set_cons_zero, Nat.reduceAdd]
          refine ch_plain 0 2 8 (by rfl) rfl (by kernel_rfl) (by kernel_rfl) ?_
          apply Exists.intro
          refine ⟨fun st w2 hlo hhi hJ => ?_, ?_⟩
          · clear hlo hhi hJ
            go_simp
            exact And.intro rfl rfl
          simp only [Act.put, List.setIfInBounds_toArray, List.set_cons_succ, List.set_cons_zero, Nat.reduceAdd]
          refine ch_plain 0 2 8 (by rfl) rfl (by kernel_rfl) (by kernel_rfl) ?_
          apply Exists.intro
          refine ⟨fun st w2 hlo hhi hJ => ?_, ?_⟩
          · have i1 := HII.out.1
            have i0 := HII.out.2
            clear hlo hhi hJ
            go_simp
            exact And.intro rfl rfl
          simp only [Act.put, List.setIfInBounds_toArray, List.set_cons_succ, List.set_cons_zero, Nat.reduceAdd]
          refine ch_plain 0 2 8 (by rfl) rfl (by kernel_rfl) (by kernel_rfl) ?_
          apply Exists.intro
          refine ⟨fun st w2 hlo hhi hJ => ?_, ?_⟩
          · have hj : ∃ D, Pr w.heap.size w w2 b1 r1 D := by
              have q : st = 0 ∨ st = 1 ∨ st = 2 := by omega
              rcases q with rfl | rfl | rfl
              · exact ⟨C, hJ⟩
              · exact ⟨(actC C (⟨wh, xn, xc, xg, xps⟩ : Ac)), hJ⟩
              · exact ⟨(actC C (⟨wh, xn, xc, xg, xps⟩ : Ac)), hJ⟩
            obtain ⟨D1, hj⟩ := hj
            have y0 := cell_later hj.ho.below HR.out.1
            have y1 := cell_later hj.ho.below HR.out.2.1
            have y2 := cell_later hj.ho.below HR.out.2.2.1
            have y3 := cell_later hj.ho.below HR.out.2.2.2.1
            have y4 := cell_later hj.ho.below HR.out.2.2.2.2.1
            have y5 := cell_later hj.ho.below HR.out.2.2.2.2.2
            clear hj
            clear hlo hhi hJ
            go_simp
            exact And.intro rfl rfl
          simp only [Act.put, List.setIfInBounds_toArray, List.set_cons_succ, List.set_cons_zero, Nat.reduceAdd]
          refine ch_special 0 8 (by rfl) rfl (by decide) (by kernel_rfl) (fun w2 hJ => ?_) ?_
          · have hj : Pr w.heap.size w w2 b1 r1 C := hJ
            go_simp
            refine (do_any hj (⟨wh, xn, xc, xg, xps⟩ : Ac) HWF.out _ HIP.out).mono ?_
            rintro e w8 ⟨rfl, hh⟩
            exact ⟨_, rfl, rfl, hh⟩
          rw [n6]
          simp only [Act.put, List.setIfInBounds_toArray, List.set_cons_succ, List.set_cons_zero, Nat.reduceAdd]
          refine ch_plain 0 2 8 (by rfl) rfl (by kernel_rfl) (by kernel_rfl) ?_
          apply Exists.intro
          refine ⟨fun st w2 hlo hhi hJ => ?_, ?_⟩
          · clear hlo hhi hJ
            go_simp
            exact And.intro rfl rfl
          simp only [Act.put, List.setIfInBounds_toArray, List.set_cons_succ, List.set_cons_zero, Nat.reduceAdd]
          refine ch_plain 0 2 8 (by rfl) rfl (by kernel_rfl) (by kernel_rfl) ?_
          apply Exists.intro
          refine ⟨fun st w2 hlo hhi hJ => ?_, ?_⟩
          · clear hlo hhi hJ
            go_simp
            exact And.intro rfl rfl
          simp only [Act.put, List.setIfInBounds_toArray, List.set_cons_succ, List.set_cons_zero, Nat.reduceAdd]
          refine ch_plain 0 2 8 (by rfl) rfl (by kernel_rfl) (by kernel_rfl) ?_
          apply Exists.intro
          refine ⟨fun st w2 hlo hhi hJ => ?_, ?_⟩
          · clear hlo hhi hJ
            go_simp
            exact And.intro rfl rfl
          simp only [Act.put, List.setIfInBounds_toArray, List.set_cons_succ, List.set_cons_zero, Nat.reduceAdd]
          refine ch_plain 0 2 8 (by rfl) rfl (by kernel_rfl) (by kernel_rfl) ?_
          apply Exists.intro
          refine ⟨fun st w2 hlo hhi hJ => ?_, ?_⟩
          · clear hlo hhi hJ
            go_simp
            exact And.intro rfl rfl
          simp only [Act.put, List.setIfInBounds_toArray, List.set_cons_succ, List.set_cons_zero, Nat.reduceAdd]
          refine ch_plain 0 2 8 (by rfl) rfl (by kernel_rfl) (by kernel_rfl) ?_
          apply Exists.intro
          refine ⟨fun st w2 hlo hhi hJ => ?_, ?_⟩
          · clear hlo hhi hJ
            go_simp
            exact And.intro rfl rfl
          simp only [Act.put, List.setIfInBounds_toArray, List.set_cons_succ, List.set_cons_zero, Nat.reduceAdd]
          refine ch_plain 0 2 8 (by rfl) rfl (by kernel_rfl) (by kernel_rfl) ?_
          apply Exists.intro
          refine ⟨fun st w2 hlo hhi hJ => ?_, ?_⟩
          · clear hlo hhi hJ
            go_simp
            exact And.intro rfl rfl
          simp only [Act.put, List.setIfInBounds_toArray, List.set_cons_succ, List.set_cons_zero, Nat.reduceAdd]
          refine ch_plain 0 2 8 (by rfl) rfl (by kernel_rfl) (by kernel_rfl) ?_
          apply Exists.intro
          refine ⟨fun st w2 hlo hhi hJ => ?_, ?_⟩
          · have i1 := HII.out.1
            have i0 := HII.out.2
            clear hlo hhi hJ
            go_simp
            exact And.intro rfl rfl
          simp only [Act.put, List.setIfInBounds_toArray, List.set_cons_succ, List.set_cons_zero, Nat.reduceAdd]
          refine ch_plain 0 2 8 (by rfl) rfl (by kernel_rfl) (by kernel_rfl) ?_
          apply Exists.intro
          refine ⟨fun st w2 hlo hhi hJ => ?_, ?_⟩
          · clear hlo hhi hJ
            go_simp
            exact And.intro rfl rfl
          simp only [Act.put, List.setIfInBounds_toArray, List.set_cons_succ, List.set_cons_zero, Nat.reduceAdd]
          refine ch_plain 0 2 8 (by rfl) rfl (by kernel_rfl) (by kernel_rfl) ?_
          apply Exists.intro
          refine ⟨fun st w2 hlo hhi hJ => ?_, ?_⟩
          · have hj : ∃ D, Pr w.heap.size w w2 b1 r1 D := by
              have q : st = 0 ∨ st = 1 ∨ st = 2 := by omega
              rcases q with rfl | rfl | rfl
              · exact ⟨C, hJ⟩
              · exact ⟨(actC C (⟨wh, xn, xc, xg, xps⟩ : Ac)), hJ⟩
              · exact ⟨(actC C (⟨wh, xn, xc, xg, xps⟩ : Ac)), hJ⟩
            obtain ⟨D1, hj⟩ := hj
            have y3 := cell_later hj.ho.below HR.out.2.2.2.1
            have y4 := cell_later hj.ho.below HR.out.2.2.2.2.1
            clear hj
            clear hlo hhi hJ
            go_simp
            exact And.intro rfl rfl
          simp only [Act.put, List.setIfInBounds_toArray, List.set_cons_succ, List.set_cons_zero, Nat.reduceAdd]
          refine ch_plain 0 2 8 (by rfl) rfl (by kernel_rfl) (by kernel_rfl) ?_
          apply Exists.intro
          refine ⟨fun st w2 hlo hhi hJ => ?_, ?_⟩
          · clear hlo hhi hJ
            go_simp
            exact And.intro rfl rfl
          simp only [Act.put, List.setIfInBounds_toArray, List.set_cons_succ, List.set_cons_zero, Nat.reduceAdd]
          refine ch_plain 0 2 8 (by rfl) rfl (by kernel_rfl) (by kernel_rfl) ?_
          apply Exists.intro
          refine ⟨fun st w2 hlo hhi hJ => ?_, ?_⟩
          · clear hlo hhi hJ
            go_simp
            exact And.intro rfl rfl
          simp only [Act.put, List.setIfInBounds_toArray, List.set_cons_succ, List.set_cons_zero, Nat.reduceAdd]
          refine ch_plain 0 2 8 (by rfl) rfl (by kernel_rfl) (by kernel_rfl) ?_
          apply Exists.intro
          refine ⟨fun st w2 hlo hhi hJ => ?_, ?_⟩
          · have i1 := HII.out.1
            have i0 := HII.out.2
            clear hlo hhi hJ
            go_simp
            exact And.intro rfl rfl
          simp only [Act.put, List.setIfInBounds_toArray, List.set_cons_succ, List.set_cons_zero, Nat.reduceAdd]
          refine ch_plain 0 2 8 (by rfl) rfl (by kernel_rfl) (by kernel_rfl) ?_
          apply Exists.intro
          refine ⟨fun st w2 hlo hhi hJ => ?_, ?_⟩
          · clear hlo hhi hJ
            go_simp
            exact And.intro rfl rfl
          simp only [Act.put, List.setIfInBounds_toArray, List.set_cons_succ, List.set_cons_zero, Nat.reduceAdd]
          refine ch_plain 0 2 8 (by rfl) rfl (by kernel_rfl) (by kernel_rfl) ?_
          apply Exists.intro
          refine ⟨fun st w2 hlo hhi hJ => ?_, ?_⟩
          · have hj : ∃ D, Pr w.heap.size w w2 b1 r1 D := by
              have q : st = 0 ∨ st = 1 ∨ st = 2 := by omega
              rcases q with rfl | rfl | rfl
              · exact ⟨C, hJ⟩
              · exact ⟨(actC C (⟨wh, xn, xc, xg, xps⟩ : Ac)), hJ⟩
              · exact ⟨(actC C (⟨wh, xn, xc, xg, xps⟩ : Ac)), hJ⟩
            obtain ⟨D1, hj⟩ := hj
            have y1 := cell_later hj.ho.below HR.out.2.1
            clear hj
            clear hlo hhi hJ
            go_simp
            exact And.intro rfl rfl
          simp only [Act.put, List.setIfInBounds_toArray, List.set_cons_succ, List.set_cons_zero, Nat.reduceAdd]
          refine ch_special 1 8 (by rfl) rfl (by decide) (by kernel_rfl) (fun w2 hJ => ?_) ?_
          · have hj : Pr w.heap.size w w2 b1 r1 (actC C (⟨wh, xn, xc, xg, xps⟩ : Ac)) := hJ
            go_simp
            refine (same_any hj xg xn).mono ?_
            rintro e w8 ⟨rfl, hb⟩
            exact ⟨_, rfl, rfl, hj.keep hb⟩
          rw [n21]
          simp only [Act.put, List.setIfInBounds_toArray, List.set_cons_succ, List.set_cons_zero, Nat.reduceAdd]
          refine ch_plain 0 2 8 (by rfl) rfl (by kernel_rfl) (by kernel_rfl) ?_
          apply Exists.intro
          refine ⟨fun st w2 hlo hhi hJ => ?_, ?_⟩
          · clear hlo hhi hJ
            go_simp
            exact And.intro rfl rfl
          simp only [Act.put, List.setIfInBounds_toArray, List.set_cons_succ, List.set_cons_zero, Nat.reduceAdd]
          refine ch_plain 0 2 8 (by rfl) rfl (by kernel_rfl) (by kernel_rfl) ?_
          apply Exists.intro
          refine ⟨fun st w2 hlo hhi hJ => ?_, ?_⟩
          · clear hlo hhi hJ
            go_simp
            exact And.intro rfl rfl
          simp only [Act.put, Nat.reduceAdd]
          refine ch_nil (fun w9 hJ => ?_)
          have H9 := Lib.hid (show Pr w.heap.size w w9 b1 r1 (actC C (⟨wh, xn, xc, xg, xps⟩ : Ac)) from hJ)
          clear hJ n6 n21
          go_wp2
          try rw [wrap_succ HLT.out (by have := HM.out.2; unfold maxLen; omega)]
          exact ⟨⟨k + 1, b1, r1, _, HLT.out, rfl, rfl, rfl, H9.out⟩, meas_succ HLT.out⟩
      · have hend : (¬ (k : Int) < (L : Int)) ∨ ((k : Int) < (L : Int) ∧ ¬ (k : Int) < 60) := by
          have h1 := mt (HM.out.1 k).2 hlt
          omega
        clear hk hlt
        rcases hend with i1 | ⟨i1, i2⟩
        all_goals
          go_wp2_with fail
          refine (works_any _).mono ?_
          rintro e w1 ⟨rfl, hb⟩
          have HB := Lib.hid (HPR.out.ho.below.trans (hb.mono HPR.out.ho.size))
          clear hb
          go_wp2
          go_ret
          exact ⟨rfl, HB.out⟩
end
end Go.Proofs.Ytjeebpklinpmfaa
