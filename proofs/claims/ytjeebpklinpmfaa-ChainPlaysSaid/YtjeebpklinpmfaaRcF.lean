/-
  THE REFERENCE'S CHAIN: Add (printed by wip/gen-rcf.py).
-/
import Derived.Test.YtjeebpklinpmfaaRcD
namespace Go.Proofs.Ytjeebpklinpmfaa
open Go.RowKit Reg Go.WideShapes Go.ChangeShapes

section
variable {w w' : World} {B br : Nat} {nv sv : Value} {now : List ByteArray} {es : List Rs} {C : Ch}
theorem Lk.add (k : Lk C now es) {g : Gd} (hg : wfG g) (hn : C.snaps.length < 20) {v : Vo} (hv : wfV v) (ht : tailE C.n v) (a : Option Addr) (c : Nat) : Lk { C.put ⟨v, g, false⟩ with live := v } (v.take C.n) (es ++ [⟨g, v.take C.n, a, c, false⟩]) := by
  refine ⟨k.n, hv, fun s hs => ?_, ?_, rfl, ?_, ht, fun s hs => ?_⟩
  · rcases List.mem_append.1 (show s ∈ C.snaps ++ [_] from hs) with hs | hs
    · exact k.wf s hs
    · rw [List.mem_singleton] at hs
      rw [hs]; exact ⟨hv, hg⟩
  · show (C.snaps ++ [_]).length ≤ 20
    rw [List.length_append]
    exact hn
  · show (es ++ [_]).map _ = (C.snaps ++ [_]).map _
    rw [List.map_append, List.map_append, k.sn]
    rfl
  · rcases List.mem_append.1 (show s ∈ C.snaps ++ [_] from hs) with hs | hs
    · exact k.ts s hs
    · rw [List.mem_singleton] at hs
      rw [hs]; exact ht
/-- what has been added so far: the volume v, the last block ab -/
structure AD (N n : Nat) (cs : List Cg) (v0 : Vo) (w1 wr : World) (row : Value) (j : Nat) (v : Vo) (ab : Int) : Prop where
  le : j ≤ n
  below : Below w1.heap.size w1 wr
  row : OwT wr w1.heap.size row (v.take N)
  wf : wfV v
  tl : tailE N v
  eq : addR N v ab (cs.drop j) = addR N v0 (-1) cs
  ab0 : j = 0 → ab = -1
  ab1 : 0 < j → ab = (cs.getD (j - 1) (0, ByteArray.empty)).1
set_option maxRecDepth 100000 in
set_option maxHeartbeats 4000000 in
theorem addRR_any (h : Rm w B br nv sv now es) (k : Lk C now es) (g : Gd) (hg : wfG g) (cv : Value) (cs : List Cg) (hc : InC w cv cs) : Calls Try.prog 43 #[.pointer (some ⟨br, 0, none⟩), aggG g, cv] w (StR w B br (C.addE g cs) (C.add g cs)) := by
  have hb0 := (Below.refl w.heap.size w).alloc (Nat.le_refl _) (Obj.cells #[.int .u64 g.1, .int .u64 g.2] 33)
  have HMY := Lib.hid (mayR_any (h.keep hb0) k g)
  obtain ⟨ca, cc, rfl, hcm, hcx⟩ := hc
  obtain ⟨na, nc, sa, sc, rfl, rfl⟩ := h.open_
  have HM0 := Lib.hid h
  have HB := Lib.hid hb0
  have HX0 := Lib.hid (Blk.new w 33 #[.int .u64 g.1, .int .u64 g.2])
  have HK := Lib.hid k
  have HG := Lib.hid hg
  have HCX := Lib.hid hcx
  have hz1 : C.next g ≠ 0 → C.addE g cs = C.next g ∧ C.add g cs = C := fun hz => ⟨by unfold Ch.addE; rw [if_neg hz], by unfold Ch.add; rw [if_neg hz]⟩
  have hz2 : C.next g = 0 → addR C.n C.last.vol (-1) cs = none → C.addE g cs = 2 ∧ C.add g cs = C := fun hz hn => ⟨by unfold Ch.addE; rw [if_pos hz, hn], by unfold Ch.add; rw [if_pos hz, hn]⟩
  have hz3 : ∀ v, C.next g = 0 → addR C.n C.last.vol (-1) cs = some v → C.addE g cs = 0 ∧ C.add g cs = { C.put ⟨v, g, false⟩ with live := v } := fun v hz hn => ⟨by unfold Ch.addE; rw [if_pos hz, hn], by unfold Ch.add; rw [if_pos hz, hn]⟩
  have hn0 : C.next g = 0 → C.snaps.length < 20 := fun h => next_zero h
  unfold aggG at HMY ⊢
  generalize C.next g = z at *
  generalize C.addE g cs = ze at *
  generalize C.add g cs = CA at *
  have HZ1 := Lib.hid hz1
  have HZ2 := Lib.hid hz2
  have HZ3 := Lib.hid hz3
  have HN0 := Lib.hid hn0
  have HCM := Lib.hid hcm
  have HEL := Lib.hid k.elen
  obtain ⟨NN, hNN⟩ : ∃ N, now.length = N := ⟨_, rfl⟩
  obtain ⟨L, hL⟩ : ∃ L, es.length = L := ⟨_, rfl⟩
  obtain ⟨n, hn⟩ : ∃ n, cs.length = n := ⟨_, rfl⟩
  rw [hNN, hL] at HM0
  have HLL := Lib.hid hL
  have HNN := Lib.hid hNN
  rw [hn] at HCX HCM
  have HNC := Lib.hid hn
  have HLW := Lib.hid k.last_wf
  have HKN := Lib.hid k.n
  rw [hn]
  clear h k hb0 hg hcx hz1 hz2 hz3 hn0 hcm hNN hL hn
  go_enter Try.func43, Try.ntmps43
  go_wp2_with fail
  generalize w.alloc (Obj.cells #[.int .u64 g.1, .int .u64 g.2] 33) = w0 at *
  refine HMY.out.mono ?_
  rintro e w1 ⟨rfl, hb⟩
  have HB1 := Lib.hid (HB.out.trans (hb.mono HB.out.size))
  have HM := Lib.hid (HM0.out.keep HB1.out)
  have HX := Lib.hid (HX0.out.keep hb)
  clear hb HMY HX0
  by_cases hz : z = 0
  rotate_left
  · have e1 : (z == 0) = false := by simpa using hz
    have e2 : decide (z = 0) = false := decide_eq_false hz
    have e3 : (z != 0) = true := by simpa using hz
    have HZ := Lib.hid (HZ1.out hz)
    clear hz
    go_wp2
    go_ret
    exact ⟨by rw [HZ.out.1]; rfl, by rw [HZ.out.2]; exact ⟨_, _, _, _, HM.out, HK.out⟩, FR.of_below HB1.out HM0.out.base⟩
  · subst hz
    have HBA := Lib.hid (baseR_any HM.out HK.out)
    go_wp2_with fail
    refine HBA.out.mono ?_
    rintro e w2 ⟨u, rfl, ho, hb⟩
    obtain ⟨la, lc, rfl⟩ := ho.slice_
    obtain ⟨N, hN⟩ : ∃ N, N = C.n := ⟨_, rfl⟩
    have hln : (C.last.vol.take C.n).length = N := by rw [List.length_take, HLW.out.1.1, hN]; have := HKN.out.2; omega
    rw [hln] at ho ⊢
    rw [← hN] at ho
    have HO2 := Lib.hid ho
    have HB2 := Lib.hid hb
    have HNEQ := Lib.hid hN
    have HN8 := Lib.hid (show 1 ≤ N ∧ N ≤ 8 from by rw [hN]; exact HKN.out)
    clear ho hb hN hln HBA
    go_wp2_with fail
    go_loopw [9] (fun i wr => ∃ (j : Nat) (v : Vo) (ab : Int), i = .int .i64 j ∧ AD N n cs C.last.vol w1 wr (.slice la N lc) j v ab) (fun i _ => n - (intOf i).toNat)
    case atStart => exact ⟨0, C.last.vol, -1, rfl, Nat.zero_le _, HB2.out, HO2.out, HLW.out.1, by rw [HNEQ.out]; exact HLW.out.2, rfl, fun _ => rfl, fun q => by omega⟩
    case round =>
      obtain ⟨j, v, ab, rfl, had⟩ := hrel
      have HAD := Lib.hid had
      clear had
      by_cases hlt : j < n
      · obtain ⟨gc, offc, rfl, r0, r1⟩ := HCX.out j hlt
        have hbw : Below w.heap.size w wr := HB1.out.trans (HAD.out.below.mono HB1.out.size)
        replace r0 := cell_later hbw r0
        replace r1 := cell_later hbw r1
        have hst := addR_step (n := N) (v := v) (ab := ab) (show j < cs.length from by rw [HNC.out]; exact hlt)
        have hgd : cs.getD j (0, ByteArray.empty) = cs.getD (j + 1 - 1) (0, ByteArray.empty) := rfl
        have hprev : 0 < j → wr.cell? ⟨gc, offc + (j - 1) * 2, none⟩ = some (.int .i64 ab) := fun hp => by
          obtain ⟨gc2, offc2, e, q0, -⟩ := HCX.out (j - 1) (by omega)
          simp only [Option.some.injEq, Addr.mk.injEq, and_true] at e
          obtain ⟨rfl, rfl⟩ := e
          rw [HAD.out.ab1 hp]
          exact cell_later hbw q0
        have hg1 : ∀ q, cs.getD j (0, ByteArray.empty) = q → (cs.getD (j + 1 - 1) (0, ByteArray.empty)).1 = q.1 := fun q hq => by rw [← hq, hgd]
        generalize hx : cs.getD j (0, ByteArray.empty) = x at *
        have HG1 := Lib.hid (hg1 x rfl)
        obtain ⟨b, d⟩ := x
        have HST := Lib.hid hst
        have hbl := (Below.refl wr.heap.size wr).alloc (Nat.le_refl _) (Obj.cells #[.int .i64 b, .string d] 48)
        have HBL := Lib.hid (HAD.out.below.trans (hbl.mono HAD.out.below.size))
        have HPV := Lib.hid (fun hp : 0 < j => cell_later hbl (hprev hp))
        have HRW := Lib.hid (HAD.out.row.keep hbl)
        have HLT := Lib.hid hlt
        have HXB := Lib.hid (Blk.new wr 48 #[.int .i64 b, .string d])
        have i1 : (j : Int) < (n : Int) := by omega
        have i0 : (0 : Int) ≤ (j : Int) := by omega
        have HII := Lib.hid (And.intro i1 i0)
        clear hlt hbw hst hgd hprev hg1 hx hbl
        go_wp2_with fail
        clear r0 r1 i1 i0
        generalize wr.alloc (Obj.cells #[.int .i64 b, .string d] 48) = wc at *
        generalize wr.heap.size = gx at *
        have x0 := HXB.out.cell 0
        have x1 := HXB.out.cell 1
        simp at x0 x1
        have HBAD := Lib.hid (fun (hno : ¬ (mayB N b d = true ∧ ab < b)) => show ze = 2 ∧ CA = C from HZ2.out trivial (by rw [← HNEQ.out, ← HAD.out.eq, HST.out, if_neg hno]))
        by_cases h1 : b < 0
        · have f1 : decide (b < 0) = true := decide_eq_true h1
          have HR := Lib.hid (HBAD.out (fun q => by have := q.1; unfold mayB at this; have := of_decide_eq_true this; omega))
          clear h1
          go_wp2_with fail
          go_quiet (fail)
          have HBQ := Lib.hid (show Below w.heap.size w (wc.drewN nq) from below_drewN (HB1.out.trans (HBL.out.mono HB1.out.size)) nq)
          go_wp2
          go_ret
          exact ⟨by rw [HR.out.1]; rfl, by rw [HR.out.2]; exact ⟨_, _, _, _, HM0.out.keep HBQ.out, HK.out⟩, FR.of_below HBQ.out HM0.out.base⟩
        · by_cases h2 : (N : Int) ≤ b
          · have f1 : decide (b < 0) = false := decide_eq_false h1
            have f2 : decide ((N : Int) ≤ b) = true := decide_eq_true h2
            have HR := Lib.hid (HBAD.out (fun q => by have := q.1; unfold mayB at this; have := of_decide_eq_true this; omega))
            clear h1 h2
            go_wp2_with fail
            go_quiet (fail)
            have HBQ := Lib.hid (show Below w.heap.size w (wc.drewN nq) from below_drewN (HB1.out.trans (HBL.out.mono HB1.out.size)) nq)
            go_wp2
            go_ret
            exact ⟨by rw [HR.out.1]; rfl, by rw [HR.out.2]; exact ⟨_, _, _, _, HM0.out.keep HBQ.out, HK.out⟩, FR.of_below HBQ.out HM0.out.base⟩
          · by_cases h3 : d.size = 32
            · by_cases h4 : j = 0
              · have f1 : decide (b < 0) = false := decide_eq_false h1
                have f2 : decide ((N : Int) ≤ b) = false := decide_eq_false h2
                have f3 : ((d.size : Int) != 32) = false := by simp; omega
                have f33 : ((d.size : Int) == 32) = true := by simp; omega
                have f4 : decide ((0 : Int) < (j : Int)) = false := decide_eq_false (by omega)
                have f44 : decide (0 < j) = false := decide_eq_false (by omega)
                have HOK := Lib.hid (show mayB N b d = true ∧ ab < b from ⟨by unfold mayB; exact decide_eq_true ⟨by omega, by omega, h3⟩, by rw [HAD.out.ab0 h4]; omega⟩)
                have HBN := Lib.hid (show 0 ≤ b ∧ b < N ∧ d.size = 32 from ⟨by omega, by omega, h3⟩)
                clear h1 h2 h3 h4
                go_wp2_with fail
                go_quiet (fail)
                clear f1 f2 f3 f33 f4 f44
                obtain ⟨m, hm⟩ : ∃ m : Nat, b = m := ⟨b.toNat, by have := HBN.out; omega⟩
                subst hm
                have hmN : m < N := by have := HBN.out; omega
                have hln : (v.take N).length = N := by rw [List.length_take, HAD.out.wf.1]; have := HN8.out; omega
                have hd0 : Below wc.heap.size wc (wc.drewN nq) := below_drewN (Below.refl _ _) nq
                have hrow := HRW.out.keep hd0
                replace x0 := cell_later hd0 x0
                replace x1 := cell_later hd0 x1
                have HBQ := Lib.hid (below_drewN HBL.out nq)
                generalize wc.drewN nq = wq at *
                obtain ⟨gl, cap, e, hge, -, hfz, hcl⟩ := hrow.block (by omega)
                simp only [Value.slice.injEq] at e
                obtain ⟨rfl, -, rfl⟩ := e
                have c1 := hcl m (by omega)
                have q1 := hfz m
                have hset := hrow.set m d (by rw [HBN.out.2.2]; decide)
                rw [← List.take_set] at hset
                have HNEW := Lib.hid (show AD N n cs C.last.vol w1 (wq.setCell ⟨gl, m, none⟩ (.string d)) (.slice (some ⟨gl, 0, none⟩) N lc) (j + 1) (v.set m d) (m : Int) from
                  ⟨HLT.out, HBQ.out.setCell (p := ⟨gl, m, none⟩) hge _, hset, wfV_set HAD.out.wf HBN.out.2.2 m, (by
                    show (v.set m d).drop N = _
                    rw [List.drop_set_of_lt hmN]
                    exact HAD.out.tl), (by rw [← HAD.out.eq, HST.out, if_pos HOK.out, Int.toNat_natCast]), (fun q => by omega), fun _ => HG1.out.symm⟩)
                have i1 : (m : Int) < (N : Int) := by omega
                have i0 : (0 : Int) ≤ (m : Int) := by omega
                clear hmN hln hd0 hrow hfz hcl hset hge HRW HBL HBAD HPV
                go_wp2
                clear i1 i0
                rw [wrap_succ HLT.out HCM.out]
                exact ⟨⟨j + 1, _, _, rfl, HNEW.out⟩, meas_succ HLT.out⟩
              · by_cases h5 : b ≤ ab
                · have f1 : decide (b < 0) = false := decide_eq_false h1
                  have f2 : decide ((N : Int) ≤ b) = false := decide_eq_false h2
                  have f3 : ((d.size : Int) != 32) = false := by simp; omega
                  have f33 : ((d.size : Int) == 32) = true := by simp; omega
                  have f4 : decide ((0 : Int) < (j : Int)) = true := decide_eq_true (by omega)
                  have f44 : decide (0 < j) = true := decide_eq_true (by omega)
                  have f5 : decide (b ≤ ab) = true := decide_eq_true h5
                  have p1 := HPV.out (by omega)
                  have i9 : IntKind.i64.wrap ((j : Int) - 1) = ((j - 1 : Nat) : Int) := by have := HCM.out; have := HLT.out; unfold maxLen at *; rw [IntKind.wrap_i64]; omega
                  have i8 : ((j - 1 : Nat) : Int) < (n : Int) := by have := HLT.out; omega
                  have i7 : (0 : Int) ≤ ((j - 1 : Nat) : Int) := by omega
                  have HR := Lib.hid (HBAD.out (fun q => by omega))
                  generalize j - 1 = jm at *
                  clear h1 h2 h3 h4 h5
                  go_wp2_with fail
                  go_quiet (fail)
                  have HBQ := Lib.hid (show Below w.heap.size w (wc.drewN nq) from below_drewN (HB1.out.trans (HBL.out.mono HB1.out.size)) nq)
                  go_wp2
                  go_ret
                  exact ⟨by rw [HR.out.1]; rfl, by rw [HR.out.2]; exact ⟨_, _, _, _, HM0.out.keep HBQ.out, HK.out⟩, FR.of_below HBQ.out HM0.out.base⟩
                · have f1 : decide (b < 0) = false := decide_eq_false h1
                  have f2 : decide ((N : Int) ≤ b) = false := decide_eq_false h2
                  have f3 : ((d.size : Int) != 32) = false := by simp; omega
                  have f33 : ((d.size : Int) == 32) = true := by simp; omega
                  have f4 : decide ((0 : Int) < (j : Int)) = true := decide_eq_true (by omega)
                  have f44 : decide (0 < j) = true := decide_eq_true (by omega)
                  have f5 : decide (b ≤ ab) = false := decide_eq_false h5
                  have p1 := HPV.out (by omega)
                  have i9 : IntKind.i64.wrap ((j : Int) - 1) = ((j - 1 : Nat) : Int) := by have := HCM.out; have := HLT.out; unfold maxLen at *; rw [IntKind.wrap_i64]; omega
                  have i8 : ((j - 1 : Nat) : Int) < (n : Int) := by have := HLT.out; omega
                  have i7 : (0 : Int) ≤ ((j - 1 : Nat) : Int) := by omega
                  have HOK := Lib.hid (show mayB N b d = true ∧ ab < b from ⟨by unfold mayB; exact decide_eq_true ⟨by omega, by omega, h3⟩, by omega⟩)
                  have HBN := Lib.hid (show 0 ≤ b ∧ b < N ∧ d.size = 32 from ⟨by omega, by omega, h3⟩)
                  generalize hjm : j - 1 = jm at *
                  clear h1 h2 h3 h4 h5 hjm
                  go_wp2_with fail
                  go_quiet (fail)
                  clear f1 f2 f3 f33 f4 f44 f5 p1 i9 i8 i7
                  obtain ⟨m, hm⟩ : ∃ m : Nat, b = m := ⟨b.toNat, by have := HBN.out; omega⟩
                  subst hm
                  have hmN : m < N := by have := HBN.out; omega
                  have hln : (v.take N).length = N := by rw [List.length_take, HAD.out.wf.1]; have := HN8.out; omega
                  have hd0 : Below wc.heap.size wc (wc.drewN nq) := below_drewN (Below.refl _ _) nq
                  have hrow := HRW.out.keep hd0
                  replace x0 := cell_later hd0 x0
                  replace x1 := cell_later hd0 x1
                  have HBQ := Lib.hid (below_drewN HBL.out nq)
                  generalize wc.drewN nq = wq at *
                  obtain ⟨gl, cap, e, hge, -, hfz, hcl⟩ := hrow.block (by omega)
                  simp only [Value.slice.injEq] at e
                  obtain ⟨rfl, -, rfl⟩ := e
                  have c1 := hcl m (by omega)
                  have q1 := hfz m
                  have hset := hrow.set m d (by rw [HBN.out.2.2]; decide)
                  rw [← List.take_set] at hset
                  have HNEW := Lib.hid (show AD N n cs C.last.vol w1 (wq.setCell ⟨gl, m, none⟩ (.string d)) (.slice (some ⟨gl, 0, none⟩) N lc) (j + 1) (v.set m d) (m : Int) from
                    ⟨HLT.out, HBQ.out.setCell (p := ⟨gl, m, none⟩) hge _, hset, wfV_set HAD.out.wf HBN.out.2.2 m, (by
                      show (v.set m d).drop N = _
                      rw [List.drop_set_of_lt hmN]
                      exact HAD.out.tl), (by rw [← HAD.out.eq, HST.out, if_pos HOK.out, Int.toNat_natCast]), (fun q => by omega), fun _ => HG1.out.symm⟩)
                  have i1 : (m : Int) < (N : Int) := by omega
                  have i0 : (0 : Int) ≤ (m : Int) := by omega
                  clear hmN hln hd0 hrow hfz hcl hset hge HRW HBL HBAD HPV
                  go_wp2
                  clear i1 i0
                  rw [wrap_succ HLT.out HCM.out]
                  exact ⟨⟨j + 1, _, _, rfl, HNEW.out⟩, meas_succ HLT.out⟩
            · have f1 : decide (b < 0) = false := decide_eq_false h1
              have f2 : decide ((N : Int) ≤ b) = false := decide_eq_false h2
              have f3 : ((d.size : Int) != 32) = true := by simp; omega
              have f33 : ((d.size : Int) == 32) = false := by simp; omega
              have HR := Lib.hid (HBAD.out (fun q => by have := q.1; unfold mayB at this; have := of_decide_eq_true this; omega))
              clear h1 h2 h3
              go_wp2_with fail
              go_quiet (fail)
              have HBQ := Lib.hid (show Below w.heap.size w (wc.drewN nq) from below_drewN (HB1.out.trans (HBL.out.mono HB1.out.size)) nq)
              go_wp2
              go_ret
              exact ⟨by rw [HR.out.1]; rfl, by rw [HR.out.2]; exact ⟨_, _, _, _, HM0.out.keep HBQ.out, HK.out⟩, FR.of_below HBQ.out HM0.out.base⟩
      · obtain rfl : j = n := by have := HAD.out.le; omega
        have i1 : ¬ ((j : Int) < (j : Int)) := by omega
        clear hlt
        have hres : addR C.n C.last.vol (-1) cs = some v := by
          rw [← HNEQ.out, ← HAD.out.eq, show cs.drop j = [] from List.drop_of_length_le (by rw [HNC.out]; exact Nat.le_refl _)]
          rfl
        have HZR := Lib.hid (HZ3.out v trivial hres)
        have HLNV := Lib.hid (show (v.take N).length = N by rw [List.length_take, HAD.out.wf.1]; have := HN8.out; omega)
        have HMW := Lib.hid (HM.out.keep HAD.out.below)
        have HXW := Lib.hid (HX.out.keep HAD.out.below)
        have HRO := Lib.hid HAD.out.row
        clear hres
        go_wp2_with fail
        clear i1
        refine wp_region_chain [8, 9, 12] (kv [(8, .sl 1), (9, .sla (L + 1)), (12, .is undef)]) (fun l w2 => match l with | [] => Below wr.heap.size wr w2 | [x] => Below wr.heap.size wr w2 ∧ ∃ q, x = .slice (some ⟨q, 0, none⟩) 1 1 ∧ Blk w2 q 88 #[.int .u64 g.1, .int .u64 g.2, .slice la N lc, .bool false] | [_, x] => w2.cell? ⟨br, 1, none⟩ = some (.slice sa L sc) ∧ w2.frozen? ⟨br, 1, none⟩ = false ∧ Rm (w2.setCell ⟨br, 1, none⟩ x) B br (.slice na NN nc) x now (es ++ [(⟨g, v.take N, la, lc, false⟩ : Rs)]) ∧ FR B wr (w2.setCell ⟨br, 1, none⟩ x) | _ :: x :: _ => Rm w2 B br (.slice na NN nc) x now (es ++ [(⟨g, v.take N, la, lc, false⟩ : Rs)]) ∧ FR B wr w2) (by kernel_rfl) (by kernel_rfl) (by kernel_rfl) (kv_inh _) (Below.drew (Below.refl _ _)) ?_
        intro ν hν
        obtain ⟨g8, n8⟩ : ∃ g, ν 8 = .slice (some ⟨g, 0, none⟩) 1 1 := hν 8
        obtain ⟨a9, c9, n9⟩ : ∃ a c, ν 9 = .slice a (L + 1) c := hν 9
        have n12 : ν 12 = undef := hν 12
        clear hν
        refine ch_plain 0 3 6 (by rfl) rfl (by kernel_rfl) (by kernel_rfl) ?_
        apply Exists.intro
        refine ⟨fun st w2 hlo hhi hJ => ?_, ?_⟩
        · clear hlo hhi hJ
          go_simp
          exact And.intro rfl rfl
        simp only [Act.put, List.setIfInBounds_toArray, List.set_cons_succ, List.set_cons_zero, Nat.reduceAdd]
        refine ch_plain 0 3 6 (by rfl) rfl (by kernel_rfl) (by kernel_rfl) ?_
        apply Exists.intro
        refine ⟨fun st w2 hlo hhi hJ => ?_, ?_⟩
        · clear hlo hhi hJ
          go_simp
          exact And.intro rfl rfl
        simp only [Act.put, List.setIfInBounds_toArray, List.set_cons_succ, List.set_cons_zero, Nat.reduceAdd]
        refine ch_plain 0 3 6 (by rfl) rfl (by kernel_rfl) (by kernel_rfl) ?_
        apply Exists.intro
        refine ⟨fun st w2 hlo hhi hJ => ?_, ?_⟩
        · clear hlo hhi hJ
          go_simp
          exact And.intro rfl rfl
        simp only [Act.put, List.setIfInBounds_toArray, List.set_cons_succ, List.set_cons_zero, Nat.reduceAdd]
        refine ch_plain 0 3 6 (by rfl) rfl (by kernel_rfl) (by kernel_rfl) ?_
        apply Exists.intro
        refine ⟨fun st w2 hlo hhi hJ => ?_, ?_⟩
        · clear hlo hhi hJ
          go_simp
          exact And.intro rfl rfl
        simp only [Act.put, List.setIfInBounds_toArray, List.set_cons_succ, List.set_cons_zero, Nat.reduceAdd]
        refine ch_plain 0 1 6 (by rfl) rfl (by kernel_rfl) (by kernel_rfl) ?_
        apply Exists.intro
        refine ⟨fun st w2 hlo hhi hJ => ?_, ?_⟩
        · have hj : Below wr.heap.size wr w2 := by
            have q : st = 0 ∨ st = 1 := by omega
            rcases q with rfl | rfl
            · exact hJ
            · have hj : Below wr.heap.size wr w2 ∧ _ := hJ
              exact hj.1
          have x0 := (HMW.out.obj.keep hj).cell 0
          have x1 := (HMW.out.obj.keep hj).cell 1
          simp at x0 x1
          clear hj
          clear hlo hhi hJ
          go_simp
          exact And.intro rfl rfl
        simp only [Act.put, List.setIfInBounds_toArray, List.set_cons_succ, List.set_cons_zero, Nat.reduceAdd]
        refine ch_plain 0 0 6 (by rfl) rfl (by kernel_rfl) (by kernel_rfl) ?_
        apply Exists.intro
        refine ⟨fun st w2 hlo hhi hJ => ?_, ?_⟩
        · have hj : Below wr.heap.size wr w2 := by
            obtain rfl : st = 0 := by omega
            exact hJ
          have y0 := (HXW.out.keep hj).cell 0
          have y1 := (HXW.out.keep hj).cell 1
          simp at y0 y1
          clear hj
          clear hlo hhi hJ
          go_simp
          exact And.intro rfl rfl
        simp only [Act.put, List.setIfInBounds_toArray, List.set_cons_succ, List.set_cons_zero, Nat.reduceAdd]
        refine ch_plain 0 3 6 (by rfl) rfl (by kernel_rfl) (by kernel_rfl) ?_
        apply Exists.intro
        refine ⟨fun st w2 hlo hhi hJ => ?_, ?_⟩
        · clear hlo hhi hJ
          go_simp
          exact And.intro rfl rfl
        simp only [Act.put, List.setIfInBounds_toArray, List.set_cons_succ, List.set_cons_zero, Nat.reduceAdd]
        refine ch_plain 0 3 6 (by rfl) rfl (by kernel_rfl) (by kernel_rfl) ?_
        apply Exists.intro
        refine ⟨fun st w2 hlo hhi hJ => ?_, ?_⟩
        · clear hlo hhi hJ
          go_simp
          exact And.intro rfl rfl
        simp only [Act.put, List.setIfInBounds_toArray, List.set_cons_succ, List.set_cons_zero, Nat.reduceAdd]
        refine ch_special 0 6 (by rfl) rfl (by decide) (by kernel_rfl) (fun w2 hJ => ?_) ?_
        · have hj : Below wr.heap.size wr w2 := hJ
          go_simp
          have hb := (Below.refl w2.heap.size w2).alloc (Nat.le_refl _) (Obj.cells #[.int .u64 g.1, .int .u64 g.2, .slice la N lc, .bool false] 88)
          exact ⟨⟨_, rfl⟩, hj.trans (hb.mono hj.size), _, rfl, Blk.new _ _ _⟩
        rw [n8]
        simp only [Act.put, List.setIfInBounds_toArray, List.set_cons_succ, List.set_cons_zero, Nat.reduceAdd]
        refine ch_special 1 6 (by rfl) rfl (by decide) (by kernel_rfl) (fun w2 hJ => ?_) ?_
        · have hj : Below wr.heap.size wr w2 ∧ ∃ q, ν 8 = .slice (some ⟨q, 0, none⟩) 1 1 ∧ Blk w2 q 88 #[.int .u64 g.1, .int .u64 g.2, .slice la N lc, .bool false] := hJ
          rw [n8] at hj
          have hm2 := HMW.out.keep hj.1
          have hcells : (⟨g, v.take N, la, lc, false⟩ : Rs).cells.toArray = #[.int .u64 g.1, .int .u64 g.2, .slice la N lc, .bool false] := by show #[Value.int .u64 g.1, .int .u64 g.2, .slice la (v.take N).length lc, .bool false] = _; rw [HLNV.out]
          have hiv : (⟨g, v.take N, la, lc, false⟩ : Rs).iv = .slice la N lc := by show Value.slice la (v.take N).length lc = _; rw [HLNV.out]
          have hrw := HRO.out.keep hj.1
          obtain ⟨xa, xc, w', hr, h1, h2, h3, h4⟩ := hm2.put (e := (⟨g, v.take N, la, lc, false⟩ : Rs)) (u := .slice (some ⟨g8, 0, none⟩) 1 1) 82 (by rw [hcells]; exact hj.2) (by rw [hiv]; exact hrw.mono HM.out.base) (by rw [hiv]; exact apart_new HM.out.now.1 hrw.1 (Nat.le_refl _)) (by rw [HEL.out]; exact HN0.out trivial)
          rw [HLL.out] at hr h3 h4
          rw [exec_append3 (.tmp 70) (.tmp 74) 82 rfl (.slice sa L sc) (.slice (some ⟨g8, 0, none⟩) 1 1) rfl rfl (.slice xa (L + 1) xc) hr]
          exact ⟨⟨xa, xc, rfl⟩, h1, h2, h3, (FR.of_below hj.1 HMW.out.base).trans h4⟩
        rw [n9]
        simp only [Act.put, List.setIfInBounds_toArray, List.set_cons_succ, List.set_cons_zero, Nat.reduceAdd]
        refine ch_plain 0 3 6 (by rfl) rfl (by kernel_rfl) (by kernel_rfl) ?_
        apply Exists.intro
        refine ⟨fun st w2 hlo hhi hJ => ?_, ?_⟩
        · clear hlo hhi hJ
          go_simp
          exact And.intro rfl rfl
        simp only [Act.put, List.setIfInBounds_toArray, List.set_cons_succ, List.set_cons_zero, Nat.reduceAdd]
        refine ch_plain 0 3 6 (by rfl) rfl (by kernel_rfl) (by kernel_rfl) ?_
        apply Exists.intro
        refine ⟨fun st w2 hlo hhi hJ => ?_, ?_⟩
        · clear hlo hhi hJ
          go_simp
          exact And.intro rfl rfl
        simp only [Act.put, List.setIfInBounds_toArray, List.set_cons_succ, List.set_cons_zero, Nat.reduceAdd]
        refine ch_special 2 6 (by rfl) rfl (by decide) (by kernel_rfl) (fun w2 hJ => ?_) ?_
        · have hj : w2.cell? ⟨br, 1, none⟩ = some (.slice sa L sc) ∧ w2.frozen? ⟨br, 1, none⟩ = false ∧ Rm (w2.setCell ⟨br, 1, none⟩ (ν 9)) B br (.slice na NN nc) (ν 9) now (es ++ [(⟨g, v.take N, la, lc, false⟩ : Rs)]) ∧ FR B wr (w2.setCell ⟨br, 1, none⟩ (ν 9)) := hJ
          rw [n9] at hj
          obtain ⟨h1, h2, h3, h4⟩ := hj
          have H34 := Lib.hid (And.intro h3 h4)
          clear h3 h4 hJ
          go_simp
          exact ⟨rfl, H34.out.1, H34.out.2⟩
        rw [n12]
        simp only [Act.put, Nat.reduceAdd]
        refine ch_nil (fun w9 hJ => ?_)
        have hj : Rm w9 B br (.slice na NN nc) (ν 9) now (es ++ [(⟨g, v.take N, la, lc, false⟩ : Rs)]) ∧ FR B wr w9 := hJ
        rw [n9] at hj
        have H9 := Lib.hid hj
        clear hJ hj n8 n9 n12
        have hmem := H9.out.1.bl (⟨g, v.take N, la, lc, false⟩ : Rs) (List.mem_append.2 (.inr (List.mem_singleton.2 rfl)))
        have hiv : (⟨g, v.take N, la, lc, false⟩ : Rs).iv = .slice la N lc := by show Value.slice la (v.take N).length lc = _; rw [HLNV.out]
        rw [hiv] at hmem
        have HOW := Lib.hid (ownR_any w9 _ (v.take N) hmem.rd (by rw [HLNV.out]; have := HN8.out; omega))
        clear hmem hiv
        go_wp2_with fail
        refine HOW.out.mono ?_
        rintro e wz ⟨u, rfl, ho, hb⟩
        have hm2 := H9.out.1.keep hb
        have y0 := hm2.obj.cell 0
        have y1 := hm2.obj.frozen 0
        simp at y0
        obtain ⟨hm3, hf3⟩ := hm2.setNv (ho.mono H9.out.1.base) (fun e he => fun b hb1 hb2 => by
          have h1 := own_from ho.1 hb1
          have h2 := own_in (H9.out.1.bl e he).1 hb2
          omega)
        obtain ⟨ua, uc, rfl⟩ := ho.slice_
        have HF := Lib.hid (And.intro hm3 ((((FR.of_below (HB1.out.trans (HAD.out.below.mono HB1.out.size)) HM0.out.base).trans H9.out.2).trans (FR.of_below hb H9.out.1.base)).trans hf3))
        have HLK := Lib.hid (HK.out.add HG.out (HN0.out trivial) HAD.out.wf (by rw [← HNEQ.out]; exact HAD.out.tl) la lc)
        rw [HLNV.out] at HF ⊢
        clear ho hb hm2 hm3 hf3 HOW H9
        go_wp2
        go_ret
        refine ⟨by rw [HZR.out.1]; rfl, ⟨_, _, _, _, HF.out.1, ?_⟩, HF.out.2⟩
        rw [HZR.out.2, HNEQ.out]
        exact HLK.out
end
end Go.Proofs.Ytjeebpklinpmfaa
