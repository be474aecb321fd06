/-
  SHORT, WALKED (printed by wip/gen-short.py).
-/
import Derived.Test.YteplcpiamocclaaBuiltA
import Derived.Test.YteplcpiamocclaaTells2
namespace Go.Proofs.Yteplcpiamocclaa
open Go.RowKit Reg Go.ChangeShapes

theorem InG.room_ {w : World} {a : Option Addr} {n c : Nat} {gs : List Gd} (h : InG w (.slice a n c) gs) : n = gs.length ∧ (gs.length = 0 ∨ gs.length ≤ c) := by
  obtain ⟨⟨a', c', e, h⟩, _⟩ := h
  simp only [Value.slice.injEq] at e
  obtain ⟨rfl, rfl, rfl⟩ := e
  rcases h with rfl | ⟨h, _⟩
  · exact ⟨rfl, .inl rfl⟩
  · exact ⟨rfl, .inr h⟩
theorem OwG.emp (w : World) : OwG (w.alloc (.cells #[] 34)) w.heap.size (.slice (some ⟨w.heap.size, 0, none⟩) 0 0) [] :=
  ⟨own_new w w.heap.size 34 #[] 2 0 rfl (Nat.le_refl _) (by decide), by simp, by simp⟩
set_option maxRecDepth 100000 in
theorem cut_any (v : Value) (gs : List Gd) (w : World) (hv : InG w v gs) :
    Calls Try.prog 42 #[v] w fun e w' => ∃ u, e = .returned u ∧ OwG w' w.heap.size u (gs.take 24) ∧ Below w.heap.size w w' := by
  obtain ⟨a, c, rfl⟩ := hv.slice_
  have hroom := hv.room_.2
  have hb0 := (Below.refl w.heap.size w).alloc (Nat.le_refl _) (Obj.cells #[] 34)
  have hemp := OwG.emp w
  by_cases h : gs.length ≤ 24
  · have htk : gs.take 24 = gs := List.take_of_length_le h
    rw [htk]
    have hA := app_guids 35 hemp (hv.keep hb0) (by simp; omega) hb0.size
    have HA := Lib.hid hA
    have HE := Lib.hid hemp
    have HB0 := Lib.hid hb0
    have i2 : gs.length ≤ c ∨ gs.length = 0 := by omega
    have HV := Lib.hid hv
    obtain ⟨n, hn⟩ : ∃ z, z = gs.length := ⟨_, rfl⟩
    rw [← hn] at h hroom i2 HA
    rw [← hn]
    have i1 : ¬ (24 : Int) < (n : Int) := by omega
    have i3 : n ≤ c := by omega
    have i4 : (if 24 < n then (24 : Int) else (n : Int)) = (n : Int) := by rw [if_neg (by omega)]
    have i5 : min (n : Int) 24 = (n : Int) := by omega
    clear h hroom i2 htk hA hemp hb0 hn hv
    go_enter Try.func42, Try.ntmps42
    go_wp2_with (at_builtin; refine wpList_append_run rfl _ _ 35 rfl _ _ rfl rfl _ HA.out ?_)
    refine Later.mk fun _ _ u w3 hp => ?_
    have HO := Lib.hid (show OwG w3 w.heap.size u gs from hp.1)
    have HB := Lib.hid (HB0.out.trans (AppG.below hp HE.out HB0.out.size))
    clear hp HA HE HB0 i1 i3 i4 i5
    go_wp2
    go_ret
    exact ⟨_, rfl, HO.out, HB.out⟩
  · have htl : (gs.take 24).length = 24 := by rw [List.length_take]; omega
    have htk : InG w (.slice a 24 c) (gs.take 24) := hv.take (by omega)
    have hA := app_guids 35 hemp (htk.keep hb0) (by rw [htl]; simp) hb0.size
    have HA := Lib.hid hA
    have HE := Lib.hid hemp
    have HB0 := Lib.hid hb0
    obtain ⟨n, hn⟩ : ∃ z, z = gs.length := ⟨_, rfl⟩
    rw [← hn] at h hroom
    rw [← hn]
    have i1 : (24 : Int) < (n : Int) := by omega
    have i3 : 24 ≤ c := by omega
    have i4 : (if 24 < n then (24 : Int) else (n : Int)) = 24 := by rw [if_pos (by omega)]
    have i5 : min (n : Int) 24 = 24 := by omega
    clear h hroom htk hA hemp hb0 hn hv htl
    go_enter Try.func42, Try.ntmps42
    go_wp2_with (at_builtin; refine wpList_append_run rfl _ _ 35 rfl _ _ rfl rfl _ HA.out ?_)
    refine Later.mk fun _ _ u w3 hp => ?_
    have HO := Lib.hid (show OwG w3 w.heap.size u (gs.take 24) from hp.1)
    have HB := Lib.hid (HB0.out.trans (AppG.below hp HE.out HB0.out.size))
    clear hp HA HE HB0 i1 i3 i4 i5
    go_wp2
    go_ret
    exact ⟨_, rfl, HO.out, HB.out⟩
def EO (w : World) (base : Nat) (e : El) : Prop := OwG w base e.vl e.line ∧ OwG w base e.vs e.list ∧ OwG w base e.vt e.told
theorem OwG.kp {A : Nat → Prop} {w w' : World} {base : Nat} {v : Value} {gs : List Gd} (ho : OwG w base v gs) (h : Kp A w w') (hA : ∀ g, v.ownBlock = some g → ¬ A g) : OwG w' base v gs := ⟨own_kp h ho.1 hA, ho.2⟩
section
variable {w w' : World} {base base' : Nat} {e : El}
theorem EO.ok (h : EO w base e) : ElOK w e := ⟨h.1.rd, h.2.1.rd, h.2.2.rd⟩
theorem EO.keep (h : EO w base e) (hb : Below w.heap.size w w') : EO w' base e := ⟨h.1.keep hb, h.2.1.keep hb, h.2.2.keep hb⟩
end
theorem EO.app {w w' : World} {base : Nat} {e : El} {u : Value} {es : List El} (h : EO w base e) (ho : OwS w base u es) (hk : Kp (fun b => u.ownBlock = some b) w w') : EO w' base e :=
  ⟨h.1.kp hk (fun g hg e => own_apart h.1.1 ho (by decide) hg e), h.2.1.kp hk (fun g hg e => own_apart h.2.1.1 ho (by decide) hg e), h.2.2.kp hk (fun g hg e => own_apart h.2.2.1 ho (by decide) hg e)⟩
set_option maxRecDepth 100000 in
set_option maxHeartbeats 2000000 in
theorem short_any (v : Value) (es : List El) (w : World) (hv : InS w v es) :
    Calls Try.prog 16 #[v] w fun e w' => ∃ u es', e = .returned u ∧ InS w' u es' ∧ es'.length = min es.length 8 ∧ Below w.heap.size w w' := by
  obtain ⟨a, c, rfl, hm, hx⟩ := hv.parts
  obtain ⟨n, hn⟩ : ∃ z, z = es.length := ⟨_, rfl⟩
  rw [← hn] at hx hm
  rw [← hn]
  have HX := Lib.hid hx
  clear hx hm hn hv
  go_enter Try.func16, Try.ntmps16
  go_wp2_with fail
  go_loopw [4, 5] (fun u t wr => ∃ (i : Nat) (ys : List El), i ≤ n ∧ i ≤ 8 ∧ t = .int .i64 i ∧ Below w.heap.size w wr ∧ OwS wr w.heap.size u ys ∧ (∀ e ∈ ys, EO wr w.heap.size e) ∧ ys.length = i) (fun _ t _ => n - (intOf t).toNat)
  case atStart => exact ⟨0, [], Nat.zero_le _, Nat.zero_le _, rfl, Below.refl _ _, OwS.nil_ _ _, (fun e he => by cases he), rfl⟩
  case round =>
    obtain ⟨i, ys, hi, hi8, rfl, hb, ho, hes, hlen⟩ := hrel
    have HB := Lib.hid hb
    have HOS := Lib.hid ho
    have HES := Lib.hid hes
    obtain ⟨oa, oc, rfl⟩ := own_slice ho
    have HLEN := Lib.hid hlen
    obtain ⟨ol, hol⟩ : ∃ z, z = ys.length := ⟨_, rfl⟩
    rw [← hol] at HOS
    rw [← hol]
    clear hb ho hes hlen hol
    by_cases hin : i < n
    · have i1 : (i : Int) < (n : Int) := by omega
      have d1 : decide ((i : Int) < (n : Int)) = true := decide_eq_true i1
      by_cases hi7 : i < 8
      · have i2 : (i : Int) < 8 := by omega
        have d2 : decide ((i : Int) < 8) = true := decide_eq_true i2
        have HI := Lib.hid (And.intro hin hi7)
        obtain ⟨⟨g, off, rfl, hs⟩, hok⟩ := HX.out i hin
        obtain ⟨x, hX⟩ : ∃ z, z = nth es i := ⟨_, rfl⟩
        rw [← hX] at hs hok
        obtain ⟨s0, s1, s2, s3, s4, s5, s6, s7, s8⟩ := hs.keep HB.out
        dsimp only [El.vl, El.vs, El.vt, El.vi] at s5 s6 s7 s8
        have HOK := Lib.hid (hok.keep HB.out)
        obtain ⟨xu, hxu⟩ : ∃ z, z = x.up := ⟨_, rfl⟩
        obtain ⟨xp, hxp⟩ : ∃ z, z = x.prim := ⟨_, rfl⟩
        obtain ⟨xe, hxe⟩ : ∃ z, z = x.ep := ⟨_, rfl⟩
        obtain ⟨xb, hxb⟩ : ∃ z, z = x.bef := ⟨_, rfl⟩
        obtain ⟨xl, hxl⟩ : ∃ z, z = x.leased := ⟨_, rfl⟩
        rw [← hxu] at s0
        rw [← hxp] at s1
        rw [← hxe] at s2
        rw [← hxb] at s3
        rw [← hxl] at s4
        have bx := Blk.new wr 40 #[.bool xu, .bool xp, .int .u64 xe, .int .i64 xb, .bool xl, .slice x.la x.line.length x.lc, .slice x.sa x.list.length x.sc, .slice x.ta x.told.length x.tc, .slice x.ia x.il x.ic]
        have hba := (Below.refl wr.heap.size wr).alloc (Nat.le_refl _) (Obj.cells #[.bool xu, .bool xp, .int .u64 xe, .int .i64 xb, .bool xl, .slice x.la x.line.length x.lc, .slice x.sa x.list.length x.sc, .slice x.ta x.told.length x.tc, .slice x.ia x.il x.ic] 40)
        have HBX := Lib.hid bx
        have HBA := Lib.hid hba
        clear hs hok hX hin hi7 hi hi8 bx hba hxu hxp hxe hxb hxl
        go_wp2_with fail
        refine (cut_any _ x.line _ (HOK.out.1.keep HBA.out)).mono ?_
        rintro e w1 ⟨u1, rfl, hu, hb⟩
        generalize wr.alloc (Obj.cells #[.bool xu, .bool xp, .int .u64 xe, .int .i64 xb, .bool xl, .slice x.la x.line.length x.lc, .slice x.sa x.list.length x.sc, .slice x.ta x.told.length x.tc, .slice x.ia x.il x.ic] 40) = wx at *
        obtain ⟨qx, hqx⟩ : ∃ z, z = wr.heap.size := ⟨_, rfl⟩
        rw [← hqx] at HBX
        rw [← hqx]
        have HQX := Lib.hid hqx
        have HBE := HBA
        clear s0 s1 s2 s3 s4 s5 s6 s7 s8 hqx
        obtain ⟨a1, c1, hu1⟩ := hu.rd.slice_
        obtain ⟨n1, hn1⟩ : ∃ z, z = (x.line.take 24).length := ⟨_, rfl⟩
        rw [← hn1] at hu1
        subst hu1
        have HN1 := Lib.hid hn1
        have HL1 := Lib.hid (hu.mono HBE.out.size)
        have hb1 := HBX.out.keep hb
        have HBE := Lib.hid (HBE.out.trans (hb.mono HBE.out.size))
        have z5 := hb1.cell 5
        have f5 := hb1.frozen 5
        simp at z5
        have hb2 := hb1.set 5 (.slice a1 n1 c1)
        have z6 := hb2.cell 6
        simp at z6
        have HBX := Lib.hid hb2
        have HBE := Lib.hid (HBE.out.setCell (p := ⟨qx, 5, none⟩) (Nat.le_of_eq HQX.out.symm) (.slice a1 n1 c1))
        have HL1 := Lib.hid (HL1.out.kp (Kp.cell w1 qx 5 (.slice a1 n1 c1)) (fun g hg e => own_ne HL1.out.1 hb1 (by decide) hg e))
        clear hu hb hn1 hb1 hb2
        go_wp2_with fail
        generalize w1.setCell ⟨qx, 5, none⟩ (.slice a1 n1 c1) = wz1 at *
        refine (cut_any _ x.list _ (HOK.out.2.1.keep HBE.out)).mono ?_
        rintro e w2 ⟨u2, rfl, hu, hb⟩
        obtain ⟨a2, c2, hu2⟩ := hu.rd.slice_
        obtain ⟨n2, hn2⟩ : ∃ z, z = (x.list.take 24).length := ⟨_, rfl⟩
        rw [← hn2] at hu2
        subst hu2
        have HN2 := Lib.hid hn2
        have HL2 := Lib.hid (hu.mono HBE.out.size)
        have HL1 := Lib.hid (HL1.out.keep hb)
        have hb1 := HBX.out.keep hb
        have HBE := Lib.hid (HBE.out.trans (hb.mono HBE.out.size))
        have z6 := hb1.cell 6
        have f6 := hb1.frozen 6
        simp at z6
        have hb2 := hb1.set 6 (.slice a2 n2 c2)
        have z7 := hb2.cell 7
        simp at z7
        have HBX := Lib.hid hb2
        have HBE := Lib.hid (HBE.out.setCell (p := ⟨qx, 6, none⟩) (Nat.le_of_eq HQX.out.symm) (.slice a2 n2 c2))
        have HL1 := Lib.hid (HL1.out.kp (Kp.cell w2 qx 6 (.slice a2 n2 c2)) (fun g hg e => own_ne HL1.out.1 hb1 (by decide) hg e))
        have HL2 := Lib.hid (HL2.out.kp (Kp.cell w2 qx 6 (.slice a2 n2 c2)) (fun g hg e => own_ne HL2.out.1 hb1 (by decide) hg e))
        clear hu hb hn2 hb1 hb2
        go_wp2_with fail
        generalize w2.setCell ⟨qx, 6, none⟩ (.slice a2 n2 c2) = wz2 at *
        refine (cut_any _ x.told _ (HOK.out.2.2.keep HBE.out)).mono ?_
        rintro e w3 ⟨u3, rfl, hu, hb⟩
        obtain ⟨a3, c3, hu3⟩ := hu.rd.slice_
        obtain ⟨n3, hn3⟩ : ∃ z, z = (x.told.take 24).length := ⟨_, rfl⟩
        rw [← hn3] at hu3
        subst hu3
        have HN3 := Lib.hid hn3
        have HL3 := Lib.hid (hu.mono HBE.out.size)
        have HL1 := Lib.hid (HL1.out.keep hb)
        have HL2 := Lib.hid (HL2.out.keep hb)
        have hb1 := HBX.out.keep hb
        have HBE := Lib.hid (HBE.out.trans (hb.mono HBE.out.size))
        have z7 := hb1.cell 7
        have f7 := hb1.frozen 7
        simp at z7
        have hb2 := hb1.set 7 (.slice a3 n3 c3)
        have z8 := hb2.cell 8
        simp at z8
        have HBX := Lib.hid hb2
        have HBE := Lib.hid (HBE.out.setCell (p := ⟨qx, 7, none⟩) (Nat.le_of_eq HQX.out.symm) (.slice a3 n3 c3))
        have HL1 := Lib.hid (HL1.out.kp (Kp.cell w3 qx 7 (.slice a3 n3 c3)) (fun g hg e => own_ne HL1.out.1 hb1 (by decide) hg e))
        have HL2 := Lib.hid (HL2.out.kp (Kp.cell w3 qx 7 (.slice a3 n3 c3)) (fun g hg e => own_ne HL2.out.1 hb1 (by decide) hg e))
        have HL3 := Lib.hid (HL3.out.kp (Kp.cell w3 qx 7 (.slice a3 n3 c3)) (fun g hg e => own_ne HL3.out.1 hb1 (by decide) hg e))
        clear hu hb hn3 hb1 hb2
        have f8 := HBX.out.frozen 8
        have hb4 := HBX.out.set 8 (.slice none 0 0)
        have HBE := Lib.hid (HBE.out.setCell (p := ⟨qx, 8, none⟩) (Nat.le_of_eq HQX.out.symm) (.slice none 0 0))
        have HL1 := Lib.hid (HL1.out.kp (Kp.cell (w3.setCell ⟨qx, 7, none⟩ (.slice a3 n3 c3)) qx 8 (.slice none 0 0)) (fun g hg e => own_ne HL1.out.1 HBX.out (by decide) hg e))
        have HL2 := Lib.hid (HL2.out.kp (Kp.cell (w3.setCell ⟨qx, 7, none⟩ (.slice a3 n3 c3)) qx 8 (.slice none 0 0)) (fun g hg e => own_ne HL2.out.1 HBX.out (by decide) hg e))
        have HL3 := Lib.hid (HL3.out.kp (Kp.cell (w3.setCell ⟨qx, 7, none⟩ (.slice a3 n3 c3)) qx 8 (.slice none 0 0)) (fun g hg e => own_ne HL3.out.1 HBX.out (by decide) hg e))
        have HBX := Lib.hid hb4
        clear hb4
        go_upto_region 11 with fail
        generalize (w3.setCell ⟨qx, 7, none⟩ (.slice a3 n3 c3)).setCell ⟨qx, 8, none⟩ (.slice none 0 0) = w4 at *
        obtain ⟨E, hE⟩ : ∃ z : El, z = ⟨xu, xp, xe, xb, xl, x.line.take 24, x.list.take 24, x.told.take 24, a1, c1, a2, c2, a3, c3, none, 0, 0⟩ := ⟨_, rfl⟩
        have hec : E.cells = #[.bool xu, .bool xp, .int .u64 xe, .int .i64 xb, .bool xl, .slice a1 n1 c1, .slice a2 n2 c2, .slice a3 n3 c3, .slice none 0 0] := by
          rw [hE, HN1.out, HN2.out, HN3.out]
          rfl
        have heo : EO w4 wr.heap.size E := by
          have h1 := HL1.out
          have h2 := HL2.out
          have h3 := HL3.out
          rw [HN1.out] at h1
          rw [HN2.out] at h2
          rw [HN3.out] at h3
          rw [hE]
          exact ⟨h1, h2, h3⟩
        have hszw : w.heap.size ≤ wr.heap.size := HB.out.size
        have HEO := Lib.hid (show EO w4 w.heap.size E from ⟨heo.1.mono hszw, heo.2.1.mono hszw, heo.2.2.mono hszw⟩)
        have hos : OwS w4 w.heap.size (.slice oa ol oc) ys := own_kp (A := fun _ => False) (.of_below HBE.out) HOS.out (fun _ _ h => h)
        have HBR := Lib.hid (HB.out.trans (HBE.out.mono hszw))
        have hap := app_seen (w := w4) (e := E) 23 hos (by have := HLEN.out; have := HI.out; omega) HBR.out.size
        have hbl := (Below.refl w4.heap.size w4).alloc (Nat.le_refl _) (Obj.cells E.cells 40)
        have hos1 : OwS (w4.alloc (.cells E.cells 40)) w.heap.size (.slice oa ol oc) ys := own_kp (A := fun _ => False) (.of_below hbl) hos (fun _ _ h => h)
        have HES4 := Lib.hid (fun e (he : e ∈ ys) => (HES.out e he).keep HBE.out)
        have HOS1 := Lib.hid hos1
        have HBL := Lib.hid hbl
        rw [hec] at hap HBL HOS1
        have HA := Lib.hid hap
        have z0 := HBX.out.cell 0
        have z1 := HBX.out.cell 1
        have z2 := HBX.out.cell 2
        have z3 := HBX.out.cell 3
        have z4 := HBX.out.cell 4
        have z5 := HBX.out.cell 5
        have z6 := HBX.out.cell 6
        have z7 := HBX.out.cell 7
        have z8 := HBX.out.cell 8
        simp at z0 z1 z2 z3 z4 z5 z6 z7 z8
        clear hap hos hos1 hbl hec hE heo hszw HL1 HL2 HL3 HN1 HN2 HN3 f8
        go_wp2_with (at_builtin; refine wpList_append_run rfl _ _ 23 rfl _ _ rfl rfl _ HA.out ?_)
        refine Later.mk fun _ _ u w5 hp1 hp2 => ?_
        have hszw : w.heap.size ≤ w4.heap.size := HBR.out.size
        have hk3 := Kp.of_grown hp2 (own_block HOS1.out) (Nat.le_trans hszw HBL.out.size)
        have heb : ∀ e, EO w4 w.heap.size e → EO w5 w.heap.size e := fun e he => (he.keep HBL.out).app HOS1.out hk3
        have HES5 := Lib.hid (show ∀ e ∈ ys ++ [E], EO w5 w.heap.size e from fun e he => by
          rcases List.mem_append.1 he with h | h
          · exact heb e (HES4.out e h)
          · obtain rfl : e = E := by simpa using h
            exact heb e HEO.out)
        have HOS5 := Lib.hid hp1
        have HB5 := Lib.hid ((HBR.out.trans (HBL.out.mono hszw)).trans (below_grown hp2 (Nat.le_trans hszw HBL.out.size) (own_block HOS1.out)))
        clear hszw hk3 heb hp1 hp2 HA HEO HES4 HBL z0 z1 z2 z3 z4 z5 z6 z7 z8
        have i9 : (i : Int) < 9223372036854775807 := by have := HI.out; omega
        clear d1 d2 i1 i2
        go_wp2
        have h8 := HI.out
        have hle := HLEN.out
        refine ⟨⟨i + 1, ys ++ [E], by omega, by omega, by go_num, HB5.out, HOS5.out, HES5.out, by rw [List.length_append, hle]; rfl⟩, by simp [intOf]; omega⟩
      · have i2 : ¬ (i : Int) < 8 := by omega
        have d2 : decide ((i : Int) < 8) = false := decide_eq_false i2
        have hok : ∀ e ∈ ys, ElOK wr e := fun e he => (HES.out e he).ok
        have hle := HLEN.out
        have hins := HOS.out.ins hok (by unfold maxLen; omega)
        have HINS := Lib.hid hins
        have HI8 := Lib.hid (show i = 8 ∧ i < n by omega)
        clear hin hi7 hi hi8 hok hle hins
        go_wp2
        go_ret
        exact ⟨_, rfl, ys, HINS.out, by have := HLEN.out; have := HI8.out; omega, HB.out⟩
    · have i1 : ¬ (i : Int) < (n : Int) := by omega
      have d1 : decide ((i : Int) < (n : Int)) = false := decide_eq_false i1
      have hok : ∀ e ∈ ys, ElOK wr e := fun e he => (HES.out e he).ok
      have hle := HLEN.out
      have hins := HOS.out.ins hok (by unfold maxLen; omega)
      have HINS := Lib.hid hins
      have HI8 := Lib.hid (show i = n ∧ i ≤ 8 by omega)
      clear hin hi hi8 hok hle hins
      go_wp2
      go_ret
      exact ⟨_, rfl, ys, HINS.out, by have := HLEN.out; have := HI8.out; omega, HB.out⟩
end Go.Proofs.Yteplcpiamocclaa
