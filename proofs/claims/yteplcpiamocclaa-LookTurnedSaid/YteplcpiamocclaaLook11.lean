/-
  LOOK: Kept (printed by wip/gen-look11.py).
-/
import Derived.Test.YteplcpiamocclaaLook10
namespace Go.Proofs.Yteplcpiamocclaa
open Go.RowKit Reg Go.ChangeShapes Go.Shelf
attribute [local go_sem] Oper.semAt_some

/-- has a node lost what is committed? -/
def badK (before es : List El) (j : Nat) : Bool := decide (j < before.length) && ((nth before j).up && decide (comm (nth es j).list (kn es) < comm (nth before j).list (kn es)))
theorem InS.at_ {w : World} {a : Option Addr} {c : Nat} {es : List El} (h : InS w (.slice a es.length c) es) (j : Nat) (hj : j < es.length) : ∃ g off, a = some ⟨g, off, none⟩ ∧ w.cell? ⟨g, off + j * 9, none⟩ = some (.bool (nth es j).up) ∧ w.cell? ⟨g, off + j * 9 + 6, none⟩ = some (.slice (nth es j).sa (nth es j).list.length (nth es j).sc) := by
  obtain ⟨a', c', e, -, -, h3⟩ := h
  simp only [Value.slice.injEq] at e
  obtain ⟨rfl, -, rfl⟩ := e
  obtain ⟨⟨g, off, rfl, h4⟩, -⟩ := h3 j hj
  exact ⟨g, off, rfl, h4.1, h4.2.2.2.2.2.2.1⟩
set_option maxRecDepth 100000 in
set_option maxHeartbeats 2000000 in
theorem kept_any (vb v : Value) (before es : List El) (w : World) (hvb : InS w vb before) (hv : InS w v es) :
    Calls Try.prog 12 #[vb, v] w fun e w' => e = .returned (.int .i64 (fIx es.length fun j => (nth es j).up && badK before es j)) ∧ Below w.heap.size w w' := by
  obtain ⟨ab, cb, rfl⟩ := hvb.slice_
  obtain ⟨a, c, rfl⟩ := hv.slice_
  refine (callsIn_wide (n := 3)).1 ?_
  have hB00 := (Below.refl w.heap.size w).alloc (Nat.le_refl _) (Obj.cells #[.slice ab before.length cb] 23)
  have hB0 := hB00.alloc hB00.size (Obj.cells #[.int .i64 0] 3)
  have bp := (Blk.new w 23 #[.slice ab before.length cb]).keep ((Below.refl _ _).alloc (Nat.le_refl _) (Obj.cells #[.int .i64 0] 3))
  have br := Blk.new (w.alloc (Obj.cells #[.slice ab before.length cb] 23)) 3 #[.int .i64 0]
  rw [World.size_alloc] at br
  have hk := known_any0 _ es w _ hv hB0
  have HK := Lib.hid hk
  have HB0 := Lib.hid hB0
  have HBR := Lib.hid br
  have HBP := Lib.hid bp
  clear hk hB0 br hB00 bp
  refine callsIn_of_wp_marks Try.func12 rfl trivial ?_ rfl
  simp only [Try.ntmps12, List.size_toArray, List.length_cons, List.length_nil, Nat.reduceAdd, Nat.reduceSub, Array.replicate_succ, Array.replicate_zero, List.push_toArray, List.append_toArray, List.nil_append, List.cons_append]
  gi_wp2_with (first | (refine ⟨trivial, ?_⟩; gi_at_call 32; refine (callsIn_wide.2 HK.out).mono ?_; rintro e w1 ⟨u, rfl, hu, hb⟩; obtain ⟨ua, uc, rfl⟩ := hu.slice_; have HU := Lib.hid hu; have HB1 := Lib.hid hb; clear hu hb) | (refine ⟨trivial, ?_⟩; gi_at_call 33; refine (callsIn_wide.2 (up_any _ _ _ _)).mono ?_; rintro e w' ⟨rfl, rfl⟩))
  have hu := HU.out
  have hbr1 := HBR.out.keep HB1.out
  have hbp1 := HBP.out.keep HB1.out
  have hb1 := HB0.out.trans (HB1.out.mono HB0.out.size)
  have hba1 := (Below.refl w1.heap.size w1).alloc (Nat.le_refl _) (Obj.cells #[.int .u64 0, .int .i64 0, .bool false, .slice ua (kn es).length uc] 37)
  have hba2 := hba1.alloc hba1.size (Obj.cells #[.slice a es.length c] 23)
  have bk := (Blk.new w1 37 #[.int .u64 0, .int .i64 0, .bool false, .slice ua (kn es).length uc]).keep ((Below.refl _ _).alloc (Nat.le_refl _) (Obj.cells #[.slice a es.length c] 23))
  have bb := Blk.new (w1.alloc (.cells #[.int .u64 0, .int .i64 0, .bool false, .slice ua (kn es).length uc] 37)) 23 #[.slice a es.length c]
  rw [World.size_alloc] at bb
  have hB1 := hb1.trans (hba2.mono hb1.size)
  have br := hbr1.keep hba2
  have bp := hbp1.keep hba2
  have hst := ups_stops 2 (by omega) (w1.heap.size + 1) _ es w _ hv hB1 bb.lt (by rw [bb.cell 0]; rfl)
  have hkl : w.heap.size + 1 < w1.heap.size := hbr1.lt
  have hsz : w1.heap.size < ((w1.alloc (.cells #[.int .u64 0, .int .i64 0, .bool false, .slice ua (kn es).length uc] 37)).alloc (.cells #[.slice a es.length c] 23)).heap.size := bk.lt
  clear bb hba1 hba2 hb1 hbr1 hbp1 HB1 HBR HBP HK HB0 HU
  generalize (w1.alloc (.cells #[.int .u64 0, .int .i64 0, .bool false, .slice ua (kn es).length uc] 37)).alloc (.cells #[.slice a es.length c] 23) = W0 at *
  obtain ⟨qn, hqn⟩ : ∃ z, z = w.heap.size := ⟨_, rfl⟩
  obtain ⟨qk, hqk⟩ : ∃ z, z = w1.heap.size := ⟨_, rfl⟩
  rw [← hqn] at br bp hB1 hst hkl
  rw [← hqk] at bk hst hsz hkl
  rw [← hqn, ← hqk]
  have HQ := Lib.hid hqn
  have HKL := Lib.hid hkl
  have HU := Lib.hid hu
  have HV := Lib.hid hv
  have HVB := Lib.hid hvb
  have HWN := Lib.hid (show qn < W0.heap.size by omega)
  clear hqn hqk hu hv hvb
  refine wpIn_rangeFunc_ownH rfl (by omega) (Kp := Below qn) (gf := 49) (lb := #[.pointer (some ⟨qk + 1, 0, none⟩)]) rfl trivial (enters_of Try.func49 (by kernel_rfl) rfl)
    hst belowK_t (belowK_b (by omega)) (Below.refl _ _) (fun _ => rfl)
    (fun pre W => ((∀ j ∈ pre, badK before es j = false) ∧ Blk W qn 23 #[.slice ab before.length cb] ∧ Blk W (qn + 1) 3 #[.int .i64 0] ∧ Blk W qk 37 #[.int .u64 0, .int .i64 0, .bool false, .slice ua (kn es).length uc]) ∧ Below qn w W)
    (fun c pre W => (c = .ret ∧ ∃ ini j, pre = ini ++ [j] ∧ (∀ i ∈ ini, badK before es i = false) ∧ badK before es j = true ∧ Blk W (qn + 1) 3 #[.int .i64 (j : Nat)]) ∧ Below qn w W)
    (OwnFrom.and (Own.from (fun s A B row hs hg hr => ⟨hs.1, hs.2.1.others hg hr, hs.2.2.1.others hg hr, hs.2.2.2.others hg hr⟩) _) (ownFrom_below (HQ.out ▸ Nat.le_refl _) (Nat.le_of_lt HWN.out)))
    (fun c => OwnFrom.and (Own.from (fun s A B row hs hg hr => by obtain ⟨hc, ini, j, e1, e2, e3, e4⟩ := hs; exact ⟨hc, ini, j, e1, e2, e3, e4.others hg hr⟩) _) (ownFrom_below (HQ.out ▸ Nat.le_refl _) (Nat.le_of_lt HWN.out)))
    ⟨⟨(fun j hj => by cases hj), bp, br, bk⟩, hB1⟩
    (fun x a' W => ∃ Bx, qk < Bx ∧ Blk W Bx 40 (nth es x).cells ∧ a' = { tmps := #[.slice ab before.length cb, .slice a es.length c, .pointer (some ⟨qn, 0, none⟩), undef, .pointer (some ⟨qn + 1, 0, none⟩), .pointer (some ⟨qk, 0, none⟩), .int .i64 x, .pointer (some ⟨Bx, 0, none⟩), .slice a es.length c, .agg #[.int .u64 0, .int .i64 0, .bool false, .slice ua (kn es).length uc], .slice a es.length c, .func (.func 49) #[] #[.pointer (some ⟨qk + 1, 0, none⟩)], .int .i64 x, (nth es x).enc, undef, undef, undef, undef, undef, undef, undef, undef, undef, undef, undef, undef, undef, undef, undef, undef, undef, undef, undef, undef, undef, undef, undef, undef, undef, undef], defers := [] })
    (fun x a' => fun s A B row hs hg hr => by obtain ⟨Bx, h1, h2, h3⟩ := hs; exact ⟨Bx, h1, h2.others hg fun r e => (hr r e).2, h3⟩) ?assign ?body ?done ?stop
  case assign =>
    rintro l pre x W K ⟨⟨hp, hi0, hi, hk⟩, hb⟩ hK
    have HP := Lib.hid hp
    unfold encU
    generalize nth es x = X at *
    unfold El.enc at hK ⊢
    dsimp only [El.cells, El.vl, El.vs, El.vt, El.vi] at hK ⊢
    have HKK := Lib.hid hK
    clear hK hp
    gi_wp2
    have hba := (Below.refl W.heap.size W).alloc (Nat.le_refl _) (Obj.cells #[.bool X.up, .bool X.prim, .int .u64 X.ep, .int .i64 X.bef, .bool X.leased, .slice X.la X.line.length X.lc, .slice X.sa X.list.length X.sc, .slice X.ta X.told.length X.tc, .slice X.ia X.il X.ic] 40)
    exact HKK.out _ _ ((KeepsOthers.alloc _ _).from _) (hba.mono (Nat.le_of_lt hi0.lt)) ⟨⟨HP.out, hi0.keep hba, hi.keep hba, hk.keep hba⟩, hb.trans (hba.mono (Nat.le_of_lt hi0.lt))⟩ ⟨W.heap.size, hk.lt, Blk.new _ _ _, rfl⟩
  case body =>
    rintro l pre x a' W hl ⟨r, hr⟩ ⟨⟨hp, hi0, hi, hk⟩, hb⟩ ⟨Bx, hBx, bX, rfl⟩ hlt
    have hok := HV.out.okAll x
    have hbad : badK before es x = (decide (x < before.length) && ((nth before x).up && decide (comm (nth es x).list (kn es) < comm (nth before x).list (kn es)))) := rfl
    have HP := Lib.hid hp
    have HI0 := Lib.hid hi0
    have HI := Lib.hid hi
    have HK := Lib.hid hk
    have HB := Lib.hid hb
    have HLE := Lib.hid (Nat.le_of_lt hi0.lt)
    have hokW : ElOK W (nth es x) := by
      have h1 := hok
      exact ⟨h1.1.keep (HQ.out ▸ hb), h1.2.1.keep (HQ.out ▸ hb), h1.2.2.keep (HQ.out ▸ hb)⟩
    have huW := HU.out.keep (HQ.out ▸ hb)
    have hvbW := HVB.out.keep (HQ.out ▸ hb)
    have hat := fun h => hvbW.at_ x h
    have hokB := hvbW.okAll x
    obtain ⟨Y, hY⟩ : ∃ z, z = nth before x := ⟨_, rfl⟩
    rw [← hY] at hbad hat hokB
    generalize nth es x = X at *
    generalize kn es = K at *
    unfold El.enc
    dsimp only [El.cells, El.vl, El.vs, El.vt, El.vi] at bX ⊢
    have HBX := Lib.hid bX
    have HOK := Lib.hid hokW
    have HOKB := Lib.hid hokB
    have HUW := Lib.hid huW
    have HBAD := Lib.hid hbad
    have HAT := Lib.hid hat
    clear hp hi0 hi hk hb hokW huW bX hok hbad hlt hr hl hat hokB hvbW hY HU bk hB1 br bp hkl hsz hst hBx
    by_cases h1 : x < before.length
    · obtain ⟨g, off, rfl, hup, hls⟩ := HAT.out h1
      have HUP := Lib.hid hup
      have HLS := Lib.hid hls
      have i1 : (x : Int) < (before.length : Int) := by omega
      have i0 : (0 : Int) ≤ (x : Int) := by omega
      obtain ⟨b1, hb1⟩ : ∃ z, z = Y.up := ⟨_, rfl⟩
      rw [← hb1] at HUP HBAD
      rw [decide_eq_true h1] at HBAD
      clear hup hls h1 hb1 HAT
      generalize before.length = nb at *
      cases b1 with
      | false =>
        gi_wp2_with fail
        refine wpIn_region_spec (fun _ => false) (kinds []) (CF W (fun _ _ _ => True)) (by kernel_rfl) (by kernel_rfl) (by kernel_rfl) (kinds_inh _) CF.start ?_
        intro ν hν
        clear hν
        refine lex_plain (by rfl) rfl ?_
        apply Exists.intro
        refine ⟨fun σ w2 hA hD hC => ?_, ?_⟩
        · clear hA hD hC
          go_simp
          exact And.intro rfl rfl
        simp only [Act.put, List.setIfInBounds_toArray, List.set_cons_succ, List.set_cons_zero, Nat.reduceAdd]
        refine lex_plain (by rfl) rfl ?_
        apply Exists.intro
        refine ⟨fun σ w2 hA hD hC => ?_, ?_⟩
        · have hx := cell_later hC.1 (show W.cell? ⟨qn, 0, none⟩ = some (.slice (some ⟨g, off, none⟩) nb cb) from HI0.out.cell 0)
          clear hA hD hC
          go_simp
          exact And.intro rfl rfl
        simp only [Act.put, List.setIfInBounds_toArray, List.set_cons_succ, List.set_cons_zero, Nat.reduceAdd]
        refine lex_plain (by rfl) rfl ?_
        apply Exists.intro
        refine ⟨fun σ w2 hA hD hC => ?_, ?_⟩
        · clear hA hD hC
          go_simp
          exact And.intro rfl rfl
        simp only [Act.put, List.setIfInBounds_toArray, List.set_cons_succ, List.set_cons_zero, Nat.reduceAdd]
        refine lex_plain (by rfl) rfl ?_
        apply Exists.intro
        refine ⟨fun σ w2 hA hD hC => ?_, ?_⟩
        · clear hA hD hC
          go_simp
          exact And.intro rfl rfl
        simp only [Act.put, List.setIfInBounds_toArray, List.set_cons_succ, List.set_cons_zero, Nat.reduceAdd]
        refine lex_plain (by rfl) rfl ?_
        apply Exists.intro
        refine ⟨fun σ w2 hA hD hC => ?_, ?_⟩
        · clear hA hD hC
          go_simp
          exact And.intro rfl rfl
        simp only [Act.put, List.setIfInBounds_toArray, List.set_cons_succ, List.set_cons_zero, Nat.reduceAdd]
        refine lex_plain (by rfl) rfl ?_
        apply Exists.intro
        refine ⟨fun σ w2 hA hD hC => ?_, ?_⟩
        · have hx := cell_later hC.1 (show W.cell? ⟨qn, 0, none⟩ = some (.slice (some ⟨g, off, none⟩) nb cb) from HI0.out.cell 0)
          clear hA hD hC
          go_simp
          exact And.intro rfl rfl
        simp only [Act.put, List.setIfInBounds_toArray, List.set_cons_succ, List.set_cons_zero, Nat.reduceAdd]
        refine lex_plain (by rfl) rfl ?_
        apply Exists.intro
        refine ⟨fun σ w2 hA hD hC => ?_, ?_⟩
        · clear hA hD hC
          go_simp
          exact And.intro rfl rfl
        simp only [Act.put, List.setIfInBounds_toArray, List.set_cons_succ, List.set_cons_zero, Nat.reduceAdd]
        refine lex_plain (by rfl) rfl ?_
        apply Exists.intro
        refine ⟨fun σ w2 hA hD hC => ?_, ?_⟩
        · clear hA hD hC
          go_simp
          exact And.intro rfl rfl
        simp only [Act.put, List.setIfInBounds_toArray, List.set_cons_succ, List.set_cons_zero, Nat.reduceAdd]
        refine lex_plain (by rfl) rfl ?_
        apply Exists.intro
        refine ⟨fun σ w2 hA hD hC => ?_, ?_⟩
        · clear hA hD hC
          go_simp
          exact And.intro rfl rfl
        simp only [Act.put, List.setIfInBounds_toArray, List.set_cons_succ, List.set_cons_zero, Nat.reduceAdd]
        refine lex_plain (by rfl) rfl ?_
        apply Exists.intro
        refine ⟨fun σ w2 hA hD hC => ?_, ?_⟩
        · have hx := cell_later hC.1 HUP.out
          clear hA hD hC
          go_simp
          exact And.intro rfl rfl
        simp only [Act.put, List.setIfInBounds_toArray, List.set_cons_succ, List.set_cons_zero, Nat.reduceAdd]
        refine lex_plain (by rfl) rfl ?_
        apply Exists.intro
        refine ⟨fun σ w2 hA hD hC => ?_, ?_⟩
        · clear hA hD hC
          go_simp
          exact And.intro rfl rfl
        simp only [Act.put, List.setIfInBounds_toArray, List.set_cons_succ, List.set_cons_zero, Nat.reduceAdd]
        refine lex_plain (by rfl) rfl ?_
        apply Exists.intro
        refine ⟨fun σ w2 hA hD hC => ?_, ?_⟩
        · clear hA hD hC
          go_simp
          exact And.intro rfl rfl
        simp only [Act.put, List.setIfInBounds_toArray, List.set_cons_succ, List.set_cons_zero, Nat.reduceAdd]
        refine lex_skip (by rfl) rfl ?_
        simp only [Act.put, List.setIfInBounds_toArray, List.set_cons_succ, List.set_cons_zero, Nat.reduceAdd]
        refine lex_skip (by rfl) rfl ?_
        simp only [Act.put, List.setIfInBounds_toArray, List.set_cons_succ, List.set_cons_zero, Nat.reduceAdd]
        refine lex_skip (by rfl) rfl ?_
        simp only [Act.put, List.setIfInBounds_toArray, List.set_cons_succ, List.set_cons_zero, Nat.reduceAdd]
        refine lex_skip (by rfl) rfl ?_
        simp only [Act.put, List.setIfInBounds_toArray, List.set_cons_succ, List.set_cons_zero, Nat.reduceAdd]
        refine lex_skip (by rfl) rfl ?_
        simp only [Act.put, List.setIfInBounds_toArray, List.set_cons_succ, List.set_cons_zero, Nat.reduceAdd]
        refine lex_skip (by rfl) rfl ?_
        simp only [Act.put, List.setIfInBounds_toArray, List.set_cons_succ, List.set_cons_zero, Nat.reduceAdd]
        refine lex_skip (by rfl) rfl ?_
        simp only [Act.put, List.setIfInBounds_toArray, List.set_cons_succ, List.set_cons_zero, Nat.reduceAdd]
        refine lex_skip (by rfl) rfl ?_
        simp only [Act.put, List.setIfInBounds_toArray, List.set_cons_succ, List.set_cons_zero, Nat.reduceAdd]
        refine lex_skip (by rfl) rfl ?_
        simp only [Act.put, List.setIfInBounds_toArray, List.set_cons_succ, List.set_cons_zero, Nat.reduceAdd]
        refine lex_skip (by rfl) rfl ?_
        simp only [Act.put, List.setIfInBounds_toArray, List.set_cons_succ, List.set_cons_zero, Nat.reduceAdd]
        refine lex_skip (by rfl) rfl ?_
        simp only [Act.put, List.setIfInBounds_toArray, List.set_cons_succ, List.set_cons_zero, Nat.reduceAdd]
        refine lex_skip (by rfl) rfl ?_
        simp only [Act.put, List.setIfInBounds_toArray, List.set_cons_succ, List.set_cons_zero, Nat.reduceAdd]
        refine lex_plain (by rfl) rfl ?_
        apply Exists.intro
        refine ⟨fun σ w2 hA hD hC => ?_, ?_⟩
        · clear hA hD hC
          go_simp
          exact And.intro rfl rfl
        simp only [Act.put, List.setIfInBounds_toArray, List.set_cons_succ, List.set_cons_zero, Nat.reduceAdd]
        refine lex_nil (fun σ w9 hA hall hC => ?_)
        have HB9 := Lib.hid hC.1
        clear hA hall hC ν σ i0 i1
        gi_wp2
        refine ⟨(keeps_of_below HB9.out).from _, HB9.out.mono HLE.out, ⟨fun j hj => ?_, HI0.out.keep HB9.out, HI.out.keep HB9.out, HK.out.keep HB9.out⟩, HB.out.trans (HB9.out.mono HLE.out)⟩
        rcases List.mem_append.1 hj with h | h
        · exact HP.out j h
        · obtain rfl : j = x := by simpa using h
          exact HBAD.out
      | true =>
        obtain ⟨cm, hcm⟩ : ∃ z, z = comm X.list K := ⟨_, rfl⟩
        obtain ⟨cn, hcn⟩ : ∃ z, z = comm Y.list K := ⟨_, rfl⟩
        rw [← hcm, ← hcn] at HBAD
        have HCM := Lib.hid (And.intro hcm hcn)
        clear hcm hcn
        gi_wp2_with fail
        refine wpIn_region_spec (fun i => i == 15 || i == 22) (kinds [(15, .is (.int .i64 cm)), (22, .is (.int .i64 cn))]) (CF W (fun _ _ _ => True)) (by kernel_rfl) (by kernel_rfl) (by kernel_rfl) (kinds_inh _) CF.start ?_
        intro ν hν
        have n15 : ν 15 = .int .i64 cm := hν 15
        have n22 : ν 22 = .int .i64 cn := hν 22
        clear hν
        refine lex_plain (by rfl) rfl ?_
        apply Exists.intro
        refine ⟨fun σ w2 hA hD hC => ?_, ?_⟩
        · clear hA hD hC
          go_simp
          exact And.intro rfl rfl
        simp only [Act.put, List.setIfInBounds_toArray, List.set_cons_succ, List.set_cons_zero, Nat.reduceAdd]
        refine lex_plain (by rfl) rfl ?_
        apply Exists.intro
        refine ⟨fun σ w2 hA hD hC => ?_, ?_⟩
        · have hx := cell_later hC.1 (show W.cell? ⟨qn, 0, none⟩ = some (.slice (some ⟨g, off, none⟩) nb cb) from HI0.out.cell 0)
          clear hA hD hC
          go_simp
          exact And.intro rfl rfl
        simp only [Act.put, List.setIfInBounds_toArray, List.set_cons_succ, List.set_cons_zero, Nat.reduceAdd]
        refine lex_plain (by rfl) rfl ?_
        apply Exists.intro
        refine ⟨fun σ w2 hA hD hC => ?_, ?_⟩
        · clear hA hD hC
          go_simp
          exact And.intro rfl rfl
        simp only [Act.put, List.setIfInBounds_toArray, List.set_cons_succ, List.set_cons_zero, Nat.reduceAdd]
        refine lex_plain (by rfl) rfl ?_
        apply Exists.intro
        refine ⟨fun σ w2 hA hD hC => ?_, ?_⟩
        · clear hA hD hC
          go_simp
          exact And.intro rfl rfl
        simp only [Act.put, List.setIfInBounds_toArray, List.set_cons_succ, List.set_cons_zero, Nat.reduceAdd]
        refine lex_plain (by rfl) rfl ?_
        apply Exists.intro
        refine ⟨fun σ w2 hA hD hC => ?_, ?_⟩
        · clear hA hD hC
          go_simp
          exact And.intro rfl rfl
        simp only [Act.put, List.setIfInBounds_toArray, List.set_cons_succ, List.set_cons_zero, Nat.reduceAdd]
        refine lex_plain (by rfl) rfl ?_
        apply Exists.intro
        refine ⟨fun σ w2 hA hD hC => ?_, ?_⟩
        · have hx := cell_later hC.1 (show W.cell? ⟨qn, 0, none⟩ = some (.slice (some ⟨g, off, none⟩) nb cb) from HI0.out.cell 0)
          clear hA hD hC
          go_simp
          exact And.intro rfl rfl
        simp only [Act.put, List.setIfInBounds_toArray, List.set_cons_succ, List.set_cons_zero, Nat.reduceAdd]
        refine lex_plain (by rfl) rfl ?_
        apply Exists.intro
        refine ⟨fun σ w2 hA hD hC => ?_, ?_⟩
        · clear hA hD hC
          go_simp
          exact And.intro rfl rfl
        simp only [Act.put, List.setIfInBounds_toArray, List.set_cons_succ, List.set_cons_zero, Nat.reduceAdd]
        refine lex_plain (by rfl) rfl ?_
        apply Exists.intro
        refine ⟨fun σ w2 hA hD hC => ?_, ?_⟩
        · clear hA hD hC
          go_simp
          exact And.intro rfl rfl
        simp only [Act.put, List.setIfInBounds_toArray, List.set_cons_succ, List.set_cons_zero, Nat.reduceAdd]
        refine lex_plain (by rfl) rfl ?_
        apply Exists.intro
        refine ⟨fun σ w2 hA hD hC => ?_, ?_⟩
        · clear hA hD hC
          go_simp
          exact And.intro rfl rfl
        simp only [Act.put, List.setIfInBounds_toArray, List.set_cons_succ, List.set_cons_zero, Nat.reduceAdd]
        refine lex_plain (by rfl) rfl ?_
        apply Exists.intro
        refine ⟨fun σ w2 hA hD hC => ?_, ?_⟩
        · have hx := cell_later hC.1 HUP.out
          clear hA hD hC
          go_simp
          exact And.intro rfl rfl
        simp only [Act.put, List.setIfInBounds_toArray, List.set_cons_succ, List.set_cons_zero, Nat.reduceAdd]
        refine lex_plain (by rfl) rfl ?_
        apply Exists.intro
        refine ⟨fun σ w2 hA hD hC => ?_, ?_⟩
        · clear hA hD hC
          go_simp
          exact And.intro rfl rfl
        simp only [Act.put, List.setIfInBounds_toArray, List.set_cons_succ, List.set_cons_zero, Nat.reduceAdd]
        refine lex_plain (by rfl) rfl ?_
        apply Exists.intro
        refine ⟨fun σ w2 hA hD hC => ?_, ?_⟩
        · clear hA hD hC
          go_simp
          exact And.intro rfl rfl
        simp only [Act.put, List.setIfInBounds_toArray, List.set_cons_succ, List.set_cons_zero, Nat.reduceAdd]
        refine lex_plain (by rfl) rfl ?_
        apply Exists.intro
        refine ⟨fun σ w2 hA hD hC => ?_, ?_⟩
        · clear hA hD hC
          go_simp
          exact And.intro rfl rfl
        simp only [Act.put, List.setIfInBounds_toArray, List.set_cons_succ, List.set_cons_zero, Nat.reduceAdd]
        refine lex_plain (by rfl) rfl ?_
        apply Exists.intro
        refine ⟨fun σ w2 hA hD hC => ?_, ?_⟩
        · have hx := cell_later hC.1 (show W.cell? ⟨Bx, 6, none⟩ = some (.slice X.sa X.list.length X.sc) from HBX.out.cell 6)
          clear hA hD hC
          go_simp
          exact And.intro rfl rfl
        simp only [Act.put, List.setIfInBounds_toArray, List.set_cons_succ, List.set_cons_zero, Nat.reduceAdd]
        refine lex_plain (by rfl) rfl ?_
        apply Exists.intro
        refine ⟨fun σ w2 hA hD hC => ?_, ?_⟩
        · have hk0 := cell_later hC.1 (show W.cell? ⟨qk, 0, none⟩ = some (.int .u64 0) from HK.out.cell 0)
          have hk1 := cell_later hC.1 (show W.cell? ⟨qk, 1, none⟩ = some (.int .i64 0) from HK.out.cell 1)
          have hk2 := cell_later hC.1 (show W.cell? ⟨qk, 2, none⟩ = some (.bool false) from HK.out.cell 2)
          have hk3 := cell_later hC.1 (show W.cell? ⟨qk, 3, none⟩ = some (.slice ua K.length uc) from HK.out.cell 3)
          clear hA hD hC
          go_simp
          exact And.intro rfl rfl
        simp only [Act.put, List.setIfInBounds_toArray, List.set_cons_succ, List.set_cons_zero, Nat.reduceAdd]
        refine lex_special (by rfl) rfl (fun σ w2 hA hD hn hC => ?_) ?_
        · go_simp
          refine call_ok (fun _ _ _ _ _ _ => trivial) hC ((common_any _ X.list 0 0 false _ K w2 (HOK.out.2.1.keep hC.1) (HUW.out.keep hC.1)).mono ?_)
          rintro e' w' ⟨rfl, hb⟩
          exact ⟨_, rfl, (show Value.int .i64 _ = .int .i64 _ from by rw [HCM.out.1]), trivial, hb⟩
        rw [n15]
        simp only [Act.put, List.setIfInBounds_toArray, List.set_cons_succ, List.set_cons_zero, Nat.reduceAdd]
        refine lex_plain (by rfl) rfl ?_
        apply Exists.intro
        refine ⟨fun σ w2 hA hD hC => ?_, ?_⟩
        · have hx := cell_later hC.1 (show W.cell? ⟨qn, 0, none⟩ = some (.slice (some ⟨g, off, none⟩) nb cb) from HI0.out.cell 0)
          clear hA hD hC
          go_simp
          exact And.intro rfl rfl
        simp only [Act.put, List.setIfInBounds_toArray, List.set_cons_succ, List.set_cons_zero, Nat.reduceAdd]
        refine lex_plain (by rfl) rfl ?_
        apply Exists.intro
        refine ⟨fun σ w2 hA hD hC => ?_, ?_⟩
        · clear hA hD hC
          go_simp
          exact And.intro rfl rfl
        simp only [Act.put, List.setIfInBounds_toArray, List.set_cons_succ, List.set_cons_zero, Nat.reduceAdd]
        refine lex_plain (by rfl) rfl ?_
        apply Exists.intro
        refine ⟨fun σ w2 hA hD hC => ?_, ?_⟩
        · clear hA hD hC
          go_simp
          exact And.intro rfl rfl
        simp only [Act.put, List.setIfInBounds_toArray, List.set_cons_succ, List.set_cons_zero, Nat.reduceAdd]
        refine lex_plain (by rfl) rfl ?_
        apply Exists.intro
        refine ⟨fun σ w2 hA hD hC => ?_, ?_⟩
        · clear hA hD hC
          go_simp
          exact And.intro rfl rfl
        simp only [Act.put, List.setIfInBounds_toArray, List.set_cons_succ, List.set_cons_zero, Nat.reduceAdd]
        refine lex_plain (by rfl) rfl ?_
        apply Exists.intro
        refine ⟨fun σ w2 hA hD hC => ?_, ?_⟩
        · have hx := cell_later hC.1 HLS.out
          clear hA hD hC
          go_simp
          exact And.intro rfl rfl
        simp only [Act.put, List.setIfInBounds_toArray, List.set_cons_succ, List.set_cons_zero, Nat.reduceAdd]
        refine lex_plain (by rfl) rfl ?_
        apply Exists.intro
        refine ⟨fun σ w2 hA hD hC => ?_, ?_⟩
        · have hk0 := cell_later hC.1 (show W.cell? ⟨qk, 0, none⟩ = some (.int .u64 0) from HK.out.cell 0)
          have hk1 := cell_later hC.1 (show W.cell? ⟨qk, 1, none⟩ = some (.int .i64 0) from HK.out.cell 1)
          have hk2 := cell_later hC.1 (show W.cell? ⟨qk, 2, none⟩ = some (.bool false) from HK.out.cell 2)
          have hk3 := cell_later hC.1 (show W.cell? ⟨qk, 3, none⟩ = some (.slice ua K.length uc) from HK.out.cell 3)
          clear hA hD hC
          go_simp
          exact And.intro rfl rfl
        simp only [Act.put, List.setIfInBounds_toArray, List.set_cons_succ, List.set_cons_zero, Nat.reduceAdd]
        refine lex_special (by rfl) rfl (fun σ w2 hA hD hn hC => ?_) ?_
        · go_simp
          refine call_ok (fun _ _ _ _ _ _ => trivial) hC ((common_any _ Y.list 0 0 false _ K w2 (HOKB.out.2.1.keep hC.1) (HUW.out.keep hC.1)).mono ?_)
          rintro e' w' ⟨rfl, hb⟩
          exact ⟨_, rfl, (show Value.int .i64 _ = .int .i64 _ from by rw [HCM.out.2]), trivial, hb⟩
        rw [n22]
        simp only [Act.put, List.setIfInBounds_toArray, List.set_cons_succ, List.set_cons_zero, Nat.reduceAdd]
        refine lex_plain (by rfl) rfl ?_
        apply Exists.intro
        refine ⟨fun σ w2 hA hD hC => ?_, ?_⟩
        · clear hA hD hC
          go_simp
          exact And.intro rfl rfl
        simp only [Act.put, List.setIfInBounds_toArray, List.set_cons_succ, List.set_cons_zero, Nat.reduceAdd]
        refine lex_plain (by rfl) rfl ?_
        apply Exists.intro
        refine ⟨fun σ w2 hA hD hC => ?_, ?_⟩
        · clear hA hD hC
          go_simp
          exact And.intro rfl rfl
        simp only [Act.put, List.setIfInBounds_toArray, List.set_cons_succ, List.set_cons_zero, Nat.reduceAdd]
        refine lex_nil (fun σ w9 hA hall hC => ?_)
        have hdd : decide ((cm : Int) < (cn : Int)) = decide (cm < cn) := by simp only [decide_eq_decide]; omega
        try simp only [hdd]
        clear hdd
        obtain ⟨b2, hb2⟩ : ∃ z, z = decide (cm < cn) := ⟨_, rfl⟩
        rw [← hb2] at HBAD
        rw [← hb2]
        clear hb2 n15 n22
        cases b2 with
        | false =>
          have HB9 := Lib.hid hC.1
          clear hA hall hC ν σ i0 i1
          gi_wp2
          refine ⟨(keeps_of_below HB9.out).from _, HB9.out.mono HLE.out, ⟨fun j hj => ?_, HI0.out.keep HB9.out, HI.out.keep HB9.out, HK.out.keep HB9.out⟩, HB.out.trans (HB9.out.mono HLE.out)⟩
          rcases List.mem_append.1 hj with h | h
          · exact HP.out j h
          · obtain rfl : j = x := by simpa using h
            exact HBAD.out
        | true =>
          have HB9 := Lib.hid hC.1
          clear hA hall hC ν σ i0 i1
          have hi := HI.out.keep HB9.out
          have d0 := hi.cell 0
          have hf := hi.frozen 0
          simp at d0
          have HF := Lib.hid (hi.set 0 (.int .i64 (x : Nat)))
          have HBF := Lib.hid ((HB.out.trans (HB9.out.mono HLE.out)).setCell (p := ⟨qn + 1, 0, none⟩) (Nat.le_succ _) (.int .i64 (x : Nat)))
          have HKF := Lib.hid (((keeps_of_below HB9.out).trans (KeepsOthers.setCell _ ⟨qn + 1, 0, none⟩ (.int .i64 (x : Nat)))).from W0.heap.size)
          clear hi
          gi_wp2
          exact ⟨HKF.out, ⟨rfl, pre, x, rfl, HP.out, HBAD.out, HF.out⟩, HBF.out⟩
    · have i1 : ¬ (x < before.length) := h1
      have d1 : decide (x < before.length) = false := decide_eq_false i1
      rw [decide_eq_false h1] at HBAD
      clear h1 HAT
      generalize before.length = nb at *
      gi_wp2_with fail
      refine wpIn_region_spec (fun _ => false) (kinds []) (CF W (fun _ _ _ => True)) (by kernel_rfl) (by kernel_rfl) (by kernel_rfl) (kinds_inh _) CF.start ?_
      intro ν hν
      clear hν
      refine lex_plain (by rfl) rfl ?_
      apply Exists.intro
      refine ⟨fun σ w2 hA hD hC => ?_, ?_⟩
      · clear hA hD hC
        go_simp
        exact And.intro rfl rfl
      simp only [Act.put, List.setIfInBounds_toArray, List.set_cons_succ, List.set_cons_zero, Nat.reduceAdd]
      refine lex_plain (by rfl) rfl ?_
      apply Exists.intro
      refine ⟨fun σ w2 hA hD hC => ?_, ?_⟩
      · have hx := cell_later hC.1 (show W.cell? ⟨qn, 0, none⟩ = some (.slice ab nb cb) from HI0.out.cell 0)
        clear hA hD hC
        go_simp
        exact And.intro rfl rfl
      simp only [Act.put, List.setIfInBounds_toArray, List.set_cons_succ, List.set_cons_zero, Nat.reduceAdd]
      refine lex_plain (by rfl) rfl ?_
      apply Exists.intro
      refine ⟨fun σ w2 hA hD hC => ?_, ?_⟩
      · clear hA hD hC
        go_simp
        exact And.intro rfl rfl
      simp only [Act.put, List.setIfInBounds_toArray, List.set_cons_succ, List.set_cons_zero, Nat.reduceAdd]
      refine lex_plain (by rfl) rfl ?_
      apply Exists.intro
      refine ⟨fun σ w2 hA hD hC => ?_, ?_⟩
      · clear hA hD hC
        go_simp
        exact And.intro rfl rfl
      simp only [Act.put, List.setIfInBounds_toArray, List.set_cons_succ, List.set_cons_zero, Nat.reduceAdd]
      refine lex_plain (by rfl) rfl ?_
      apply Exists.intro
      refine ⟨fun σ w2 hA hD hC => ?_, ?_⟩
      · clear hA hD hC
        go_simp
        exact And.intro rfl rfl
      simp only [Act.put, List.setIfInBounds_toArray, List.set_cons_succ, List.set_cons_zero, Nat.reduceAdd]
      refine lex_skip (by rfl) rfl ?_
      simp only [Act.put, List.setIfInBounds_toArray, List.set_cons_succ, List.set_cons_zero, Nat.reduceAdd]
      refine lex_skip (by rfl) rfl ?_
      simp only [Act.put, List.setIfInBounds_toArray, List.set_cons_succ, List.set_cons_zero, Nat.reduceAdd]
      refine lex_skip (by rfl) rfl ?_
      simp only [Act.put, List.setIfInBounds_toArray, List.set_cons_succ, List.set_cons_zero, Nat.reduceAdd]
      refine lex_skip (by rfl) rfl ?_
      simp only [Act.put, List.setIfInBounds_toArray, List.set_cons_succ, List.set_cons_zero, Nat.reduceAdd]
      refine lex_skip (by rfl) rfl ?_
      simp only [Act.put, List.setIfInBounds_toArray, List.set_cons_succ, List.set_cons_zero, Nat.reduceAdd]
      refine lex_plain (by rfl) rfl ?_
      apply Exists.intro
      refine ⟨fun σ w2 hA hD hC => ?_, ?_⟩
      · clear hA hD hC
        go_simp
        exact And.intro rfl rfl
      simp only [Act.put, List.setIfInBounds_toArray, List.set_cons_succ, List.set_cons_zero, Nat.reduceAdd]
      refine lex_plain (by rfl) rfl ?_
      apply Exists.intro
      refine ⟨fun σ w2 hA hD hC => ?_, ?_⟩
      · clear hA hD hC
        go_simp
        exact And.intro rfl rfl
      simp only [Act.put, List.setIfInBounds_toArray, List.set_cons_succ, List.set_cons_zero, Nat.reduceAdd]
      refine lex_skip (by rfl) rfl ?_
      simp only [Act.put, List.setIfInBounds_toArray, List.set_cons_succ, List.set_cons_zero, Nat.reduceAdd]
      refine lex_skip (by rfl) rfl ?_
      simp only [Act.put, List.setIfInBounds_toArray, List.set_cons_succ, List.set_cons_zero, Nat.reduceAdd]
      refine lex_skip (by rfl) rfl ?_
      simp only [Act.put, List.setIfInBounds_toArray, List.set_cons_succ, List.set_cons_zero, Nat.reduceAdd]
      refine lex_skip (by rfl) rfl ?_
      simp only [Act.put, List.setIfInBounds_toArray, List.set_cons_succ, List.set_cons_zero, Nat.reduceAdd]
      refine lex_skip (by rfl) rfl ?_
      simp only [Act.put, List.setIfInBounds_toArray, List.set_cons_succ, List.set_cons_zero, Nat.reduceAdd]
      refine lex_skip (by rfl) rfl ?_
      simp only [Act.put, List.setIfInBounds_toArray, List.set_cons_succ, List.set_cons_zero, Nat.reduceAdd]
      refine lex_skip (by rfl) rfl ?_
      simp only [Act.put, List.setIfInBounds_toArray, List.set_cons_succ, List.set_cons_zero, Nat.reduceAdd]
      refine lex_skip (by rfl) rfl ?_
      simp only [Act.put, List.setIfInBounds_toArray, List.set_cons_succ, List.set_cons_zero, Nat.reduceAdd]
      refine lex_skip (by rfl) rfl ?_
      simp only [Act.put, List.setIfInBounds_toArray, List.set_cons_succ, List.set_cons_zero, Nat.reduceAdd]
      refine lex_skip (by rfl) rfl ?_
      simp only [Act.put, List.setIfInBounds_toArray, List.set_cons_succ, List.set_cons_zero, Nat.reduceAdd]
      refine lex_skip (by rfl) rfl ?_
      simp only [Act.put, List.setIfInBounds_toArray, List.set_cons_succ, List.set_cons_zero, Nat.reduceAdd]
      refine lex_skip (by rfl) rfl ?_
      simp only [Act.put, List.setIfInBounds_toArray, List.set_cons_succ, List.set_cons_zero, Nat.reduceAdd]
      refine lex_plain (by rfl) rfl ?_
      apply Exists.intro
      refine ⟨fun σ w2 hA hD hC => ?_, ?_⟩
      · clear hA hD hC
        go_simp
        exact And.intro rfl rfl
      simp only [Act.put, List.setIfInBounds_toArray, List.set_cons_succ, List.set_cons_zero, Nat.reduceAdd]
      refine lex_nil (fun σ w9 hA hall hC => ?_)
      have HB9 := Lib.hid hC.1
      clear hA hall hC ν σ i1 d1
      gi_wp2
      refine ⟨(keeps_of_below HB9.out).from _, HB9.out.mono HLE.out, ⟨fun j hj => ?_, HI0.out.keep HB9.out, HI.out.keep HB9.out, HK.out.keep HB9.out⟩, HB.out.trans (HB9.out.mono HLE.out)⟩
      rcases List.mem_append.1 hj with h | h
      · exact HP.out j h
      · obtain rfl : j = x := by simpa using h
        exact HBAD.out
  case done =>
    rintro D ys W hD rfl ⟨⟨hp, hi0, hi, hk⟩, hb⟩ hK
    have hres := ups_none hp
    have d0 := hi.cell 0
    have hf := hi.frozen 0
    simp at d0
    have hK' := (KeepsOthers.setCell W ⟨qn + 1, 0, none⟩ (.int .i64 (-1))).same D _ hK rfl
    have HF := Lib.hid (hi.set 0 (.int .i64 (-1)))
    have HBF := Lib.hid (hb.setCell (p := ⟨qn + 1, 0, none⟩) (Nat.le_succ _) (.int .i64 (-1)))
    clear hi hi0 hb hp hk
    gi_wp2
    refine ⟨by simp, .inl ⟨_, _, rfl, run_takeDeferred hK', ?_⟩⟩
    have hfin := HF.out.others (grownBy_putObj' _ D (.deferred none)) (fun r e => by cases e; exact ⟨_, hK', rfl⟩)
    have f0 := hfin.cell 0
    simp at f0
    refine ⟨.int .i64 (-1), ?_, by rw [hres], HQ.out ▸ HBF.out.trans (belowK_b (w := W0) (Nat.le_of_lt HWN.out) _ D _ _ hD hK' rfl rfl)⟩
    simp [results, Try.f12, go_sem, f0]
  case stop =>
    rintro D c pre W hD ⟨k, hk, rfl⟩ ⟨⟨rfl, ini, j, e1, e2, e3, hi⟩, hb⟩ hK
    have hres := ups_some hk e1 e2 e3
    gi_wp2
    refine ⟨by simp, .inl ⟨_, _, rfl, run_takeDeferred hK, ?_⟩⟩
    have hfin := hi.others (grownBy_putObj' _ D (.deferred none)) (fun r e => by cases e; exact ⟨_, hK, rfl⟩)
    have f0 := hfin.cell 0
    simp at f0
    refine ⟨.int .i64 (j : Nat), ?_, by rw [hres], HQ.out ▸ hb.trans (belowK_b (w := W0) (Nat.le_of_lt HWN.out) _ D _ _ hD hK rfl rfl)⟩
    simp [results, Try.f12, go_sem, f0]
end Go.Proofs.Yteplcpiamocclaa
