/-
  LOOK: Lists (printed by wip/gen-look10.py).
-/
import Derived.Test.YteplcpiamocclaaLook9
namespace Go.Proofs.Yteplcpiamocclaa
open Go.RowKit Reg Go.ChangeShapes Go.Shelf
attribute [local go_sem] Oper.semAt_some

theorem InS.okAll {w : World} {v : Value} {es : List El} (h : InS w v es) (j : Nat) : ElOK w (nth es j) := by
  rcases Nat.lt_or_ge j es.length with hj | hj
  · exact h.ok j hj
  · have : nth es j = el0 := by simp [nth, hj]
    rw [this]
    exact ⟨InG.nil_ _, InG.nil_ _, InG.nil_ _⟩
theorem mem_ups {es : List El} {k i : Nat} : i ∈ ups es k ↔ i < k ∧ (nth es i).up = true := by simp [ups]
theorem ups_last {es : List El} : ∀ {k : Nat} {ini : List Nat} {j : Nat}, ups es k = ini ++ [j] → j < k ∧ (nth es j).up = true ∧ ini = ups es j
  | 0, ini, j, h => by simp [ups] at h
  | k + 1, ini, j, h => by
    rw [ups_succ] at h
    split at h
    · rename_i hu
      obtain ⟨rfl, e⟩ := List.append_inj' h rfl
      obtain rfl : k = j := by simpa using e
      exact ⟨Nat.lt_succ_self _, hu, rfl⟩
    · obtain ⟨h1, h2, h3⟩ := ups_last h
      exact ⟨by omega, h2, h3⟩
/-- the first of those that are up that is so -/
theorem ups_none {es : List El} {P : Nat → Bool} (h : ∀ j ∈ ups es es.length, P j = false) : fIx es.length (fun j => (nth es j).up && P j) = -1 :=
  fIx_none fun j hj => by
    cases hu : (nth es j).up with
    | false => rfl
    | true => exact h j (mem_ups.2 ⟨hj, hu⟩)
theorem ups_some {es : List El} {P : Nat → Bool} {k j : Nat} {ini : List Nat} (hk : k ≤ es.length) (he : ups es k = ini ++ [j]) (h : ∀ i ∈ ini, P i = false) (hp : P j = true) : fIx es.length (fun j => (nth es j).up && P j) = j := by
  obtain ⟨h1, h2, h3⟩ := ups_last he
  refine fIx_some (by omega) (fun i hi => ?_) (by rw [h2, hp]; rfl)
  cases hu : (nth es i).up with
  | false => rfl
  | true => exact h i (h3 ▸ mem_ups.2 ⟨hi, hu⟩)
/-- may a node's list not be? -/
def badL (es : List El) (j : Nat) : Bool := !risesB (nth es j).list || anyIn ((nth es j).list.drop (comm (nth es j).list (kn es))) (kn es)
theorem InG.drop {w : World} {a : Option Addr} {n c m : Nat} {gs : List Gd} (h : InG w (.slice a n c) gs) (hm : m ≤ gs.length) : InG w (.slice (if c = m then a else a.map fun x => x.add (m * 2)) (n - m) (c - m)) (gs.drop m) := by
  obtain ⟨⟨a', c', e, h0⟩, h1, h2⟩ := h
  simp only [Value.slice.injEq] at e
  obtain ⟨rfl, rfl, rfl⟩ := e
  refine ⟨⟨_, _, by rw [List.length_drop], ?_⟩, by rw [List.length_drop]; omega, fun g hg => h2 g (List.mem_of_mem_drop hg)⟩
  rcases h0 with rfl | ⟨hc, g, off, rfl, hx⟩
  · exact .inl (by simp)
  · rcases Nat.eq_or_lt_of_le hm with rfl | hlt
    · exact .inl (by simp)
    · refine .inr ⟨by rw [List.length_drop]; omega, g, off + m * 2, ?_, fun j u hj => ?_⟩
      · rw [if_neg (by omega)]
        simp [Addr.add]
      · rw [← cellsG_drop, List.getElem?_drop] at hj
        have := hx _ _ hj
        rw [Nat.add_assoc]
        exact this
theorem lt_of_obj {w : World} {g : Nat} {o : Obj} (h : w.heap[g]? = some o) : g < w.heap.size := by
  rcases Nat.lt_or_ge g w.heap.size with q | q
  · exact q
  · rw [Array.getElem?_eq_none q] at h
    cases h
theorem keeps_of_below {W W' : World} (h : Below W.heap.size W W') : KeepsOthers W W' := ⟨h.size, fun _ _ hk _ => (h.block _ (lt_of_obj hk)).trans hk⟩
set_option maxRecDepth 100000 in
set_option maxHeartbeats 2000000 in
theorem lists_any (v : Value) (es : List El) (w : World) (hv : InS w v es) :
    Calls Try.prog 11 #[v] w fun e w' => e = .returned (.int .i64 (fIx es.length fun j => (nth es j).up && badL es j)) ∧ Below w.heap.size w w' := by
  obtain ⟨a, c, rfl⟩ := hv.slice_
  refine (callsIn_wide (n := 3)).1 ?_
  have hB0 := (Below.refl w.heap.size w).alloc (Nat.le_refl _) (Obj.cells #[.int .i64 0] 3)
  have br := Blk.new w 3 #[.int .i64 0]
  have hk := known_any0 _ es w _ hv hB0
  have HK := Lib.hid hk
  have HB0 := Lib.hid hB0
  have HBR := Lib.hid br
  clear hk hB0 br
  refine callsIn_of_wp_marks Try.func11 rfl trivial ?_ rfl
  simp only [Try.ntmps11, List.size_toArray, List.length_cons, List.length_nil, Nat.reduceAdd, Nat.reduceSub, Array.replicate_succ, Array.replicate_zero, List.push_toArray, List.append_toArray, List.nil_append, List.cons_append]
  gi_wp2_with (first | (refine ⟨trivial, ?_⟩; gi_at_call 32; refine (callsIn_wide.2 HK.out).mono ?_; rintro e w1 ⟨u, rfl, hu, hb⟩; obtain ⟨ua, uc, rfl⟩ := hu.slice_; have HU := Lib.hid hu; have HB1 := Lib.hid hb; clear hu hb) | (refine ⟨trivial, ?_⟩; gi_at_call 33; refine (callsIn_wide.2 (up_any _ _ _ _)).mono ?_; rintro e w' ⟨rfl, rfl⟩))
  have hu := HU.out
  have hbr1 := HBR.out.keep HB1.out
  have hb1 := HB0.out.trans (HB1.out.mono HB0.out.size)
  have hba1 := (Below.refl w1.heap.size w1).alloc (Nat.le_refl _) (Obj.cells #[.int .u64 0, .int .i64 0, .bool false, .slice ua (kn es).length uc] 37)
  have hba2 := hba1.alloc hba1.size (Obj.cells #[.slice a es.length c] 23)
  have bk := (Blk.new w1 37 #[.int .u64 0, .int .i64 0, .bool false, .slice ua (kn es).length uc]).keep ((Below.refl _ _).alloc (Nat.le_refl _) (Obj.cells #[.slice a es.length c] 23))
  have bb := Blk.new (w1.alloc (.cells #[.int .u64 0, .int .i64 0, .bool false, .slice ua (kn es).length uc] 37)) 23 #[.slice a es.length c]
  rw [World.size_alloc] at bb
  have hB1 := hb1.trans (hba2.mono hb1.size)
  have br := hbr1.keep hba2
  have hst := ups_stops 2 (by omega) (w1.heap.size + 1) _ es w _ hv hB1 bb.lt (by rw [bb.cell 0]; rfl)
  have hkl : w.heap.size < w1.heap.size := hbr1.lt
  have hsz : w1.heap.size < ((w1.alloc (.cells #[.int .u64 0, .int .i64 0, .bool false, .slice ua (kn es).length uc] 37)).alloc (.cells #[.slice a es.length c] 23)).heap.size := bk.lt
  clear bb hba1 hba2 hb1 hbr1 HB1 HBR HK HB0 HU
  generalize (w1.alloc (.cells #[.int .u64 0, .int .i64 0, .bool false, .slice ua (kn es).length uc] 37)).alloc (.cells #[.slice a es.length c] 23) = W0 at *
  obtain ⟨qn, hqn⟩ : ∃ z, z = w.heap.size := ⟨_, rfl⟩
  obtain ⟨qk, hqk⟩ : ∃ z, z = w1.heap.size := ⟨_, rfl⟩
  rw [← hqn] at br hB1 hst hkl
  rw [← hqk] at bk hst hsz hkl
  rw [← hqn, ← hqk]
  have HQ := Lib.hid hqn
  have HKL := Lib.hid hkl
  have HU := Lib.hid hu
  have HV := Lib.hid hv
  clear hqn hqk hu hv
  refine wpIn_rangeFunc_ownH rfl (by omega) (Kp := Below qn) (gf := 49) (lb := #[.pointer (some ⟨qk + 1, 0, none⟩)]) rfl trivial (enters_of Try.func49 (by kernel_rfl) rfl)
    hst belowK_t (belowK_b (by omega)) (Below.refl _ _) (fun _ => rfl)
    (fun pre W => ((∀ j ∈ pre, badL es j = false) ∧ Blk W qn 3 #[.int .i64 0] ∧ Blk W qk 37 #[.int .u64 0, .int .i64 0, .bool false, .slice ua (kn es).length uc]) ∧ Below qn w W)
    (fun c pre W => (c = .ret ∧ ∃ ini j, pre = ini ++ [j] ∧ (∀ i ∈ ini, badL es i = false) ∧ badL es j = true ∧ Blk W qn 3 #[.int .i64 (j : Nat)]) ∧ Below qn w W)
    (OwnFrom.and (Own.from (fun s A B row hs hg hr => ⟨hs.1, hs.2.1.others hg hr, hs.2.2.others hg hr⟩) _) (ownFrom_below (HQ.out ▸ Nat.le_refl _) (Nat.le_of_lt (Nat.lt_trans hkl hsz))))
    (fun c => OwnFrom.and (Own.from (fun s A B row hs hg hr => by obtain ⟨hc, ini, j, e1, e2, e3, e4⟩ := hs; exact ⟨hc, ini, j, e1, e2, e3, e4.others hg hr⟩) _) (ownFrom_below (HQ.out ▸ Nat.le_refl _) (Nat.le_of_lt (Nat.lt_trans hkl hsz))))
    ⟨⟨(fun j hj => by cases hj), br, bk⟩, hB1⟩
    (fun x a' W => ∃ Bx, qk < Bx ∧ Blk W Bx 40 (nth es x).cells ∧ a' = { tmps := #[.slice a es.length c, undef, .pointer (some ⟨qn, 0, none⟩), .pointer (some ⟨qk, 0, none⟩), .int .i64 x, .pointer (some ⟨Bx, 0, none⟩), undef, .slice a es.length c, .agg #[.int .u64 0, .int .i64 0, .bool false, .slice ua (kn es).length uc], .slice a es.length c, .func (.func 49) #[] #[.pointer (some ⟨qk + 1, 0, none⟩)], .int .i64 x, (nth es x).enc, undef, undef, undef, undef, undef, undef, undef, undef, undef, undef, undef, undef, undef, undef, undef, undef, undef], defers := [] })
    (fun x a' => fun s A B row hs hg hr => by obtain ⟨Bx, h1, h2, h3⟩ := hs; exact ⟨Bx, h1, h2.others hg fun r e => (hr r e).2, h3⟩) ?assign ?body ?done ?stop
  case assign =>
    rintro l pre x W K ⟨⟨hp, hi, hk⟩, hb⟩ hK
    have HP := Lib.hid hp
    unfold encU
    generalize nth es x = X at *
    unfold El.enc at hK ⊢
    dsimp only [El.cells, El.vl, El.vs, El.vt, El.vi] at hK ⊢
    have HKK := Lib.hid hK
    clear hK hp
    gi_wp2
    have hba := (Below.refl W.heap.size W).alloc (Nat.le_refl _) (Obj.cells #[.bool X.up, .bool X.prim, .int .u64 X.ep, .int .i64 X.bef, .bool X.leased, .slice X.la X.line.length X.lc, .slice X.sa X.list.length X.sc, .slice X.ta X.told.length X.tc, .slice X.ia X.il X.ic] 40)
    exact HKK.out _ _ ((KeepsOthers.alloc _ _).from _) (hba.mono (Nat.le_of_lt hi.lt)) ⟨⟨HP.out, hi.keep hba, hk.keep hba⟩, hb.trans (hba.mono (Nat.le_of_lt hi.lt))⟩ ⟨W.heap.size, hk.lt, Blk.new _ _ _, rfl⟩
  case body =>
    rintro l pre x a' W hl ⟨r, hr⟩ ⟨⟨hp, hi, hk⟩, hb⟩ ⟨Bx, hBx, bX, rfl⟩ hlt
    have hok := HV.out.okAll x
    have hbad : badL es x = (!risesB (nth es x).list || anyIn ((nth es x).list.drop (comm (nth es x).list (kn es))) (kn es)) := rfl
    have HP := Lib.hid hp
    have HI := Lib.hid hi
    have HK := Lib.hid hk
    have HB := Lib.hid hb
    have hokW : ElOK W (nth es x) := by
      have h1 := hok
      exact ⟨h1.1.keep (HQ.out ▸ hb), h1.2.1.keep (HQ.out ▸ hb), h1.2.2.keep (HQ.out ▸ hb)⟩
    have huW := HU.out.keep (HQ.out ▸ hb)
    generalize nth es x = X at *
    generalize kn es = K at *
    unfold El.enc
    dsimp only [El.cells, El.vl, El.vs, El.vt, El.vi] at bX ⊢
    have HBX := Lib.hid bX
    have HOK := Lib.hid hokW
    have HUW := Lib.hid huW
    have HBAD := Lib.hid hbad
    clear hp hi hk hb hokW huW bX hok hbad hlt hr hl
    obtain ⟨cm, hcm⟩ : ∃ z, z = comm X.list K := ⟨_, rfl⟩
    have hle : cm ≤ X.list.length := by rw [hcm]; exact (comm_le _ _).1
    rw [← hcm] at HBAD
    have HCM := Lib.hid (And.intro hcm hle)
    have i1 : (cm : Int) ≤ (X.list.length : Int) := by omega
    have i0 : (0 : Int) ≤ (cm : Int) := by omega
    clear hcm hle
    gi_wp2_with fail
    refine wpIn_region_spec (fun i => i == 5) (kinds [(5, .is (.int .i64 cm))]) (CF W (fun _ _ _ => True)) (by kernel_rfl) (by kernel_rfl) (by kernel_rfl) (kinds_inh _) CF.start ?_
    intro ν hν
    have n5 : ν 5 = .int .i64 cm := hν 5
    clear hν
    refine lex_plain (by rfl) rfl ?_
    apply Exists.intro
    refine ⟨fun σ w2 hA hD hC => ?_, ?_⟩
    · clear hA hD hC
      go_simp
      exact And.intro rfl rfl
    simp only [Act.put, List.setIfInBounds_toArray, List.set_cons_succ, List.set_cons_zero, Nat.reduceAdd]
    refine lex_plain (by rfl) rfl ?_
    apply Exists.intro
    refine ⟨fun σ w2 hA hD hC => ?_, ?_⟩
    · have hx := cell_later hC.1 (show W.cell? ⟨Bx, 6, none⟩ = some (.slice X.sa X.list.length X.sc) from HBX.out.cell 6)
      clear hA hD hC
      go_simp
      exact And.intro rfl rfl
    simp only [Act.put, List.setIfInBounds_toArray, List.set_cons_succ, List.set_cons_zero, Nat.reduceAdd]
    refine lex_plain (by rfl) rfl ?_
    apply Exists.intro
    refine ⟨fun σ w2 hA hD hC => ?_, ?_⟩
    · clear hA hD hC
      go_simp
      exact And.intro rfl rfl
    simp only [Act.put, List.setIfInBounds_toArray, List.set_cons_succ, List.set_cons_zero, Nat.reduceAdd]
    refine lex_plain (by rfl) rfl ?_
    apply Exists.intro
    refine ⟨fun σ w2 hA hD hC => ?_, ?_⟩
    · have hx := cell_later hC.1 (show W.cell? ⟨Bx, 6, none⟩ = some (.slice X.sa X.list.length X.sc) from HBX.out.cell 6)
      clear hA hD hC
      go_simp
      exact And.intro rfl rfl
    simp only [Act.put, List.setIfInBounds_toArray, List.set_cons_succ, List.set_cons_zero, Nat.reduceAdd]
    refine lex_plain (by rfl) rfl ?_
    apply Exists.intro
    refine ⟨fun σ w2 hA hD hC => ?_, ?_⟩
    · have hk0 := cell_later hC.1 (show W.cell? ⟨qk, 0, none⟩ = some (.int .u64 0) from HK.out.cell 0)
      have hk1 := cell_later hC.1 (show W.cell? ⟨qk, 1, none⟩ = some (.int .i64 0) from HK.out.cell 1)
      have hk2 := cell_later hC.1 (show W.cell? ⟨qk, 2, none⟩ = some (.bool false) from HK.out.cell 2)
      have hk3 := cell_later hC.1 (show W.cell? ⟨qk, 3, none⟩ = some (.slice ua K.length uc) from HK.out.cell 3)
      clear hA hD hC
      go_simp
      exact And.intro rfl rfl
    simp only [Act.put, List.setIfInBounds_toArray, List.set_cons_succ, List.set_cons_zero, Nat.reduceAdd]
    refine lex_special (by rfl) rfl (fun σ w2 hA hD hn hC => ?_) ?_
    · go_simp
      refine call_ok (fun _ _ _ _ _ _ => trivial) hC ((common_any _ X.list 0 0 false _ K w2 (HOK.out.2.1.keep hC.1) (HUW.out.keep hC.1)).mono ?_)
      rintro e' w' ⟨rfl, hb⟩
      exact ⟨_, rfl, (show Value.int .i64 _ = .int .i64 _ from by rw [HCM.out.1]), trivial, hb⟩
    rw [n5]
    simp only [Act.put, List.setIfInBounds_toArray, List.set_cons_succ, List.set_cons_zero, Nat.reduceAdd]
    refine lex_plain (by rfl) rfl ?_
    apply Exists.intro
    refine ⟨fun σ w2 hA hD hC => ?_, ?_⟩
    · clear hA hD hC
      go_simp
      exact And.intro rfl rfl
    simp only [Act.put, List.setIfInBounds_toArray, List.set_cons_succ, List.set_cons_zero, Nat.reduceAdd]
    refine lex_plain (by rfl) rfl ?_
    apply Exists.intro
    refine ⟨fun σ w2 hA hD hC => ?_, ?_⟩
    · clear hA hD hC
      go_simp
      exact And.intro rfl rfl
    simp only [Act.put, List.setIfInBounds_toArray, List.set_cons_succ, List.set_cons_zero, Nat.reduceAdd]
    refine lex_nil (fun σ w9 hA hall hC => ?_)
    have hb9 := hC.1
    have HT := Lib.hid ((HOK.out.2.1.keep hb9).drop HCM.out.2)
    have hr := rises_any _ X.list w9 (HOK.out.2.1.keep hb9)
    have ha := fun w3 (hb : Below w9.heap.size w9 w3) => anyIn_any (X.list.drop cm) K _ _ qk w3 (HT.out.keep hb) (cell_later hb (cell_later hb9 (show W.cell? ⟨qk, 3, none⟩ = some (.slice ua K.length uc) from HK.out.cell 3))) ((HUW.out.keep hb9).keep hb)
    have HB9 := Lib.hid hb9
    have hx6 := cell_later hb9 (show W.cell? ⟨Bx, 6, none⟩ = some (.slice X.sa X.list.length X.sc) from HBX.out.cell 6)
    clear hA hall hC n5 hb9 HT HOK HUW HU bk i0 i1 ν σ
    generalize (if X.sc = cm then X.sa else Option.map (fun x => x.add (cm * 2)) X.sa) = ta at *
    obtain ⟨b1, hb1⟩ : ∃ z, z = risesB X.list := ⟨_, rfl⟩
    obtain ⟨b2, hb2⟩ : ∃ z, z = anyIn (List.drop cm X.list) K := ⟨_, rfl⟩
    rw [← hb1] at hr HBAD
    rw [← hb2] at HBAD
    simp only [← hb2] at ha
    have HR := Lib.hid hr
    have HA := Lib.hid ha
    clear hb1 hb2 hr ha
    generalize X.list.length - cm = tn at *
    generalize X.sc - cm = tc at *
    have HLE := Lib.hid (Nat.le_of_lt HI.out.lt)
    have HIX := Lib.hid hBx
    clear hBx hB1 br hkl hsz hst
    cases b1 with
    | false =>
      gi_wp2_with (refine ⟨trivial, ?_⟩; gi_at_call 35; refine (CallsIn.inRound l (callsIn_wide.2 HR.out)).mono ?_; rintro e w3 ⟨rfl, hb3⟩; have HB3 := Lib.hid (HB9.out.trans (hb3.mono HB9.out.size)); clear hb3 hx6 HR HA HB9)
      refine ⟨trivial, ?_⟩
      have hi := HI.out.keep HB3.out
      have d0 := hi.cell 0
      have hf := hi.frozen 0
      simp at d0
      have HF := Lib.hid (hi.set 0 (.int .i64 (x : Nat)))
      have HBF := Lib.hid ((HB.out.trans (HB3.out.mono HLE.out)).setCell (p := ⟨qn, 0, none⟩) (Nat.le_refl _) (.int .i64 (x : Nat)))
      have HKF := Lib.hid (((keeps_of_below HB3.out).trans (KeepsOthers.setCell _ ⟨qn, 0, none⟩ (.int .i64 (x : Nat)))).from W0.heap.size)
      clear hi
      gi_wp2
      exact ⟨HKF.out, ⟨rfl, pre, x, rfl, HP.out, HBAD.out, HF.out⟩, HBF.out⟩
    | true =>
      gi_wp2_with (refine ⟨trivial, ?_⟩; gi_at_call 35; refine (CallsIn.inRound l (callsIn_wide.2 HR.out)).mono ?_; rintro e w3 ⟨rfl, hb3⟩; have HB3 := Lib.hid (HB9.out.trans (hb3.mono HB9.out.size)); have HA3 := Lib.hid (HA.out w3 hb3); clear hb3 hx6 HR HA HB9)
      refine ⟨trivial, ?_⟩
      refine (CallsIn.inRound l (callsIn_wide.2 HA3.out)).mono ?_
      rintro e w4 ⟨rfl, hb4⟩
      have HB4 := Lib.hid (HB3.out.trans (hb4.mono HB3.out.size))
      clear hb4 HA3 HB3
      cases b2 with
      | true =>
        have hi := HI.out.keep HB4.out
        have d0 := hi.cell 0
        have hf := hi.frozen 0
        simp at d0
        have HF := Lib.hid (hi.set 0 (.int .i64 (x : Nat)))
        have HBF := Lib.hid ((HB.out.trans (HB4.out.mono HLE.out)).setCell (p := ⟨qn, 0, none⟩) (Nat.le_refl _) (.int .i64 (x : Nat)))
        have HKF := Lib.hid (((keeps_of_below HB4.out).trans (KeepsOthers.setCell _ ⟨qn, 0, none⟩ (.int .i64 (x : Nat)))).from W0.heap.size)
        clear hi
        gi_wp2
        exact ⟨HKF.out, ⟨rfl, pre, x, rfl, HP.out, HBAD.out, HF.out⟩, HBF.out⟩
      | false =>
        gi_wp2
        refine ⟨(keeps_of_below HB4.out).from _, HB4.out.mono HLE.out, ⟨fun j hj => ?_, HI.out.keep HB4.out, HK.out.keep HB4.out⟩, HB.out.trans (HB4.out.mono HLE.out)⟩
        rcases List.mem_append.1 hj with h | h
        · exact HP.out j h
        · obtain rfl : j = x := by simpa using h
          exact HBAD.out
  case done =>
    rintro D ys W hD rfl ⟨⟨hp, hi, hk⟩, hb⟩ hK
    have hres := ups_none hp
    have d0 := hi.cell 0
    have hf := hi.frozen 0
    simp at d0
    have hK' := (KeepsOthers.setCell W ⟨qn, 0, none⟩ (.int .i64 (-1))).same D _ hK rfl
    have HF := Lib.hid (hi.set 0 (.int .i64 (-1)))
    have HBF := Lib.hid (hb.setCell (p := ⟨qn, 0, none⟩) (Nat.le_refl _) (.int .i64 (-1)))
    have hqW : qn < D := Nat.lt_of_lt_of_le (Nat.lt_trans hkl hsz) hD
    clear hi hb hp hk
    gi_wp2
    refine ⟨by simp, .inl ⟨_, _, rfl, run_takeDeferred hK', ?_⟩⟩
    have hfin := HF.out.others (grownBy_putObj' _ D (.deferred none)) (fun r e => by cases e; exact ⟨_, hK', rfl⟩)
    have f0 := hfin.cell 0
    simp at f0
    refine ⟨.int .i64 (-1), ?_, by rw [hres], HQ.out ▸ HBF.out.trans (belowK_b (w := W0) (Nat.le_of_lt (Nat.lt_trans hkl hsz)) _ D _ _ hD hK' rfl rfl)⟩
    simp [results, Try.f11, go_sem, f0]
  case stop =>
    rintro D c pre W hD ⟨k, hk, rfl⟩ ⟨⟨rfl, ini, j, e1, e2, e3, hi⟩, hb⟩ hK
    have hres := ups_some hk e1 e2 e3
    gi_wp2
    refine ⟨by simp, .inl ⟨_, _, rfl, run_takeDeferred hK, ?_⟩⟩
    have hfin := hi.others (grownBy_putObj' _ D (.deferred none)) (fun r e => by cases e; exact ⟨_, hK, rfl⟩)
    have f0 := hfin.cell 0
    simp at f0
    refine ⟨.int .i64 (j : Nat), ?_, by rw [hres], HQ.out ▸ hb.trans (belowK_b (w := W0) (Nat.le_of_lt (Nat.lt_trans hkl hsz)) _ D _ _ hD hK rfl rfl)⟩
    simp [results, Try.f11, go_sem, f0]
end Go.Proofs.Yteplcpiamocclaa
