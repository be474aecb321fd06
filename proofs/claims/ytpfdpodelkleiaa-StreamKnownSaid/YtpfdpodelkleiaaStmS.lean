/-
  STREAM: the law StreamCuts, walked (printed by wip/gen-stms.py).
-/
import Derived.Test.YtpfdpodelkleiaaStmR
import Derived.Test.YtpfdpodelkleiaaChainF
namespace Go.Proofs.Ytpfdpodelkleiaa
open Go.RowKit Reg Go.ChangeShapes

theorem exec_store_mid {P : Program} {o : Oper} {a : Act} {w : World} (ty : TypeId) (x y : Operand) (ho : o.op = .store ty x y) (g off : Nat) (cells : Array Value) (hx : a.eval x = .pointer (some ⟨g, off, none⟩)) (hy : a.eval y = .agg cells)
    (ht : w.there g off cells.size) (hi : (P.info? ty).map (·.size) = some cells.size) (h1 : cells.all (·.oneCell') = true) :
    (execOp a.eval o).run P w = .ok .skip (w.setCells g off cells.toList) := by
  unfold execOp
  simp only [ho, hx, hy, Instr.storeAt, Instr.sureAddr, Sem.run_bind, Sem.run_pure, Result.andThen_ok, run_storeVar_mid w g off ty cells ht hi h1]
theorem kp_setCells (b : Nat) : ∀ (vs : List Value) (o : Nat) (w : World), Kp (· = b) w (w.setCells b o vs)
  | [], _, w => Kp.refl _ w
  | u :: vs, o, w => by
    have h1 : Kp (· = b) w (w.setCell ⟨b, o, none⟩ u) := ⟨(Below.refl 0 w).setCell (Nat.zero_le _) _, fun i _ hn => Below.heap_setCell w _ _ i hn⟩
    exact h1.trans (kp_setCells b vs (o + 1) _)
def setMany : Array Value → Nat → List Value → Array Value
  | cs, _, [] => cs
  | cs, o, u :: us => setMany (cs.setIfInBounds o u) (o + 1) us
theorem blk_setCells {g : Nat} {t : TypeId} : ∀ (vs : List Value) (o : Nat) (w : World) (cs : Array Value), Blk w g t cs → Blk (w.setCells g o vs) g t (setMany cs o vs)
  | [], _, _, _, h => h
  | u :: vs, o, _, _, h => blk_setCells vs (o + 1) _ _ (h.set o u)
/-- a block of a part's zeros is no list's -/
theorem InPr.zfar {w w' : World} {v : Value} {p : Prt} (h : InPr w v p) {g : Nat} (hg : Blk w g 30 #[.int .u64 0, .int .u64 0, .int .u64 0, .int .u64 0, .int .i64 0, .int .i64 0, .slice none 0 0]) (hk : Kp (· = g) w w') : InPr w' v p := by
  obtain ⟨sv, h1, ⟨a', c', h2, h3, hx⟩, h4⟩ := h
  refine ⟨sv, h1, ⟨a', c', h2, h3, fun j hj => ?_⟩, h4⟩
  obtain ⟨g', off, h5, h6, h7⟩ := hx j hj
  have hne : g' ≠ g := by
    rintro rfl
    rw [hg.cell] at h7
    match off + j * 2 + 1, h7 with
    | 0, h7 => simp at h7
    | 1, h7 => simp at h7
    | 2, h7 => simp at h7
    | 3, h7 => simp at h7
    | 4, h7 => simp at h7
    | 5, h7 => simp at h7
    | 6, h7 => simp at h7
    | n + 7, h7 => simp at h7
  have hlt : g' < w.heap.size := by
    rcases Nat.lt_or_ge g' w.heap.size with q | q
    · exact q
    · simp [World.cell?, Array.getElem?_eq_none q] at h7
  have far : ∀ o, w'.cell? ⟨g', o, none⟩ = w.cell? ⟨g', o, none⟩ := fun o => World.cell?_of_block (hk.2 g' hlt hne)
  exact ⟨g', off, h5, (far _).trans h6, (far _).trans h7⟩
theorem CutT.pz {w : World} {p : Prt} {z : Int} {e : Ending} {w' : World} (h : CutT w p z e w') : ∃ a n c, e = .returned (.tuple #[.agg #[.int .u64 p.b.1, .int .u64 p.b.2, .int .u64 p.t.1, .int .u64 p.t.2, .int .i64 p.f, .int .i64 p.a, .slice a n c], .int .i64 z]) ∧ OwPr w' w.heap.size (.agg #[.int .u64 p.b.1, .int .u64 p.b.2, .int .u64 p.t.1, .int .u64 p.t.2, .int .i64 p.f, .int .i64 p.a, .slice a n c]) p ∧ Below w.heap.size w w' := by
  obtain ⟨v, rfl, hv, hb⟩ := h
  obtain ⟨a, n, c, rfl⟩ := hv.inp.open_
  exact ⟨a, n, c, rfl, hv, hb⟩
/-- the places of an owned list's numbers may be written -/
def WrC (w : World) (a : Option Addr) (n : Nat) : Prop := ∀ j, j < n → ∃ g, a = some ⟨g, 0, none⟩ ∧ (∃ z, w.cell? ⟨g, j * 2, none⟩ = some z) ∧ w.frozen? ⟨g, j * 2, none⟩ = false
theorem OwC.wr {w : World} {base : Nat} {a : Option Addr} {n c : Nat} {cs : List Cg} (h : OwC w base (.slice a n c) cs) : WrC w a n := by
  intro j hj
  have hl : n = cs.length := by obtain ⟨a', c', e, -⟩ := h.rd; simp only [Value.slice.injEq] at e; exact e.2.1
  rcases h.1.2 with ⟨hn, h0⟩ | ⟨g, cap, cur, e, hg, hh, rest⟩
  · omega
  · simp only [Value.slice.injEq] at e
    obtain ⟨rfl, h1, h2⟩ := e
    have hc := h.1.cells (g := g) rfl (j * 2) _ (cgsL_at cs j (by omega)).1
    rw [addr_add, Nat.zero_add] at hc
    refine ⟨g, rfl, ⟨_, hc⟩, ?_⟩
    simp [World.frozen?, hh]
theorem WrC.set {w : World} {a : Option Addr} {n : Nat} (h : WrC w a n) (p : Addr) (u : Value) : WrC (w.setCell p u) a n := by
  intro j hj
  obtain ⟨g, h1, ⟨z, h2⟩, h3⟩ := h j hj
  obtain ⟨z', h4⟩ := cell?_setCell_some (p := p) (x := u) h2
  exact ⟨g, h1, ⟨z', h4⟩, by rw [World.frozen?_setCell]; exact h3⟩
/-- a variable is laid, and holds zeros -/
def LdB (w0 : World) (x : Option Value) (w : World) : Prop := ∀ u, x = some u → ∃ g, u = .pointer (some ⟨g, 0, none⟩) ∧ w0.heap.size ≤ g ∧ Blk w g 30 #[.int .u64 0, .int .u64 0, .int .u64 0, .int .u64 0, .int .i64 0, .int .i64 0, .slice none 0 0]
theorem LdB.keep {w0 w w' : World} {x : Option Value} (h : LdB w0 x w) (hb : Below w.heap.size w w') : LdB w0 x w' := fun u hu => by
  obtain ⟨g, h1, h2, h3⟩ := h u hu
  exact ⟨g, h1, h2, h3.keep hb⟩
/-- the region 'q, f := R.Cut(guids[0], guids[1], made(l), from)' -/
def JC (w0 : World) (M : List Cg) (q : Prt) (E : Int) : List Value → Option Value → World → Prop
  | [], x, w => Below w0.heap.size w0 w ∧ LdB w0 x w
  | [u], x, w => Below w0.heap.size w0 w ∧ LdB w0 x w ∧ OwC w w0.heap.size u M
  | [_, t], x, w => Below w0.heap.size w0 w ∧ LdB w0 x w ∧ ∃ a n c, t = .tuple #[.agg #[.int .u64 q.b.1, .int .u64 q.b.2, .int .u64 q.t.1, .int .u64 q.t.2, .int .i64 q.f, .int .i64 q.a, .slice a n c], .int .i64 E] ∧ InPr w (.agg #[.int .u64 q.b.1, .int .u64 q.b.2, .int .u64 q.t.1, .int .u64 q.t.2, .int .i64 q.f, .int .i64 q.a, .slice a n c]) q
  | [_, _, _], x, w => Below w0.heap.size w0 w ∧ ∃ g, x = some (.pointer (some ⟨g, 0, none⟩)) ∧ PtG w g q
  | _, _, _ => False
theorem OwC.kp2 {w w' : World} {base : Nat} {v : Value} {cs : List Cg} (h : OwC w base v cs) (hb : Below w.heap.size w w') : OwC w' base v cs := h.keep hb
set_option maxRecDepth 100000 in
set_option maxHeartbeats 4000000 in
theorem law_StreamCuts (v0 : Value) (gg : Gd × Gd) (v : Value) (ms : List Mk) (f : Int) (w : World) (hv0 : v0 = .agg #[.int .u64 gg.1.1, .int .u64 gg.1.2, .int .u64 gg.2.1, .int .u64 gg.2.2]) (hgw : wfG gg.1 ∧ wfG gg.2) (hm : InM w v ms) (_ : True) (_ : (Lit.int .i64 f).wf = true) :
    Calls Try.prog 3 #[v0, v, .int .i64 f] w fun e w' => e = .returned (.bool true) ∧ Below w.heap.size w w' := by
  subst hv0
  obtain ⟨g0, g1⟩ := gg
  dsimp only at *
  obtain ⟨q, hq⟩ : ∃ p, cutP g0 g1 (madeP ms) f = p := ⟨_, rfl⟩
  obtain ⟨E, hE⟩ : ∃ z, cutE g0 g1 (madeP ms) f = z := ⟨_, rfl⟩
  have hM30 : (madeP ms).length ≤ 30 := by
    unfold madeP
    rw [List.length_map, List.length_take]
    omega
  have HQ := Lib.hid (fun w base u (h : OwC w base u (madeP ms)) => cut_any w g0 g1 u (madeP ms) f h.rdc hgw)
  have HR := Lib.hid (fun w base u (h : OwC w base u (madeP ms)) => cutR_any w g0 g1 u (madeP ms) f h.rdc hgw)
  rw [hq, hE] at HQ HR
  have HMA := Lib.hid (fun w' (h : Below w.heap.size w w') => made_any w' v ms (hm.keep h))
  obtain ⟨M, hMM⟩ : ∃ M, madeP ms = M := ⟨_, rfl⟩
  rw [hMM] at HQ HR HMA hM30
  obtain ⟨a0, c0, rfl, -⟩ := hm
  have HM30 := Lib.hid hM30
  have hb0 := (Below.refl w.heap.size w).alloc (Nat.le_refl _) (Obj.cells #[.int .u64 g0.1, .int .u64 g0.2, .int .u64 g1.1, .int .u64 g1.2] 25)
  have h1 := Blk.new w 25 #[.int .u64 g0.1, .int .u64 g0.2, .int .u64 g1.1, .int .u64 g1.2]
  clear hq hE hgw hMM hM30
  go_enter Try.func3, Try.ntmps3
  go_wp2_with fail
  generalize w.alloc (Obj.cells #[.int .u64 g0.1, .int .u64 g0.2, .int .u64 g1.1, .int .u64 g1.2] 25) = w1 at *
  have HB := Lib.hid hb0
  have HG := Lib.hid h1
  clear hb0 h1
  refine (HMA.out _ HB.out).mono ?_
  rintro e w2 ⟨ua, rfl, ho, hb⟩
  replace HB := Lib.hid (HB.out.trans (hb.mono HB.out.size))
  replace HG := Lib.hid (HG.out.keep hb)
  have HAL := Lib.hid ho
  clear hb ho
  have x0 := HG.out.cell 0
  have x1 := HG.out.cell 1
  have x2 := HG.out.cell 2
  have x3 := HG.out.cell 3
  simp at x0 x1 x2 x3
  go_wp2_with fail
  clear x0 x1 x2 x3
  refine (HQ.out w2 _ _ HAL.out).mono ?_
  rintro e w3 hc
  obtain ⟨ap, np, cp, rfl, hpr, hb⟩ := hc.pz
  go_wp2_with fail
  have hb2 := (Below.refl w3.heap.size w3).alloc (Nat.le_refl _) (Obj.cells #[.int .u64 q.b.1, .int .u64 q.b.2, .int .u64 q.t.1, .int .u64 q.t.2, .int .i64 q.f, .int .i64 q.a, .slice ap np cp] 30)
  have hk := Blk.new w3 30 #[.int .u64 q.b.1, .int .u64 q.b.2, .int .u64 q.t.1, .int .u64 q.t.2, .int .i64 q.f, .int .i64 q.a, .slice ap np cp]
  have hpo := hpr.keep hb2
  generalize hgp : w3.heap.size = gp at *
  generalize w3.alloc (Obj.cells #[.int .u64 q.b.1, .int .u64 q.b.2, .int .u64 q.t.1, .int .u64 q.t.2, .int .i64 q.f, .int .i64 q.a, .slice ap np cp] 30) = w4 at *
  have HPB := Lib.hid hk
  have HPO := Lib.hid hpo
  have HAB := Lib.hid (show Below w2.heap.size w2 w4 from hb.trans (hb2.mono (by rw [← hgp]; exact hb.size)))
  have HPL := Lib.hid (show (∀ b, Value.ownBlock (.slice ap np cp) = some b → b ≠ gp) from by
    obtain ⟨sv, he, hso, -⟩ := hpr
    unfold prV at he
    simp only [Value.agg.injEq, Array.mk.injEq, List.cons.injEq] at he
    rw [← he.2.2.2.2.2.2.1] at hso
    intro b hb
    have := hso.1.lt b hb
    omega)
  clear hc hpr hb hb2 hk hpo hgp
  have HG4 := Lib.hid (HG.out.keep HAB.out)
  clear HG
  refine wp_region_chainF [5, 7, 12] 11 (kv [(7, .ex (fun u => ∃ a n c, u = .tuple #[.agg #[.int .u64 q.b.1, .int .u64 q.b.2, .int .u64 q.t.1, .int .u64 q.t.2, .int .i64 q.f, .int .i64 q.a, .slice a n c], .int .i64 E]) ⟨_, none, 0, 0, rfl⟩), (11, .ex (fun u => ∃ g, u = .pointer (some ⟨g, 0, none⟩)) ⟨_, 0, rfl⟩), (12, .is undef)]) (JC w4 M q E) (by kernel_rfl) (by kernel_rfl) (by kernel_rfl) (kv_inh _) (⟨Below.drew (Below.refl _ _), fun u hu => by cases hu⟩) ?_
  intro ν hν
  obtain ⟨u5, n5⟩ : ∃ u, ν 5 = u := ⟨_, rfl⟩
  obtain ⟨a7, m7, c7, n7⟩ : ∃ a n c, ν 7 = .tuple #[.agg #[.int .u64 q.b.1, .int .u64 q.b.2, .int .u64 q.t.1, .int .u64 q.t.2, .int .i64 q.f, .int .i64 q.a, .slice a n c], .int .i64 E] := hν 7
  obtain ⟨gx, n11⟩ : ∃ g, ν 11 = .pointer (some ⟨g, 0, none⟩) := hν 11
  have n12 : ν 12 = undef := hν 12
  clear hν
  refine chf_plain 0 3 1 (by rfl) rfl (by kernel_rfl) (by kernel_rfl) ?_
  apply Exists.intro
  refine ⟨fun st x w2 hlo hhi hx hJ => ?_, ?_⟩
  · clear hlo hhi hx hJ
    go_simp
    exact And.intro rfl rfl
  simp only [Act.put, List.setIfInBounds_toArray, List.set_cons_succ, List.set_cons_zero, Nat.reduceAdd]
  refine chf_plain 0 1 1 (by rfl) rfl (by kernel_rfl) (by kernel_rfl) ?_
  apply Exists.intro
  refine ⟨fun st x w2 hlo hhi hx hJ => ?_, ?_⟩
  · have hj : Below w4.heap.size w4 w2 := by
      obtain rfl | rfl : st = 0 ∨ st = 1 := by omega
      · have hj : Below w4.heap.size w4 w2 ∧ _ := hJ
        exact hj.1
      · have hj : Below w4.heap.size w4 w2 ∧ _ := hJ
        exact hj.1
    have hg := HG4.out.keep hj
    have h0 := hg.cell 0
    have h1 := hg.cell 1
    have h2 := hg.cell 2
    have h3 := hg.cell 3
    simp at h0 h1 h2 h3
    clear hg hj
    clear hlo hhi hx hJ
    go_simp
    exact And.intro rfl rfl
  simp only [Act.put, List.setIfInBounds_toArray, List.set_cons_succ, List.set_cons_zero, Nat.reduceAdd]
  refine chf_plain 0 3 1 (by rfl) rfl (by kernel_rfl) (by kernel_rfl) ?_
  apply Exists.intro
  refine ⟨fun st x w2 hlo hhi hx hJ => ?_, ?_⟩
  · clear hlo hhi hx hJ
    go_simp
    exact And.intro rfl rfl
  simp only [Act.put, List.setIfInBounds_toArray, List.set_cons_succ, List.set_cons_zero, Nat.reduceAdd]
  refine chf_plain 0 1 1 (by rfl) rfl (by kernel_rfl) (by kernel_rfl) ?_
  apply Exists.intro
  refine ⟨fun st x w2 hlo hhi hx hJ => ?_, ?_⟩
  · have hj : Below w4.heap.size w4 w2 := by
      obtain rfl | rfl : st = 0 ∨ st = 1 := by omega
      · have hj : Below w4.heap.size w4 w2 ∧ _ := hJ
        exact hj.1
      · have hj : Below w4.heap.size w4 w2 ∧ _ := hJ
        exact hj.1
    have hg := HG4.out.keep hj
    have h0 := hg.cell 0
    have h1 := hg.cell 1
    have h2 := hg.cell 2
    have h3 := hg.cell 3
    simp at h0 h1 h2 h3
    clear hg hj
    clear hlo hhi hx hJ
    go_simp
    exact And.intro rfl rfl
  simp only [Act.put, List.setIfInBounds_toArray, List.set_cons_succ, List.set_cons_zero, Nat.reduceAdd]
  refine chf_plain 0 3 1 (by rfl) rfl (by kernel_rfl) (by kernel_rfl) ?_
  apply Exists.intro
  refine ⟨fun st x w2 hlo hhi hx hJ => ?_, ?_⟩
  · clear hlo hhi hx hJ
    go_simp
    exact And.intro rfl rfl
  simp only [Act.put, List.setIfInBounds_toArray, List.set_cons_succ, List.set_cons_zero, Nat.reduceAdd]
  refine chf_special 0 1 false (by rfl) rfl (by decide) (by kernel_rfl) (by kernel_rfl) (fun x w2 hx hdep hJ => ?_) ?_
  · have hj : Below w4.heap.size w4 w2 ∧ LdB w4 x w2 := hJ
    go_simp
    refine (HMA.out w2 (HB.out.trans ((HAB.out.trans (hj.1.mono HAB.out.size)).mono HB.out.size))).mono ?_
    rintro e w5 ⟨u, rfl, ho, hb⟩
    exact ⟨_, rfl, trivial, hj.1.trans (hb.mono hj.1.size), hj.2.keep hb, ho.mono hj.1.size⟩
  rw [n5]
  simp only [Act.put, List.setIfInBounds_toArray, List.set_cons_succ, List.set_cons_zero, Nat.reduceAdd]
  refine chf_plain 0 3 1 (by rfl) rfl (by kernel_rfl) (by kernel_rfl) ?_
  apply Exists.intro
  refine ⟨fun st x w2 hlo hhi hx hJ => ?_, ?_⟩
  · clear hlo hhi hx hJ
    go_simp
    exact And.intro rfl rfl
  simp only [Act.put, List.setIfInBounds_toArray, List.set_cons_succ, List.set_cons_zero, Nat.reduceAdd]
  refine chf_special 1 1 false (by rfl) rfl (by decide) (by kernel_rfl) (by kernel_rfl) (fun x w2 hx hdep hJ => ?_) ?_
  · have hj : Below w4.heap.size w4 w2 ∧ LdB w4 x w2 ∧ OwC w2 w4.heap.size (ν 5) M := hJ
    rw [n5] at hj
    go_simp
    refine (HR.out w2 _ _ hj.2.2).mono ?_
    rintro e w5 hc
    obtain ⟨a, n, c, rfl, hp, hb⟩ := hc.pz
    exact ⟨_, rfl, ⟨_, _, _, rfl⟩, hj.1.trans (hb.mono hj.1.size), hj.2.1.keep hb, _, _, _, rfl, hp.inp⟩
  rw [n7]
  simp only [Act.put, List.setIfInBounds_toArray, List.set_cons_succ, List.set_cons_zero, Nat.reduceAdd]
  refine chf_plain 0 3 1 (by rfl) rfl (by kernel_rfl) (by kernel_rfl) ?_
  apply Exists.intro
  refine ⟨fun st x w2 hlo hhi hx hJ => ?_, ?_⟩
  · clear hlo hhi hx hJ
    go_simp
    exact And.intro rfl rfl
  simp only [Act.put, List.setIfInBounds_toArray, List.set_cons_succ, List.set_cons_zero, Nat.reduceAdd]
  refine chf_plain 0 3 1 (by rfl) rfl (by kernel_rfl) (by kernel_rfl) ?_
  apply Exists.intro
  refine ⟨fun st x w2 hlo hhi hx hJ => ?_, ?_⟩
  · clear hlo hhi hx hJ
    go_simp
    exact And.intro rfl rfl
  simp only [Act.put, List.setIfInBounds_toArray, List.set_cons_succ, List.set_cons_zero, Nat.reduceAdd]
  refine chf_plain 0 3 1 (by rfl) rfl (by kernel_rfl) (by kernel_rfl) ?_
  apply Exists.intro
  refine ⟨fun st x w2 hlo hhi hx hJ => ?_, ?_⟩
  · clear hlo hhi hx hJ
    go_simp
    exact And.intro rfl rfl
  simp only [Act.put, List.setIfInBounds_toArray, List.set_cons_succ, List.set_cons_zero, Nat.reduceAdd]
  refine chf_free 0 2 1 (by rfl) (by decide) rfl (by kernel_rfl) (by kernel_rfl) (fun st w2 hlo hhi hJ => ?_) ?_
  · go_simp
    have hbb := (Below.refl w2.heap.size w2).alloc (Nat.le_refl _) (Obj.cells #[.int .u64 0, .int .u64 0, .int .u64 0, .int .u64 0, .int .i64 0, .int .i64 0, .slice none 0 0] 30)
    refine ⟨⟨_, rfl⟩, ?_⟩
    have hld : ∀ hw : w4.heap.size ≤ w2.heap.size, LdB w4 (some (.pointer (some ⟨w2.heap.size, 0, none⟩))) (w2.alloc (Obj.cells #[.int .u64 0, .int .u64 0, .int .u64 0, .int .u64 0, .int .i64 0, .int .i64 0, .slice none 0 0] 30)) := fun hw u hu => by
      obtain rfl := Option.some.inj hu
      exact ⟨_, rfl, hw, Blk.new _ _ _⟩
    obtain rfl | rfl | rfl : st = 0 ∨ st = 1 ∨ st = 2 := by omega
    · have hj : Below w4.heap.size w4 w2 ∧ _ := hJ
      exact ⟨hj.1.alloc hj.1.size _, hld hj.1.size⟩
    · have hj : Below w4.heap.size w4 w2 ∧ LdB w4 none w2 ∧ OwC w2 w4.heap.size (ν 5) M := hJ
      rw [n5] at hj
      exact ⟨hj.1.alloc hj.1.size _, hld hj.1.size, hj.2.2.keep hbb⟩
    · have hj : Below w4.heap.size w4 w2 ∧ LdB w4 none w2 ∧ ∃ a n c, ν 7 = .tuple #[.agg #[.int .u64 q.b.1, .int .u64 q.b.2, .int .u64 q.t.1, .int .u64 q.t.2, .int .i64 q.f, .int .i64 q.a, .slice a n c], .int .i64 E] ∧ InPr w2 (.agg #[.int .u64 q.b.1, .int .u64 q.b.2, .int .u64 q.t.1, .int .u64 q.t.2, .int .i64 q.f, .int .i64 q.a, .slice a n c]) q := hJ
      obtain ⟨h1, -, a, n, c, h2, h3⟩ := hj
      rw [n7] at h2
      exact ⟨h1.alloc h1.size _, hld h1.size, a, n, c, h2, h3.keep hbb⟩
  rw [n11]
  simp only [Act.put, List.setIfInBounds_toArray, List.set_cons_succ, List.set_cons_zero, Nat.reduceAdd]
  refine chf_special 2 1 true (by rfl) rfl (by decide) (by kernel_rfl) (by kernel_rfl) (fun x w2 hx hdep hJ => ?_) ?_
  · have hj : Below w4.heap.size w4 w2 ∧ LdB w4 x w2 ∧ ∃ a n c, ν 7 = .tuple #[.agg #[.int .u64 q.b.1, .int .u64 q.b.2, .int .u64 q.t.1, .int .u64 q.t.2, .int .i64 q.f, .int .i64 q.a, .slice a n c], .int .i64 E] ∧ InPr w2 (.agg #[.int .u64 q.b.1, .int .u64 q.b.2, .int .u64 q.t.1, .int .u64 q.t.2, .int .i64 q.f, .int .i64 q.a, .slice a n c]) q := hJ
    have hxx := hdep rfl
    rw [n7] at hj
    rw [n11] at hxx
    obtain ⟨h6, hl, a, n, c, h1, h2⟩ := hj
    obtain ⟨g, h3, h4, h5⟩ := hl _ hxx
    simp only [Value.tuple.injEq, Array.mk.injEq, List.cons.injEq, and_true, Value.agg.injEq, true_and, Value.slice.injEq] at h1
    simp only [Value.pointer.injEq, Option.some.injEq, Addr.mk.injEq, and_true] at h3
    obtain ⟨rfl, rfl, rfl⟩ := h1
    subst h3
    rw [exec_store_mid 30 (.tmp 10) (.tmp 36) rfl gx 0 #[.int .u64 q.b.1, .int .u64 q.b.2, .int .u64 q.t.1, .int .u64 q.t.2, .int .i64 q.f, .int .i64 q.a, .slice a7 m7 c7] rfl rfl (h5.there (by show 0 + 7 ≤ 7; decide)) part_size (part_one _ _ _ _ _ _ _ _ _)]
    refine ⟨rfl, ?_⟩
    have hbk := blk_setCells #[.int .u64 q.b.1, .int .u64 q.b.2, .int .u64 q.t.1, .int .u64 q.t.2, .int .i64 q.f, .int .i64 q.a, .slice a7 m7 c7].toList 0 w2 _ h5
    have hkp := kp_setCells gx #[.int .u64 q.b.1, .int .u64 q.b.2, .int .u64 q.t.1, .int .u64 q.t.2, .int .i64 q.f, .int .i64 q.a, .slice a7 m7 c7].toList 0 w2
    have hne : InPr (w2.setCells gx 0 #[.int .u64 q.b.1, .int .u64 q.b.2, .int .u64 q.t.1, .int .u64 q.t.2, .int .i64 q.f, .int .i64 q.a, .slice a7 m7 c7].toList) (.agg #[.int .u64 q.b.1, .int .u64 q.b.2, .int .u64 q.t.1, .int .u64 q.t.2, .int .i64 q.f, .int .i64 q.a, .slice a7 m7 c7]) q := h2.zfar h5 hkp
    exact ⟨h6.trans (hkp.below (fun b hb => by omega) h6.size), gx, hxx, a7, m7, c7, hbk, hne⟩
  rw [n12]
  simp only [Act.put, Nat.reduceAdd]
  refine chf_plain 0 3 1 (by rfl) rfl (by kernel_rfl) (by kernel_rfl) ?_
  apply Exists.intro
  refine ⟨fun st x w2 hlo hhi hx hJ => ?_, ?_⟩
  · clear hlo hhi hx hJ
    go_simp
    exact And.intro rfl rfl
  simp only [Act.put, List.setIfInBounds_toArray, List.set_cons_succ, List.set_cons_zero, Nat.reduceAdd]
  refine chf_nil (fun w9 hJ => ?_)
  have hj : Below w4.heap.size w4 w9 ∧ ∃ g, some (Value.pointer (some ⟨gx, 0, none⟩)) = some (.pointer (some ⟨g, 0, none⟩)) ∧ PtG w9 g q := hJ
  clear n5
  have HX := Lib.hid (show PtG w9 gx q ∧ Below w4.heap.size w4 w9 from by
    obtain ⟨h3, g, h1, h2⟩ := hj
    simp only [Value.pointer.injEq, Option.some.injEq, Addr.mk.injEq, and_true] at h1
    subst h1
    exact ⟨h2, h3⟩)
  clear hj
  clear hJ n7 n11 n12
  obtain ⟨aq, nq, cq, hqb, hqi⟩ := HX.out.1
  replace HPB := Lib.hid (HPB.out.keep HX.out.2)
  replace HPO := Lib.hid (HPO.out.keep HX.out.2)
  replace HAB := Lib.hid (HAB.out.trans (HX.out.2.mono HAB.out.size))
  have y0 := hqb.cell 0
  have y1 := hqb.cell 1
  have y2 := hqb.cell 2
  have y3 := hqb.cell 3
  have y4 := hqb.cell 4
  have y5 := hqb.cell 5
  have y6 := hqb.cell 6
  have x0 := HPB.out.cell 0
  have x1 := HPB.out.cell 1
  have x2 := HPB.out.cell 2
  have x3 := HPB.out.cell 3
  have x4 := HPB.out.cell 4
  have x5 := HPB.out.cell 5
  have x6 := HPB.out.cell 6
  simp at x0 x1 x2 x3 x4 x5 x6 y0 y1 y2 y3 y4 y5 y6
  have HQI := Lib.hid hqi
  clear hqb hqi HX
  go_wp2_with fail
  refine (sameRZ _ HPO.out.inp HQI.out).mono ?_
  rintro e w10 ⟨rfl, hb⟩
  replace HPB := Lib.hid (HPB.out.keep hb)
  replace HPO := Lib.hid (HPO.out.keep hb)
  replace HAB := Lib.hid (HAB.out.trans (hb.mono HAB.out.size))
  clear hb x0 x1 x2 x3 x4 x5 x6 y0 y1 y2 y3 y4 y5 y6 HQI
  go_wp2_with fail
  have HWR := Lib.hid (show WrC w10 ap np ∧ np ≤ maxLen from by
    obtain ⟨sv, he, hso, -⟩ := HPO.out
    unfold prV at he
    simp only [Value.agg.injEq, Array.mk.injEq, List.cons.injEq] at he
    rw [← he.2.2.2.2.2.2.1] at hso
    refine ⟨hso.wr, ?_⟩
    obtain ⟨a', c', e', h1, -⟩ := hso.rd
    simp only [Value.slice.injEq] at e'
    rw [e'.2.1]
    exact h1)
  have HPW := Lib.hid (show ∀ b, Value.ownBlock (.slice ap np cp) = some b → w2.heap.size ≤ b from by
    obtain ⟨sv, he, hso, -⟩ := HPO.out
    unfold prV at he
    simp only [Value.agg.injEq, Array.mk.injEq, List.cons.injEq] at he
    rw [← he.2.2.2.2.2.2.1] at hso
    intro b hb
    exact (hso.1.lt b hb).1)
  clear HPO
  go_loopw [12] (fun i wr => ∃ k : Nat, k ≤ np ∧ i = .int .i64 k ∧ WrC wr ap np ∧ Blk wr gp 30 #[.int .u64 q.b.1, .int .u64 q.b.2, .int .u64 q.t.1, .int .u64 q.t.2, .int .i64 q.f, .int .i64 q.a, .slice ap np cp] ∧ Below w2.heap.size w2 wr) (fun i _ => np - (intOf i).toNat)
  case atStart => exact ⟨0, Nat.zero_le _, rfl, HWR.out.1, HPB.out, HAB.out⟩
  case round =>
    obtain ⟨k, hk, rfl, hw, hp, hb⟩ := hrel
    have HW := Lib.hid hw
    have HP := Lib.hid hp
    have HBB := Lib.hid hb
    have x6 := hp.cell 6
    simp at x6
    clear hw hp hb
    by_cases hkn : k < np
    · obtain ⟨g, rfl, ⟨z, hz⟩, hf⟩ := HW.out k hkn
      have i1 : (k : Int) < (np : Int) := by omega
      have HKN := Lib.hid hkn
      have I3 := Lib.hid (wrap_succ hkn HWR.out.2)
      have HF := Lib.hid (show WrC (wr.setCell ⟨g, k * 2, none⟩ (.int .i64 77)) (some ⟨g, 0, none⟩) np ∧ Blk (wr.setCell ⟨g, k * 2, none⟩ (.int .i64 77)) gp 30 #[.int .u64 q.b.1, .int .u64 q.b.2, .int .u64 q.t.1, .int .u64 q.t.2, .int .i64 q.f, .int .i64 q.a, .slice (some ⟨g, 0, none⟩) np cp] ∧ Below w2.heap.size w2 (wr.setCell ⟨g, k * 2, none⟩ (.int .i64 77)) from
        ⟨HW.out.set _ _, HP.out.far (p := ⟨g, k * 2, none⟩) (fun e => HPL.out g rfl e.symm) _, HBB.out.setCell (p := ⟨g, k * 2, none⟩) (HPW.out g rfl) _⟩)
      clear hk
      go_wp2
      rw [I3.out]
      clear i1
      exact ⟨⟨k + 1, HKN.out, rfl, HF.out.1, HF.out.2.1, HF.out.2.2⟩, meas_succ HKN.out⟩
    · obtain rfl : k = np := by omega
      have i1 : ¬ ((k : Int) < (k : Int)) := by omega
      have HBW := Lib.hid (HB.out.trans (HBB.out.mono HB.out.size))
      have HA2 := Lib.hid (HAL.out.keep HBB.out)
      clear hkn hk
      go_wp2_with fail
      clear x6 i1
      refine (HMA.out _ HBW.out).mono ?_
      rintro e w12 ⟨ub, rfl, ho, hb⟩
      obtain ⟨aa, ca, rfl, -, hxa⟩ := (HA2.out.keep hb).rd
      obtain ⟨ab, cb, rfl, -, hxb⟩ := ho.rd
      have HXA := Lib.hid hxa
      have HXB := Lib.hid hxb
      have HBX := Lib.hid (HBW.out.trans (hb.mono HBW.out.size))
      clear ho hb hxa hxb HA2 HBW
      generalize hZ : (fun j => M.getD j (0, ByteArray.empty)) = Z at *
      have hZj : ∀ j, M.getD j (0, ByteArray.empty) = Z j := fun j => by rw [← hZ]
      simp only [hZj] at HXA HXB
      generalize M.length = n at *
      clear hZ hZj
      go_wp2_with fail
      go_loopw [14] (fun i wr => ∃ k : Nat, k ≤ n ∧ i = .int .i64 k ∧ Below w12.heap.size w12 wr) (fun i _ => n - (intOf i).toNat)
      case atStart => exact ⟨0, Nat.zero_le _, rfl, Below.refl _ _⟩
      case round =>
        obtain ⟨j, hj, rfl, hb⟩ := hrel
        have HBJ := Lib.hid hb
        clear hb
        by_cases hjn : j < n
        · obtain ⟨ga, oa, rfl, hca0, hca1⟩ := HXA.out j hjn
          obtain ⟨gb, ob, rfl, hcb0, hcb1⟩ := HXB.out j hjn
          generalize Z j = zj at *
          obtain ⟨xb, xd⟩ := zj
          dsimp only at hca0 hca1 hcb0 hcb1
          have HCC := Lib.hid (And.intro (And.intro hca0 hca1) (And.intro hcb0 hcb1))
          have HJN := Lib.hid hjn
          have i1 : (j : Int) < (n : Int) := by omega
          have I3 := Lib.hid (show wrap64 ((j : Int) + 1) = (j : Int) + 1 from by have h2 := HM30.out; exact IntWalk.wrap64_in _ (by omega))
          clear hca0 hca1 hcb0 hcb1 hj
          go_wp2_with fail
          clear i1
          refine wp_region_chain [] (kv []) (fun _ w => Below wr.heap.size wr w) (by kernel_rfl) (by kernel_rfl) (by kernel_rfl) (kv_inh _) (Below.drew (Below.refl _ _)) ?_
          intro ν hν
          clear hν
          refine ch_plain 0 0 1 (by rfl) rfl (by kernel_rfl) (by kernel_rfl) ?_
          apply Exists.intro
          refine ⟨fun st w2 hlo hhi hJ => ?_, ?_⟩
          · clear hlo hhi hJ
            go_simp
            exact And.intro rfl rfl
          simp only [Act.put, List.setIfInBounds_toArray, List.set_cons_succ, List.set_cons_zero, Nat.reduceAdd]
          refine ch_plain 0 0 1 (by rfl) rfl (by kernel_rfl) (by kernel_rfl) ?_
          apply Exists.intro
          refine ⟨fun st w2 hlo hhi hJ => ?_, ?_⟩
          · clear hlo hhi hJ
            go_simp
            exact And.intro rfl rfl
          simp only [Act.put, List.setIfInBounds_toArray, List.set_cons_succ, List.set_cons_zero, Nat.reduceAdd]
          refine ch_plain 0 0 1 (by rfl) rfl (by kernel_rfl) (by kernel_rfl) ?_
          apply Exists.intro
          refine ⟨fun st w2 hlo hhi hJ => ?_, ?_⟩
          · have hjn := HJN.out
            clear hlo hhi hJ
            go_simp
            exact And.intro rfl rfl
          simp only [Act.put, List.setIfInBounds_toArray, List.set_cons_succ, List.set_cons_zero, Nat.reduceAdd]
          refine ch_plain 0 0 1 (by rfl) rfl (by kernel_rfl) (by kernel_rfl) ?_
          apply Exists.intro
          refine ⟨fun st w2 hlo hhi hJ => ?_, ?_⟩
          · replace hJ : Below wr.heap.size wr w2 := hJ
            have h0 := cell_later (HBJ.out.trans (hJ.mono HBJ.out.size)) HCC.out.1.1
            have h1 := cell_later (HBJ.out.trans (hJ.mono HBJ.out.size)) HCC.out.1.2
            clear hlo hhi hJ
            go_simp
            exact And.intro rfl rfl
          simp only [Act.put, List.setIfInBounds_toArray, List.set_cons_succ, List.set_cons_zero, Nat.reduceAdd]
          refine ch_plain 0 0 1 (by rfl) rfl (by kernel_rfl) (by kernel_rfl) ?_
          apply Exists.intro
          refine ⟨fun st w2 hlo hhi hJ => ?_, ?_⟩
          · clear hlo hhi hJ
            go_simp
            exact And.intro rfl rfl
          simp only [Act.put, List.setIfInBounds_toArray, List.set_cons_succ, List.set_cons_zero, Nat.reduceAdd]
          refine ch_plain 0 0 1 (by rfl) rfl (by kernel_rfl) (by kernel_rfl) ?_
          apply Exists.intro
          refine ⟨fun st w2 hlo hhi hJ => ?_, ?_⟩
          · clear hlo hhi hJ
            go_simp
            exact And.intro rfl rfl
          simp only [Act.put, List.setIfInBounds_toArray, List.set_cons_succ, List.set_cons_zero, Nat.reduceAdd]
          refine ch_plain 0 0 1 (by rfl) rfl (by kernel_rfl) (by kernel_rfl) ?_
          apply Exists.intro
          refine ⟨fun st w2 hlo hhi hJ => ?_, ?_⟩
          · have hjn := HJN.out
            clear hlo hhi hJ
            go_simp
            exact And.intro rfl rfl
          simp only [Act.put, List.setIfInBounds_toArray, List.set_cons_succ, List.set_cons_zero, Nat.reduceAdd]
          refine ch_plain 0 0 1 (by rfl) rfl (by kernel_rfl) (by kernel_rfl) ?_
          apply Exists.intro
          refine ⟨fun st w2 hlo hhi hJ => ?_, ?_⟩
          · replace hJ : Below wr.heap.size wr w2 := hJ
            have h0 := cell_later (HBJ.out.trans (hJ.mono HBJ.out.size)) HCC.out.2.1
            have h1 := cell_later (HBJ.out.trans (hJ.mono HBJ.out.size)) HCC.out.2.2
            clear hlo hhi hJ
            go_simp
            exact And.intro rfl rfl
          simp only [Act.put, List.setIfInBounds_toArray, List.set_cons_succ, List.set_cons_zero, Nat.reduceAdd]
          refine ch_plain 0 0 1 (by rfl) rfl (by kernel_rfl) (by kernel_rfl) ?_
          apply Exists.intro
          refine ⟨fun st w2 hlo hhi hJ => ?_, ?_⟩
          · rw [exec_neq 36 36 (.tmp 70) (.tmp 74) rfl #[.int .i64 xb, .string xd] #[.int .i64 xb, .string xd] _ rfl rfl (by kernel_rfl) (run_neq_same xb xd w2)]
            exact And.intro rfl rfl
          simp only [Act.put, Nat.reduceAdd]
          refine ch_nil (fun w5 hJ => ?_)
          have HB5 := Lib.hid (show Below wr.heap.size wr w5 from hJ)
          clear hJ
          go_wp2
          rw [I3.out]
          exact ⟨⟨j + 1, HJN.out, rfl, HBJ.out.trans (HB5.out.mono HBJ.out.size)⟩, meas_succ HJN.out⟩
        · obtain rfl : j = n := by omega
          have i1 : ¬ ((j : Int) < (j : Int)) := by omega
          have HBY := Lib.hid (HBX.out.trans (HBJ.out.mono HBX.out.size))
          clear hjn hj
          go_wp2_with fail
          refine (works_any _).mono ?_
          rintro e w14 ⟨rfl, hb⟩
          have HBZ := Lib.hid (HBY.out.trans (hb.mono HBY.out.size))
          clear hb
          go_wp2
          go_ret
          exact ⟨rfl, HBZ.out⟩
end Go.Proofs.Ytpfdpodelkleiaa
