/-
  MESSAGES: may its fields be (printed by wip/gen-msgr.py).
-/
import Derived.Test.YtikimmhkfjaijaaMsQ
namespace Go.Proofs.Ytikimmhkfjaijaa
open Go.RowKit Reg Go.ChangeShapes

/-- an operation that is wanted, guarded or not -/
theorem wpList_wanted_run {P : Program} {w w' : World} {ops : Array Oper} {rest : List Oper} {o : Oper} {a : Act} {Q : Exit → Act → World → Prop} (hw : Region.wanted o (yielded ops a.tmps) = true) (v : Value) (hrun : (execOp a.eval o).run P w = .ok (.value v) w')
    (h : wpList P ops Q rest (a.put o.dst v) w') : wpList P ops Q (o :: rest) a w := by
  unfold wpList
  rw [if_pos hw]
  left
  unfold Oper.wp
  rw [hrun]
  exact h
theorem exec_load_blk {P : Program} {w : World} {o : Oper} {a : Act} (ty : TypeId) (x : Operand) (ho : o.op = .load ty x) (b : Nat) (hx : a.eval x = .pointer (some ⟨b, 0, none⟩)) {t : TypeId} {cs : Array Value} (d : TypeDesc) (hb : Blk w b t cs)
    (hu : P.underlying ty = some d) (hd : d.isRow = true) (hi : (P.info? ty).map (·.size) = some cs.size) : (execOp a.eval o).run P w = .ok (.value (.agg cs)) w := by
  have h := exec_load_mid ty x ho b 0 hx cs.toList d hb.rng hu hd (by simpa using hi)
  rw [Array.toArray_toList] at h
  exact h
/-- may a message's entries be? -/
def entB (m : Ms) : Bool := decide (m.es.length ≤ 8) && (decide (m.P + m.es.length ≤ 300) && (decide (logC m.es = 0) && (decide (m.es.length = 0) || (decide (m.PT ≤ (m.es.getD 0 en0).T) && decide ((m.es.getD (m.es.length - 1) en0).T ≤ m.T)))))
/-- a message's block, and its cells -/
theorem ms_cells {w : World} {v : Value} {m : Ms} (h : InMs w v m) : ∃ (ma : Array Value) (a1 a2 a3 : Option Addr) (c1 c2 c3 : Nat), v = .agg ma ∧ (ma.all fun x => x.oneCell') = true ∧ (Try.prog.info? 33).map (·.size) = some ma.size ∧ ma = msA m (.slice a1 m.es.length c1) (.slice a2 m.l.l.length c2) (.slice a3 m.p.cs.length c3) ∧
    InE w (.slice a1 m.es.length c1) m.es ∧ InG w (.slice a2 m.l.l.length c2) m.l.l ∧ InC w (.slice a3 m.p.cs.length c3) m.p.cs ∧ wfM m := by
  obtain ⟨se, sl, sc, rfl, hx1, hx2, hx3, hx4⟩ := h
  obtain ⟨a1, c1, e1⟩ := hx1.slice_
  obtain ⟨a2, c2, e2⟩ := hx2.slice_
  obtain ⟨a3, c3, e3⟩ := hx3.slice_
  subst e1; subst e2; subst e3
  exact ⟨_, _, _, _, _, _, _, rfl, msA_one _ _ _ _ _ _ _ _ _ _, msg_size _ _ _ _, rfl, hx1, hx2, hx3, hx4⟩
set_option maxRecDepth 100000 in
set_option maxHeartbeats 4000000 in
theorem entries_any (w : World) (v : Value) (m : Ms) (hv : InMs w v m) (hP : 0 ≤ m.P ∧ m.P ≤ 300) : Calls Try.prog 33 #[v] w fun e w' => e = .returned (.bool (entB m)) ∧ Below w.heap.size w w' := by
  obtain ⟨ma, a1, a2, a3, c1, c2, c3, rfl, hone, hsz, hma, hE, -, -, -⟩ := ms_cells hv
  have hlc := fun w2 (h : Below w.heap.size w w2) => logcheck_any (.slice a1 m.es.length c1) m.es w2 (hE.keep h)
  obtain ⟨a, c, hac, -, hlen, hxx⟩ := hE.open_
  simp only [Value.slice.injEq, true_and] at hac
  obtain ⟨rfl, rfl⟩ := hac
  have hb := (Below.refl w.heap.size w).alloc (Nat.le_refl _) (Obj.cells ma 33)
  have hbk : Blk (w.alloc (.cells ma 33)) w.heap.size 33 (msA m (.slice a1 m.es.length c1) (.slice a2 m.l.l.length c2) (.slice a3 m.p.cs.length c3)) := by rw [hma]; exact Blk.new w _ _
  obtain ⟨res, hres⟩ : ∃ r, r = entB m := ⟨_, rfl⟩
  rw [← hres]
  unfold entB at hres
  have HB := Lib.hid hb
  have HBK := Lib.hid hbk
  have HLC := Lib.hid hlc
  have HX := Lib.hid hxx
  have HONE := Lib.hid hone
  have HSZ := Lib.hid hsz
  clear hma hv hone hsz hb hbk hlc hxx hE
  generalize hz : logC m.es = z at *
  clear hz
  generalize hZ : (fun j => (m.es.getD j en0)) = Z at *
  have g1 : ∀ j, m.es.getD j en0 = Z j := fun j => by subst hZ; rfl
  simp only [g1] at HX hres
  clear hZ g1
  obtain ⟨T, hT⟩ : ∃ T, T = m.T := ⟨_, rfl⟩
  obtain ⟨P, hPp⟩ : ∃ T, T = m.P := ⟨_, rfl⟩
  obtain ⟨PT, hPT⟩ : ∃ T, T = m.PT := ⟨_, rfl⟩
  obtain ⟨n, hn⟩ : ∃ n, n = m.es.length := ⟨_, rfl⟩
  rw [← hn] at HLC HX hlen HBK
  rw [← hT, ← hPp, ← hPT, ← hn] at hres
  rw [← hPp] at hP
  have p1 : (w.alloc (.cells ma 33)).cell? ⟨w.heap.size, 1, none⟩ = some (.int .u64 T) := by rw [HBK.out.cell, hT]; rfl
  have p2 : (w.alloc (.cells ma 33)).cell? ⟨w.heap.size, 2, none⟩ = some (.int .i64 P) := by rw [HBK.out.cell, hPp]; rfl
  have p3 : (w.alloc (.cells ma 33)).cell? ⟨w.heap.size, 3, none⟩ = some (.int .u64 PT) := by rw [HBK.out.cell, hPT]; rfl
  have p4 : (w.alloc (.cells ma 33)).cell? ⟨w.heap.size, 4, none⟩ = some (.slice a1 n c1) := by rw [HBK.out.cell]; rfl
  unfold maxLen at hlen
  have HTT := Lib.hid (And.intro hT (And.intro hPT hn))
  clear hT hPp hPT hn
  by_cases hn8 : n ≤ 8
  · rw [decide_eq_true hn8, Bool.true_and] at hres
    have w1 : wrap64 (P + (n : Int)) = P + (n : Int) := IntWalk.wrap64_in _ (by omega)
    have w2 : IntKind.i64.wrap (P + (n : Int)) = P + (n : Int) := by rw [IntKind.wrap_i64]; omega
    have i8 : ¬ (8 : Int) < (n : Int) := by omega
    by_cases h3 : P + (n : Int) ≤ 300
    · rw [decide_eq_true h3, Bool.true_and] at hres
      have i3 : ¬ (300 : Int) < P + (n : Int) := by omega
      by_cases hz : z = 0
      · subst hz
        rw [show decide ((0 : Int) = 0) = true from rfl, Bool.true_and] at hres
        have HRES := Lib.hid hres
        have HN8 := Lib.hid hn8
        clear hres hP h3 hlen hn8
        go_enter Try.func33, Try.ntmps33
        go_wp2_with fail
        refine (HLC.out _ HB.out).mono ?_
        rintro e w3 ⟨rfl, hb3⟩
        have y1 := cell_later hb3 p1
        have y3 := cell_later hb3 p3
        have y4 := cell_later hb3 p4
        have HB3 := Lib.hid (HB.out.trans (hb3.mono HB.out.size))
        clear hb3 p1 p2 p3 p4 i8 i3 w1 w2
        rcases Nat.eq_zero_or_pos n with hn0 | hp
        · subst hn0
          have hr := HRES.out
          rw [show decide ((0 : Nat) = 0) = true from rfl, Bool.true_or] at hr
          have HR := Lib.hid hr
          clear hr HRES
          go_wp2_with fail
          go_quiet (fail)
          go_wp2
          go_ret
          exact ⟨by rw [HR.out]; rfl, below_drewN HB3.out _⟩
        · obtain ⟨g, off, rfl, hc0, -, -, -⟩ := HX.out 0 hp
          obtain ⟨g', off', hgg, hc1, -, -, -⟩ := HX.out (n - 1) (by omega)
          simp only [Option.some.injEq, Addr.mk.injEq, and_true] at hgg
          obtain ⟨rfl, rfl⟩ := hgg
          have x0 := cell_later HB3.out hc0
          have x1 := cell_later HB3.out hc1
          have hr := HRES.out
          rw [decide_eq_false (Nat.ne_of_gt hp), Bool.false_or] at hr
          have i0 : ((n : Int) == 0) = false := by simp; omega
          have i1 : (0 : Int) < (n : Int) := by omega
          have i2 : 0 < n := hp
          obtain ⟨k, hk⟩ : ∃ k, k = n - 1 := ⟨_, rfl⟩
          rw [← hk] at x1 hr
          have hkn : n = k + 1 := by omega
          have i4 : IntKind.i64.wrap ((n : Int) - 1) = (k : Int) := by rw [hkn, IntKind.wrap_i64]; have := HN8.out; omega
          have i5 : (k : Int) < (n : Int) := by omega
          have HKN := Lib.hid hkn
          clear hc0 hc1 hk hkn hp HRES
          rw [Nat.zero_mul, Nat.add_zero] at x0
          generalize (Z 0).T = t0 at *
          generalize (Z k).T = t1 at *
          by_cases hA : PT ≤ t0
          · have d1 : decide (PT ≤ t0) = true := decide_eq_true hA
            rw [d1, Bool.true_and] at hr
            have HR := Lib.hid hr
            clear hr
            go_wp2_with fail
            go_quiet (fail)
            go_wp2
            go_ret
            exact ⟨by rw [HR.out]; rfl, below_drewN HB3.out _⟩
          · have d1 : decide (PT ≤ t0) = false := decide_eq_false hA
            rw [d1, Bool.false_and] at hr
            have HR := Lib.hid hr
            clear hr hA
            go_wp2_with fail
            go_quiet (fail)
            go_wp2
            go_ret
            exact ⟨by rw [HR.out]; rfl, below_drewN HB3.out _⟩
      · rw [decide_eq_false hz, Bool.false_and] at hres
        have iz : (z != 0) = true := by simpa using hz
        have HRES := Lib.hid hres
        clear hres hP h3 hlen hn8 hz
        go_enter Try.func33, Try.ntmps33
        go_wp2_with fail
        refine (HLC.out _ HB.out).mono ?_
        rintro e w3 ⟨rfl, hb3⟩
        have HB3 := Lib.hid (HB.out.trans (hb3.mono HB.out.size))
        clear hb3
        go_wp2
        go_ret
        exact ⟨by rw [HRES.out]; rfl, HB3.out⟩
    · rw [decide_eq_false h3, Bool.false_and] at hres
      have i3 : (300 : Int) < P + (n : Int) := by omega
      have HRES := Lib.hid hres
      clear hres hP h3 hlen hn8
      go_enter Try.func33, Try.ntmps33
      go_wp2
      go_ret
      exact ⟨by rw [HRES.out]; rfl, HB.out⟩
  · rw [decide_eq_false hn8, Bool.false_and] at hres
    have i8 : (8 : Int) < (n : Int) := by omega
    have HRES := Lib.hid hres
    clear hres hP hlen hn8
    go_enter Try.func33, Try.ntmps33
    go_wp2
    go_ret
    exact ⟨by rw [HRES.out]; rfl, HB.out⟩
/-- may a pull's fields be? -/
def pullB (m : Ms) : Bool := decide (0 ≤ m.n) && (decide (m.n ≤ 20) && (((m.la.1 == 0 && m.la.2 == 0) == (m.n == 0)) && (if (m.ta.1 == 0 && m.ta.2 == 0) = true then m.N == 0 else upG m.la m.ta && (decide (1 ≤ m.N) && decide (m.N ≤ 8)))))
set_option maxRecDepth 100000 in
set_option maxHeartbeats 4000000 in
theorem pull2_any (w : World) (v : Value) (m : Ms) (hv : InMs w v m) : Calls Try.prog 30 #[v] w fun e w' => e = .returned (.bool (pullB m)) ∧ Below w.heap.size w w' := by
  obtain ⟨ma, a1, a2, a3, c1, c2, c3, rfl, hone, hsz, hma, -, -, -, -⟩ := ms_cells hv
  have hb := ((Below.refl w.heap.size w).alloc (Nat.le_refl _) (Obj.cells ma 33)).alloc (by simp) (Obj.cells #[.int .u64 0, .int .u64 0] 28)
  have hbk : Blk ((w.alloc (.cells ma 33)).alloc (Obj.cells #[.int .u64 0, .int .u64 0] 28)) w.heap.size 33 (msA m (.slice a1 m.es.length c1) (.slice a2 m.l.l.length c2) (.slice a3 m.p.cs.length c3)) := by rw [hma]; exact (Blk.new w _ _).alloc _
  have hbg : Blk ((w.alloc (.cells ma 33)).alloc (Obj.cells #[.int .u64 0, .int .u64 0] 28)) (w.heap.size + 1) 28 #[.int .u64 0, .int .u64 0] := Blk.newAt (w := w.alloc (.cells ma 33)) _ _ (by simp)
  obtain ⟨res, hres⟩ : ∃ r, r = pullB m := ⟨_, rfl⟩
  rw [← hres]
  unfold pullB at hres
  have HB := Lib.hid hb
  have HBK := Lib.hid hbk
  have HBG := Lib.hid hbg
  have HONE := Lib.hid hone
  have HSZ := Lib.hid hsz
  clear hma hv hone hsz hb hbk hbg
  obtain ⟨⟨l1, l2⟩, hla⟩ : ∃ T, T = m.la := ⟨_, rfl⟩
  obtain ⟨⟨t1, t2⟩, hta⟩ : ∃ T, T = m.ta := ⟨_, rfl⟩
  obtain ⟨n, hn⟩ : ∃ n, n = m.n := ⟨_, rfl⟩
  obtain ⟨N, hN⟩ : ∃ n, n = m.N := ⟨_, rfl⟩
  rw [← hla, ← hta, ← hn, ← hN] at hres
  dsimp only at hres
  have hg1 := fun w => run_eq_guid l1 l2 0 0 w
  have hg2 := fun w => run_eq_guid t1 t2 0 0 w
  obtain ⟨ab, hab⟩ : ∃ b, (l1 == 0 && l2 == 0) = b := ⟨_, rfl⟩
  obtain ⟨tb, htb⟩ : ∃ b, (t1 == 0 && t2 == 0) = b := ⟨_, rfl⟩
  rw [hab, htb] at hres
  simp only [hab] at hg1
  simp only [htb] at hg2
  clear hab htb
  go_enter Try.func30, Try.ntmps30
  go_upto_region 2 with fail
  have p13 : ((w.alloc (.cells ma 33)).alloc (Obj.cells #[.int .u64 0, .int .u64 0] 28)).cell? ⟨w.heap.size, 13, none⟩ = some (.int .i64 n) := by rw [HBK.out.cell, hn]; rfl
  have p14 : ((w.alloc (.cells ma 33)).alloc (Obj.cells #[.int .u64 0, .int .u64 0] 28)).cell? ⟨w.heap.size, 14, none⟩ = some (.int .u64 l1) := by rw [HBK.out.cell, show l1 = m.la.1 by rw [← hla]]; rfl
  have p15 : ((w.alloc (.cells ma 33)).alloc (Obj.cells #[.int .u64 0, .int .u64 0] 28)).cell? ⟨w.heap.size, 15, none⟩ = some (.int .u64 l2) := by rw [HBK.out.cell, show l2 = m.la.2 by rw [← hla]]; rfl
  have p16 : ((w.alloc (.cells ma 33)).alloc (Obj.cells #[.int .u64 0, .int .u64 0] 28)).cell? ⟨w.heap.size, 16, none⟩ = some (.int .u64 t1) := by rw [HBK.out.cell, show t1 = m.ta.1 by rw [← hta]]; rfl
  have p17 : ((w.alloc (.cells ma 33)).alloc (Obj.cells #[.int .u64 0, .int .u64 0] 28)).cell? ⟨w.heap.size, 17, none⟩ = some (.int .u64 t2) := by rw [HBK.out.cell, show t2 = m.ta.2 by rw [← hta]]; rfl
  have p18 : ((w.alloc (.cells ma 33)).alloc (Obj.cells #[.int .u64 0, .int .u64 0] 28)).cell? ⟨w.heap.size, 18, none⟩ = some (.int .i64 N) := by rw [HBK.out.cell, hN]; rfl
  have z0 := HBG.out.cell 0
  have z1 := HBG.out.cell 1
  replace z0 : ((w.alloc (.cells ma 33)).alloc (Obj.cells #[.int .u64 0, .int .u64 0] 28)).cell? ⟨w.heap.size + 1, 0, none⟩ = some (.int .u64 0) := z0
  replace z1 : ((w.alloc (.cells ma 33)).alloc (Obj.cells #[.int .u64 0, .int .u64 0] 28)).cell? ⟨w.heap.size + 1, 1, none⟩ = some (.int .u64 0) := z1
  clear hla hta hn hN HBK HBG
  generalize (w.alloc (.cells ma 33)).alloc (Obj.cells #[.int .u64 0, .int .u64 0] 28) = w2 at *
  have hup : upG (l1, l2) (t1, t2) = (decide (l1 < t1) || (decide (t1 = l1) && decide (l2 < t2))) := by
    unfold upG
    rw [show (decide (t1 = l1)) = decide (l1 = t1) from by simp only [eq_comm], ← Bool.decide_and, ← Bool.decide_or]
  by_cases h1 : 0 ≤ n
  · rw [decide_eq_true h1, Bool.true_and] at hres
    have i1 : ¬ n < 0 := by omega
    by_cases h2 : n ≤ 20
    · rw [decide_eq_true h2, Bool.true_and] at hres
      have i2 : ¬ 20 < n := by omega
      obtain ⟨nb, hnb⟩ : ∃ b, (n == 0) = b := ⟨_, rfl⟩
      rw [hnb] at hres
      clear h1 h2
      by_cases h3 : ab = nb
      · subst h3
        have hbt : (ab == ab) = true := by simp
        rw [hbt, Bool.true_and] at hres
        cases tb with
        | true =>
          rw [if_pos rfl] at hres
          have HRES := Lib.hid hres
          clear hres hup
          have hb3 : (ab != ab) = false := by simp
          go_quiet (fail)
          go_wp2
          go_ret
          exact ⟨by rw [HRES.out]; rfl, below_drewN HB.out _⟩
        | false =>
          rw [if_neg (by decide), hup] at hres
          have hb3 : (ab != ab) = false := by simp
          have hc : (l1 < t1 ∧ ∃ z, z = (decide (l1 < t1) || (decide (t1 = l1) && decide (l2 < t2))) ∧ z = true) ∨ (¬ l1 < t1 ∧ ¬ t1 = l1 ∧ ∃ z, z = (decide (l1 < t1) || (decide (t1 = l1) && decide (l2 < t2))) ∧ z = false) ∨ (t1 = l1 ∧ l2 < t2 ∧ ∃ z, z = (decide (l1 < t1) || (decide (t1 = l1) && decide (l2 < t2))) ∧ z = true) ∨ (t1 = l1 ∧ ¬ l2 < t2 ∧ ∃ z, z = (decide (l1 < t1) || (decide (t1 = l1) && decide (l2 < t2))) ∧ z = false) := by
            by_cases q1 : l1 < t1
            · exact .inl ⟨q1, _, rfl, by simp [q1]⟩
            · by_cases q2 : t1 = l1
              · by_cases q3 : l2 < t2
                · exact .inr (.inr (.inl ⟨q2, q3, _, rfl, by simp [q2, q3]⟩))
                · exact .inr (.inr (.inr ⟨q2, q3, _, rfl, by simp [q2, q3]⟩))
              · exact .inr (.inl ⟨q1, q2, _, rfl, by simp [q1, q2]⟩)
          rcases hc with ⟨q1, z, hz, rfl⟩ | ⟨q1, q2, z, hz, rfl⟩ | ⟨rfl, q2, z, hz, rfl⟩ | ⟨rfl, q2, z, hz, rfl⟩
          · rw [← hz] at hres
            clear hz hup
            rw [Bool.true_and] at hres
            by_cases k1 : 1 ≤ N
            · rw [decide_eq_true k1, Bool.true_and] at hres
              have HRES := Lib.hid hres
              clear hres
              go_quiet (fail)
              go_wp2
              go_ret
              exact ⟨by rw [HRES.out]; rfl, below_drewN HB.out _⟩
            · rw [decide_eq_false k1, Bool.false_and] at hres
              have k2 : decide (1 ≤ N) = false := decide_eq_false k1
              have HRES := Lib.hid hres
              clear hres k1
              go_quiet (fail)
              go_wp2
              go_ret
              exact ⟨by rw [HRES.out]; rfl, below_drewN HB.out _⟩
          · rw [← hz] at hres
            clear hz hup
            rw [Bool.false_and] at hres
            have HRES := Lib.hid hres
            clear hres
            go_quiet (fail)
            go_wp2
            go_ret
            exact ⟨by rw [HRES.out]; rfl, below_drewN HB.out _⟩
          · rw [← hz] at hres
            clear hz hup
            rw [Bool.true_and] at hres
            by_cases k1 : 1 ≤ N
            · rw [decide_eq_true k1, Bool.true_and] at hres
              have HRES := Lib.hid hres
              clear hres
              go_quiet (fail)
              go_wp2
              go_ret
              exact ⟨by rw [HRES.out]; rfl, below_drewN HB.out _⟩
            · rw [decide_eq_false k1, Bool.false_and] at hres
              have k2 : decide (1 ≤ N) = false := decide_eq_false k1
              have HRES := Lib.hid hres
              clear hres k1
              go_quiet (fail)
              go_wp2
              go_ret
              exact ⟨by rw [HRES.out]; rfl, below_drewN HB.out _⟩
          · rw [← hz] at hres
            clear hz hup
            rw [Bool.false_and] at hres
            have HRES := Lib.hid hres
            clear hres
            go_quiet (fail)
            go_wp2
            go_ret
            exact ⟨by rw [HRES.out]; rfl, below_drewN HB.out _⟩
      · have hbt : (ab == nb) = false := by simpa using h3
        have hb3 : (ab != nb) = true := by simpa using h3
        rw [hbt, Bool.false_and] at hres
        have HRES := Lib.hid hres
        clear hres hup h3
        go_quiet (fail)
        go_wp2
        go_ret
        exact ⟨by rw [HRES.out]; rfl, below_drewN HB.out _⟩
    · rw [decide_eq_false h2, Bool.false_and] at hres
      have i2 : 20 < n := by omega
      have HRES := Lib.hid hres
      clear hres hup h1 h2
      go_quiet (fail)
      go_wp2
      go_ret
      exact ⟨by rw [HRES.out]; rfl, below_drewN HB.out _⟩
  · rw [decide_eq_false h1, Bool.false_and] at hres
    have i1 : n < 0 := by omega
    have HRES := Lib.hid hres
    clear hres hup h1
    go_quiet (fail)
    go_wp2
    go_ret
    exact ⟨by rw [HRES.out]; rfl, below_drewN HB.out _⟩
/-- may a message be, by its fields alone? -/
def mayM (m : Ms) : Bool := decide (1 ≤ m.K) && (decide (m.K ≤ 7) && (if 4 < m.K then decide (checkL m.l = 0) && ((decide (m.K ≠ 5) || pullB m) && (decide (m.K ≠ 6) || decide (checkP m.p = 0)))
  else decide (1 ≤ m.T) && (placeB m.P && (placeB m.M && (placeB m.C && ((decide (m.PT = 0) == decide (m.P = 0)) && (decide (0 ≤ m.S) && entB m)))))))
theorem placeB_iff {x : Int} : placeB x = true ↔ 0 ≤ x ∧ x ≤ 300 := by
  unfold placeB
  rw [Bool.and_eq_true, decide_eq_true_iff, decide_eq_true_iff]
set_option maxRecDepth 100000 in
set_option maxHeartbeats 4000000 in
theorem may2_any (w : World) (v : Value) (m : Ms) (hv : InMs w v m) : Calls Try.prog 20 #[v] w fun e w' => e = .returned (.bool (mayM m)) ∧ Below w.heap.size w w' := by
  have hpull := fun w2 (h : Below w.heap.size w w2) => pull2_any w2 v m (hv.keep h)
  have hent := fun w2 (h : Below w.heap.size w w2) (hP : 0 ≤ m.P ∧ m.P ≤ 300) => entries_any w2 v m (hv.keep h) hP
  obtain ⟨ma, a1, a2, a3, c1, c2, c3, rfl, hone, hsz, hma, hE, hL, hC, hwf⟩ := ms_cells hv
  have HLC := Lib.hid (fun w2 (h : Below w.heap.size w w2) => lcheck_any (.agg #[.int .u64 m.l.E, .int .i64 m.l.B, .bool m.l.L, .slice a2 m.l.l.length c2]) m.l w2 ⟨_, rfl, hL.keep h, hwf.E, hwf.B⟩)
  have HPC := Lib.hid (fun w2 (h : Below w.heap.size w w2) => check_any w2 (prV m.p (.slice a3 m.p.cs.length c3)) m.p ⟨_, rfl, hC.keep h, hwf.p⟩)
  unfold prV at HPC
  have HPULL := Lib.hid hpull
  have HENT := Lib.hid hent
  have hb := (Below.refl w.heap.size w).alloc (Nat.le_refl _) (Obj.cells ma 33)
  have hbk : Blk (w.alloc (.cells ma 33)) w.heap.size 33 (msA m (.slice a1 m.es.length c1) (.slice a2 m.l.l.length c2) (.slice a3 m.p.cs.length c3)) := by rw [hma]; exact Blk.new w _ _
  have HMA := Lib.hid (Blk.new w 33 ma)
  obtain ⟨res, hres⟩ : ∃ r, r = mayM m := ⟨_, rfl⟩
  rw [← hres]
  unfold mayM at hres
  have HB := Lib.hid hb
  have HBK := Lib.hid hbk
  have HONE := Lib.hid hone
  have HSZ := Lib.hid hsz
  clear hma hv hone hsz hb hbk hE hL hC hwf hpull hent
  generalize hcl : checkL m.l = cl at *
  generalize hcp : checkP m.p = cp at *
  generalize hpb : pullB m = pb at *
  generalize heb : entB m = eb at *
  clear hcl hcp hpb heb
  have hc : m.K < 1 ∨ 7 < m.K ∨ m.K = 5 ∨ m.K = 6 ∨ m.K = 7 ∨ (1 ≤ m.K ∧ m.K ≤ 4) := by omega
  rcases hc with hk | hk | hk | hk | hk | hk
  · rw [decide_eq_false (by omega), Bool.false_and] at hres
    have HRES := Lib.hid hres
    clear hres
    have p0 : (w.alloc (.cells ma 33)).cell? ⟨w.heap.size, 0, none⟩ = some (.int .i64 m.K) := by rw [HBK.out.cell]; rfl
    go_enter Try.func20, Try.ntmps20
    go_wp2
    go_ret
    exact ⟨by rw [HRES.out]; rfl, HB.out⟩
  · rw [decide_eq_true (show 1 ≤ m.K by omega), decide_eq_false (show ¬ m.K ≤ 7 by omega), Bool.false_and, Bool.and_false] at hres
    have HRES := Lib.hid hres
    have i1 : ¬ m.K < 1 := by omega
    clear hres
    have p0 : (w.alloc (.cells ma 33)).cell? ⟨w.heap.size, 0, none⟩ = some (.int .i64 m.K) := by rw [HBK.out.cell]; rfl
    go_enter Try.func20, Try.ntmps20
    go_wp2
    go_ret
    exact ⟨by rw [HRES.out]; rfl, HB.out⟩
  · rw [hk, show decide ((1 : Int) ≤ 5) = true from rfl, show decide ((5 : Int) ≤ 7) = true from rfl, if_pos (by decide), Bool.true_and, Bool.true_and] at hres
    have p0 : (w.alloc (.cells ma 33)).cell? ⟨w.heap.size, 0, none⟩ = some (.int .i64 m.K) := by rw [HBK.out.cell]; rfl
    have p9 : (w.alloc (.cells ma 33)).cell? ⟨w.heap.size, 9, none⟩ = some (.int .u64 m.l.E) := by rw [HBK.out.cell]; rfl
    have p10 : (w.alloc (.cells ma 33)).cell? ⟨w.heap.size, 10, none⟩ = some (.int .i64 m.l.B) := by rw [HBK.out.cell]; rfl
    have p11 : (w.alloc (.cells ma 33)).cell? ⟨w.heap.size, 11, none⟩ = some (.bool m.l.L) := by rw [HBK.out.cell]; rfl
    have p12 : (w.alloc (.cells ma 33)).cell? ⟨w.heap.size, 12, none⟩ = some (.slice a2 m.l.l.length c2) := by rw [HBK.out.cell]; rfl
    rw [hk] at p0
    go_enter Try.func20, Try.ntmps20
    go_wp2_with fail
    refine (HLC.out _ HB.out).mono ?_
    rintro e w3 ⟨rfl, hb⟩
    replace HB := Lib.hid (HB.out.trans (hb.mono HB.out.size))
    replace HBK := Lib.hid (HBK.out.keep hb)
    replace HMA := Lib.hid (HMA.out.keep hb)
    clear hb
    clear p0 p9 p10 p11 p12
    by_cases hz : cl = 0
    · rw [decide_eq_true hz, Bool.true_and] at hres
      subst hz
      have p0 : (w3).cell? ⟨w.heap.size, 0, none⟩ = some (.int .i64 m.K) := by rw [HBK.out.cell]; rfl
      rw [hk] at p0
      go_wp2_with (first | refine wpList_wanted_run (by rfl) (.agg ma) (exec_load_blk 33 _ rfl w.heap.size rfl _ HMA.out Try.underlying33 rfl HSZ.out) ?_)
      refine (HPULL.out _ HB.out).mono ?_
      rintro e w4 ⟨rfl, hb⟩
      replace HB := Lib.hid (HB.out.trans (hb.mono HB.out.size))
      replace HBK := Lib.hid (HBK.out.keep hb)
      replace HMA := Lib.hid (HMA.out.keep hb)
      clear hb
      clear p0
      have p0 : (w4).cell? ⟨w.heap.size, 0, none⟩ = some (.int .i64 m.K) := by rw [HBK.out.cell]; rfl
      rw [hk] at p0
      cases pb with
      | true =>
        have HRES := Lib.hid hres
        clear hres
        go_wp2
        go_ret
        exact ⟨by rw [HRES.out]; rfl, HB.out⟩
      | false =>
        have HRES := Lib.hid hres
        clear hres
        go_wp2
        go_ret
        exact ⟨by rw [HRES.out]; rfl, HB.out⟩
    · rw [decide_eq_false hz, Bool.false_and] at hres
      have hz2 : (cl == 0) = false := beq_eq_false_iff_ne.2 hz
      have HRES := Lib.hid hres
      clear hres hz
      go_wp2
      go_ret
      exact ⟨by rw [HRES.out]; rfl, HB.out⟩
  · rw [hk, show decide ((1 : Int) ≤ 6) = true from rfl, show decide ((6 : Int) ≤ 7) = true from rfl, if_pos (by decide), Bool.true_and, Bool.true_and] at hres
    have p0 : (w.alloc (.cells ma 33)).cell? ⟨w.heap.size, 0, none⟩ = some (.int .i64 m.K) := by rw [HBK.out.cell]; rfl
    have p9 : (w.alloc (.cells ma 33)).cell? ⟨w.heap.size, 9, none⟩ = some (.int .u64 m.l.E) := by rw [HBK.out.cell]; rfl
    have p10 : (w.alloc (.cells ma 33)).cell? ⟨w.heap.size, 10, none⟩ = some (.int .i64 m.l.B) := by rw [HBK.out.cell]; rfl
    have p11 : (w.alloc (.cells ma 33)).cell? ⟨w.heap.size, 11, none⟩ = some (.bool m.l.L) := by rw [HBK.out.cell]; rfl
    have p12 : (w.alloc (.cells ma 33)).cell? ⟨w.heap.size, 12, none⟩ = some (.slice a2 m.l.l.length c2) := by rw [HBK.out.cell]; rfl
    rw [hk] at p0
    go_enter Try.func20, Try.ntmps20
    go_wp2_with fail
    refine (HLC.out _ HB.out).mono ?_
    rintro e w3 ⟨rfl, hb⟩
    replace HB := Lib.hid (HB.out.trans (hb.mono HB.out.size))
    replace HBK := Lib.hid (HBK.out.keep hb)
    replace HMA := Lib.hid (HMA.out.keep hb)
    clear hb
    clear p0 p9 p10 p11 p12
    by_cases hz : cl = 0
    · rw [decide_eq_true hz, Bool.true_and] at hres
      subst hz
      have p0 : (w3).cell? ⟨w.heap.size, 0, none⟩ = some (.int .i64 m.K) := by rw [HBK.out.cell]; rfl
      rw [hk] at p0
      have p19 : (w3).cell? ⟨w.heap.size, 19, none⟩ = some (.int .u64 m.p.b.1) := by rw [HBK.out.cell]; rfl
      have p20 : (w3).cell? ⟨w.heap.size, 20, none⟩ = some (.int .u64 m.p.b.2) := by rw [HBK.out.cell]; rfl
      have p21 : (w3).cell? ⟨w.heap.size, 21, none⟩ = some (.int .u64 m.p.t.1) := by rw [HBK.out.cell]; rfl
      have p22 : (w3).cell? ⟨w.heap.size, 22, none⟩ = some (.int .u64 m.p.t.2) := by rw [HBK.out.cell]; rfl
      have p23 : (w3).cell? ⟨w.heap.size, 23, none⟩ = some (.int .i64 m.p.f) := by rw [HBK.out.cell]; rfl
      have p24 : (w3).cell? ⟨w.heap.size, 24, none⟩ = some (.int .i64 m.p.a) := by rw [HBK.out.cell]; rfl
      have p25 : (w3).cell? ⟨w.heap.size, 25, none⟩ = some (.slice a3 m.p.cs.length c3) := by rw [HBK.out.cell]; rfl
      go_wp2_with fail
      refine (HPC.out _ HB.out).mono ?_
      rintro e w4 ⟨rfl, hb⟩
      replace HB := Lib.hid (HB.out.trans (hb.mono HB.out.size))
      replace HBK := Lib.hid (HBK.out.keep hb)
      replace HMA := Lib.hid (HMA.out.keep hb)
      clear hb
      clear p0 p19 p20 p21 p22 p23 p24 p25
      by_cases hy : cp = 0
      · subst hy
        have HRES := Lib.hid hres
        clear hres
        go_wp2
        go_ret
        exact ⟨by rw [HRES.out]; rfl, HB.out⟩
      · rw [decide_eq_false hy] at hres
        have hy2 : (cp == 0) = false := beq_eq_false_iff_ne.2 hy
        have HRES := Lib.hid hres
        clear hres hy
        go_wp2
        go_ret
        exact ⟨by rw [HRES.out]; rfl, HB.out⟩
    · rw [decide_eq_false hz, Bool.false_and] at hres
      have hz2 : (cl == 0) = false := beq_eq_false_iff_ne.2 hz
      have HRES := Lib.hid hres
      clear hres hz
      go_wp2
      go_ret
      exact ⟨by rw [HRES.out]; rfl, HB.out⟩
  · rw [hk, show decide ((1 : Int) ≤ 7) = true from rfl, show decide ((7 : Int) ≤ 7) = true from rfl, if_pos (by decide), Bool.true_and, Bool.true_and] at hres
    have p0 : (w.alloc (.cells ma 33)).cell? ⟨w.heap.size, 0, none⟩ = some (.int .i64 m.K) := by rw [HBK.out.cell]; rfl
    have p9 : (w.alloc (.cells ma 33)).cell? ⟨w.heap.size, 9, none⟩ = some (.int .u64 m.l.E) := by rw [HBK.out.cell]; rfl
    have p10 : (w.alloc (.cells ma 33)).cell? ⟨w.heap.size, 10, none⟩ = some (.int .i64 m.l.B) := by rw [HBK.out.cell]; rfl
    have p11 : (w.alloc (.cells ma 33)).cell? ⟨w.heap.size, 11, none⟩ = some (.bool m.l.L) := by rw [HBK.out.cell]; rfl
    have p12 : (w.alloc (.cells ma 33)).cell? ⟨w.heap.size, 12, none⟩ = some (.slice a2 m.l.l.length c2) := by rw [HBK.out.cell]; rfl
    rw [hk] at p0
    go_enter Try.func20, Try.ntmps20
    go_wp2_with fail
    refine (HLC.out _ HB.out).mono ?_
    rintro e w3 ⟨rfl, hb⟩
    replace HB := Lib.hid (HB.out.trans (hb.mono HB.out.size))
    replace HBK := Lib.hid (HBK.out.keep hb)
    replace HMA := Lib.hid (HMA.out.keep hb)
    clear hb
    clear p0 p9 p10 p11 p12
    by_cases hz : cl = 0
    · rw [decide_eq_true hz, Bool.true_and] at hres
      subst hz
      have p0 : (w3).cell? ⟨w.heap.size, 0, none⟩ = some (.int .i64 m.K) := by rw [HBK.out.cell]; rfl
      rw [hk] at p0
      have HRES := Lib.hid hres
      clear hres
      go_wp2
      go_ret
      exact ⟨by rw [HRES.out]; rfl, HB.out⟩
    · rw [decide_eq_false hz, Bool.false_and] at hres
      have hz2 : (cl == 0) = false := beq_eq_false_iff_ne.2 hz
      have HRES := Lib.hid hres
      clear hres hz
      go_wp2
      go_ret
      exact ⟨by rw [HRES.out]; rfl, HB.out⟩
  · rw [decide_eq_true hk.1, decide_eq_true (show m.K ≤ 7 by omega), if_neg (by omega), Bool.true_and, Bool.true_and] at hres
    have i1 : ¬ m.K < 1 := by omega
    have i2 : ¬ 7 < m.K := by omega
    have i3 : ¬ 4 < m.K := by omega
    clear hk
    have p0 : (w.alloc (.cells ma 33)).cell? ⟨w.heap.size, 0, none⟩ = some (.int .i64 m.K) := by rw [HBK.out.cell]; rfl
    have p1 : (w.alloc (.cells ma 33)).cell? ⟨w.heap.size, 1, none⟩ = some (.int .u64 m.T) := by rw [HBK.out.cell]; rfl
    have p2 : (w.alloc (.cells ma 33)).cell? ⟨w.heap.size, 2, none⟩ = some (.int .i64 m.P) := by rw [HBK.out.cell]; rfl
    go_enter Try.func20, Try.ntmps20
    by_cases h1 : 1 ≤ m.T
    · rw [decide_eq_true h1, Bool.true_and] at hres
      go_wp2_with fail
      refine (place_any _ _).mono ?_
      rintro e w3 ⟨rfl, rfl⟩
      by_cases h2 : placeB m.P = true
      · have hPP := placeB_iff.1 h2
        rw [h2] at hres ⊢
        rw [Bool.true_and] at hres
        have p7 : (w.alloc (.cells ma 33)).cell? ⟨w.heap.size, 7, none⟩ = some (.int .i64 m.M) := by rw [HBK.out.cell]; rfl
        have HPP := Lib.hid hPP
        clear hPP h2
        go_wp2_with fail
        refine (place_any _ _).mono ?_
        rintro e w4 ⟨rfl, rfl⟩
        by_cases h3 : placeB m.M = true
        · rw [h3] at hres ⊢
          rw [Bool.true_and] at hres
          clear h3
          have p5 : (w.alloc (.cells ma 33)).cell? ⟨w.heap.size, 5, none⟩ = some (.int .i64 m.C) := by rw [HBK.out.cell]; rfl
          go_wp2_with fail
          refine (place_any _ _).mono ?_
          rintro e w5 ⟨rfl, rfl⟩
          by_cases h4 : placeB m.C = true
          · rw [h4] at hres ⊢
            rw [Bool.true_and] at hres
            clear h4
            have p3 : (w.alloc (.cells ma 33)).cell? ⟨w.heap.size, 3, none⟩ = some (.int .u64 m.PT) := by rw [HBK.out.cell]; rfl
            have p8 : (w.alloc (.cells ma 33)).cell? ⟨w.heap.size, 8, none⟩ = some (.int .i64 m.S) := by rw [HBK.out.cell]; rfl
            obtain ⟨x1, hx1⟩ : ∃ b, (m.PT == 0) = b := ⟨_, rfl⟩
            obtain ⟨x2, hx2⟩ : ∃ b, (m.P == 0) = b := ⟨_, rfl⟩
            have e1 : decide (m.PT = 0) = x1 := by rw [← hx1]; rfl
            have e2 : decide (m.P = 0) = x2 := by rw [← hx2]; rfl
            rw [e1, e2] at hres
            clear e1 e2
            by_cases h5 : x1 = x2
            · have e3 : (x1 == x2) = true := by simpa using h5
              rw [e3, Bool.true_and] at hres
              clear h5
              by_cases h6 : 0 ≤ m.S
              · rw [decide_eq_true h6, Bool.true_and] at hres
                go_wp2_with (first | refine wpList_wanted_run (by rfl) (.agg ma) (exec_load_blk 33 _ rfl w.heap.size rfl _ HMA.out Try.underlying33 rfl HSZ.out) ?_)
                refine (HENT.out _ HB.out HPP.out).mono ?_
                rintro e w6 ⟨rfl, hb⟩
                replace HB := Lib.hid (HB.out.trans (hb.mono HB.out.size))
                have HRES := Lib.hid hres
                clear hres hb p0 p1 p2 p3 p5 p7 p8 HBK HMA
                go_wp2
                go_ret
                exact ⟨by rw [HRES.out]; rfl, HB.out⟩
              · rw [decide_eq_false h6, Bool.false_and] at hres
                have k6 : decide (0 ≤ m.S) = false := decide_eq_false h6
                clear h6
                have HRES := Lib.hid hres
                clear hres
                go_wp2
                go_ret
                exact ⟨by rw [HRES.out]; rfl, HB.out⟩
            · have e3 : (x1 == x2) = false := by simpa using h5
              rw [e3, Bool.false_and] at hres
              clear h5
              have HRES := Lib.hid hres
              clear hres
              go_wp2
              go_ret
              exact ⟨by rw [HRES.out]; rfl, HB.out⟩
          · have k4 : placeB m.C = false := by simpa using h4
            rw [k4] at hres ⊢
            rw [Bool.false_and] at hres
            clear h4 k4
            have HRES := Lib.hid hres
            clear hres
            go_wp2
            go_ret
            exact ⟨by rw [HRES.out]; rfl, HB.out⟩
        · have k3 : placeB m.M = false := by simpa using h3
          rw [k3] at hres ⊢
          rw [Bool.false_and] at hres
          clear h3 k3
          have HRES := Lib.hid hres
          clear hres
          go_wp2
          go_ret
          exact ⟨by rw [HRES.out]; rfl, HB.out⟩
      · have k2 : placeB m.P = false := by simpa using h2
        rw [k2] at hres ⊢
        rw [Bool.false_and] at hres
        clear h2 k2
        have HRES := Lib.hid hres
        clear hres
        go_wp2
        go_ret
        exact ⟨by rw [HRES.out]; rfl, HB.out⟩
    · rw [decide_eq_false h1, Bool.false_and] at hres
      have k1 : decide (1 ≤ m.T) = false := decide_eq_false h1
      clear h1
      have HRES := Lib.hid hres
      clear hres
      go_wp2
      go_ret
      exact ⟨by rw [HRES.out]; rfl, HB.out⟩
end Go.Proofs.Ytikimmhkfjaijaa
