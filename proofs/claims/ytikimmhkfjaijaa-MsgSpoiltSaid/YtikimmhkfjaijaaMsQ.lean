/-
  MESSAGES: two of them compared (printed by wip/gen-msgq.py).
-/
import Derived.Test.YtikimmhkfjaijaaMsP
import Derived.Deep.LoopGhost
import Derived.Deep.CutRange
import Derived.Deep.CutBlock
import Derived.Deep.MidRow
namespace Go.Proofs.Ytikimmhkfjaijaa
open Go.RowKit Reg Go.ChangeShapes

theorem ent_fields : (Try.prog.fieldsOf 50).toList.map (fun f => (decide (f.name = "_"), f.type, f.offset)) = [(false, 22, 0), (false, 3, 1), (false, 28, 2)] := by kernel_rfl
def eqE (x y : En) : Bool := x.T == y.T && (x.K == y.K && (x.g.1 == y.g.1 && x.g.2 == y.g.2))
theorem eqE_iff {x y : En} : eqE x y = true ↔ x = y := by
  obtain ⟨T, K, g1, g2⟩ := x
  obtain ⟨T', K', g1', g2'⟩ := y
  simp [eqE]
theorem three_fields {fs : List Field} {a b c : Bool × TypeId × Nat} (h : fs.map (fun f => (decide (f.name = "_"), f.type, f.offset)) = [a, b, c]) : ∃ f0 f1 f2, fs = [f0, f1, f2] := by
  have hl := congrArg List.length h
  rw [List.length_map] at hl
  match fs, hl with
  | [f0, f1, f2], _ => exact ⟨f0, f1, f2, rfl⟩
theorem part_guid (a b c d : Int) (w : World) : (part 28 #[Value.int .u64 a, .int .i64 b, .int .u64 c, .int .u64 d] 2).run Try.prog w = .ok (.agg #[.int .u64 c, .int .u64 d]) w := by
  obtain ⟨i, hi, _, hz, _⟩ := info_parts guid_info
  have hu := Try.underlying28
  simp [part, isAgg, sizeOf, typeInfo, hi, hz, run_underlying hu]
theorem run_neq_ent (x y : En) (w : World) : (binOp .neq 50 (aggE x) (aggE y)).run Try.prog w = .ok (.bool (!eqE x y)) w := by
  obtain ⟨T, K, g1, g2⟩ := x
  obtain ⟨T', K', g1', g2'⟩ := y
  have key : ∀ d, (Op.equalIn (d + 3) 50 (.agg #[.int .u64 T, .int .i64 K, .int .u64 g1, .int .u64 g2]) (.agg #[.int .u64 T', .int .i64 K', .int .u64 g1', .int .u64 g2'])).run Try.prog w = .ok (T == T' && (K == K' && (g1 == g1' && g2 == g2'))) w := by
    intro d
    rw [run_equalIn_struct (P := Try.prog) w (d + 2) 50 #[.int .u64 T, .int .i64 K, .int .u64 g1, .int .u64 g2] #[.int .u64 T', .int .i64 K', .int .u64 g1', .int .u64 g2'] (by kernel_rfl) (by kernel_rfl)]
    have hf := ent_fields
    generalize (Try.prog.fieldsOf 50).toList = fs at hf
    obtain ⟨f0, f1, f2, rfl⟩ := three_fields hf
    simp only [List.map_cons, List.map_nil, List.cons.injEq, Prod.mk.injEq, decide_eq_false_iff_not, and_true] at hf
    obtain ⟨⟨n0, t0, o0⟩, ⟨n1, t1, o1⟩, n2, t2, o2⟩ := hf
    have hk0 : Try.prog.plainKey 22 = true := by kernel_rfl
    have hk1 : Try.prog.plainKey 3 = true := by kernel_rfl
    have p0 : ∀ (a b c d : Int), (part 22 #[Value.int .u64 a, .int .i64 b, .int .u64 c, .int .u64 d] 0).run Try.prog w = .ok (.int .u64 a) w := fun a b c d => run_part_plain w hk0 rfl
    have p1 : ∀ (a b c d : Int), (part 3 #[Value.int .u64 a, .int .i64 b, .int .u64 c, .int .u64 d] 1).run Try.prog w = .ok (.int .i64 b) w := fun a b c d => run_part_plain w hk1 rfl
    have p2 := fun a b c d => part_guid a b c d w
    have e0 := run_equalIn_int (P := Try.prog) w (d + 1) 22 .u64 .u64 T T' Try.underlying22
    have e1 := run_equalIn_int (P := Try.prog) w (d + 1) 3 .i64 .i64 K K' Try.underlying3
    have e2 := run_equalIn_guid d g1 g2 g1' g2' w
    unfold Op.eqFields
    rw [if_pos n0]
    simp only [Sem.run_bind, t0, o0, p0, Result.andThen_ok, e0]
    cases h0 : T == T' with
    | false => rfl
    | true =>
      simp only [Bool.not_true, Bool.false_eq_true, if_false, Bool.true_and]
      unfold Op.eqFields
      rw [if_pos n1]
      simp only [Sem.run_bind, t1, o1, p1, Result.andThen_ok, e1]
      cases h1 : K == K' with
      | false => rfl
      | true =>
        simp only [Bool.not_true, Bool.false_eq_true, if_false, Bool.true_and]
        unfold Op.eqFields
        rw [if_pos n2]
        simp only [Sem.run_bind, t2, o2, p2, Result.andThen_ok, e2]
        cases h2 : (g1 == g1' && g2 == g2') with
        | false => rfl
        | true => rfl
  show (binOp .neq 50 (.agg #[.int .u64 T, .int .i64 K, .int .u64 g1, .int .u64 g2]) (.agg #[.int .u64 T', .int .i64 K', .int .u64 g1', .int .u64 g2'])).run Try.prog w = _
  simp only [binOp]
  simp [Op.equal, Op.maxDepth, key 9997, eqE]
theorem eqEs_iff {xs ys : List En} (hl : xs.length = ys.length) : (∀ j, j < xs.length → xs.getD j en0 = ys.getD j en0) ↔ xs = ys := by
  constructor
  · intro h
    refine List.ext_getElem hl fun j h1 h2 => ?_
    have := h j h1
    rwa [List.getD_eq_getElem?_getD, List.getD_eq_getElem?_getD, List.getElem?_eq_getElem h1, List.getElem?_eq_getElem h2] at this
  · rintro rfl j _
    rfl
set_option maxRecDepth 100000 in
set_option maxHeartbeats 1000000 in
theorem eequal_any (v v' : Value) (es fs : List En) (w : World) (hv : InE w v es) (hv' : InE w v' fs) :
    Calls Try.prog 26 #[v, v'] w fun e w' => e = .returned (.bool (decide (es = fs))) ∧ Below w.heap.size w w' := by
  obtain ⟨a, c, rfl, -, hn, hxx⟩ := hv.open_
  obtain ⟨a', c', rfl, -, -, hxx'⟩ := hv'.open_
  obtain ⟨r, hr⟩ : ∃ r, r = decide (es = fs) := ⟨_, rfl⟩
  have hrl : es.length ≠ fs.length → r = false := fun h => by rw [hr]; exact decide_eq_false fun e => h (by rw [e])
  have hrt : es.length = fs.length → (r = true ↔ ∀ j, j < es.length → es.getD j en0 = fs.getD j en0) := fun h => by rw [hr, decide_eq_true_iff]; exact (eqEs_iff h).symm
  rw [← hr]
  clear hr
  unfold maxLen at hn
  generalize hZ : (fun j => (es.getD j en0)) = Z at *
  have g1 : ∀ j, es.getD j en0 = Z j := fun j => by subst hZ; rfl
  generalize hZ' : (fun j => (fs.getD j en0)) = Z' at *
  have g2 : ∀ j, fs.getD j en0 = Z' j := fun j => by subst hZ'; rfl
  simp only [g1, g2] at hxx hxx' hrt
  clear hZ g1 hv hZ' g2 hv'
  generalize es.length = n at *
  generalize fs.length = n' at *
  by_cases hne : n = n'
  · subst hne
    have HRT := Lib.hid (hrt rfl)
    have HX := Lib.hid hxx
    have HX' := Lib.hid hxx'
    have HN := Lib.hid hn
    clear hrl hrt hxx hxx' hn
    go_enter Try.func26, Try.ntmps26
    go_wp2_with fail
    go_loopw [13] (fun i wr => ∃ (k : Nat), k ≤ n ∧ i = .int .i64 k ∧ (∀ j : Nat, j < k → Z j = Z' j) ∧ Below w.heap.size w wr) (fun i _ => n - (intOf i).toNat)
    case atStart => exact ⟨0, Nat.zero_le _, rfl, (fun j hj => by omega), Below.refl _ _⟩
    case round =>
      obtain ⟨k, hk, rfl, hq, hb⟩ := hrel
      have HQ := Lib.hid hq
      have HB := Lib.hid hb
      clear hq hb
      by_cases hkn : k < n
      · obtain ⟨g, off, rfl, hc, hd, he, hf⟩ := HX.out k hkn
        obtain ⟨g', off', rfl, hc', hd', he', hf'⟩ := HX'.out k hkn
        have y1 := cell_later HB.out hc
        have y2 := cell_later HB.out hd
        have y3 := cell_later HB.out he
        have y4 := cell_later HB.out hf
        have x1 := cell_later HB.out hc'
        have x2 := cell_later HB.out hd'
        have x3 := cell_later HB.out he'
        have x4 := cell_later HB.out hf'
        have i1 : (k : Int) < (n : Int) := by omega
        have i9 : wrap64 ((k : Int) + 1) = (k : Int) + 1 := IntWalk.wrap64_in _ (by have := HN.out; omega)
        have I9 := Lib.hid i9
        have HKN := Lib.hid hkn
        have hneq := fun w => run_neq_ent (Z k) (Z' k) w
        have HSTEP := Lib.hid (fun (h : eqE (Z k) (Z' k) = true) (j : Nat) (hj : j < k + 1) => show Z j = Z' j from by
          by_cases e : j = k
          · subst e; exact eqE_iff.1 h
          · exact HQ.out j (by omega))
        have HNO : Hid (eqE (Z k) (Z' k) = false → r = false) := Lib.hid fun h => by
          cases r with
          | false => rfl
          | true =>
            have h9 := HRT.out.1 rfl k hkn
            rw [eqE_iff.2 h9] at h
            cases h
        clear hc hd he hf hc' hd' he' hf' hk hkn i9
        generalize eqE (Z k) (Z' k) = eb at *
        generalize hzm : Z k = zm at *
        generalize hzk : Z' k = zk at *
        obtain ⟨m1, m2, m3, m4⟩ := zm
        obtain ⟨k1, k2, k3, k4⟩ := zk
        replace hneq : ∀ w, (binOp .neq 50 (.agg #[.int .u64 m1, .int .i64 m2, .int .u64 m3, .int .u64 m4]) (.agg #[.int .u64 k1, .int .i64 k2, .int .u64 k3, .int .u64 k4])).run Try.prog w = .ok (.bool (!eb)) w := hneq
        dsimp only at *
        clear hzm hzk
        go_wp2_with fail
        cases eb with
        | false =>
          have HR := Lib.hid (HNO.out rfl)
          go_quiet (fail)
          go_wp2
          go_ret
          exact ⟨by rw [HR.out]; rfl, below_drewN HB.out _⟩
        | true =>
          have HR := Lib.hid (HSTEP.out rfl)
          go_quiet (fail)
          go_wp2
          rw [I9.out]
          exact ⟨⟨k + 1, HKN.out, rfl, HR.out, below_drewN HB.out _⟩, meas_succ HKN.out⟩
      · obtain rfl : k = n := by omega
        have HR := Lib.hid (HRT.out.2 fun j hj => HQ.out j hj)
        clear hkn hk
        go_wp2
        go_ret
        exact ⟨by rw [HR.out]; rfl, HB.out⟩
  · have hr := hrl hne
    subst hr
    have i1 : ((n : Int) != (n' : Int)) = true := by simp; omega
    clear hrl hrt hxx hxx' hn
    go_enter Try.func26, Try.ntmps26
    go_wp2
    go_ret
    exact ⟨rfl, Below.refl _ _⟩
theorem alike_any (v v' : Value) (es fs : List En) (w : World) (hv : InE w v es) (hv' : InE w v' fs) :
    Calls Try.prog 17 #[v, v'] w fun e w' => e = .returned (.bool (decide (es = fs))) ∧ Below w.heap.size w w' := by
  have hi := eequal_any v v' es fs w hv hv'
  obtain ⟨a, c, rfl, -, -⟩ := hv.open_
  obtain ⟨a', c', rfl, -, -⟩ := hv'.open_
  generalize decide (es = fs) = r at *
  have HI := Lib.hid hi
  clear hi hv hv'
  go_enter Try.func17, Try.ntmps17
  go_wp2_with fail
  refine HI.out.mono ?_
  rintro e w2 ⟨rfl, hb⟩
  have HB := Lib.hid hb
  clear hb
  go_wp2
  go_ret
  exact ⟨rfl, HB.out⟩
theorem sameP_iff {p q : Prt} : sameP p q = true ↔ p = q := by
  unfold sameP
  rw [decide_eq_true_iff]
  constructor
  · rintro ⟨h1, h2, h3, h4, h5, h6⟩
    obtain ⟨⟨b1, b2⟩, ⟨t1, t2⟩, f, a, cs⟩ := p
    obtain ⟨⟨b1', b2'⟩, ⟨t1', t2'⟩, f', a', cs'⟩ := q
    simp only [Bool.and_eq_true, beq_iff_eq] at h3 h4
    dsimp only at h1 h2 h5 h6
    obtain ⟨rfl, rfl⟩ := h3
    obtain ⟨rfl, rfl⟩ := h4
    subst h5; subst h6
    have e : cs = cs' := by
      refine List.ext_getElem h1 fun j k1 k2 => ?_
      have h := h2 j k1
      rw [List.getD_eq_getElem?_getD, List.getD_eq_getElem?_getD, List.getElem?_eq_getElem k1, List.getElem?_eq_getElem k2] at h
      simp only [Option.getD_some, eqC, Bool.and_eq_true, beq_iff_eq] at h
      exact Prod.ext h.1 ((str_iff _ _).1 (by simpa using h.2))
    rw [e]
  · rintro rfl
    exact ⟨rfl, (fun j hj => by simp [eqC]), by simp, by simp, rfl, rfl⟩
def sm1 (x y : Ms) : Bool := x.K == y.K && (x.T == y.T && (x.P == y.P && (x.PT == y.PT && (x.C == y.C && (x.Y == y.Y && (x.M == y.M && x.S == y.S))))))
def sm2 (x y : Ms) : Bool := x.n == y.n && ((x.la.1 == y.la.1 && x.la.2 == y.la.2) && ((x.ta.1 == y.ta.1 && x.ta.2 == y.ta.2) && x.N == y.N))
def sameM (x y : Ms) : Bool := sm1 x y && (sm2 x y && (decide (x.es = y.es) && (sameL x.l y.l && sameP x.p y.p)))
theorem sameM_iff {x y : Ms} : sameM x y = true ↔ x = y := by
  unfold sameM sm1 sm2
  constructor
  · intro h
    simp only [Bool.and_eq_true, beq_iff_eq, decide_eq_true_iff] at h
    obtain ⟨⟨a1, a2, a3, a4, a5, a6, a7, a8⟩, ⟨b1, b2, b3, b4⟩, c1, c2, c3⟩ := h
    have c2 := sameL_iff.1 c2
    have c3 := sameP_iff.1 c3
    have b2 := Prod.ext b2.1 b2.2
    have b3 := Prod.ext b3.1 b3.2
    cases x; cases y
    simp_all
  · rintro rfl
    have h1 := sameL_iff.2 (rfl : x.l = x.l)
    have h2 := sameP_iff.2 (rfl : x.p = x.p)
    simp [h1, h2]
set_option maxRecDepth 100000 in
set_option maxHeartbeats 4000000 in
theorem msame_any (w : World) (u v : Value) (x y : Ms) (hu : InMs w u x) (hv : InMs w v y) : Calls Try.prog 10 #[u, v] w fun e w' => e = .returned (.bool (sameM x y)) ∧ Below w.heap.size w w' := by
  obtain ⟨se, sl, sc, rfl, hx1, hx2, hx3, hx4⟩ := hu
  obtain ⟨se', sl', sc', rfl, hy1, hy2, hy3, hy4⟩ := hv
  obtain ⟨a1, c1, e1⟩ := hx1.slice_
  obtain ⟨a2, c2, e2⟩ := hx2.slice_
  obtain ⟨a3, c3, e3⟩ := hx3.slice_
  obtain ⟨a4, c4, e4⟩ := hy1.slice_
  obtain ⟨a5, c5, e5⟩ := hy2.slice_
  obtain ⟨a6, c6, e6⟩ := hy3.slice_
  have hmx : ((msA x se sl sc).all fun x => x.oneCell') = true := by rw [e1, e2, e3]; exact msA_one _ _ _ _ _ _ _ _ _ _
  have hmy : ((msA y se' sl' sc').all fun x => x.oneCell') = true := by rw [e4, e5, e6]; exact msA_one _ _ _ _ _ _ _ _ _ _
  obtain ⟨ma, hma⟩ : ∃ ma, msA x se sl sc = ma := ⟨_, rfl⟩
  obtain ⟨mb, hmb⟩ : ∃ mb, msA y se' sl' sc' = mb := ⟨_, rfl⟩
  have hsx := msg_size x se sl sc
  have hsy := msg_size y se' sl' sc'
  rw [hma] at hmx hsx ⊢
  rw [hmb] at hmy hsy ⊢
  have HE := Lib.hid (fun w2 (h : Below w.heap.size w w2) => alike_any se se' x.es y.es w2 (hx1.keep h) (hy1.keep h))
  have HL := Lib.hid (fun w2 (h : Below w.heap.size w w2) => lsame_any (.agg #[.int .u64 x.l.E, .int .i64 x.l.B, .bool x.l.L, sl]) (.agg #[.int .u64 y.l.E, .int .i64 y.l.B, .bool y.l.L, sl']) x.l y.l w2 ⟨sl, rfl, hx2.keep h, hx4.E, hx4.B⟩ ⟨sl', rfl, hy2.keep h, hy4.E, hy4.B⟩)
  have HP := Lib.hid (fun w2 (h : Below w.heap.size w w2) => same_any w2 (prV x.p sc) (prV y.p sc') x.p y.p ⟨sc, rfl, hx3.keep h, hx4.p⟩ ⟨sc', rfl, hy3.keep h, hy4.p⟩)
  unfold prV at HP
  obtain ⟨res, hres⟩ : ∃ r, r = sameM x y := ⟨_, rfl⟩
  rw [← hres]
  unfold sameM at hres
  obtain ⟨X1, hX1⟩ : ∃ r, r = sm1 x y := ⟨_, rfl⟩
  obtain ⟨X2, hX2⟩ : ∃ r, r = sm2 x y := ⟨_, rfl⟩
  rw [← hX1, ← hX2] at hres
  generalize decide (x.es = y.es) = X3 at *
  generalize sameL x.l y.l = X4 at *
  generalize sameP x.p y.p = X5 at *
  unfold sm1 at hX1
  unfold sm2 at hX2
  have HX1 := Lib.hid hX1
  have HX2 := Lib.hid hX2
  have HRES := Lib.hid hres
  have hbb : Below w.heap.size w ((w.alloc (.cells ma 33)).alloc (.cells mb 33)) := ((Below.refl w.heap.size w).alloc (Nat.le_refl _) _).alloc (by simp) _
  have hbx : Blk ((w.alloc (.cells ma 33)).alloc (.cells mb 33)) w.heap.size 33 (msA x se sl sc) := by rw [hma]; exact (Blk.new w _ _).alloc _
  have hby : Blk ((w.alloc (.cells ma 33)).alloc (.cells mb 33)) (w.heap.size + 1) 33 (msA y se' sl' sc') := by rw [hmb]; exact Blk.newAt (w := w.alloc (.cells ma 33)) _ _ (by simp)
  have HSX := Lib.hid hsx
  have HSY := Lib.hid hsy
  have HMX := Lib.hid hmx
  have HMY := Lib.hid hmy
  have HBx := Lib.hid hbx
  have HBy := Lib.hid hby
  have HB := Lib.hid hbb
  rw [e1, e2, e3] at HBx
  rw [e4, e5, e6] at HBy
  rw [e1, e4] at HE
  rw [e2, e5] at HL
  rw [e3, e6] at HP
  clear hx1 hx2 hx3 hx4 hy1 hy2 hy3 hy4 hma hmb hsx hsy hmx hmy hX1 hX2 hres hbb hbx hby e1 e2 e3 e4 e5 e6
  go_enter Try.func10, Try.ntmps10
  go_upto_region 1 with fail
  generalize (w.alloc (Obj.cells ma 33)).alloc (Obj.cells mb 33) = w2 at *
  have p0 : w2.cell? ⟨w.heap.size, 0, none⟩ = some (.int .i64 x.K) := by rw [HBx.out.cell]; rfl
  have p1 : w2.cell? ⟨w.heap.size, 1, none⟩ = some (.int .u64 x.T) := by rw [HBx.out.cell]; rfl
  have p2 : w2.cell? ⟨w.heap.size, 2, none⟩ = some (.int .i64 x.P) := by rw [HBx.out.cell]; rfl
  have p3 : w2.cell? ⟨w.heap.size, 3, none⟩ = some (.int .u64 x.PT) := by rw [HBx.out.cell]; rfl
  have p4 : w2.cell? ⟨w.heap.size, 4, none⟩ = some (.slice a1 x.es.length c1) := by rw [HBx.out.cell]; rfl
  have p5 : w2.cell? ⟨w.heap.size, 5, none⟩ = some (.int .i64 x.C) := by rw [HBx.out.cell]; rfl
  have p6 : w2.cell? ⟨w.heap.size, 6, none⟩ = some (.bool x.Y) := by rw [HBx.out.cell]; rfl
  have p7 : w2.cell? ⟨w.heap.size, 7, none⟩ = some (.int .i64 x.M) := by rw [HBx.out.cell]; rfl
  have p8 : w2.cell? ⟨w.heap.size, 8, none⟩ = some (.int .i64 x.S) := by rw [HBx.out.cell]; rfl
  have p9 : w2.cell? ⟨w.heap.size, 9, none⟩ = some (.int .u64 x.l.E) := by rw [HBx.out.cell]; rfl
  have p10 : w2.cell? ⟨w.heap.size, 10, none⟩ = some (.int .i64 x.l.B) := by rw [HBx.out.cell]; rfl
  have p11 : w2.cell? ⟨w.heap.size, 11, none⟩ = some (.bool x.l.L) := by rw [HBx.out.cell]; rfl
  have p12 : w2.cell? ⟨w.heap.size, 12, none⟩ = some (.slice a2 x.l.l.length c2) := by rw [HBx.out.cell]; rfl
  have p13 : w2.cell? ⟨w.heap.size, 13, none⟩ = some (.int .i64 x.n) := by rw [HBx.out.cell]; rfl
  have p14 : w2.cell? ⟨w.heap.size, 14, none⟩ = some (.int .u64 x.la.1) := by rw [HBx.out.cell]; rfl
  have p15 : w2.cell? ⟨w.heap.size, 15, none⟩ = some (.int .u64 x.la.2) := by rw [HBx.out.cell]; rfl
  have p16 : w2.cell? ⟨w.heap.size, 16, none⟩ = some (.int .u64 x.ta.1) := by rw [HBx.out.cell]; rfl
  have p17 : w2.cell? ⟨w.heap.size, 17, none⟩ = some (.int .u64 x.ta.2) := by rw [HBx.out.cell]; rfl
  have p18 : w2.cell? ⟨w.heap.size, 18, none⟩ = some (.int .i64 x.N) := by rw [HBx.out.cell]; rfl
  have p19 : w2.cell? ⟨w.heap.size, 19, none⟩ = some (.int .u64 x.p.b.1) := by rw [HBx.out.cell]; rfl
  have p20 : w2.cell? ⟨w.heap.size, 20, none⟩ = some (.int .u64 x.p.b.2) := by rw [HBx.out.cell]; rfl
  have p21 : w2.cell? ⟨w.heap.size, 21, none⟩ = some (.int .u64 x.p.t.1) := by rw [HBx.out.cell]; rfl
  have p22 : w2.cell? ⟨w.heap.size, 22, none⟩ = some (.int .u64 x.p.t.2) := by rw [HBx.out.cell]; rfl
  have p23 : w2.cell? ⟨w.heap.size, 23, none⟩ = some (.int .i64 x.p.f) := by rw [HBx.out.cell]; rfl
  have p24 : w2.cell? ⟨w.heap.size, 24, none⟩ = some (.int .i64 x.p.a) := by rw [HBx.out.cell]; rfl
  have p25 : w2.cell? ⟨w.heap.size, 25, none⟩ = some (.slice a3 x.p.cs.length c3) := by rw [HBx.out.cell]; rfl
  have q0 : w2.cell? ⟨w.heap.size + 1, 0, none⟩ = some (.int .i64 y.K) := by rw [HBy.out.cell]; rfl
  have q1 : w2.cell? ⟨w.heap.size + 1, 1, none⟩ = some (.int .u64 y.T) := by rw [HBy.out.cell]; rfl
  have q2 : w2.cell? ⟨w.heap.size + 1, 2, none⟩ = some (.int .i64 y.P) := by rw [HBy.out.cell]; rfl
  have q3 : w2.cell? ⟨w.heap.size + 1, 3, none⟩ = some (.int .u64 y.PT) := by rw [HBy.out.cell]; rfl
  have q4 : w2.cell? ⟨w.heap.size + 1, 4, none⟩ = some (.slice a4 y.es.length c4) := by rw [HBy.out.cell]; rfl
  have q5 : w2.cell? ⟨w.heap.size + 1, 5, none⟩ = some (.int .i64 y.C) := by rw [HBy.out.cell]; rfl
  have q6 : w2.cell? ⟨w.heap.size + 1, 6, none⟩ = some (.bool y.Y) := by rw [HBy.out.cell]; rfl
  have q7 : w2.cell? ⟨w.heap.size + 1, 7, none⟩ = some (.int .i64 y.M) := by rw [HBy.out.cell]; rfl
  have q8 : w2.cell? ⟨w.heap.size + 1, 8, none⟩ = some (.int .i64 y.S) := by rw [HBy.out.cell]; rfl
  have q9 : w2.cell? ⟨w.heap.size + 1, 9, none⟩ = some (.int .u64 y.l.E) := by rw [HBy.out.cell]; rfl
  have q10 : w2.cell? ⟨w.heap.size + 1, 10, none⟩ = some (.int .i64 y.l.B) := by rw [HBy.out.cell]; rfl
  have q11 : w2.cell? ⟨w.heap.size + 1, 11, none⟩ = some (.bool y.l.L) := by rw [HBy.out.cell]; rfl
  have q12 : w2.cell? ⟨w.heap.size + 1, 12, none⟩ = some (.slice a5 y.l.l.length c5) := by rw [HBy.out.cell]; rfl
  have q13 : w2.cell? ⟨w.heap.size + 1, 13, none⟩ = some (.int .i64 y.n) := by rw [HBy.out.cell]; rfl
  have q14 : w2.cell? ⟨w.heap.size + 1, 14, none⟩ = some (.int .u64 y.la.1) := by rw [HBy.out.cell]; rfl
  have q15 : w2.cell? ⟨w.heap.size + 1, 15, none⟩ = some (.int .u64 y.la.2) := by rw [HBy.out.cell]; rfl
  have q16 : w2.cell? ⟨w.heap.size + 1, 16, none⟩ = some (.int .u64 y.ta.1) := by rw [HBy.out.cell]; rfl
  have q17 : w2.cell? ⟨w.heap.size + 1, 17, none⟩ = some (.int .u64 y.ta.2) := by rw [HBy.out.cell]; rfl
  have q18 : w2.cell? ⟨w.heap.size + 1, 18, none⟩ = some (.int .i64 y.N) := by rw [HBy.out.cell]; rfl
  have q19 : w2.cell? ⟨w.heap.size + 1, 19, none⟩ = some (.int .u64 y.p.b.1) := by rw [HBy.out.cell]; rfl
  have q20 : w2.cell? ⟨w.heap.size + 1, 20, none⟩ = some (.int .u64 y.p.b.2) := by rw [HBy.out.cell]; rfl
  have q21 : w2.cell? ⟨w.heap.size + 1, 21, none⟩ = some (.int .u64 y.p.t.1) := by rw [HBy.out.cell]; rfl
  have q22 : w2.cell? ⟨w.heap.size + 1, 22, none⟩ = some (.int .u64 y.p.t.2) := by rw [HBy.out.cell]; rfl
  have q23 : w2.cell? ⟨w.heap.size + 1, 23, none⟩ = some (.int .i64 y.p.f) := by rw [HBy.out.cell]; rfl
  have q24 : w2.cell? ⟨w.heap.size + 1, 24, none⟩ = some (.int .i64 y.p.a) := by rw [HBy.out.cell]; rfl
  have q25 : w2.cell? ⟨w.heap.size + 1, 25, none⟩ = some (.slice a6 y.p.cs.length c6) := by rw [HBy.out.cell]; rfl
  have PP := Lib.hid (And.intro p4 (And.intro p9 (And.intro p10 (And.intro p11 (And.intro p12 (And.intro p19 (And.intro p20 (And.intro p21 (And.intro p22 (And.intro p23 (And.intro p24 p25)))))))))))
  have QQ := Lib.hid (And.intro q4 (And.intro q9 (And.intro q10 (And.intro q11 (And.intro q12 (And.intro q19 (And.intro q20 (And.intro q21 (And.intro q22 (And.intro q23 (And.intro q24 q25)))))))))))
  have P2 := Lib.hid (And.intro p13 (And.intro p14 (And.intro p15 (And.intro p16 (And.intro p17 p18)))))
  have Q2 := Lib.hid (And.intro q13 (And.intro q14 (And.intro q15 (And.intro q16 (And.intro q17 q18)))))
  clear p4 p9 p10 p11 p12 p19 p20 p21 p22 p23 p24 p25 q4 q9 q10 q11 q12 q19 q20 q21 q22 q23 q24 q25 p13 p14 p15 p16 p17 p18 q13 q14 q15 q16 q17 q18
  go_cut [5] from 7 to 60 (fun c wx => c = .bool X1 ∧ wx = w2)
  case first =>
    obtain ⟨e0, f0⟩ : ∃ e, (x.K == y.K) = e := ⟨_, rfl⟩
    obtain ⟨e1, f1⟩ : ∃ e, (x.T == y.T) = e := ⟨_, rfl⟩
    obtain ⟨e2, f2⟩ : ∃ e, (x.P == y.P) = e := ⟨_, rfl⟩
    obtain ⟨e3, f3⟩ : ∃ e, (x.PT == y.PT) = e := ⟨_, rfl⟩
    obtain ⟨e4, f4⟩ : ∃ e, (x.C == y.C) = e := ⟨_, rfl⟩
    obtain ⟨e5, f5⟩ : ∃ e, (x.Y == y.Y) = e := ⟨_, rfl⟩
    obtain ⟨e6, f6⟩ : ∃ e, (x.M == y.M) = e := ⟨_, rfl⟩
    obtain ⟨e7, f7⟩ : ∃ e, (x.S == y.S) = e := ⟨_, rfl⟩
    have hx := HX1.out
    rw [f0, f1, f2, f3, f4, f5, f6, f7] at hx
    cases e0 with
    | false =>
      have HXX := Lib.hid hx
      clear hx
      go_wp2_with fail
      go_meet
      exact ⟨by rw [HXX.out]; rfl, rfl⟩
    | true =>
      cases e1 with
      | false =>
        have HXX := Lib.hid hx
        clear hx
        go_wp2_with fail
        go_meet
        exact ⟨by rw [HXX.out]; rfl, rfl⟩
      | true =>
        cases e2 with
        | false =>
          have HXX := Lib.hid hx
          clear hx
          go_wp2_with fail
          go_meet
          exact ⟨by rw [HXX.out]; rfl, rfl⟩
        | true =>
          cases e3 with
          | false =>
            have HXX := Lib.hid hx
            clear hx
            go_wp2_with fail
            go_meet
            exact ⟨by rw [HXX.out]; rfl, rfl⟩
          | true =>
            cases e4 with
            | false =>
              have HXX := Lib.hid hx
              clear hx
              go_wp2_with fail
              go_meet
              exact ⟨by rw [HXX.out]; rfl, rfl⟩
            | true =>
              cases e5 with
              | false =>
                have HXX := Lib.hid hx
                clear hx
                go_wp2_with fail
                go_meet
                exact ⟨by rw [HXX.out]; rfl, rfl⟩
              | true =>
                cases e6 with
                | false =>
                  have HXX := Lib.hid hx
                  clear hx
                  go_wp2_with fail
                  go_meet
                  exact ⟨by rw [HXX.out]; rfl, rfl⟩
                | true =>
                  cases e7 with
                  | false =>
                    have HXX := Lib.hid hx
                    clear hx
                    go_wp2_with fail
                    go_meet
                    exact ⟨by rw [HXX.out]; rfl, rfl⟩
                  | true =>
                    have HXX := Lib.hid hx
                    clear hx
                    go_wp2_with fail
                    go_meet
                    exact ⟨by rw [HXX.out]; rfl, rfl⟩
  case rest =>
  obtain ⟨rfl, hwc⟩ := hcut
  subst hwc
  clear p0 p1 p2 p3 p5 p6 p7 p8 q0 q1 q2 q3 q5 q6 q7 q8
  go_upto_region 2 with fail
  obtain ⟨p13, p14, p15, p16, p17, p18⟩ := P2.out
  obtain ⟨q13, q14, q15, q16, q17, q18⟩ := Q2.out
  go_cut [6] from 61 to 86 (fun c wx => c = .bool X2 ∧ wx = wc)
  case first =>
    have hg1 := fun w => run_eq_guid x.la.1 x.la.2 y.la.1 y.la.2 w
    have hg2 := fun w => run_eq_guid x.ta.1 x.ta.2 y.ta.1 y.ta.2 w
    obtain ⟨e0, f0⟩ : ∃ e, (x.n == y.n) = e := ⟨_, rfl⟩
    obtain ⟨e1, f1⟩ : ∃ e, (x.la.1 == y.la.1 && x.la.2 == y.la.2) = e := ⟨_, rfl⟩
    obtain ⟨e2, f2⟩ : ∃ e, (x.ta.1 == y.ta.1 && x.ta.2 == y.ta.2) = e := ⟨_, rfl⟩
    obtain ⟨e3, f3⟩ : ∃ e, (x.N == y.N) = e := ⟨_, rfl⟩
    have hx := HX2.out
    rw [f0, f1, f2, f3] at hx
    simp only [f1] at hg1
    simp only [f2] at hg2
    clear f1 f2
    cases e0 with
    | false =>
      have HXX := Lib.hid hx
      clear hx
      go_wp2_with fail
      go_meet
      exact ⟨by rw [HXX.out]; rfl, rfl⟩
    | true =>
      cases e1 with
      | false =>
        have HXX := Lib.hid hx
        clear hx
        go_wp2_with fail
        go_meet
        exact ⟨by rw [HXX.out]; rfl, rfl⟩
      | true =>
        cases e2 with
        | false =>
          have HXX := Lib.hid hx
          clear hx
          go_wp2_with fail
          go_meet
          exact ⟨by rw [HXX.out]; rfl, rfl⟩
        | true =>
          cases e3 with
          | false =>
            have HXX := Lib.hid hx
            clear hx
            go_wp2_with fail
            go_meet
            exact ⟨by rw [HXX.out]; rfl, rfl⟩
          | true =>
            have HXX := Lib.hid hx
            clear hx
            go_wp2_with fail
            go_meet
            exact ⟨by rw [HXX.out]; rfl, rfl⟩
  case rest =>
  obtain ⟨rfl, hwc⟩ := hcut
  subst hwc
  clear p13 p14 p15 p16 p17 p18 q13 q14 q15 q16 q17 q18 HX1 HX2 P2 Q2
  cases X1 with
  | false =>
    clear PP QQ HE HL HP HBx HBy
    go_wp2
    go_ret
    exact ⟨by rw [HRES.out]; rfl, HB.out⟩
  | true =>
    cases X2 with
    | false =>
      clear PP QQ HE HL HP HBx HBy
      go_wp2
      go_ret
      exact ⟨by rw [HRES.out]; rfl, HB.out⟩
    | true =>
      obtain ⟨p4, p9, p10, p11, p12, p19, p20, p21, p22, p23, p24, p25⟩ := PP.out
      obtain ⟨q4, q9, q10, q11, q12, q19, q20, q21, q22, q23, q24, q25⟩ := QQ.out
      go_wp2_with fail
      refine (HE.out _ HB.out).mono ?_
      rintro e w3 ⟨rfl, hb⟩
      have hB3 := HB.out.trans (hb.mono HB.out.size)
      have HB3 := Lib.hid hB3
      have HBx3 := Lib.hid (HBx.out.keep hb)
      have HBy3 := Lib.hid (HBy.out.keep hb)
      clear hB3 hb p4 p9 p10 p11 p12 p19 p20 p21 p22 p23 p24 p25 q4 q9 q10 q11 q12 q19 q20 q21 q22 q23 q24 q25 PP QQ HE HBx HBy HB
      cases X3 with
      | false =>
        go_wp2
        go_ret
        exact ⟨by rw [HRES.out]; rfl, HB3.out⟩
      | true =>
        have p9 : w3.cell? ⟨w.heap.size, 9, none⟩ = some (.int .u64 x.l.E) := by rw [HBx3.out.cell]; rfl
        have p10 : w3.cell? ⟨w.heap.size, 10, none⟩ = some (.int .i64 x.l.B) := by rw [HBx3.out.cell]; rfl
        have p11 : w3.cell? ⟨w.heap.size, 11, none⟩ = some (.bool x.l.L) := by rw [HBx3.out.cell]; rfl
        have p12 : w3.cell? ⟨w.heap.size, 12, none⟩ = some (.slice a2 x.l.l.length c2) := by rw [HBx3.out.cell]; rfl
        have q9 : w3.cell? ⟨w.heap.size + 1, 9, none⟩ = some (.int .u64 y.l.E) := by rw [HBy3.out.cell]; rfl
        have q10 : w3.cell? ⟨w.heap.size + 1, 10, none⟩ = some (.int .i64 y.l.B) := by rw [HBy3.out.cell]; rfl
        have q11 : w3.cell? ⟨w.heap.size + 1, 11, none⟩ = some (.bool y.l.L) := by rw [HBy3.out.cell]; rfl
        have q12 : w3.cell? ⟨w.heap.size + 1, 12, none⟩ = some (.slice a5 y.l.l.length c5) := by rw [HBy3.out.cell]; rfl
        go_wp2_with fail
        refine (HL.out _ HB3.out).mono ?_
        rintro e w4 ⟨rfl, hb⟩
        have hB4 := HB3.out.trans (hb.mono HB3.out.size)
        have HB4 := Lib.hid hB4
        have HBx4 := Lib.hid (HBx3.out.keep hb)
        have HBy4 := Lib.hid (HBy3.out.keep hb)
        clear hB4 hb HL HBx3 HBy3 HB3 p9 p10 p11 p12 q9 q10 q11 q12
        cases X4 with
        | false =>
          go_wp2
          go_ret
          exact ⟨by rw [HRES.out]; rfl, HB4.out⟩
        | true =>
          have p19 : w4.cell? ⟨w.heap.size, 19, none⟩ = some (.int .u64 x.p.b.1) := by rw [HBx4.out.cell]; rfl
          have p20 : w4.cell? ⟨w.heap.size, 20, none⟩ = some (.int .u64 x.p.b.2) := by rw [HBx4.out.cell]; rfl
          have p21 : w4.cell? ⟨w.heap.size, 21, none⟩ = some (.int .u64 x.p.t.1) := by rw [HBx4.out.cell]; rfl
          have p22 : w4.cell? ⟨w.heap.size, 22, none⟩ = some (.int .u64 x.p.t.2) := by rw [HBx4.out.cell]; rfl
          have p23 : w4.cell? ⟨w.heap.size, 23, none⟩ = some (.int .i64 x.p.f) := by rw [HBx4.out.cell]; rfl
          have p24 : w4.cell? ⟨w.heap.size, 24, none⟩ = some (.int .i64 x.p.a) := by rw [HBx4.out.cell]; rfl
          have p25 : w4.cell? ⟨w.heap.size, 25, none⟩ = some (.slice a3 x.p.cs.length c3) := by rw [HBx4.out.cell]; rfl
          have q19 : w4.cell? ⟨w.heap.size + 1, 19, none⟩ = some (.int .u64 y.p.b.1) := by rw [HBy4.out.cell]; rfl
          have q20 : w4.cell? ⟨w.heap.size + 1, 20, none⟩ = some (.int .u64 y.p.b.2) := by rw [HBy4.out.cell]; rfl
          have q21 : w4.cell? ⟨w.heap.size + 1, 21, none⟩ = some (.int .u64 y.p.t.1) := by rw [HBy4.out.cell]; rfl
          have q22 : w4.cell? ⟨w.heap.size + 1, 22, none⟩ = some (.int .u64 y.p.t.2) := by rw [HBy4.out.cell]; rfl
          have q23 : w4.cell? ⟨w.heap.size + 1, 23, none⟩ = some (.int .i64 y.p.f) := by rw [HBy4.out.cell]; rfl
          have q24 : w4.cell? ⟨w.heap.size + 1, 24, none⟩ = some (.int .i64 y.p.a) := by rw [HBy4.out.cell]; rfl
          have q25 : w4.cell? ⟨w.heap.size + 1, 25, none⟩ = some (.slice a6 y.p.cs.length c6) := by rw [HBy4.out.cell]; rfl
          go_wp2_with fail
          refine (HP.out _ HB4.out).mono ?_
          rintro e w5 ⟨rfl, hb⟩
          have HB5 := Lib.hid (HB4.out.trans (hb.mono HB4.out.size))
          clear hb p19 p20 p21 p22 p23 p24 p25 q19 q20 q21 q22 q23 q24 q25 HP HBx4 HBy4 HB4
          go_wp2
          go_ret
          exact ⟨by rw [HRES.out]; rfl, HB5.out⟩
end Go.Proofs.Ytikimmhkfjaijaa
