/-
  LookFinds, WALKED (printed by wip/gen-lookfinds.py).
-/
import Derived.Test.YteplcpiamocclaaFindQ
import Derived.Test.YteplcpiamocclaaOpenShape
namespace Go.Proofs.Yteplcpiamocclaa
open Go.RowKit Reg Go.ChangeShapes

theorem wrapS {y : Nat} (h : y ≤ 1000) : wrap64 (y : Int) = (y : Int) := IntWalk.wrap64_in _ (by omega)
theorem wrapS1 {y : Nat} (h : y ≤ 1000) : wrap64 ((y : Int) + 1) = (y : Int) + 1 := IntWalk.wrap64_in _ (by omega)
theorem wrapSm {y : Nat} (h : y ≤ 1000) : wrap64 ((y : Int) - 1) = (y : Int) - 1 := IntWalk.wrap64_in _ (by omega)
theorem min_ite (a c : Nat) : (if c < a then (c : Int) else (a : Int)) = ((min a c : Nat) : Int) := by split <;> omega
theorem wf_small {y : Nat} (h : 0 ≤ (y : Int) ∧ (y : Int) < 256) : y ≤ 1000 := by omega
theorem hk12 {H kk K0 N y : Nat} (hH : H = min kk K0) (hkk : kk = y % (N + 1)) (hN : N < 12) : H ≤ 12 := by
  have := Nat.mod_lt y (show 0 < N + 1 by omega)
  rw [← hkk] at this
  omega
theorem p2lt {p s H : Nat} (hp : p = s % (H - 1)) (hH : 1 < H) : p + 1 < H := by
  have := Nat.mod_lt s (show 0 < H - 1 by omega)
  rw [← hp] at this
  omega
theorem nzm {H : Nat} (h : 1 < H) : ¬ ((H : Int) - 1 = 0) := by omega
theorem b255 {s : Nat} (h : (s : Int) ≤ 255) : s ≤ 1000 := by omega
theorem ltz {i m : Nat} (h : i < m) : (i : Int) < (m : Int) := by omega
theorem nz1 (y : Nat) : ¬ ((y : Int) + 1 = 0) := by omega
theorem tmod1 (y N : Nat) : (y : Int).tmod ((N : Int) + 1) = ((y % (N + 1) : Nat) : Int) := by
  rw [Int.tmod_eq_emod_of_nonneg (by omega)]
  exact (Int.natCast_emod _ _).symm
theorem tmodm {y N : Nat} (h : 1 < N) : (y : Int).tmod ((N : Int) - 1) = ((y % (N - 1) : Nat) : Int) := by
  rw [Int.tmod_eq_emod_of_nonneg (by omega), show (N : Int) - 1 = ((N - 1 : Nat) : Int) by omega]
  exact (Int.natCast_emod _ _).symm
theorem mxi {A C : Nat} : (if A < C then (C : Int) else (A : Int)) = ((max A C : Nat) : Int) := by split <;> omega
theorem wrapK1 {y : Nat} (h : y ≤ 1000) : IntKind.i64.wrap ((y : Int) + 1) = ((y + 1 : Nat) : Int) := by
  rw [IntWalk.i64_in _ (by omega)]
  omega
def kindsF (n s : Nat) (u : Value) : Prop := if s = 19 then ∃ a c, u = .slice a n c else kinds [(22, .is undef)] s u
theorem kindsF_inh (n s : Nat) : ∃ u, kindsF n s u := by
  unfold kindsF
  split
  · exact ⟨.slice none n 0, none, 0, rfl⟩
  · exact kinds_inh _ s
theorem InG.room {w : World} {a : Option Addr} {n c : Nat} {gs : List Gd} (h : InG w (.slice a n c) gs) : n = gs.length ∧ (gs.length = 0 ∨ gs.length ≤ c) := by
  obtain ⟨⟨a', c', e, h⟩, _⟩ := h
  simp only [Value.slice.injEq] at e
  obtain ⟨rfl, rfl, rfl⟩ := e
  rcases h with rfl | ⟨h, _⟩
  · exact ⟨rfl, .inl rfl⟩
  · exact ⟨rfl, .inr h⟩
theorem len_list {N m : Nat} {xs : List Shp} {es : List El} (hst : es.map El.strip = builtB (linG N) xs m) {i : Nat} (hi : i < m) (hN : N < 12) :
    (xs.getD i shp0).h.toNat % (N + 1) ≤ (nth es i).list.length ∧ (nth es i).list.length ≤ 15 := by
  have e := nth_strip es i
  rw [hst, builtB_nth _ _ hi] at e
  have e := congrArg El.list e
  rw [nodeB_list] at e
  have e : lst N _ i _ = (nth es i).list := e
  have hm := Nat.mod_lt (xs.getD i shp0).h.toNat (show 0 < N + 1 by omega)
  rw [← e, lst_len (by omega)]
  omega
theorem CpS.ok_ins {w w1 : World} {g n cap i : Nat} {es : List El} {e' : El} (h : CpS w g n cap (es.set i e')) (hb : Below w1.heap.size w1 w) (hok : ∀ j, j < n → ElOK w1 (nth es j)) (hn : n = es.length) (he : ElOK w e') : InS w (.slice (some ⟨g, 0, none⟩) n cap) (es.set i e') := by
  refine h.ins fun e hm => ?_
  rcases List.mem_or_eq_of_mem_set hm with h1 | h1
  · obtain ⟨j, hj, rfl⟩ := List.getElem_of_mem h1
    have := hok j (by omega)
    have e2 : nth es j = es[j] := by simp [nth, hj]
    rw [e2] at this
    exact this.keep hb
  · rw [h1]; exact he
theorem pre_of_strip {L : List Gd} {xs : List Shp} {m : Nat} {es : List El} (h : es.map El.strip = builtB L xs m) : Pre L es := fun e he => by
  obtain ⟨t, ht⟩ := builtB_pre L xs m e.strip (by rw [← h]; exact List.mem_map_of_mem he)
  exact ⟨t, ht⟩
theorem tmodK (s K : Nat) : (s : Int).tmod (K : Int) = ((s % K : Nat) : Int) := by
  rw [Int.tmod_eq_emod_of_nonneg (by omega)]
  exact (Int.natCast_emod _ _).symm
theorem len_line {N m : Nat} {xs : List Shp} {es : List El} (hst : es.map El.strip = builtB (linG N) xs m) {i : Nat} (_ : i < m) (hN : N < 12) : (nth es i).line.length ≤ 15 := by
  obtain ⟨t, ht⟩ := pre_nth (pre_of_strip hst) i
  rw [ht, List.length_take, linG_len]
  omega
section
variable {w1 w : World} {gw nl cap q50 qx base p : Nat} {bx : Array Value} {es : List El} {v : Value} {l : List Gd} {σ : Nat → Option Value}
theorem FCs.cp_ (h : FCs w1 gw nl cap q50 qx base bx es v l p σ w) : CpS w gw nl cap es := by unfold FCs at h; exact h.cp
theorem FCs.k50_ (h : FCs w1 gw nl cap q50 qx base bx es v l p σ w) : Blk w q50 34 #[.int .u64 50, .int .u64 1] := by unfold FCs at h; exact h.k50
end
theorem ms_lt {n j : Nat} (h : j < n) : n - (intOf (Value.int .i64 ((j : Int) + 1))).toNat < n - (intOf (Value.int .i64 (j : Int))).toNat := by
  simp [intOf]
  omega
theorem nltz {i m : Nat} (h : ¬ i < m) : ¬ (i : Int) < (m : Int) := by omega
theorem nlt1 {H : Nat} (h : ¬ 1 < H) : ¬ (1 : Int) < (H : Int) := by omega
theorem lt1 {H : Nat} (h : 1 < H) : (1 : Int) < (H : Int) := by omega
theorem lt63 {j nl uc : Nat} (h : (nl = 0 ∨ nl ≤ uc) ∧ nl ≤ maxLen) (hj : j < nl) : (j : Int) < 9223372036854775807 := by
  have := h.2
  unfold maxLen at this
  omega
theorem toNat_ex {x : Int} (h : 0 ≤ x ∧ x < 256) : ∃ z : Nat, x = z := ⟨x.toNat, by omega⟩
theorem lt_min6 {i nl m : Nat} (h : nl = min m 6) (hi : i < nl) : i < m := by omega
theorem small6 {j nl m : Nat} (h : nl = min m 6) (hi : j < nl) : j ≤ 1000 := by omega
theorem nneg {Z : Int} (h : 0 ≤ Z) : ¬ Z < 0 := by omega
theorem neqz {i j : Nat} (h : ¬ j = i) : ¬ (j : Int) = (i : Int) := by omega
theorem neq_len {j nl : Nat} (h1 : j ≤ nl) (h2 : ¬ j < nl) : nl = j := by omega
theorem FCs.put_ {w1 w : World} {gw nl cap q50 qx base q k c p : Nat} {bx : Array Value} {es : List El} {l : List Gd} {σ : Nat → Option Value} {u : Value} (h : FC w1 gw nl cap q50 qx base bx es (.slice (some ⟨q, 0, none⟩) k c) l w) (hq : base ≤ q) (hp : p < l.length) :
    FCs w1 gw nl cap q50 qx base bx es (.slice (some ⟨q, 0, none⟩) k c) l p (upd σ 9 u) (w.setCells q (p * 2) [.int .u64 50, .int .u64 1]) := by
  unfold FCs
  rw [upd_same]
  exact h.put hq hp
theorem nzK {K : Nat} (h : 0 < K) : ¬ ((K : Int) = 0) := by omega
theorem posK {K : Nat} (h : 0 < K) : (0 : Int) < (K : Int) := by omega
theorem CpS.cast {w : World} {g n cap i : Nat} {es : List El} {e' e'' : El} (h : CpS w g n cap (es.set i e')) (he : e''.cells = e'.cells) (hi : i < es.length) (u : Value) (hc : e'.cells.toList = (nth es i).cells.toList.set 5 u) : CpS w g n cap (es.set i e'') := by
  obtain ⟨cur, h1, h2, h3, h4, h5, h6, h7⟩ := h
  have e1 := cellsS_set es i 5 e' u hi (by decide) hc
  have e2 := cellsS_set es i 5 e'' u hi (by decide) (by rw [he]; exact hc)
  rw [e1, ← e2] at h6 h7
  exact ⟨cur, h1, by rw [List.length_set] at h2 ⊢; exact h2, h3, h4, h5, h6, h7⟩
set_option maxRecDepth 100000 in
set_option maxHeartbeats 2400000 in
theorem law_LookFinds (n : Int) (v : Value) (xs : List Shp) (q : List Int) (w : World) (hn0 : (Lit.int .u8 n).wf = true) (hv : InH w v xs) (_ : True) (hq2 : q.length = 2) (hqw : ∀ x ∈ q, (Lit.int .u8 x).wf = true) :
    Calls Try.prog 4 #[.int .u8 n, v, .agg (q.map (Value.int .u8)).toArray] w fun e w' => e = .returned (.bool true) ∧ Below w.heap.size w w' := by
  obtain ⟨b, s, rfl⟩ : ∃ b s, q = [b, s] := by
    match q, hq2 with
    | [b, s], _ => exact ⟨b, s, rfl⟩
  have hb0 := lit_u8.1 (hqw b (by simp))
  have hs0 := lit_u8.1 (hqw s (by simp))
  obtain ⟨b, rfl⟩ : ∃ z : Nat, b = z := ⟨b.toNat, by omega⟩
  obtain ⟨s, rfl⟩ : ∃ z : Nat, s = z := ⟨s.toNat, by omega⟩
  have hn := lit_u8.1 hn0
  have hbu := fun w0 (hb : Below w.heap.size w w0) => built_any n v xs w0 (by omega) (hv.keep hb)
  obtain ⟨va, vc, rfl, hml, hxs⟩ := hv
  obtain ⟨N, hN⟩ : ∃ z, z = n.toNat % 12 := ⟨_, rfl⟩
  rw [← hN] at hbu
  have hmod : n.tmod 12 = (N : Int) := by rw [Int.tmod_eq_emod_of_nonneg hn.1]; omega
  have hn12 : N < 12 := by omega
  have HX := Lib.hid hxs
  have HML := Lib.hid hml
  have HN12 := Lib.hid hn12
  have HMOD := Lib.hid hmod
  have hbx := (Below.refl w.heap.size w).alloc (Nat.le_refl _) (Obj.cells #[.int .u8 (b : Int), .int .u8 (s : Int)] 31)
  have HBU := Lib.hid (hbu _ hbx)
  have HBX := Lib.hid hbx
  have HKX := Lib.hid (Blk.new w 31 #[.int .u8 (b : Int), .int .u8 (s : Int)])
  have HBS := Lib.hid (And.intro hb0.2 hs0.2)
  clear hxs hml hN hn hn12 hbu hn0 hb0 hs0 hq2 hqw hmod hbx
  generalize hxl : xs.length = m at *
  have HXL := Lib.hid hxl
  clear hxl
  simp only [List.map_cons, List.map_nil]
  go_enter Try.func4, Try.ntmps4
  go_wp2_with fail
  refine HBU.out.mono ?_
  rintro e w1 ⟨u, es, rfl, hin, hst, hb⟩
  have hel : es.length = min m 6 := by
    have := congrArg List.length hst
    rwa [List.length_map, builtB_len] at this
  have hin0 := hin
  obtain ⟨ua, uc, e0, hcap, hml0, hx0⟩ := hin0
  subst e0
  rw [← hel] at hst
  have HKX := Lib.hid (HKX.out.keep hb)
  have HB := Lib.hid (HBX.out.trans (hb.mono HBX.out.size))
  obtain ⟨qx, hqx⟩ : ∃ z, z = w.heap.size := ⟨_, rfl⟩
  rw [← hqx] at HKX
  rw [← hqx]
  have HQX := Lib.hid hqx
  obtain ⟨nl, hnl⟩ : ∃ z, z = es.length := ⟨_, rfl⟩
  have hlt1 : qx < w1.heap.size := HKX.out.lt
  have HLT1 := Lib.hid hlt1
  rw [← hnl] at hst hel hcap hml0 hx0 hin
  rw [← hnl]
  have HIN := Lib.hid hin
  have HX0 := Lib.hid hx0
  have HEL := Lib.hid hel
  have HNL := Lib.hid hnl
  have HST := Lib.hid hst
  have HM0 := Lib.hid (And.intro hcap hml0)
  clear hin hst hb hel HBU hx0 hnl hml0 hcap HBX hqx hlt1
  by_cases h2 : nl < 2
  · have i1 : (nl : Int) < 2 := by omega
    go_wp2_with fail
    refine (works_any _).mono ?_
    rintro e w9 ⟨rfl, hb⟩
    have HB9 := Lib.hid (HB.out.trans (hb.mono HB.out.size))
    clear hb
    go_wp2
    go_ret
    exact ⟨rfl, HB9.out⟩
  have i1 : ¬ (nl : Int) < 2 := by omega
  obtain ⟨i, hi⟩ : ∃ z, z = b % nl := ⟨_, rfl⟩
  have hr : (b : Int).tmod (nl : Int) = (i : Int) := by rw [Int.tmod_eq_emod_of_nonneg (by omega), hi]; exact (Int.natCast_emod _ _).symm
  have hilt : i < nl := by rw [hi]; exact Nat.mod_lt _ (by omega)
  have HI := Lib.hid (And.intro hilt (show 2 ≤ nl by omega))
  have hnz : ¬ (nl : Int) = 0 := by omega
  obtain ⟨⟨g, off, rfl, hsi⟩, hoki⟩ := HX0.out i hilt
  change SeenAt w1 g (off + i * 9) (nth es i) at hsi
  change ElOK w1 (nth es i) at hoki
  have iim : (i : Int) < (nl : Int) := by omega
  have c0 := HKX.out.cell 0
  have c1 := HKX.out.cell 1
  simp at c0 c1
  have h50 := (Below.refl w1.heap.size w1).alloc (Nat.le_refl _) (Obj.cells #[.int .u64 50, .int .u64 1] 34)
  have k50 := Blk.new w1 34 #[.int .u64 50, .int .u64 1]
  obtain ⟨K, hK⟩ : ∃ z, z = (nth es i).line.length := ⟨_, rfl⟩
  obtain ⟨z0, z1, z2, z3, z4, z5, z6, z7, z8⟩ := hsi.keep h50
  dsimp only [El.vl, El.vs, El.vt, El.vi] at z5 z6 z7 z8
  rw [← hK] at z5
  have HSI := Lib.hid hsi
  have HOKI := Lib.hid hoki
  have HK := Lib.hid hK
  have H50 := Lib.hid h50
  have K50 := Lib.hid k50
  have hw64 : wrap64 (b : Int) = (b : Int) := by have := HBS.out.1; unfold wrap64; omega
  clear hi h2 hilt hsi hoki hK h50 k50 z0 z1 z2 z3 z4 z6 z7 z8
  by_cases hk : 0 < K
  case neg =>
    have i3 : ¬ (0 : Int) < (K : Int) := by omega
    have i4 : ¬ 0 < K := hk
    clear hk
    go_wp2_with fail
    have HBW := H50
    have HKW := Lib.hid (HKX.out.keep HBW.out)
    generalize (w1.alloc (Obj.cells #[.int .u64 50, .int .u64 1] 34)) = w2 at *
    go_loopw [16, 17] (fun a t wr => ∃ j : Nat, j ≤ nl ∧ a = .int .i64 (((kn (es.take j)).length : Nat) : Int) ∧ t = .int .i64 j ∧ w2 = wr) (fun _ t _ => nl - (intOf t).toNat)
    case atStart => exact ⟨0, Nat.zero_le _, rfl, rfl, rfl⟩
    case round =>
      obtain ⟨j, hjn, rfl, rfl, rfl⟩ := hrel
      by_cases h1 : j < nl
      · have hnl := HNL.out
        obtain ⟨⟨gj, oj, ej, hs⟩, hok⟩ := HX0.out j h1
        simp only [Option.some.injEq, Addr.mk.injEq, and_true] at ej
        obtain ⟨rfl, rfl⟩ := ej
        change SeenAt w1 g (off + j * 9) (nth es j) at hs
        obtain ⟨z0, z1, z2, z3, z4, z5, z6, z7, z8⟩ := hs.keep HBW.out
        dsimp only [El.vl] at z5
        have hkl := kn_len_snoc es j (by rw [← hnl]; exact h1)
        have i2 : (j : Int) < (nl : Int) := ltz h1
        obtain ⟨A, hA⟩ : ∃ z, z = (kn (es.take j)).length := ⟨_, rfl⟩
        obtain ⟨C, hC⟩ : ∃ z, z = (nth es j).line.length := ⟨_, rfl⟩
        rw [← hA, ← hC] at hkl
        rw [← hA]
        rw [← hC] at z5
        have HKL := Lib.hid hkl
        have H1 := Lib.hid h1
        have i9 : (j : Int) < 9223372036854775807 := lt63 HM0.out h1
        clear hnl hs hok z0 z1 z2 z3 z4 z6 z7 z8 hkl hA hC h1 hjn
        go_wp2
        exact ⟨⟨j + 1, Nat.succ_le_of_lt H1.out, by rw [HKL.out, ← mxi], rfl, by trivial⟩, ms_lt H1.out⟩
      · have hjn2 : j = es.length := (neq_len hjn h1).symm.trans HNL.out
        have i2 : ¬ (j : Int) < (nl : Int) := nltz h1
        have hkk : es.take j = es := by rw [hjn2, List.take_length]
        rw [hkk]
        obtain ⟨K0, hK0⟩ : ∃ z, z = (kn es).length := ⟨_, rfl⟩
        rw [← hK0]
        have HK0 := Lib.hid hK0
        have him : i < m := lt_min6 HEL.out HI.out.1
        obtain ⟨⟨gx, ox, rfl, hsh⟩, hwf⟩ := HX.out i him
        have ch := cell_later (HB.out.trans (HBW.out.mono HB.out.size)) hsh.2.1
        have hwh := hwf.2.1
        obtain ⟨xh, hxh⟩ : ∃ z, z = (xs.getD i shp0).h := ⟨_, rfl⟩
        rw [← hxh] at ch hwh
        obtain ⟨yh, rfl⟩ := toNat_ex hwh
        obtain ⟨kk, hkk2⟩ : ∃ z, z = yh % (N + 1) := ⟨_, rfl⟩
        have hk1 := tmod1 yh N
        rw [← hkk2] at hk1
        obtain ⟨H, hH⟩ : ∃ z, z = min kk K0 := ⟨_, rfl⟩
        have hmn : (if K0 < kk then (K0 : Int) else (kk : Int)) = (H : Int) := by rw [hH]; exact min_ite _ _
        have hn12 := HN12.out
        have hwN : wrap64 ((N : Int) + 1) = (N : Int) + 1 := wrapS1 (Nat.le_trans (Nat.le_of_lt hn12) (by decide))
        have hwN2 : wrap64 (N : Int) = (N : Int) := wrapS (Nat.le_trans (Nat.le_of_lt hn12) (by decide))
        have hwh2 : wrap64 (yh : Int) = (yh : Int) := wrapS (wf_small hwh)
        have hnz2 := nz1 N
        have imm : (i : Int) < (m : Int) := ltz him
        have hmod := HMOD.out
        have HH := Lib.hid hH
        have HKK := Lib.hid hkk2
        have HXH := Lib.hid hxh
        have HHK := Lib.hid (hk12 hH hkk2 hn12)
        clear hjn2 hjn hkk hK0 hsh hwf hwh hxh hkk2 hH hn12 h1 him
        obtain ⟨z0, z1, z2, z3, z4, z5, z6, z7, z8⟩ := HSI.out.keep HBW.out
        clear z1 z2 z3 z4 z5 z6 z7 z8
        clear i1
        --HH
        by_cases hh : 1 < H
        case neg =>
          have i3 : ¬ (1 : Int) < (H : Int) := nlt1 hh
          have HB := Lib.hid (HB.out.trans (HBW.out.mono HB.out.size))
          go_wp2_with fail
          refine (works_any _).mono ?_
          rintro e w9 ⟨rfl, hb⟩
          have HB9 := Lib.hid (HB.out.trans ((hb).mono HB.out.size))
          clear hb
          go_wp2
          go_ret
          exact ⟨rfl, HB9.out⟩
        case pos =>
          have i3 : (1 : Int) < (H : Int) := lt1 hh
          --HUP
          by_cases hup : (nth es i).up = true
          case neg =>
            have hup2 : (nth es i).up = false := by simpa using hup
            rw [hup2] at z0
            have HB := Lib.hid (HB.out.trans (HBW.out.mono HB.out.size))
            clear hup hup2
            go_wp2_with fail
            refine (works_any _).mono ?_
            rintro e w9 ⟨rfl, hb⟩
            have HB9 := Lib.hid (HB.out.trans ((hb).mono HB.out.size))
            clear hb
            go_wp2
            go_ret
            exact ⟨rfl, HB9.out⟩
          case pos =>
            rw [hup] at z0
            have HUP := Lib.hid hup
            clear hup
            have hw1 : wrap64 ((H : Int) - 1) = (H : Int) - 1 := wrapSm (Nat.le_trans HHK.out (by decide))
            obtain ⟨p2, hp2⟩ : ∃ z, z = s % (H - 1) := ⟨_, rfl⟩
            have hs2 := tmodm (y := s) hh
            rw [← hp2] at hs2
            have HP2 := Lib.hid (p2lt hp2 hh)
            have hnz3 : ¬ ((H : Int) - 1 = 0) := nzm hh
            have hws : wrap64 (s : Int) = (s : Int) := wrapS (b255 HBS.out.2)
            have c1 := HKW.out.cell 1
            simp at c1
            have hal := (Below.refl w2.heap.size w2).alloc (Nat.le_refl _) (Obj.cells #[] 40)
            have HAL := Lib.hid hal
            have HAPP := Lib.hid (app_seens (base := w2.heap.size) 23 (OwS.empty w2) (HIN.out.keep (HBW.out.trans (hal.mono HBW.out.size))) (by have := HI.out; have := HNL.out; omega) (by have := HEL.out; have := HNL.out; simp only [List.length_nil]; omega) (by simp))
            clear hp2 hal hh
            go_wp2_with (at_builtin; refine wpList_append_run rfl _ _ 23 rfl _ _ rfl rfl _ HAPP.out ?_)
            refine Later.mk fun _ _ u3 wa hp3 hb3 => ?_
            obtain ⟨gx, cx, rfl, hge, hcp⟩ := hp3.cp (by have := HI.out; have := HNL.out; omega)
            rw [← HNL.out] at hcp
            rw [← HNL.out]
            have HBA := Lib.hid (HBW.out.trans ((HAL.out.trans hb3).mono HBW.out.size))
            have HCA := Lib.hid hcp
            have HGA := Lib.hid (show w1.heap.size ≤ gx from Nat.le_trans HBW.out.size hge)
            clear hp3 hb3 hge hcp HAPP HAL
            obtain ⟨SL, hSL⟩ : ∃ z, z = (nth es i).list.length := ⟨_, rfl⟩
            have HS := Lib.hid hSL
            clear hSL
            have hll := len_list HST.out HI.out.1 HN12.out
            have hkk : (xs.getD i shp0).h.toNat % (N + 1) = kk := by rw [← HXH.out, Int.toNat_natCast]; exact HKK.out.symm
            rw [hkk, ← HS.out] at hll
            obtain ⟨p3, hp3⟩ : ∃ z, z = p2 + 1 := ⟨_, rfl⟩
            have h3S : p3 ≤ SL := by have := HP2.out; have := HH.out; omega
            have hvs : InG w1 (.slice (nth es i).sa (nth es i).list.length (nth es i).sc) (nth es i).list := HOKI.out.2.1
            rw [← HS.out] at hvs
            have hroom := hvs.room.2
            rw [← HS.out] at hroom
            have h2S : p2 ≤ (nth es i).sc := by omega
            have hw3 : IntKind.i64.wrap ((p2 : Int) + 1) = (p3 : Int) := by rw [hp3]; exact wrapK1 (by have := hll.2; omega)
            have HTK := Lib.hid (hvs.take (m := p2) (by have := HS.out; omega))
            have hdr := hvs.drop (m := p3) (by have := HS.out; omega)
            obtain ⟨sx, hsx⟩ : ∃ z, (if (nth es i).sc = p3 then (nth es i).sa else (nth es i).sa.map fun x => x.add (p3 * 2)) = z := ⟨_, rfl⟩
            rw [hsx] at hdr
            have HDR := Lib.hid hdr
            have HSM := Lib.hid (And.intro HS.out hll.2)
            have HP3 := Lib.hid hp3
            obtain ⟨qn, hqn⟩ : ∃ z, z = ((nth es i).list.take p2 ++ (nth es i).list.drop p3).length := ⟨_, rfl⟩
            have HQN := Lib.hid hqn
            clear hll hkk hroom hvs hp3 hqn hdr
            go_wp2_with fail
            refine wp_region_spec (fun i => i == 2 || i == 10 || i == 19 || i == 22) (kindsF qn) (FL w1 gx nl cx wa.heap.size es i ((nth es i).list.take p2) ((nth es i).list.drop p3)) (by kernel_rfl) (by kernel_rfl) (kindsF_inh _) (FL.start HBA.out HCA.out HCA.out.lt HGA.out) ?_
            intro ν hν
            have n22 : ν 22 = undef := hν 22
            obtain ⟨na, nc, n19⟩ : ∃ a c, ν 19 = .slice a qn c := hν 19
            clear hν
            refine lex_plain (by rfl) rfl ?_
            apply Exists.intro
            refine ⟨fun σ w2 hA hD hC => ?_, ?_⟩
            · clear hA hD hC
              go_simp
              exact And.intro rfl rfl
            simp only [Act.put, List.setIfInBounds_toArray, List.set_cons_succ, List.set_cons_zero, Nat.reduceAdd]
            refine lex_plain (by rfl) rfl ?_
            apply Exists.intro
            refine ⟨fun σ w2 hA hD hC => ?_, ?_⟩
            · clear hA hD hC
              go_simp
              exact And.intro rfl rfl
            simp only [Act.put, List.setIfInBounds_toArray, List.set_cons_succ, List.set_cons_zero, Nat.reduceAdd]
            refine lex_special (by rfl) rfl (fun σ w2 hA hD hn hC => ?_) ?_
            · go_simp
              exact ⟨trivial, hC.two⟩
            simp only [Act.put, List.setIfInBounds_toArray, List.set_cons_succ, List.set_cons_zero, Nat.reduceAdd]
            refine lex_plain (by rfl) rfl ?_
            apply Exists.intro
            refine ⟨fun σ w2 hA hD hC => ?_, ?_⟩
            · clear hA hD hC
              go_simp
              exact And.intro rfl rfl
            simp only [Act.put, List.setIfInBounds_toArray, List.set_cons_succ, List.set_cons_zero, Nat.reduceAdd]
            refine lex_plain (by rfl) rfl ?_
            apply Exists.intro
            refine ⟨fun σ w2 hA hD hC => ?_, ?_⟩
            · clear hA hD hC
              go_simp
              exact And.intro rfl rfl
            simp only [Act.put, List.setIfInBounds_toArray, List.set_cons_succ, List.set_cons_zero, Nat.reduceAdd]
            refine lex_plain (by rfl) rfl ?_
            apply Exists.intro
            refine ⟨fun σ w2 hA hD hC => ?_, ?_⟩
            · clear hA hD hC
              go_simp
              exact And.intro rfl rfl
            simp only [Act.put, List.setIfInBounds_toArray, List.set_cons_succ, List.set_cons_zero, Nat.reduceAdd]
            refine lex_plain (by rfl) rfl ?_
            apply Exists.intro
            refine ⟨fun σ w2 hA hD hC => ?_, ?_⟩
            · clear hA hD hC
              go_simp
              exact And.intro rfl rfl
            simp only [Act.put, List.setIfInBounds_toArray, List.set_cons_succ, List.set_cons_zero, Nat.reduceAdd]
            refine lex_plain (by rfl) rfl ?_
            apply Exists.intro
            refine ⟨fun σ w2 hA hD hC => ?_, ?_⟩
            · obtain ⟨z0, z1, z2, z3, z4, z5, z6, z7, z8⟩ := HSI.out.keep hC.below
              dsimp only [El.vl, El.vs, El.vt, El.vi] at z6
              rw [← HS.out] at z6
              clear z0 z1 z2 z3 z4 z5 z7 z8
              clear hA hD hC
              go_simp
              exact And.intro rfl rfl
            simp only [Act.put, List.setIfInBounds_toArray, List.set_cons_succ, List.set_cons_zero, Nat.reduceAdd]
            refine lex_plain (by rfl) rfl ?_
            apply Exists.intro
            refine ⟨fun σ w2 hA hD hC => ?_, ?_⟩
            · clear hA hD hC
              go_simp
              exact And.intro rfl rfl
            simp only [Act.put, List.setIfInBounds_toArray, List.set_cons_succ, List.set_cons_zero, Nat.reduceAdd]
            refine lex_plain (by rfl) rfl ?_
            apply Exists.intro
            refine ⟨fun σ w2 hA hD hC => ?_, ?_⟩
            · clear hA hD hC
              go_simp
              exact And.intro rfl rfl
            simp only [Act.put, List.setIfInBounds_toArray, List.set_cons_succ, List.set_cons_zero, Nat.reduceAdd]
            refine lex_special (by rfl) rfl (fun σ w2 hA hD hn hC => ?_) ?_
            · have e2 := got1 hA hD 2 rfl (by kernel_rfl)
              have ho := hC.a _ e2 hn
              obtain ⟨v', w', hr, ha⟩ := app_guids (w := w2) 35 ho (HTK.out.keep hC.below) (by have := HSM.out; rw [List.length_nil, List.length_take]; omega) hC.lt.2.2
              rw [exec_append (.tmp 158) (.tmp 165) 35 rfl _ _ rfl rfl _ hr]
              exact ⟨trivial, hC.ten hn (ha.below ho hC.lt.2.2) ha.1⟩
            simp only [Act.put, List.setIfInBounds_toArray, List.set_cons_succ, List.set_cons_zero, Nat.reduceAdd]
            refine lex_plain (by rfl) rfl ?_
            apply Exists.intro
            refine ⟨fun σ w2 hA hD hC => ?_, ?_⟩
            · clear hA hD hC
              go_simp
              exact And.intro rfl rfl
            simp only [Act.put, List.setIfInBounds_toArray, List.set_cons_succ, List.set_cons_zero, Nat.reduceAdd]
            refine lex_plain (by rfl) rfl ?_
            apply Exists.intro
            refine ⟨fun σ w2 hA hD hC => ?_, ?_⟩
            · clear hA hD hC
              go_simp
              exact And.intro rfl rfl
            simp only [Act.put, List.setIfInBounds_toArray, List.set_cons_succ, List.set_cons_zero, Nat.reduceAdd]
            refine lex_plain (by rfl) rfl ?_
            apply Exists.intro
            refine ⟨fun σ w2 hA hD hC => ?_, ?_⟩
            · clear hA hD hC
              go_simp
              exact And.intro rfl rfl
            simp only [Act.put, List.setIfInBounds_toArray, List.set_cons_succ, List.set_cons_zero, Nat.reduceAdd]
            refine lex_plain (by rfl) rfl ?_
            apply Exists.intro
            refine ⟨fun σ w2 hA hD hC => ?_, ?_⟩
            · clear hA hD hC
              go_simp
              exact And.intro rfl rfl
            simp only [Act.put, List.setIfInBounds_toArray, List.set_cons_succ, List.set_cons_zero, Nat.reduceAdd]
            refine lex_plain (by rfl) rfl ?_
            apply Exists.intro
            refine ⟨fun σ w2 hA hD hC => ?_, ?_⟩
            · obtain ⟨z0, z1, z2, z3, z4, z5, z6, z7, z8⟩ := HSI.out.keep hC.below
              dsimp only [El.vl, El.vs, El.vt, El.vi] at z6
              rw [← HS.out] at z6
              clear z0 z1 z2 z3 z4 z5 z7 z8
              clear hA hD hC
              go_simp
              exact And.intro rfl rfl
            simp only [Act.put, List.setIfInBounds_toArray, List.set_cons_succ, List.set_cons_zero, Nat.reduceAdd]
            refine lex_plain (by rfl) rfl ?_
            apply Exists.intro
            refine ⟨fun σ w2 hA hD hC => ?_, ?_⟩
            · clear hA hD hC
              go_simp
              exact And.intro rfl rfl
            simp only [Act.put, List.setIfInBounds_toArray, List.set_cons_succ, List.set_cons_zero, Nat.reduceAdd]
            refine lex_plain (by rfl) rfl ?_
            apply Exists.intro
            refine ⟨fun σ w2 hA hD hC => ?_, ?_⟩
            · clear hA hD hC
              go_simp
              exact And.intro rfl rfl
            simp only [Act.put, List.setIfInBounds_toArray, List.set_cons_succ, List.set_cons_zero, Nat.reduceAdd]
            refine lex_plain (by rfl) rfl ?_
            apply Exists.intro
            refine ⟨fun σ w2 hA hD hC => ?_, ?_⟩
            · clear hA hD hC
              go_simp
              exact And.intro rfl rfl
            simp only [Act.put, List.setIfInBounds_toArray, List.set_cons_succ, List.set_cons_zero, Nat.reduceAdd]
            refine lex_special (by rfl) rfl (fun σ w2 hA hD hn hC => ?_) ?_
            · have e10 := got1 hA hD 10 rfl (by kernel_rfl)
              have ho := hC.b _ e10 hn
              obtain ⟨v', w', hr, ha⟩ := app_guids (w := w2) 35 ho (HDR.out.keep hC.below) (by have := HSM.out; rw [List.length_take, List.length_drop]; omega) hC.lt.2.2
              rw [exec_append (.tmp 166) (.tmp 174) 35 rfl _ _ rfl rfl _ hr]
              obtain ⟨va', vc', hv'⟩ := ha.1.rd.slice_
              exact ⟨⟨va', vc', by rw [HQN.out]; exact hv'⟩, hC.nineteen hn (by rw [e10]; rfl) (ha.below ho hC.lt.2.2) ha.1⟩
            rw [n19]
            simp only [Act.put, List.setIfInBounds_toArray, List.set_cons_succ, List.set_cons_zero, Nat.reduceAdd]
            refine lex_plain (by rfl) rfl ?_
            apply Exists.intro
            refine ⟨fun σ w2 hA hD hC => ?_, ?_⟩
            · clear hA hD hC
              go_simp
              exact And.intro rfl rfl
            simp only [Act.put, List.setIfInBounds_toArray, List.set_cons_succ, List.set_cons_zero, Nat.reduceAdd]
            refine lex_plain (by rfl) rfl ?_
            apply Exists.intro
            refine ⟨fun σ w2 hA hD hC => ?_, ?_⟩
            · clear hA hD hC
              go_simp
              exact And.intro rfl rfl
            simp only [Act.put, List.setIfInBounds_toArray, List.set_cons_succ, List.set_cons_zero, Nat.reduceAdd]
            refine lex_special (by rfl) rfl (fun σ w2 hA hD hn hC => ?_) ?_
            · have e19 := got1 hA hD 19 rfl (by kernel_rfl)
              rw [n19, HQN.out] at e19
              have hat := (hC.cp0 hn).at_ HI.out.1
              have z6 := hat.1.2.2.2.2.2.2.1
              have hfz := hat.2 (i * 9 + 6)
              dsimp only [El.vs] at z6
              clear hat
              go_simp
              rw [HQN.out]
              exact ⟨rfl, hC.store hn e19 HI.out.1⟩
            rw [n22]
            simp only [Act.put, Nat.reduceAdd]
            refine lex_nil (fun σ wb hA hall hC => ?_)
            obtain ⟨sa2, sc2, h19, hcp⟩ := hC.cp1 _ (hall 22 rfl (by decide))
            have ho2 := hC.c _ h19
            obtain ⟨e', he'⟩ : ∃ z, z = ({ nth es i with list := (nth es i).list.take p2 ++ (nth es i).list.drop p3, sa := sa2, sc := sc2 } : El) := ⟨_, rfl⟩
            rw [← he'] at hcp
            have hin := hcp.ok_ins hC.below (fun j hj => (HX0.out j hj).2) HNL.out (by rw [he']; exact ⟨HOKI.out.1.keep hC.below, ho2.rd, HOKI.out.2.2.keep hC.below⟩)
            have hfl := find_list HST.out HN12.out HI.out.1 (p := p2) (by rw [← HXH.out, Int.toNat_natCast, ← HKK.out, ← HK0.out, ← HH.out]; exact HP2.out) e' (by rw [he']) (by rw [he', HP3.out]) (by rw [he']; exact HUP.out)
            have HIN2 := Lib.hid hin
            have HFL := Lib.hid hfl
            have HBC := Lib.hid (HB.out.trans (hC.below.mono HB.out.size))
            clear hA hall hC h19 hcp ho2 he' hin hfl
            go_wp2_with fail
            refine (lists_v HFL.out HIN2.out).mono ?_
            rintro e w8 ⟨rfl, hb⟩
            have HB := Lib.hid (HBC.out.trans (hb.mono HBC.out.size))
            clear hb
            go_wp2_with fail
            refine (works_any _).mono ?_
            rintro e w9 ⟨rfl, hb⟩
            have HB9 := Lib.hid (HB.out.trans ((hb).mono HB.out.size))
            clear hb
            go_wp2
            go_ret
            exact ⟨rfl, HB9.out⟩
  case pos =>
    have i3 : (0 : Int) < (K : Int) := posK hk
    have hnz3 := nzK hk
    obtain ⟨p, hp⟩ : ∃ z, z = s % K := ⟨_, rfl⟩
    have hs1 := tmodK s K
    rw [← hp] at hs1
    have HP := Lib.hid (show p < K by rw [hp]; exact Nat.mod_lt _ hk)
    have hws : wrap64 (s : Int) = (s : Int) := wrapS (b255 HBS.out.2)
    go_upto_region 8 with fail
    have HBW := H50
    have HKW := Lib.hid (HKX.out.keep HBW.out)
    have HQ5 := Lib.hid (show w1.heap.size < ((w1.alloc (Obj.cells #[.int .u64 50, .int .u64 1] 34))).heap.size by simp)
    generalize hw2e : (w1.alloc (Obj.cells #[.int .u64 50, .int .u64 1] 34)) = w2 at *
    clear hw2e hk hp
    have c1 := HKW.out.cell 1
    simp at c1
    have hal := (Below.refl w2.heap.size w2).alloc (Nat.le_refl _) (Obj.cells #[] 40)
    have HAL := Lib.hid hal
    have HAPP := Lib.hid (app_seens (base := w2.heap.size) 23 (OwS.empty w2) (HIN.out.keep (HBW.out.trans (hal.mono HBW.out.size))) (by have := HI.out; have := HNL.out; omega) (by have := HEL.out; have := HNL.out; simp only [List.length_nil]; omega) (by simp))
    clear hal
    go_wp2_with (at_builtin; refine wpList_append_run rfl _ _ 23 rfl _ _ rfl rfl _ HAPP.out ?_)
    refine Later.mk fun _ _ u3 wa hp3 hb3 => ?_
    obtain ⟨gw, cw, rfl, hge, hcp⟩ := hp3.cp (by have := HI.out; have := HNL.out; omega)
    rw [← HNL.out] at hcp
    rw [← HNL.out]
    have hb2a := HAL.out.trans hb3
    have HBA := Lib.hid (HBW.out.trans (hb2a.mono HBW.out.size))
    have HKA := Lib.hid (HKW.out.keep hb2a)
    have HQA := Lib.hid (K50.out.keep hb2a)
    have HCA := Lib.hid hcp
    have HGA := Lib.hid (show w1.heap.size ≤ gw ∧ w1.heap.size < gw from ⟨Nat.le_trans HBW.out.size hge, Nat.lt_of_lt_of_le HQ5.out hge⟩)
    clear hp3 hb3 hge hcp HAPP HAL hb2a
    have hvl : InG w1 (.slice (nth es i).la (nth es i).line.length (nth es i).lc) (nth es i).line := HOKI.out.1
    rw [← HK.out] at hvl
    have hal := (Below.refl wa.heap.size wa).alloc (Nat.le_refl _) (Obj.cells #[] 34)
    have HAL := Lib.hid hal
    obtain ⟨z0, z1, z2, z3, z4, z5, z6, z7, z8⟩ := HSI.out.keep (HBA.out.trans (hal.mono HBA.out.size))
    dsimp only [El.vl] at z5
    rw [← HK.out] at z5
    have HEMP := Lib.hid (OwG.empty wa)
    have HVL := Lib.hid hvl
    have HKL := Lib.hid (show (nth es i).line.length ≤ 15 from len_line HST.out HI.out.1 HN12.out)
    have HAPP := Lib.hid (app_guids (base := wa.heap.size) 35 (OwG.empty wa) (hvl.keep (HBA.out.trans (hal.mono HBA.out.size))) (by have := HKL.out; rw [List.length_nil]; omega) hal.size)
    clear hvl hal z0 z1 z2 z3 z4 z6 z7 z8
    go_wp2_with (at_builtin; refine wpList_append_run rfl _ _ 35 rfl _ _ rfl rfl _ HAPP.out ?_)
    refine Later.mk fun _ _ u4 wb hp4 => ?_
    have hbb := HAL.out.trans (AppG.below hp4 HEMP.out HAL.out.size)
    have ho4 := hp4.1
    have ho4 : OwG wb wa.heap.size u4 (nth es i).line := ho4
    obtain ⟨ua, uq, rfl⟩ := ho4.rd.slice_
    rw [← HK.out] at ho4
    rw [← HK.out]
    obtain ⟨gu, rfl, hgu, -, -, -⟩ := ho4.lt_ (by have := HK.out; have := HP.out; omega)
    have HGU := Lib.hid hgu
    have hcb := HCA.out.below hbb HCA.out.lt
    have HBB := Lib.hid hbb
    obtain ⟨hat, hfr⟩ := hcb.at_ HI.out.1
    have z5 := hat.2.2.2.2.2.1
    have hfz := hfr (i * 9 + 5)
    have HCB := Lib.hid hcb
    have HO4 := Lib.hid ho4
    clear hp4 hbb ho4 hgu hcb hat hfr HAPP HAL HEMP
    go_wp2_with fail
    generalize hwce : wb.setCell ⟨gw, i * 9 + 2 + 3, none⟩ (.slice (some ⟨gu, 0, none⟩) K uq) = wc at *
    have e235 : i * 9 + 2 + 3 = i * 9 + 5 := by omega
    rw [e235] at hwce
    obtain ⟨e5, he5⟩ : ∃ z, z = ({ nth es i with la := some ⟨gu, 0, none⟩, lc := uq } : El) := ⟨_, rfl⟩
    have hev : e5.vl = .slice (some ⟨gu, 0, none⟩) K uq := by rw [he5, HK.out]
    have hie : i < es.length := by have := HI.out; have := HNL.out; omega
    have hgl := HCA.out.lt
    have hcc : CpS wc gw nl cw (es.set i e5) := by
      rw [← hwce]
      refine HCB.out.set (k := 5) e5 _ HI.out.1 (by decide) ?_
      rw [← hev, he5]
      rfl
    have hbc : Below w1.heap.size w1 wc := by
      rw [← hwce]
      exact (HBA.out.trans (HBB.out.mono HBA.out.size)).setCell (p := ⟨gw, i * 9 + 5, none⟩) HGA.out.1 _
    have hqc : Blk wc w1.heap.size 34 #[.int .u64 50, .int .u64 1] := by
      rw [← hwce]
      exact (HQA.out.keep HBB.out).far (p := ⟨gw, i * 9 + 5, none⟩) (Nat.ne_of_lt HGA.out.2) _
    have hkc : Blk wc qx 31 #[.int .u8 (b : Int), .int .u8 (s : Int)] := by
      rw [← hwce]
      exact (HKA.out.keep HBB.out).far (p := ⟨gw, i * 9 + 5, none⟩) (Nat.ne_of_lt (Nat.lt_of_lt_of_le HLT1.out HGA.out.1)) _
    have hoc : OwG wc wa.heap.size (.slice (some ⟨gu, 0, none⟩) K uq) (nth es i).line := by
      rw [← hwce]
      refine HO4.out.above fun b hb => ?_
      simp only [World.setCell, Array.getElem?_modify]
      rw [if_neg (by omega)]
    have hsz : wa.heap.size ≤ wc.heap.size := by
      rw [← hwce]
      simpa using HBB.out.size
    have HFC := Lib.hid (show FC w1 gw nl cw w1.heap.size qx wa.heap.size #[.int .u8 (b : Int), .int .u8 (s : Int)] (es.set i e5) (.slice (some ⟨gu, 0, none⟩) K uq) (nth es i).line wc from ⟨hbc, hcc, hqc, hkc, hoc, hgl, HQA.out.lt, HKA.out.lt, HBA.out.size, hsz⟩)
    have HEV := Lib.hid hev
    have HIE := Lib.hid hie
    have HE5 := Lib.hid he5
    have ipk : (p : Int) < (K : Int) := ltz HP.out
    clear hwce hev hie hgl hcc hbc hqc hkc hoc hsz he5 e235 HQA HKA HCA HCB HO4 z5 hfz
    have HC0 := HFC
    refine wp_region_spec (fun i => i == 9) (kinds [(9, .is undef)]) (FCs w1 gw nl cw w1.heap.size qx wa.heap.size #[.int .u8 (b : Int), .int .u8 (s : Int)] (es.set i e5) (.slice (some ⟨gu, 0, none⟩) K uq) (nth es i).line p) (by kernel_rfl) (by kernel_rfl) (kinds_inh _) HFC.out.drew ?_
    intro ν hν
    have n9 : ν 9 = undef := hν 9
    clear hν
    refine lex_plain (by rfl) rfl ?_
    apply Exists.intro
    refine ⟨fun σ w2 hA hD hC => ?_, ?_⟩
    · clear hA hD hC
      go_simp
      exact And.intro rfl rfl
    simp only [Act.put, List.setIfInBounds_toArray, List.set_cons_succ, List.set_cons_zero, Nat.reduceAdd]
    refine lex_plain (by rfl) rfl ?_
    apply Exists.intro
    refine ⟨fun σ w2 hA hD hC => ?_, ?_⟩
    · clear hA hD hC
      go_simp
      exact And.intro rfl rfl
    simp only [Act.put, List.setIfInBounds_toArray, List.set_cons_succ, List.set_cons_zero, Nat.reduceAdd]
    refine lex_plain (by rfl) rfl ?_
    apply Exists.intro
    refine ⟨fun σ w2 hA hD hC => ?_, ?_⟩
    · clear hA hD hC
      go_simp
      exact And.intro rfl rfl
    simp only [Act.put, List.setIfInBounds_toArray, List.set_cons_succ, List.set_cons_zero, Nat.reduceAdd]
    refine lex_plain (by rfl) rfl ?_
    apply Exists.intro
    refine ⟨fun σ w2 hA hD hC => ?_, ?_⟩
    · clear hA hD hC
      go_simp
      exact And.intro rfl rfl
    simp only [Act.put, List.setIfInBounds_toArray, List.set_cons_succ, List.set_cons_zero, Nat.reduceAdd]
    refine lex_plain (by rfl) rfl ?_
    apply Exists.intro
    refine ⟨fun σ w2 hA hD hC => ?_, ?_⟩
    · clear hA hD hC
      go_simp
      exact And.intro rfl rfl
    simp only [Act.put, List.setIfInBounds_toArray, List.set_cons_succ, List.set_cons_zero, Nat.reduceAdd]
    refine lex_plain (by rfl) rfl ?_
    apply Exists.intro
    refine ⟨fun σ w2 hA hD hC => ?_, ?_⟩
    · have hC := hC.cp_
      have hat := (hC.at_ HI.out.1).1
      rw [nth_set_same _ HIE.out] at hat
      have z5 := hat.2.2.2.2.2.1
      rw [HEV.out] at z5
      clear hat
      clear hA hD hC
      go_simp
      exact And.intro rfl rfl
    simp only [Act.put, List.setIfInBounds_toArray, List.set_cons_succ, List.set_cons_zero, Nat.reduceAdd]
    refine lex_plain (by rfl) rfl ?_
    apply Exists.intro
    refine ⟨fun σ w2 hA hD hC => ?_, ?_⟩
    · clear hA hD hC
      go_simp
      exact And.intro rfl rfl
    simp only [Act.put, List.setIfInBounds_toArray, List.set_cons_succ, List.set_cons_zero, Nat.reduceAdd]
    refine lex_plain (by rfl) rfl ?_
    apply Exists.intro
    refine ⟨fun σ w2 hA hD hC => ?_, ?_⟩
    · have hC := hC.k50_
      have k0 := hC.cell 0
      have k1 := hC.cell 1
      simp at k0 k1
      clear hA hD hC
      go_simp
      exact And.intro rfl rfl
    simp only [Act.put, List.setIfInBounds_toArray, List.set_cons_succ, List.set_cons_zero, Nat.reduceAdd]
    refine lex_plain (by rfl) rfl ?_
    apply Exists.intro
    refine ⟨fun σ w2 hA hD hC => ?_, ?_⟩
    · clear hA hD hC
      go_simp
      exact And.intro rfl rfl
    simp only [Act.put, List.setIfInBounds_toArray, List.set_cons_succ, List.set_cons_zero, Nat.reduceAdd]
    refine lex_special (by rfl) rfl (fun σ w2 hA hD hn hC => ?_) ?_
    · have hC : FC w1 gw nl cw w1.heap.size qx wa.heap.size #[.int .u8 (b : Int), .int .u8 (s : Int)] (es.set i e5) (.slice (some ⟨gu, 0, none⟩) K uq) (nth es i).line w2 := by unfold FCs at hC; rw [hn] at hC; exact hC
      have hpl : p < (nth es i).line.length := by rw [← HK.out]; exact HP.out
      obtain ⟨q', e', -, -, -, hth⟩ := hC.own.lt_ (Nat.lt_of_le_of_lt (Nat.zero_le _) hpl)
      simp only [Option.some.injEq, Addr.mk.injEq, and_true] at e'
      subst e'
      rw [exec_store_mid 34 (.tmp 73) (.tmp 72) rfl gu (p * 2) #[.int .u64 50, .int .u64 1] (by go_simp) (by go_simp) (hth p hpl) (by kernel_rfl) (by kernel_rfl)]
      exact ⟨rfl, FCs.put_ hC HGU.out hpl⟩
    rw [n9]
    simp only [Act.put, Nat.reduceAdd]
    refine lex_nil (fun σ w5 hA hall hC => ?_)
    have h9 := hall 9 rfl (by decide)
    have hC : FC w1 gw nl cw w1.heap.size qx wa.heap.size #[.int .u8 (b : Int), .int .u8 (s : Int)] (es.set i e5) (.slice (some ⟨gu, 0, none⟩) K uq) ((nth es i).line.set p othG) w5 := by unfold FCs at hC; rw [h9] at hC; exact hC
    obtain ⟨e6, he6⟩ : ∃ z, z = ({ e5 with line := (nth es i).line.set p othG } : El) := ⟨_, rfl⟩
    have hl6 : e6.line = (nth es i).line.set p othG := by rw [he6]
    have hv6 : e6.vl = .slice (some ⟨gu, 0, none⟩) K uq := by rw [he6, HE5.out, HK.out]; simp [El.vl]
    have hc6 : e6.cells = e5.cells := by
      have h5 := HEV.out
      have e : e6.cells = #[.bool e5.up, .bool e5.prim, .int .u64 e5.ep, .int .i64 e5.bef, .bool e5.leased, e6.vl, e5.vs, e5.vt, e5.vi] := by rw [he6]; rfl
      rw [e, hv6, ← h5]
      rfl
    have hcp := hC.cp.cast hc6 HIE.out (.slice (some ⟨gu, 0, none⟩) K uq) (by rw [← HEV.out, HE5.out]; rfl)
    have hin := hcp.ok_ins hC.below (fun j hj => (HX0.out j hj).2) HNL.out ⟨by rw [hv6, hl6]; exact hC.own.rd, by rw [he6, HE5.out]; exact HOKI.out.2.1.keep hC.below, by rw [he6, HE5.out]; exact HOKI.out.2.2.keep hC.below⟩
    have HFL := Lib.hid (find_line (pre_of_strip HST.out) HN12.out HIE.out (by rw [← HK.out]; exact HP.out) e6 hl6)
    have HIN6 := Lib.hid hin
    have HBW := Lib.hid hC.below
    have HKW := Lib.hid hC.kx
    clear hA hall hC h9 he6 hl6 hv6 hc6 hcp hin HFC HC0 HE5 HEV c1
    go_wp2_with fail
    go_loopw [13, 14] (fun a t wr => ∃ j : Nat, j ≤ nl ∧ a = .bool (apB es i p j) ∧ t = .int .i64 j ∧ w5 = wr) (fun _ t _ => nl - (intOf t).toNat)
    case atStart => exact ⟨0, Nat.zero_le _, rfl, rfl, rfl⟩
    case round =>
      obtain ⟨j, hjn, rfl, rfl, rfl⟩ := hrel
      by_cases h1 : j < nl
      · obtain ⟨⟨gj, oj, ej, hs⟩, hok⟩ := HX0.out j h1
        --RND
        simp only [Option.some.injEq, Addr.mk.injEq, and_true] at ej
        obtain ⟨rfl, rfl⟩ := ej
        change SeenAt w1 g (off + j * 9) (nth es j) at hs
        obtain ⟨z0, z1, z2, z3, z4, z5, z6, z7, z8⟩ := hs.keep HBW.out
        dsimp only [El.vl] at z5
        have hap := apB_succ es i p j
        have i2 : (j : Int) < (nl : Int) := ltz h1
        obtain ⟨A, hA⟩ : ∃ z, z = apB es i p j := ⟨_, rfl⟩
        obtain ⟨C, hC⟩ : ∃ z, z = (nth es j).line.length := ⟨_, rfl⟩
        rw [← hA, ← hC] at hap
        rw [← hA]
        rw [← hC] at z5
        have HAP := Lib.hid hap
        have H1 := Lib.hid h1
        have i9 : (j : Int) < 9223372036854775807 := lt63 HM0.out h1
        clear hs hok z0 z1 z2 z3 z4 z6 z7 z8 hap hA hC h1 hjn
        cases A with
        | true =>
          go_wp2
          exact ⟨⟨j + 1, Nat.succ_le_of_lt H1.out, by rw [HAP.out, Bool.true_or], rfl, by trivial⟩, ms_lt H1.out⟩
        | false =>
          by_cases hji : j = i
          · subst hji
            go_wp2
            exact ⟨⟨j + 1, Nat.succ_le_of_lt H1.out, by rw [HAP.out]; first | rfl | simp, rfl, by trivial⟩, ms_lt H1.out⟩
          · have q1 : ¬ (j : Int) = (i : Int) := neqz hji
            have q3 : decide ((j : Int) = (i : Int)) = false := decide_eq_false q1
            have HJI := Lib.hid hji
            have HQ1 := Lib.hid q1
            clear hji
            by_cases hpc : p < C
            · have q2 : (p : Int) < (C : Int) := ltz hpc
              have HPC := Lib.hid hpc
              clear hpc
              go_wp2
              exact ⟨⟨j + 1, Nat.succ_le_of_lt H1.out, by rw [HAP.out]; first | rfl | simp [HJI.out, HPC.out, HQ1.out], rfl, by trivial⟩, ms_lt H1.out⟩
            · have q2 : ¬ (p : Int) < (C : Int) := nltz hpc
              have q4 : decide ((p : Int) < (C : Int)) = false := decide_eq_false q2
              have HPC := Lib.hid hpc
              clear hpc
              go_wp2
              exact ⟨⟨j + 1, Nat.succ_le_of_lt H1.out, by rw [HAP.out]; first | rfl | simp [HJI.out, HPC.out], rfl, by trivial⟩, ms_lt H1.out⟩
      · obtain rfl : nl = j := neq_len hjn h1
        --EXIT
        clear h1 hjn
        obtain ⟨ap, hap⟩ : ∃ z, z = apB es i p nl := ⟨_, rfl⟩
        rw [← hap]
        have HAP := Lib.hid hap
        obtain ⟨Z, hZ⟩ : ∃ z, lineV es (es.set i e6) = z := ⟨_, rfl⟩
        have hz : 0 ≤ Z := by rw [← hZ]; exact HFL.out.1
        have HZ := Lib.hid hZ
        have hz1 : ¬ Z < 0 := nneg hz
        have hz2 : decide (Z < 0) = false := decide_eq_false hz1
        clear hap hZ hz
        go_wp2_with fail
        refine (line_v HZ.out (HIN.out.keep HBW.out) HIN6.out).mono ?_
        rintro e w7 ⟨rfl, hb⟩
        have HIN7 := Lib.hid (HIN6.out.keep hb)
        have HKW := Lib.hid (HKW.out.keep hb)
        have HBW := Lib.hid (HBW.out.trans (hb.mono HBW.out.size))
        clear hb HIN6
        cases ap with
        | false =>
          go_wp2_with fail
          clear hz1 hz2 ipk
          go_loopw [16, 17] (fun a t wr => ∃ j : Nat, j ≤ nl ∧ a = .int .i64 (((kn (es.take j)).length : Nat) : Int) ∧ t = .int .i64 j ∧ w7 = wr) (fun _ t _ => nl - (intOf t).toNat)
          case atStart => exact ⟨0, Nat.zero_le _, rfl, rfl, rfl⟩
          case round =>
            obtain ⟨j, hjn, rfl, rfl, rfl⟩ := hrel
            by_cases h1 : j < nl
            · have hnl := HNL.out
              obtain ⟨⟨gj, oj, ej, hs⟩, hok⟩ := HX0.out j h1
              simp only [Option.some.injEq, Addr.mk.injEq, and_true] at ej
              obtain ⟨rfl, rfl⟩ := ej
              change SeenAt w1 g (off + j * 9) (nth es j) at hs
              obtain ⟨z0, z1, z2, z3, z4, z5, z6, z7, z8⟩ := hs.keep HBW.out
              dsimp only [El.vl] at z5
              have hkl := kn_len_snoc es j (by rw [← hnl]; exact h1)
              have i2 : (j : Int) < (nl : Int) := ltz h1
              obtain ⟨A, hA⟩ : ∃ z, z = (kn (es.take j)).length := ⟨_, rfl⟩
              obtain ⟨C, hC⟩ : ∃ z, z = (nth es j).line.length := ⟨_, rfl⟩
              rw [← hA, ← hC] at hkl
              rw [← hA]
              rw [← hC] at z5
              have HKL := Lib.hid hkl
              have H1 := Lib.hid h1
              have i9 : (j : Int) < 9223372036854775807 := lt63 HM0.out h1
              clear hnl hs hok z0 z1 z2 z3 z4 z6 z7 z8 hkl hA hC h1 hjn
              go_wp2
              exact ⟨⟨j + 1, Nat.succ_le_of_lt H1.out, by rw [HKL.out, ← mxi], rfl, by trivial⟩, ms_lt H1.out⟩
            · have hjn2 : j = es.length := (neq_len hjn h1).symm.trans HNL.out
              have i2 : ¬ (j : Int) < (nl : Int) := nltz h1
              have hkk : es.take j = es := by rw [hjn2, List.take_length]
              rw [hkk]
              obtain ⟨K0, hK0⟩ : ∃ z, z = (kn es).length := ⟨_, rfl⟩
              rw [← hK0]
              have HK0 := Lib.hid hK0
              have him : i < m := lt_min6 HEL.out HI.out.1
              obtain ⟨⟨gx, ox, rfl, hsh⟩, hwf⟩ := HX.out i him
              have ch := cell_later (HB.out.trans (HBW.out.mono HB.out.size)) hsh.2.1
              have hwh := hwf.2.1
              obtain ⟨xh, hxh⟩ : ∃ z, z = (xs.getD i shp0).h := ⟨_, rfl⟩
              rw [← hxh] at ch hwh
              obtain ⟨yh, rfl⟩ := toNat_ex hwh
              obtain ⟨kk, hkk2⟩ : ∃ z, z = yh % (N + 1) := ⟨_, rfl⟩
              have hk1 := tmod1 yh N
              rw [← hkk2] at hk1
              obtain ⟨H, hH⟩ : ∃ z, z = min kk K0 := ⟨_, rfl⟩
              have hmn : (if K0 < kk then (K0 : Int) else (kk : Int)) = (H : Int) := by rw [hH]; exact min_ite _ _
              have hn12 := HN12.out
              have hwN : wrap64 ((N : Int) + 1) = (N : Int) + 1 := wrapS1 (Nat.le_trans (Nat.le_of_lt hn12) (by decide))
              have hwN2 : wrap64 (N : Int) = (N : Int) := wrapS (Nat.le_trans (Nat.le_of_lt hn12) (by decide))
              have hwh2 : wrap64 (yh : Int) = (yh : Int) := wrapS (wf_small hwh)
              have hnz2 := nz1 N
              have imm : (i : Int) < (m : Int) := ltz him
              have hmod := HMOD.out
              have HH := Lib.hid hH
              have HKK := Lib.hid hkk2
              have HXH := Lib.hid hxh
              have HHK := Lib.hid (hk12 hH hkk2 hn12)
              clear hjn2 hjn hkk hK0 hsh hwf hwh hxh hkk2 hH hn12 h1 him
              obtain ⟨z0, z1, z2, z3, z4, z5, z6, z7, z8⟩ := HSI.out.keep HBW.out
              clear z1 z2 z3 z4 z5 z6 z7 z8
              clear i1
              --HH
              by_cases hh : 1 < H
              case neg =>
                have i3 : ¬ (1 : Int) < (H : Int) := nlt1 hh
                have HB := Lib.hid (HB.out.trans (HBW.out.mono HB.out.size))
                go_wp2_with fail
                refine (works_any _).mono ?_
                rintro e w9 ⟨rfl, hb⟩
                have HB9 := Lib.hid (HB.out.trans ((hb).mono HB.out.size))
                clear hb
                go_wp2
                go_ret
                exact ⟨rfl, HB9.out⟩
              case pos =>
                have i3 : (1 : Int) < (H : Int) := lt1 hh
                --HUP
                by_cases hup : (nth es i).up = true
                case neg =>
                  have hup2 : (nth es i).up = false := by simpa using hup
                  rw [hup2] at z0
                  have HB := Lib.hid (HB.out.trans (HBW.out.mono HB.out.size))
                  clear hup hup2
                  go_wp2_with fail
                  refine (works_any _).mono ?_
                  rintro e w9 ⟨rfl, hb⟩
                  have HB9 := Lib.hid (HB.out.trans ((hb).mono HB.out.size))
                  clear hb
                  go_wp2
                  go_ret
                  exact ⟨rfl, HB9.out⟩
                case pos =>
                  rw [hup] at z0
                  have HUP := Lib.hid hup
                  clear hup
                  have hw1 : wrap64 ((H : Int) - 1) = (H : Int) - 1 := wrapSm (Nat.le_trans HHK.out (by decide))
                  obtain ⟨p2, hp2⟩ : ∃ z, z = s % (H - 1) := ⟨_, rfl⟩
                  have hs2 := tmodm (y := s) hh
                  rw [← hp2] at hs2
                  have HP2 := Lib.hid (p2lt hp2 hh)
                  have hnz3 : ¬ ((H : Int) - 1 = 0) := nzm hh
                  have hws : wrap64 (s : Int) = (s : Int) := wrapS (b255 HBS.out.2)
                  have c1 := HKW.out.cell 1
                  simp at c1
                  have hal := (Below.refl w7.heap.size w7).alloc (Nat.le_refl _) (Obj.cells #[] 40)
                  have HAL := Lib.hid hal
                  have HAPP := Lib.hid (app_seens (base := w7.heap.size) 23 (OwS.empty w7) (HIN.out.keep (HBW.out.trans (hal.mono HBW.out.size))) (by have := HI.out; have := HNL.out; omega) (by have := HEL.out; have := HNL.out; simp only [List.length_nil]; omega) (by simp))
                  clear hp2 hal hh
                  go_wp2_with (at_builtin; refine wpList_append_run rfl _ _ 23 rfl _ _ rfl rfl _ HAPP.out ?_)
                  refine Later.mk fun _ _ u3 wa hp3 hb3 => ?_
                  obtain ⟨gx, cx, rfl, hge, hcp⟩ := hp3.cp (by have := HI.out; have := HNL.out; omega)
                  rw [← HNL.out] at hcp
                  rw [← HNL.out]
                  have HBA := Lib.hid (HBW.out.trans ((HAL.out.trans hb3).mono HBW.out.size))
                  have HCA := Lib.hid hcp
                  have HGA := Lib.hid (show w1.heap.size ≤ gx from Nat.le_trans HBW.out.size hge)
                  clear hp3 hb3 hge hcp HAPP HAL
                  obtain ⟨SL, hSL⟩ : ∃ z, z = (nth es i).list.length := ⟨_, rfl⟩
                  have HS := Lib.hid hSL
                  clear hSL
                  have hll := len_list HST.out HI.out.1 HN12.out
                  have hkk : (xs.getD i shp0).h.toNat % (N + 1) = kk := by rw [← HXH.out, Int.toNat_natCast]; exact HKK.out.symm
                  rw [hkk, ← HS.out] at hll
                  obtain ⟨p3, hp3⟩ : ∃ z, z = p2 + 1 := ⟨_, rfl⟩
                  have h3S : p3 ≤ SL := by have := HP2.out; have := HH.out; omega
                  have hvs : InG w1 (.slice (nth es i).sa (nth es i).list.length (nth es i).sc) (nth es i).list := HOKI.out.2.1
                  rw [← HS.out] at hvs
                  have hroom := hvs.room.2
                  rw [← HS.out] at hroom
                  have h2S : p2 ≤ (nth es i).sc := by omega
                  have hw3 : IntKind.i64.wrap ((p2 : Int) + 1) = (p3 : Int) := by rw [hp3]; exact wrapK1 (by have := hll.2; omega)
                  have HTK := Lib.hid (hvs.take (m := p2) (by have := HS.out; omega))
                  have hdr := hvs.drop (m := p3) (by have := HS.out; omega)
                  obtain ⟨sx, hsx⟩ : ∃ z, (if (nth es i).sc = p3 then (nth es i).sa else (nth es i).sa.map fun x => x.add (p3 * 2)) = z := ⟨_, rfl⟩
                  rw [hsx] at hdr
                  have HDR := Lib.hid hdr
                  have HSM := Lib.hid (And.intro HS.out hll.2)
                  have HP3 := Lib.hid hp3
                  obtain ⟨qn, hqn⟩ : ∃ z, z = ((nth es i).list.take p2 ++ (nth es i).list.drop p3).length := ⟨_, rfl⟩
                  have HQN := Lib.hid hqn
                  clear hll hkk hroom hvs hp3 hqn hdr
                  go_wp2_with fail
                  refine wp_region_spec (fun i => i == 2 || i == 10 || i == 19 || i == 22) (kindsF qn) (FL w1 gx nl cx wa.heap.size es i ((nth es i).list.take p2) ((nth es i).list.drop p3)) (by kernel_rfl) (by kernel_rfl) (kindsF_inh _) (FL.start HBA.out HCA.out HCA.out.lt HGA.out) ?_
                  intro ν hν
                  have n22 : ν 22 = undef := hν 22
                  obtain ⟨na, nc, n19⟩ : ∃ a c, ν 19 = .slice a qn c := hν 19
                  clear hν
                  refine lex_plain (by rfl) rfl ?_
                  apply Exists.intro
                  refine ⟨fun σ w2 hA hD hC => ?_, ?_⟩
                  · clear hA hD hC
                    go_simp
                    exact And.intro rfl rfl
                  simp only [Act.put, List.setIfInBounds_toArray, List.set_cons_succ, List.set_cons_zero, Nat.reduceAdd]
                  refine lex_plain (by rfl) rfl ?_
                  apply Exists.intro
                  refine ⟨fun σ w2 hA hD hC => ?_, ?_⟩
                  · clear hA hD hC
                    go_simp
                    exact And.intro rfl rfl
                  simp only [Act.put, List.setIfInBounds_toArray, List.set_cons_succ, List.set_cons_zero, Nat.reduceAdd]
                  refine lex_special (by rfl) rfl (fun σ w2 hA hD hn hC => ?_) ?_
                  · go_simp
                    exact ⟨trivial, hC.two⟩
                  simp only [Act.put, List.setIfInBounds_toArray, List.set_cons_succ, List.set_cons_zero, Nat.reduceAdd]
                  refine lex_plain (by rfl) rfl ?_
                  apply Exists.intro
                  refine ⟨fun σ w2 hA hD hC => ?_, ?_⟩
                  · clear hA hD hC
                    go_simp
                    exact And.intro rfl rfl
                  simp only [Act.put, List.setIfInBounds_toArray, List.set_cons_succ, List.set_cons_zero, Nat.reduceAdd]
                  refine lex_plain (by rfl) rfl ?_
                  apply Exists.intro
                  refine ⟨fun σ w2 hA hD hC => ?_, ?_⟩
                  · clear hA hD hC
                    go_simp
                    exact And.intro rfl rfl
                  simp only [Act.put, List.setIfInBounds_toArray, List.set_cons_succ, List.set_cons_zero, Nat.reduceAdd]
                  refine lex_plain (by rfl) rfl ?_
                  apply Exists.intro
                  refine ⟨fun σ w2 hA hD hC => ?_, ?_⟩
                  · clear hA hD hC
                    go_simp
                    exact And.intro rfl rfl
                  simp only [Act.put, List.setIfInBounds_toArray, List.set_cons_succ, List.set_cons_zero, Nat.reduceAdd]
                  refine lex_plain (by rfl) rfl ?_
                  apply Exists.intro
                  refine ⟨fun σ w2 hA hD hC => ?_, ?_⟩
                  · clear hA hD hC
                    go_simp
                    exact And.intro rfl rfl
                  simp only [Act.put, List.setIfInBounds_toArray, List.set_cons_succ, List.set_cons_zero, Nat.reduceAdd]
                  refine lex_plain (by rfl) rfl ?_
                  apply Exists.intro
                  refine ⟨fun σ w2 hA hD hC => ?_, ?_⟩
                  · obtain ⟨z0, z1, z2, z3, z4, z5, z6, z7, z8⟩ := HSI.out.keep hC.below
                    dsimp only [El.vl, El.vs, El.vt, El.vi] at z6
                    rw [← HS.out] at z6
                    clear z0 z1 z2 z3 z4 z5 z7 z8
                    clear hA hD hC
                    go_simp
                    exact And.intro rfl rfl
                  simp only [Act.put, List.setIfInBounds_toArray, List.set_cons_succ, List.set_cons_zero, Nat.reduceAdd]
                  refine lex_plain (by rfl) rfl ?_
                  apply Exists.intro
                  refine ⟨fun σ w2 hA hD hC => ?_, ?_⟩
                  · clear hA hD hC
                    go_simp
                    exact And.intro rfl rfl
                  simp only [Act.put, List.setIfInBounds_toArray, List.set_cons_succ, List.set_cons_zero, Nat.reduceAdd]
                  refine lex_plain (by rfl) rfl ?_
                  apply Exists.intro
                  refine ⟨fun σ w2 hA hD hC => ?_, ?_⟩
                  · clear hA hD hC
                    go_simp
                    exact And.intro rfl rfl
                  simp only [Act.put, List.setIfInBounds_toArray, List.set_cons_succ, List.set_cons_zero, Nat.reduceAdd]
                  refine lex_special (by rfl) rfl (fun σ w2 hA hD hn hC => ?_) ?_
                  · have e2 := got1 hA hD 2 rfl (by kernel_rfl)
                    have ho := hC.a _ e2 hn
                    obtain ⟨v', w', hr, ha⟩ := app_guids (w := w2) 35 ho (HTK.out.keep hC.below) (by have := HSM.out; rw [List.length_nil, List.length_take]; omega) hC.lt.2.2
                    rw [exec_append (.tmp 158) (.tmp 165) 35 rfl _ _ rfl rfl _ hr]
                    exact ⟨trivial, hC.ten hn (ha.below ho hC.lt.2.2) ha.1⟩
                  simp only [Act.put, List.setIfInBounds_toArray, List.set_cons_succ, List.set_cons_zero, Nat.reduceAdd]
                  refine lex_plain (by rfl) rfl ?_
                  apply Exists.intro
                  refine ⟨fun σ w2 hA hD hC => ?_, ?_⟩
                  · clear hA hD hC
                    go_simp
                    exact And.intro rfl rfl
                  simp only [Act.put, List.setIfInBounds_toArray, List.set_cons_succ, List.set_cons_zero, Nat.reduceAdd]
                  refine lex_plain (by rfl) rfl ?_
                  apply Exists.intro
                  refine ⟨fun σ w2 hA hD hC => ?_, ?_⟩
                  · clear hA hD hC
                    go_simp
                    exact And.intro rfl rfl
                  simp only [Act.put, List.setIfInBounds_toArray, List.set_cons_succ, List.set_cons_zero, Nat.reduceAdd]
                  refine lex_plain (by rfl) rfl ?_
                  apply Exists.intro
                  refine ⟨fun σ w2 hA hD hC => ?_, ?_⟩
                  · clear hA hD hC
                    go_simp
                    exact And.intro rfl rfl
                  simp only [Act.put, List.setIfInBounds_toArray, List.set_cons_succ, List.set_cons_zero, Nat.reduceAdd]
                  refine lex_plain (by rfl) rfl ?_
                  apply Exists.intro
                  refine ⟨fun σ w2 hA hD hC => ?_, ?_⟩
                  · clear hA hD hC
                    go_simp
                    exact And.intro rfl rfl
                  simp only [Act.put, List.setIfInBounds_toArray, List.set_cons_succ, List.set_cons_zero, Nat.reduceAdd]
                  refine lex_plain (by rfl) rfl ?_
                  apply Exists.intro
                  refine ⟨fun σ w2 hA hD hC => ?_, ?_⟩
                  · obtain ⟨z0, z1, z2, z3, z4, z5, z6, z7, z8⟩ := HSI.out.keep hC.below
                    dsimp only [El.vl, El.vs, El.vt, El.vi] at z6
                    rw [← HS.out] at z6
                    clear z0 z1 z2 z3 z4 z5 z7 z8
                    clear hA hD hC
                    go_simp
                    exact And.intro rfl rfl
                  simp only [Act.put, List.setIfInBounds_toArray, List.set_cons_succ, List.set_cons_zero, Nat.reduceAdd]
                  refine lex_plain (by rfl) rfl ?_
                  apply Exists.intro
                  refine ⟨fun σ w2 hA hD hC => ?_, ?_⟩
                  · clear hA hD hC
                    go_simp
                    exact And.intro rfl rfl
                  simp only [Act.put, List.setIfInBounds_toArray, List.set_cons_succ, List.set_cons_zero, Nat.reduceAdd]
                  refine lex_plain (by rfl) rfl ?_
                  apply Exists.intro
                  refine ⟨fun σ w2 hA hD hC => ?_, ?_⟩
                  · clear hA hD hC
                    go_simp
                    exact And.intro rfl rfl
                  simp only [Act.put, List.setIfInBounds_toArray, List.set_cons_succ, List.set_cons_zero, Nat.reduceAdd]
                  refine lex_plain (by rfl) rfl ?_
                  apply Exists.intro
                  refine ⟨fun σ w2 hA hD hC => ?_, ?_⟩
                  · clear hA hD hC
                    go_simp
                    exact And.intro rfl rfl
                  simp only [Act.put, List.setIfInBounds_toArray, List.set_cons_succ, List.set_cons_zero, Nat.reduceAdd]
                  refine lex_special (by rfl) rfl (fun σ w2 hA hD hn hC => ?_) ?_
                  · have e10 := got1 hA hD 10 rfl (by kernel_rfl)
                    have ho := hC.b _ e10 hn
                    obtain ⟨v', w', hr, ha⟩ := app_guids (w := w2) 35 ho (HDR.out.keep hC.below) (by have := HSM.out; rw [List.length_take, List.length_drop]; omega) hC.lt.2.2
                    rw [exec_append (.tmp 166) (.tmp 174) 35 rfl _ _ rfl rfl _ hr]
                    obtain ⟨va', vc', hv'⟩ := ha.1.rd.slice_
                    exact ⟨⟨va', vc', by rw [HQN.out]; exact hv'⟩, hC.nineteen hn (by rw [e10]; rfl) (ha.below ho hC.lt.2.2) ha.1⟩
                  rw [n19]
                  simp only [Act.put, List.setIfInBounds_toArray, List.set_cons_succ, List.set_cons_zero, Nat.reduceAdd]
                  refine lex_plain (by rfl) rfl ?_
                  apply Exists.intro
                  refine ⟨fun σ w2 hA hD hC => ?_, ?_⟩
                  · clear hA hD hC
                    go_simp
                    exact And.intro rfl rfl
                  simp only [Act.put, List.setIfInBounds_toArray, List.set_cons_succ, List.set_cons_zero, Nat.reduceAdd]
                  refine lex_plain (by rfl) rfl ?_
                  apply Exists.intro
                  refine ⟨fun σ w2 hA hD hC => ?_, ?_⟩
                  · clear hA hD hC
                    go_simp
                    exact And.intro rfl rfl
                  simp only [Act.put, List.setIfInBounds_toArray, List.set_cons_succ, List.set_cons_zero, Nat.reduceAdd]
                  refine lex_special (by rfl) rfl (fun σ w2 hA hD hn hC => ?_) ?_
                  · have e19 := got1 hA hD 19 rfl (by kernel_rfl)
                    rw [n19, HQN.out] at e19
                    have hat := (hC.cp0 hn).at_ HI.out.1
                    have z6 := hat.1.2.2.2.2.2.2.1
                    have hfz := hat.2 (i * 9 + 6)
                    dsimp only [El.vs] at z6
                    clear hat
                    go_simp
                    rw [HQN.out]
                    exact ⟨rfl, hC.store hn e19 HI.out.1⟩
                  rw [n22]
                  simp only [Act.put, Nat.reduceAdd]
                  refine lex_nil (fun σ wb hA hall hC => ?_)
                  obtain ⟨sa2, sc2, h19, hcp⟩ := hC.cp1 _ (hall 22 rfl (by decide))
                  have ho2 := hC.c _ h19
                  obtain ⟨e', he'⟩ : ∃ z, z = ({ nth es i with list := (nth es i).list.take p2 ++ (nth es i).list.drop p3, sa := sa2, sc := sc2 } : El) := ⟨_, rfl⟩
                  rw [← he'] at hcp
                  have hin := hcp.ok_ins hC.below (fun j hj => (HX0.out j hj).2) HNL.out (by rw [he']; exact ⟨HOKI.out.1.keep hC.below, ho2.rd, HOKI.out.2.2.keep hC.below⟩)
                  have hfl := find_list HST.out HN12.out HI.out.1 (p := p2) (by rw [← HXH.out, Int.toNat_natCast, ← HKK.out, ← HK0.out, ← HH.out]; exact HP2.out) e' (by rw [he']) (by rw [he', HP3.out]) (by rw [he']; exact HUP.out)
                  have HIN2 := Lib.hid hin
                  have HFL := Lib.hid hfl
                  have HBC := Lib.hid (HB.out.trans (hC.below.mono HB.out.size))
                  clear hA hall hC h19 hcp ho2 he' hin hfl
                  go_wp2_with fail
                  refine (lists_v HFL.out HIN2.out).mono ?_
                  rintro e w8 ⟨rfl, hb⟩
                  have HB := Lib.hid (HBC.out.trans (hb.mono HBC.out.size))
                  clear hb
                  go_wp2_with fail
                  refine (works_any _).mono ?_
                  rintro e w9 ⟨rfl, hb⟩
                  have HB9 := Lib.hid (HB.out.trans ((hb).mono HB.out.size))
                  clear hb
                  go_wp2
                  go_ret
                  exact ⟨rfl, HB9.out⟩
        | true =>
          have hy : 0 ≤ lineV [] (es.set i e6) := HFL.out.2 (by obtain ⟨k, h1, h2, h3⟩ := apB_true HAP.out.symm; exact ⟨k, Nat.lt_of_lt_of_le h1 (Nat.le_of_eq HNL.out), h2, h3⟩)
          obtain ⟨Y, hY⟩ : ∃ z, lineV [] (es.set i e6) = z := ⟨_, rfl⟩
          rw [hY] at hy
          have HY := Lib.hid hY
          have hy1 : ¬ Y < 0 := nneg hy
          have hy2 : decide (Y < 0) = false := decide_eq_false hy1
          clear hY hy
          go_wp2_with fail
          refine (line_v HY.out (InS.nil_ _) HIN7.out).mono ?_
          rintro e w8 ⟨rfl, hb⟩
          have HKW := Lib.hid (HKW.out.keep hb)
          have HBW := Lib.hid (HBW.out.trans (hb.mono HBW.out.size))
          clear hb HIN7
          go_wp2_with fail
          clear hz1 hz2 hy1 hy2 ipk
          go_loopw [16, 17] (fun a t wr => ∃ j : Nat, j ≤ nl ∧ a = .int .i64 (((kn (es.take j)).length : Nat) : Int) ∧ t = .int .i64 j ∧ w8 = wr) (fun _ t _ => nl - (intOf t).toNat)
          case atStart => exact ⟨0, Nat.zero_le _, rfl, rfl, rfl⟩
          case round =>
            obtain ⟨j, hjn, rfl, rfl, rfl⟩ := hrel
            by_cases h1 : j < nl
            · have hnl := HNL.out
              obtain ⟨⟨gj, oj, ej, hs⟩, hok⟩ := HX0.out j h1
              simp only [Option.some.injEq, Addr.mk.injEq, and_true] at ej
              obtain ⟨rfl, rfl⟩ := ej
              change SeenAt w1 g (off + j * 9) (nth es j) at hs
              obtain ⟨z0, z1, z2, z3, z4, z5, z6, z7, z8⟩ := hs.keep HBW.out
              dsimp only [El.vl] at z5
              have hkl := kn_len_snoc es j (by rw [← hnl]; exact h1)
              have i2 : (j : Int) < (nl : Int) := ltz h1
              obtain ⟨A, hA⟩ : ∃ z, z = (kn (es.take j)).length := ⟨_, rfl⟩
              obtain ⟨C, hC⟩ : ∃ z, z = (nth es j).line.length := ⟨_, rfl⟩
              rw [← hA, ← hC] at hkl
              rw [← hA]
              rw [← hC] at z5
              have HKL := Lib.hid hkl
              have H1 := Lib.hid h1
              have i9 : (j : Int) < 9223372036854775807 := lt63 HM0.out h1
              clear hnl hs hok z0 z1 z2 z3 z4 z6 z7 z8 hkl hA hC h1 hjn
              go_wp2
              exact ⟨⟨j + 1, Nat.succ_le_of_lt H1.out, by rw [HKL.out, ← mxi], rfl, by trivial⟩, ms_lt H1.out⟩
            · have hjn2 : j = es.length := (neq_len hjn h1).symm.trans HNL.out
              have i2 : ¬ (j : Int) < (nl : Int) := nltz h1
              have hkk : es.take j = es := by rw [hjn2, List.take_length]
              rw [hkk]
              obtain ⟨K0, hK0⟩ : ∃ z, z = (kn es).length := ⟨_, rfl⟩
              rw [← hK0]
              have HK0 := Lib.hid hK0
              have him : i < m := lt_min6 HEL.out HI.out.1
              obtain ⟨⟨gx, ox, rfl, hsh⟩, hwf⟩ := HX.out i him
              have ch := cell_later (HB.out.trans (HBW.out.mono HB.out.size)) hsh.2.1
              have hwh := hwf.2.1
              obtain ⟨xh, hxh⟩ : ∃ z, z = (xs.getD i shp0).h := ⟨_, rfl⟩
              rw [← hxh] at ch hwh
              obtain ⟨yh, rfl⟩ := toNat_ex hwh
              obtain ⟨kk, hkk2⟩ : ∃ z, z = yh % (N + 1) := ⟨_, rfl⟩
              have hk1 := tmod1 yh N
              rw [← hkk2] at hk1
              obtain ⟨H, hH⟩ : ∃ z, z = min kk K0 := ⟨_, rfl⟩
              have hmn : (if K0 < kk then (K0 : Int) else (kk : Int)) = (H : Int) := by rw [hH]; exact min_ite _ _
              have hn12 := HN12.out
              have hwN : wrap64 ((N : Int) + 1) = (N : Int) + 1 := wrapS1 (Nat.le_trans (Nat.le_of_lt hn12) (by decide))
              have hwN2 : wrap64 (N : Int) = (N : Int) := wrapS (Nat.le_trans (Nat.le_of_lt hn12) (by decide))
              have hwh2 : wrap64 (yh : Int) = (yh : Int) := wrapS (wf_small hwh)
              have hnz2 := nz1 N
              have imm : (i : Int) < (m : Int) := ltz him
              have hmod := HMOD.out
              have HH := Lib.hid hH
              have HKK := Lib.hid hkk2
              have HXH := Lib.hid hxh
              have HHK := Lib.hid (hk12 hH hkk2 hn12)
              clear hjn2 hjn hkk hK0 hsh hwf hwh hxh hkk2 hH hn12 h1 him
              obtain ⟨z0, z1, z2, z3, z4, z5, z6, z7, z8⟩ := HSI.out.keep HBW.out
              clear z1 z2 z3 z4 z5 z6 z7 z8
              clear i1
              --HH
              by_cases hh : 1 < H
              case neg =>
                have i3 : ¬ (1 : Int) < (H : Int) := nlt1 hh
                have HB := Lib.hid (HB.out.trans (HBW.out.mono HB.out.size))
                go_wp2_with fail
                refine (works_any _).mono ?_
                rintro e w9 ⟨rfl, hb⟩
                have HB9 := Lib.hid (HB.out.trans ((hb).mono HB.out.size))
                clear hb
                go_wp2
                go_ret
                exact ⟨rfl, HB9.out⟩
              case pos =>
                have i3 : (1 : Int) < (H : Int) := lt1 hh
                --HUP
                by_cases hup : (nth es i).up = true
                case neg =>
                  have hup2 : (nth es i).up = false := by simpa using hup
                  rw [hup2] at z0
                  have HB := Lib.hid (HB.out.trans (HBW.out.mono HB.out.size))
                  clear hup hup2
                  go_wp2_with fail
                  refine (works_any _).mono ?_
                  rintro e w9 ⟨rfl, hb⟩
                  have HB9 := Lib.hid (HB.out.trans ((hb).mono HB.out.size))
                  clear hb
                  go_wp2
                  go_ret
                  exact ⟨rfl, HB9.out⟩
                case pos =>
                  rw [hup] at z0
                  have HUP := Lib.hid hup
                  clear hup
                  have hw1 : wrap64 ((H : Int) - 1) = (H : Int) - 1 := wrapSm (Nat.le_trans HHK.out (by decide))
                  obtain ⟨p2, hp2⟩ : ∃ z, z = s % (H - 1) := ⟨_, rfl⟩
                  have hs2 := tmodm (y := s) hh
                  rw [← hp2] at hs2
                  have HP2 := Lib.hid (p2lt hp2 hh)
                  have hnz3 : ¬ ((H : Int) - 1 = 0) := nzm hh
                  have hws : wrap64 (s : Int) = (s : Int) := wrapS (b255 HBS.out.2)
                  have c1 := HKW.out.cell 1
                  simp at c1
                  have hal := (Below.refl w8.heap.size w8).alloc (Nat.le_refl _) (Obj.cells #[] 40)
                  have HAL := Lib.hid hal
                  have HAPP := Lib.hid (app_seens (base := w8.heap.size) 23 (OwS.empty w8) (HIN.out.keep (HBW.out.trans (hal.mono HBW.out.size))) (by have := HI.out; have := HNL.out; omega) (by have := HEL.out; have := HNL.out; simp only [List.length_nil]; omega) (by simp))
                  clear hp2 hal hh
                  go_wp2_with (at_builtin; refine wpList_append_run rfl _ _ 23 rfl _ _ rfl rfl _ HAPP.out ?_)
                  refine Later.mk fun _ _ u3 wa hp3 hb3 => ?_
                  obtain ⟨gx, cx, rfl, hge, hcp⟩ := hp3.cp (by have := HI.out; have := HNL.out; omega)
                  rw [← HNL.out] at hcp
                  rw [← HNL.out]
                  have HBA := Lib.hid (HBW.out.trans ((HAL.out.trans hb3).mono HBW.out.size))
                  have HCA := Lib.hid hcp
                  have HGA := Lib.hid (show w1.heap.size ≤ gx from Nat.le_trans HBW.out.size hge)
                  clear hp3 hb3 hge hcp HAPP HAL
                  obtain ⟨SL, hSL⟩ : ∃ z, z = (nth es i).list.length := ⟨_, rfl⟩
                  have HS := Lib.hid hSL
                  clear hSL
                  have hll := len_list HST.out HI.out.1 HN12.out
                  have hkk : (xs.getD i shp0).h.toNat % (N + 1) = kk := by rw [← HXH.out, Int.toNat_natCast]; exact HKK.out.symm
                  rw [hkk, ← HS.out] at hll
                  obtain ⟨p3, hp3⟩ : ∃ z, z = p2 + 1 := ⟨_, rfl⟩
                  have h3S : p3 ≤ SL := by have := HP2.out; have := HH.out; omega
                  have hvs : InG w1 (.slice (nth es i).sa (nth es i).list.length (nth es i).sc) (nth es i).list := HOKI.out.2.1
                  rw [← HS.out] at hvs
                  have hroom := hvs.room.2
                  rw [← HS.out] at hroom
                  have h2S : p2 ≤ (nth es i).sc := by omega
                  have hw3 : IntKind.i64.wrap ((p2 : Int) + 1) = (p3 : Int) := by rw [hp3]; exact wrapK1 (by have := hll.2; omega)
                  have HTK := Lib.hid (hvs.take (m := p2) (by have := HS.out; omega))
                  have hdr := hvs.drop (m := p3) (by have := HS.out; omega)
                  obtain ⟨sx, hsx⟩ : ∃ z, (if (nth es i).sc = p3 then (nth es i).sa else (nth es i).sa.map fun x => x.add (p3 * 2)) = z := ⟨_, rfl⟩
                  rw [hsx] at hdr
                  have HDR := Lib.hid hdr
                  have HSM := Lib.hid (And.intro HS.out hll.2)
                  have HP3 := Lib.hid hp3
                  obtain ⟨qn, hqn⟩ : ∃ z, z = ((nth es i).list.take p2 ++ (nth es i).list.drop p3).length := ⟨_, rfl⟩
                  have HQN := Lib.hid hqn
                  clear hll hkk hroom hvs hp3 hqn hdr
                  go_wp2_with fail
                  refine wp_region_spec (fun i => i == 2 || i == 10 || i == 19 || i == 22) (kindsF qn) (FL w1 gx nl cx wa.heap.size es i ((nth es i).list.take p2) ((nth es i).list.drop p3)) (by kernel_rfl) (by kernel_rfl) (kindsF_inh _) (FL.start HBA.out HCA.out HCA.out.lt HGA.out) ?_
                  intro ν hν
                  have n22 : ν 22 = undef := hν 22
                  obtain ⟨na, nc, n19⟩ : ∃ a c, ν 19 = .slice a qn c := hν 19
                  clear hν
                  refine lex_plain (by rfl) rfl ?_
                  apply Exists.intro
                  refine ⟨fun σ w2 hA hD hC => ?_, ?_⟩
                  · clear hA hD hC
                    go_simp
                    exact And.intro rfl rfl
                  simp only [Act.put, List.setIfInBounds_toArray, List.set_cons_succ, List.set_cons_zero, Nat.reduceAdd]
                  refine lex_plain (by rfl) rfl ?_
                  apply Exists.intro
                  refine ⟨fun σ w2 hA hD hC => ?_, ?_⟩
                  · clear hA hD hC
                    go_simp
                    exact And.intro rfl rfl
                  simp only [Act.put, List.setIfInBounds_toArray, List.set_cons_succ, List.set_cons_zero, Nat.reduceAdd]
                  refine lex_special (by rfl) rfl (fun σ w2 hA hD hn hC => ?_) ?_
                  · go_simp
                    exact ⟨trivial, hC.two⟩
                  simp only [Act.put, List.setIfInBounds_toArray, List.set_cons_succ, List.set_cons_zero, Nat.reduceAdd]
                  refine lex_plain (by rfl) rfl ?_
                  apply Exists.intro
                  refine ⟨fun σ w2 hA hD hC => ?_, ?_⟩
                  · clear hA hD hC
                    go_simp
                    exact And.intro rfl rfl
                  simp only [Act.put, List.setIfInBounds_toArray, List.set_cons_succ, List.set_cons_zero, Nat.reduceAdd]
                  refine lex_plain (by rfl) rfl ?_
                  apply Exists.intro
                  refine ⟨fun σ w2 hA hD hC => ?_, ?_⟩
                  · clear hA hD hC
                    go_simp
                    exact And.intro rfl rfl
                  simp only [Act.put, List.setIfInBounds_toArray, List.set_cons_succ, List.set_cons_zero, Nat.reduceAdd]
                  refine lex_plain (by rfl) rfl ?_
                  apply Exists.intro
                  refine ⟨fun σ w2 hA hD hC => ?_, ?_⟩
                  · clear hA hD hC
                    go_simp
                    exact And.intro rfl rfl
                  simp only [Act.put, List.setIfInBounds_toArray, List.set_cons_succ, List.set_cons_zero, Nat.reduceAdd]
                  refine lex_plain (by rfl) rfl ?_
                  apply Exists.intro
                  refine ⟨fun σ w2 hA hD hC => ?_, ?_⟩
                  · clear hA hD hC
                    go_simp
                    exact And.intro rfl rfl
                  simp only [Act.put, List.setIfInBounds_toArray, List.set_cons_succ, List.set_cons_zero, Nat.reduceAdd]
                  refine lex_plain (by rfl) rfl ?_
                  apply Exists.intro
                  refine ⟨fun σ w2 hA hD hC => ?_, ?_⟩
                  · obtain ⟨z0, z1, z2, z3, z4, z5, z6, z7, z8⟩ := HSI.out.keep hC.below
                    dsimp only [El.vl, El.vs, El.vt, El.vi] at z6
                    rw [← HS.out] at z6
                    clear z0 z1 z2 z3 z4 z5 z7 z8
                    clear hA hD hC
                    go_simp
                    exact And.intro rfl rfl
                  simp only [Act.put, List.setIfInBounds_toArray, List.set_cons_succ, List.set_cons_zero, Nat.reduceAdd]
                  refine lex_plain (by rfl) rfl ?_
                  apply Exists.intro
                  refine ⟨fun σ w2 hA hD hC => ?_, ?_⟩
                  · clear hA hD hC
                    go_simp
                    exact And.intro rfl rfl
                  simp only [Act.put, List.setIfInBounds_toArray, List.set_cons_succ, List.set_cons_zero, Nat.reduceAdd]
                  refine lex_plain (by rfl) rfl ?_
                  apply Exists.intro
                  refine ⟨fun σ w2 hA hD hC => ?_, ?_⟩
                  · clear hA hD hC
                    go_simp
                    exact And.intro rfl rfl
                  simp only [Act.put, List.setIfInBounds_toArray, List.set_cons_succ, List.set_cons_zero, Nat.reduceAdd]
                  refine lex_special (by rfl) rfl (fun σ w2 hA hD hn hC => ?_) ?_
                  · have e2 := got1 hA hD 2 rfl (by kernel_rfl)
                    have ho := hC.a _ e2 hn
                    obtain ⟨v', w', hr, ha⟩ := app_guids (w := w2) 35 ho (HTK.out.keep hC.below) (by have := HSM.out; rw [List.length_nil, List.length_take]; omega) hC.lt.2.2
                    rw [exec_append (.tmp 158) (.tmp 165) 35 rfl _ _ rfl rfl _ hr]
                    exact ⟨trivial, hC.ten hn (ha.below ho hC.lt.2.2) ha.1⟩
                  simp only [Act.put, List.setIfInBounds_toArray, List.set_cons_succ, List.set_cons_zero, Nat.reduceAdd]
                  refine lex_plain (by rfl) rfl ?_
                  apply Exists.intro
                  refine ⟨fun σ w2 hA hD hC => ?_, ?_⟩
                  · clear hA hD hC
                    go_simp
                    exact And.intro rfl rfl
                  simp only [Act.put, List.setIfInBounds_toArray, List.set_cons_succ, List.set_cons_zero, Nat.reduceAdd]
                  refine lex_plain (by rfl) rfl ?_
                  apply Exists.intro
                  refine ⟨fun σ w2 hA hD hC => ?_, ?_⟩
                  · clear hA hD hC
                    go_simp
                    exact And.intro rfl rfl
                  simp only [Act.put, List.setIfInBounds_toArray, List.set_cons_succ, List.set_cons_zero, Nat.reduceAdd]
                  refine lex_plain (by rfl) rfl ?_
                  apply Exists.intro
                  refine ⟨fun σ w2 hA hD hC => ?_, ?_⟩
                  · clear hA hD hC
                    go_simp
                    exact And.intro rfl rfl
                  simp only [Act.put, List.setIfInBounds_toArray, List.set_cons_succ, List.set_cons_zero, Nat.reduceAdd]
                  refine lex_plain (by rfl) rfl ?_
                  apply Exists.intro
                  refine ⟨fun σ w2 hA hD hC => ?_, ?_⟩
                  · clear hA hD hC
                    go_simp
                    exact And.intro rfl rfl
                  simp only [Act.put, List.setIfInBounds_toArray, List.set_cons_succ, List.set_cons_zero, Nat.reduceAdd]
                  refine lex_plain (by rfl) rfl ?_
                  apply Exists.intro
                  refine ⟨fun σ w2 hA hD hC => ?_, ?_⟩
                  · obtain ⟨z0, z1, z2, z3, z4, z5, z6, z7, z8⟩ := HSI.out.keep hC.below
                    dsimp only [El.vl, El.vs, El.vt, El.vi] at z6
                    rw [← HS.out] at z6
                    clear z0 z1 z2 z3 z4 z5 z7 z8
                    clear hA hD hC
                    go_simp
                    exact And.intro rfl rfl
                  simp only [Act.put, List.setIfInBounds_toArray, List.set_cons_succ, List.set_cons_zero, Nat.reduceAdd]
                  refine lex_plain (by rfl) rfl ?_
                  apply Exists.intro
                  refine ⟨fun σ w2 hA hD hC => ?_, ?_⟩
                  · clear hA hD hC
                    go_simp
                    exact And.intro rfl rfl
                  simp only [Act.put, List.setIfInBounds_toArray, List.set_cons_succ, List.set_cons_zero, Nat.reduceAdd]
                  refine lex_plain (by rfl) rfl ?_
                  apply Exists.intro
                  refine ⟨fun σ w2 hA hD hC => ?_, ?_⟩
                  · clear hA hD hC
                    go_simp
                    exact And.intro rfl rfl
                  simp only [Act.put, List.setIfInBounds_toArray, List.set_cons_succ, List.set_cons_zero, Nat.reduceAdd]
                  refine lex_plain (by rfl) rfl ?_
                  apply Exists.intro
                  refine ⟨fun σ w2 hA hD hC => ?_, ?_⟩
                  · clear hA hD hC
                    go_simp
                    exact And.intro rfl rfl
                  simp only [Act.put, List.setIfInBounds_toArray, List.set_cons_succ, List.set_cons_zero, Nat.reduceAdd]
                  refine lex_special (by rfl) rfl (fun σ w2 hA hD hn hC => ?_) ?_
                  · have e10 := got1 hA hD 10 rfl (by kernel_rfl)
                    have ho := hC.b _ e10 hn
                    obtain ⟨v', w', hr, ha⟩ := app_guids (w := w2) 35 ho (HDR.out.keep hC.below) (by have := HSM.out; rw [List.length_take, List.length_drop]; omega) hC.lt.2.2
                    rw [exec_append (.tmp 166) (.tmp 174) 35 rfl _ _ rfl rfl _ hr]
                    obtain ⟨va', vc', hv'⟩ := ha.1.rd.slice_
                    exact ⟨⟨va', vc', by rw [HQN.out]; exact hv'⟩, hC.nineteen hn (by rw [e10]; rfl) (ha.below ho hC.lt.2.2) ha.1⟩
                  rw [n19]
                  simp only [Act.put, List.setIfInBounds_toArray, List.set_cons_succ, List.set_cons_zero, Nat.reduceAdd]
                  refine lex_plain (by rfl) rfl ?_
                  apply Exists.intro
                  refine ⟨fun σ w2 hA hD hC => ?_, ?_⟩
                  · clear hA hD hC
                    go_simp
                    exact And.intro rfl rfl
                  simp only [Act.put, List.setIfInBounds_toArray, List.set_cons_succ, List.set_cons_zero, Nat.reduceAdd]
                  refine lex_plain (by rfl) rfl ?_
                  apply Exists.intro
                  refine ⟨fun σ w2 hA hD hC => ?_, ?_⟩
                  · clear hA hD hC
                    go_simp
                    exact And.intro rfl rfl
                  simp only [Act.put, List.setIfInBounds_toArray, List.set_cons_succ, List.set_cons_zero, Nat.reduceAdd]
                  refine lex_special (by rfl) rfl (fun σ w2 hA hD hn hC => ?_) ?_
                  · have e19 := got1 hA hD 19 rfl (by kernel_rfl)
                    rw [n19, HQN.out] at e19
                    have hat := (hC.cp0 hn).at_ HI.out.1
                    have z6 := hat.1.2.2.2.2.2.2.1
                    have hfz := hat.2 (i * 9 + 6)
                    dsimp only [El.vs] at z6
                    clear hat
                    go_simp
                    rw [HQN.out]
                    exact ⟨rfl, hC.store hn e19 HI.out.1⟩
                  rw [n22]
                  simp only [Act.put, Nat.reduceAdd]
                  refine lex_nil (fun σ wb hA hall hC => ?_)
                  obtain ⟨sa2, sc2, h19, hcp⟩ := hC.cp1 _ (hall 22 rfl (by decide))
                  have ho2 := hC.c _ h19
                  obtain ⟨e', he'⟩ : ∃ z, z = ({ nth es i with list := (nth es i).list.take p2 ++ (nth es i).list.drop p3, sa := sa2, sc := sc2 } : El) := ⟨_, rfl⟩
                  rw [← he'] at hcp
                  have hin := hcp.ok_ins hC.below (fun j hj => (HX0.out j hj).2) HNL.out (by rw [he']; exact ⟨HOKI.out.1.keep hC.below, ho2.rd, HOKI.out.2.2.keep hC.below⟩)
                  have hfl := find_list HST.out HN12.out HI.out.1 (p := p2) (by rw [← HXH.out, Int.toNat_natCast, ← HKK.out, ← HK0.out, ← HH.out]; exact HP2.out) e' (by rw [he']) (by rw [he', HP3.out]) (by rw [he']; exact HUP.out)
                  have HIN2 := Lib.hid hin
                  have HFL := Lib.hid hfl
                  have HBC := Lib.hid (HB.out.trans (hC.below.mono HB.out.size))
                  clear hA hall hC h19 hcp ho2 he' hin hfl
                  go_wp2_with fail
                  refine (lists_v HFL.out HIN2.out).mono ?_
                  rintro e w8 ⟨rfl, hb⟩
                  have HB := Lib.hid (HBC.out.trans (hb.mono HBC.out.size))
                  clear hb
                  go_wp2_with fail
                  refine (works_any _).mono ?_
                  rintro e w9 ⟨rfl, hb⟩
                  have HB9 := Lib.hid (HB.out.trans ((hb).mono HB.out.size))
                  clear hb
                  go_wp2
                  go_ret
                  exact ⟨rfl, HB9.out⟩
end Go.Proofs.Yteplcpiamocclaa
