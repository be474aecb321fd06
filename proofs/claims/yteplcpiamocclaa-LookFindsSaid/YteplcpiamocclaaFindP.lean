/-
  LookFinds: the law, without a walk; the memory of the copy that is spoilt.
-/
import Derived.Test.YteplcpiamocclaaSettleP
import Derived.Deep.MidRow
namespace Go.Proofs.Yteplcpiamocclaa
open Go.RowKit Reg Go.ChangeShapes

theorem apart_at {a b : List Gd} {p : Nat} (ha : p < a.length) (hb : p < b.length) (hne : gth a p ≠ gth b p) : Go.Proofs.Yteplcpiamocclaa.apart a b = true := by
  have key : ∀ {a b : List Gd}, p < a.length → p < b.length → gth a p ≠ gth b p → begB a b = false := fun {a b} ha hb hne => by
    unfold begB
    rw [Bool.and_eq_false_iff]
    right
    rw [decide_eq_false_iff_not]
    intro e
    apply hne
    have h1 := congrArg (fun l => gth l p) e
    simp only [gth, List.getD_eq_getElem?_getD] at h1 ⊢
    rw [h1, List.getElem?_take_of_lt ha]
  unfold Go.Proofs.Yteplcpiamocclaa.apart
  rw [key ha hb hne, key hb ha (Ne.symm hne)]
  rfl
theorem nth_set_same {es : List El} {i : Nat} (e : El) (h : i < es.length) : nth (es.set i e) i = e := by simp [nth, h]
theorem nth_set_other {es : List El} {i j : Nat} (e : El) (h : j ≠ i) : nth (es.set i e) j = nth es j := by
  simp [nth, List.getElem?_set_ne (Ne.symm h)]
theorem gth_set_same {l : List Gd} {p : Nat} (x : Gd) (h : p < l.length) : gth (l.set p x) p = x := by simp [gth, h]
def othG : Gd := (50, 1)
theorem oth_ne (s : Nat) (hs : s < 12) : othG ≠ linA s := by
  intro e
  have := congrArg Prod.fst e
  unfold othG linA at this
  simp only at this
  omega
theorem gth_pre {N t p : Nat} (hp : p < ((linG N).take t).length) : gth ((linG N).take t) p = linA p ∧ p < N := by
  rw [List.length_take, linG_len] at hp
  have e : (linG N).take t = (linG N).take (min t N) := by rw [List.take_eq_take_iff, linG_len]; omega
  rw [e]
  exact ⟨gth_lin (by omega) (by omega), by omega⟩
theorem fIx_ge {n : Nat} {P : Nat → Bool} (h : ∃ j, j < n ∧ P j = true) : 0 ≤ fIx n P := by
  obtain ⟨j, hj, hp⟩ := h
  rcases fIx_cases n P with ⟨_, h2⟩ | ⟨k, _, h1, _⟩
  · rw [h2 j hj] at hp; cases hp
  · rw [h1]; omega
/-- a line in which a guid is another one is told -/
theorem find_line {N : Nat} {es : List El} (hpre : Pre (linG N) es) (hN : N < 12) {i p : Nat} (hi : i < es.length) (hp : p < (nth es i).line.length) (e' : El) (he : e'.line = (nth es i).line.set p othG) :
    0 ≤ lineV es (es.set i e') ∧ ((∃ j, j < es.length ∧ j ≠ i ∧ p < (nth es j).line.length) → 0 ≤ lineV [] (es.set i e')) := by
  have hlin : ∀ j, p < (nth es j).line.length → gth (nth es j).line p = linA p ∧ p < N := fun j hj => by
    obtain ⟨t, ht⟩ := pre_nth hpre j
    rw [ht] at hj ⊢
    exact gth_pre hj
  have hpN := (hlin i hp).2
  have hap : ∀ j, p < (nth es j).line.length → Go.Proofs.Yteplcpiamocclaa.apart e'.line (nth es j).line = true := fun j hj => by
    refine apart_at (p := p) (by rw [he, List.length_set]; exact hp) hj ?_
    rw [he, gth_set_same _ hp, (hlin j hj).1]
    exact oth_ne p (by omega)
  refine ⟨fIx_ge ⟨i, by rw [List.length_set]; exact hi, ?_⟩, fun ⟨j, hj, hji, hjp⟩ => fIx_ge ⟨i, by rw [List.length_set]; exact hi, ?_⟩⟩
  · unfold lineP
    rw [nth_set_same _ hi, Bool.or_eq_true, List.any_eq_true]
    exact .inl ⟨i, List.mem_range.2 hi, hap i hp⟩
  · unfold lineP
    rw [nth_set_same _ hi, Bool.or_eq_true, List.any_eq_true, List.any_eq_true]
    refine .inr ⟨j, List.mem_range.2 (by rw [List.length_set]; exact hj), ?_⟩
    rw [nth_set_other _ hji]
    exact hap j hjp
theorem kn_lines (es : List El) : kn es = (es.map (·.line)).foldl (fun out l => if out.length < l.length then l else out) [] := by
  unfold kn
  rw [List.foldl_map]
theorem kn_set {es : List El} {i : Nat} {e' : El} (hi : i < es.length) (he : e'.line = (nth es i).line) : kn (es.set i e') = kn es := by
  rw [kn_lines, kn_lines]
  congr 1
  apply List.ext_getElem
  · simp
  intro j h1 h2
  simp only [List.getElem_map, List.getElem_set]
  split
  · rename_i h
    subst h
    rw [he]
    simp [nth, hi]
  · rfl
theorem gth_cut {l : List Gd} {p j : Nat} (hp : p < l.length) : gth (l.take p ++ l.drop (p + 1)) j = if j < p then gth l j else gth l (j + 1) := by
  have hl : (l.take p).length = p := by rw [List.length_take]; omega
  unfold gth
  simp only [List.getD_eq_getElem?_getD]
  split
  · rename_i h
    rw [List.getElem?_append_left (by omega), List.getElem?_take_of_lt h]
  · rename_i h
    rw [List.getElem?_append_right (by omega), hl, List.getElem?_drop]
    congr 2
    omega
/-- a list in which the lineage goes on behind a guid that is left out is told -/
theorem find_list {N m : Nat} {xs : List Shp} {es : List El} (hst : es.map El.strip = builtB (linG N) xs m) (hN : N < 12) {i p : Nat} (hi : i < m)
    (hp : p + 1 < min ((xs.getD i shp0).h.toNat % (N + 1)) (kn es).length) (e' : El) (h1 : e'.line = (nth es i).line) (h2 : e'.list = (nth es i).list.take p ++ (nth es i).list.drop (p + 1)) (h3 : e'.up = true) :
    listsV (es.set i e') = i := by
  have hlen : es.length = m := by
    have := congrArg List.length hst
    rwa [List.length_map, builtB_len] at this
  have hkn : kn (es.set i e') = kn es := kn_set (by omega) h1
  obtain ⟨K, hK, hk⟩ : ∃ K, K ≤ (linG N).length ∧ kn es = (linG N).take K := by
    rw [← kn_strip, hst]
    exact kn_take (builtB_pre (linG N) xs m)
  rw [linG_len] at hK
  have hkl : (kn es).length = K := by rw [hk, List.length_take, linG_len]; omega
  obtain ⟨h, hh⟩ : ∃ z, z = (xs.getD i shp0).h.toNat % (N + 1) := ⟨_, rfl⟩
  have hhN : h ≤ N := by have := Nat.mod_lt (xs.getD i shp0).h.toNat (show 0 < N + 1 by omega); omega
  rw [← hh, hkl] at hp
  have hlist : (nth es i).list = lst N h i ((xs.getD i shp0).o.toNat % 4) := by
    have e := nth_strip es i
    rw [hst, builtB_nth _ _ hi] at e
    have := congrArg El.list e
    rw [nodeB_list, ← hh] at this
    exact this.symm
  refine fIx_some (by rw [List.length_set]; omega) (fun j hj => ?_) ?_
  · rw [nth_set_other _ (by omega)]
    have hb : badL (es.set i e') j = badL es j := by
      unfold badL
      rw [nth_set_other _ (by omega), hkn]
    rw [hb, ← badL_strip, hst, badL_built hN (by omega)]
    simp
  · rw [nth_set_same _ (by omega), h3, Bool.true_and]
    unfold badL
    rw [nth_set_same _ (by omega), hkn, h2, hlist, hk]
    generalize (xs.getD i shp0).o.toNat % 4 = o
    have hll : (lst N h i o).length = h + o := lst_len hhN
    have hpl : p < (lst N h i o).length := by omega
    have hKl : ((linG N).take K).length = K := by rw [List.length_take, linG_len]; omega
    have hcut : ∀ j, gth ((lst N h i o).take p ++ (lst N h i o).drop (p + 1)) j = if j < p then gth (lst N h i o) j else gth (lst N h i o) (j + 1) := fun j => gth_cut hpl
    have hcl : ((lst N h i o).take p ++ (lst N h i o).drop (p + 1)).length = h + o - 1 := by
      rw [List.length_append, List.length_take, List.length_drop, hll]; omega
    have hc : comm ((lst N h i o).take p ++ (lst N h i o).drop (p + 1)) ((linG N).take K) = p := by
      refine comm_spec _ _ _ (by rw [hcl]; omega) (by rw [hKl]; omega) (fun j hj => ?_) (.inr (.inr ?_))
      · have e := hcut j
        rw [if_pos hj, gth_lst hhN (by omega), if_pos (by omega)] at e
        exact e.trans (gth_lin hK (by omega)).symm
      · have e := hcut p
        rw [if_neg (by omega), gth_lst hhN (by omega), if_pos (by omega)] at e
        intro e2
        have := lin_inj (e.symm.trans (e2.trans (gth_lin hK (show p < K by omega))))
        omega
    rw [hc, Bool.or_eq_true]
    refine .inr ?_
    unfold anyIn
    rw [List.any_eq_true]
    refine ⟨linA (p + 1), ?_, ?_⟩
    · rw [mem_iff_gth]
      refine ⟨0, by rw [List.length_drop, hcl]; omega, ?_⟩
      have e := hcut p
      rw [if_neg (by omega), gth_lst hhN (by omega), if_pos (by omega)] at e
      rw [← e]
      unfold gth
      simp only [List.getD_eq_getElem?_getD, List.getElem?_drop, Nat.add_zero]
    · rw [decide_eq_true_iff, mem_iff_gth]
      exact ⟨p + 1, by rw [hKl]; omega, gth_lin hK (by omega)⟩
/-- how many are known -/
theorem kn_len_snoc (es : List El) (j : Nat) (h : j < es.length) : (kn (es.take (j + 1))).length = max (kn (es.take j)).length (nth es j).line.length := by
  rw [take_snoc h, kn_snoc]
  split <;> omega
/-- whether another one is so long -/
def apB (es : List El) (i p j : Nat) : Bool := (List.range j).any fun k => decide (k ≠ i) && decide (p < (nth es k).line.length)
theorem apB_succ (es : List El) (i p j : Nat) : apB es i p (j + 1) = (apB es i p j || (decide (j ≠ i) && decide (p < (nth es j).line.length))) := by
  unfold apB
  rw [List.range_succ, List.any_append]
  simp
theorem apB_true {es : List El} {i p j : Nat} (h : apB es i p j = true) : ∃ k, k < j ∧ k ≠ i ∧ p < (nth es k).line.length := by
  unfold apB at h
  rw [List.any_eq_true] at h
  obtain ⟨k, hk, h⟩ := h
  simp only [Bool.and_eq_true, decide_eq_true_eq] at h
  exact ⟨k, List.mem_range.1 hk, h.1, h.2⟩
/-! memory -/
theorem cellsS_set : ∀ (es : List El) (i k : Nat) (e' : El) (v : Value), i < es.length → k < 9 → e'.cells.toList = (nth es i).cells.toList.set k v → cellsS (es.set i e') = (cellsS es).set (i * 9 + k) v
  | [], i, _, _, _, h, _, _ => absurd h (Nat.not_lt_zero i)
  | e :: es, 0, k, e', v, _, hk, he => by
    have h9 : e.cells.toList.length = 9 := rfl
    have he : e'.cells.toList = e.cells.toList.set k v := he
    show e'.cells.toList ++ cellsS es = (e.cells.toList ++ cellsS es).set (0 * 9 + k) v
    rw [he, List.set_append_left _ _ (by omega)]
    congr 2
    omega
  | e :: es, i + 1, k, e', v, h, hk, he => by
    have h9 : e.cells.toList.length = 9 := rfl
    have ih := cellsS_set es i k e' v (by simpa using h) hk he
    show e.cells.toList ++ cellsS (es.set i e') = (e.cells.toList ++ cellsS es).set ((i + 1) * 9 + k) v
    rw [ih, List.set_append_right _ _ (by omega)]
    congr 2
    omega
section
variable {w w' : World} {base : Nat} {v u : Value} {es ys : List El}
theorem InS.rd (h : InS w v es) (hp : 0 < es.length) : Rd w 9 v es.length (cellsS es) := by
  obtain ⟨a, c, rfl, h1, h2, h3⟩ := h
  obtain ⟨⟨g, off, rfl, -⟩, -⟩ := h3 0 hp
  have hl : (cellsS es).length = es.length * 9 := by
    clear h1 h2 h3 hp
    induction es with
    | nil => rfl
    | cons e es ih =>
      have h9 : e.cells.toList.length = 9 := rfl
      show (e.cells.toList ++ cellsS es).length = _
      rw [List.length_append, ih, h9, List.length_cons]
      omega
  refine ⟨hl, .inr ⟨g, off, c, rfl, by omega, fun j u hu => ?_⟩⟩
  have hj : j < es.length * 9 := by
    rcases Nat.lt_or_ge j (es.length * 9) with q | q
    · exact q
    · rw [List.getElem?_eq_none (by omega)] at hu; cases hu
  obtain ⟨⟨g', off', e, hs⟩, -⟩ := h3 (j / 9) (by omega)
  simp only [Option.some.injEq, Addr.mk.injEq, and_true] at e
  obtain ⟨rfl, rfl⟩ := e
  have ej : j = j / 9 * 9 + j % 9 := by omega
  have hlt : j % 9 < 9 := Nat.mod_lt _ (by decide)
  have hc := cellsS_at es (j / 9) (j % 9) (by omega) hlt
  rw [← ej] at hc
  rw [hc] at hu
  change SeenAt w g (off + j / 9 * 9) (nth es (j / 9)) at hs
  have ea : off + j = off + j / 9 * 9 + j % 9 := by omega
  rw [ea]
  generalize j % 9 = r at *
  obtain ⟨z0, z1, z2, z3, z4, z5, z6, z7, z8⟩ := hs
  have hr : r = 0 ∨ r = 1 ∨ r = 2 ∨ r = 3 ∨ r = 4 ∨ r = 5 ∨ r = 6 ∨ r = 7 ∨ r = 8 := by omega
  rcases hr with rfl | rfl | rfl | rfl | rfl | rfl | rfl | rfl | rfl
  all_goals (rw [← hu]; assumption)
theorem OwS.empty (w : World) : OwS (w.alloc (.cells #[] 40)) w.heap.size (.slice (some ⟨w.heap.size, 0, none⟩) 0 0) [] :=
  own_new w w.heap.size 40 #[] 9 0 rfl (Nat.le_refl _) (by decide)
theorem OwG.empty (w : World) : OwG (w.alloc (.cells #[] 34)) w.heap.size (.slice (some ⟨w.heap.size, 0, none⟩) 0 0) [] :=
  ⟨own_new w w.heap.size 34 #[] 2 0 rfl (Nat.le_refl _) (by decide), by simp, by simp⟩
/-- append, of nodes -/
theorem app_seens (ty : TypeId) (ho : OwS w base v es) (hu : InS w u ys) (hp : 0 < ys.length) (hn : es.length + ys.length ≤ 2 ^ 30) (hbase : base ≤ w.heap.size) :
    ∃ v' w', (Builtin.append_ #[23, 23] ty #[v, u]).run Try.prog w = .ok v' w' ∧ OwS w' base v' (es ++ ys) ∧ Below base w w' := by
  obtain ⟨i, hi, hz0, hz1, hz2⟩ := info_parts seen_info
  have hone : ∀ y ∈ cellsS ys, y.oneCell' = true := by
    intro y hy
    unfold cellsS at hy
    rw [List.mem_flatMap] at hy
    obtain ⟨e, -, hy⟩ := hy
    simp [El.cells] at hy
    rcases hy with rfl | rfl | rfl | rfl | rfl | rfl | rfl | rfl | rfl <;> rfl
  obtain ⟨v', w', h1, h2⟩ := app_own _ base 23 ty 40 i el0.enc 9 128 Try.underlying23 hi hz0 hz1 hz2 rfl (by decide) ho (hu.rd hp) hone (by unfold maxLen; omega) (by omega) hbase
  refine ⟨v', w', h1, ?_, below_grown h2.2.1 hbase (own_block ho)⟩
  unfold OwS
  have e : cellsS (es ++ ys) = cellsS es ++ cellsS ys := by simp [cellsS]
  rw [e, List.length_append]
  exact h2.1
theorem OwS.keep (h : OwS w base v es) (hb : Below w.heap.size w w') : OwS w' base v es := by
  refine ⟨h.1, ?_⟩
  rcases h.2 with hn | ⟨g, cap, cur, rfl, hg, hh, rest⟩
  · exact .inl hn
  · exact .inr ⟨g, cap, cur, rfl, hg, (hb.block g (lt_of_block hh)).trans hh, rest⟩
end
/-- the block of a copy -/
def CpS (w : World) (g n cap : Nat) (es : List El) : Prop := ∃ cur, Blk w g 40 cur ∧ es.length = n ∧ n ≤ cap ∧ cap ≤ maxLen ∧ cur.size = cap * 9 ∧ cur.toList.take (n * 9) = cellsS es ∧ (cellsS es).length = n * 9
section
variable {w w' : World} {g n cap : Nat} {es : List El}
theorem OwS.cp {base : Nat} {v : Value} (h : OwS w base v es) (hp : 0 < es.length) : ∃ g cap, v = .slice (some ⟨g, 0, none⟩) es.length cap ∧ base ≤ g ∧ CpS w g es.length cap es := by
  rcases h.2 with ⟨-, h0⟩ | ⟨g, cap, cur, rfl, hg, hh, hc, hm, hs, ht⟩
  · omega
  · exact ⟨g, cap, rfl, hg, cur, hh, rfl, hc, hm, hs, ht, h.1⟩
theorem CpS.keep (h : CpS w g n cap es) (hb : Below w.heap.size w w') : CpS w' g n cap es := by
  obtain ⟨cur, h1, h2⟩ := h
  exact ⟨cur, h1.keep hb, h2⟩
theorem CpS.far (h : CpS w g n cap es) {p : Addr} (hp : g ≠ p.block) (u : Value) : CpS (w.setCell p u) g n cap es := by
  obtain ⟨cur, h1, h2⟩ := h
  exact ⟨cur, h1.far hp u, h2⟩
theorem CpS.lt (h : CpS w g n cap es) : g < w.heap.size := by
  obtain ⟨cur, h1, h2⟩ := h
  exact h1.lt
theorem CpS.set (h : CpS w g n cap es) {i k : Nat} (e' : El) (u : Value) (hi : i < n) (hk : k < 9) (he : e'.cells.toList = (nth es i).cells.toList.set k u) : CpS (w.setCell ⟨g, i * 9 + k, none⟩ u) g n cap (es.set i e') := by
  obtain ⟨cur, h1, h2, h3, h4, h5, h6, h7⟩ := h
  refine ⟨_, h1.set _ u, by rw [List.length_set]; exact h2, h3, h4, by simpa using h5, ?_, ?_⟩
  · rw [cellsS_set es i k e' u (by omega) hk he, Array.toList_setIfInBounds, List.take_set, h6]
  · rw [cellsS_set es i k e' u (by omega) hk he, List.length_set, h7]
theorem CpS.ins (h : CpS w g n cap es) (hok : ∀ e ∈ es, ElOK w e) : InS w (.slice (some ⟨g, 0, none⟩) n cap) es := by
  obtain ⟨cur, h1, h2, h3, h4, h5, h6, h7⟩ := h
  subst h2
  exact OwS.ins (base := 0) ⟨h7, .inr ⟨g, cap, cur, rfl, Nat.zero_le _, h1, h3, h4, h5, h6⟩⟩ hok (by omega)
/-- a node of it -/
theorem CpS.at_ (h : CpS w g n cap es) {j : Nat} (hj : j < n) : SeenAt w g (j * 9) (nth es j) ∧ ∀ i, w.frozen? ⟨g, i, none⟩ = false := by
  obtain ⟨cur, h1, h2, h3, h4, h5, h6, h7⟩ := h
  subst h2
  have hcell : ∀ i, i < 9 → w.cell? ⟨g, j * 9 + i, none⟩ = (nth es j).cells[i]? := fun i hi => by
    rw [h1.cell, ← cellsS_at es j i hj hi, ← h6, List.getElem?_take_of_lt (by omega)]
    simp
  exact ⟨⟨hcell 0 (by omega), hcell 1 (by omega), hcell 2 (by omega), hcell 3 (by omega), hcell 4 (by omega), hcell 5 (by omega), hcell 6 (by omega), hcell 7 (by omega), hcell 8 (by omega)⟩, fun i => h1.frozen i⟩
end
/-- one guid of an owned list is stored -/
theorem OwG.set {w : World} {base g k cap p : Nat} {gs : List Gd} (h : OwG w base (.slice (some ⟨g, 0, none⟩) k cap) gs) (x : Gd) (hx : wfG x) (hp : p < gs.length) :
    OwG (w.setCells g (p * 2) [.int .u64 x.1, .int .u64 x.2]) base (.slice (some ⟨g, 0, none⟩) k cap) (gs.set p x) := by
  have hcs : ∀ (gs : List Gd) (p : Nat), p < gs.length → cellsG (gs.set p x) = ((cellsG gs).set (p * 2) (.int .u64 x.1)).set (p * 2 + 1) (.int .u64 x.2) := by
    intro gs
    induction gs with
    | nil => intro p hp; exact absurd hp (Nat.not_lt_zero p)
    | cons y gs ih =>
      intro p hp
      have e1 : ∀ z l, cellsG (z :: l) = .int .u64 z.1 :: .int .u64 z.2 :: cellsG l := fun _ _ => rfl
      cases p with
      | zero => rfl
      | succ p =>
        have e2 : (p + 1) * 2 = p * 2 + 1 + 1 := by omega
        rw [List.set_cons_succ, e1, e1, ih p (by simpa using hp), e2]
        rfl
  have hlen : (gs.set p x).length = gs.length := List.length_set ..
  refine ⟨?_, by rw [hlen]; exact h.2.1, fun z hz => ?_⟩
  · rw [hlen]
    rcases h.1.2 with ⟨h0, -⟩ | ⟨g', cap', cur, e, hg, hh, hc, hm, hs, ht⟩
    · cases h0
    · simp only [Value.slice.injEq, Option.some.injEq, Addr.mk.injEq, and_true] at e
      obtain ⟨⟨rfl, -⟩, rfl, rfl⟩ := e
      have hb : Blk (w.setCells g (p * 2) [.int .u64 x.1, .int .u64 x.2]) g 34 ((cur.setIfInBounds (p * 2) (.int .u64 x.1)).setIfInBounds (p * 2 + 1) (.int .u64 x.2)) := (Blk.set (w := w) hh _ _).set _ _
      refine ⟨by rw [cellsG_length, hlen], .inr ⟨g, cap, _, rfl, hg, hb, hc, hm, by simpa using hs, ?_⟩⟩
      rw [hcs gs p hp, Array.toList_setIfInBounds, Array.toList_setIfInBounds, List.take_set, List.take_set, ht]
  · rcases List.mem_or_eq_of_mem_set hz with h1 | h1
    · exact h.2.2 z h1
    · rw [h1]; exact hx
end Go.Proofs.Yteplcpiamocclaa
