/-
  THE LAW's do: one act, to both chains (printed by wip/gen-rci.py).
-/
import Derived.Test.YtjeebpklinpmfaaRcH
namespace Go.Proofs.Ytjeebpklinpmfaa
open Go.RowKit Reg Go.WideShapes Go.ChangeShapes

theorem wpList_mid_then2 {P : Program} {ops : Array Oper} {rest : List Oper} {op : Oper} {a : Act} {w : World} {Q : Exit → Act → World → Prop} (hgd : op.guard = none) (ty : TypeId) (x y : Operand) (ho : op.op = .store ty x y)
    (b o : Nat) (cells : Array Value) (hx : a.eval x = .pointer (some ⟨b, o, none⟩)) (hy : a.eval y = .agg cells) (ht : w.there b o cells.size) (hi : (P.info? ty).map (·.size) = some cells.size) (h1 : cells.all (·.oneCell') = true)
    (h : Later (w.setCells b o cells.toList) (wpList P ops Q rest (a.put op.dst undef))) : wpList P ops Q (op :: rest) a w := wpList_store_mid hgd ty x y ho b o cells hx hy ht hi h1 h
/-- an act -/
structure Ac where
  wh : Int
  n : Int
  c : Int
  g : Gd
  ps : List Pt
structure wfA (x : Ac) : Prop where
  c0 : 0 ≤ x.c
  c1 : x.c < 256
  g : wfG x.g
def actC (C : Ch) (x : Ac) : Ch :=
  if x.wh = 0 ∨ x.wh = 1 ∨ x.wh = 2 then C.write x.n (dataS x.c)
  else if x.wh = 3 ∨ x.wh = 4 then C.snap x.g
  else if x.wh = 5 then C.roll x.n
  else if x.wh = 6 then C.hide x.g
  else C.add x.g ((x.ps.take 10).map cgP)
section
variable {B : Nat} {w0 w w' : World} {bc br : Nat} {C C' : Ch}
theorem Rc.write (h : Rc w B br C) (b : Int) (d : ByteArray) : Calls Try.prog 39 #[.pointer (some ⟨br, 0, none⟩), .int .i64 b, .string d] w (StR w B br (C.writeE b d) (C.write b d)) := by
  obtain ⟨nv, sv, now, es, h1, h2⟩ := h
  exact writeR_any h1 h2 b d
theorem Rc.snap (h : Rc w B br C) (g : Gd) (hg : wfG g) : Calls Try.prog 40 #[.pointer (some ⟨br, 0, none⟩), aggG g] w (StR w B br (C.next g) (C.snap g)) := by
  obtain ⟨nv, sv, now, es, h1, h2⟩ := h
  exact snapR_any h1 h2 g hg
theorem Rc.roll (h : Rc w B br C) (n : Int) : Calls Try.prog 41 #[.pointer (some ⟨br, 0, none⟩), .int .i64 n] w (StR w B br (C.rollE n) (C.roll n)) := by
  obtain ⟨nv, sv, now, es, h1, h2⟩ := h
  exact rollR_any h1 h2 n
theorem Rc.hide (h : Rc w B br C) (g : Gd) : Calls Try.prog 42 #[.pointer (some ⟨br, 0, none⟩), aggG g] w (StR w B br (C.findE g) (C.hide g)) := by
  obtain ⟨nv, sv, now, es, h1, h2⟩ := h
  exact hideR_any h1 h2 g
theorem Rc.add (h : Rc w B br C) (g : Gd) (hg : wfG g) (cv : Value) (cs : List Cg) (hc : InC w cv cs) : Calls Try.prog 43 #[.pointer (some ⟨br, 0, none⟩), aggG g, cv] w (StR w B br (C.addE g cs) (C.add g cs)) := by
  obtain ⟨nv, sv, now, es, h1, h2⟩ := h
  exact addRR_any h1 h2 g hg cv cs hc
/-- what is neither the reference's nor a row of texts turns: its chain stays -/
theorem Rc.other (h : Rc w B br C) {q : Nat} {t : TypeId} {cs : Array Value} (hk : Kp (· = q) w w') (hb : Blk w q t cs) (h1 : t ≠ 84) (h2 : t ≠ 88) (h3 : t ≠ 9) : Rc w' B br C := by
  obtain ⟨nv, sv, now, es, hm, hl⟩ := h
  refine ⟨nv, sv, now, es, ⟨hk.blk hm.obj (fun e => ?_), hm.now.kp hk (fun b hb2 e => own_ne hm.now.1 hb (Ne.symm h3) hb2 e), own_kp hk hm.row (fun b hb2 e => own_ne hm.row hb (Ne.symm h2) hb2 e), fun e he => (hm.bl e he).kp hk (fun b hb2 e2 => own_ne (hm.bl e he).1 hb (Ne.symm h3) hb2 e2), hm.ap, hm.br⟩, hl⟩
  subst e
  exact h1 (blk_type hb hm.obj)
theorem Pr.other (h : Pr B w0 w bc br C) {q : Nat} {t : TypeId} {cs : Array Value} (hk : Kp (· = q) w w') (hb : Blk w q t cs) (h1 : t ≠ 84) (h2 : t ≠ 88) (h3 : t ≠ 9) (h4 : t ≠ 72) (h5 : t ≠ 74) (hq : B ≤ q) : Pr B w0 w' bc br C :=
  ⟨h.ho.other hk hb h4 h5 hq, h.rc.other hk hb h1 h2 h3⟩
theorem own_fr {m n base : Nat} {t : TypeId} {v : Value} {xs : List Value} (ho : w.ownsRow base t m v n xs) (hw : FR B w w') (h1 : t ≠ 84) (h2 : t ≠ 88) (h3 : t ≠ 9) : w'.ownsRow base t m v n xs := by
  refine ⟨ho.1, ?_⟩
  rcases ho.2 with hn | ⟨g', cap, cur, rfl, hb, hh, rest⟩
  · exact .inl hn
  · exact .inr ⟨g', cap, cur, rfl, hb, hw.oth g' t cur h1 h2 h3 hh, rest⟩
/-- while an act is done: the act's box, the program's chain, the reference's -/
structure DJ (B : Nat) (w0 w : World) (bc br q : Nat) (act : Array Value) (C C' : Ch) : Prop where
  box : Blk w q 60 act
  ho : Ho B w0 w bc C
  rc : Rc w B br C'
theorem DJ.keep {q : Nat} {act : Array Value} (h : DJ B w0 w bc br q act C C') (hb : Below w.heap.size w w') : DJ B w0 w' bc br q act C C' := ⟨h.box.keep hb, h.ho.keep hb, h.rc.keep hb⟩
theorem DJ.prog {q : Nat} {act : Array Value} {C2 : Ch} (h : DJ B w0 w bc br q act C C') (hh : Ho B w0 w' bc C2) (ho : Oth w w') : DJ B w0 w' bc br q act C2 C' := ⟨ho _ _ _ (by decide) (by decide) h.box, hh, h.rc.oth ho⟩
theorem DJ.ref {q : Nat} {act : Array Value} {C2 : Ch} (h : DJ B w0 w bc br q act C C') (hh : Rc w' B br C2) (hf : FR B w w') : DJ B w0 w' bc br q act C C2 := ⟨hf.oth _ _ _ (by decide) (by decide) (by decide) h.box, h.ho.fr hf, hh⟩
theorem DJ.pr {q : Nat} {act : Array Value} (h : DJ B w0 w bc br q act C C) : Pr B w0 w bc br C := ⟨h.ho, h.rc⟩
set_option maxRecDepth 100000 in
set_option maxHeartbeats 4000000 in
theorem do_any (h : Pr w0.heap.size w0 w bc br C) (x : Ac) (hx : wfA x) (lv : Value) (hl : InP w0 lv x.ps) : Calls Try.prog 24 #[.pointer (some ⟨bc, 0, none⟩), .pointer (some ⟨br, 0, none⟩), .agg #[.int .i64 x.wh, .int .i64 x.n, .int .u8 x.c, .int .u64 x.g.1, .int .u64 x.g.2, lv]] w
    fun e w' => e = .returned (.bool true) ∧ Pr w0.heap.size w0 w' bc br (actC C x) := by
  obtain ⟨wh, n, c, g, ps⟩ := x
  have hin := hl
  obtain ⟨la, lc, e, -⟩ := hl
  change lv = .slice la ps.length lc at e
  subst e
  have hb0 := (Below.refl w.heap.size w).alloc (Nat.le_refl _) (Obj.cells #[.int .i64 wh, .int .i64 n, .int .u8 c, .int .u64 g.1, .int .u64 g.2, .slice la ps.length lc] 60)
  have hj0 : DJ w0.heap.size w0 (w.alloc (Obj.cells #[.int .i64 wh, .int .i64 n, .int .u8 c, .int .u64 g.1, .int .u64 g.2, .slice la ps.length lc] 60)) bc br w.heap.size #[.int .i64 wh, .int .i64 n, .int .u8 c, .int .u64 g.1, .int .u64 g.2, .slice la ps.length lc] C C := ⟨Blk.new _ _ _, h.ho.keep hb0, h.rc.keep hb0⟩
  have HJ0 := Lib.hid hj0
  have HSZ := Lib.hid (show w0.heap.size ≤ w.heap.size from h.ho.size)
  have hd := data_any c hx.c0 hx.c1
  have HG := Lib.hid hx.g
  have HIN := Lib.hid hin
  have hbx := Blk.new w 60 #[.int .i64 wh, .int .i64 n, .int .u8 c, .int .u64 g.1, .int .u64 g.2, .slice la ps.length lc]
  have x0 := hbx.cell 0
  have x1 := hbx.cell 1
  have x2 := hbx.cell 2
  have x3 := hbx.cell 3
  have x4 := hbx.cell 4
  have x5 := hbx.cell 5
  simp at x0 x1 x2 x3 x4 x5
  have hw : wh = 0 ∨ wh = 1 ∨ wh = 2 → actC C ⟨wh, n, c, g, ps⟩ = C.write n (dataS c) := fun h => by unfold actC; rw [if_pos h]
  have hs : wh = 3 ∨ wh = 4 → actC C ⟨wh, n, c, g, ps⟩ = C.snap g := fun h => by unfold actC; rw [if_neg (by simp only; omega), if_pos h]
  have hr : wh = 5 → actC C ⟨wh, n, c, g, ps⟩ = C.roll n := fun h => by unfold actC; rw [if_neg (by simp only; omega), if_neg (by simp only; omega), if_pos h]
  have hh : wh = 6 → actC C ⟨wh, n, c, g, ps⟩ = C.hide g := fun h => by unfold actC; rw [if_neg (by simp only; omega), if_neg (by simp only; omega), if_neg (by simp only; omega), if_pos h]
  have ha : ¬ wh = 0 → ¬ wh = 1 → ¬ wh = 2 → ¬ wh = 3 → ¬ wh = 4 → ¬ wh = 5 → ¬ wh = 6 → actC C ⟨wh, n, c, g, ps⟩ = C.add g ((ps.take 10).map cgP) := fun h0 h1 h2 h3 h4 h5 h6 => by unfold actC; rw [if_neg (by simp only; omega), if_neg (by simp only; omega), if_neg (by simp only; omega), if_neg (by simp only; omega)]
  show Calls Try.prog 24 #[.pointer (some ⟨bc, 0, none⟩), .pointer (some ⟨br, 0, none⟩), .agg #[.int .i64 wh, .int .i64 n, .int .u8 c, .int .u64 g.1, .int .u64 g.2, .slice la ps.length lc]] w fun e w' => e = .returned (.bool true) ∧ Pr w0.heap.size w0 w' bc br (actC C ⟨wh, n, c, g, ps⟩)
  generalize actC C ⟨wh, n, c, g, ps⟩ = CA at *
  generalize hpn : ps.length = pn at *
  generalize dataS c = d at *
  have HD := Lib.hid hd
  have HW := Lib.hid hw
  have HS := Lib.hid hs
  have HR := Lib.hid hr
  have HH := Lib.hid hh
  have HA := Lib.hid ha
  clear h hb0 hj0 hd hx hin hbx hw hs hr hh ha hpn
  by_cases k0 : wh = 0
  · subst k0
    have HCA := Lib.hid (HW.out (.inl rfl))
    clear HW HS HR HH HA
    go_enter Try.func24, Try.ntmps24
    go_wp2_with fail
    generalize w.alloc (Obj.cells #[.int .i64 0, .int .i64 n, .int .u8 c, .int .u64 g.1, .int .u64 g.2, .slice la pn lc] 60) = w1 at *
    generalize w.heap.size = q at *
    clear x0 x1 x2 x3 x4 x5
    refine wp_region_chain [5, 6, 12, 13] (kv [(5, .is (.string d)), (6, .is (.int .i64 (C.writeE n d))), (12, .is (.string d)), (13, .is (.int .i64 (C.writeE n d)))]) (fun l w2 => match l with | [] => DJ w0.heap.size w0 w2 bc br q (#[.int .i64 0, .int .i64 n, .int .u8 c, .int .u64 g.1, .int .u64 g.2, .slice la pn lc]) C C | [_] => DJ w0.heap.size w0 w2 bc br q (#[.int .i64 0, .int .i64 n, .int .u8 c, .int .u64 g.1, .int .u64 g.2, .slice la pn lc]) C C | [_, _] => DJ w0.heap.size w0 w2 bc br q (#[.int .i64 0, .int .i64 n, .int .u8 c, .int .u64 g.1, .int .u64 g.2, .slice la pn lc]) (C.write n d) C | [_, _, _] => DJ w0.heap.size w0 w2 bc br q (#[.int .i64 0, .int .i64 n, .int .u8 c, .int .u64 g.1, .int .u64 g.2, .slice la pn lc]) (C.write n d) C | _ => DJ w0.heap.size w0 w2 bc br q (#[.int .i64 0, .int .i64 n, .int .u8 c, .int .u64 g.1, .int .u64 g.2, .slice la pn lc]) (C.write n d) (C.write n d)) (by kernel_rfl) (by kernel_rfl) (by kernel_rfl) (kv_inh _) (HJ0.out.keep (Below.drew (Below.refl _ _))) ?_
    intro ν hν
    have n5 : ν 5 = .string d := hν 5
    have n6 : ν 6 = .int .i64 (C.writeE n d) := hν 6
    have n12 : ν 12 = .string d := hν 12
    have n13 : ν 13 = .int .i64 (C.writeE n d) := hν 13
    clear hν
    refine ch_plain 0 4 8 (by rfl) rfl (by kernel_rfl) (by kernel_rfl) ?_
    apply Exists.intro
    refine ⟨fun st w2 hlo hhi hJ => ?_, ?_⟩
    · clear hlo hhi hJ
      go_simp
      exact And.intro rfl rfl
    simp only [Act.put, List.setIfInBounds_toArray, List.set_cons_succ, List.set_cons_zero, Nat.reduceAdd]
    refine ch_plain 0 4 8 (by rfl) rfl (by kernel_rfl) (by kernel_rfl) ?_
    apply Exists.intro
    refine ⟨fun st w2 hlo hhi hJ => ?_, ?_⟩
    · clear hlo hhi hJ
      go_simp
      exact And.intro rfl rfl
    simp only [Act.put, List.setIfInBounds_toArray, List.set_cons_succ, List.set_cons_zero, Nat.reduceAdd]
    refine ch_plain 0 4 8 (by rfl) rfl (by kernel_rfl) (by kernel_rfl) ?_
    apply Exists.intro
    refine ⟨fun st w2 hlo hhi hJ => ?_, ?_⟩
    · have hj : ∃ D D2, DJ w0.heap.size w0 w2 bc br q (#[.int .i64 0, .int .i64 n, .int .u8 c, .int .u64 g.1, .int .u64 g.2, .slice la pn lc]) D D2 := by
        have q : st = 0 ∨ st = 1 ∨ st = 2 ∨ st = 3 ∨ st = 4 := by omega
        rcases q with rfl | rfl | rfl | rfl | rfl <;> exact ⟨_, _, hJ⟩
      obtain ⟨D1, D2, hj⟩ := hj
      have x1 := hj.box.cell 1
      simp at x1
      clear hj
      clear hlo hhi hJ
      go_simp
      exact And.intro rfl rfl
    simp only [Act.put, List.setIfInBounds_toArray, List.set_cons_succ, List.set_cons_zero, Nat.reduceAdd]
    refine ch_plain 0 4 8 (by rfl) rfl (by kernel_rfl) (by kernel_rfl) ?_
    apply Exists.intro
    refine ⟨fun st w2 hlo hhi hJ => ?_, ?_⟩
    · clear hlo hhi hJ
      go_simp
      exact And.intro rfl rfl
    simp only [Act.put, List.setIfInBounds_toArray, List.set_cons_succ, List.set_cons_zero, Nat.reduceAdd]
    refine ch_plain 0 4 8 (by rfl) rfl (by kernel_rfl) (by kernel_rfl) ?_
    apply Exists.intro
    refine ⟨fun st w2 hlo hhi hJ => ?_, ?_⟩
    · have hj : ∃ D D2, DJ w0.heap.size w0 w2 bc br q (#[.int .i64 0, .int .i64 n, .int .u8 c, .int .u64 g.1, .int .u64 g.2, .slice la pn lc]) D D2 := by
        have q : st = 0 ∨ st = 1 ∨ st = 2 ∨ st = 3 ∨ st = 4 := by omega
        rcases q with rfl | rfl | rfl | rfl | rfl <;> exact ⟨_, _, hJ⟩
      obtain ⟨D1, D2, hj⟩ := hj
      have x2 := hj.box.cell 2
      simp at x2
      clear hj
      clear hlo hhi hJ
      go_simp
      exact And.intro rfl rfl
    simp only [Act.put, List.setIfInBounds_toArray, List.set_cons_succ, List.set_cons_zero, Nat.reduceAdd]
    refine ch_special 0 8 (by rfl) rfl (by decide) (by kernel_rfl) (fun w2 hJ => ?_) ?_
    · have hj : DJ w0.heap.size w0 w2 bc br q (#[.int .i64 0, .int .i64 n, .int .u8 c, .int .u64 g.1, .int .u64 g.2, .slice la pn lc]) C C := hJ
      go_simp
      refine (HD.out w2).mono ?_
      rintro e w3 ⟨rfl, hb⟩
      exact ⟨_, rfl, rfl, hj.keep hb⟩
    rw [n5]
    simp only [Act.put, List.setIfInBounds_toArray, List.set_cons_succ, List.set_cons_zero, Nat.reduceAdd]
    refine ch_special 1 8 (by rfl) rfl (by decide) (by kernel_rfl) (fun w2 hJ => ?_) ?_
    · have hj : DJ w0.heap.size w0 w2 bc br q (#[.int .i64 0, .int .i64 n, .int .u8 c, .int .u64 g.1, .int .u64 g.2, .slice la pn lc]) C C := hJ
      go_simp
      refine (ho_write hj.ho n d).mono ?_
      rintro e w3 ⟨rfl, hh, ho⟩
      exact ⟨_, rfl, rfl, hj.prog hh ho⟩
    rw [n6]
    simp only [Act.put, List.setIfInBounds_toArray, List.set_cons_succ, List.set_cons_zero, Nat.reduceAdd]
    refine ch_plain 0 4 8 (by rfl) rfl (by kernel_rfl) (by kernel_rfl) ?_
    apply Exists.intro
    refine ⟨fun st w2 hlo hhi hJ => ?_, ?_⟩
    · clear hlo hhi hJ
      go_simp
      exact And.intro rfl rfl
    simp only [Act.put, List.setIfInBounds_toArray, List.set_cons_succ, List.set_cons_zero, Nat.reduceAdd]
    refine ch_plain 0 4 8 (by rfl) rfl (by kernel_rfl) (by kernel_rfl) ?_
    apply Exists.intro
    refine ⟨fun st w2 hlo hhi hJ => ?_, ?_⟩
    · clear hlo hhi hJ
      go_simp
      exact And.intro rfl rfl
    simp only [Act.put, List.setIfInBounds_toArray, List.set_cons_succ, List.set_cons_zero, Nat.reduceAdd]
    refine ch_plain 0 4 8 (by rfl) rfl (by kernel_rfl) (by kernel_rfl) ?_
    apply Exists.intro
    refine ⟨fun st w2 hlo hhi hJ => ?_, ?_⟩
    · have hj : ∃ D D2, DJ w0.heap.size w0 w2 bc br q (#[.int .i64 0, .int .i64 n, .int .u8 c, .int .u64 g.1, .int .u64 g.2, .slice la pn lc]) D D2 := by
        have q : st = 0 ∨ st = 1 ∨ st = 2 ∨ st = 3 ∨ st = 4 := by omega
        rcases q with rfl | rfl | rfl | rfl | rfl <;> exact ⟨_, _, hJ⟩
      obtain ⟨D1, D2, hj⟩ := hj
      have x1 := hj.box.cell 1
      simp at x1
      clear hj
      clear hlo hhi hJ
      go_simp
      exact And.intro rfl rfl
    simp only [Act.put, List.setIfInBounds_toArray, List.set_cons_succ, List.set_cons_zero, Nat.reduceAdd]
    refine ch_plain 0 4 8 (by rfl) rfl (by kernel_rfl) (by kernel_rfl) ?_
    apply Exists.intro
    refine ⟨fun st w2 hlo hhi hJ => ?_, ?_⟩
    · clear hlo hhi hJ
      go_simp
      exact And.intro rfl rfl
    simp only [Act.put, List.setIfInBounds_toArray, List.set_cons_succ, List.set_cons_zero, Nat.reduceAdd]
    refine ch_plain 0 4 8 (by rfl) rfl (by kernel_rfl) (by kernel_rfl) ?_
    apply Exists.intro
    refine ⟨fun st w2 hlo hhi hJ => ?_, ?_⟩
    · have hj : ∃ D D2, DJ w0.heap.size w0 w2 bc br q (#[.int .i64 0, .int .i64 n, .int .u8 c, .int .u64 g.1, .int .u64 g.2, .slice la pn lc]) D D2 := by
        have q : st = 0 ∨ st = 1 ∨ st = 2 ∨ st = 3 ∨ st = 4 := by omega
        rcases q with rfl | rfl | rfl | rfl | rfl <;> exact ⟨_, _, hJ⟩
      obtain ⟨D1, D2, hj⟩ := hj
      have x2 := hj.box.cell 2
      simp at x2
      clear hj
      clear hlo hhi hJ
      go_simp
      exact And.intro rfl rfl
    simp only [Act.put, List.setIfInBounds_toArray, List.set_cons_succ, List.set_cons_zero, Nat.reduceAdd]
    refine ch_special 2 8 (by rfl) rfl (by decide) (by kernel_rfl) (fun w2 hJ => ?_) ?_
    · have hj : DJ w0.heap.size w0 w2 bc br q (#[.int .i64 0, .int .i64 n, .int .u8 c, .int .u64 g.1, .int .u64 g.2, .slice la pn lc]) (C.write n d) C := hJ
      go_simp
      refine (HD.out w2).mono ?_
      rintro e w3 ⟨rfl, hb⟩
      exact ⟨_, rfl, rfl, hj.keep hb⟩
    rw [n12]
    simp only [Act.put, List.setIfInBounds_toArray, List.set_cons_succ, List.set_cons_zero, Nat.reduceAdd]
    refine ch_special 3 8 (by rfl) rfl (by decide) (by kernel_rfl) (fun w2 hJ => ?_) ?_
    · have hj : DJ w0.heap.size w0 w2 bc br q (#[.int .i64 0, .int .i64 n, .int .u8 c, .int .u64 g.1, .int .u64 g.2, .slice la pn lc]) (C.write n d) C := hJ
      go_simp
      refine (hj.rc.write n d).mono ?_
      rintro e w3 ⟨rfl, hh, hf⟩
      exact ⟨_, rfl, rfl, hj.ref hh hf⟩
    rw [n13]
    simp only [Act.put, List.setIfInBounds_toArray, List.set_cons_succ, List.set_cons_zero, Nat.reduceAdd]
    refine ch_plain 0 4 8 (by rfl) rfl (by kernel_rfl) (by kernel_rfl) ?_
    apply Exists.intro
    refine ⟨fun st w2 hlo hhi hJ => ?_, ?_⟩
    · clear hlo hhi hJ
      go_simp
      exact And.intro rfl rfl
    simp only [Act.put, List.setIfInBounds_toArray, List.set_cons_succ, List.set_cons_zero, Nat.reduceAdd]
    refine ch_plain 0 4 8 (by rfl) rfl (by kernel_rfl) (by kernel_rfl) ?_
    apply Exists.intro
    refine ⟨fun st w2 hlo hhi hJ => ?_, ?_⟩
    · clear hlo hhi hJ
      go_simp
      exact And.intro rfl rfl
    simp only [Act.put, Nat.reduceAdd]
    refine ch_nil (fun w9 hJ => ?_)
    have H9 := Lib.hid (show DJ w0.heap.size w0 w9 bc br q (#[.int .i64 0, .int .i64 n, .int .u8 c, .int .u64 g.1, .int .u64 g.2, .slice la pn lc]) (C.write n d) (C.write n d) from hJ)
    clear hJ n5 n6 n12 n13
    go_wp2
    go_ret
    exact ⟨rfl, by rw [HCA.out]; exact H9.out.pr⟩
  · have e0 : (wh == 0) = false := by simpa using k0
    have d0 : decide (wh = 0) = false := decide_eq_false k0
    by_cases k1 : wh = 1
    · subst k1
      have HCA := Lib.hid (HW.out (.inr (.inl rfl)))
      clear HW HS HR HH HA
      go_enter Try.func24, Try.ntmps24
      go_wp2_with fail
      generalize w.alloc (Obj.cells #[.int .i64 1, .int .i64 n, .int .u8 c, .int .u64 g.1, .int .u64 g.2, .slice la pn lc] 60) = w1 at *
      generalize w.heap.size = q at *
      clear x0 x1 x2 x3 x4 x5
      refine wp_region_chain [5, 6, 12, 13] (kv [(5, .is (.string d)), (6, .is (.int .i64 (C.writeE n d))), (12, .is (.string d)), (13, .is (.int .i64 (C.writeE n d)))]) (fun l w2 => match l with | [] => DJ w0.heap.size w0 w2 bc br q (#[.int .i64 1, .int .i64 n, .int .u8 c, .int .u64 g.1, .int .u64 g.2, .slice la pn lc]) C C | [_] => DJ w0.heap.size w0 w2 bc br q (#[.int .i64 1, .int .i64 n, .int .u8 c, .int .u64 g.1, .int .u64 g.2, .slice la pn lc]) C C | [_, _] => DJ w0.heap.size w0 w2 bc br q (#[.int .i64 1, .int .i64 n, .int .u8 c, .int .u64 g.1, .int .u64 g.2, .slice la pn lc]) (C.write n d) C | [_, _, _] => DJ w0.heap.size w0 w2 bc br q (#[.int .i64 1, .int .i64 n, .int .u8 c, .int .u64 g.1, .int .u64 g.2, .slice la pn lc]) (C.write n d) C | _ => DJ w0.heap.size w0 w2 bc br q (#[.int .i64 1, .int .i64 n, .int .u8 c, .int .u64 g.1, .int .u64 g.2, .slice la pn lc]) (C.write n d) (C.write n d)) (by kernel_rfl) (by kernel_rfl) (by kernel_rfl) (kv_inh _) (HJ0.out.keep (Below.drew (Below.refl _ _))) ?_
      intro ν hν
      have n5 : ν 5 = .string d := hν 5
      have n6 : ν 6 = .int .i64 (C.writeE n d) := hν 6
      have n12 : ν 12 = .string d := hν 12
      have n13 : ν 13 = .int .i64 (C.writeE n d) := hν 13
      clear hν
      refine ch_plain 0 4 8 (by rfl) rfl (by kernel_rfl) (by kernel_rfl) ?_
      apply Exists.intro
      refine ⟨fun st w2 hlo hhi hJ => ?_, ?_⟩
      · clear hlo hhi hJ
        go_simp
        exact And.intro rfl rfl
      simp only [Act.put, List.setIfInBounds_toArray, List.set_cons_succ, List.set_cons_zero, Nat.reduceAdd]
      refine ch_plain 0 4 8 (by rfl) rfl (by kernel_rfl) (by kernel_rfl) ?_
      apply Exists.intro
      refine ⟨fun st w2 hlo hhi hJ => ?_, ?_⟩
      · clear hlo hhi hJ
        go_simp
        exact And.intro rfl rfl
      simp only [Act.put, List.setIfInBounds_toArray, List.set_cons_succ, List.set_cons_zero, Nat.reduceAdd]
      refine ch_plain 0 4 8 (by rfl) rfl (by kernel_rfl) (by kernel_rfl) ?_
      apply Exists.intro
      refine ⟨fun st w2 hlo hhi hJ => ?_, ?_⟩
      · have hj : ∃ D D2, DJ w0.heap.size w0 w2 bc br q (#[.int .i64 1, .int .i64 n, .int .u8 c, .int .u64 g.1, .int .u64 g.2, .slice la pn lc]) D D2 := by
          have q : st = 0 ∨ st = 1 ∨ st = 2 ∨ st = 3 ∨ st = 4 := by omega
          rcases q with rfl | rfl | rfl | rfl | rfl <;> exact ⟨_, _, hJ⟩
        obtain ⟨D1, D2, hj⟩ := hj
        have x1 := hj.box.cell 1
        simp at x1
        clear hj
        clear hlo hhi hJ
        go_simp
        exact And.intro rfl rfl
      simp only [Act.put, List.setIfInBounds_toArray, List.set_cons_succ, List.set_cons_zero, Nat.reduceAdd]
      refine ch_plain 0 4 8 (by rfl) rfl (by kernel_rfl) (by kernel_rfl) ?_
      apply Exists.intro
      refine ⟨fun st w2 hlo hhi hJ => ?_, ?_⟩
      · clear hlo hhi hJ
        go_simp
        exact And.intro rfl rfl
      simp only [Act.put, List.setIfInBounds_toArray, List.set_cons_succ, List.set_cons_zero, Nat.reduceAdd]
      refine ch_plain 0 4 8 (by rfl) rfl (by kernel_rfl) (by kernel_rfl) ?_
      apply Exists.intro
      refine ⟨fun st w2 hlo hhi hJ => ?_, ?_⟩
      · have hj : ∃ D D2, DJ w0.heap.size w0 w2 bc br q (#[.int .i64 1, .int .i64 n, .int .u8 c, .int .u64 g.1, .int .u64 g.2, .slice la pn lc]) D D2 := by
          have q : st = 0 ∨ st = 1 ∨ st = 2 ∨ st = 3 ∨ st = 4 := by omega
          rcases q with rfl | rfl | rfl | rfl | rfl <;> exact ⟨_, _, hJ⟩
        obtain ⟨D1, D2, hj⟩ := hj
        have x2 := hj.box.cell 2
        simp at x2
        clear hj
        clear hlo hhi hJ
        go_simp
        exact And.intro rfl rfl
      simp only [Act.put, List.setIfInBounds_toArray, List.set_cons_succ, List.set_cons_zero, Nat.reduceAdd]
      refine ch_special 0 8 (by rfl) rfl (by decide) (by kernel_rfl) (fun w2 hJ => ?_) ?_
      · have hj : DJ w0.heap.size w0 w2 bc br q (#[.int .i64 1, .int .i64 n, .int .u8 c, .int .u64 g.1, .int .u64 g.2, .slice la pn lc]) C C := hJ
        go_simp
        refine (HD.out w2).mono ?_
        rintro e w3 ⟨rfl, hb⟩
        exact ⟨_, rfl, rfl, hj.keep hb⟩
      rw [n5]
      simp only [Act.put, List.setIfInBounds_toArray, List.set_cons_succ, List.set_cons_zero, Nat.reduceAdd]
      refine ch_special 1 8 (by rfl) rfl (by decide) (by kernel_rfl) (fun w2 hJ => ?_) ?_
      · have hj : DJ w0.heap.size w0 w2 bc br q (#[.int .i64 1, .int .i64 n, .int .u8 c, .int .u64 g.1, .int .u64 g.2, .slice la pn lc]) C C := hJ
        go_simp
        refine (ho_write hj.ho n d).mono ?_
        rintro e w3 ⟨rfl, hh, ho⟩
        exact ⟨_, rfl, rfl, hj.prog hh ho⟩
      rw [n6]
      simp only [Act.put, List.setIfInBounds_toArray, List.set_cons_succ, List.set_cons_zero, Nat.reduceAdd]
      refine ch_plain 0 4 8 (by rfl) rfl (by kernel_rfl) (by kernel_rfl) ?_
      apply Exists.intro
      refine ⟨fun st w2 hlo hhi hJ => ?_, ?_⟩
      · clear hlo hhi hJ
        go_simp
        exact And.intro rfl rfl
      simp only [Act.put, List.setIfInBounds_toArray, List.set_cons_succ, List.set_cons_zero, Nat.reduceAdd]
      refine ch_plain 0 4 8 (by rfl) rfl (by kernel_rfl) (by kernel_rfl) ?_
      apply Exists.intro
      refine ⟨fun st w2 hlo hhi hJ => ?_, ?_⟩
      · clear hlo hhi hJ
        go_simp
        exact And.intro rfl rfl
      simp only [Act.put, List.setIfInBounds_toArray, List.set_cons_succ, List.set_cons_zero, Nat.reduceAdd]
      refine ch_plain 0 4 8 (by rfl) rfl (by kernel_rfl) (by kernel_rfl) ?_
      apply Exists.intro
      refine ⟨fun st w2 hlo hhi hJ => ?_, ?_⟩
      · have hj : ∃ D D2, DJ w0.heap.size w0 w2 bc br q (#[.int .i64 1, .int .i64 n, .int .u8 c, .int .u64 g.1, .int .u64 g.2, .slice la pn lc]) D D2 := by
          have q : st = 0 ∨ st = 1 ∨ st = 2 ∨ st = 3 ∨ st = 4 := by omega
          rcases q with rfl | rfl | rfl | rfl | rfl <;> exact ⟨_, _, hJ⟩
        obtain ⟨D1, D2, hj⟩ := hj
        have x1 := hj.box.cell 1
        simp at x1
        clear hj
        clear hlo hhi hJ
        go_simp
        exact And.intro rfl rfl
      simp only [Act.put, List.setIfInBounds_toArray, List.set_cons_succ, List.set_cons_zero, Nat.reduceAdd]
      refine ch_plain 0 4 8 (by rfl) rfl (by kernel_rfl) (by kernel_rfl) ?_
      apply Exists.intro
      refine ⟨fun st w2 hlo hhi hJ => ?_, ?_⟩
      · clear hlo hhi hJ
        go_simp
        exact And.intro rfl rfl
      simp only [Act.put, List.setIfInBounds_toArray, List.set_cons_succ, List.set_cons_zero, Nat.reduceAdd]
      refine ch_plain 0 4 8 (by rfl) rfl (by kernel_rfl) (by kernel_rfl) ?_
      apply Exists.intro
      refine ⟨fun st w2 hlo hhi hJ => ?_, ?_⟩
      · have hj : ∃ D D2, DJ w0.heap.size w0 w2 bc br q (#[.int .i64 1, .int .i64 n, .int .u8 c, .int .u64 g.1, .int .u64 g.2, .slice la pn lc]) D D2 := by
          have q : st = 0 ∨ st = 1 ∨ st = 2 ∨ st = 3 ∨ st = 4 := by omega
          rcases q with rfl | rfl | rfl | rfl | rfl <;> exact ⟨_, _, hJ⟩
        obtain ⟨D1, D2, hj⟩ := hj
        have x2 := hj.box.cell 2
        simp at x2
        clear hj
        clear hlo hhi hJ
        go_simp
        exact And.intro rfl rfl
      simp only [Act.put, List.setIfInBounds_toArray, List.set_cons_succ, List.set_cons_zero, Nat.reduceAdd]
      refine ch_special 2 8 (by rfl) rfl (by decide) (by kernel_rfl) (fun w2 hJ => ?_) ?_
      · have hj : DJ w0.heap.size w0 w2 bc br q (#[.int .i64 1, .int .i64 n, .int .u8 c, .int .u64 g.1, .int .u64 g.2, .slice la pn lc]) (C.write n d) C := hJ
        go_simp
        refine (HD.out w2).mono ?_
        rintro e w3 ⟨rfl, hb⟩
        exact ⟨_, rfl, rfl, hj.keep hb⟩
      rw [n12]
      simp only [Act.put, List.setIfInBounds_toArray, List.set_cons_succ, List.set_cons_zero, Nat.reduceAdd]
      refine ch_special 3 8 (by rfl) rfl (by decide) (by kernel_rfl) (fun w2 hJ => ?_) ?_
      · have hj : DJ w0.heap.size w0 w2 bc br q (#[.int .i64 1, .int .i64 n, .int .u8 c, .int .u64 g.1, .int .u64 g.2, .slice la pn lc]) (C.write n d) C := hJ
        go_simp
        refine (hj.rc.write n d).mono ?_
        rintro e w3 ⟨rfl, hh, hf⟩
        exact ⟨_, rfl, rfl, hj.ref hh hf⟩
      rw [n13]
      simp only [Act.put, List.setIfInBounds_toArray, List.set_cons_succ, List.set_cons_zero, Nat.reduceAdd]
      refine ch_plain 0 4 8 (by rfl) rfl (by kernel_rfl) (by kernel_rfl) ?_
      apply Exists.intro
      refine ⟨fun st w2 hlo hhi hJ => ?_, ?_⟩
      · clear hlo hhi hJ
        go_simp
        exact And.intro rfl rfl
      simp only [Act.put, List.setIfInBounds_toArray, List.set_cons_succ, List.set_cons_zero, Nat.reduceAdd]
      refine ch_plain 0 4 8 (by rfl) rfl (by kernel_rfl) (by kernel_rfl) ?_
      apply Exists.intro
      refine ⟨fun st w2 hlo hhi hJ => ?_, ?_⟩
      · clear hlo hhi hJ
        go_simp
        exact And.intro rfl rfl
      simp only [Act.put, Nat.reduceAdd]
      refine ch_nil (fun w9 hJ => ?_)
      have H9 := Lib.hid (show DJ w0.heap.size w0 w9 bc br q (#[.int .i64 1, .int .i64 n, .int .u8 c, .int .u64 g.1, .int .u64 g.2, .slice la pn lc]) (C.write n d) (C.write n d) from hJ)
      clear hJ n5 n6 n12 n13
      go_wp2
      go_ret
      exact ⟨rfl, by rw [HCA.out]; exact H9.out.pr⟩
    · have e1 : (wh == 1) = false := by simpa using k1
      have d1 : decide (wh = 1) = false := decide_eq_false k1
      by_cases k2 : wh = 2
      · subst k2
        have HCA := Lib.hid (HW.out (.inr (.inr rfl)))
        clear HW HS HR HH HA
        go_enter Try.func24, Try.ntmps24
        go_wp2_with fail
        generalize w.alloc (Obj.cells #[.int .i64 2, .int .i64 n, .int .u8 c, .int .u64 g.1, .int .u64 g.2, .slice la pn lc] 60) = w1 at *
        generalize w.heap.size = q at *
        clear x0 x1 x2 x3 x4 x5
        refine wp_region_chain [5, 6, 12, 13] (kv [(5, .is (.string d)), (6, .is (.int .i64 (C.writeE n d))), (12, .is (.string d)), (13, .is (.int .i64 (C.writeE n d)))]) (fun l w2 => match l with | [] => DJ w0.heap.size w0 w2 bc br q (#[.int .i64 2, .int .i64 n, .int .u8 c, .int .u64 g.1, .int .u64 g.2, .slice la pn lc]) C C | [_] => DJ w0.heap.size w0 w2 bc br q (#[.int .i64 2, .int .i64 n, .int .u8 c, .int .u64 g.1, .int .u64 g.2, .slice la pn lc]) C C | [_, _] => DJ w0.heap.size w0 w2 bc br q (#[.int .i64 2, .int .i64 n, .int .u8 c, .int .u64 g.1, .int .u64 g.2, .slice la pn lc]) (C.write n d) C | [_, _, _] => DJ w0.heap.size w0 w2 bc br q (#[.int .i64 2, .int .i64 n, .int .u8 c, .int .u64 g.1, .int .u64 g.2, .slice la pn lc]) (C.write n d) C | _ => DJ w0.heap.size w0 w2 bc br q (#[.int .i64 2, .int .i64 n, .int .u8 c, .int .u64 g.1, .int .u64 g.2, .slice la pn lc]) (C.write n d) (C.write n d)) (by kernel_rfl) (by kernel_rfl) (by kernel_rfl) (kv_inh _) (HJ0.out.keep (Below.drew (Below.refl _ _))) ?_
        intro ν hν
        have n5 : ν 5 = .string d := hν 5
        have n6 : ν 6 = .int .i64 (C.writeE n d) := hν 6
        have n12 : ν 12 = .string d := hν 12
        have n13 : ν 13 = .int .i64 (C.writeE n d) := hν 13
        clear hν
        refine ch_plain 0 4 8 (by rfl) rfl (by kernel_rfl) (by kernel_rfl) ?_
        apply Exists.intro
        refine ⟨fun st w2 hlo hhi hJ => ?_, ?_⟩
        · clear hlo hhi hJ
          go_simp
          exact And.intro rfl rfl
        simp only [Act.put, List.setIfInBounds_toArray, List.set_cons_succ, List.set_cons_zero, Nat.reduceAdd]
        refine ch_plain 0 4 8 (by rfl) rfl (by kernel_rfl) (by kernel_rfl) ?_
        apply Exists.intro
        refine ⟨fun st w2 hlo hhi hJ => ?_, ?_⟩
        · clear hlo hhi hJ
          go_simp
          exact And.intro rfl rfl
        simp only [Act.put, List.setIfInBounds_toArray, List.set_cons_succ, List.set_cons_zero, Nat.reduceAdd]
        refine ch_plain 0 4 8 (by rfl) rfl (by kernel_rfl) (by kernel_rfl) ?_
        apply Exists.intro
        refine ⟨fun st w2 hlo hhi hJ => ?_, ?_⟩
        · have hj : ∃ D D2, DJ w0.heap.size w0 w2 bc br q (#[.int .i64 2, .int .i64 n, .int .u8 c, .int .u64 g.1, .int .u64 g.2, .slice la pn lc]) D D2 := by
            have q : st = 0 ∨ st = 1 ∨ st = 2 ∨ st = 3 ∨ st = 4 := by omega
            rcases q with rfl | rfl | rfl | rfl | rfl <;> exact ⟨_, _, hJ⟩
          obtain ⟨D1, D2, hj⟩ := hj
          have x1 := hj.box.cell 1
          simp at x1
          clear hj
          clear hlo hhi hJ
          go_simp
          exact And.intro rfl rfl
        simp only [Act.put, List.setIfInBounds_toArray, List.set_cons_succ, List.set_cons_zero, Nat.reduceAdd]
        refine ch_plain 0 4 8 (by rfl) rfl (by kernel_rfl) (by kernel_rfl) ?_
        apply Exists.intro
        refine ⟨fun st w2 hlo hhi hJ => ?_, ?_⟩
        · clear hlo hhi hJ
          go_simp
          exact And.intro rfl rfl
        simp only [Act.put, List.setIfInBounds_toArray, List.set_cons_succ, List.set_cons_zero, Nat.reduceAdd]
        refine ch_plain 0 4 8 (by rfl) rfl (by kernel_rfl) (by kernel_rfl) ?_
        apply Exists.intro
        refine ⟨fun st w2 hlo hhi hJ => ?_, ?_⟩
        · have hj : ∃ D D2, DJ w0.heap.size w0 w2 bc br q (#[.int .i64 2, .int .i64 n, .int .u8 c, .int .u64 g.1, .int .u64 g.2, .slice la pn lc]) D D2 := by
            have q : st = 0 ∨ st = 1 ∨ st = 2 ∨ st = 3 ∨ st = 4 := by omega
            rcases q with rfl | rfl | rfl | rfl | rfl <;> exact ⟨_, _, hJ⟩
          obtain ⟨D1, D2, hj⟩ := hj
          have x2 := hj.box.cell 2
          simp at x2
          clear hj
          clear hlo hhi hJ
          go_simp
          exact And.intro rfl rfl
        simp only [Act.put, List.setIfInBounds_toArray, List.set_cons_succ, List.set_cons_zero, Nat.reduceAdd]
        refine ch_special 0 8 (by rfl) rfl (by decide) (by kernel_rfl) (fun w2 hJ => ?_) ?_
        · have hj : DJ w0.heap.size w0 w2 bc br q (#[.int .i64 2, .int .i64 n, .int .u8 c, .int .u64 g.1, .int .u64 g.2, .slice la pn lc]) C C := hJ
          go_simp
          refine (HD.out w2).mono ?_
          rintro e w3 ⟨rfl, hb⟩
          exact ⟨_, rfl, rfl, hj.keep hb⟩
        rw [n5]
        simp only [Act.put, List.setIfInBounds_toArray, List.set_cons_succ, List.set_cons_zero, Nat.reduceAdd]
        refine ch_special 1 8 (by rfl) rfl (by decide) (by kernel_rfl) (fun w2 hJ => ?_) ?_
        · have hj : DJ w0.heap.size w0 w2 bc br q (#[.int .i64 2, .int .i64 n, .int .u8 c, .int .u64 g.1, .int .u64 g.2, .slice la pn lc]) C C := hJ
          go_simp
          refine (ho_write hj.ho n d).mono ?_
          rintro e w3 ⟨rfl, hh, ho⟩
          exact ⟨_, rfl, rfl, hj.prog hh ho⟩
        rw [n6]
        simp only [Act.put, List.setIfInBounds_toArray, List.set_cons_succ, List.set_cons_zero, Nat.reduceAdd]
        refine ch_plain 0 4 8 (by rfl) rfl (by kernel_rfl) (by kernel_rfl) ?_
        apply Exists.intro
        refine ⟨fun st w2 hlo hhi hJ => ?_, ?_⟩
        · clear hlo hhi hJ
          go_simp
          exact And.intro rfl rfl
        simp only [Act.put, List.setIfInBounds_toArray, List.set_cons_succ, List.set_cons_zero, Nat.reduceAdd]
        refine ch_plain 0 4 8 (by rfl) rfl (by kernel_rfl) (by kernel_rfl) ?_
        apply Exists.intro
        refine ⟨fun st w2 hlo hhi hJ => ?_, ?_⟩
        · clear hlo hhi hJ
          go_simp
          exact And.intro rfl rfl
        simp only [Act.put, List.setIfInBounds_toArray, List.set_cons_succ, List.set_cons_zero, Nat.reduceAdd]
        refine ch_plain 0 4 8 (by rfl) rfl (by kernel_rfl) (by kernel_rfl) ?_
        apply Exists.intro
        refine ⟨fun st w2 hlo hhi hJ => ?_, ?_⟩
        · have hj : ∃ D D2, DJ w0.heap.size w0 w2 bc br q (#[.int .i64 2, .int .i64 n, .int .u8 c, .int .u64 g.1, .int .u64 g.2, .slice la pn lc]) D D2 := by
            have q : st = 0 ∨ st = 1 ∨ st = 2 ∨ st = 3 ∨ st = 4 := by omega
            rcases q with rfl | rfl | rfl | rfl | rfl <;> exact ⟨_, _, hJ⟩
          obtain ⟨D1, D2, hj⟩ := hj
          have x1 := hj.box.cell 1
          simp at x1
          clear hj
          clear hlo hhi hJ
          go_simp
          exact And.intro rfl rfl
        simp only [Act.put, List.setIfInBounds_toArray, List.set_cons_succ, List.set_cons_zero, Nat.reduceAdd]
        refine ch_plain 0 4 8 (by rfl) rfl (by kernel_rfl) (by kernel_rfl) ?_
        apply Exists.intro
        refine ⟨fun st w2 hlo hhi hJ => ?_, ?_⟩
        · clear hlo hhi hJ
          go_simp
          exact And.intro rfl rfl
        simp only [Act.put, List.setIfInBounds_toArray, List.set_cons_succ, List.set_cons_zero, Nat.reduceAdd]
        refine ch_plain 0 4 8 (by rfl) rfl (by kernel_rfl) (by kernel_rfl) ?_
        apply Exists.intro
        refine ⟨fun st w2 hlo hhi hJ => ?_, ?_⟩
        · have hj : ∃ D D2, DJ w0.heap.size w0 w2 bc br q (#[.int .i64 2, .int .i64 n, .int .u8 c, .int .u64 g.1, .int .u64 g.2, .slice la pn lc]) D D2 := by
            have q : st = 0 ∨ st = 1 ∨ st = 2 ∨ st = 3 ∨ st = 4 := by omega
            rcases q with rfl | rfl | rfl | rfl | rfl <;> exact ⟨_, _, hJ⟩
          obtain ⟨D1, D2, hj⟩ := hj
          have x2 := hj.box.cell 2
          simp at x2
          clear hj
          clear hlo hhi hJ
          go_simp
          exact And.intro rfl rfl
        simp only [Act.put, List.setIfInBounds_toArray, List.set_cons_succ, List.set_cons_zero, Nat.reduceAdd]
        refine ch_special 2 8 (by rfl) rfl (by decide) (by kernel_rfl) (fun w2 hJ => ?_) ?_
        · have hj : DJ w0.heap.size w0 w2 bc br q (#[.int .i64 2, .int .i64 n, .int .u8 c, .int .u64 g.1, .int .u64 g.2, .slice la pn lc]) (C.write n d) C := hJ
          go_simp
          refine (HD.out w2).mono ?_
          rintro e w3 ⟨rfl, hb⟩
          exact ⟨_, rfl, rfl, hj.keep hb⟩
        rw [n12]
        simp only [Act.put, List.setIfInBounds_toArray, List.set_cons_succ, List.set_cons_zero, Nat.reduceAdd]
        refine ch_special 3 8 (by rfl) rfl (by decide) (by kernel_rfl) (fun w2 hJ => ?_) ?_
        · have hj : DJ w0.heap.size w0 w2 bc br q (#[.int .i64 2, .int .i64 n, .int .u8 c, .int .u64 g.1, .int .u64 g.2, .slice la pn lc]) (C.write n d) C := hJ
          go_simp
          refine (hj.rc.write n d).mono ?_
          rintro e w3 ⟨rfl, hh, hf⟩
          exact ⟨_, rfl, rfl, hj.ref hh hf⟩
        rw [n13]
        simp only [Act.put, List.setIfInBounds_toArray, List.set_cons_succ, List.set_cons_zero, Nat.reduceAdd]
        refine ch_plain 0 4 8 (by rfl) rfl (by kernel_rfl) (by kernel_rfl) ?_
        apply Exists.intro
        refine ⟨fun st w2 hlo hhi hJ => ?_, ?_⟩
        · clear hlo hhi hJ
          go_simp
          exact And.intro rfl rfl
        simp only [Act.put, List.setIfInBounds_toArray, List.set_cons_succ, List.set_cons_zero, Nat.reduceAdd]
        refine ch_plain 0 4 8 (by rfl) rfl (by kernel_rfl) (by kernel_rfl) ?_
        apply Exists.intro
        refine ⟨fun st w2 hlo hhi hJ => ?_, ?_⟩
        · clear hlo hhi hJ
          go_simp
          exact And.intro rfl rfl
        simp only [Act.put, Nat.reduceAdd]
        refine ch_nil (fun w9 hJ => ?_)
        have H9 := Lib.hid (show DJ w0.heap.size w0 w9 bc br q (#[.int .i64 2, .int .i64 n, .int .u8 c, .int .u64 g.1, .int .u64 g.2, .slice la pn lc]) (C.write n d) (C.write n d) from hJ)
        clear hJ n5 n6 n12 n13
        go_wp2
        go_ret
        exact ⟨rfl, by rw [HCA.out]; exact H9.out.pr⟩
      · have e2 : (wh == 2) = false := by simpa using k2
        have d2 : decide (wh = 2) = false := decide_eq_false k2
        by_cases k3 : wh = 3
        · subst k3
          have HCA := Lib.hid (HS.out (.inl rfl))
          clear HW HS HR HH HA
          go_enter Try.func24, Try.ntmps24
          go_wp2_with fail
          generalize w.alloc (Obj.cells #[.int .i64 3, .int .i64 n, .int .u8 c, .int .u64 g.1, .int .u64 g.2, .slice la pn lc] 60) = w1 at *
          generalize w.heap.size = q at *
          clear x0 x1 x2 x3 x4 x5
          refine wp_region_chain [3, 7] (kv [(3, .is (.int .i64 (C.next g))), (7, .is (.int .i64 (C.next g)))]) (fun l w2 => match l with | [] => DJ w0.heap.size w0 w2 bc br q (#[.int .i64 3, .int .i64 n, .int .u8 c, .int .u64 g.1, .int .u64 g.2, .slice la pn lc]) C C | [_] => DJ w0.heap.size w0 w2 bc br q (#[.int .i64 3, .int .i64 n, .int .u8 c, .int .u64 g.1, .int .u64 g.2, .slice la pn lc]) (C.snap g) C | _ => DJ w0.heap.size w0 w2 bc br q (#[.int .i64 3, .int .i64 n, .int .u8 c, .int .u64 g.1, .int .u64 g.2, .slice la pn lc]) (C.snap g) (C.snap g)) (by kernel_rfl) (by kernel_rfl) (by kernel_rfl) (kv_inh _) (HJ0.out.keep (Below.drew (Below.refl _ _))) ?_
          intro ν hν
          have n3 : ν 3 = .int .i64 (C.next g) := hν 3
          have n7 : ν 7 = .int .i64 (C.next g) := hν 7
          clear hν
          refine ch_plain 0 2 8 (by rfl) rfl (by kernel_rfl) (by kernel_rfl) ?_
          apply Exists.intro
          refine ⟨fun st w2 hlo hhi hJ => ?_, ?_⟩
          · clear hlo hhi hJ
            go_simp
            exact And.intro rfl rfl
          simp only [Act.put, List.setIfInBounds_toArray, List.set_cons_succ, List.set_cons_zero, Nat.reduceAdd]
          refine ch_plain 0 2 8 (by rfl) rfl (by kernel_rfl) (by kernel_rfl) ?_
          apply Exists.intro
          refine ⟨fun st w2 hlo hhi hJ => ?_, ?_⟩
          · clear hlo hhi hJ
            go_simp
            exact And.intro rfl rfl
          simp only [Act.put, List.setIfInBounds_toArray, List.set_cons_succ, List.set_cons_zero, Nat.reduceAdd]
          refine ch_plain 0 2 8 (by rfl) rfl (by kernel_rfl) (by kernel_rfl) ?_
          apply Exists.intro
          refine ⟨fun st w2 hlo hhi hJ => ?_, ?_⟩
          · have hj : ∃ D D2, DJ w0.heap.size w0 w2 bc br q (#[.int .i64 3, .int .i64 n, .int .u8 c, .int .u64 g.1, .int .u64 g.2, .slice la pn lc]) D D2 := by
              have q : st = 0 ∨ st = 1 ∨ st = 2 := by omega
              rcases q with rfl | rfl | rfl <;> exact ⟨_, _, hJ⟩
            obtain ⟨D1, D2, hj⟩ := hj
            have x3 := hj.box.cell 3
            have x4 := hj.box.cell 4
            simp at x3 x4
            clear hj
            clear hlo hhi hJ
            go_simp
            exact And.intro rfl rfl
          simp only [Act.put, List.setIfInBounds_toArray, List.set_cons_succ, List.set_cons_zero, Nat.reduceAdd]
          refine ch_special 0 8 (by rfl) rfl (by decide) (by kernel_rfl) (fun w2 hJ => ?_) ?_
          · have hj : DJ w0.heap.size w0 w2 bc br q (#[.int .i64 3, .int .i64 n, .int .u8 c, .int .u64 g.1, .int .u64 g.2, .slice la pn lc]) C C := hJ
            go_simp
            refine (ho_snap hj.ho g HG.out).mono ?_
            rintro e w3 ⟨rfl, hh, ho⟩
            exact ⟨_, rfl, rfl, hj.prog hh ho⟩
          rw [n3]
          simp only [Act.put, List.setIfInBounds_toArray, List.set_cons_succ, List.set_cons_zero, Nat.reduceAdd]
          refine ch_plain 0 2 8 (by rfl) rfl (by kernel_rfl) (by kernel_rfl) ?_
          apply Exists.intro
          refine ⟨fun st w2 hlo hhi hJ => ?_, ?_⟩
          · clear hlo hhi hJ
            go_simp
            exact And.intro rfl rfl
          simp only [Act.put, List.setIfInBounds_toArray, List.set_cons_succ, List.set_cons_zero, Nat.reduceAdd]
          refine ch_plain 0 2 8 (by rfl) rfl (by kernel_rfl) (by kernel_rfl) ?_
          apply Exists.intro
          refine ⟨fun st w2 hlo hhi hJ => ?_, ?_⟩
          · clear hlo hhi hJ
            go_simp
            exact And.intro rfl rfl
          simp only [Act.put, List.setIfInBounds_toArray, List.set_cons_succ, List.set_cons_zero, Nat.reduceAdd]
          refine ch_plain 0 2 8 (by rfl) rfl (by kernel_rfl) (by kernel_rfl) ?_
          apply Exists.intro
          refine ⟨fun st w2 hlo hhi hJ => ?_, ?_⟩
          · have hj : ∃ D D2, DJ w0.heap.size w0 w2 bc br q (#[.int .i64 3, .int .i64 n, .int .u8 c, .int .u64 g.1, .int .u64 g.2, .slice la pn lc]) D D2 := by
              have q : st = 0 ∨ st = 1 ∨ st = 2 := by omega
              rcases q with rfl | rfl | rfl <;> exact ⟨_, _, hJ⟩
            obtain ⟨D1, D2, hj⟩ := hj
            have x3 := hj.box.cell 3
            have x4 := hj.box.cell 4
            simp at x3 x4
            clear hj
            clear hlo hhi hJ
            go_simp
            exact And.intro rfl rfl
          simp only [Act.put, List.setIfInBounds_toArray, List.set_cons_succ, List.set_cons_zero, Nat.reduceAdd]
          refine ch_special 1 8 (by rfl) rfl (by decide) (by kernel_rfl) (fun w2 hJ => ?_) ?_
          · have hj : DJ w0.heap.size w0 w2 bc br q (#[.int .i64 3, .int .i64 n, .int .u8 c, .int .u64 g.1, .int .u64 g.2, .slice la pn lc]) (C.snap g) C := hJ
            go_simp
            refine (hj.rc.snap g HG.out).mono ?_
            rintro e w3 ⟨rfl, hh, hf⟩
            exact ⟨_, rfl, rfl, hj.ref hh hf⟩
          rw [n7]
          simp only [Act.put, List.setIfInBounds_toArray, List.set_cons_succ, List.set_cons_zero, Nat.reduceAdd]
          refine ch_plain 0 2 8 (by rfl) rfl (by kernel_rfl) (by kernel_rfl) ?_
          apply Exists.intro
          refine ⟨fun st w2 hlo hhi hJ => ?_, ?_⟩
          · clear hlo hhi hJ
            go_simp
            exact And.intro rfl rfl
          simp only [Act.put, List.setIfInBounds_toArray, List.set_cons_succ, List.set_cons_zero, Nat.reduceAdd]
          refine ch_plain 0 2 8 (by rfl) rfl (by kernel_rfl) (by kernel_rfl) ?_
          apply Exists.intro
          refine ⟨fun st w2 hlo hhi hJ => ?_, ?_⟩
          · clear hlo hhi hJ
            go_simp
            exact And.intro rfl rfl
          simp only [Act.put, Nat.reduceAdd]
          refine ch_nil (fun w9 hJ => ?_)
          have H9 := Lib.hid (show DJ w0.heap.size w0 w9 bc br q (#[.int .i64 3, .int .i64 n, .int .u8 c, .int .u64 g.1, .int .u64 g.2, .slice la pn lc]) (C.snap g) (C.snap g) from hJ)
          clear hJ n3 n7
          go_wp2
          go_ret
          exact ⟨rfl, by rw [HCA.out]; exact H9.out.pr⟩
        · have e3 : (wh == 3) = false := by simpa using k3
          have d3 : decide (wh = 3) = false := decide_eq_false k3
          by_cases k4 : wh = 4
          · subst k4
            have HCA := Lib.hid (HS.out (.inr rfl))
            clear HW HS HR HH HA
            go_enter Try.func24, Try.ntmps24
            go_wp2_with fail
            generalize w.alloc (Obj.cells #[.int .i64 4, .int .i64 n, .int .u8 c, .int .u64 g.1, .int .u64 g.2, .slice la pn lc] 60) = w1 at *
            generalize w.heap.size = q at *
            clear x0 x1 x2 x3 x4 x5
            refine wp_region_chain [3, 7] (kv [(3, .is (.int .i64 (C.next g))), (7, .is (.int .i64 (C.next g)))]) (fun l w2 => match l with | [] => DJ w0.heap.size w0 w2 bc br q (#[.int .i64 4, .int .i64 n, .int .u8 c, .int .u64 g.1, .int .u64 g.2, .slice la pn lc]) C C | [_] => DJ w0.heap.size w0 w2 bc br q (#[.int .i64 4, .int .i64 n, .int .u8 c, .int .u64 g.1, .int .u64 g.2, .slice la pn lc]) (C.snap g) C | _ => DJ w0.heap.size w0 w2 bc br q (#[.int .i64 4, .int .i64 n, .int .u8 c, .int .u64 g.1, .int .u64 g.2, .slice la pn lc]) (C.snap g) (C.snap g)) (by kernel_rfl) (by kernel_rfl) (by kernel_rfl) (kv_inh _) (HJ0.out.keep (Below.drew (Below.refl _ _))) ?_
            intro ν hν
            have n3 : ν 3 = .int .i64 (C.next g) := hν 3
            have n7 : ν 7 = .int .i64 (C.next g) := hν 7
            clear hν
            refine ch_plain 0 2 8 (by rfl) rfl (by kernel_rfl) (by kernel_rfl) ?_
            apply Exists.intro
            refine ⟨fun st w2 hlo hhi hJ => ?_, ?_⟩
            · clear hlo hhi hJ
              go_simp
              exact And.intro rfl rfl
            simp only [Act.put, List.setIfInBounds_toArray, List.set_cons_succ, List.set_cons_zero, Nat.reduceAdd]
            refine ch_plain 0 2 8 (by rfl) rfl (by kernel_rfl) (by kernel_rfl) ?_
            apply Exists.intro
            refine ⟨fun st w2 hlo hhi hJ => ?_, ?_⟩
            · clear hlo hhi hJ
              go_simp
              exact And.intro rfl rfl
            simp only [Act.put, List.setIfInBounds_toArray, List.set_cons_succ, List.set_cons_zero, Nat.reduceAdd]
            refine ch_plain 0 2 8 (by rfl) rfl (by kernel_rfl) (by kernel_rfl) ?_
            apply Exists.intro
            refine ⟨fun st w2 hlo hhi hJ => ?_, ?_⟩
            · have hj : ∃ D D2, DJ w0.heap.size w0 w2 bc br q (#[.int .i64 4, .int .i64 n, .int .u8 c, .int .u64 g.1, .int .u64 g.2, .slice la pn lc]) D D2 := by
                have q : st = 0 ∨ st = 1 ∨ st = 2 := by omega
                rcases q with rfl | rfl | rfl <;> exact ⟨_, _, hJ⟩
              obtain ⟨D1, D2, hj⟩ := hj
              have x3 := hj.box.cell 3
              have x4 := hj.box.cell 4
              simp at x3 x4
              clear hj
              clear hlo hhi hJ
              go_simp
              exact And.intro rfl rfl
            simp only [Act.put, List.setIfInBounds_toArray, List.set_cons_succ, List.set_cons_zero, Nat.reduceAdd]
            refine ch_special 0 8 (by rfl) rfl (by decide) (by kernel_rfl) (fun w2 hJ => ?_) ?_
            · have hj : DJ w0.heap.size w0 w2 bc br q (#[.int .i64 4, .int .i64 n, .int .u8 c, .int .u64 g.1, .int .u64 g.2, .slice la pn lc]) C C := hJ
              go_simp
              refine (ho_snap hj.ho g HG.out).mono ?_
              rintro e w3 ⟨rfl, hh, ho⟩
              exact ⟨_, rfl, rfl, hj.prog hh ho⟩
            rw [n3]
            simp only [Act.put, List.setIfInBounds_toArray, List.set_cons_succ, List.set_cons_zero, Nat.reduceAdd]
            refine ch_plain 0 2 8 (by rfl) rfl (by kernel_rfl) (by kernel_rfl) ?_
            apply Exists.intro
            refine ⟨fun st w2 hlo hhi hJ => ?_, ?_⟩
            · clear hlo hhi hJ
              go_simp
              exact And.intro rfl rfl
            simp only [Act.put, List.setIfInBounds_toArray, List.set_cons_succ, List.set_cons_zero, Nat.reduceAdd]
            refine ch_plain 0 2 8 (by rfl) rfl (by kernel_rfl) (by kernel_rfl) ?_
            apply Exists.intro
            refine ⟨fun st w2 hlo hhi hJ => ?_, ?_⟩
            · clear hlo hhi hJ
              go_simp
              exact And.intro rfl rfl
            simp only [Act.put, List.setIfInBounds_toArray, List.set_cons_succ, List.set_cons_zero, Nat.reduceAdd]
            refine ch_plain 0 2 8 (by rfl) rfl (by kernel_rfl) (by kernel_rfl) ?_
            apply Exists.intro
            refine ⟨fun st w2 hlo hhi hJ => ?_, ?_⟩
            · have hj : ∃ D D2, DJ w0.heap.size w0 w2 bc br q (#[.int .i64 4, .int .i64 n, .int .u8 c, .int .u64 g.1, .int .u64 g.2, .slice la pn lc]) D D2 := by
                have q : st = 0 ∨ st = 1 ∨ st = 2 := by omega
                rcases q with rfl | rfl | rfl <;> exact ⟨_, _, hJ⟩
              obtain ⟨D1, D2, hj⟩ := hj
              have x3 := hj.box.cell 3
              have x4 := hj.box.cell 4
              simp at x3 x4
              clear hj
              clear hlo hhi hJ
              go_simp
              exact And.intro rfl rfl
            simp only [Act.put, List.setIfInBounds_toArray, List.set_cons_succ, List.set_cons_zero, Nat.reduceAdd]
            refine ch_special 1 8 (by rfl) rfl (by decide) (by kernel_rfl) (fun w2 hJ => ?_) ?_
            · have hj : DJ w0.heap.size w0 w2 bc br q (#[.int .i64 4, .int .i64 n, .int .u8 c, .int .u64 g.1, .int .u64 g.2, .slice la pn lc]) (C.snap g) C := hJ
              go_simp
              refine (hj.rc.snap g HG.out).mono ?_
              rintro e w3 ⟨rfl, hh, hf⟩
              exact ⟨_, rfl, rfl, hj.ref hh hf⟩
            rw [n7]
            simp only [Act.put, List.setIfInBounds_toArray, List.set_cons_succ, List.set_cons_zero, Nat.reduceAdd]
            refine ch_plain 0 2 8 (by rfl) rfl (by kernel_rfl) (by kernel_rfl) ?_
            apply Exists.intro
            refine ⟨fun st w2 hlo hhi hJ => ?_, ?_⟩
            · clear hlo hhi hJ
              go_simp
              exact And.intro rfl rfl
            simp only [Act.put, List.setIfInBounds_toArray, List.set_cons_succ, List.set_cons_zero, Nat.reduceAdd]
            refine ch_plain 0 2 8 (by rfl) rfl (by kernel_rfl) (by kernel_rfl) ?_
            apply Exists.intro
            refine ⟨fun st w2 hlo hhi hJ => ?_, ?_⟩
            · clear hlo hhi hJ
              go_simp
              exact And.intro rfl rfl
            simp only [Act.put, Nat.reduceAdd]
            refine ch_nil (fun w9 hJ => ?_)
            have H9 := Lib.hid (show DJ w0.heap.size w0 w9 bc br q (#[.int .i64 4, .int .i64 n, .int .u8 c, .int .u64 g.1, .int .u64 g.2, .slice la pn lc]) (C.snap g) (C.snap g) from hJ)
            clear hJ n3 n7
            go_wp2
            go_ret
            exact ⟨rfl, by rw [HCA.out]; exact H9.out.pr⟩
          · have e4 : (wh == 4) = false := by simpa using k4
            have d4 : decide (wh = 4) = false := decide_eq_false k4
            by_cases k5 : wh = 5
            · subst k5
              have HCA := Lib.hid (HR.out rfl)
              clear HW HS HR HH HA
              go_enter Try.func24, Try.ntmps24
              go_wp2_with fail
              generalize w.alloc (Obj.cells #[.int .i64 5, .int .i64 n, .int .u8 c, .int .u64 g.1, .int .u64 g.2, .slice la pn lc] 60) = w1 at *
              generalize w.heap.size = q at *
              clear x0 x1 x2 x3 x4 x5
              refine wp_region_chain [3, 7] (kv [(3, .is (.int .i64 (C.rollE n))), (7, .is (.int .i64 (C.rollE n)))]) (fun l w2 => match l with | [] => DJ w0.heap.size w0 w2 bc br q (#[.int .i64 5, .int .i64 n, .int .u8 c, .int .u64 g.1, .int .u64 g.2, .slice la pn lc]) C C | [_] => DJ w0.heap.size w0 w2 bc br q (#[.int .i64 5, .int .i64 n, .int .u8 c, .int .u64 g.1, .int .u64 g.2, .slice la pn lc]) (C.roll n) C | _ => DJ w0.heap.size w0 w2 bc br q (#[.int .i64 5, .int .i64 n, .int .u8 c, .int .u64 g.1, .int .u64 g.2, .slice la pn lc]) (C.roll n) (C.roll n)) (by kernel_rfl) (by kernel_rfl) (by kernel_rfl) (kv_inh _) (HJ0.out.keep (Below.drew (Below.refl _ _))) ?_
              intro ν hν
              have n3 : ν 3 = .int .i64 (C.rollE n) := hν 3
              have n7 : ν 7 = .int .i64 (C.rollE n) := hν 7
              clear hν
              refine ch_plain 0 2 8 (by rfl) rfl (by kernel_rfl) (by kernel_rfl) ?_
              apply Exists.intro
              refine ⟨fun st w2 hlo hhi hJ => ?_, ?_⟩
              · clear hlo hhi hJ
                go_simp
                exact And.intro rfl rfl
              simp only [Act.put, List.setIfInBounds_toArray, List.set_cons_succ, List.set_cons_zero, Nat.reduceAdd]
              refine ch_plain 0 2 8 (by rfl) rfl (by kernel_rfl) (by kernel_rfl) ?_
              apply Exists.intro
              refine ⟨fun st w2 hlo hhi hJ => ?_, ?_⟩
              · clear hlo hhi hJ
                go_simp
                exact And.intro rfl rfl
              simp only [Act.put, List.setIfInBounds_toArray, List.set_cons_succ, List.set_cons_zero, Nat.reduceAdd]
              refine ch_plain 0 2 8 (by rfl) rfl (by kernel_rfl) (by kernel_rfl) ?_
              apply Exists.intro
              refine ⟨fun st w2 hlo hhi hJ => ?_, ?_⟩
              · have hj : ∃ D D2, DJ w0.heap.size w0 w2 bc br q (#[.int .i64 5, .int .i64 n, .int .u8 c, .int .u64 g.1, .int .u64 g.2, .slice la pn lc]) D D2 := by
                  have q : st = 0 ∨ st = 1 ∨ st = 2 := by omega
                  rcases q with rfl | rfl | rfl <;> exact ⟨_, _, hJ⟩
                obtain ⟨D1, D2, hj⟩ := hj
                have x1 := hj.box.cell 1
                simp at x1
                clear hj
                clear hlo hhi hJ
                go_simp
                exact And.intro rfl rfl
              simp only [Act.put, List.setIfInBounds_toArray, List.set_cons_succ, List.set_cons_zero, Nat.reduceAdd]
              refine ch_special 0 8 (by rfl) rfl (by decide) (by kernel_rfl) (fun w2 hJ => ?_) ?_
              · have hj : DJ w0.heap.size w0 w2 bc br q (#[.int .i64 5, .int .i64 n, .int .u8 c, .int .u64 g.1, .int .u64 g.2, .slice la pn lc]) C C := hJ
                go_simp
                refine (ho_roll hj.ho n).mono ?_
                rintro e w3 ⟨rfl, hh, ho⟩
                exact ⟨_, rfl, rfl, hj.prog hh ho⟩
              rw [n3]
              simp only [Act.put, List.setIfInBounds_toArray, List.set_cons_succ, List.set_cons_zero, Nat.reduceAdd]
              refine ch_plain 0 2 8 (by rfl) rfl (by kernel_rfl) (by kernel_rfl) ?_
              apply Exists.intro
              refine ⟨fun st w2 hlo hhi hJ => ?_, ?_⟩
              · clear hlo hhi hJ
                go_simp
                exact And.intro rfl rfl
              simp only [Act.put, List.setIfInBounds_toArray, List.set_cons_succ, List.set_cons_zero, Nat.reduceAdd]
              refine ch_plain 0 2 8 (by rfl) rfl (by kernel_rfl) (by kernel_rfl) ?_
              apply Exists.intro
              refine ⟨fun st w2 hlo hhi hJ => ?_, ?_⟩
              · clear hlo hhi hJ
                go_simp
                exact And.intro rfl rfl
              simp only [Act.put, List.setIfInBounds_toArray, List.set_cons_succ, List.set_cons_zero, Nat.reduceAdd]
              refine ch_plain 0 2 8 (by rfl) rfl (by kernel_rfl) (by kernel_rfl) ?_
              apply Exists.intro
              refine ⟨fun st w2 hlo hhi hJ => ?_, ?_⟩
              · have hj : ∃ D D2, DJ w0.heap.size w0 w2 bc br q (#[.int .i64 5, .int .i64 n, .int .u8 c, .int .u64 g.1, .int .u64 g.2, .slice la pn lc]) D D2 := by
                  have q : st = 0 ∨ st = 1 ∨ st = 2 := by omega
                  rcases q with rfl | rfl | rfl <;> exact ⟨_, _, hJ⟩
                obtain ⟨D1, D2, hj⟩ := hj
                have x1 := hj.box.cell 1
                simp at x1
                clear hj
                clear hlo hhi hJ
                go_simp
                exact And.intro rfl rfl
              simp only [Act.put, List.setIfInBounds_toArray, List.set_cons_succ, List.set_cons_zero, Nat.reduceAdd]
              refine ch_special 1 8 (by rfl) rfl (by decide) (by kernel_rfl) (fun w2 hJ => ?_) ?_
              · have hj : DJ w0.heap.size w0 w2 bc br q (#[.int .i64 5, .int .i64 n, .int .u8 c, .int .u64 g.1, .int .u64 g.2, .slice la pn lc]) (C.roll n) C := hJ
                go_simp
                refine (hj.rc.roll n).mono ?_
                rintro e w3 ⟨rfl, hh, hf⟩
                exact ⟨_, rfl, rfl, hj.ref hh hf⟩
              rw [n7]
              simp only [Act.put, List.setIfInBounds_toArray, List.set_cons_succ, List.set_cons_zero, Nat.reduceAdd]
              refine ch_plain 0 2 8 (by rfl) rfl (by kernel_rfl) (by kernel_rfl) ?_
              apply Exists.intro
              refine ⟨fun st w2 hlo hhi hJ => ?_, ?_⟩
              · clear hlo hhi hJ
                go_simp
                exact And.intro rfl rfl
              simp only [Act.put, List.setIfInBounds_toArray, List.set_cons_succ, List.set_cons_zero, Nat.reduceAdd]
              refine ch_plain 0 2 8 (by rfl) rfl (by kernel_rfl) (by kernel_rfl) ?_
              apply Exists.intro
              refine ⟨fun st w2 hlo hhi hJ => ?_, ?_⟩
              · clear hlo hhi hJ
                go_simp
                exact And.intro rfl rfl
              simp only [Act.put, Nat.reduceAdd]
              refine ch_nil (fun w9 hJ => ?_)
              have H9 := Lib.hid (show DJ w0.heap.size w0 w9 bc br q (#[.int .i64 5, .int .i64 n, .int .u8 c, .int .u64 g.1, .int .u64 g.2, .slice la pn lc]) (C.roll n) (C.roll n) from hJ)
              clear hJ n3 n7
              go_wp2
              go_ret
              exact ⟨rfl, by rw [HCA.out]; exact H9.out.pr⟩
            · have e5 : (wh == 5) = false := by simpa using k5
              have d5 : decide (wh = 5) = false := decide_eq_false k5
              by_cases k6 : wh = 6
              · subst k6
                have HCA := Lib.hid (HH.out rfl)
                clear HW HS HR HH HA
                go_enter Try.func24, Try.ntmps24
                go_wp2_with fail
                generalize w.alloc (Obj.cells #[.int .i64 6, .int .i64 n, .int .u8 c, .int .u64 g.1, .int .u64 g.2, .slice la pn lc] 60) = w1 at *
                generalize w.heap.size = q at *
                clear x0 x1 x2 x3 x4 x5
                refine wp_region_chain [3, 7] (kv [(3, .is (.int .i64 (C.findE g))), (7, .is (.int .i64 (C.findE g)))]) (fun l w2 => match l with | [] => DJ w0.heap.size w0 w2 bc br q (#[.int .i64 6, .int .i64 n, .int .u8 c, .int .u64 g.1, .int .u64 g.2, .slice la pn lc]) C C | [_] => DJ w0.heap.size w0 w2 bc br q (#[.int .i64 6, .int .i64 n, .int .u8 c, .int .u64 g.1, .int .u64 g.2, .slice la pn lc]) (C.hide g) C | _ => DJ w0.heap.size w0 w2 bc br q (#[.int .i64 6, .int .i64 n, .int .u8 c, .int .u64 g.1, .int .u64 g.2, .slice la pn lc]) (C.hide g) (C.hide g)) (by kernel_rfl) (by kernel_rfl) (by kernel_rfl) (kv_inh _) (HJ0.out.keep (Below.drew (Below.refl _ _))) ?_
                intro ν hν
                have n3 : ν 3 = .int .i64 (C.findE g) := hν 3
                have n7 : ν 7 = .int .i64 (C.findE g) := hν 7
                clear hν
                refine ch_plain 0 2 8 (by rfl) rfl (by kernel_rfl) (by kernel_rfl) ?_
                apply Exists.intro
                refine ⟨fun st w2 hlo hhi hJ => ?_, ?_⟩
                · clear hlo hhi hJ
                  go_simp
                  exact And.intro rfl rfl
                simp only [Act.put, List.setIfInBounds_toArray, List.set_cons_succ, List.set_cons_zero, Nat.reduceAdd]
                refine ch_plain 0 2 8 (by rfl) rfl (by kernel_rfl) (by kernel_rfl) ?_
                apply Exists.intro
                refine ⟨fun st w2 hlo hhi hJ => ?_, ?_⟩
                · clear hlo hhi hJ
                  go_simp
                  exact And.intro rfl rfl
                simp only [Act.put, List.setIfInBounds_toArray, List.set_cons_succ, List.set_cons_zero, Nat.reduceAdd]
                refine ch_plain 0 2 8 (by rfl) rfl (by kernel_rfl) (by kernel_rfl) ?_
                apply Exists.intro
                refine ⟨fun st w2 hlo hhi hJ => ?_, ?_⟩
                · have hj : ∃ D D2, DJ w0.heap.size w0 w2 bc br q (#[.int .i64 6, .int .i64 n, .int .u8 c, .int .u64 g.1, .int .u64 g.2, .slice la pn lc]) D D2 := by
                    have q : st = 0 ∨ st = 1 ∨ st = 2 := by omega
                    rcases q with rfl | rfl | rfl <;> exact ⟨_, _, hJ⟩
                  obtain ⟨D1, D2, hj⟩ := hj
                  have x3 := hj.box.cell 3
                  have x4 := hj.box.cell 4
                  simp at x3 x4
                  clear hj
                  clear hlo hhi hJ
                  go_simp
                  exact And.intro rfl rfl
                simp only [Act.put, List.setIfInBounds_toArray, List.set_cons_succ, List.set_cons_zero, Nat.reduceAdd]
                refine ch_special 0 8 (by rfl) rfl (by decide) (by kernel_rfl) (fun w2 hJ => ?_) ?_
                · have hj : DJ w0.heap.size w0 w2 bc br q (#[.int .i64 6, .int .i64 n, .int .u8 c, .int .u64 g.1, .int .u64 g.2, .slice la pn lc]) C C := hJ
                  go_simp
                  refine (ho_hide hj.ho g).mono ?_
                  rintro e w3 ⟨rfl, hh, ho⟩
                  exact ⟨_, rfl, rfl, hj.prog hh ho⟩
                rw [n3]
                simp only [Act.put, List.setIfInBounds_toArray, List.set_cons_succ, List.set_cons_zero, Nat.reduceAdd]
                refine ch_plain 0 2 8 (by rfl) rfl (by kernel_rfl) (by kernel_rfl) ?_
                apply Exists.intro
                refine ⟨fun st w2 hlo hhi hJ => ?_, ?_⟩
                · clear hlo hhi hJ
                  go_simp
                  exact And.intro rfl rfl
                simp only [Act.put, List.setIfInBounds_toArray, List.set_cons_succ, List.set_cons_zero, Nat.reduceAdd]
                refine ch_plain 0 2 8 (by rfl) rfl (by kernel_rfl) (by kernel_rfl) ?_
                apply Exists.intro
                refine ⟨fun st w2 hlo hhi hJ => ?_, ?_⟩
                · clear hlo hhi hJ
                  go_simp
                  exact And.intro rfl rfl
                simp only [Act.put, List.setIfInBounds_toArray, List.set_cons_succ, List.set_cons_zero, Nat.reduceAdd]
                refine ch_plain 0 2 8 (by rfl) rfl (by kernel_rfl) (by kernel_rfl) ?_
                apply Exists.intro
                refine ⟨fun st w2 hlo hhi hJ => ?_, ?_⟩
                · have hj : ∃ D D2, DJ w0.heap.size w0 w2 bc br q (#[.int .i64 6, .int .i64 n, .int .u8 c, .int .u64 g.1, .int .u64 g.2, .slice la pn lc]) D D2 := by
                    have q : st = 0 ∨ st = 1 ∨ st = 2 := by omega
                    rcases q with rfl | rfl | rfl <;> exact ⟨_, _, hJ⟩
                  obtain ⟨D1, D2, hj⟩ := hj
                  have x3 := hj.box.cell 3
                  have x4 := hj.box.cell 4
                  simp at x3 x4
                  clear hj
                  clear hlo hhi hJ
                  go_simp
                  exact And.intro rfl rfl
                simp only [Act.put, List.setIfInBounds_toArray, List.set_cons_succ, List.set_cons_zero, Nat.reduceAdd]
                refine ch_special 1 8 (by rfl) rfl (by decide) (by kernel_rfl) (fun w2 hJ => ?_) ?_
                · have hj : DJ w0.heap.size w0 w2 bc br q (#[.int .i64 6, .int .i64 n, .int .u8 c, .int .u64 g.1, .int .u64 g.2, .slice la pn lc]) (C.hide g) C := hJ
                  go_simp
                  refine (hj.rc.hide g).mono ?_
                  rintro e w3 ⟨rfl, hh, hf⟩
                  exact ⟨_, rfl, rfl, hj.ref hh hf⟩
                rw [n7]
                simp only [Act.put, List.setIfInBounds_toArray, List.set_cons_succ, List.set_cons_zero, Nat.reduceAdd]
                refine ch_plain 0 2 8 (by rfl) rfl (by kernel_rfl) (by kernel_rfl) ?_
                apply Exists.intro
                refine ⟨fun st w2 hlo hhi hJ => ?_, ?_⟩
                · clear hlo hhi hJ
                  go_simp
                  exact And.intro rfl rfl
                simp only [Act.put, List.setIfInBounds_toArray, List.set_cons_succ, List.set_cons_zero, Nat.reduceAdd]
                refine ch_plain 0 2 8 (by rfl) rfl (by kernel_rfl) (by kernel_rfl) ?_
                apply Exists.intro
                refine ⟨fun st w2 hlo hhi hJ => ?_, ?_⟩
                · clear hlo hhi hJ
                  go_simp
                  exact And.intro rfl rfl
                simp only [Act.put, Nat.reduceAdd]
                refine ch_nil (fun w9 hJ => ?_)
                have H9 := Lib.hid (show DJ w0.heap.size w0 w9 bc br q (#[.int .i64 6, .int .i64 n, .int .u8 c, .int .u64 g.1, .int .u64 g.2, .slice la pn lc]) (C.hide g) (C.hide g) from hJ)
                clear hJ n3 n7
                go_wp2
                go_ret
                exact ⟨rfl, by rw [HCA.out]; exact H9.out.pr⟩
              · have e6 : (wh == 6) = false := by simpa using k6
                have d6 : decide (wh = 6) = false := decide_eq_false k6
                have HCA := Lib.hid (HA.out k0 k1 k2 k3 k4 k5 k6)
                clear k0 k1 k2 k3 k4 k5 k6 HW HS HR HH HA
                go_enter Try.func24, Try.ntmps24
                go_wp2_with fail
                generalize w.alloc (Obj.cells #[.int .i64 wh, .int .i64 n, .int .u8 c, .int .u64 g.1, .int .u64 g.2, .slice la pn lc] 60) = w1 at *
                generalize w.heap.size = q at *
                refine (changes_any w1 _ ps (HIN.out.keep HJ0.out.ho.below)).mono ?_
                generalize hcl : (ps.take 10).map cgP = cl at *
                have HCL := Lib.hid hcl
                have hcm : cl.length ≤ 10 := by rw [← hcl, List.length_map, List.length_take]; omega
                rintro e w2 ⟨l1, rfl, ho, hb⟩
                obtain ⟨va, vc, rfl⟩ := own_slice ho.1
                generalize hm : cl.length = m at *
                have HCM := Lib.hid hm
                have HM10 := Lib.hid hcm
                have HJ2 := Lib.hid (HJ0.out.keep hb)
                have HO2 := Lib.hid (show OwC w2 w0.heap.size (.slice va m vc) cl from ho.mono HJ0.out.ho.size)
                clear ho hb hcl hm hcm x0 x1 x2 x3 x4 x5 HJ0
                have x3 := HJ2.out.box.cell 3
                have x4 := HJ2.out.box.cell 4
                simp at x3 x4
                go_wp2_with fail
                refine (ho_add HJ2.out.ho g HG.out _ cl HO2.out.rd).mono ?_
                rintro e w3 ⟨rfl, hh, hot⟩
                have HJ3 := Lib.hid (HJ2.out.prog hh hot)
                have HR3 := Lib.hid (show w3.ownsRow w0.heap.size 48 2 (.slice va m vc) m (cgsL cl) from by have h1 := own_oth HO2.out.1 hot (by decide) (by decide); rwa [HCM.out] at h1)
                clear hh hot x3 x4 HJ2 HO2
                go_wp2_with fail
                refine wp_region_chain [5, 6] (kv [(5, .sla m), (6, .is (.int .i64 (C.addE g cl)))]) (fun l w2 => match l with | [] => DJ w0.heap.size w0 w2 bc br q (#[.int .i64 wh, .int .i64 n, .int .u8 c, .int .u64 g.1, .int .u64 g.2, .slice la pn lc]) (C.add g cl) C ∧ w2.ownsRow w0.heap.size 48 2 (.slice va m vc) m (cgsL cl) | [u] => (DJ w0.heap.size w0 w2 bc br q (#[.int .i64 wh, .int .i64 n, .int .u8 c, .int .u64 g.1, .int .u64 g.2, .slice la pn lc]) (C.add g cl) C ∧ w2.ownsRow w0.heap.size 48 2 (.slice va m vc) m (cgsL cl)) ∧ OwC w2 w0.heap.size u cl | _ => DJ w0.heap.size w0 w2 bc br q (#[.int .i64 wh, .int .i64 n, .int .u8 c, .int .u64 g.1, .int .u64 g.2, .slice la pn lc]) (C.add g cl) (C.add g cl) ∧ w2.ownsRow w0.heap.size 48 2 (.slice va m vc) m (cgsL cl)) (by kernel_rfl) (by kernel_rfl) (by kernel_rfl) (kv_inh _) (⟨HJ3.out.keep (Below.drew (Below.refl _ _)), own_kp (Kp.of_below (Below.drew (Below.refl _ _))) HR3.out fun _ _ h => h⟩) ?_
                intro ν hν
                obtain ⟨a5, c5, n5⟩ : ∃ a c, ν 5 = .slice a m c := hν 5
                have n6 : ν 6 = .int .i64 (C.addE g cl) := hν 6
                clear hν
                refine ch_plain 0 2 8 (by rfl) rfl (by kernel_rfl) (by kernel_rfl) ?_
                apply Exists.intro
                refine ⟨fun st w2 hlo hhi hJ => ?_, ?_⟩
                · clear hlo hhi hJ
                  go_simp
                  exact And.intro rfl rfl
                simp only [Act.put, List.setIfInBounds_toArray, List.set_cons_succ, List.set_cons_zero, Nat.reduceAdd]
                refine ch_plain 0 2 8 (by rfl) rfl (by kernel_rfl) (by kernel_rfl) ?_
                apply Exists.intro
                refine ⟨fun st w2 hlo hhi hJ => ?_, ?_⟩
                · clear hlo hhi hJ
                  go_simp
                  exact And.intro rfl rfl
                simp only [Act.put, List.setIfInBounds_toArray, List.set_cons_succ, List.set_cons_zero, Nat.reduceAdd]
                refine ch_plain 0 2 8 (by rfl) rfl (by kernel_rfl) (by kernel_rfl) ?_
                apply Exists.intro
                refine ⟨fun st w2 hlo hhi hJ => ?_, ?_⟩
                · have hj : ∃ D D2, DJ w0.heap.size w0 w2 bc br q (#[.int .i64 wh, .int .i64 n, .int .u8 c, .int .u64 g.1, .int .u64 g.2, .slice la pn lc]) D D2 := by
                    have q : st = 0 ∨ st = 1 ∨ st = 2 := by omega
                    rcases q with rfl | rfl | rfl
                    · have hj : DJ w0.heap.size w0 w2 bc br q (#[.int .i64 wh, .int .i64 n, .int .u8 c, .int .u64 g.1, .int .u64 g.2, .slice la pn lc]) (C.add g cl) C ∧ _ := hJ
                      exact ⟨_, _, hj.1⟩
                    · have hj : (DJ w0.heap.size w0 w2 bc br q (#[.int .i64 wh, .int .i64 n, .int .u8 c, .int .u64 g.1, .int .u64 g.2, .slice la pn lc]) (C.add g cl) C ∧ _) ∧ _ := hJ
                      exact ⟨_, _, hj.1.1⟩
                    · have hj : DJ w0.heap.size w0 w2 bc br q (#[.int .i64 wh, .int .i64 n, .int .u8 c, .int .u64 g.1, .int .u64 g.2, .slice la pn lc]) (C.add g cl) (C.add g cl) ∧ _ := hJ
                      exact ⟨_, _, hj.1⟩
                  obtain ⟨D1, D2, hj⟩ := hj
                  have x3 := hj.box.cell 3
                  have x4 := hj.box.cell 4
                  simp at x3 x4
                  clear hj
                  clear hlo hhi hJ
                  go_simp
                  exact And.intro rfl rfl
                simp only [Act.put, List.setIfInBounds_toArray, List.set_cons_succ, List.set_cons_zero, Nat.reduceAdd]
                refine ch_plain 0 2 8 (by rfl) rfl (by kernel_rfl) (by kernel_rfl) ?_
                apply Exists.intro
                refine ⟨fun st w2 hlo hhi hJ => ?_, ?_⟩
                · clear hlo hhi hJ
                  go_simp
                  exact And.intro rfl rfl
                simp only [Act.put, List.setIfInBounds_toArray, List.set_cons_succ, List.set_cons_zero, Nat.reduceAdd]
                refine ch_plain 0 2 8 (by rfl) rfl (by kernel_rfl) (by kernel_rfl) ?_
                apply Exists.intro
                refine ⟨fun st w2 hlo hhi hJ => ?_, ?_⟩
                · have hj : ∃ D D2, DJ w0.heap.size w0 w2 bc br q (#[.int .i64 wh, .int .i64 n, .int .u8 c, .int .u64 g.1, .int .u64 g.2, .slice la pn lc]) D D2 := by
                    have q : st = 0 ∨ st = 1 ∨ st = 2 := by omega
                    rcases q with rfl | rfl | rfl
                    · have hj : DJ w0.heap.size w0 w2 bc br q (#[.int .i64 wh, .int .i64 n, .int .u8 c, .int .u64 g.1, .int .u64 g.2, .slice la pn lc]) (C.add g cl) C ∧ _ := hJ
                      exact ⟨_, _, hj.1⟩
                    · have hj : (DJ w0.heap.size w0 w2 bc br q (#[.int .i64 wh, .int .i64 n, .int .u8 c, .int .u64 g.1, .int .u64 g.2, .slice la pn lc]) (C.add g cl) C ∧ _) ∧ _ := hJ
                      exact ⟨_, _, hj.1.1⟩
                    · have hj : DJ w0.heap.size w0 w2 bc br q (#[.int .i64 wh, .int .i64 n, .int .u8 c, .int .u64 g.1, .int .u64 g.2, .slice la pn lc]) (C.add g cl) (C.add g cl) ∧ _ := hJ
                      exact ⟨_, _, hj.1⟩
                  obtain ⟨D1, D2, hj⟩ := hj
                  have x5 := hj.box.cell 5
                  simp at x5
                  clear hj
                  clear hlo hhi hJ
                  go_simp
                  exact And.intro rfl rfl
                simp only [Act.put, List.setIfInBounds_toArray, List.set_cons_succ, List.set_cons_zero, Nat.reduceAdd]
                refine ch_special 0 8 (by rfl) rfl (by decide) (by kernel_rfl) (fun w2 hJ => ?_) ?_
                · have hj : DJ w0.heap.size w0 w2 bc br q (#[.int .i64 wh, .int .i64 n, .int .u8 c, .int .u64 g.1, .int .u64 g.2, .slice la pn lc]) (C.add g cl) C ∧ w2.ownsRow w0.heap.size 48 2 (.slice va m vc) m (cgsL cl) := hJ
                  go_simp
                  refine (changes_any w2 _ ps (HIN.out.keep hj.1.ho.below)).mono ?_
                  rw [HCL.out]
                  rintro e w6 ⟨u, rfl, ho, hb⟩
                  obtain ⟨ua, uc, rfl⟩ := own_slice ho.1
                  rw [HCM.out] at ho ⊢
                  exact ⟨_, rfl, ⟨_, _, rfl⟩, ⟨hj.1.keep hb, own_kp (Kp.of_below hb) hj.2 fun _ _ h => h⟩, ho.mono hj.1.ho.size⟩
                rw [n5]
                simp only [Act.put, List.setIfInBounds_toArray, List.set_cons_succ, List.set_cons_zero, Nat.reduceAdd]
                refine ch_special 1 8 (by rfl) rfl (by decide) (by kernel_rfl) (fun w2 hJ => ?_) ?_
                · have hj : (DJ w0.heap.size w0 w2 bc br q (#[.int .i64 wh, .int .i64 n, .int .u8 c, .int .u64 g.1, .int .u64 g.2, .slice la pn lc]) (C.add g cl) C ∧ w2.ownsRow w0.heap.size 48 2 (.slice va m vc) m (cgsL cl)) ∧ OwC w2 w0.heap.size (ν 5) cl := hJ
                  rw [n5] at hj
                  go_simp
                  refine (hj.1.1.rc.add g HG.out _ cl hj.2.rd).mono ?_
                  rintro e w6 ⟨rfl, hh, hf⟩
                  exact ⟨_, rfl, rfl, hj.1.1.ref hh hf, own_fr hj.1.2 hf (by decide) (by decide) (by decide)⟩
                rw [n6]
                simp only [Act.put, List.setIfInBounds_toArray, List.set_cons_succ, List.set_cons_zero, Nat.reduceAdd]
                refine ch_plain 0 2 8 (by rfl) rfl (by kernel_rfl) (by kernel_rfl) ?_
                apply Exists.intro
                refine ⟨fun st w2 hlo hhi hJ => ?_, ?_⟩
                · clear hlo hhi hJ
                  go_simp
                  exact And.intro rfl rfl
                simp only [Act.put, Nat.reduceAdd]
                refine ch_nil (fun w9 hJ => ?_)
                have H9 := Lib.hid (show DJ w0.heap.size w0 w9 bc br q (#[.int .i64 wh, .int .i64 n, .int .u8 c, .int .u64 g.1, .int .u64 g.2, .slice la pn lc]) (C.add g cl) (C.add g cl) ∧ w9.ownsRow w0.heap.size 48 2 (.slice va m vc) m (cgsL cl) from hJ)
                clear hJ n5 n6
                go_wp2_with fail
                go_loopw [10] (fun i wr => ∃ j : Nat, j ≤ m ∧ i = .int .i64 j ∧ Pr w0.heap.size w0 wr bc br (C.add g cl) ∧ ∃ xs, wr.ownsRow w0.heap.size 48 2 (.slice va m vc) m xs) (fun i _ => m - (intOf i).toNat)
                case atStart => exact ⟨0, Nat.zero_le _, rfl, H9.out.1.pr, _, H9.out.2⟩
                case round =>
                  obtain ⟨j, hj, rfl, hp, xs, hr⟩ := hrel
                  by_cases hlt : j < m
                  · obtain ⟨gl, cap, e2, hge⟩ := own_block_ hr (show 0 < m by omega)
                    simp only [Value.slice.injEq] at e2
                    obtain ⟨rfl, -, rfl⟩ := e2
                    obtain ⟨cs, hcs⟩ := own_cells hr (show (Value.slice (some ⟨gl, 0, none⟩) m vc).ownBlock = some gl from rfl)
                    have hth : wr.there gl (j * 2) 2 := fun i hi => by
                      have hl := hr.1
                      refine ⟨?_, World.ownsRow.frozenAt hr _⟩
                      rw [World.ownsRow.cellAt hr (j * 2 + i) (by omega), List.getElem?_eq_getElem (by omega)]
                      rfl
                    have hk := kp_setCells gl [.int .i64 0, .string ByteArray.empty] (j * 2) wr
                    have HN := Lib.hid (show Pr w0.heap.size w0 (wr.setCells gl (j * 2) [.int .i64 0, .string ByteArray.empty]) bc br (C.add g cl) ∧ (wr.setCells gl (j * 2) [.int .i64 0, .string ByteArray.empty]).ownsRow w0.heap.size 48 2 (.slice (some ⟨gl, 0, none⟩) m vc) m _ from
                      ⟨hp.other hk (show Blk wr gl 48 cs from hcs) (by decide) (by decide) (by decide) (by decide) (by decide) hge, ((hr.stored (j * 2) (.int .i64 0)).1.stored (j * 2 + 1) (.string ByteArray.empty)).1⟩)
                    have HTH := Lib.hid hth
                    have HLT := Lib.hid hlt
                    have i1 : (j : Int) < (m : Int) := by omega
                    have i0 : (0 : Int) ≤ (j : Int) := by omega
                    clear hj hp hr hcs hth hk hlt hge
                    go_wp2_with (refine wpList_mid_then2 rfl 48 _ _ rfl gl (j * 2) #[.int .i64 0, .string ByteArray.empty] rfl rfl HTH.out (by kernel_rfl) (by rw [← Array.all_toList]; rfl) ?_)
                    refine Later.mk fun w5 hw5 => ?_
                    replace HN := Lib.hid (hw5 ▸ HN.out)
                    clear hw5 i1 i0 HTH
                    go_wp2
                    rw [wrap_succ HLT.out (by have := HM10.out; unfold maxLen; omega)]
                    exact ⟨⟨j + 1, HLT.out, rfl, HN.out.1, _, HN.out.2⟩, meas_succ HLT.out⟩
                  · obtain rfl : j = m := by omega
                    have i1 : ¬ ((j : Int) < (j : Int)) := by omega
                    have HP := Lib.hid hp
                    clear hj hp hr hlt
                    go_wp2
                    go_ret
                    exact ⟨rfl, by rw [HCA.out]; exact HP.out⟩
end
end Go.Proofs.Ytjeebpklinpmfaa
