/-
  THE REFERENCE'S CHAIN: New, Write, Snap, Rollback (printed by wip/gen-rcc.py).
-/
import Derived.Test.YtjeebpklinpmfaaRcB
namespace Go.Proofs.Ytjeebpklinpmfaa
open Go.RowKit Reg Go.WideShapes Go.ChangeShapes

/-- block br holds the reference's chain C -/
def Rc (w : World) (B br : Nat) (C : Ch) : Prop := ∃ nv sv now es, Rm w B br nv sv now es ∧ Lk C now es
/-- a step of the reference -/
def StR (w : World) (B br : Nat) (r : Int) (C : Ch) (e : Ending) (w' : World) : Prop := e = .returned (.int .i64 r) ∧ Rc w' B br C ∧ FR B w w'
theorem exec_append3 {P : Program} {w w' : World} {o : Oper} {a : Act} (s x : Operand) (t : TypeId) (ho : o.op = .call { callee := .builtin .append, args := #[s, x], argTypes := #[t, t] }) (v u : Value) (hs : a.eval s = v) (hx : a.eval x = u) (v' : Value)
    (hr : (Builtin.append_ #[t, t] o.type #[v, u]).run P w = .ok v' w') : (execOp a.eval o).run P w = .ok (.value v') w' := by
  unfold execOp
  simp only [ho, resolve, invoke, builtin, Sem.run_bind, Sem.run_pure, Result.andThen_ok, List.map_toArray, List.map_cons, List.map_nil, hs, hx, hr]
theorem tail_zero (n : Nat) (_ : n ≤ 8) : tailE n (zeroVo n) := by
  unfold tailE zeroVo
  rw [List.drop_left' (by simp)]
theorem zero_take (n : Nat) : (zeroVo n).take n = List.replicate n zB := by
  unfold zeroVo
  rw [List.take_left' (by simp)]
theorem Lk.new (n : Nat) (h1 : 1 ≤ n) (h2 : n ≤ 8) : Lk (Ch.new n) (List.replicate n zB) [] :=
  ⟨⟨h1, h2⟩, zeroVo_wf h2, (fun s hs => by cases hs), by simp [Ch.new], (zero_take n).symm, rfl, tail_zero n h2, fun s hs => by cases hs⟩
theorem newR_bad (w : World) (n : Int) (hn : n < 1 ∨ 8 < n) : Calls Try.prog 19 #[.int .i64 n] w fun e w' => e = .returned (.pointer none) ∧ w = w' := by
  have hs : n < 1 ∨ (1 ≤ n ∧ 8 < n) := by omega
  clear hn
  rcases hs with h1 | ⟨h1, h2⟩
  all_goals
    go_enter Try.func19, Try.ntmps19
    go_wp2
    go_ret
    exact ⟨rfl, rfl⟩
theorem newR_any (w : World) (B n : Nat) (hB : B ≤ w.heap.size) (h1 : 1 ≤ n) (h2 : n ≤ 8) : Calls Try.prog 19 #[.int .i64 n] w fun e w' => ∃ br, e = .returned (.pointer (some ⟨br, 0, none⟩)) ∧ Rc w' B br (Ch.new n) ∧ Below w.heap.size w w' := by
  have HZ := Lib.hid (zerosR_any w n h2)
  have HN := Lib.hid (And.intro h1 h2)
  have HBB := Lib.hid hB
  have i1 : (1 : Int) ≤ (n : Int) := by omega
  have i2 : (n : Int) ≤ 8 := by omega
  clear h1 h2 hB
  go_enter Try.func19, Try.ntmps19
  go_wp2_with fail
  refine HZ.out.mono ?_
  rintro e w2 ⟨u, rfl, ho, hb⟩
  obtain ⟨ua, uc, rfl⟩ := ho.slice_
  rw [List.length_replicate] at ho ⊢
  have HO := Lib.hid ho
  have HB := Lib.hid hb
  clear ho hb i1 i2 HZ
  go_wp2
  go_ret
  have hs := HB.out.size
  have hb2 := (Below.refl w2.heap.size w2).alloc (Nat.le_refl _) (Obj.cells #[.slice ua n uc, .slice none 0 0] 84)
  have hBB := HBB.out
  exact ⟨w2.heap.size, rfl, ⟨_, _, _, _, ⟨Blk.new _ _ _, (HO.out.mono hBB).keep hb2, OwR.nil_ _ _, (fun e he => by cases he), (fun e he => by cases he), by omega⟩, Lk.new n HN.out.1 HN.out.2⟩, HB.out.trans (hb2.mono hs)⟩
section
variable {w w' : World} {B br : Nat} {nv sv : Value} {now : List ByteArray} {es : List Rs} {C : Ch}
theorem Rc.keep (h : Rc w B br C) (hb : Below w.heap.size w w') : Rc w' B br C := by
  obtain ⟨nv, sv, now, es, h1, h2⟩ := h
  exact ⟨nv, sv, now, es, h1.keep hb, h2⟩
theorem Rc.oth (h : Rc w B br C) (hw : Oth w w') : Rc w' B br C := by
  obtain ⟨nv, sv, now, es, h1, h2⟩ := h
  exact ⟨nv, sv, now, es, h1.oth hw, h2⟩
theorem Rc.base (h : Rc w B br C) : B ≤ w.heap.size := by
  obtain ⟨nv, sv, now, es, h1, h2⟩ := h
  exact h1.base
/-- a block of the live volume is stored -/
theorem Rm.setNow (h : Rm w B br nv sv now es) {gn N c : Nat} (hn : nv = .slice (some ⟨gn, 0, none⟩) N c) (k : Nat) (d : ByteArray) (hd : d.size ≤ maxLen) :
    Rm (w.setCell ⟨gn, k, none⟩ (.string d)) B br nv sv (now.set k d) es ∧ FR B w (w.setCell ⟨gn, k, none⟩ (.string d)) := by
  subst hn
  have hk := kp_cell w gn k (.string d)
  have hob : (Value.slice (some ⟨gn, 0, none⟩) N c).ownBlock = some gn := rfl
  obtain ⟨cs, hcs⟩ := own_cells h.now.1 hob
  exact ⟨⟨hk.blk h.obj (fun e => own_ne h.now.1 h.obj (by decide) hob e.symm), h.now.set k d hd, own_kp hk h.row (fun b hb e => own_apart h.now.1 h.row (by decide) hob (by rw [hb, e])), fun e he => (h.bl e he).kp hk (fun b hb e2 => h.ap e he gn hob (by rw [hb, e2])), h.ap, h.br⟩,
    FR.of_kp hk (show Blk w gn 9 cs from hcs) (.inr (.inr rfl)) (own_from h.now.1 hob)⟩
theorem Lk.write (k : Lk C now es) {b : Nat} (hb : b < C.n) {d : ByteArray} (hd : d.size = 32) : Lk { C with live := C.live.set b d } (now.set b d) es :=
  ⟨k.n, wfV_set k.live hd b, k.wf, k.len, by rw [k.now]; show _ = (C.live.set b d).take C.n; rw [List.take_set], k.sn, by
    show (C.live.set b d).drop C.n = _
    rw [List.drop_set_of_lt hb]
    exact k.tl, k.ts⟩
set_option maxRecDepth 100000 in
theorem writeR_any (h : Rm w B br nv sv now es) (k : Lk C now es) (b : Int) (d : ByteArray) : Calls Try.prog 39 #[.pointer (some ⟨br, 0, none⟩), .int .i64 b, .string d] w (StR w B br (C.writeE b d) (C.write b d)) := by
  have HH := Lib.hid (And.intro h k)
  obtain ⟨na, nc, sa, sc, rfl, rfl⟩ := h.open_
  have x0 := h.obj.cell 0
  simp at x0
  have hnl := k.nlen
  rw [hnl] at x0
  have hn8 := k.n.2
  have hbad : mayB C.n b d = false → C.writeE b d = 2 ∧ C.write b d = C := fun hm => ⟨by simp [Ch.writeE, hm], by simp [Ch.write, hm]⟩
  by_cases h1 : 0 ≤ b
  · by_cases h2 : b < C.n
    · by_cases h3 : d.size = 32
      · have hm : mayB C.n b d = true := by unfold mayB; exact decide_eq_true ⟨h1, h2, h3⟩
        obtain ⟨j, rfl⟩ : ∃ j : Nat, b = j := ⟨b.toNat, by omega⟩
        have HR := Lib.hid (show C.writeE j d = 0 ∧ C.write j d = { C with live := C.live.set j d } from ⟨by simp [Ch.writeE, hm], by simp [Ch.write, hm]⟩)
        have hj : j < now.length := by omega
        obtain ⟨gn, cap, e, -, -, hfz, hcl⟩ := h.now.block (by omega)
        simp only [Value.slice.injEq] at e
        obtain ⟨rfl, -, rfl⟩ := e
        have c1 := hcl j hj
        have f1 := hfz j
        obtain ⟨hs1, hs2⟩ := h.setNow rfl j d (by rw [h3]; decide)
        have HS := Lib.hid (And.intro hs1 hs2)
        have HL := Lib.hid (k.write (b := j) (by omega) h3)
        have i1 : (j : Int) < (C.n : Int) := by omega
        have e3 : ((d.size : Int) == 32) = true := by simp; omega
        have e4 : (d.size : Int) = 32 := by omega
        generalize C.n = N at *
        clear h k hm h2 hj hfz hcl hs1 hs2 HH hbad hnl hn8
        go_enter Try.func39, Try.ntmps39
        go_wp2
        go_ret
        exact ⟨by rw [HR.out.1]; rfl, ⟨_, _, _, _, HS.out.1, by rw [HR.out.2]; exact HL.out⟩, HS.out.2⟩
      · have hm : mayB C.n b d = false := by unfold mayB; exact decide_eq_false (fun q => h3 q.2.2)
        have HR := Lib.hid (hbad hm)
        have e3 : ((d.size : Int) != 32) = true := by simp; omega
        have e4 : ¬ (d.size : Int) = 32 := by omega
        have e5 : ¬ d.size = 32 := h3
        obtain ⟨N, hN⟩ : ∃ N, N = C.n := ⟨_, rfl⟩
        rw [← hN] at x0 h2
        have i1 : b < (N : Int) := by omega
        clear h k hm h3 h2 hbad hnl hn8 hN
        go_enter Try.func39, Try.ntmps39
        go_wp2
        go_ret
        exact ⟨by rw [HR.out.1]; rfl, by rw [HR.out.2]; exact ⟨_, _, _, _, HH.out.1, HH.out.2⟩, FR.refl _ _⟩
    · have hm : mayB C.n b d = false := by unfold mayB; exact decide_eq_false (fun q => h2 q.2.1)
      have HR := Lib.hid (hbad hm)
      obtain ⟨N, hN⟩ : ∃ N, N = C.n := ⟨_, rfl⟩
      rw [← hN] at x0 h2
      have i1 : (N : Int) ≤ b := by omega
      clear h k hm h2 hbad hnl hn8 hN
      go_enter Try.func39, Try.ntmps39
      go_wp2
      go_ret
      exact ⟨by rw [HR.out.1]; rfl, by rw [HR.out.2]; exact ⟨_, _, _, _, HH.out.1, HH.out.2⟩, FR.refl _ _⟩
  · have hm : mayB C.n b d = false := by unfold mayB; exact decide_eq_false (fun q => h1 q.1)
    have HR := Lib.hid (hbad hm)
    have i1 : b < 0 := by omega
    clear h k hm h1 hbad hnl hn8
    go_enter Try.func39, Try.ntmps39
    go_wp2
    go_ret
    exact ⟨by rw [HR.out.1]; rfl, by rw [HR.out.2]; exact ⟨_, _, _, _, HH.out.1, HH.out.2⟩, FR.refl _ _⟩
/-- a snapshot is put behind the others: the append, and the store of what it gives -/
theorem Rm.put (h : Rm w B br nv sv now es) {e : Rs} {u : Value} (ty : TypeId) (hu : ∃ g, u = .slice (some ⟨g, 0, none⟩) 1 1 ∧ Blk w g 88 e.cells.toArray) (he : OwT w B e.iv e.bl) (hap : Apart nv e.iv) (hn : es.length < 20) :
    ∃ a c w', (Builtin.append_ #[82, 82] ty #[sv, u]).run Try.prog w = .ok (.slice a (es.length + 1) c) w' ∧ w'.cell? ⟨br, 1, none⟩ = some sv ∧ w'.frozen? ⟨br, 1, none⟩ = false ∧
      Rm (w'.setCell ⟨br, 1, none⟩ (.slice a (es.length + 1) c)) B br nv (.slice a (es.length + 1) c) now (es ++ [e]) ∧ FR B w (w'.setCell ⟨br, 1, none⟩ (.slice a (es.length + 1) c)) := by
  obtain ⟨v', w', hr, hp, hg⟩ := app_rs ty h.row hu (by omega) h.base
  have hk := Kp.of_grown hg
  obtain ⟨a, c, rfl⟩ := own_slice hp
  rw [show (es ++ [e]).length = es.length + 1 from by simp] at hp hr
  have hobj := hk.blk h.obj (fun e => own_ne h.row h.obj (by decide) e rfl)
  have hk2 := kp_cell w' br 1 (.slice a (es.length + 1) c)
  refine ⟨a, c, w', hr, by rw [hobj.cell]; rfl, hobj.frozen _, ⟨hobj.set 1 _, ?_, ?_, ?_, ?_, h.br⟩, (FR.of_row hk h.row (.inr (.inl rfl)) h.base).trans (FR.of_kp hk2 hobj (.inl rfl) h.br)⟩
  · have h1 := h.now.kp hk (fun b hb e => own_apart h.now.1 h.row (by decide) hb e)
    exact h1.kp hk2 (fun b hb e => own_ne h1.1 hobj (by decide) hb e)
  · have h1 : OwR (w'.setCell ⟨br, 1, none⟩ (.slice a (es.length + 1) c)) B (.slice a (es.length + 1) c) (es ++ [e]) := by
      exact own_kp hk2 hp (fun b hb e => own_ne hp hobj (by decide) hb e)
    exact h1
  · intro x hx
    have h1 : OwT w B x.iv x.bl := by
      rcases List.mem_append.1 hx with hx | hx
      · exact h.bl x hx
      · rw [List.mem_singleton] at hx
        rw [hx]; exact he
    have h2 := h1.kp hk (fun b hb e => own_apart h1.1 h.row (by decide) hb e)
    exact h2.kp hk2 (fun b hb e => own_ne h2.1 hobj (by decide) hb e)
  · intro x hx
    rcases List.mem_append.1 hx with hx | hx
    · exact h.ap x hx
    · rw [List.mem_singleton] at hx
      rw [hx]; exact hap
theorem apart_new {u v : Value} {m n m' n' b b' : Nat} {t t' : TypeId} {xs xs' : List Value} {w0 : World} (h : w0.ownsRow b t m u n xs) (h' : w.ownsRow b' t' m' v n' xs') (hb : w0.heap.size ≤ b') : Apart u v := fun x hx hy => by
  have h1 := own_in h hx
  have h2 := own_from h' hy
  omega
theorem Lk.snap (k : Lk C now es) {g : Gd} (hg : wfG g) (hn : C.snaps.length < 20) (a : Option Addr) (c : Nat) : Lk (C.put ⟨C.live, g, false⟩) now (es ++ [⟨g, now, a, c, false⟩]) := by
  refine ⟨k.n, k.live, fun s hs => ?_, ?_, k.now, ?_, k.tl, fun s hs => ?_⟩
  · rcases List.mem_append.1 (show s ∈ C.snaps ++ [_] from hs) with hs | hs
    · exact k.wf s hs
    · rw [List.mem_singleton] at hs
      rw [hs]; exact ⟨k.live, hg⟩
  · show (C.snaps ++ [_]).length ≤ 20
    rw [List.length_append]
    exact hn
  · show (es ++ [_]).map _ = (C.snaps ++ [_]).map _
    rw [List.map_append, List.map_append, k.sn]
    show _ ++ [(g, now, false)] = _ ++ [(g, C.live.take C.n, false)]
    rw [k.now]
    rfl
  · rcases List.mem_append.1 (show s ∈ C.snaps ++ [_] from hs) with hs | hs
    · exact k.ts s hs
    · rw [List.mem_singleton] at hs
      rw [hs]; exact k.tl
set_option maxRecDepth 100000 in
set_option maxHeartbeats 1000000 in
theorem snapR_any (h : Rm w B br nv sv now es) (k : Lk C now es) (g : Gd) (hg : wfG g) : Calls Try.prog 40 #[.pointer (some ⟨br, 0, none⟩), aggG g] w (StR w B br (C.next g) (C.snap g)) := by
  have hb0 := (Below.refl w.heap.size w).alloc (Nat.le_refl _) (Obj.cells #[.int .u64 g.1, .int .u64 g.2] 33)
  have HMY := Lib.hid (mayR_any (h.keep hb0) k g)
  obtain ⟨na, nc, sa, sc, rfl, rfl⟩ := h.open_
  have HM0 := Lib.hid h
  have HB := Lib.hid hb0
  have HX0 := Lib.hid (Blk.new w 33 #[.int .u64 g.1, .int .u64 g.2])
  have HK := Lib.hid k
  have HG := Lib.hid hg
  have hsn : C.snap g = if C.next g = 0 then C.put ⟨C.live, g, false⟩ else C := rfl
  have hn0 : C.next g = 0 → C.snaps.length < 20 := fun h => next_zero h
  have hnl : now.length ≤ 1000 := by rw [k.nlen]; have := k.n.2; omega
  have hel := k.elen
  unfold aggG at HMY ⊢
  generalize C.next g = z at *
  have HSN := Lib.hid hsn
  have HN0 := Lib.hid hn0
  obtain ⟨N, hN⟩ : ∃ N, now.length = N := ⟨_, rfl⟩
  obtain ⟨L, hL⟩ : ∃ L, es.length = L := ⟨_, rfl⟩
  have HNL := Lib.hid (And.intro hnl hN)
  have HEL := Lib.hid (And.intro hel hL)
  rw [hN, hL] at HM0
  clear h k hb0 hg hsn hn0 hnl hel hN hL
  go_enter Try.func40, Try.ntmps40
  go_wp2_with fail
  generalize w.alloc (Obj.cells #[.int .u64 g.1, .int .u64 g.2] 33) = w0 at *
  refine HMY.out.mono ?_
  rintro e w1 ⟨rfl, hb⟩
  have HB1 := Lib.hid (HB.out.trans (hb.mono HB.out.size))
  have HM := Lib.hid (HM0.out.keep HB1.out)
  have HX := Lib.hid (HX0.out.keep hb)
  clear hb HMY HX0
  by_cases hz : z = 0
  · subst hz
    have HLL := Lib.hid (show L < 20 ∧ es.length = L from ⟨by rw [← HEL.out.2, HEL.out.1]; exact HN0.out rfl, HEL.out.2⟩)
    go_wp2_with fail
    refine wp_region_chain [10, 12, 13, 16] (kv [(10, .sla N), (12, .sl 1), (13, .sla (L + 1)), (16, .is undef)]) (fun l w2 => match l with | [] => Below w1.heap.size w1 w2 | [u] => Below w1.heap.size w1 w2 ∧ OwT w2 w1.heap.size u now | [u, v] => Below w1.heap.size w1 w2 ∧ OwT w2 w1.heap.size u now ∧ ∃ q, v = .slice (some ⟨q, 0, none⟩) 1 1 ∧ Blk w2 q 88 #[.int .u64 g.1, .int .u64 g.2, u, .bool false] | [u, v, x] => ∃ a c, u = .slice a N c ∧ w2.cell? ⟨br, 1, none⟩ = some (.slice sa L sc) ∧ w2.frozen? ⟨br, 1, none⟩ = false ∧ Rm (w2.setCell ⟨br, 1, none⟩ x) B br (.slice na N nc) x now (es ++ [⟨g, now, a, c, false⟩]) ∧ FR B w1 (w2.setCell ⟨br, 1, none⟩ x) | u :: _ :: x :: _ => ∃ a c, u = .slice a N c ∧ Rm w2 B br (.slice na N nc) x now (es ++ [⟨g, now, a, c, false⟩]) ∧ FR B w1 w2) (by kernel_rfl) (by kernel_rfl) (by kernel_rfl) (kv_inh _) (Below.drew (Below.refl _ _)) ?_
    intro ν hν
    obtain ⟨a10, c10, n10⟩ : ∃ a c, ν 10 = .slice a N c := hν 10
    obtain ⟨g12, n12⟩ : ∃ g, ν 12 = .slice (some ⟨g, 0, none⟩) 1 1 := hν 12
    obtain ⟨a13, c13, n13⟩ : ∃ a c, ν 13 = .slice a (L + 1) c := hν 13
    have n16 : ν 16 = undef := hν 16
    clear hν
    refine ch_plain 0 4 6 (by rfl) rfl (by kernel_rfl) (by kernel_rfl) ?_
    apply Exists.intro
    refine ⟨fun st w2 hlo hhi hJ => ?_, ?_⟩
    · clear hlo hhi hJ
      go_simp
      exact And.intro rfl rfl
    simp only [Act.put, List.setIfInBounds_toArray, List.set_cons_succ, List.set_cons_zero, Nat.reduceAdd]
    refine ch_plain 0 4 6 (by rfl) rfl (by kernel_rfl) (by kernel_rfl) ?_
    apply Exists.intro
    refine ⟨fun st w2 hlo hhi hJ => ?_, ?_⟩
    · clear hlo hhi hJ
      go_simp
      exact And.intro rfl rfl
    simp only [Act.put, List.setIfInBounds_toArray, List.set_cons_succ, List.set_cons_zero, Nat.reduceAdd]
    refine ch_plain 0 4 6 (by rfl) rfl (by kernel_rfl) (by kernel_rfl) ?_
    apply Exists.intro
    refine ⟨fun st w2 hlo hhi hJ => ?_, ?_⟩
    · clear hlo hhi hJ
      go_simp
      exact And.intro rfl rfl
    simp only [Act.put, List.setIfInBounds_toArray, List.set_cons_succ, List.set_cons_zero, Nat.reduceAdd]
    refine ch_plain 0 4 6 (by rfl) rfl (by kernel_rfl) (by kernel_rfl) ?_
    apply Exists.intro
    refine ⟨fun st w2 hlo hhi hJ => ?_, ?_⟩
    · clear hlo hhi hJ
      go_simp
      exact And.intro rfl rfl
    simp only [Act.put, List.setIfInBounds_toArray, List.set_cons_succ, List.set_cons_zero, Nat.reduceAdd]
    refine ch_plain 0 2 6 (by rfl) rfl (by kernel_rfl) (by kernel_rfl) ?_
    apply Exists.intro
    refine ⟨fun st w2 hlo hhi hJ => ?_, ?_⟩
    · have hj : Below w1.heap.size w1 w2 := by
        have q : st = 0 ∨ st = 1 ∨ st = 2 := by omega
        rcases q with rfl | rfl | rfl
        · exact hJ
        · have hj : Below w1.heap.size w1 w2 ∧ _ := hJ
          exact hj.1
        · have hj : Below w1.heap.size w1 w2 ∧ _ := hJ
          exact hj.1
      have x0 := (HM.out.obj.keep hj).cell 0
      have x1 := (HM.out.obj.keep hj).cell 1
      simp at x0 x1
      clear hj
      clear hlo hhi hJ
      go_simp
      exact And.intro rfl rfl
    simp only [Act.put, List.setIfInBounds_toArray, List.set_cons_succ, List.set_cons_zero, Nat.reduceAdd]
    refine ch_plain 0 1 6 (by rfl) rfl (by kernel_rfl) (by kernel_rfl) ?_
    apply Exists.intro
    refine ⟨fun st w2 hlo hhi hJ => ?_, ?_⟩
    · have hj : Below w1.heap.size w1 w2 := by
        have q : st = 0 ∨ st = 1 := by omega
        rcases q with rfl | rfl
        · exact hJ
        · have hj : Below w1.heap.size w1 w2 ∧ _ := hJ
          exact hj.1
      have y0 := (HX.out.keep hj).cell 0
      have y1 := (HX.out.keep hj).cell 1
      simp at y0 y1
      clear hj
      clear hlo hhi hJ
      go_simp
      exact And.intro rfl rfl
    simp only [Act.put, List.setIfInBounds_toArray, List.set_cons_succ, List.set_cons_zero, Nat.reduceAdd]
    refine ch_plain 0 4 6 (by rfl) rfl (by kernel_rfl) (by kernel_rfl) ?_
    apply Exists.intro
    refine ⟨fun st w2 hlo hhi hJ => ?_, ?_⟩
    · clear hlo hhi hJ
      go_simp
      exact And.intro rfl rfl
    simp only [Act.put, List.setIfInBounds_toArray, List.set_cons_succ, List.set_cons_zero, Nat.reduceAdd]
    refine ch_plain 0 4 6 (by rfl) rfl (by kernel_rfl) (by kernel_rfl) ?_
    apply Exists.intro
    refine ⟨fun st w2 hlo hhi hJ => ?_, ?_⟩
    · clear hlo hhi hJ
      go_simp
      exact And.intro rfl rfl
    simp only [Act.put, List.setIfInBounds_toArray, List.set_cons_succ, List.set_cons_zero, Nat.reduceAdd]
    refine ch_plain 0 4 6 (by rfl) rfl (by kernel_rfl) (by kernel_rfl) ?_
    apply Exists.intro
    refine ⟨fun st w2 hlo hhi hJ => ?_, ?_⟩
    · clear hlo hhi hJ
      go_simp
      exact And.intro rfl rfl
    simp only [Act.put, List.setIfInBounds_toArray, List.set_cons_succ, List.set_cons_zero, Nat.reduceAdd]
    refine ch_plain 0 0 6 (by rfl) rfl (by kernel_rfl) (by kernel_rfl) ?_
    apply Exists.intro
    refine ⟨fun st w2 hlo hhi hJ => ?_, ?_⟩
    · have hj : Below w1.heap.size w1 w2 := by
        obtain rfl : st = 0 := by omega
        exact hJ
      have x0 := (HM.out.obj.keep hj).cell 0
      have x1 := (HM.out.obj.keep hj).cell 1
      simp at x0 x1
      clear hj
      clear hlo hhi hJ
      go_simp
      exact And.intro rfl rfl
    simp only [Act.put, List.setIfInBounds_toArray, List.set_cons_succ, List.set_cons_zero, Nat.reduceAdd]
    refine ch_special 0 6 (by rfl) rfl (by decide) (by kernel_rfl) (fun w2 hJ => ?_) ?_
    · have hj : Below w1.heap.size w1 w2 := hJ
      go_simp
      refine (ownR_any w2 _ now (HM.out.now.keep hj).rd HNL.out.1).mono ?_
      rintro e w3 ⟨u, rfl, ho, hb⟩
      obtain ⟨ua, uc, rfl⟩ := ho.slice_
      rw [HNL.out.2] at ho ⊢
      exact ⟨_, rfl, ⟨_, _, rfl⟩, hj.trans (hb.mono hj.size), ho.mono hj.size⟩
    rw [n10]
    simp only [Act.put, List.setIfInBounds_toArray, List.set_cons_succ, List.set_cons_zero, Nat.reduceAdd]
    refine ch_plain 0 4 6 (by rfl) rfl (by kernel_rfl) (by kernel_rfl) ?_
    apply Exists.intro
    refine ⟨fun st w2 hlo hhi hJ => ?_, ?_⟩
    · clear hlo hhi hJ
      go_simp
      exact And.intro rfl rfl
    simp only [Act.put, List.setIfInBounds_toArray, List.set_cons_succ, List.set_cons_zero, Nat.reduceAdd]
    refine ch_special 1 6 (by rfl) rfl (by decide) (by kernel_rfl) (fun w2 hJ => ?_) ?_
    · have hj : Below w1.heap.size w1 w2 ∧ OwT w2 w1.heap.size (ν 10) now := hJ
      rw [n10] at hj
      go_simp
      have hb := (Below.refl w2.heap.size w2).alloc (Nat.le_refl _) (Obj.cells #[.int .u64 g.1, .int .u64 g.2, .slice a10 N c10, .bool false] 88)
      exact ⟨⟨_, rfl⟩, hj.1.trans (hb.mono hj.1.size), hj.2.keep hb, _, rfl, Blk.new _ _ _⟩
    rw [n12]
    simp only [Act.put, List.setIfInBounds_toArray, List.set_cons_succ, List.set_cons_zero, Nat.reduceAdd]
    refine ch_special 2 6 (by rfl) rfl (by decide) (by kernel_rfl) (fun w2 hJ => ?_) ?_
    · have hj : Below w1.heap.size w1 w2 ∧ OwT w2 w1.heap.size (ν 10) now ∧ ∃ q, ν 12 = .slice (some ⟨q, 0, none⟩) 1 1 ∧ Blk w2 q 88 #[.int .u64 g.1, .int .u64 g.2, ν 10, .bool false] := hJ
      rw [n10, n12] at hj
      have hm2 := HM.out.keep hj.1
      have hcells : ((⟨g, now, a10, c10, false⟩ : Rs)).cells.toArray = #[.int .u64 g.1, .int .u64 g.2, .slice a10 N c10, .bool false] := by rw [← HNL.out.2]; rfl
      have hiv : ((⟨g, now, a10, c10, false⟩ : Rs)).iv = .slice a10 N c10 := by show Value.slice a10 now.length c10 = _; rw [HNL.out.2]
      obtain ⟨xa, xc, w', hr, h1, h2, h3, h4⟩ := hm2.put (e := (⟨g, now, a10, c10, false⟩ : Rs)) (u := .slice (some ⟨g12, 0, none⟩) 1 1) 82 (by rw [hcells]; exact hj.2.2) (by rw [hiv]; exact hj.2.1.mono (Nat.le_trans HM.out.base (Nat.le_refl _))) (by rw [hiv]; exact apart_new HM.out.now.1 hj.2.1.1 (Nat.le_refl _)) (by rw [HLL.out.2]; exact HLL.out.1)
      rw [HLL.out.2] at hr h3 h4
      rw [exec_append3 (.tmp 15) (.tmp 23) 82 rfl (.slice sa L sc) (.slice (some ⟨g12, 0, none⟩) 1 1) rfl rfl (.slice xa (L + 1) xc) hr]
      exact ⟨⟨xa, xc, rfl⟩, a10, c10, n10, h1, h2, h3, (FR.of_below hj.1 HM.out.base).trans h4⟩
    rw [n13]
    simp only [Act.put, List.setIfInBounds_toArray, List.set_cons_succ, List.set_cons_zero, Nat.reduceAdd]
    refine ch_plain 0 4 6 (by rfl) rfl (by kernel_rfl) (by kernel_rfl) ?_
    apply Exists.intro
    refine ⟨fun st w2 hlo hhi hJ => ?_, ?_⟩
    · clear hlo hhi hJ
      go_simp
      exact And.intro rfl rfl
    simp only [Act.put, List.setIfInBounds_toArray, List.set_cons_succ, List.set_cons_zero, Nat.reduceAdd]
    refine ch_plain 0 4 6 (by rfl) rfl (by kernel_rfl) (by kernel_rfl) ?_
    apply Exists.intro
    refine ⟨fun st w2 hlo hhi hJ => ?_, ?_⟩
    · clear hlo hhi hJ
      go_simp
      exact And.intro rfl rfl
    simp only [Act.put, List.setIfInBounds_toArray, List.set_cons_succ, List.set_cons_zero, Nat.reduceAdd]
    refine ch_special 3 6 (by rfl) rfl (by decide) (by kernel_rfl) (fun w2 hJ => ?_) ?_
    · have hj : ∃ a c, ν 10 = .slice a N c ∧ w2.cell? ⟨br, 1, none⟩ = some (.slice sa L sc) ∧ w2.frozen? ⟨br, 1, none⟩ = false ∧ Rm (w2.setCell ⟨br, 1, none⟩ (ν 13)) B br (.slice na N nc) (ν 13) now (es ++ [⟨g, now, a, c, false⟩]) ∧ FR B w1 (w2.setCell ⟨br, 1, none⟩ (ν 13)) := hJ
      rw [n13] at hj
      obtain ⟨a, c, e1, h1, h2, h3, h4⟩ := hj
      have H34 := Lib.hid (And.intro h3 h4)
      clear h3 h4 hJ
      go_simp
      exact ⟨rfl, a, c, (by have q := n10.symm.trans e1; simpa [Value.slice.injEq] using q), H34.out.1, H34.out.2⟩
    rw [n16]
    simp only [Act.put, Nat.reduceAdd]
    refine ch_nil (fun w9 hJ => ?_)
    have hj : ∃ a c, ν 10 = .slice a N c ∧ Rm w9 B br (.slice na N nc) (ν 13) now (es ++ [⟨g, now, a, c, false⟩]) ∧ FR B w1 w9 := hJ
    obtain ⟨a, c, -, h1, h2⟩ := hj
    have H9 := Lib.hid (And.intro h1 h2)
    clear hJ h1 h2 n10 n12 n13 n16
    go_wp2
    go_ret
    exact ⟨rfl, ⟨_, _, _, _, H9.out.1, by rw [HSN.out, if_pos trivial]; exact HK.out.snap HG.out (HN0.out trivial) a c⟩, (FR.of_below HB1.out HM0.out.base).trans H9.out.2⟩
  · have e1 : (z == 0) = false := by simpa using hz
    have e2 : decide (z = 0) = false := decide_eq_false hz
    have HZ := Lib.hid hz
    clear hz
    go_wp2
    go_ret
    exact ⟨rfl, by rw [HSN.out, if_neg HZ.out]; exact ⟨_, _, _, _, HM.out, HK.out⟩, FR.of_below HB1.out HM0.out.base⟩
end
end Go.Proofs.Ytjeebpklinpmfaa
