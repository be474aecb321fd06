/-
  MESSAGES: stamp and guid, laying or reading (printed by wip/gen-msgd.py).
-/
import Derived.Test.YtikimmhkfjaijaaMsC
namespace Go.Proofs.Ytikimmhkfjaijaa
open Go.RowKit Reg Go.ChangeShapes

/-- a stamp, as it is laid or read -/
def stF (S : Sf) (n : Int) : Sf × Int := (⟨(numF S.m n.toNat).1, S.bad⟩, wrap64 ((numF S.m n.toNat).2 : Nat))
theorem fstamp_any (w : World) (fb mb : Nat) (S : Sf) (n : Nat) (hF : Fd w fb mb S) (hc : w.cell? ⟨mb, 8, none⟩ = some (.int .i64 (n : Int))) (hn : n < 9223372036854775808) (hp : PtOk w fb S.m mb 8) (hfz : w.frozen? ⟨mb, 8, none⟩ = false) (hsz : S.m.sz ≤ 900000) :
    Calls Try.prog 56 #[.pointer (some ⟨fb, 0, none⟩)] w fun e w' =>
      e = .returned (.tuple #[]) ∧ Kp (Zf fb S.m) (w.setCell ⟨mb, 8, none⟩ (.int .i64 (stF S n).2)) w' ∧ Fd w' fb mb (stF S n).1 := by
  obtain ⟨R, hR⟩ : ∃ R : World → Prop, R = fun w' => Kp (Zf fb S.m) (w.setCell ⟨mb, 8, none⟩ (.int .i64 (stF S n).2)) w' ∧ Fd w' fb mb (stF S n).1 := ⟨_, rfl⟩
  have hgoal : (fun (e : Ending) (w' : World) => e = .returned (.tuple #[]) ∧ Kp (Zf fb S.m) (w.setCell ⟨mb, 8, none⟩ (.int .i64 (stF S n).2)) w' ∧ Fd w' fb mb (stF S n).1) = fun e w' => e = .returned (.tuple #[]) ∧ R w' := by rw [hR]
  rw [hgoal]
  have hlt : mb < w.heap.size := World.block_lt_of_cell? w _ hc
  have hlf := hF.lt
  have hb2 := (Below.refl w.heap.size w).alloc (Nat.le_refl _) (Obj.cells #[.int .u64 (n : Int)] 22)
  have hx2 := Blk.new w 22 #[.int .u64 (n : Int)]
  have hs2 : (w.alloc (.cells #[.int .u64 (n : Int)] 22)).heap.size = w.heap.size + 1 := by simp
  have hN := num1_any _ fb mb S w.heap.size 0 n (hF.keep hb2) (by rw [hx2.cell]; rfl) (by rw [p256]; omega) (pt_of hx2 (Nat.ne_of_gt hlf) (fun h => Nat.lt_irrefl _ (hF.near_lt h))) hsz
  rw [hs2] at hN
  have HN := Lib.hid hN
  have HFIN : Hid (∀ w3, Kp (Zf fb S.m) ((w.alloc (.cells #[.int .u64 (n : Int)] 22)).setCell ⟨w.heap.size, 0, none⟩ (.int .u64 ((numF S.m n).2 : Nat))) w3 → Fd w3 fb mb ⟨(numF S.m n).1, S.bad⟩ →
      Blk w3 w.heap.size 22 #[.int .u64 ((numF S.m n).2 : Nat)] ∧ w3.cell? ⟨mb, 8, none⟩ = some (.int .i64 (n : Int)) ∧ w3.frozen? ⟨mb, 8, none⟩ = false ∧ w3.cell? ⟨fb, 0, none⟩ = some (.pointer (some ⟨mb, 0, none⟩)) ∧
      ∀ w4, Below w3.heap.size w3 w4 → R (w4.setCell ⟨mb, 8, none⟩ (.int .i64 (wrap64 ((numF S.m n).2 : Nat))))) := Lib.hid fun w3 h3 hf3 => by
    have hzx : ¬ Zf fb S.m w.heap.size := fun h => Nat.lt_irrefl _ (Zf_lt hF h)
    have hz := hp.nz
    refine ⟨blk_after h3 hx2 hzx, cells_other h3 hz (cell_later hb2 hc) (.inl (Nat.ne_of_gt hlt)), ?_, by rw [hf3.1.cell]; rfl, fun w4 h4 => ?_⟩
    · rw [frozen_after h3 hz (Nat.lt_of_lt_of_le hlt hb2.size)]
      exact (World.frozen?_of_block (a := ⟨mb, 8, none⟩) (hb2.block mb hlt)).trans hfz
    · rw [hR]
      have hk : Kp (Zf fb S.m) w w4 := (((Kp.of_below hb2).fresh (p := ⟨w.heap.size, 0, none⟩) (Nat.le_refl _) _).trans h3).trans (Kp.of_below h4)
      refine ⟨hk.both _ _, ?_⟩
      obtain ⟨g1, g2, g3⟩ := hf3.keep h4
      refine ⟨g1.far (by exact hp.ne.symm) _, ?_, g3⟩
      refine Md.ok_kp (A := fun b => b = mb) g2 (Kp.at _ _ _) (fun b hb e => ?_)
      have hb : (numF S.m n).1.near b := hb
      rw [numF_near] at hb
      exact hp.far (e ▸ hb)
  have c1 : w.cell? ⟨fb, 0, none⟩ = some (.pointer (some ⟨mb, 0, none⟩)) := by rw [hF.1.cell]; rfl
  have hu : IntKind.u64.wrap (n : Int) = (n : Int) := IntWalk.u64_in _ (by omega)
  clear hF hp hfz hsz hlt hlf hgoal hR hb2 hx2 hs2 hN hn
  generalize hq : (numF S.m n).2 = q at *
  clear hq
  go_enter Try.func56, Try.ntmps56
  go_wp2_with fail
  refine HN.out.mono ?_
  rintro e w3 ⟨rfl, h3, hf3⟩
  obtain ⟨x3, y3, y3f, c3, hr⟩ := HFIN.out w3 h3 hf3
  have HX := Lib.hid x3
  have HC3 := Lib.hid c3
  have HY3 := Lib.hid (And.intro y3 y3f)
  have HR := Lib.hid hr
  clear h3 hf3 hr hc c1 hu x3 y3 y3f c3
  go_wp2_with fail
  refine wp_region_chain [8] (kv [(8, .is undef)]) (fun l w2 => match l with | [] => Below w3.heap.size w3 w2 | _ => ∃ w4, Below w3.heap.size w3 w4 ∧ w2 = w4.setCell ⟨mb, 8, none⟩ (.int .i64 (wrap64 (q : Int)))) (by kernel_rfl) (by kernel_rfl) (by kernel_rfl) (kv_inh _) (Below.drew (Below.refl _ _)) ?_
  intro ν hν
  have n8 : ν 8 = undef := hν 8
  clear hν
  refine ch_plain 0 1 6 (by rfl) rfl (by kernel_rfl) (by kernel_rfl) ?_
  apply Exists.intro
  refine ⟨fun st w2 hlo hhi hJ => ?_, ?_⟩
  · clear hlo hhi hJ
    go_simp
    exact And.intro rfl rfl
  simp only [Act.put, List.setIfInBounds_toArray, List.set_cons_succ, List.set_cons_zero, Nat.reduceAdd]
  refine ch_plain 0 1 6 (by rfl) rfl (by kernel_rfl) (by kernel_rfl) ?_
  apply Exists.intro
  refine ⟨fun st w2 hlo hhi hJ => ?_, ?_⟩
  · clear hlo hhi hJ
    go_simp
    exact And.intro rfl rfl
  simp only [Act.put, List.setIfInBounds_toArray, List.set_cons_succ, List.set_cons_zero, Nat.reduceAdd]
  refine ch_plain 0 1 6 (by rfl) rfl (by kernel_rfl) (by kernel_rfl) ?_
  apply Exists.intro
  refine ⟨fun st w2 hlo hhi hJ => ?_, ?_⟩
  · clear hlo hhi hJ
    go_simp
    exact And.intro rfl rfl
  simp only [Act.put, List.setIfInBounds_toArray, List.set_cons_succ, List.set_cons_zero, Nat.reduceAdd]
  refine ch_plain 0 0 6 (by rfl) rfl (by kernel_rfl) (by kernel_rfl) ?_
  apply Exists.intro
  refine ⟨fun st w2 hlo hhi hJ => ?_, ?_⟩
  · have hj : Below w3.heap.size w3 w2 := by
      obtain rfl : st = 0 := by omega
      exact hJ
    have y1 := cell_later hj HC3.out
    clear hj
    clear hlo hhi hJ
    go_simp
    exact And.intro rfl rfl
  simp only [Act.put, List.setIfInBounds_toArray, List.set_cons_succ, List.set_cons_zero, Nat.reduceAdd]
  refine ch_plain 0 0 6 (by rfl) rfl (by kernel_rfl) (by kernel_rfl) ?_
  apply Exists.intro
  refine ⟨fun st w2 hlo hhi hJ => ?_, ?_⟩
  · have hj : Below w3.heap.size w3 w2 := by
      obtain rfl : st = 0 := by omega
      exact hJ
    have y1 := (HX.out.keep hj).cell 0
    simp at y1
    clear hj
    clear hlo hhi hJ
    go_simp
    exact And.intro rfl rfl
  simp only [Act.put, List.setIfInBounds_toArray, List.set_cons_succ, List.set_cons_zero, Nat.reduceAdd]
  refine ch_plain 0 1 6 (by rfl) rfl (by kernel_rfl) (by kernel_rfl) ?_
  apply Exists.intro
  refine ⟨fun st w2 hlo hhi hJ => ?_, ?_⟩
  · clear hlo hhi hJ
    go_simp
    exact And.intro rfl rfl
  simp only [Act.put, List.setIfInBounds_toArray, List.set_cons_succ, List.set_cons_zero, Nat.reduceAdd]
  refine ch_plain 0 1 6 (by rfl) rfl (by kernel_rfl) (by kernel_rfl) ?_
  apply Exists.intro
  refine ⟨fun st w2 hlo hhi hJ => ?_, ?_⟩
  · clear hlo hhi hJ
    go_simp
    exact And.intro rfl rfl
  simp only [Act.put, List.setIfInBounds_toArray, List.set_cons_succ, List.set_cons_zero, Nat.reduceAdd]
  refine ch_plain 0 1 6 (by rfl) rfl (by kernel_rfl) (by kernel_rfl) ?_
  apply Exists.intro
  refine ⟨fun st w2 hlo hhi hJ => ?_, ?_⟩
  · clear hlo hhi hJ
    go_simp
    exact And.intro rfl rfl
  simp only [Act.put, List.setIfInBounds_toArray, List.set_cons_succ, List.set_cons_zero, Nat.reduceAdd]
  refine ch_special 0 6 (by rfl) rfl (by decide) (by kernel_rfl) (fun w2 hJ => ?_) ?_
  · have hj : Below w3.heap.size w3 w2 := hJ
    have y1 := cell_later hj HY3.out.1
    have y2 : w2.frozen? ⟨mb, 8, none⟩ = false := (World.frozen?_of_block (a := ⟨mb, 8, none⟩) (hj.block mb (World.block_lt_of_cell? w3 _ HY3.out.1))).trans HY3.out.2
    go_simp
    rw [IntWalk.i64_left]
    exact ⟨rfl, w2, hj, rfl⟩
  rw [n8]
  simp only [Act.put, Nat.reduceAdd]
  refine ch_nil (fun w5 hJ => ?_)
  obtain ⟨w4, hb4, hw5⟩ : ∃ w4, Below w3.heap.size w3 w4 ∧ w5 = w4.setCell ⟨mb, 8, none⟩ (.int .i64 (wrap64 (q : Int))) := hJ
  clear n8
  subst hw5
  go_wp2
  refine bodyPost_end (results_none rfl _ _ _) rfl ?_
  exact ⟨rfl, HR.out w4 hb4⟩
/-- a guid, as it is laid or read -/
def gdF (S : Sf) (a b : Nat) : Sf × (Nat × Nat) := (⟨(numF (numF S.m a).1 b).1, S.bad⟩, ((numF S.m a).2, (numF (numF S.m a).1 b).2))
theorem fguid_any (w : World) (fb mb : Nat) (S : Sf) (p o x y : Nat) (hF : Fd w fb mb S) (hc : w.cell? ⟨p, o, none⟩ = some (.int .u64 (x : Int))) (hc2 : w.cell? ⟨p, o + 1, none⟩ = some (.int .u64 (y : Int))) (hx : x < 256 ^ 8) (hy : y < 256 ^ 8) (hp : PtOk w fb S.m p o) (hp2 : PtOk w fb S.m p (o + 1)) (hsz : S.m.sz ≤ 900000) :
    Calls Try.prog 57 #[.pointer (some ⟨fb, 0, none⟩), .pointer (some ⟨p, o, none⟩)] w fun e w' =>
      e = .returned (.tuple #[]) ∧ Kp (Zf fb S.m) ((w.setCell ⟨p, o, none⟩ (.int .u64 ((gdF S x y).2.1 : Nat))).setCell ⟨p, o + 1, none⟩ (.int .u64 ((gdF S x y).2.2 : Nat))) w' ∧ Fd w' fb mb (gdF S x y).1 := by
  obtain ⟨R, hR⟩ : ∃ R : World → Prop, R = fun w' => Kp (Zf fb S.m) ((w.setCell ⟨p, o, none⟩ (.int .u64 ((gdF S x y).2.1 : Nat))).setCell ⟨p, o + 1, none⟩ (.int .u64 ((gdF S x y).2.2 : Nat))) w' ∧ Fd w' fb mb (gdF S x y).1 := ⟨_, rfl⟩
  have hgoal : (fun (e : Ending) (w' : World) => e = .returned (.tuple #[]) ∧ Kp (Zf fb S.m) ((w.setCell ⟨p, o, none⟩ (.int .u64 ((gdF S x y).2.1 : Nat))).setCell ⟨p, o + 1, none⟩ (.int .u64 ((gdF S x y).2.2 : Nat))) w' ∧ Fd w' fb mb (gdF S x y).1) = fun e w' => e = .returned (.tuple #[]) ∧ R w' := by rw [hR]
  rw [hgoal]
  have HN : Hid (∀ (la : Nat) (w1 : World), Below w.heap.size w w1 → w.heap.size ≤ la → Blk w1 la 85 #[.pointer (some ⟨p, o, none⟩), .pointer (some ⟨p, o + 1, none⟩)] →
      Calls Try.prog 36 #[.pointer (some ⟨fb, 0, none⟩), .slice (some ⟨la, 0, none⟩) 2 2] w1 fun e w' => e = .returned (.tuple #[]) ∧ R w') := Lib.hid fun la w1 hb hla hA => by
    rw [hR]
    exact num2_any w fb mb S p o x y hF hc hc2 hx hy hp hp2 hsz la w1 hb hla hA
  clear hF hc hc2 hx hy hp hp2 hsz hgoal hR
  go_enter Try.func57, Try.ntmps57
  go_wp2_with fail
  refine wp_region_chain [7, 8] (kv [(7, .sl 2), (8, .is (.tuple #[]))]) (fun l w2 => match l with | [] => Below w.heap.size w w2 | [u] => Below w.heap.size w w2 ∧ ∃ la, u = .slice (some ⟨la, 0, none⟩) 2 2 ∧ w.heap.size ≤ la ∧ Blk w2 la 85 #[.pointer (some ⟨p, o, none⟩), .pointer (some ⟨p, o + 1, none⟩)] | _ => R w2) (by kernel_rfl) (by kernel_rfl) (by kernel_rfl) (kv_inh _) (Below.drew (Below.refl _ _)) ?_
  intro ν hν
  obtain ⟨g7, n7⟩ : ∃ g, ν 7 = .slice (some ⟨g, 0, none⟩) 2 2 := hν 7
  have n8 : ν 8 = .tuple #[] := hν 8
  clear hν
  refine ch_plain 0 2 6 (by rfl) rfl (by kernel_rfl) (by kernel_rfl) ?_
  apply Exists.intro
  refine ⟨fun st w2 hlo hhi hJ => ?_, ?_⟩
  · clear hlo hhi hJ
    go_simp
    exact And.intro rfl rfl
  simp only [Act.put, List.setIfInBounds_toArray, List.set_cons_succ, List.set_cons_zero, Nat.reduceAdd]
  refine ch_plain 0 2 6 (by rfl) rfl (by kernel_rfl) (by kernel_rfl) ?_
  apply Exists.intro
  refine ⟨fun st w2 hlo hhi hJ => ?_, ?_⟩
  · clear hlo hhi hJ
    go_simp
    exact And.intro rfl rfl
  simp only [Act.put, List.setIfInBounds_toArray, List.set_cons_succ, List.set_cons_zero, Nat.reduceAdd]
  refine ch_plain 0 2 6 (by rfl) rfl (by kernel_rfl) (by kernel_rfl) ?_
  apply Exists.intro
  refine ⟨fun st w2 hlo hhi hJ => ?_, ?_⟩
  · clear hlo hhi hJ
    go_simp
    exact And.intro rfl rfl
  simp only [Act.put, List.setIfInBounds_toArray, List.set_cons_succ, List.set_cons_zero, Nat.reduceAdd]
  refine ch_plain 0 2 6 (by rfl) rfl (by kernel_rfl) (by kernel_rfl) ?_
  apply Exists.intro
  refine ⟨fun st w2 hlo hhi hJ => ?_, ?_⟩
  · clear hlo hhi hJ
    go_simp
    exact And.intro rfl rfl
  simp only [Act.put, List.setIfInBounds_toArray, List.set_cons_succ, List.set_cons_zero, Nat.reduceAdd]
  refine ch_plain 0 2 6 (by rfl) rfl (by kernel_rfl) (by kernel_rfl) ?_
  apply Exists.intro
  refine ⟨fun st w2 hlo hhi hJ => ?_, ?_⟩
  · clear hlo hhi hJ
    go_simp
    exact And.intro rfl rfl
  simp only [Act.put, List.setIfInBounds_toArray, List.set_cons_succ, List.set_cons_zero, Nat.reduceAdd]
  refine ch_plain 0 2 6 (by rfl) rfl (by kernel_rfl) (by kernel_rfl) ?_
  apply Exists.intro
  refine ⟨fun st w2 hlo hhi hJ => ?_, ?_⟩
  · clear hlo hhi hJ
    go_simp
    exact And.intro rfl rfl
  simp only [Act.put, List.setIfInBounds_toArray, List.set_cons_succ, List.set_cons_zero, Nat.reduceAdd]
  refine ch_plain 0 2 6 (by rfl) rfl (by kernel_rfl) (by kernel_rfl) ?_
  apply Exists.intro
  refine ⟨fun st w2 hlo hhi hJ => ?_, ?_⟩
  · clear hlo hhi hJ
    go_simp
    exact And.intro rfl rfl
  simp only [Act.put, List.setIfInBounds_toArray, List.set_cons_succ, List.set_cons_zero, Nat.reduceAdd]
  refine ch_special 0 6 (by rfl) rfl (by decide) (by kernel_rfl) (fun w2 hJ => ?_) ?_
  · have hj : Below w.heap.size w w2 := hJ
    go_simp
    exact ⟨⟨_, rfl⟩, hj.alloc hj.size _, _, rfl, hj.size, Blk.new _ _ _⟩
  rw [n7]
  simp only [Act.put, List.setIfInBounds_toArray, List.set_cons_succ, List.set_cons_zero, Nat.reduceAdd]
  refine ch_special 1 6 (by rfl) rfl (by decide) (by kernel_rfl) (fun w2 hJ => ?_) ?_
  · have hj : Below w.heap.size w w2 ∧ ∃ la, ν 7 = .slice (some ⟨la, 0, none⟩) 2 2 ∧ w.heap.size ≤ la ∧ Blk w2 la 85 #[.pointer (some ⟨p, o, none⟩), .pointer (some ⟨p, o + 1, none⟩)] := hJ
    rw [n7] at hj
    obtain ⟨h1, la, hla, h2, h3⟩ := hj
    simp only [Value.slice.injEq, Option.some.injEq, Addr.mk.injEq, and_true] at hla
    obtain rfl := hla
    go_simp
    refine (HN.out g7 w2 h1 h2 h3).mono ?_
    rintro e w3 ⟨rfl, hr⟩
    exact ⟨_, rfl, rfl, hr⟩
  rw [n8]
  simp only [Act.put, Nat.reduceAdd]
  refine ch_nil (fun w9 hJ => ?_)
  have hR9 : R w9 := hJ
  clear hJ n7 n8
  go_wp2
  refine bodyPost_end (results_none rfl _ _ _) rfl ?_
  exact ⟨rfl, hR9⟩
end Go.Proofs.Ytikimmhkfjaijaa
