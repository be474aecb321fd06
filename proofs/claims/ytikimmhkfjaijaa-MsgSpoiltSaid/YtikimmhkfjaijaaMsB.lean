/-
  MESSAGES: ints, yes, stamp and guid, laying or reading (printed by wip/gen-msgb.py).
-/
import Derived.Test.YtikimmhkfjaijaaMsA
namespace Go.Proofs.Ytikimmhkfjaijaa
open Go.RowKit Reg Go.ChangeShapes

theorem p256 : (256 : Nat) ^ 8 = 18446744073709551616 := by decide
theorem Md.near_lt {w : World} {m : Md} {b : Nat} (h : m.ok w) (hn : m.near b) : b < w.heap.size := by
  cases m with
  | lay s => exact hn.elim
  | rd r st => have := Rdr.lt h; rcases hn with e | e <;> omega
theorem Kp.fresh {A : Nat → Prop} {a b : World} {p : Addr} (h : Kp A a b) (hp : a.heap.size ≤ p.block) (u : Value) : Kp A a (b.setCell p u) :=
  ⟨h.1.setCell (Nat.zero_le _) u, fun i hi hA => (Below.heap_setCell b p u i (fun e => by omega)).trans (h.2 i hi hA)⟩
theorem Kp.grow {A : Nat → Prop} {a b : World} (h : Kp A a b) (o : Obj) : Kp A a (b.alloc o) := h.trans (Kp.of_below ((Below.refl _ _).alloc (Nat.le_refl _) o))
theorem Kp.drew {A : Nat → Prop} {a b : World} (h : Kp A a b) : Kp A a b.drew := ⟨h.1.drew, h.2⟩
theorem Fd.lt {w : World} {fb mb : Nat} {S : Sf} (h : Fd w fb mb S) : fb < w.heap.size := h.1.lt
theorem Fd.near_lt {w : World} {fb mb : Nat} {S : Sf} (h : Fd w fb mb S) {b : Nat} (hb : S.m.near b) : b < w.heap.size := Md.near_lt h.2.1 hb
theorem Zf_lt {w : World} {fb mb : Nat} {S : Sf} (h : Fd w fb mb S) {b : Nat} (hb : Zf fb S.m b) : b < w.heap.size := by
  rcases hb with e | e
  · rw [e]; exact h.lt
  · exact h.near_lt (at_near e)
/-- what is asked of a pointer -/
structure PtOk (w : World) (fb : Nat) (m : Md) (p o : Nat) : Prop where
  ne : p ≠ fb
  far : ¬ m.near p
  free : m.isRd = true → w.frozen? ⟨p, o, none⟩ = false
theorem PtOk.nz {w : World} {fb : Nat} {m : Md} {p o : Nat} (h : PtOk w fb m p o) : ¬ Zf fb m p := fun hz => by
  rcases hz with e | e
  · exact h.ne e
  · exact h.far (at_near e)
theorem pt_of {w : World} {fb p o : Nat} {m : Md} {t : TypeId} {cs : Array Value} (hb : Blk w p t cs) (h1 : p ≠ fb) (h2 : ¬ m.near p) : PtOk w fb m p o := ⟨h1, h2, fun _ => hb.frozen o⟩
/-- nums of one pointer, in a slice that has just been laid -/
theorem num1_any (w : World) (fb mb : Nat) (S : Sf) (p o x : Nat) (hF : Fd w fb mb S) (hc : w.cell? ⟨p, o, none⟩ = some (.int .u64 (x : Int))) (hx : x < 256 ^ 8) (hp : PtOk w fb S.m p o) (hsz : S.m.sz ≤ 900000) :
    Calls Try.prog 36 #[.pointer (some ⟨fb, 0, none⟩), .slice (some ⟨w.heap.size, 0, none⟩) 1 1] (w.alloc (.cells #[.pointer (some ⟨p, o, none⟩)] 85)) fun e w' =>
      e = .returned (.tuple #[]) ∧ Kp (Zf fb S.m) (w.setCell ⟨p, o, none⟩ (.int .u64 ((numF S.m x).2 : Nat))) w' ∧ Fd w' fb mb ⟨(numF S.m x).1, S.bad⟩ := by
  have hlt : p < w.heap.size := World.block_lt_of_cell? w _ hc
  have hb := (Below.refl w.heap.size w).alloc (Nat.le_refl _) (Obj.cells #[.pointer (some ⟨p, o, none⟩)] 85)
  refine (fnums_any _ fb mb w.heap.size S [(p, o)] [x] (hF.keep hb) (by exact Blk.new _ _ _) ⟨rfl, ?_, ?_, ?_, ?_⟩ (Nat.ne_of_gt hF.lt) (fun h => Nat.lt_irrefl _ (hF.near_lt h)) (by simp; omega)).mono ?_
  · intro j hj
    obtain rfl : j = 0 := by simpa using hj
    exact ⟨cell_later hb hc, hx, by simp only [World.alloc, Array.size_push]; exact Nat.lt_succ_of_lt hlt⟩
  · intro j hj
    obtain rfl : j = 0 := by simpa using hj
    exact ⟨hp.ne, Nat.ne_of_lt hlt, hp.far⟩
  · intro hr j hj
    obtain rfl : j = 0 := by simpa using hj
    have := hp.free hr
    rw [← this]
    exact World.frozen?_of_block (hb.block p hlt)
  · intro i j h1 h2
    simp at h2
    omega
  · rintro e w' ⟨rfl, h1, h2⟩
    exact ⟨rfl, ((Kp.of_below hb).both _ _).trans h1, h2⟩
/-- nums of two pointers side by side -/
theorem num2_any (w : World) (fb mb : Nat) (S : Sf) (p o x y : Nat) (hF : Fd w fb mb S) (hc : w.cell? ⟨p, o, none⟩ = some (.int .u64 (x : Int))) (hc2 : w.cell? ⟨p, o + 1, none⟩ = some (.int .u64 (y : Int))) (hx : x < 256 ^ 8) (hy : y < 256 ^ 8) (hp : PtOk w fb S.m p o) (hp2 : PtOk w fb S.m p (o + 1)) (hsz : S.m.sz ≤ 900000)
    (la : Nat) (w1 : World) (hb : Below w.heap.size w w1) (hla : w.heap.size ≤ la) (hA : Blk w1 la 85 #[.pointer (some ⟨p, o, none⟩), .pointer (some ⟨p, o + 1, none⟩)]) :
    Calls Try.prog 36 #[.pointer (some ⟨fb, 0, none⟩), .slice (some ⟨la, 0, none⟩) 2 2] w1 fun e w' =>
      e = .returned (.tuple #[]) ∧ Kp (Zf fb S.m) ((w.setCell ⟨p, o, none⟩ (.int .u64 ((numF S.m x).2 : Nat))).setCell ⟨p, o + 1, none⟩ (.int .u64 ((numF (numF S.m x).1 y).2 : Nat))) w' ∧ Fd w' fb mb ⟨(numF (numF S.m x).1 y).1, S.bad⟩ := by
  have hlt : p < w.heap.size := World.block_lt_of_cell? w _ hc
  have hfl := hF.lt
  refine (fnums_any _ fb mb la S [(p, o), (p, o + 1)] [x, y] (hF.keep hb) hA ⟨rfl, ?_, ?_, ?_, ?_⟩ (by omega) (fun h => by have := hF.near_lt h; omega) (by simp; omega)).mono ?_
  · intro j hj
    have hj2 : j = 0 ∨ j = 1 := by simp at hj; omega
    have hs : p < w1.heap.size := Nat.lt_of_lt_of_le hlt hb.size
    rcases hj2 with rfl | rfl
    · exact ⟨cell_later hb hc, hx, hs⟩
    · exact ⟨cell_later hb hc2, hy, hs⟩
  · intro j hj
    have hj2 : j = 0 ∨ j = 1 := by simp at hj; omega
    have hpl : p ≠ la := by omega
    rcases hj2 with rfl | rfl
    · exact ⟨hp.ne, hpl, hp.far⟩
    · exact ⟨hp.ne, hpl, hp.far⟩
  · intro hr j hj
    have hj2 : j = 0 ∨ j = 1 := by simp at hj; omega
    rcases hj2 with rfl | rfl
    · exact (World.frozen?_of_block (a := ⟨p, o, none⟩) (hb.block p hlt)).trans (hp.free hr)
    · exact (World.frozen?_of_block (a := ⟨p, o + 1, none⟩) (hb.block p hlt)).trans (hp2.free hr)
  · intro i j h1 h2
    have h3 : i = 0 ∧ j = 1 := by simp at h2; omega
    obtain ⟨rfl, rfl⟩ := h3
    simp
  · rintro e w' ⟨rfl, h1, h2⟩
    exact ⟨rfl, (((Kp.of_below hb).both _ _).both _ _).trans h1, h2⟩
/-- an int, as it is laid or read -/
def intF (S : Sf) (n : Int) : Sf × Int := (⟨(numF S.m n.toNat).1, S.bad || decide (8192 < (numF S.m n.toNat).2)⟩, wrap64 ((numF S.m n.toNat).2 : Nat))
theorem cells_after {A : Nat → Prop} {w w' : World} {p o : Nat} {u v : Value} (h : Kp A (w.setCell ⟨p, o, none⟩ u) w') (hA : ¬ A p) (hc : w.cell? ⟨p, o, none⟩ = some v) : w'.cell? ⟨p, o, none⟩ = some u := by
  rw [World.cell?_of_block (a := ⟨p, o, none⟩) (h.2 p (by rw [setCell_size]; exact World.block_lt_of_cell? w _ hc) hA)]
  exact World.cell?_setCell_same _ _ _ hc
theorem cells_other {A : Nat → Prop} {w w' : World} {p o p' o' : Nat} {u v : Value} (h : Kp A (w.setCell ⟨p, o, none⟩ u) w') (hA : ¬ A p') (hc : w.cell? ⟨p', o', none⟩ = some v) (hne : p ≠ p' ∨ o ≠ o') : w'.cell? ⟨p', o', none⟩ = some v := by
  rw [World.cell?_of_block (a := ⟨p', o', none⟩) (h.2 p' (by rw [setCell_size]; exact World.block_lt_of_cell? w _ hc) hA)]
  rw [World.cell?_setCell_other _ _ _ _ (fun e => by
    simp only [Addr.mk.injEq] at e
    omega)]
  exact hc
theorem frozen_after {A : Nat → Prop} {w w' : World} {p o p' o' : Nat} {u : Value} (h : Kp A (w.setCell ⟨p, o, none⟩ u) w') (hA : ¬ A p') (hl : p' < w.heap.size) : w'.frozen? ⟨p', o', none⟩ = w.frozen? ⟨p', o', none⟩ := by
  rw [World.frozen?_of_block (a := ⟨p', o', none⟩) (h.2 p' (by rw [setCell_size]; exact hl) hA), World.frozen?_setCell]
theorem blk_after {A : Nat → Prop} {w w' : World} {p o : Nat} {u : Value} {t : TypeId} {cs : Array Value} (h : Kp A (w.setCell ⟨p, o, none⟩ u) w') (hb : Blk w p t cs) (hA : ¬ A p) : Blk w' p t (cs.setIfInBounds o u) := h.blk (hb.set o u) hA
/-- ints of one pointer -/
theorem fints_any (w : World) (fb mb : Nat) (S : Sf) (p o n : Nat) (hF : Fd w fb mb S) (hc : w.cell? ⟨p, o, none⟩ = some (.int .i64 (n : Int))) (hn : n ≤ 8192) (hp : PtOk w fb S.m p o) (hfz : w.frozen? ⟨p, o, none⟩ = false) (hsz : S.m.sz ≤ 900000) :
    Calls Try.prog 22 #[.pointer (some ⟨fb, 0, none⟩), .slice (some ⟨w.heap.size, 0, none⟩) 1 1] (w.alloc (.cells #[.pointer (some ⟨p, o, none⟩)] 70)) fun e w' =>
      e = .returned (.tuple #[]) ∧ Kp (Zf fb S.m) (w.setCell ⟨p, o, none⟩ (.int .i64 (intF S n).2)) w' ∧ Fd w' fb mb (intF S n).1 := by
  obtain ⟨R, hR⟩ : ∃ R : World → Prop, R = fun w' => Kp (Zf fb S.m) (w.setCell ⟨p, o, none⟩ (.int .i64 (intF S n).2)) w' ∧ Fd w' fb mb (intF S n).1 := ⟨_, rfl⟩
  have hlt : p < w.heap.size := World.block_lt_of_cell? w _ hc
  have hb := (Below.refl w.heap.size w).alloc (Nat.le_refl _) (Obj.cells #[.pointer (some ⟨p, o, none⟩)] 70)
  have hla := Blk.new w 70 #[.pointer (some ⟨p, o, none⟩)]
  obtain ⟨la, hLA⟩ : ∃ la, la = w.heap.size := ⟨_, rfl⟩
  have hsz1 : (w.alloc (.cells #[.pointer (some ⟨p, o, none⟩)] 70)).heap.size = w.heap.size + 1 := by simp
  rw [← hLA] at hla ⊢
  obtain ⟨w1, hw1⟩ : ∃ w1, w1 = w.alloc (.cells #[.pointer (some ⟨p, o, none⟩)] 70) := ⟨_, rfl⟩
  rw [← hw1] at hb hla hsz1 ⊢
  have hgoal : (fun (e : Ending) (w' : World) => e = .returned (.tuple #[]) ∧ Kp (Zf fb S.m) (w.setCell ⟨p, o, none⟩ (.int .i64 (intF S n).2)) w' ∧ Fd w' fb mb (intF S n).1) = fun e w' => e = .returned (.tuple #[]) ∧ R w' := by rw [hR]
  rw [hgoal]
  have hF1 := hF.keep hb
  have hc1 := cell_later hb hc
  have hfz1 : w1.frozen? ⟨p, o, none⟩ = false := (World.frozen?_of_block (a := ⟨p, o, none⟩) (hb.block p hlt)).trans hfz
  have hne : p ≠ fb := hp.ne
  obtain ⟨w2, hw2⟩ : ∃ w2, w2 = w1.alloc (.cells #[.int .u64 (n : Int)] 22) := ⟨_, rfl⟩
  have hb2 : Below w1.heap.size w1 w2 := by rw [hw2]; exact (Below.refl _ _).alloc (Nat.le_refl _) _
  have hx2 : Blk w2 w1.heap.size 22 #[.int .u64 (n : Int)] := by rw [hw2]; exact Blk.new _ _ _
  have hF2 := hF1.keep hb2
  have hfb2 := hF1.lt
  have hN := num1_any w2 fb mb S w1.heap.size 0 n hF2 (by rw [hx2.cell]; rfl) (by rw [p256]; omega) (pt_of hx2 (Nat.ne_of_gt hfb2) (fun h => Nat.lt_irrefl _ (hF1.near_lt h))) hsz
  -- behind nums
  have HFIN : Hid (∀ w3, Kp (Zf fb S.m) (w2.setCell ⟨w1.heap.size, 0, none⟩ (.int .u64 ((numF S.m n).2 : Nat))) w3 → Fd w3 fb mb ⟨(numF S.m n).1, S.bad⟩ →
      Blk w3 w1.heap.size 22 #[.int .u64 ((numF S.m n).2 : Nat)] ∧ w3.cell? ⟨p, o, none⟩ = some (.int .i64 (n : Int)) ∧ w3.frozen? ⟨p, o, none⟩ = false ∧ w3.cell? ⟨la, 0, none⟩ = some (.pointer (some ⟨p, o, none⟩)) ∧
      R ((w3.setCell ⟨fb, 3, none⟩ (.bool (intF S n).1.bad)).setCell ⟨p, o, none⟩ (.int .i64 (intF S n).2))) := Lib.hid fun w3 h1 h2 => by
    have hzx : ¬ Zf fb S.m w1.heap.size := fun h => Nat.lt_irrefl _ (Zf_lt hF1 h)
    have hz := hp.nz
    have hp1 : p < w1.heap.size := Nat.lt_of_lt_of_le hlt hb.size
    refine ⟨blk_after h1 hx2 hzx, cells_other h1 hz (cell_later hb2 hc1) (.inl (Nat.ne_of_gt hp1)), ?_, cells_other h1 (fun h => ?_) (cell_later hb2 (by rw [hla.cell]; rfl)) (.inl (by omega)), ?_⟩
    · rw [frozen_after h1 hz (Nat.lt_of_lt_of_le hp1 hb2.size)]
      exact (World.frozen?_of_block (a := ⟨p, o, none⟩) (hb2.block p hp1)).trans hfz1
    · have := Zf_lt hF h; omega
    · rw [hR]
      have hk : Kp (Zf fb S.m) w w3 := (((Kp.of_below hb).trans (Kp.of_below hb2)).fresh (p := ⟨w1.heap.size, 0, none⟩) hb.size _).trans h1
      have hnear : (numF S.m n).1.near = S.m.near := numF_near _ _
      refine ⟨(hk.set (A := Zf fb S.m) (p := ⟨fb, 3, none⟩) (.inl rfl) _).both _ _, ?_⟩
      obtain ⟨g1, g2, g3⟩ := h2
      refine ⟨((g1.set 3 _).far (by exact hne.symm) _), ?_, g3⟩
      have hfn : ¬ S.m.near fb := hF.2.2
      refine Md.ok_kp (A := fun b => b = p) (Md.ok_kp (A := fun b => b = fb) g2 (Kp.at _ _ _) (fun b hb e => ?_)) (Kp.at _ _ _) (fun b hb e => ?_)
      · have hb : (numF S.m n).1.near b := hb
        rw [hnear] at hb
        exact hfn (e ▸ hb)
      · have hb : (intF S n).1.m.near b := hb
        have hb : (numF S.m n).1.near b := hb
        rw [hnear] at hb
        exact hp.far (e ▸ hb)
  have hRn : (intF S n).2 = wrap64 ((numF S.m n).2 : Nat) := rfl
  have hRb : (intF S n).1.bad = (S.bad || decide (8192 < (numF S.m n).2)) := rfl
  have hfd2 : ∀ w3, Fd w3 fb mb ⟨(numF S.m n).1, S.bad⟩ → w3.cell? ⟨fb, 3, none⟩ = some (.bool S.bad) ∧ w3.frozen? ⟨fb, 3, none⟩ = false := fun w3 h => ⟨by rw [h.1.cell]; rfl, h.1.frozen 3⟩
  have hsw2 : w2.heap.size = w1.heap.size + 1 := by rw [hw2]; simp
  rw [hsw2] at hN
  have HN := Lib.hid hN
  have HFD := Lib.hid hfd2
  have c0 : w1.cell? ⟨la, 0, none⟩ = some (.pointer (some ⟨p, o, none⟩)) := by rw [hla.cell]; rfl
  have hu : IntKind.u64.wrap (n : Int) = (n : Int) := IntWalk.u64_in _ (by omega)
  rw [hRn, hRb] at HFIN
  have HQ : Hid ((numF S.m n).2 < 18446744073709551616) := Lib.hid (p256 ▸ numF_lt S.m n (by rw [p256]; omega))
  clear hRn hRb hfd2 hN hx2 hF2 hfb2 hb2 hgoal hF1 hfz1 hF hc hp hfz hlt hb hla hR hn hsz hw1 hLA hsz1 hsw2
  subst hw2
  generalize hq : (numF S.m n).2 = q at *
  clear hq
  generalize S.bad = sb at *
  go_enter Try.func22, Try.ntmps22
  go_wp2_with fail
  go_loopw [9] (fun i wr => (i = .int .i64 0 ∧ wr = w1) ∨ (i = .int .i64 1 ∧ R wr)) (fun i _ => 1 - (intOf i).toNat)
  case atStart => exact .inl ⟨rfl, rfl⟩
  case round =>
    rcases hrel with ⟨rfl, rfl⟩ | ⟨rfl, hr⟩
    · go_wp2_with fail
      refine HN.out.mono ?_
      rintro e w3 ⟨rfl, h1, h2⟩
      obtain ⟨f1, f2, f3, f4, f5⟩ := HFIN.out w3 h1 h2
      obtain ⟨b3, b3f⟩ := HFD.out w3 h2
      have x3 := f1.cell 0
      simp at x3
      have HR := Lib.hid f5
      clear f1 f4 f5 h1 h2 c0
      cases sb with
      | true =>
        have HR2 : Hid (R ((w3.setCell ⟨fb, 3, none⟩ (.bool true)).setCell ⟨p, o, none⟩ (.int .i64 (wrap64 (q : Int))))) := HR
        clear HR
        go_wp2
        exact ⟨.inr ⟨rfl, HR2.out⟩, by decide⟩
      | false =>
        by_cases hq8 : 8192 < q
        · have HR2 : Hid (R ((w3.setCell ⟨fb, 3, none⟩ (.bool true)).setCell ⟨p, o, none⟩ (.int .i64 (wrap64 (q : Int))))) := by
            rw [decide_eq_true hq8] at HR
            exact HR
          have e8 : (8192 : Int) < (q : Int) := by omega
          clear HR hq8
          go_wp2
          exact ⟨.inr ⟨rfl, HR2.out⟩, by decide⟩
        · have HR2 : Hid (R ((w3.setCell ⟨fb, 3, none⟩ (.bool false)).setCell ⟨p, o, none⟩ (.int .i64 (wrap64 (q : Int))))) := by
            rw [decide_eq_false hq8] at HR
            exact HR
          have e8 : decide ((8192 : Int) < (q : Int)) = false := decide_eq_false (by omega)
          clear HR hq8
          go_wp2
          exact ⟨.inr ⟨rfl, HR2.out⟩, by decide⟩
    · go_wp2
      refine bodyPost_end (results_none rfl _ _ _) rfl ?_
      exact ⟨rfl, hr⟩
end Go.Proofs.Ytikimmhkfjaijaa
