/-
  META: order, bit, Size; numbers and guids behind bytes (printed by wip/gen-meta.py).
-/
import Derived.Test.YtimgecflcackbaaGdCmp
import Derived.Test.YtimgecflcackbaaGdEq
import Derived.Test.YtimgecflcackbaaChain
import Derived.Test.YtimgecflcackbaaWireWalksN
import Derived.Test.YtimgecflcackbaaImgCheckRN
namespace Go.Proofs.Ytimgecflcackbaa
open Go.RowKit Reg Go.ChangeShapes

def ordG (g l : Gd) : Int := or2 (cmp3 g.1 l.1) (cmp3 g.2 l.2)
theorem strOf_size (l : List UInt8) : (strOf l).size = l.length := rfl
def JO2 (w0 : World) (r0 r1 : Int) : List Value → World → Prop
  | [_, _, u], w => Below w0.heap.size w0 w ∧ ∃ g, u = .slice (some ⟨g, 0, none⟩) 2 2 ∧ Blk w g 3 #[.int .i64 r0, .int .i64 r1]
  | _, w => Below w0.heap.size w0 w
set_option maxRecDepth 100000 in
theorem order_any (g l : Gd) (w : World) : Calls Try.prog 41 #[aggG g, aggG l] w fun e w' => e = .returned (.int .i64 (ordG g l)) ∧ Below w.heap.size w w' := by
  obtain ⟨ge, gc⟩ := g
  obtain ⟨le, lc⟩ := l
  obtain ⟨r0, hr0⟩ : ∃ z, z = cmp3 ge le := ⟨_, rfl⟩
  obtain ⟨r1, hr1⟩ : ∃ z, z = cmp3 gc lc := ⟨_, rfl⟩
  obtain ⟨oz, hoz⟩ : ∃ z, z = or2 r0 r1 := ⟨_, rfl⟩
  have HR := Lib.hid (And.intro hr0 (And.intro hr1 hoz))
  have HOZ := Lib.hid (show ordG (ge, gc) (le, lc) = oz by rw [hoz, hr0, hr1]; rfl)
  unfold aggG
  have hb0 := ((Below.refl w.heap.size w).alloc (Nat.le_refl _) (Obj.cells #[.int .u64 ge, .int .u64 gc] 26)).alloc (by simp) (Obj.cells #[.int .u64 le, .int .u64 lc] 26)
  have HB0 := Lib.hid hb0
  have HX := Lib.hid ((Blk.new w 26 #[.int .u64 ge, .int .u64 gc]).alloc (Obj.cells #[.int .u64 le, .int .u64 lc] 26))
  have HY := Lib.hid (Blk.newAt (w := w.alloc (Obj.cells #[.int .u64 ge, .int .u64 gc] 26)) 26 #[.int .u64 le, .int .u64 lc] (g := w.heap.size + 1) (by simp))
  clear hr0 hr1 hoz hb0
  go_enter Try.func41, Try.ntmps41
  go_wp2_with fail
  generalize (w.alloc (Obj.cells #[.int .u64 ge, .int .u64 gc] 26)).alloc (Obj.cells #[.int .u64 le, .int .u64 lc] 26) = w3 at *
  refine wp_region_chain [4, 9, 10, 11] (kv [(4, .is (.int .i64 r0)), (9, .is (.int .i64 r1)), (10, .sl 2), (11, .is (.int .i64 oz))]) (JO2 w3 r0 r1) (by kernel_rfl) (by kernel_rfl) (by kernel_rfl) (kv_inh _) (Below.drew (Below.refl _ _)) ?_
  intro ν hν
  have n4 : ν 4 = .int .i64 r0 := hν 4
  have n9 : ν 9 = .int .i64 r1 := hν 9
  obtain ⟨g10, n10⟩ : ∃ g, ν 10 = .slice (some ⟨g, 0, none⟩) 2 2 := hν 10
  have n11 : ν 11 = .int .i64 oz := hν 11
  clear hν
  refine ch_plain 0 4 1 (by rfl) rfl (by kernel_rfl) (by kernel_rfl) ?_
  apply Exists.intro
  refine ⟨fun st w2 hlo hhi hJ => ?_, ?_⟩
  · clear hlo hhi hJ
    go_simp
    exact And.intro rfl rfl
  simp only [Act.put, List.setIfInBounds_toArray, List.set_cons_succ, List.set_cons_zero, Nat.reduceAdd]
  refine ch_plain 0 0 1 (by rfl) rfl (by kernel_rfl) (by kernel_rfl) ?_
  apply Exists.intro
  refine ⟨fun st w2 hlo hhi hJ => ?_, ?_⟩
  · have hj : Below w3.heap.size w3 w2 := by
      have h5 : st = 0 ∨ st = 1 ∨ st = 2 := by omega
      rcases h5 with rfl | rfl | rfl
      · exact hJ
      · exact hJ
      · exact hJ
    have hx := (HX.out.keep hj).cell 0
    simp at hx
    clear hj
    clear hlo hhi hJ
    go_simp
    exact And.intro rfl rfl
  simp only [Act.put, List.setIfInBounds_toArray, List.set_cons_succ, List.set_cons_zero, Nat.reduceAdd]
  refine ch_plain 0 4 1 (by rfl) rfl (by kernel_rfl) (by kernel_rfl) ?_
  apply Exists.intro
  refine ⟨fun st w2 hlo hhi hJ => ?_, ?_⟩
  · clear hlo hhi hJ
    go_simp
    exact And.intro rfl rfl
  simp only [Act.put, List.setIfInBounds_toArray, List.set_cons_succ, List.set_cons_zero, Nat.reduceAdd]
  refine ch_plain 0 0 1 (by rfl) rfl (by kernel_rfl) (by kernel_rfl) ?_
  apply Exists.intro
  refine ⟨fun st w2 hlo hhi hJ => ?_, ?_⟩
  · have hj : Below w3.heap.size w3 w2 := by
      have h5 : st = 0 ∨ st = 1 ∨ st = 2 := by omega
      rcases h5 with rfl | rfl | rfl
      · exact hJ
      · exact hJ
      · exact hJ
    have hx := (HY.out.keep hj).cell 0
    simp at hx
    clear hj
    clear hlo hhi hJ
    go_simp
    exact And.intro rfl rfl
  simp only [Act.put, List.setIfInBounds_toArray, List.set_cons_succ, List.set_cons_zero, Nat.reduceAdd]
  refine ch_special 0 1 (by rfl) rfl (by decide) (by kernel_rfl) (fun w2 hJ => ?_) ?_
  · have hj : Below w3.heap.size w3 w2 := hJ
    go_simp
    refine (cmp_any _ _ _).mono ?_
    rintro e' w' ⟨rfl, rfl⟩
    exact ⟨_, rfl, (show Value.int .i64 _ = .int .i64 _ from by rw [HR.out.1]), hj⟩
  rw [n4]
  simp only [Act.put, List.setIfInBounds_toArray, List.set_cons_succ, List.set_cons_zero, Nat.reduceAdd]
  refine ch_plain 0 4 1 (by rfl) rfl (by kernel_rfl) (by kernel_rfl) ?_
  apply Exists.intro
  refine ⟨fun st w2 hlo hhi hJ => ?_, ?_⟩
  · clear hlo hhi hJ
    go_simp
    exact And.intro rfl rfl
  simp only [Act.put, List.setIfInBounds_toArray, List.set_cons_succ, List.set_cons_zero, Nat.reduceAdd]
  refine ch_plain 0 1 1 (by rfl) rfl (by kernel_rfl) (by kernel_rfl) ?_
  apply Exists.intro
  refine ⟨fun st w2 hlo hhi hJ => ?_, ?_⟩
  · have hj : Below w3.heap.size w3 w2 := by
      have h5 : st = 0 ∨ st = 1 ∨ st = 2 := by omega
      rcases h5 with rfl | rfl | rfl
      · exact hJ
      · exact hJ
      · exact hJ
    have hx := (HX.out.keep hj).cell 1
    simp at hx
    clear hj
    clear hlo hhi hJ
    go_simp
    exact And.intro rfl rfl
  simp only [Act.put, List.setIfInBounds_toArray, List.set_cons_succ, List.set_cons_zero, Nat.reduceAdd]
  refine ch_plain 0 4 1 (by rfl) rfl (by kernel_rfl) (by kernel_rfl) ?_
  apply Exists.intro
  refine ⟨fun st w2 hlo hhi hJ => ?_, ?_⟩
  · clear hlo hhi hJ
    go_simp
    exact And.intro rfl rfl
  simp only [Act.put, List.setIfInBounds_toArray, List.set_cons_succ, List.set_cons_zero, Nat.reduceAdd]
  refine ch_plain 0 1 1 (by rfl) rfl (by kernel_rfl) (by kernel_rfl) ?_
  apply Exists.intro
  refine ⟨fun st w2 hlo hhi hJ => ?_, ?_⟩
  · have hj : Below w3.heap.size w3 w2 := by
      have h5 : st = 0 ∨ st = 1 ∨ st = 2 := by omega
      rcases h5 with rfl | rfl | rfl
      · exact hJ
      · exact hJ
      · exact hJ
    have hx := (HY.out.keep hj).cell 1
    simp at hx
    clear hj
    clear hlo hhi hJ
    go_simp
    exact And.intro rfl rfl
  simp only [Act.put, List.setIfInBounds_toArray, List.set_cons_succ, List.set_cons_zero, Nat.reduceAdd]
  refine ch_special 1 1 (by rfl) rfl (by decide) (by kernel_rfl) (fun w2 hJ => ?_) ?_
  · have hj : Below w3.heap.size w3 w2 := hJ
    go_simp
    refine (cmp_any _ _ _).mono ?_
    rintro e' w' ⟨rfl, rfl⟩
    exact ⟨_, rfl, (show Value.int .i64 _ = .int .i64 _ from by rw [HR.out.2.1]), hj⟩
  rw [n9]
  simp only [Act.put, List.setIfInBounds_toArray, List.set_cons_succ, List.set_cons_zero, Nat.reduceAdd]
  refine ch_special 2 1 (by rfl) rfl (by decide) (by kernel_rfl) (fun w2 hJ => ?_) ?_
  · have hj : Below w3.heap.size w3 w2 := hJ
    go_simp
    exact ⟨⟨_, rfl⟩, hj.alloc hj.size _, _, rfl, Blk.new _ _ _⟩
  rw [n10]
  simp only [Act.put, List.setIfInBounds_toArray, List.set_cons_succ, List.set_cons_zero, Nat.reduceAdd]
  refine ch_special 3 1 (by rfl) rfl (by decide) (by kernel_rfl) (fun w2 hJ => ?_) ?_
  · have hj : Below w3.heap.size w3 w2 ∧ ∃ g, ν 10 = .slice (some ⟨g, 0, none⟩) 2 2 ∧ Blk w2 g 3 #[.int .i64 r0, .int .i64 r1] := hJ
    rw [n10] at hj
    obtain ⟨hb, g, he, hk⟩ := hj
    simp only [Value.slice.injEq, Option.some.injEq, Addr.mk.injEq, and_true] at he
    subst he
    go_simp
    refine (or_any r0 r1 _ 2 w2 (hk.cell 0) (hk.cell 1)).mono ?_
    rintro e' w' ⟨rfl, rfl⟩
    exact ⟨_, rfl, (show Value.int .i64 _ = .int .i64 _ from by rw [HR.out.2.2]), hb⟩
  rw [n11]
  simp only [Act.put, List.setIfInBounds_toArray, List.set_cons_succ, List.set_cons_zero, Nat.reduceAdd]
  refine ch_plain 0 4 1 (by rfl) rfl (by kernel_rfl) (by kernel_rfl) ?_
  apply Exists.intro
  refine ⟨fun st w2 hlo hhi hJ => ?_, ?_⟩
  · clear hlo hhi hJ
    go_simp
    exact And.intro rfl rfl
  simp only [Act.put, List.setIfInBounds_toArray, List.set_cons_succ, List.set_cons_zero, Nat.reduceAdd]
  refine ch_nil (fun w5 hJ => ?_)
  have HB9 := Lib.hid (show Below w.heap.size w w5 from HB0.out.trans (Below.mono (show Below w3.heap.size w3 w5 from hJ) HB0.out.size))
  clear hJ n4 n9 n10 n11
  go_wp2
  go_ret
  exact ⟨by rw [HOZ.out]; rfl, HB9.out⟩
theorem bit_any (b : Bool) (w : World) : Calls Try.prog 48 #[.bool b] w fun e w' => e = .returned (.int .i64 (if b = true then 1 else 0)) ∧ w = w' := by
  cases b with
  | true =>
    go_enter Try.func48, Try.ntmps48
    go_wp2
    go_ret
    exact ⟨rfl, rfl⟩
  | false =>
    go_enter Try.func48, Try.ntmps48
    go_wp2
    go_ret
    exact ⟨rfl, rfl⟩
/-- how many sectors so many bytes take -/
def sizeS (n : Nat) : Nat := (n + 37) / 32
theorem size_any (s : ByteArray) (w : World) (hs : s.size ≤ 1152921504606846976) : Calls Try.prog 49 #[.string s] w fun e w' => e = .returned (.int .i64 ((sizeS s.size : Nat) : Int)) ∧ w = w' := by
  obtain ⟨n, hn⟩ : ∃ n, s.size = n := ⟨_, rfl⟩
  obtain ⟨r, hr⟩ : ∃ r, sizeS n = r := ⟨_, rfl⟩
  have HR := Lib.hid hr
  rw [hn, hr]
  rw [hn] at hs
  have e1 : ((n : Int) + 37) / 32 = (r : Int) := by rw [← hr]; unfold sizeS; omega
  have e2 : (6 : Int) + (n : Int) + 32 - 1 = (n : Int) + 37 := by omega
  have i0 : (0 : Int) ≤ (n : Int) := by omega
  have i1 : (n : Int) ≤ 1152921504606846976 := by omega
  have w1 : wrap64 (6 + (n : Int)) = 6 + (n : Int) := IntWalk.wrap64_in _ (by omega)
  have w2 : wrap64 (6 + (n : Int) + 32) = 6 + (n : Int) + 32 := IntWalk.wrap64_in _ (by omega)
  have w3 : wrap64 (6 + (n : Int) + 32 - 1) = (n : Int) + 37 := by rw [e2]; exact IntWalk.wrap64_in _ (by omega)
  have w4 : ((n : Int) + 37).tdiv 32 = (r : Int) := by rw [Int.tdiv_eq_ediv_of_nonneg (by omega)]; exact e1
  have w5 : wrap64 (r : Int) = (r : Int) := IntWalk.wrap64_in _ (by omega)
  have W5 := Lib.hid w5
  clear hr e1 e2 i1 hs w5
  go_enter Try.func49, Try.ntmps49
  go_wp2
  go_ret
  exact ⟨by show Ending.returned (.int .i64 (wrap64 (r:Int))) = _; rw [W5.out], rfl⟩
def numsB (l : List Int) : List UInt8 := l.flatMap fun z => Wire.putNum z.toNat
def gdB (g : Gd) : List UInt8 := Wire.putNum g.1.toNat ++ Wire.putNum g.2.toNat
theorem numsB_le (l : List Int) : (numsB l).length ≤ 9 * l.length := by
  induction l with
  | nil => simp [numsB]
  | cons z l ih =>
    have h := Wire.putNum_length z.toNat
    simp only [numsB, List.flatMap_cons, List.length_append, List.length_cons] at ih ⊢
    omega
theorem wrap_succ {k m : Nat} (h : k < m) (hm : m ≤ maxLen) : wrap64 ((k : Int) + 1) = (k : Int) + 1 := by
  unfold maxLen at hm
  exact IntWalk.wrap64_in _ (by omega)
theorem meas_succ {k m : Nat} (h : k < m) : m - (intOf (Value.int .i64 ((k : Int) + 1))).toNat < m - (intOf (Value.int .i64 (k : Int))).toNat := by
  simp [intOf]
  omega
theorem u64_range {z : Int} (h : (Lit.int .u64 z).wf = true) : 0 ≤ z ∧ z < 18446744073709551616 := by
  simp [Lit.wf, IntKind.min, IntKind.max, IntKind.signed, IntKind.bits] at h
  omega
set_option maxRecDepth 100000 in
theorem putGuid_any (s : ByteArray) (g : Gd) (w : World) (hg : wfG g) (hs : s.size + 200 ≤ maxLen) : Calls Try.prog 47 #[.string s, aggG g] w fun e w' => e = .returned (.string (strOf (s.data.toList ++ gdB g))) ∧ Below w.heap.size w w' := by
  obtain ⟨ge, gc⟩ := g
  have r1 := u64_range hg.1
  have r2 := u64_range hg.2
  dsimp only at r1 r2
  obtain ⟨x, rfl⟩ : ∃ x : Nat, ge = x := ⟨ge.toNat, by omega⟩
  obtain ⟨y, rfl⟩ : ∃ y : Nat, gc = y := ⟨gc.toNat, by omega⟩
  have hz : s.data.toList.length = s.size := by rw [Array.length_toList]; rfl
  have hx1 := Wire.putNum_length x
  obtain ⟨s1, hs1⟩ : ∃ z, strOf (s.data.toList ++ Wire.putNum x) = z := ⟨_, rfl⟩
  obtain ⟨s2, hs2⟩ : ∃ z, strOf (s1.data.toList ++ Wire.putNum y) = z := ⟨_, rfl⟩
  have HN1 := Lib.hid (fun w => putNum_any s x w (by omega) (by omega))
  have HN2 := Lib.hid (fun w => putNum_any s1 y w (by omega) (by rw [← hs1, strOf_size, List.length_append, hz]; omega))
  rw [hs1] at HN1
  rw [hs2] at HN2
  have HS := Lib.hid (show strOf (s.data.toList ++ gdB ((x : Int), (y : Int))) = s2 by
    rw [← hs2, ← hs1]
    show strOf (s.data.toList ++ (Wire.putNum x ++ Wire.putNum y)) = strOf ((s.data.toList ++ Wire.putNum x) ++ Wire.putNum y)
    rw [List.append_assoc])
  unfold aggG
  have hb0 := (Below.refl w.heap.size w).alloc (Nat.le_refl _) (Obj.cells #[.int .u64 (x : Int), .int .u64 (y : Int)] 26)
  have HB0 := Lib.hid hb0
  have HX := Lib.hid (Blk.new w 26 #[.int .u64 (x : Int), .int .u64 (y : Int)])
  clear hg r1 r2 hs hx1 hs1 hs2 hb0 hz
  go_enter Try.func47, Try.ntmps47
  go_wp2_with fail
  generalize w.alloc (Obj.cells #[.int .u64 (x : Int), .int .u64 (y : Int)] 26) = w3 at *
  refine wp_region_chain [3, 6] (kv [(3, .is (.string s1)), (6, .is (.string s2))]) (fun _ w => Below w3.heap.size w3 w) (by kernel_rfl) (by kernel_rfl) (by kernel_rfl) (kv_inh _) (Below.drew (Below.refl _ _)) ?_
  intro ν hν
  have n3 : ν 3 = .string s1 := hν 3
  have n6 : ν 6 = .string s2 := hν 6
  clear hν
  refine ch_plain 0 2 1 (by rfl) rfl (by kernel_rfl) (by kernel_rfl) ?_
  apply Exists.intro
  refine ⟨fun st w2 hlo hhi hJ => ?_, ?_⟩
  · clear hlo hhi hJ
    go_simp
    exact And.intro rfl rfl
  simp only [Act.put, List.setIfInBounds_toArray, List.set_cons_succ, List.set_cons_zero, Nat.reduceAdd]
  refine ch_plain 0 2 1 (by rfl) rfl (by kernel_rfl) (by kernel_rfl) ?_
  apply Exists.intro
  refine ⟨fun st w2 hlo hhi hJ => ?_, ?_⟩
  · clear hlo hhi hJ
    go_simp
    exact And.intro rfl rfl
  simp only [Act.put, List.setIfInBounds_toArray, List.set_cons_succ, List.set_cons_zero, Nat.reduceAdd]
  refine ch_plain 0 2 1 (by rfl) rfl (by kernel_rfl) (by kernel_rfl) ?_
  apply Exists.intro
  refine ⟨fun st w2 hlo hhi hJ => ?_, ?_⟩
  · replace hJ : Below w3.heap.size w3 w2 := hJ
    have hx := (HX.out.keep hJ).cell 0
    simp at hx
    clear hlo hhi hJ
    go_simp
    exact And.intro rfl rfl
  simp only [Act.put, List.setIfInBounds_toArray, List.set_cons_succ, List.set_cons_zero, Nat.reduceAdd]
  refine ch_special 0 1 (by rfl) rfl (by decide) (by kernel_rfl) (fun w2 hJ => ?_) ?_
  · replace hJ : Below w3.heap.size w3 w2 := hJ
    go_simp
    refine (HN1.out _).mono ?_
    rintro e w4 ⟨rfl, hb⟩
    exact ⟨_, rfl, rfl, hJ.trans (hb.mono hJ.size)⟩
  rw [n3]
  simp only [Act.put, List.setIfInBounds_toArray, List.set_cons_succ, List.set_cons_zero, Nat.reduceAdd]
  refine ch_plain 0 2 1 (by rfl) rfl (by kernel_rfl) (by kernel_rfl) ?_
  apply Exists.intro
  refine ⟨fun st w2 hlo hhi hJ => ?_, ?_⟩
  · clear hlo hhi hJ
    go_simp
    exact And.intro rfl rfl
  simp only [Act.put, List.setIfInBounds_toArray, List.set_cons_succ, List.set_cons_zero, Nat.reduceAdd]
  refine ch_plain 0 2 1 (by rfl) rfl (by kernel_rfl) (by kernel_rfl) ?_
  apply Exists.intro
  refine ⟨fun st w2 hlo hhi hJ => ?_, ?_⟩
  · replace hJ : Below w3.heap.size w3 w2 := hJ
    have hx := (HX.out.keep hJ).cell 1
    simp at hx
    clear hlo hhi hJ
    go_simp
    exact And.intro rfl rfl
  simp only [Act.put, List.setIfInBounds_toArray, List.set_cons_succ, List.set_cons_zero, Nat.reduceAdd]
  refine ch_special 1 1 (by rfl) rfl (by decide) (by kernel_rfl) (fun w2 hJ => ?_) ?_
  · replace hJ : Below w3.heap.size w3 w2 := hJ
    go_simp
    refine (HN2.out _).mono ?_
    rintro e w4 ⟨rfl, hb⟩
    exact ⟨_, rfl, rfl, hJ.trans (hb.mono hJ.size)⟩
  rw [n6]
  simp only [Act.put, List.setIfInBounds_toArray, List.set_cons_succ, List.set_cons_zero, Nat.reduceAdd]
  refine ch_plain 0 2 1 (by rfl) rfl (by kernel_rfl) (by kernel_rfl) ?_
  apply Exists.intro
  refine ⟨fun st w2 hlo hhi hJ => ?_, ?_⟩
  · clear hlo hhi hJ
    go_simp
    exact And.intro rfl rfl
  simp only [Act.put, List.setIfInBounds_toArray, List.set_cons_succ, List.set_cons_zero, Nat.reduceAdd]
  refine ch_nil (fun w5 hJ => ?_)
  have HB9 := Lib.hid (show Below w.heap.size w w5 from HB0.out.trans (Below.mono (show Below w3.heap.size w3 w5 from hJ) HB0.out.size))
  clear hJ n3 n6
  go_wp2
  go_ret
  exact ⟨by rw [HS.out]; rfl, HB9.out⟩
set_option maxRecDepth 100000 in
theorem guidR_any (s : ByteArray) (g : Gd) (w : World) (hg : wfG g) (hs : s.size + 200 ≤ maxLen) : Calls Try.prog 51 #[.string s, aggG g] w fun e w' => e = .returned (.string (strOf (s.data.toList ++ gdB g))) ∧ Below w.heap.size w w' := by
  obtain ⟨ge, gc⟩ := g
  have r1 := u64_range hg.1
  have r2 := u64_range hg.2
  dsimp only at r1 r2
  obtain ⟨x, rfl⟩ : ∃ x : Nat, ge = x := ⟨ge.toNat, by omega⟩
  obtain ⟨y, rfl⟩ : ∃ y : Nat, gc = y := ⟨gc.toNat, by omega⟩
  have hz : s.data.toList.length = s.size := by rw [Array.length_toList]; rfl
  have hx1 := Wire.putNum_length x
  obtain ⟨s1, hs1⟩ : ∃ z, strOf (s.data.toList ++ Wire.putNum x) = z := ⟨_, rfl⟩
  obtain ⟨s2, hs2⟩ : ∃ z, strOf (s1.data.toList ++ Wire.putNum y) = z := ⟨_, rfl⟩
  have HN1 := Lib.hid (fun w => refPutNum_any s x w (by omega) (by omega))
  have HN2 := Lib.hid (fun w => refPutNum_any s1 y w (by omega) (by rw [← hs1, strOf_size, List.length_append, hz]; omega))
  rw [hs1] at HN1
  rw [hs2] at HN2
  have HS := Lib.hid (show strOf (s.data.toList ++ gdB ((x : Int), (y : Int))) = s2 by
    rw [← hs2, ← hs1]
    show strOf (s.data.toList ++ (Wire.putNum x ++ Wire.putNum y)) = strOf ((s.data.toList ++ Wire.putNum x) ++ Wire.putNum y)
    rw [List.append_assoc])
  unfold aggG
  have hb0 := (Below.refl w.heap.size w).alloc (Nat.le_refl _) (Obj.cells #[.int .u64 (x : Int), .int .u64 (y : Int)] 26)
  have HB0 := Lib.hid hb0
  have HX := Lib.hid (Blk.new w 26 #[.int .u64 (x : Int), .int .u64 (y : Int)])
  clear hg r1 r2 hs hx1 hs1 hs2 hb0 hz
  go_enter Try.func51, Try.ntmps51
  go_wp2_with fail
  generalize w.alloc (Obj.cells #[.int .u64 (x : Int), .int .u64 (y : Int)] 26) = w3 at *
  refine wp_region_chain [3, 6] (kv [(3, .is (.string s1)), (6, .is (.string s2))]) (fun _ w => Below w3.heap.size w3 w) (by kernel_rfl) (by kernel_rfl) (by kernel_rfl) (kv_inh _) (Below.drew (Below.refl _ _)) ?_
  intro ν hν
  have n3 : ν 3 = .string s1 := hν 3
  have n6 : ν 6 = .string s2 := hν 6
  clear hν
  refine ch_plain 0 2 1 (by rfl) rfl (by kernel_rfl) (by kernel_rfl) ?_
  apply Exists.intro
  refine ⟨fun st w2 hlo hhi hJ => ?_, ?_⟩
  · clear hlo hhi hJ
    go_simp
    exact And.intro rfl rfl
  simp only [Act.put, List.setIfInBounds_toArray, List.set_cons_succ, List.set_cons_zero, Nat.reduceAdd]
  refine ch_plain 0 2 1 (by rfl) rfl (by kernel_rfl) (by kernel_rfl) ?_
  apply Exists.intro
  refine ⟨fun st w2 hlo hhi hJ => ?_, ?_⟩
  · clear hlo hhi hJ
    go_simp
    exact And.intro rfl rfl
  simp only [Act.put, List.setIfInBounds_toArray, List.set_cons_succ, List.set_cons_zero, Nat.reduceAdd]
  refine ch_plain 0 2 1 (by rfl) rfl (by kernel_rfl) (by kernel_rfl) ?_
  apply Exists.intro
  refine ⟨fun st w2 hlo hhi hJ => ?_, ?_⟩
  · replace hJ : Below w3.heap.size w3 w2 := hJ
    have hx := (HX.out.keep hJ).cell 0
    simp at hx
    clear hlo hhi hJ
    go_simp
    exact And.intro rfl rfl
  simp only [Act.put, List.setIfInBounds_toArray, List.set_cons_succ, List.set_cons_zero, Nat.reduceAdd]
  refine ch_special 0 1 (by rfl) rfl (by decide) (by kernel_rfl) (fun w2 hJ => ?_) ?_
  · replace hJ : Below w3.heap.size w3 w2 := hJ
    go_simp
    refine (HN1.out _).mono ?_
    rintro e w4 ⟨rfl, hb⟩
    exact ⟨_, rfl, rfl, hJ.trans (hb.mono hJ.size)⟩
  rw [n3]
  simp only [Act.put, List.setIfInBounds_toArray, List.set_cons_succ, List.set_cons_zero, Nat.reduceAdd]
  refine ch_plain 0 2 1 (by rfl) rfl (by kernel_rfl) (by kernel_rfl) ?_
  apply Exists.intro
  refine ⟨fun st w2 hlo hhi hJ => ?_, ?_⟩
  · clear hlo hhi hJ
    go_simp
    exact And.intro rfl rfl
  simp only [Act.put, List.setIfInBounds_toArray, List.set_cons_succ, List.set_cons_zero, Nat.reduceAdd]
  refine ch_plain 0 2 1 (by rfl) rfl (by kernel_rfl) (by kernel_rfl) ?_
  apply Exists.intro
  refine ⟨fun st w2 hlo hhi hJ => ?_, ?_⟩
  · replace hJ : Below w3.heap.size w3 w2 := hJ
    have hx := (HX.out.keep hJ).cell 1
    simp at hx
    clear hlo hhi hJ
    go_simp
    exact And.intro rfl rfl
  simp only [Act.put, List.setIfInBounds_toArray, List.set_cons_succ, List.set_cons_zero, Nat.reduceAdd]
  refine ch_special 1 1 (by rfl) rfl (by decide) (by kernel_rfl) (fun w2 hJ => ?_) ?_
  · replace hJ : Below w3.heap.size w3 w2 := hJ
    go_simp
    refine (HN2.out _).mono ?_
    rintro e w4 ⟨rfl, hb⟩
    exact ⟨_, rfl, rfl, hJ.trans (hb.mono hJ.size)⟩
  rw [n6]
  simp only [Act.put, List.setIfInBounds_toArray, List.set_cons_succ, List.set_cons_zero, Nat.reduceAdd]
  refine ch_plain 0 2 1 (by rfl) rfl (by kernel_rfl) (by kernel_rfl) ?_
  apply Exists.intro
  refine ⟨fun st w2 hlo hhi hJ => ?_, ?_⟩
  · clear hlo hhi hJ
    go_simp
    exact And.intro rfl rfl
  simp only [Act.put, List.setIfInBounds_toArray, List.set_cons_succ, List.set_cons_zero, Nat.reduceAdd]
  refine ch_nil (fun w5 hJ => ?_)
  have HB9 := Lib.hid (show Below w.heap.size w w5 from HB0.out.trans (Below.mono (show Below w3.heap.size w3 w5 from hJ) HB0.out.size))
  clear hJ n3 n6
  go_wp2
  go_ret
  exact ⟨by rw [HS.out]; rfl, HB9.out⟩
set_option maxRecDepth 100000 in
theorem puts_any (s : ByteArray) (v : Value) (l : List Int) (w : World) (hv : InI w v l) (h0 : ∀ z ∈ l, 0 ≤ z) (hs : s.size + 9 * l.length + 200 ≤ maxLen) : Calls Try.prog 46 #[.string s, v] w fun e w' => e = .returned (.string (strOf (s.data.toList ++ numsB l))) ∧ Below w.heap.size w w' := by
  have hwf := hv.wf
  have hlm := hv.2.1
  obtain ⟨a, c, rfl, -, hx⟩ := hv.open_
  have hz : s.data.toList.length = s.size := by rw [Array.length_toList]; rfl
  obtain ⟨S, hS⟩ : ∃ S : Nat → ByteArray, ∀ k, S k = strOf (s.data.toList ++ numsB (l.take k)) := ⟨_, fun _ => rfl⟩
  have HS0 := Lib.hid (show S 0 = s by rw [hS]; simp [numsB]; rfl)
  have HSE := Lib.hid (show S l.length = strOf (s.data.toList ++ numsB l) by rw [hS, List.take_length])
  have HSZ := Lib.hid (fun k (hk : k ≤ l.length) => show (S k).size + 100 ≤ maxLen by
    have h1 := numsB_le (l.take k)
    rw [List.length_take] at h1
    rw [hS, strOf_size, List.length_append, hz]
    omega)
  have HST := Lib.hid (fun k (hk : k < l.length) => show strOf ((S k).data.toList ++ Wire.putNum (l.getD k 0).toNat) = S (k + 1) ∧ 0 ≤ l.getD k 0 ∧ (l.getD k 0).toNat < 256 ^ 8 by
    have hget : l.getD k 0 = l[k] := by simp [hk]
    have hr := wf_range (hwf k)
    refine ⟨?_, by rw [hget]; exact h0 _ (List.getElem_mem hk), by omega⟩
    rw [hS, hS, hget, List.take_succ_eq_append_getElem hk]
    show strOf ((s.data.toList ++ numsB (l.take k)) ++ _) = _
    unfold numsB
    rw [List.flatMap_append, List.append_assoc]
    simp)
  have HX := Lib.hid hx
  generalize hZ : (fun j => l.getD j 0) = Z
  have hZj : ∀ j, l.getD j 0 = Z j := fun j => by rw [← hZ]
  simp only [hZj] at HX HST
  have HLM := Lib.hid hlm
  generalize hn : l.length = n at *
  clear hx hwf hz hS hZ hZj hs hlm h0
  go_enter Try.func46, Try.ntmps46
  go_wp2_with fail
  go_loopw [0, 9] (fun t i wr => ∃ k : Nat, k ≤ n ∧ i = .int .i64 k ∧ t = .string (S k) ∧ Below w.heap.size w wr) (fun _ i _ => n - (intOf i).toNat)
  case atStart => exact ⟨0, Nat.zero_le _, rfl, by rw [HS0.out], Below.refl _ _⟩
  case round =>
    obtain ⟨k, hk, rfl, rfl, hb⟩ := hrel
    have HB := Lib.hid hb
    clear hb
    by_cases hlt : k < n
    · obtain ⟨g, off, rfl, hc⟩ := HX.out k hlt
      replace hc := cell_later HB.out hc
      obtain ⟨hs1, hz0, hz1⟩ := HST.out k hlt
      have hsz := HSZ.out k hk
      generalize Z k = z at *
      obtain ⟨x, rfl⟩ : ∃ x : Nat, z = x := ⟨z.toNat, by omega⟩
      rw [Int.toNat_natCast] at hs1 hz1
      obtain ⟨sk, hsk⟩ : ∃ t, S k = t := ⟨_, rfl⟩
      rw [hsk] at hs1 hsz ⊢
      have HN := Lib.hid (fun w => putNum_any sk x w hz1 hsz)
      have HCV := Lib.hid (show IntKind.u64.wrap (x : Int) = (x : Int) from IntWalk.u64_in _ (by omega))
      have HS1 := Lib.hid hs1
      have HLT := Lib.hid hlt
      have i1 : (k : Int) < (n : Int) := by omega
      have i0 : (0 : Int) ≤ (k : Int) := by omega
      have hcv := HCV.out
      clear hk hlt hs1 hz0 hz1 hsz hsk
      go_wp2_with fail
      clear i1 hc hcv
      refine (HN.out _).mono ?_
      rintro e w3 ⟨rfl, hb⟩
      have HB3 := Lib.hid (HB.out.trans (hb.mono HB.out.size))
      rw [HS1.out]
      clear hb
      go_wp2
      rw [wrap_succ HLT.out HLM.out]
      exact ⟨⟨k + 1, HLT.out, rfl, rfl, HB3.out⟩, meas_succ HLT.out⟩
    · obtain rfl : k = n := by omega
      have i1 : ¬ ((k : Int) < (k : Int)) := by omega
      clear hk hlt
      go_wp2
      go_ret
      exact ⟨by rw [← HSE.out]; rfl, HB.out⟩
set_option maxRecDepth 100000 in
theorem numsR_any (s : ByteArray) (v : Value) (l : List Int) (w : World) (hv : InI w v l) (h0 : ∀ z ∈ l, 0 ≤ z) (hs : s.size + 9 * l.length + 200 ≤ maxLen) : Calls Try.prog 50 #[.string s, v] w fun e w' => e = .returned (.string (strOf (s.data.toList ++ numsB l))) ∧ Below w.heap.size w w' := by
  have hwf := hv.wf
  have hlm := hv.2.1
  obtain ⟨a, c, rfl, -, hx⟩ := hv.open_
  have hz : s.data.toList.length = s.size := by rw [Array.length_toList]; rfl
  obtain ⟨S, hS⟩ : ∃ S : Nat → ByteArray, ∀ k, S k = strOf (s.data.toList ++ numsB (l.take k)) := ⟨_, fun _ => rfl⟩
  have HS0 := Lib.hid (show S 0 = s by rw [hS]; simp [numsB]; rfl)
  have HSE := Lib.hid (show S l.length = strOf (s.data.toList ++ numsB l) by rw [hS, List.take_length])
  have HSZ := Lib.hid (fun k (hk : k ≤ l.length) => show (S k).size + 100 ≤ maxLen by
    have h1 := numsB_le (l.take k)
    rw [List.length_take] at h1
    rw [hS, strOf_size, List.length_append, hz]
    omega)
  have HST := Lib.hid (fun k (hk : k < l.length) => show strOf ((S k).data.toList ++ Wire.putNum (l.getD k 0).toNat) = S (k + 1) ∧ 0 ≤ l.getD k 0 ∧ (l.getD k 0).toNat < 256 ^ 8 by
    have hget : l.getD k 0 = l[k] := by simp [hk]
    have hr := wf_range (hwf k)
    refine ⟨?_, by rw [hget]; exact h0 _ (List.getElem_mem hk), by omega⟩
    rw [hS, hS, hget, List.take_succ_eq_append_getElem hk]
    show strOf ((s.data.toList ++ numsB (l.take k)) ++ _) = _
    unfold numsB
    rw [List.flatMap_append, List.append_assoc]
    simp)
  have HX := Lib.hid hx
  generalize hZ : (fun j => l.getD j 0) = Z
  have hZj : ∀ j, l.getD j 0 = Z j := fun j => by rw [← hZ]
  simp only [hZj] at HX HST
  have HLM := Lib.hid hlm
  generalize hn : l.length = n at *
  clear hx hwf hz hS hZ hZj hs hlm h0
  go_enter Try.func50, Try.ntmps50
  go_wp2_with fail
  go_loopw [0, 5] (fun t i wr => ∃ k : Nat, k ≤ n ∧ i = .int .i64 k ∧ t = .string (S k) ∧ Below w.heap.size w wr) (fun _ i _ => n - (intOf i).toNat)
  case atStart => exact ⟨0, Nat.zero_le _, rfl, by rw [HS0.out], Below.refl _ _⟩
  case round =>
    obtain ⟨k, hk, rfl, rfl, hb⟩ := hrel
    have HB := Lib.hid hb
    clear hb
    by_cases hlt : k < n
    · obtain ⟨g, off, rfl, hc⟩ := HX.out k hlt
      replace hc := cell_later HB.out hc
      obtain ⟨hs1, hz0, hz1⟩ := HST.out k hlt
      have hsz := HSZ.out k hk
      generalize Z k = z at *
      obtain ⟨x, rfl⟩ : ∃ x : Nat, z = x := ⟨z.toNat, by omega⟩
      rw [Int.toNat_natCast] at hs1 hz1
      obtain ⟨sk, hsk⟩ : ∃ t, S k = t := ⟨_, rfl⟩
      rw [hsk] at hs1 hsz ⊢
      have HN := Lib.hid (fun w => refPutNum_any sk x w hz1 hsz)
      have HCV := Lib.hid (show IntKind.u64.wrap (x : Int) = (x : Int) from IntWalk.u64_in _ (by omega))
      have HS1 := Lib.hid hs1
      have HLT := Lib.hid hlt
      have i1 : (k : Int) < (n : Int) := by omega
      have i0 : (0 : Int) ≤ (k : Int) := by omega
      have hcv := HCV.out
      clear hk hlt hs1 hz0 hz1 hsz hsk
      go_wp2_with fail
      clear i1 hc hcv
      refine (HN.out _).mono ?_
      rintro e w3 ⟨rfl, hb⟩
      have HB3 := Lib.hid (HB.out.trans (hb.mono HB.out.size))
      rw [HS1.out]
      clear hb
      go_wp2
      rw [wrap_succ HLT.out HLM.out]
      exact ⟨⟨k + 1, HLT.out, rfl, rfl, HB3.out⟩, meas_succ HLT.out⟩
    · obtain rfl : k = n := by omega
      have i1 : ¬ ((k : Int) < (k : Int)) := by omega
      clear hk hlt
      go_wp2
      go_ret
      exact ⟨by rw [← HSE.out]; rfl, HB.out⟩
end Go.Proofs.Ytimgecflcackbaa
