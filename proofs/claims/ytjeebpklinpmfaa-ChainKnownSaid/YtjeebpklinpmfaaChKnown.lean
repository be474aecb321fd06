/-
  ChainKnown, WALKED (printed by wip/gen-chknown.py).
-/
import Derived.Test.YtjeebpklinpmfaaChW
namespace Go.Proofs.Ytjeebpklinpmfaa
open Go.RowKit Reg Go.WideShapes Go.ChangeShapes

theorem add_nil (g : Gd) (w : World) : Calls Try.prog 15 #[.pointer none, aggG g, .slice none 0 0] w fun e w' => e = .returned (.int .i64 1) ∧ Below w.heap.size w w' := by
  have hb0 := (Below.refl w.heap.size w).alloc (Nat.le_refl _) (Obj.cells #[.int .u64 g.1, .int .u64 g.2] 33)
  have HB := Lib.hid hb0
  have hbx := Blk.new w 33 #[.int .u64 g.1, .int .u64 g.2]
  have hnx := fun w => next_nil g w
  unfold aggG at hnx ⊢
  have HNX := Lib.hid hnx
  clear hnx hb0
  have x0 := hbx.cell 0
  have x1 := hbx.cell 1
  simp at x0 x1
  clear hbx
  go_enter Try.func15, Try.ntmps15
  go_wp2_with fail
  refine (HNX.out _).mono ?_
  rintro e w1 ⟨rfl, hb⟩
  have HB1 := Lib.hid (HB.out.trans (hb.mono HB.out.size))
  clear hb x0 x1
  go_wp2
  go_ret
  exact ⟨rfl, HB1.out⟩
def K0 : Ch := Ch.new 8
def K1 : Ch := K0.add (0, 1) [(0, dataS 97), (7, dataS 98)]
def K2 : Ch := K1.hide (0, 1)
def K3 : Ch := K2.write 0 (dataS 99)
def K4 : Ch := K3.add (1, 0) []
theorem no_write {C : Ch} {b : Int} {d : ByteArray} (h : C.writeE b d = 2) : C.write b d = C := by
  unfold Ch.writeE at h
  unfold Ch.write
  split at h
  · cases h
  · rw [if_neg (by assumption)]
theorem no_roll {C : Ch} {n : Int} (h : C.rollE n = 2) : C.roll n = C := by
  unfold Ch.rollE at h
  unfold Ch.roll
  split at h
  · rw [if_pos (by assumption)]
  · cases h
theorem no_add {C : Ch} {g : Gd} {cs : List Cg} (h : C.addE g cs = 2) : C.add g cs = C := by
  unfold Ch.addE at h
  unfold Ch.add
  split at h
  · rw [if_pos (by assumption)]
    cases hz : addR C.n C.last.vol (-1) cs with
    | some v => rw [hz] at h; cases h
    | none => rfl
  · rw [if_neg (by assumption)]
theorem k1 : K0.writeE 8 (dataS 97) = 2 := by decide +kernel
theorem k2 : K0.writeE (-1) (dataS 97) = 2 := by decide +kernel
theorem k3 : K0.writeE 0 ⟨#[97]⟩ = 2 := by decide +kernel
theorem k4 : K0.rollE 1 = 2 := by decide +kernel
theorem k5 : K0.rollE (-1) = 2 := by decide +kernel
theorem k6 : K0.addE (0, 1) [(0, dataS 97), (0, dataS 98)] = 2 := by decide +kernel
theorem k7 : K0.addE (0, 1) [(8, dataS 97)] = 2 := by decide +kernel
theorem k8 : K0.addE (0, 1) [(0, dataS 255)] = 2 := by decide +kernel
theorem k9 : K0.addE (0, 1) [(0, dataS 97), (7, dataS 98)] = 0 := by decide +kernel
theorem k10 : K1.findE (0, 1) = 0 := by decide +kernel
theorem k11 : K2.chE 0 = 0 := by decide +kernel
theorem k11l : K2.chC 0 = [(0, dataS 97), (7, dataS 98)] := by decide +kernel
theorem k12 : K2.writeE 0 (dataS 99) = 0 := by decide +kernel
theorem k13 : K3.addE (1, 0) [] = 0 := by decide +kernel
def kZ : List ByteArray := [dataS 97, zB, zB, zB, zB, zB, zB, dataS 98]
theorem k14 : K4.live.take K4.n = kZ := by decide +kernel
def sK : ByteArray := ⟨#[97, 48, 48, 48, 48, 48, 48, 98]⟩
theorem k15 : ∀ k, k < kZ.length → kZ.getD k ByteArray.empty = dataS (letB sK k) := by decide +kernel
theorem k16 : K4.chE 1 = 0 := by decide +kernel
theorem k16l : K4.chC 1 = [] := by decide +kernel
theorem k17 : K4.chE (-1) = 5 := by decide +kernel
theorem dat (c : Int) (h : 0 ≤ c ∧ c < 256) (w : World) : Calls Try.prog 23 #[.int .u8 c] w fun e w' => e = .returned (.string (dataS c)) ∧ Below w.heap.size w w' := data_any c h.1 h.2 w
theorem puts_lit (w : World) (ps : List Pt) (cs : Array Value) (g : Nat) (hg : w.heap.size = g) (hc : cs = (ps.flatMap fun p => [Value.int .i64 p.1, Value.int .u8 p.2]).toArray) (hl : ps.length ≤ 100) (hw : ∀ p ∈ ps, wfP p) :
    InP (w.alloc (.cells cs 65)) (.slice (some ⟨g, 0, none⟩) ps.length ps.length) ps := by
  have hb := Blk.newAt (w := w) 65 cs hg
  refine ⟨_, _, rfl, by unfold maxLen; omega, hw, fun j hj => ⟨g, 0, rfl, ?_, ?_⟩⟩
  all_goals
    rw [hb.cell, hc]
    clear hb hc hw hl
  · induction ps generalizing j with
    | nil => simp at hj
    | cons p ps ih =>
      cases j with
      | zero => rfl
      | succ j =>
        have := ih j (by simpa using hj)
        simp only [List.flatMap_cons, List.cons_append, List.nil_append, List.getElem?_toArray, Nat.zero_add] at this ⊢
        rw [show (j + 1) * 2 = j * 2 + 1 + 1 from by omega, List.getElem?_cons_succ, List.getElem?_cons_succ]
        exact this
  · induction ps generalizing j with
    | nil => simp at hj
    | cons p ps ih =>
      cases j with
      | zero => rfl
      | succ j =>
        have := ih j (by simpa using hj)
        simp only [List.flatMap_cons, List.cons_append, List.nil_append, List.getElem?_toArray, Nat.zero_add] at this ⊢
        rw [show (j + 1) * 2 + 1 = j * 2 + 1 + 1 + 1 from by omega, List.getElem?_cons_succ, List.getElem?_cons_succ]
        exact this
set_option maxRecDepth 100000 in
set_option maxHeartbeats 8000000 in
theorem law_ChainKnown (W : World) : Calls Try.prog 7 #[] W fun e w' => e = .returned (.bool true) ∧ Below W.heap.size W w' := by
  have HW0 := Lib.hid (Below.refl W.heap.size W)
  go_enter Try.func7, Try.ntmps7
  go_wp2_with fail
  refine (new_any _ 8 (by decide) (by decide)).mono ?_
  rintro e wx hn
  obtain ⟨bc, rfl, ho⟩ := Ho.of_new HW0.out (Nat.le_refl _) hn
  have HH := Lib.hid (show Ho W.heap.size W wx bc K0 from ho)
  clear ho hn HW0
  go_wp2_with fail
  refine (dat 97 (by decide) _).mono ?_
  rintro e wx ⟨rfl, hb⟩
  replace HH := Lib.hid (HH.out.keep hb)
  clear hb
  go_wp2_with fail
  have hc := ho_write HH.out 8 (dataS 97)
  rw [k1] at hc
  rw [no_write k1] at hc
  refine hc.mono ?_
  clear hc
  rintro e wx ⟨rfl, ho, -⟩
  have HH := Lib.hid ho
  clear ho
  go_wp2_with fail
  refine (dat 97 (by decide) _).mono ?_
  rintro e wx ⟨rfl, hb⟩
  replace HH := Lib.hid (HH.out.keep hb)
  clear hb
  go_wp2_with fail
  have hc := ho_write HH.out (-1) (dataS 97)
  rw [k2] at hc
  rw [no_write k2] at hc
  refine hc.mono ?_
  clear hc
  rintro e wx ⟨rfl, ho, -⟩
  have HH := Lib.hid ho
  clear ho
  go_wp2_with fail
  have hc := ho_write HH.out 0 ⟨#[97]⟩
  rw [k3] at hc
  rw [no_write k3] at hc
  refine hc.mono ?_
  clear hc
  rintro e wx ⟨rfl, ho, -⟩
  have HH := Lib.hid ho
  clear ho
  go_wp2_with fail
  have hc := ho_roll HH.out 1
  rw [k4] at hc
  rw [no_roll k4] at hc
  refine hc.mono ?_
  clear hc
  rintro e wx ⟨rfl, ho, -⟩
  have HH := Lib.hid ho
  clear ho
  go_wp2_with fail
  have hc := ho_roll HH.out (-1)
  rw [k5] at hc
  rw [no_roll k5] at hc
  refine hc.mono ?_
  clear hc
  rintro e wx ⟨rfl, ho, -⟩
  have HH := Lib.hid ho
  clear ho
  go_wp2_with fail
  refine (guid_any 0 1 _).mono ?_
  rintro e wx ⟨rfl, hb⟩
  replace HH := Lib.hid (HH.out.keep hb)
  clear hb
  go_wp2_with fail
  have hb0 := (Below.refl wx.heap.size wx).alloc (Nat.le_refl _) (Obj.cells #[.int .i64 0, .int .u8 97, .int .i64 0, .int .u8 98] 65)
  have hin := puts_lit wx [((0 : Int), (97 : Int)), ((0 : Int), (98 : Int))] #[.int .i64 0, .int .u8 97, .int .i64 0, .int .u8 98] _ rfl rfl (by decide) (by
    intro p hp
    simp only [List.mem_cons, List.not_mem_nil, or_false] at hp
    rcases hp with rfl | rfl <;> exact ⟨rfl, by decide, by decide⟩)
  replace HH := Lib.hid (HH.out.keep hb0)
  have hc := changes_any _ _ _ hin
  rw [show ([((0 : Int), (97 : Int)), ((0 : Int), (98 : Int))].take 10).map cgP = [(0, dataS 97), (0, dataS 98)] from rfl] at hc
  refine hc.mono ?_
  clear hc hin hb0
  rintro e wx ⟨vc, rfl, ho, hb⟩
  replace HH := Lib.hid (HH.out.keep hb)
  have HV := Lib.hid ho.rd
  clear ho hb
  go_wp2_with fail
  have hc := ho_add HH.out (0, 1) ⟨rfl, rfl⟩ vc _ HV.out
  rw [k6] at hc
  rw [no_add k6] at hc
  refine hc.mono ?_
  clear hc
  rintro e wx ⟨rfl, ho, -⟩
  have HH := Lib.hid ho
  clear ho
  go_wp2_with fail
  refine (guid_any 0 1 _).mono ?_
  rintro e wx ⟨rfl, hb⟩
  replace HH := Lib.hid (HH.out.keep hb)
  clear hb
  go_wp2_with fail
  have hb0 := (Below.refl wx.heap.size wx).alloc (Nat.le_refl _) (Obj.cells #[.int .i64 8, .int .u8 97] 65)
  have hin := puts_lit wx [((8 : Int), (97 : Int))] #[.int .i64 8, .int .u8 97] _ rfl rfl (by decide) (by
    intro p hp
    simp only [List.mem_cons, List.not_mem_nil, or_false] at hp
    rcases hp with rfl <;> exact ⟨rfl, by decide, by decide⟩)
  replace HH := Lib.hid (HH.out.keep hb0)
  have hc := changes_any _ _ _ hin
  rw [show ([((8 : Int), (97 : Int))].take 10).map cgP = [(8, dataS 97)] from rfl] at hc
  refine hc.mono ?_
  clear hc hin hb0
  rintro e wx ⟨vc, rfl, ho, hb⟩
  replace HH := Lib.hid (HH.out.keep hb)
  have HV := Lib.hid ho.rd
  clear ho hb
  go_wp2_with fail
  have hc := ho_add HH.out (0, 1) ⟨rfl, rfl⟩ vc _ HV.out
  rw [k7] at hc
  rw [no_add k7] at hc
  refine hc.mono ?_
  clear hc
  rintro e wx ⟨rfl, ho, -⟩
  have HH := Lib.hid ho
  clear ho
  go_wp2_with fail
  refine (guid_any 0 1 _).mono ?_
  rintro e wx ⟨rfl, hb⟩
  replace HH := Lib.hid (HH.out.keep hb)
  clear hb
  go_wp2_with fail
  have hb0 := (Below.refl wx.heap.size wx).alloc (Nat.le_refl _) (Obj.cells #[.int .i64 0, .int .u8 255] 65)
  have hin := puts_lit wx [((0 : Int), (255 : Int))] #[.int .i64 0, .int .u8 255] _ rfl rfl (by decide) (by
    intro p hp
    simp only [List.mem_cons, List.not_mem_nil, or_false] at hp
    rcases hp with rfl <;> exact ⟨rfl, by decide, by decide⟩)
  replace HH := Lib.hid (HH.out.keep hb0)
  have hc := changes_any _ _ _ hin
  rw [show ([((0 : Int), (255 : Int))].take 10).map cgP = [(0, dataS 255)] from rfl] at hc
  refine hc.mono ?_
  clear hc hin hb0
  rintro e wx ⟨vc, rfl, ho, hb⟩
  replace HH := Lib.hid (HH.out.keep hb)
  have HV := Lib.hid ho.rd
  clear ho hb
  go_wp2_with fail
  have hc := ho_add HH.out (0, 1) ⟨rfl, rfl⟩ vc _ HV.out
  rw [k8] at hc
  rw [no_add k8] at hc
  refine hc.mono ?_
  clear hc
  rintro e wx ⟨rfl, ho, -⟩
  have HH := Lib.hid ho
  clear ho
  go_wp2_with fail
  refine (guid_any 0 1 _).mono ?_
  rintro e wx ⟨rfl, hb⟩
  replace HH := Lib.hid (HH.out.keep hb)
  clear hb
  go_wp2_with fail
  have hb0 := (Below.refl wx.heap.size wx).alloc (Nat.le_refl _) (Obj.cells #[.int .i64 0, .int .u8 97, .int .i64 7, .int .u8 98] 65)
  have hin := puts_lit wx [((0 : Int), (97 : Int)), ((7 : Int), (98 : Int))] #[.int .i64 0, .int .u8 97, .int .i64 7, .int .u8 98] _ rfl rfl (by decide) (by
    intro p hp
    simp only [List.mem_cons, List.not_mem_nil, or_false] at hp
    rcases hp with rfl | rfl <;> exact ⟨rfl, by decide, by decide⟩)
  replace HH := Lib.hid (HH.out.keep hb0)
  have hc := changes_any _ _ _ hin
  rw [show ([((0 : Int), (97 : Int)), ((7 : Int), (98 : Int))].take 10).map cgP = [(0, dataS 97), (7, dataS 98)] from rfl] at hc
  refine hc.mono ?_
  clear hc hin hb0
  rintro e wx ⟨vc, rfl, ho, hb⟩
  replace HH := Lib.hid (HH.out.keep hb)
  have HV := Lib.hid ho.rd
  clear ho hb
  go_wp2_with fail
  have hc := ho_add HH.out (0, 1) ⟨rfl, rfl⟩ vc _ HV.out
  rw [k9] at hc
  rw [show K0.add (0, 1) [(0, dataS 97), (7, dataS 98)] = K1 from rfl] at hc
  refine hc.mono ?_
  clear hc
  rintro e wx ⟨rfl, ho, -⟩
  have HH := Lib.hid ho
  clear ho
  go_wp2_with fail
  refine (guid_any 0 1 _).mono ?_
  rintro e wx ⟨rfl, hb⟩
  replace HH := Lib.hid (HH.out.keep hb)
  clear hb
  go_wp2_with fail
  have hc := ho_hide HH.out (0, 1)
  rw [k10] at hc
  rw [show K1.hide (0, 1) = K2 from rfl] at hc
  refine hc.mono ?_
  clear hc
  rintro e wx ⟨rfl, ho, -⟩
  have HH := Lib.hid ho
  clear ho
  go_wp2_with fail
  have hc := ho_chg HH.out (0)
  rw [k11] at hc
  rw [k11l] at hc
  refine hc.mono ?_
  clear hc
  rintro e wx ⟨vx, rfl, ho, hb⟩
  replace HH := Lib.hid (HH.out.keep hb)
  obtain ⟨ax, cx, rfl, -⟩ := ho.rd
  clear ho hb
  go_wp2_with fail
  refine (dat 99 (by decide) _).mono ?_
  rintro e wx ⟨rfl, hb⟩
  replace HH := Lib.hid (HH.out.keep hb)
  clear hb
  go_wp2_with fail
  have hc := ho_write HH.out 0 (dataS 99)
  rw [k12] at hc
  rw [show K2.write 0 (dataS 99) = K3 from rfl] at hc
  refine hc.mono ?_
  clear hc
  rintro e wx ⟨rfl, ho, -⟩
  have HH := Lib.hid ho
  clear ho
  go_wp2_with fail
  refine (guid_any 1 0 _).mono ?_
  rintro e wx ⟨rfl, hb⟩
  replace HH := Lib.hid (HH.out.keep hb)
  clear hb
  go_wp2_with fail
  have hc := ho_add HH.out (1, 0) ⟨rfl, rfl⟩ (.slice none 0 0) [] (InC.nil_ _ _ _)
  rw [k13] at hc
  rw [show K3.add (1, 0) [] = K4 from rfl] at hc
  refine hc.mono ?_
  clear hc
  rintro e wx ⟨rfl, ho, -⟩
  have HH := Lib.hid ho
  clear ho
  go_wp2_with fail
  have hc := ho_live HH.out
  rw [k14] at hc
  refine hc.mono ?_
  clear hc
  rintro e wx ⟨v1, rfl, ho, hb⟩
  replace HH := Lib.hid (HH.out.keep hb)
  have HV := Lib.hid ho.rd
  clear ho hb
  go_wp2_with fail
  refine (blocks_any _ v1 _ sK HV.out rfl (by decide) k15).mono ?_
  rintro e wx ⟨rfl, hb⟩
  replace HH := Lib.hid (HH.out.keep hb)
  clear hb HV
  go_wp2_with fail
  have hc := ho_chg HH.out (1)
  rw [k16] at hc
  rw [k16l] at hc
  refine hc.mono ?_
  clear hc
  rintro e wx ⟨vy, rfl, ho, hb⟩
  replace HH := Lib.hid (HH.out.keep hb)
  obtain ⟨ay, cy, rfl, -⟩ := ho.rd
  clear ho hb
  go_wp2_with fail
  have hc := ho_chg HH.out (-1)
  rw [k17] at hc
  refine hc.mono ?_
  clear hc
  rintro e wx ⟨vz, rfl, ho, hb⟩
  replace HH := Lib.hid (HH.out.keep hb)
  clear ho hb
  go_wp2_with fail
  refine (guid_any 1 1 _).mono ?_
  rintro e wx ⟨rfl, hb⟩
  replace HH := Lib.hid (HH.out.keep hb)
  clear hb
  go_wp2_with fail
  refine (read_nil (1, 1)).mono ?_
  rintro e wx ⟨rfl, hb⟩
  replace HH := Lib.hid (HH.out.keep hb)
  clear hb
  go_wp2_with fail
  refine (chg_nil 0).mono ?_
  rintro e wy ⟨rfl, rfl⟩
  go_wp2_with fail
  refine (works_any _).mono ?_
  rintro e wx ⟨rfl, hb⟩
  replace HH := Lib.hid (HH.out.keep hb)
  clear hb
  go_wp2_with fail
  refine (dat 97 (by decide) _).mono ?_
  rintro e wx ⟨rfl, hb⟩
  replace HH := Lib.hid (HH.out.keep hb)
  clear hb
  go_wp2_with fail
  refine (write_nil 0 (dataS 97)).mono ?_
  rintro e wy ⟨rfl, rfl⟩
  go_wp2_with fail
  refine (guid_any 1 1 _).mono ?_
  rintro e wx ⟨rfl, hb⟩
  replace HH := Lib.hid (HH.out.keep hb)
  clear hb
  go_wp2_with fail
  refine (snap_nil (1, 1)).mono ?_
  rintro e wx ⟨rfl, hb⟩
  replace HH := Lib.hid (HH.out.keep hb)
  clear hb
  go_wp2_with fail
  refine (guid_any 1 1 _).mono ?_
  rintro e wx ⟨rfl, hb⟩
  replace HH := Lib.hid (HH.out.keep hb)
  clear hb
  go_wp2_with fail
  refine (add_nil (1, 1) _).mono ?_
  rintro e wx ⟨rfl, hb⟩
  replace HH := Lib.hid (HH.out.keep hb)
  clear hb
  go_wp2_with fail
  refine (roll_nil 0).mono ?_
  rintro e wy ⟨rfl, rfl⟩
  go_wp2_with fail
  refine (guid_any 1 1 _).mono ?_
  rintro e wx ⟨rfl, hb⟩
  replace HH := Lib.hid (HH.out.keep hb)
  clear hb
  go_wp2_with fail
  refine (hide_nil (1, 1)).mono ?_
  rintro e wx ⟨rfl, hb⟩
  replace HH := Lib.hid (HH.out.keep hb)
  clear hb
  go_wp2_with fail
  refine (list_nil).mono ?_
  rintro e wy ⟨rfl, rfl⟩
  go_wp2_with fail
  refine (live_nil).mono ?_
  rintro e wy ⟨rfl, rfl⟩
  go_wp2_with fail
  refine (copy_nil).mono ?_
  rintro e wy ⟨rfl, rfl⟩
  go_wp2_with fail
  refine (new_bad _ 0 (.inl (by decide))).mono ?_
  rintro e wy ⟨rfl, rfl⟩
  go_wp2_with fail
  refine (new_bad _ 9 (.inr (by decide))).mono ?_
  rintro e wy ⟨rfl, rfl⟩
  go_wp2_with fail
  refine (new_any _ 1 (by decide) (by decide)).mono ?_
  rintro e wz ⟨bd, rfl, -, -, hb⟩
  replace HH := Lib.hid (HH.out.keep hb)
  clear hb
  go_wp2
  go_ret
  exact ⟨rfl, HH.out.below⟩
end Go.Proofs.Ytjeebpklinpmfaa
