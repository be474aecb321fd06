/-
  works, WALKED (printed by wip/gen-chw.py).
-/
import Derived.Test.YtjeebpklinpmfaaChN
namespace Go.Proofs.Ytjeebpklinpmfaa
open Go.RowKit Reg Go.WideShapes Go.ChangeShapes

def W0 : Ch := Ch.new 2
def W1 : Ch := W0.write 0 (dataS 97)
def W2 : Ch := W1.snap (1, 1)
def W3 : Ch := W2.write 1 (dataS 97)
def W4 : Ch := W3.add (1, 2) [(1, dataS 97)]
def W5 : Ch := W4.hide (1, 1)
def W6 : Ch := W5.roll 1
theorem e1 : W0.writeE 0 (dataS 97) = 0 := by decide +kernel
theorem e2 : W1.next (1, 1) = 0 := by decide +kernel
theorem e3 : W2.writeE 1 (dataS 97) = 0 := by decide +kernel
theorem e4 : W3.findE (1, 1) = 0 := by decide +kernel
theorem l4 : W3.readL (1, 1) = [dataS 97, zB] := by decide +kernel
theorem l5 : W3.live.take W3.n = [dataS 97, dataS 97] := by decide +kernel
theorem e6 : W3.addE (1, 2) [(1, dataS 97)] = 0 := by decide +kernel
theorem e7 : W4.chE 0 = 0 := by decide +kernel
theorem l7 : W4.chC 0 = [(0, dataS 97)] := by decide +kernel
theorem e8 : W4.chE 1 = 0 := by decide +kernel
theorem l8 : W4.chC 1 = [(1, dataS 97)] := by decide +kernel
theorem e9 : W4.chE 2 = 5 := by decide +kernel
theorem e10 : W4.next (1, 2) = 2 := by decide +kernel
theorem s10 : W4.snap (1, 2) = W4 := by unfold Ch.snap; rw [if_neg (by rw [e10]; decide)]
theorem e11 : W4.next (0, 0) = 2 := by decide +kernel
theorem s11 : W4.snap (0, 0) = W4 := by unfold Ch.snap; rw [if_neg (by rw [e11]; decide)]
theorem e12 : W4.addE (2, 1) [(1, dataS 97), (0, dataS 97)] = 2 := by decide +kernel
theorem s12 : W4.add (2, 1) [(1, dataS 97), (0, dataS 97)] = W4 := by
  unfold Ch.add
  rw [if_pos (by decide +kernel), show addR W4.n W4.last.vol (-1) [(1, dataS 97), (0, dataS 97)] = none from by decide +kernel]
theorem e13 : W4.findE (1, 1) = 0 := by decide +kernel
theorem e14 : W5.findE (1, 1) = 14 := by decide +kernel
theorem s14 : W5.hide (1, 1) = W5 := by unfold Ch.hide; rw [if_neg (by rw [e14]; decide)]
theorem e15 : W5.findE (3, 1) = 5 := by decide +kernel
theorem e16 : W5.rollE 1 = 0 := by decide +kernel
theorem l17 : W6.live.take W6.n = [dataS 97, zB] := by decide +kernel
theorem l18 : W6.snaps.map (·.g) = [(1, 1)] := by decide +kernel
def sA0 : ByteArray := ⟨#[97, 48]⟩
def sAA : ByteArray := ⟨#[97, 97]⟩
theorem b1 : ∀ k, k < [dataS 97, zB].length → [dataS 97, zB].getD k ByteArray.empty = dataS (letB sA0 k) := by decide +kernel
theorem b2 : ∀ k, k < [dataS 97, dataS 97].length → [dataS 97, dataS 97].getD k ByteArray.empty = dataS (letB sAA k) := by decide +kernel
theorem d97 (w : World) : Calls Try.prog 23 #[.int .u8 97] w fun e w' => e = .returned (.string (dataS 97)) ∧ Below w.heap.size w w' := data_any 97 (by decide) (by decide) w
set_option maxRecDepth 100000 in
set_option maxHeartbeats 4000000 in
theorem works_any (w : World) : Calls Try.prog 8 #[] w fun e w' => e = .returned (.bool true) ∧ Below w.heap.size w w' := by
  have HW0 := Lib.hid (Below.refl w.heap.size w)
  go_enter Try.func8, Try.ntmps8
  go_wp2_with fail
  refine (new_any _ 2 (by decide) (by decide)).mono ?_
  rintro e wx hn
  obtain ⟨bc, rfl, ho⟩ := Ho.of_new HW0.out (Nat.le_refl _) hn
  have HH := Lib.hid (show Ho w.heap.size w wx bc W0 from ho)
  clear ho hn HW0
  go_wp2_with fail
  refine (d97 _).mono ?_
  rintro e wx ⟨rfl, hb⟩
  replace HH := Lib.hid (HH.out.keep hb)
  clear hb
  go_wp2_with fail
  have hc := ho_write HH.out 0 (dataS 97)
  rw [e1] at hc
  rw [show W0.write 0 (dataS 97) = W1 from rfl] at hc
  refine hc.mono ?_
  clear hc
  rintro e wx ⟨rfl, ho, -⟩
  have HH := Lib.hid ho
  clear ho
  go_wp2_with fail
  refine (guid_any 1 1 _).mono ?_
  rintro e wx ⟨rfl, hb⟩
  replace HH := Lib.hid (HH.out.keep hb)
  clear hb
  go_wp2_with fail
  have hc := ho_snap HH.out (1, 1) ⟨rfl, rfl⟩
  rw [e2] at hc
  rw [show W1.snap (1, 1) = W2 from rfl] at hc
  refine hc.mono ?_
  clear hc
  rintro e wx ⟨rfl, ho, -⟩
  have HH := Lib.hid ho
  clear ho
  go_wp2_with fail
  refine (d97 _).mono ?_
  rintro e wx ⟨rfl, hb⟩
  replace HH := Lib.hid (HH.out.keep hb)
  clear hb
  go_wp2_with fail
  have hc := ho_write HH.out 1 (dataS 97)
  rw [e3] at hc
  rw [show W2.write 1 (dataS 97) = W3 from rfl] at hc
  refine hc.mono ?_
  clear hc
  rintro e wx ⟨rfl, ho, -⟩
  have HH := Lib.hid ho
  clear ho
  go_wp2_with fail
  refine (guid_any 1 1 _).mono ?_
  rintro e wx ⟨rfl, hb⟩
  replace HH := Lib.hid (HH.out.keep hb)
  clear hb
  go_wp2_with fail
  have hc := ho_read HH.out (1, 1)
  rw [e4, l4] at hc
  refine hc.mono ?_
  clear hc
  rintro e wx ⟨v, rfl, ho, hb⟩
  replace HH := Lib.hid (HH.out.keep hb)
  have HV := Lib.hid ho.rd
  clear ho hb
  go_wp2_with fail
  refine (blocks_any _ v _ sA0 HV.out rfl (by decide) b1).mono ?_
  rintro e wx ⟨rfl, hb⟩
  replace HH := Lib.hid (HH.out.keep hb)
  clear hb HV
  go_wp2_with fail
  have hc := ho_live HH.out
  rw [l5] at hc
  refine hc.mono ?_
  clear hc
  rintro e wx ⟨v1, rfl, ho, hb⟩
  replace HH := Lib.hid (HH.out.keep hb)
  have HV := Lib.hid ho.rd
  clear ho hb
  go_wp2_with fail
  refine (blocks_any _ v1 _ sAA HV.out rfl (by decide) b2).mono ?_
  rintro e wx ⟨rfl, hb⟩
  replace HH := Lib.hid (HH.out.keep hb)
  clear hb HV
  go_wp2_with fail
  refine (guid_any 1 2 _).mono ?_
  rintro e wx ⟨rfl, hb⟩
  replace HH := Lib.hid (HH.out.keep hb)
  clear hb
  go_wp2_with fail
  refine (d97 _).mono ?_
  rintro e wx ⟨rfl, hb⟩
  replace HH := Lib.hid (HH.out.keep hb)
  clear hb
  go_wp2_with fail
  have hb0 := (Below.refl wx.heap.size wx).alloc (Nat.le_refl _) (Obj.cells #[.int .i64 1, .string (dataS 97)] 48)
  have hlit := Blk.new wx 48 #[.int .i64 1, .string (dataS 97)]
  have hin : InC (wx.alloc (Obj.cells #[.int .i64 1, .string (dataS 97)] 48)) (.slice (some ⟨wx.heap.size, 0, none⟩) 1 1) [(1, dataS 97)] := by
    refine ⟨_, _, rfl, by decide, fun j hj => ?_⟩
    obtain rfl : j = 0 := by simpa using hj
    exact ⟨_, _, rfl, hlit.cell 0, hlit.cell 1⟩
  have hc := ho_add (HH.out.keep hb0) (1, 2) ⟨rfl, rfl⟩ _ _ hin
  rw [e6] at hc
  rw [show W3.add (1, 2) [(1, dataS 97)] = W4 from rfl] at hc
  refine hc.mono ?_
  clear hc hin hlit hb0
  rintro e wx ⟨rfl, ho, -⟩
  have HH := Lib.hid ho
  clear ho
  go_wp2_with fail
  have hc := ho_chg HH.out 0
  rw [e7] at hc
  rw [l7] at hc
  refine hc.mono ?_
  clear hc
  rintro e wx ⟨vx, rfl, ho, hb⟩
  replace HH := Lib.hid (HH.out.keep hb)
  have HVx := Lib.hid ho.rd
  clear ho hb
  go_wp2_with fail
  have hc := ho_chg HH.out 1
  rw [e8] at hc
  rw [l8] at hc
  refine hc.mono ?_
  clear hc
  rintro e wx ⟨vy, rfl, ho, hb⟩
  replace HH := Lib.hid (HH.out.keep hb)
  replace HVx := Lib.hid (HVx.out.keep hb)
  have HVy := Lib.hid ho.rd
  clear ho hb
  go_wp2_with fail
  have hc := ho_chg HH.out 2
  rw [e9] at hc
  refine hc.mono ?_
  clear hc
  rintro e wx ⟨vz, rfl, ho, hb⟩
  replace HH := Lib.hid (HH.out.keep hb)
  replace HVx := Lib.hid (HVx.out.keep hb)
  replace HVy := Lib.hid (HVy.out.keep hb)
  clear ho hb
  obtain ⟨ax, cx, rfl, -, hx⟩ := HVx.out
  obtain ⟨gx, ox, rfl, x0, -⟩ := hx 0 (by decide)
  obtain ⟨ay, cy, rfl, -, hy⟩ := HVy.out
  obtain ⟨gy, oy, rfl, y0, y1⟩ := hy 0 (by decide)
  have X0 := Lib.hid x0
  have Y0 := Lib.hid y0
  have Y1 := Lib.hid y1
  clear hx hy x0 y0 y1 HVx HVy
  go_wp2_with fail
  refine wp_region_below (by kernel_rfl) (by kernel_rfl) ?_
  have a0 : ∀ z : Bw wx, z.w.cell? ⟨gx, ox, none⟩ = some (.int .i64 0) := fun z => z.cell X0.out
  have a1 : ∀ z : Bw wx, z.w.cell? ⟨gy, oy, none⟩ = some (.int .i64 1) := fun z => z.cell Y0.out
  have a2 : ∀ z : Bw wx, z.w.cell? ⟨gy, oy + 1, none⟩ = some (.string (dataS 97)) := fun z => z.cell Y1.out
  repeat (go_big_quiet_step (first | (go_at_call 23; exact below_call (d97 _))))
  refine wpQuiet_nil ?_
  intro w10 hb
  replace HH := Lib.hid (HH.out.keep hb)
  clear hb a0 a1 a2 X0 Y0 Y1
  go_wp2_with fail
  refine (guid_any 1 2 _).mono ?_
  rintro e wx ⟨rfl, hb⟩
  replace HH := Lib.hid (HH.out.keep hb)
  clear hb
  go_wp2_with fail
  have hc := ho_snap HH.out (1, 2) ⟨rfl, rfl⟩
  rw [e10] at hc
  rw [s10] at hc
  refine hc.mono ?_
  clear hc
  rintro e wx ⟨rfl, ho, -⟩
  have HH := Lib.hid ho
  clear ho
  go_wp2_with fail
  refine (guid_any 0 0 _).mono ?_
  rintro e wx ⟨rfl, hb⟩
  replace HH := Lib.hid (HH.out.keep hb)
  clear hb
  go_wp2_with fail
  have hc := ho_snap HH.out (0, 0) ⟨rfl, rfl⟩
  rw [e11] at hc
  rw [s11] at hc
  refine hc.mono ?_
  clear hc
  rintro e wx ⟨rfl, ho, -⟩
  have HH := Lib.hid ho
  clear ho
  go_wp2_with fail
  refine (guid_any 2 1 _).mono ?_
  rintro e wx ⟨rfl, hb⟩
  replace HH := Lib.hid (HH.out.keep hb)
  clear hb
  go_wp2_with fail
  have hb0 := (Below.refl wx.heap.size wx).alloc (Nat.le_refl _) (Obj.cells #[.int .i64 1, .int .u8 97, .int .i64 0, .int .u8 97] 65)
  have hlit := Blk.new wx 65 #[.int .i64 1, .int .u8 97, .int .i64 0, .int .u8 97]
  have hin : InP (wx.alloc (Obj.cells #[.int .i64 1, .int .u8 97, .int .i64 0, .int .u8 97] 65)) (.slice (some ⟨wx.heap.size, 0, none⟩) 2 2) [(1, 97), (0, 97)] := by
    refine ⟨_, _, rfl, by decide, ?_, fun j hj => ?_⟩
    · intro p hp
      simp only [List.mem_cons, List.not_mem_nil, or_false] at hp
      rcases hp with rfl | rfl <;> exact ⟨rfl, by decide, by decide⟩
    · have hj2 : j = 0 ∨ j = 1 := by simp at hj; omega
      rcases hj2 with rfl | rfl
      · exact ⟨_, _, rfl, hlit.cell 0, hlit.cell 1⟩
      · exact ⟨_, _, rfl, hlit.cell 2, hlit.cell 3⟩
  replace HH := Lib.hid (HH.out.keep hb0)
  have hc := changes_any _ _ _ hin
  rw [show ([((1 : Int), (97 : Int)), (0, 97)].take 10).map cgP = [(1, dataS 97), (0, dataS 97)] from rfl] at hc
  refine hc.mono ?_
  clear hc hin hlit hb0
  rintro e wx ⟨vc, rfl, ho, hb⟩
  replace HH := Lib.hid (HH.out.keep hb)
  have HV := Lib.hid ho.rd
  clear ho hb
  go_wp2_with fail
  have hc := ho_add HH.out (2, 1) ⟨rfl, rfl⟩ vc _ HV.out
  rw [e12] at hc
  rw [s12] at hc
  refine hc.mono ?_
  clear hc
  rintro e wx ⟨rfl, ho, -⟩
  have HH := Lib.hid ho
  clear ho
  go_wp2_with fail
  refine (guid_any 1 1 _).mono ?_
  rintro e wx ⟨rfl, hb⟩
  replace HH := Lib.hid (HH.out.keep hb)
  clear hb
  go_wp2_with fail
  have hc := ho_hide HH.out (1, 1)
  rw [e13] at hc
  rw [show W4.hide (1, 1) = W5 from rfl] at hc
  refine hc.mono ?_
  clear hc
  rintro e wx ⟨rfl, ho, -⟩
  have HH := Lib.hid ho
  clear ho
  go_wp2_with fail
  refine (guid_any 1 1 _).mono ?_
  rintro e wx ⟨rfl, hb⟩
  replace HH := Lib.hid (HH.out.keep hb)
  clear hb
  go_wp2_with fail
  have hc := ho_hide HH.out (1, 1)
  rw [e14] at hc
  rw [s14] at hc
  refine hc.mono ?_
  clear hc
  rintro e wx ⟨rfl, ho, -⟩
  have HH := Lib.hid ho
  clear ho
  go_wp2_with fail
  refine (guid_any 1 1 _).mono ?_
  rintro e wx ⟨rfl, hb⟩
  replace HH := Lib.hid (HH.out.keep hb)
  clear hb
  go_wp2_with fail
  have hc := ho_read HH.out (1, 1)
  rw [e14] at hc
  refine hc.mono ?_
  clear hc
  rintro e wx ⟨vre14, rfl, ho, hb⟩
  replace HH := Lib.hid (HH.out.keep hb)
  clear ho hb
  go_wp2_with fail
  refine (guid_any 3 1 _).mono ?_
  rintro e wx ⟨rfl, hb⟩
  replace HH := Lib.hid (HH.out.keep hb)
  clear hb
  go_wp2_with fail
  have hc := ho_read HH.out (3, 1)
  rw [e15] at hc
  refine hc.mono ?_
  clear hc
  rintro e wx ⟨vre15, rfl, ho, hb⟩
  replace HH := Lib.hid (HH.out.keep hb)
  clear ho hb
  go_wp2_with fail
  have hc := ho_roll HH.out 1
  rw [e16] at hc
  rw [show W5.roll 1 = W6 from rfl] at hc
  refine hc.mono ?_
  clear hc
  rintro e wx ⟨rfl, ho, -⟩
  have HH := Lib.hid ho
  clear ho
  go_wp2_with fail
  have hc := ho_live HH.out
  rw [l17] at hc
  refine hc.mono ?_
  clear hc
  rintro e wx ⟨v1, rfl, ho, hb⟩
  replace HH := Lib.hid (HH.out.keep hb)
  have HV := Lib.hid ho.rd
  clear ho hb
  go_wp2_with fail
  refine (blocks_any _ v1 _ sA0 HV.out rfl (by decide) b1).mono ?_
  rintro e wx ⟨rfl, hb⟩
  replace HH := Lib.hid (HH.out.keep hb)
  clear hb HV
  go_wp2_with fail
  have hc := ho_list HH.out
  rw [l18] at hc
  refine hc.mono ?_
  clear hc
  rintro e wx ⟨vg, rfl, ho, hb⟩
  replace HH := Lib.hid (HH.out.keep hb)
  obtain ⟨ag, cg, rfl, -⟩ := ho.rd.open_
  clear ho hb
  go_wp2
  go_ret
  exact ⟨rfl, HH.out.below⟩
end Go.Proofs.Ytjeebpklinpmfaa
