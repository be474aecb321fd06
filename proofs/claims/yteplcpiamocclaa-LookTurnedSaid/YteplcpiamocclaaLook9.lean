/-
  LOOK: One, Settled.
-/
import Derived.Test.YteplcpiamocclaaLook8
namespace Go.Proofs.Yteplcpiamocclaa
open Go.RowKit Reg Go.ChangeShapes

theorem one_any (v : Value) (es : List El) (w : World) (hv : InS w v es) :
    Calls Try.prog 14 #[v] w fun e w' => e = .returned (.bool (decide (prims es ≤ 1))) ∧ Below w.heap.size w w' := by
  have hp := primaries_any v es w hv
  have hr : decide (prims es ≤ 1) = decide ((prims es : Int) ≤ 1) := by simp only [decide_eq_decide]; omega
  rw [hr]
  generalize (prims es : Int) = z at *
  obtain ⟨a, c, rfl⟩ := hv.slice_
  have HP := Lib.hid hp
  clear hp hv hr
  go_enter Try.func14, Try.ntmps14
  go_wp2_with fail
  refine HP.out.mono ?_
  rintro e w1 ⟨rfl, hb⟩
  have HB := Lib.hid hb
  clear hb
  go_wp2
  go_ret
  exact ⟨rfl, HB.out⟩
/-- is all settled? -/
def settledB (es : List El) : Bool := decide (prims es = 1) && !(List.range es.length).any (fun j => otherB (kn es) (nth es j))
set_option maxRecDepth 100000 in
theorem settled_any (v : Value) (es : List El) (w : World) (hv : InS w v es) :
    Calls Try.prog 15 #[v] w fun e w' => e = .returned (.bool (settledB es)) ∧ Below w.heap.size w w' := by
  have hk := known_any v es w hv
  have hp := fun w1 (hb : Below w.heap.size w w1) => primaries_any v es w1 (hv.keep hb)
  have hi : ∀ w1 q u, Below w.heap.size w w1 → Blk w1 q 35 #[u] → InG w1 u (kn es) → Calls Try.prog 31 #[v, .func (.func 40) #[] #[.pointer (some ⟨q, 0, none⟩)]] w1 fun e w' =>
      e = .returned (.bool ((List.range es.length).any (fun j => otherB (kn es) (nth es j)))) ∧ Below w1.heap.size w1 w' := fun w1 q u hb hbl hu => by
    have hv1 := hv.keep hb
    refine containsS_1 _ _ (fun j => otherB (kn es) (nth es j)) v es _ hv1 (fun _ _ => by rfl) fun j hj w2 hb2 => ?_
    have hc := (hbl.keep hb2).cell 0
    exact settled1_any _ _ (kn es) u w2 (by rw [hc]; rfl) (hu.keep hb2) ((hv1.keep hb2).ok j hj)
  unfold settledB
  have hr : decide (prims es = 1) = ((prims es : Int) == 1) := by
    rw [Bool.eq_iff_iff, decide_eq_true_iff, beq_iff_eq]
    omega
  rw [hr]
  generalize (prims es : Int) = z at *
  generalize (List.range es.length).any (fun j => otherB (kn es) (nth es j)) = b2 at *
  obtain ⟨a, c, rfl⟩ := hv.slice_
  have HK := Lib.hid hk
  have HP := Lib.hid hp
  have HI := Lib.hid hi
  clear hk hi hv hp hr
  go_enter Try.func15, Try.ntmps15
  go_wp2_with fail
  refine HK.out.mono ?_
  rintro e w1 ⟨u, rfl, hu, hb⟩
  obtain ⟨ua, uc, rfl⟩ := hu.slice_
  have hba := (Below.refl w1.heap.size w1).alloc (Nat.le_refl _) (Obj.cells #[.slice ua (kn es).length uc] 35)
  have hB0 := hb.trans (hba.mono hb.size)
  have HB0 := Lib.hid hB0
  have HBL := Lib.hid (Blk.new w1 35 #[.slice ua (kn es).length uc])
  have HU := Lib.hid (hu.keep hba)
  have HP1 := Lib.hid (HP.out _ hB0)
  have hfl : (Instr.field 37 (.agg #[.int .u64 0, .int .i64 0, .bool false, .slice ua (kn es).length uc]) 3).run Try.prog w1 = .ok (.slice ua (kn es).length uc) w1 := by rfl
  clear hu hb HK hba hB0 HP
  go_wp2_with fail
  refine HP1.out.mono ?_
  rintro e w2 ⟨rfl, hb⟩
  have HB1 := Lib.hid (HB0.out.trans (hb.mono HB0.out.size))
  have HI1 := Lib.hid (HI.out w2 _ _ HB1.out (HBL.out.keep hb) (HU.out.keep hb))
  clear hb HP1 HB0 HBL HU HI
  cases hz : (z == 1) with
  | false =>
    have HZ := Lib.hid hz
    go_wp2
    go_ret
    exact ⟨by rw [HZ.out]; rfl, HB1.out⟩
  | true =>
    have HZ := Lib.hid hz
    go_wp2_with fail
    refine HI1.out.mono ?_
    rintro e w3 ⟨rfl, hb⟩
    have HB2 := Lib.hid (HB1.out.trans (hb.mono HB1.out.size))
    clear hb HI1 HB1
    go_wp2
    go_ret
    exact ⟨by rw [HZ.out]; rfl, HB2.out⟩
end Go.Proofs.Yteplcpiamocclaa
