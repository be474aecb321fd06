/-
  TWO GUIDS COMPARED.
-/
import Derived.Test.YtikimmhkfjaijaaGuids
import Derived.ChangeKeysEq
namespace Go.Proofs.Ytikimmhkfjaijaa
open Go.RowKit

theorem guid_fields : (Try.prog.fieldsOf 28).toList.map (fun f => (decide (f.name = "_"), f.type, f.offset)) = [(false, 22, 0), (false, 22, 1)] := by kernel_rfl
theorem run_equalIn_guid (d : Nat) (x y x' y' : Int) (w : World) :
    (Op.equalIn (d + 2) 28 (.agg #[.int .u64 x, .int .u64 y]) (.agg #[.int .u64 x', .int .u64 y'])).run Try.prog w = .ok (x == x' && y == y') w := by
  rw [run_equalIn_struct (P := Try.prog) w (d + 1) 28 #[.int .u64 x, .int .u64 y] #[.int .u64 x', .int .u64 y'] (by kernel_rfl) (by kernel_rfl)]
  have hf := guid_fields
  generalize (Try.prog.fieldsOf 28).toList = fs at hf
  obtain ⟨f0, f1, rfl⟩ : ∃ f0 f1, fs = [f0, f1] := by
    have hl := congrArg List.length hf
    rw [List.length_map] at hl
    cases fs with
    | nil => simp at hl
    | cons f0 fs => cases fs with
      | nil => simp at hl
      | cons f1 fs => cases fs with
        | nil => exact ⟨f0, f1, rfl⟩
        | cons f2 fs => simp at hl
  · simp only [List.map_cons, List.map_nil, List.cons.injEq, Prod.mk.injEq, decide_eq_false_iff_not, and_true] at hf
    obtain ⟨⟨n0, t0, o0⟩, n1, t1, o1⟩ := hf
    have hk : Try.prog.plainKey 22 = true := by kernel_rfl
    have p0 : ∀ (a b : Int), (part 22 #[Value.int .u64 a, .int .u64 b] 0).run Try.prog w = .ok (.int .u64 a) w := fun a b => run_part_plain w hk rfl
    have p1 : ∀ (a b : Int), (part 22 #[Value.int .u64 a, .int .u64 b] 1).run Try.prog w = .ok (.int .u64 b) w := fun a b => run_part_plain w hk rfl
    have e0 := run_equalIn_int (P := Try.prog) w d 22 .u64 .u64 x x' Try.underlying22
    have e1 := run_equalIn_int (P := Try.prog) w d 22 .u64 .u64 y y' Try.underlying22
    unfold Op.eqFields
    rw [if_pos n0]
    simp only [Sem.run_bind, t0, o0, p0, Result.andThen_ok, e0]
    cases h0 : x == x' with
    | false => rfl
    | true =>
      simp only [Bool.not_true, Bool.false_eq_true, if_false, Bool.true_and]
      unfold Op.eqFields
      rw [if_pos n1]
      simp only [Sem.run_bind, t1, o1, p1, Result.andThen_ok, e1]
      cases h1 : y == y' with
      | false => rfl
      | true => rfl
theorem run_eq_guid (x y x' y' : Int) (w : World) : (binOp .eql 28 (.agg #[.int .u64 x, .int .u64 y]) (.agg #[.int .u64 x', .int .u64 y'])).run Try.prog w = .ok (.bool (x == x' && y == y')) w := by
  simp only [binOp]
  simp [Op.equal, Op.maxDepth, run_equalIn_guid 9998 x y x' y' w]
theorem run_neq_guid (x y x' y' : Int) (w : World) : (binOp .neq 28 (.agg #[.int .u64 x, .int .u64 y]) (.agg #[.int .u64 x', .int .u64 y'])).run Try.prog w = .ok (.bool (!(x == x' && y == y'))) w := by
  simp only [binOp]
  simp [Op.equal, Op.maxDepth, run_equalIn_guid 9998 x y x' y' w]
/-- whether two guids are one -/
def sameG (a b : Gd) : Bool := a.1 == b.1 && a.2 == b.2
theorem sameG_iff {a b : Gd} : sameG a b = true ↔ a = b := by
  unfold sameG
  rw [Bool.and_eq_true, beq_iff_eq, beq_iff_eq]
  exact Prod.ext_iff.symm
end Go.Proofs.Ytikimmhkfjaijaa
