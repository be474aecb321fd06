/-
  GUIDS (without slices of them) (printed by wip/gen-stma.py).
-/
import Derived.Test.YtimgecflcackbaaRows
import Derived.Test.YtimgecflcackbaaSlice
import Derived.Lib.Hide
import Derived.Laws.StructEq
namespace Go.Proofs.Ytimgecflcackbaa
open Go.RowKit

/-- a guid: its epoch, its count -/
abbrev Gd := Int × Int
def wfG (g : Gd) : Prop := (Lit.int .u64 g.1).wf = true ∧ (Lit.int .u64 g.2).wf = true
def aggG (g : Gd) : Value := .agg #[.int .u64 g.1, .int .u64 g.2]
theorem guid_info : (Try.prog.info? 26).map (fun i => (i.zero, i.size, i.bytes)) = some (some (.agg #[.int .u64 0, .int .u64 0]), 2, 16) := by kernel_rfl
end Go.Proofs.Ytimgecflcackbaa
