/-
  No cell of these rows narrows 'for every input' (looked for: loops, veiled, ifaces, maps, wideKeys, modest, calm, conditions, laid).
  DERIVED. THE GIVEN ROWS OF THIS SEAT. 6 by the template 'for every input the law returns true; each argument reads behind the call as it read before'; 0 by the template 'total and deterministic' (their statements: YtimgecflcackbaaTotals.lean).
  GIVEN WITH THE SEED: the statements are not yours to turn. If you find one false, say at which input.
  Laid BY PROGRAM, IN A SANDBOX (cutbox-rows.mjs): the forced cells as the released guide's own fill.sh prints them over the translation e31743d2c8258f74… (all of the seat's roots in one cut). By AI agents, Wed Nov 11 2026. No macro, syntax, notation, axiom, sorry.
-/
import Derived.Test.YtimgecflcackbaaChecked
import GoSem.Claim
import GoSem.ClaimJoined
import GoSem.ClaimMapViews
import Derived.JoinedTies
import Derived.KernelRfl
namespace Go.Proofs.Ytimgecflcackbaa
/- THE CELL 'sum', in the pinned program and in every row, IS THE sha256 OF THE DUMP (.gsa) THAT YtimgecflcackbaaProg.lean LOADS. Nothing in Lean hashes anything: it is a label: what it is worth is what the hold of that sum in a sandbox is worth. -/
noncomputable def Try.pinned : Pinned := { name := "ytimgecflcackbaa", sum := "e31743d2c8258f749568ce71d808c6f30e3bcd479c2384a1e436f81eb8dfb288", checked := Try.checked }
namespace Rows
def none {H : Type} : Left H := { results := [], args := [] }

/-- 'stemmalaw09.MetaChecks': WHATEVER THE INPUT: true; the input reads as it did. -/
def metaChecksSpec : ChangeSpec := { name := "metaChecks", fn := fun _ => fun
  | [d1, d2, d3] => { results := [.lit (.bool true)], args := [d1, d2, d3] }
  | _ => none }
def metaChecksRow : OpenClaim := { program := "ytimgecflcackbaa", sum := "e31743d2c8258f749568ce71d808c6f30e3bcd479c2384a1e436f81eb8dfb288", func := "stemma/stemmalaw09.MetaChecks", spec := "metaChecks", unfollowed := true, recurses := true, apart := false }
def MetaChecksSaid : Prop := metaChecksRow.holds Try.pinned (OpenSpec.ofChange metaChecksSpec)

/-- ITS FALSE NEIGHBOUR: 'it returns false'. Refute it at one input. -/
def metaChecksWrong : ChangeSpec := { name := "metaChecks", fn := fun _ => fun
  | [d1, d2, d3] => { results := [.lit (.bool false)], args := [d1, d2, d3] }
  | _ => none }
def MetaChecksWrongFalsely : Prop := metaChecksRow.holds Try.pinned (OpenSpec.ofChange metaChecksWrong)

/-- 'stemmalaw09.MetaLays': WHATEVER THE INPUT: true; the input reads as it did. -/
def metaLaysSpec : ChangeSpec := { name := "metaLays", fn := fun _ => fun
  | [d1, d2] => { results := [.lit (.bool true)], args := [d1, d2] }
  | _ => none }
def metaLaysRow : OpenClaim := { program := "ytimgecflcackbaa", sum := "e31743d2c8258f749568ce71d808c6f30e3bcd479c2384a1e436f81eb8dfb288", func := "stemma/stemmalaw09.MetaLays", spec := "metaLays", unfollowed := true, recurses := true, apart := false }
def MetaLaysSaid : Prop := metaLaysRow.holds Try.pinned (OpenSpec.ofChange metaLaysSpec)

/-- ITS FALSE NEIGHBOUR: 'it returns false'. Refute it at one input. -/
def metaLaysWrong : ChangeSpec := { name := "metaLays", fn := fun _ => fun
  | [d1, d2] => { results := [.lit (.bool false)], args := [d1, d2] }
  | _ => none }
def MetaLaysWrongFalsely : Prop := metaLaysRow.holds Try.pinned (OpenSpec.ofChange metaLaysWrong)

/-- 'stemmalaw09.MetaReads': WHATEVER THE INPUT: true; the input reads as it did. -/
def metaReadsSpec : ChangeSpec := { name := "metaReads", fn := fun _ => fun
  | [d] => { results := [.lit (.bool true)], args := [d] }
  | _ => none }
def metaReadsRow : OpenClaim := { program := "ytimgecflcackbaa", sum := "e31743d2c8258f749568ce71d808c6f30e3bcd479c2384a1e436f81eb8dfb288", func := "stemma/stemmalaw09.MetaReads", spec := "metaReads", unfollowed := true, recurses := true, apart := false }
def MetaReadsSaid : Prop := metaReadsRow.holds Try.pinned (OpenSpec.ofChange metaReadsSpec)

/-- ITS FALSE NEIGHBOUR: 'it returns false'. Refute it at one input. -/
def metaReadsWrong : ChangeSpec := { name := "metaReads", fn := fun _ => fun
  | [d] => { results := [.lit (.bool false)], args := [d] }
  | _ => none }
def MetaReadsWrongFalsely : Prop := metaReadsRow.holds Try.pinned (OpenSpec.ofChange metaReadsWrong)

/-- 'stemmalaw09.MetaBack': WHATEVER THE INPUT: true; the input reads as it did. -/
def metaBackSpec : ChangeSpec := { name := "metaBack", fn := fun _ => fun
  | [d1, d2] => { results := [.lit (.bool true)], args := [d1, d2] }
  | _ => none }
def metaBackRow : OpenClaim := { program := "ytimgecflcackbaa", sum := "e31743d2c8258f749568ce71d808c6f30e3bcd479c2384a1e436f81eb8dfb288", func := "stemma/stemmalaw09.MetaBack", spec := "metaBack", unfollowed := true, recurses := true, apart := false }
def MetaBackSaid : Prop := metaBackRow.holds Try.pinned (OpenSpec.ofChange metaBackSpec)

/-- ITS FALSE NEIGHBOUR: 'it returns false'. Refute it at one input. -/
def metaBackWrong : ChangeSpec := { name := "metaBack", fn := fun _ => fun
  | [d1, d2] => { results := [.lit (.bool false)], args := [d1, d2] }
  | _ => none }
def MetaBackWrongFalsely : Prop := metaBackRow.holds Try.pinned (OpenSpec.ofChange metaBackWrong)

/-- 'stemmalaw09.MetaCut': WHATEVER THE INPUT: true; the input reads as it did. -/
def metaCutSpec : ChangeSpec := { name := "metaCut", fn := fun _ => fun
  | [d1, d2, d3] => { results := [.lit (.bool true)], args := [d1, d2, d3] }
  | _ => none }
def metaCutRow : OpenClaim := { program := "ytimgecflcackbaa", sum := "e31743d2c8258f749568ce71d808c6f30e3bcd479c2384a1e436f81eb8dfb288", func := "stemma/stemmalaw09.MetaCut", spec := "metaCut", unfollowed := true, recurses := true, apart := false }
def MetaCutSaid : Prop := metaCutRow.holds Try.pinned (OpenSpec.ofChange metaCutSpec)

/-- ITS FALSE NEIGHBOUR: 'it returns false'. Refute it at one input. -/
def metaCutWrong : ChangeSpec := { name := "metaCut", fn := fun _ => fun
  | [d1, d2, d3] => { results := [.lit (.bool false)], args := [d1, d2, d3] }
  | _ => none }
def MetaCutWrongFalsely : Prop := metaCutRow.holds Try.pinned (OpenSpec.ofChange metaCutWrong)

/-- 'stemmalaw09.MetaKnown': WHATEVER THE INPUT: true; the input reads as it did. -/
def metaKnownSpec : ChangeSpec := { name := "metaKnown", fn := fun _ => fun
  | [] => { results := [.lit (.bool true)], args := [] }
  | _ => none }
def metaKnownRow : OpenClaim := { program := "ytimgecflcackbaa", sum := "e31743d2c8258f749568ce71d808c6f30e3bcd479c2384a1e436f81eb8dfb288", func := "stemma/stemmalaw09.MetaKnown", spec := "metaKnown", unfollowed := true, recurses := true, apart := false }
def MetaKnownSaid : Prop := metaKnownRow.holds Try.pinned (OpenSpec.ofChange metaKnownSpec)

/-- ITS FALSE NEIGHBOUR: 'it returns false'. Refute it at one input. -/
def metaKnownWrong : ChangeSpec := { name := "metaKnown", fn := fun _ => fun
  | [] => { results := [.lit (.bool false)], args := [] }
  | _ => none }
def MetaKnownWrongFalsely : Prop := metaKnownRow.holds Try.pinned (OpenSpec.ofChange metaKnownWrong)

/- THE SECOND FORM. 'bulk': how many values and letters a reading holds, each counted each time it is reached (what is shared counts as often as it is met; a slice's spare places count too). A statement '..UptoSaid' is the law's where the arguments, and the package variables that the reading takes, are together of bulk at most 1048576: NARROWER than '..Said'. Prove '..Said' where nothing that the law and all that it calls make is longer than what came in: it says more and counts as full. Else prove '..UptoSaid'. A law counts once. -/
mutual
def uptoBulk {H : Type} : DataW H → Nat
  | .lit (.string bytes) => bytes.length + 1
  | .lit _ => 1
  | .nil => 1
  | .ptr d => uptoBulk d + 1
  | .slice elems spare => uptoBulkAll elems + uptoBulkAll spare + 1
  | .agg parts => uptoBulkAll parts + 1
  | .iface _ d => uptoBulk d + 1
  | .map entries => uptoBulkEntries entries + 1
  | .held _ => 1
def uptoBulkAll {H : Type} : List (DataW H) → Nat
  | [] => 0
  | d :: r => uptoBulk d + uptoBulkAll r
def uptoBulkEntries {H : Type} : List (Lit × DataW H) → Nat
  | [] => 0
  | x :: r => uptoBulkEntry x + uptoBulkEntries r
def uptoBulkEntry {H : Type} : Lit × DataW H → Nat
  | (.string bytes, d) => bytes.length + uptoBulk d + 1
  | (_, d) => uptoBulk d + 1
 end
def uptoSmall : (H : Type) → List (DataW H) → Bool := fun _ ds => decide (uptoBulkAll ds ≤ 1048576)
def OpenSpec.upto (s : _root_.Go.ChangeSpec) : _root_.Go.OpenSpec := { _root_.Go.OpenSpec.ofChange s with cond := some uptoSmall }

/-- 'stemmalaw09.MetaChecks', WHERE WHAT IT READS IS OF BULK AT MOST 1048576: true; the input reads as it did. -/
def metaChecksUptoRow : OpenClaim := { program := "ytimgecflcackbaa", sum := "e31743d2c8258f749568ce71d808c6f30e3bcd479c2384a1e436f81eb8dfb288", func := "stemma/stemmalaw09.MetaChecks", spec := "metaChecks", unfollowed := true, recurses := true, apart := false, narrowed := true }
def MetaChecksUptoSaid : Prop := metaChecksUptoRow.holds Try.pinned (OpenSpec.upto metaChecksSpec)

/-- 'stemmalaw09.MetaLays', WHERE WHAT IT READS IS OF BULK AT MOST 1048576: true; the input reads as it did. -/
def metaLaysUptoRow : OpenClaim := { program := "ytimgecflcackbaa", sum := "e31743d2c8258f749568ce71d808c6f30e3bcd479c2384a1e436f81eb8dfb288", func := "stemma/stemmalaw09.MetaLays", spec := "metaLays", unfollowed := true, recurses := true, apart := false, narrowed := true }
def MetaLaysUptoSaid : Prop := metaLaysUptoRow.holds Try.pinned (OpenSpec.upto metaLaysSpec)

/-- 'stemmalaw09.MetaReads', WHERE WHAT IT READS IS OF BULK AT MOST 1048576: true; the input reads as it did. -/
def metaReadsUptoRow : OpenClaim := { program := "ytimgecflcackbaa", sum := "e31743d2c8258f749568ce71d808c6f30e3bcd479c2384a1e436f81eb8dfb288", func := "stemma/stemmalaw09.MetaReads", spec := "metaReads", unfollowed := true, recurses := true, apart := false, narrowed := true }
def MetaReadsUptoSaid : Prop := metaReadsUptoRow.holds Try.pinned (OpenSpec.upto metaReadsSpec)

/-- 'stemmalaw09.MetaBack', WHERE WHAT IT READS IS OF BULK AT MOST 1048576: true; the input reads as it did. -/
def metaBackUptoRow : OpenClaim := { program := "ytimgecflcackbaa", sum := "e31743d2c8258f749568ce71d808c6f30e3bcd479c2384a1e436f81eb8dfb288", func := "stemma/stemmalaw09.MetaBack", spec := "metaBack", unfollowed := true, recurses := true, apart := false, narrowed := true }
def MetaBackUptoSaid : Prop := metaBackUptoRow.holds Try.pinned (OpenSpec.upto metaBackSpec)

/-- 'stemmalaw09.MetaCut', WHERE WHAT IT READS IS OF BULK AT MOST 1048576: true; the input reads as it did. -/
def metaCutUptoRow : OpenClaim := { program := "ytimgecflcackbaa", sum := "e31743d2c8258f749568ce71d808c6f30e3bcd479c2384a1e436f81eb8dfb288", func := "stemma/stemmalaw09.MetaCut", spec := "metaCut", unfollowed := true, recurses := true, apart := false, narrowed := true }
def MetaCutUptoSaid : Prop := metaCutUptoRow.holds Try.pinned (OpenSpec.upto metaCutSpec)

/-- 'stemmalaw09.MetaKnown', WHERE WHAT IT READS IS OF BULK AT MOST 1048576: true; the input reads as it did. -/
def metaKnownUptoRow : OpenClaim := { program := "ytimgecflcackbaa", sum := "e31743d2c8258f749568ce71d808c6f30e3bcd479c2384a1e436f81eb8dfb288", func := "stemma/stemmalaw09.MetaKnown", spec := "metaKnown", unfollowed := true, recurses := true, apart := false, narrowed := true }
def MetaKnownUptoSaid : Prop := metaKnownUptoRow.holds Try.pinned (OpenSpec.upto metaKnownSpec)

end Rows
end Go.Proofs.Ytimgecflcackbaa
