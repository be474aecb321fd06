/-
  No cell of these rows narrows 'for every input' (looked for: loops, veiled, ifaces, maps, wideKeys, modest, calm, conditions, laid).
  DERIVED. THE GIVEN ROWS OF THIS SEAT. 7 by the template 'for every input the law returns true; each argument reads behind the call as it read before'; 0 by the template 'total and deterministic' (their statements: YtfkgidljgbhccaaTotals.lean).
  GIVEN WITH THE SEED: the statements are not yours to turn. If you find one false, say at which input.
  Laid BY PROGRAM, IN A SANDBOX (cutbox-rows.mjs): the forced cells as the released guide's own fill.sh prints them over the translation c28264d3d59d20b8… (all of the seat's roots in one cut). By AI agents, Wed Nov 11 2026. No macro, syntax, notation, axiom, sorry.
-/
import Derived.Test.YtfkgidljgbhccaaChecked
import GoSem.Claim
import GoSem.ClaimJoined
import GoSem.ClaimMapViews
import Derived.JoinedTies
import Derived.KernelRfl
namespace Go.Proofs.Ytfkgidljgbhccaa
/- THE CELL 'sum', in the pinned program and in every row, IS THE sha256 OF THE DUMP (.gsa) THAT YtfkgidljgbhccaaProg.lean LOADS. Nothing in Lean hashes anything: it is a label: what it is worth is what the hold of that sum in a sandbox is worth. -/
noncomputable def Try.pinned : Pinned := { name := "ytfkgidljgbhccaa", sum := "c28264d3d59d20b8a4a07b92a3483a509676849dd3f472fef25fcf2d1948172b", checked := Try.checked }
namespace Rows
def none {H : Type} : Left H := { results := [], args := [] }

/-- 'stemmalaw14.LineMerges': WHATEVER THE INPUT: true; the input reads as it did. -/
def lineMergesSpec : ChangeSpec := { name := "lineMerges", fn := fun _ => fun
  | [d1, d2] => { results := [.lit (.bool true)], args := [d1, d2] }
  | _ => none }
def lineMergesRow : OpenClaim := { program := "ytfkgidljgbhccaa", sum := "c28264d3d59d20b8a4a07b92a3483a509676849dd3f472fef25fcf2d1948172b", func := "stemma/stemmalaw14.LineMerges", spec := "lineMerges", apart := false }
def LineMergesSaid : Prop := lineMergesRow.holds Try.pinned (OpenSpec.ofChange lineMergesSpec)

/-- ITS FALSE NEIGHBOUR: 'it returns false'. Refute it at one input. -/
def lineMergesWrong : ChangeSpec := { name := "lineMerges", fn := fun _ => fun
  | [d1, d2] => { results := [.lit (.bool false)], args := [d1, d2] }
  | _ => none }
def LineMergesWrongFalsely : Prop := lineMergesRow.holds Try.pinned (OpenSpec.ofChange lineMergesWrong)

/-- 'stemmalaw14.LineStays': WHATEVER THE INPUT: true; the input reads as it did. -/
def lineStaysSpec : ChangeSpec := { name := "lineStays", fn := fun _ => fun
  | [d1, d2] => { results := [.lit (.bool true)], args := [d1, d2] }
  | _ => none }
def lineStaysRow : OpenClaim := { program := "ytfkgidljgbhccaa", sum := "c28264d3d59d20b8a4a07b92a3483a509676849dd3f472fef25fcf2d1948172b", func := "stemma/stemmalaw14.LineStays", spec := "lineStays", apart := false }
def LineStaysSaid : Prop := lineStaysRow.holds Try.pinned (OpenSpec.ofChange lineStaysSpec)

/-- ITS FALSE NEIGHBOUR: 'it returns false'. Refute it at one input. -/
def lineStaysWrong : ChangeSpec := { name := "lineStays", fn := fun _ => fun
  | [d1, d2] => { results := [.lit (.bool false)], args := [d1, d2] }
  | _ => none }
def LineStaysWrongFalsely : Prop := lineStaysRow.holds Try.pinned (OpenSpec.ofChange lineStaysWrong)

/-- 'stemmalaw14.LineKeeps': WHATEVER THE INPUT: true; the input reads as it did. -/
def lineKeepsSpec : ChangeSpec := { name := "lineKeeps", fn := fun _ => fun
  | [d1, d2] => { results := [.lit (.bool true)], args := [d1, d2] }
  | _ => none }
def lineKeepsRow : OpenClaim := { program := "ytfkgidljgbhccaa", sum := "c28264d3d59d20b8a4a07b92a3483a509676849dd3f472fef25fcf2d1948172b", func := "stemma/stemmalaw14.LineKeeps", spec := "lineKeeps", apart := false }
def LineKeepsSaid : Prop := lineKeepsRow.holds Try.pinned (OpenSpec.ofChange lineKeepsSpec)

/-- ITS FALSE NEIGHBOUR: 'it returns false'. Refute it at one input. -/
def lineKeepsWrong : ChangeSpec := { name := "lineKeeps", fn := fun _ => fun
  | [d1, d2] => { results := [.lit (.bool false)], args := [d1, d2] }
  | _ => none }
def LineKeepsWrongFalsely : Prop := lineKeepsRow.holds Try.pinned (OpenSpec.ofChange lineKeepsWrong)

/-- 'stemmalaw14.LineAgain': WHATEVER THE INPUT: true; the input reads as it did. -/
def lineAgainSpec : ChangeSpec := { name := "lineAgain", fn := fun _ => fun
  | [d1, d2, d3] => { results := [.lit (.bool true)], args := [d1, d2, d3] }
  | _ => none }
def lineAgainRow : OpenClaim := { program := "ytfkgidljgbhccaa", sum := "c28264d3d59d20b8a4a07b92a3483a509676849dd3f472fef25fcf2d1948172b", func := "stemma/stemmalaw14.LineAgain", spec := "lineAgain", apart := false }
def LineAgainSaid : Prop := lineAgainRow.holds Try.pinned (OpenSpec.ofChange lineAgainSpec)

/-- ITS FALSE NEIGHBOUR: 'it returns false'. Refute it at one input. -/
def lineAgainWrong : ChangeSpec := { name := "lineAgain", fn := fun _ => fun
  | [d1, d2, d3] => { results := [.lit (.bool false)], args := [d1, d2, d3] }
  | _ => none }
def LineAgainWrongFalsely : Prop := lineAgainRow.holds Try.pinned (OpenSpec.ofChange lineAgainWrong)

/-- 'stemmalaw14.LineOrder': WHATEVER THE INPUT: true; the input reads as it did. -/
def lineOrderSpec : ChangeSpec := { name := "lineOrder", fn := fun _ => fun
  | [d1, d2, d3] => { results := [.lit (.bool true)], args := [d1, d2, d3] }
  | _ => none }
def lineOrderRow : OpenClaim := { program := "ytfkgidljgbhccaa", sum := "c28264d3d59d20b8a4a07b92a3483a509676849dd3f472fef25fcf2d1948172b", func := "stemma/stemmalaw14.LineOrder", spec := "lineOrder", apart := false }
def LineOrderSaid : Prop := lineOrderRow.holds Try.pinned (OpenSpec.ofChange lineOrderSpec)

/-- ITS FALSE NEIGHBOUR: 'it returns false'. Refute it at one input. -/
def lineOrderWrong : ChangeSpec := { name := "lineOrder", fn := fun _ => fun
  | [d1, d2, d3] => { results := [.lit (.bool false)], args := [d1, d2, d3] }
  | _ => none }
def LineOrderWrongFalsely : Prop := lineOrderRow.holds Try.pinned (OpenSpec.ofChange lineOrderWrong)

/-- 'stemmalaw14.LineChecks': WHATEVER THE INPUT: true; the input reads as it did. -/
def lineChecksSpec : ChangeSpec := { name := "lineChecks", fn := fun _ => fun
  | [d1, d2] => { results := [.lit (.bool true)], args := [d1, d2] }
  | _ => none }
def lineChecksRow : OpenClaim := { program := "ytfkgidljgbhccaa", sum := "c28264d3d59d20b8a4a07b92a3483a509676849dd3f472fef25fcf2d1948172b", func := "stemma/stemmalaw14.LineChecks", spec := "lineChecks", unfollowed := true, recurses := true, apart := false }
def LineChecksSaid : Prop := lineChecksRow.holds Try.pinned (OpenSpec.ofChange lineChecksSpec)

/-- ITS FALSE NEIGHBOUR: 'it returns false'. Refute it at one input. -/
def lineChecksWrong : ChangeSpec := { name := "lineChecks", fn := fun _ => fun
  | [d1, d2] => { results := [.lit (.bool false)], args := [d1, d2] }
  | _ => none }
def LineChecksWrongFalsely : Prop := lineChecksRow.holds Try.pinned (OpenSpec.ofChange lineChecksWrong)

/-- 'stemmalaw14.LineKnown': WHATEVER THE INPUT: true; the input reads as it did. -/
def lineKnownSpec : ChangeSpec := { name := "lineKnown", fn := fun _ => fun
  | [] => { results := [.lit (.bool true)], args := [] }
  | _ => none }
def lineKnownRow : OpenClaim := { program := "ytfkgidljgbhccaa", sum := "c28264d3d59d20b8a4a07b92a3483a509676849dd3f472fef25fcf2d1948172b", func := "stemma/stemmalaw14.LineKnown", spec := "lineKnown", unfollowed := true, recurses := true, apart := false }
def LineKnownSaid : Prop := lineKnownRow.holds Try.pinned (OpenSpec.ofChange lineKnownSpec)

/-- ITS FALSE NEIGHBOUR: 'it returns false'. Refute it at one input. -/
def lineKnownWrong : ChangeSpec := { name := "lineKnown", fn := fun _ => fun
  | [] => { results := [.lit (.bool false)], args := [] }
  | _ => none }
def LineKnownWrongFalsely : Prop := lineKnownRow.holds Try.pinned (OpenSpec.ofChange lineKnownWrong)

/- THE SECOND FORM. 'bulk': how many values and letters a reading holds, each counted each time it is reached (what is shared counts as often as it is met; a slice's spare places count too). A statement '..UptoSaid' is the law's where the arguments, and the package variables that the reading takes, are together of bulk at most 1048576: NARROWER than '..Said'. Prove '..Said' where nothing that the law and all that it calls make is longer than what came in: it says more and counts as full. Else prove '..UptoSaid'. A law counts once. -/
mutual
def uptoBulk {H : Type} : DataW H → Nat
  | .lit (.string bytes) => bytes.length + 1
  | .lit _ => 1
  | .nil => 1
  | .ptr d => uptoBulk d + 1
  | .slice elems spare => uptoBulkAll elems + uptoBulkAll spare + 1
  | .agg parts => uptoBulkAll parts + 1
  | .iface _ d => uptoBulk d + 1
  | .map entries => uptoBulkEntries entries + 1
  | .held _ => 1
def uptoBulkAll {H : Type} : List (DataW H) → Nat
  | [] => 0
  | d :: r => uptoBulk d + uptoBulkAll r
def uptoBulkEntries {H : Type} : List (Lit × DataW H) → Nat
  | [] => 0
  | x :: r => uptoBulkEntry x + uptoBulkEntries r
def uptoBulkEntry {H : Type} : Lit × DataW H → Nat
  | (.string bytes, d) => bytes.length + uptoBulk d + 1
  | (_, d) => uptoBulk d + 1
 end
def uptoSmall : (H : Type) → List (DataW H) → Bool := fun _ ds => decide (uptoBulkAll ds ≤ 1048576)
def OpenSpec.upto (s : _root_.Go.ChangeSpec) : _root_.Go.OpenSpec := { _root_.Go.OpenSpec.ofChange s with cond := some uptoSmall }

/-- 'stemmalaw14.LineMerges', WHERE WHAT IT READS IS OF BULK AT MOST 1048576: true; the input reads as it did. -/
def lineMergesUptoRow : OpenClaim := { program := "ytfkgidljgbhccaa", sum := "c28264d3d59d20b8a4a07b92a3483a509676849dd3f472fef25fcf2d1948172b", func := "stemma/stemmalaw14.LineMerges", spec := "lineMerges", apart := false, narrowed := true }
def LineMergesUptoSaid : Prop := lineMergesUptoRow.holds Try.pinned (OpenSpec.upto lineMergesSpec)

/-- 'stemmalaw14.LineStays', WHERE WHAT IT READS IS OF BULK AT MOST 1048576: true; the input reads as it did. -/
def lineStaysUptoRow : OpenClaim := { program := "ytfkgidljgbhccaa", sum := "c28264d3d59d20b8a4a07b92a3483a509676849dd3f472fef25fcf2d1948172b", func := "stemma/stemmalaw14.LineStays", spec := "lineStays", apart := false, narrowed := true }
def LineStaysUptoSaid : Prop := lineStaysUptoRow.holds Try.pinned (OpenSpec.upto lineStaysSpec)

/-- 'stemmalaw14.LineKeeps', WHERE WHAT IT READS IS OF BULK AT MOST 1048576: true; the input reads as it did. -/
def lineKeepsUptoRow : OpenClaim := { program := "ytfkgidljgbhccaa", sum := "c28264d3d59d20b8a4a07b92a3483a509676849dd3f472fef25fcf2d1948172b", func := "stemma/stemmalaw14.LineKeeps", spec := "lineKeeps", apart := false, narrowed := true }
def LineKeepsUptoSaid : Prop := lineKeepsUptoRow.holds Try.pinned (OpenSpec.upto lineKeepsSpec)

/-- 'stemmalaw14.LineAgain', WHERE WHAT IT READS IS OF BULK AT MOST 1048576: true; the input reads as it did. -/
def lineAgainUptoRow : OpenClaim := { program := "ytfkgidljgbhccaa", sum := "c28264d3d59d20b8a4a07b92a3483a509676849dd3f472fef25fcf2d1948172b", func := "stemma/stemmalaw14.LineAgain", spec := "lineAgain", apart := false, narrowed := true }
def LineAgainUptoSaid : Prop := lineAgainUptoRow.holds Try.pinned (OpenSpec.upto lineAgainSpec)

/-- 'stemmalaw14.LineOrder', WHERE WHAT IT READS IS OF BULK AT MOST 1048576: true; the input reads as it did. -/
def lineOrderUptoRow : OpenClaim := { program := "ytfkgidljgbhccaa", sum := "c28264d3d59d20b8a4a07b92a3483a509676849dd3f472fef25fcf2d1948172b", func := "stemma/stemmalaw14.LineOrder", spec := "lineOrder", apart := false, narrowed := true }
def LineOrderUptoSaid : Prop := lineOrderUptoRow.holds Try.pinned (OpenSpec.upto lineOrderSpec)

/-- 'stemmalaw14.LineChecks', WHERE WHAT IT READS IS OF BULK AT MOST 1048576: true; the input reads as it did. -/
def lineChecksUptoRow : OpenClaim := { program := "ytfkgidljgbhccaa", sum := "c28264d3d59d20b8a4a07b92a3483a509676849dd3f472fef25fcf2d1948172b", func := "stemma/stemmalaw14.LineChecks", spec := "lineChecks", unfollowed := true, recurses := true, apart := false, narrowed := true }
def LineChecksUptoSaid : Prop := lineChecksUptoRow.holds Try.pinned (OpenSpec.upto lineChecksSpec)

/-- 'stemmalaw14.LineKnown', WHERE WHAT IT READS IS OF BULK AT MOST 1048576: true; the input reads as it did. -/
def lineKnownUptoRow : OpenClaim := { program := "ytfkgidljgbhccaa", sum := "c28264d3d59d20b8a4a07b92a3483a509676849dd3f472fef25fcf2d1948172b", func := "stemma/stemmalaw14.LineKnown", spec := "lineKnown", unfollowed := true, recurses := true, apart := false, narrowed := true }
def LineKnownUptoSaid : Prop := lineKnownUptoRow.holds Try.pinned (OpenSpec.upto lineKnownSpec)

end Rows
end Go.Proofs.Ytfkgidljgbhccaa
