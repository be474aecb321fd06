/-
  No cell of these rows narrows 'for every input' (looked for: loops, veiled, ifaces, maps, wideKeys, modest, calm, conditions, laid).
  DERIVED. THE GIVEN ROWS OF THIS SEAT. 6 by the template 'for every input the law returns true; each argument reads behind the call as it read before'; 0 by the template 'total and deterministic' (their statements: YteplcpiamocclaaTotals.lean).
  GIVEN WITH THE SEED: the statements are not yours to turn. If you find one false, say at which input.
  Laid BY PROGRAM, IN A SANDBOX (cutbox-rows.mjs): the forced cells as the released guide's own fill.sh prints them over the translation ddadedbc8ce208e0… (all of the seat's roots in one cut). By AI agents, Wed Nov 11 2026. No macro, syntax, notation, axiom, sorry.
-/
import Derived.Test.YteplcpiamocclaaChecked
import GoSem.Claim
import GoSem.ClaimJoined
import GoSem.ClaimMapViews
import Derived.JoinedTies
import Derived.KernelRfl
namespace Go.Proofs.Yteplcpiamocclaa
/- THE CELL 'sum', in the pinned program and in every row, IS THE sha256 OF THE DUMP (.gsa) THAT YteplcpiamocclaaProg.lean LOADS. Nothing in Lean hashes anything: it is a label: what it is worth is what the hold of that sum in a sandbox is worth. -/
noncomputable def Try.pinned : Pinned := { name := "yteplcpiamocclaa", sum := "ddadedbc8ce208e0e1975c0f468fc1ff7b2cbf75fa31c6c29c7d68a48bb5b927", checked := Try.checked }
namespace Rows
def none {H : Type} : Left H := { results := [], args := [] }

/-- 'stemmalaw27.LookGood': WHATEVER THE INPUT: true; the input reads as it did. -/
def lookGoodSpec : ChangeSpec := { name := "lookGood", fn := fun _ => fun
  | [d1, d2] => { results := [.lit (.bool true)], args := [d1, d2] }
  | _ => none }
def lookGoodRow : OpenClaim := { program := "yteplcpiamocclaa", sum := "ddadedbc8ce208e0e1975c0f468fc1ff7b2cbf75fa31c6c29c7d68a48bb5b927", func := "stemma/stemmalaw27.LookGood", spec := "lookGood", unfollowed := true, recurses := true, apart := false }
def LookGoodSaid : Prop := lookGoodRow.holds Try.pinned (OpenSpec.ofChange lookGoodSpec)

/-- ITS FALSE NEIGHBOUR: 'it returns false'. Refute it at one input. -/
def lookGoodWrong : ChangeSpec := { name := "lookGood", fn := fun _ => fun
  | [d1, d2] => { results := [.lit (.bool false)], args := [d1, d2] }
  | _ => none }
def LookGoodWrongFalsely : Prop := lookGoodRow.holds Try.pinned (OpenSpec.ofChange lookGoodWrong)

/-- 'stemmalaw27.LookFinds': WHATEVER THE INPUT: true; the input reads as it did. -/
def lookFindsSpec : ChangeSpec := { name := "lookFinds", fn := fun _ => fun
  | [d1, d2, d3] => { results := [.lit (.bool true)], args := [d1, d2, d3] }
  | _ => none }
def lookFindsRow : OpenClaim := { program := "yteplcpiamocclaa", sum := "ddadedbc8ce208e0e1975c0f468fc1ff7b2cbf75fa31c6c29c7d68a48bb5b927", func := "stemma/stemmalaw27.LookFinds", spec := "lookFinds", unfollowed := true, recurses := true, apart := false }
def LookFindsSaid : Prop := lookFindsRow.holds Try.pinned (OpenSpec.ofChange lookFindsSpec)

/-- ITS FALSE NEIGHBOUR: 'it returns false'. Refute it at one input. -/
def lookFindsWrong : ChangeSpec := { name := "lookFinds", fn := fun _ => fun
  | [d1, d2, d3] => { results := [.lit (.bool false)], args := [d1, d2, d3] }
  | _ => none }
def LookFindsWrongFalsely : Prop := lookFindsRow.holds Try.pinned (OpenSpec.ofChange lookFindsWrong)

/-- 'stemmalaw27.LookSettles': WHATEVER THE INPUT: true; the input reads as it did. -/
def lookSettlesSpec : ChangeSpec := { name := "lookSettles", fn := fun _ => fun
  | [d1, d2] => { results := [.lit (.bool true)], args := [d1, d2] }
  | _ => none }
def lookSettlesRow : OpenClaim := { program := "yteplcpiamocclaa", sum := "ddadedbc8ce208e0e1975c0f468fc1ff7b2cbf75fa31c6c29c7d68a48bb5b927", func := "stemma/stemmalaw27.LookSettles", spec := "lookSettles", unfollowed := true, recurses := true, apart := false }
def LookSettlesSaid : Prop := lookSettlesRow.holds Try.pinned (OpenSpec.ofChange lookSettlesSpec)

/-- ITS FALSE NEIGHBOUR: 'it returns false'. Refute it at one input. -/
def lookSettlesWrong : ChangeSpec := { name := "lookSettles", fn := fun _ => fun
  | [d1, d2] => { results := [.lit (.bool false)], args := [d1, d2] }
  | _ => none }
def LookSettlesWrongFalsely : Prop := lookSettlesRow.holds Try.pinned (OpenSpec.ofChange lookSettlesWrong)

/-- 'stemmalaw27.LookTells': WHATEVER THE INPUT: true; the input reads as it did. -/
def lookTellsSpec : ChangeSpec := { name := "lookTells", fn := fun _ => fun
  | [d1, d2] => { results := [.lit (.bool true)], args := [d1, d2] }
  | _ => none }
def lookTellsRow : OpenClaim := { program := "yteplcpiamocclaa", sum := "ddadedbc8ce208e0e1975c0f468fc1ff7b2cbf75fa31c6c29c7d68a48bb5b927", func := "stemma/stemmalaw27.LookTells", spec := "lookTells", unfollowed := true, recurses := true, apart := false }
def LookTellsSaid : Prop := lookTellsRow.holds Try.pinned (OpenSpec.ofChange lookTellsSpec)

/-- ITS FALSE NEIGHBOUR: 'it returns false'. Refute it at one input. -/
def lookTellsWrong : ChangeSpec := { name := "lookTells", fn := fun _ => fun
  | [d1, d2] => { results := [.lit (.bool false)], args := [d1, d2] }
  | _ => none }
def LookTellsWrongFalsely : Prop := lookTellsRow.holds Try.pinned (OpenSpec.ofChange lookTellsWrong)

/-- 'stemmalaw27.LookKnown': WHATEVER THE INPUT: true; the input reads as it did. -/
def lookKnownSpec : ChangeSpec := { name := "lookKnown", fn := fun _ => fun
  | [] => { results := [.lit (.bool true)], args := [] }
  | _ => none }
def lookKnownRow : OpenClaim := { program := "yteplcpiamocclaa", sum := "ddadedbc8ce208e0e1975c0f468fc1ff7b2cbf75fa31c6c29c7d68a48bb5b927", func := "stemma/stemmalaw27.LookKnown", spec := "lookKnown", unfollowed := true, recurses := true, apart := false }
def LookKnownSaid : Prop := lookKnownRow.holds Try.pinned (OpenSpec.ofChange lookKnownSpec)

/-- ITS FALSE NEIGHBOUR: 'it returns false'. Refute it at one input. -/
def lookKnownWrong : ChangeSpec := { name := "lookKnown", fn := fun _ => fun
  | [] => { results := [.lit (.bool false)], args := [] }
  | _ => none }
def LookKnownWrongFalsely : Prop := lookKnownRow.holds Try.pinned (OpenSpec.ofChange lookKnownWrong)

/-- 'stemmalaw27.LookTurned': WHATEVER THE INPUT: true; the input reads as it did. -/
def lookTurnedSpec : ChangeSpec := { name := "lookTurned", fn := fun _ => fun
  | [d1, d2, d3] => { results := [.lit (.bool true)], args := [d1, d2, d3] }
  | _ => none }
def lookTurnedRow : OpenClaim := { program := "yteplcpiamocclaa", sum := "ddadedbc8ce208e0e1975c0f468fc1ff7b2cbf75fa31c6c29c7d68a48bb5b927", func := "stemma/stemmalaw27.LookTurned", spec := "lookTurned", unfollowed := true, recurses := true, apart := false }
def LookTurnedSaid : Prop := lookTurnedRow.holds Try.pinned (OpenSpec.ofChange lookTurnedSpec)

/-- ITS FALSE NEIGHBOUR: 'it returns false'. Refute it at one input. -/
def lookTurnedWrong : ChangeSpec := { name := "lookTurned", fn := fun _ => fun
  | [d1, d2, d3] => { results := [.lit (.bool false)], args := [d1, d2, d3] }
  | _ => none }
def LookTurnedWrongFalsely : Prop := lookTurnedRow.holds Try.pinned (OpenSpec.ofChange lookTurnedWrong)

/- THE SECOND FORM. 'bulk': how many values and letters a reading holds, each counted each time it is reached (what is shared counts as often as it is met; a slice's spare places count too). A statement '..UptoSaid' is the law's where the arguments, and the package variables that the reading takes, are together of bulk at most 1048576: NARROWER than '..Said'. Prove '..Said' where nothing that the law and all that it calls make is longer than what came in: it says more and counts as full. Else prove '..UptoSaid'. A law counts once. -/
mutual
def uptoBulk {H : Type} : DataW H → Nat
  | .lit (.string bytes) => bytes.length + 1
  | .lit _ => 1
  | .nil => 1
  | .ptr d => uptoBulk d + 1
  | .slice elems spare => uptoBulkAll elems + uptoBulkAll spare + 1
  | .agg parts => uptoBulkAll parts + 1
  | .iface _ d => uptoBulk d + 1
  | .map entries => uptoBulkEntries entries + 1
  | .held _ => 1
def uptoBulkAll {H : Type} : List (DataW H) → Nat
  | [] => 0
  | d :: r => uptoBulk d + uptoBulkAll r
def uptoBulkEntries {H : Type} : List (Lit × DataW H) → Nat
  | [] => 0
  | x :: r => uptoBulkEntry x + uptoBulkEntries r
def uptoBulkEntry {H : Type} : Lit × DataW H → Nat
  | (.string bytes, d) => bytes.length + uptoBulk d + 1
  | (_, d) => uptoBulk d + 1
 end
def uptoSmall : (H : Type) → List (DataW H) → Bool := fun _ ds => decide (uptoBulkAll ds ≤ 1048576)
def OpenSpec.upto (s : _root_.Go.ChangeSpec) : _root_.Go.OpenSpec := { _root_.Go.OpenSpec.ofChange s with cond := some uptoSmall }

/-- 'stemmalaw27.LookGood', WHERE WHAT IT READS IS OF BULK AT MOST 1048576: true; the input reads as it did. -/
def lookGoodUptoRow : OpenClaim := { program := "yteplcpiamocclaa", sum := "ddadedbc8ce208e0e1975c0f468fc1ff7b2cbf75fa31c6c29c7d68a48bb5b927", func := "stemma/stemmalaw27.LookGood", spec := "lookGood", unfollowed := true, recurses := true, apart := false, narrowed := true }
def LookGoodUptoSaid : Prop := lookGoodUptoRow.holds Try.pinned (OpenSpec.upto lookGoodSpec)

/-- 'stemmalaw27.LookFinds', WHERE WHAT IT READS IS OF BULK AT MOST 1048576: true; the input reads as it did. -/
def lookFindsUptoRow : OpenClaim := { program := "yteplcpiamocclaa", sum := "ddadedbc8ce208e0e1975c0f468fc1ff7b2cbf75fa31c6c29c7d68a48bb5b927", func := "stemma/stemmalaw27.LookFinds", spec := "lookFinds", unfollowed := true, recurses := true, apart := false, narrowed := true }
def LookFindsUptoSaid : Prop := lookFindsUptoRow.holds Try.pinned (OpenSpec.upto lookFindsSpec)

/-- 'stemmalaw27.LookSettles', WHERE WHAT IT READS IS OF BULK AT MOST 1048576: true; the input reads as it did. -/
def lookSettlesUptoRow : OpenClaim := { program := "yteplcpiamocclaa", sum := "ddadedbc8ce208e0e1975c0f468fc1ff7b2cbf75fa31c6c29c7d68a48bb5b927", func := "stemma/stemmalaw27.LookSettles", spec := "lookSettles", unfollowed := true, recurses := true, apart := false, narrowed := true }
def LookSettlesUptoSaid : Prop := lookSettlesUptoRow.holds Try.pinned (OpenSpec.upto lookSettlesSpec)

/-- 'stemmalaw27.LookTells', WHERE WHAT IT READS IS OF BULK AT MOST 1048576: true; the input reads as it did. -/
def lookTellsUptoRow : OpenClaim := { program := "yteplcpiamocclaa", sum := "ddadedbc8ce208e0e1975c0f468fc1ff7b2cbf75fa31c6c29c7d68a48bb5b927", func := "stemma/stemmalaw27.LookTells", spec := "lookTells", unfollowed := true, recurses := true, apart := false, narrowed := true }
def LookTellsUptoSaid : Prop := lookTellsUptoRow.holds Try.pinned (OpenSpec.upto lookTellsSpec)

/-- 'stemmalaw27.LookKnown', WHERE WHAT IT READS IS OF BULK AT MOST 1048576: true; the input reads as it did. -/
def lookKnownUptoRow : OpenClaim := { program := "yteplcpiamocclaa", sum := "ddadedbc8ce208e0e1975c0f468fc1ff7b2cbf75fa31c6c29c7d68a48bb5b927", func := "stemma/stemmalaw27.LookKnown", spec := "lookKnown", unfollowed := true, recurses := true, apart := false, narrowed := true }
def LookKnownUptoSaid : Prop := lookKnownUptoRow.holds Try.pinned (OpenSpec.upto lookKnownSpec)

/-- 'stemmalaw27.LookTurned', WHERE WHAT IT READS IS OF BULK AT MOST 1048576: true; the input reads as it did. -/
def lookTurnedUptoRow : OpenClaim := { program := "yteplcpiamocclaa", sum := "ddadedbc8ce208e0e1975c0f468fc1ff7b2cbf75fa31c6c29c7d68a48bb5b927", func := "stemma/stemmalaw27.LookTurned", spec := "lookTurned", unfollowed := true, recurses := true, apart := false, narrowed := true }
def LookTurnedUptoSaid : Prop := lookTurnedUptoRow.holds Try.pinned (OpenSpec.upto lookTurnedSpec)

end Rows
end Go.Proofs.Yteplcpiamocclaa
