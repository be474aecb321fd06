/-
  No cell of these rows narrows 'for every input' (looked for: loops, veiled, ifaces, maps, wideKeys, modest, calm, conditions, laid).
  DERIVED. THE GIVEN ROWS OF THIS SEAT. 6 by the template 'for every input the law returns true; each argument reads behind the call as it read before'; 0 by the template 'total and deterministic' (their statements: YtmljeifooamlcaaTotals.lean).
  GIVEN WITH THE SEED: the statements are not yours to turn. If you find one false, say at which input.
  Laid BY PROGRAM, IN A SANDBOX (cutbox-rows.mjs): the forced cells as the released guide's own fill.sh prints them over the translation 5318bf1980032ef6… (all of the seat's roots in one cut). By AI agents, Wed Nov 11 2026. No macro, syntax, notation, axiom, sorry.
-/
import Derived.Test.YtmljeifooamlcaaChecked
import GoSem.Claim
import GoSem.ClaimJoined
import GoSem.ClaimMapViews
import Derived.JoinedTies
import Derived.KernelRfl
namespace Go.Proofs.Ytmljeifooamlcaa
/- THE CELL 'sum', in the pinned program and in every row, IS THE sha256 OF THE DUMP (.gsa) THAT YtmljeifooamlcaaProg.lean LOADS. Nothing in Lean hashes anything: it is a label: what it is worth is what the hold of that sum in a sandbox is worth. -/
noncomputable def Try.pinned : Pinned := { name := "ytmljeifooamlcaa", sum := "5318bf1980032ef6b8b691affc13cc1eee6ef28a69aad4d484c12d0064939099", checked := Try.checked }
namespace Rows
def none {H : Type} : Left H := { results := [], args := [] }

/-- 'stemmalaw07.ImageChecks': WHATEVER THE INPUT: true; the input reads as it did. -/
def imageChecksSpec : ChangeSpec := { name := "imageChecks", fn := fun _ => fun
  | [d1, d2, d3] => { results := [.lit (.bool true)], args := [d1, d2, d3] }
  | _ => none }
def imageChecksRow : OpenClaim := { program := "ytmljeifooamlcaa", sum := "5318bf1980032ef6b8b691affc13cc1eee6ef28a69aad4d484c12d0064939099", func := "stemma/stemmalaw07.ImageChecks", spec := "imageChecks", unfollowed := true, recurses := true, apart := false }
def ImageChecksSaid : Prop := imageChecksRow.holds Try.pinned (OpenSpec.ofChange imageChecksSpec)

/-- ITS FALSE NEIGHBOUR: 'it returns false'. Refute it at one input. -/
def imageChecksWrong : ChangeSpec := { name := "imageChecks", fn := fun _ => fun
  | [d1, d2, d3] => { results := [.lit (.bool false)], args := [d1, d2, d3] }
  | _ => none }
def ImageChecksWrongFalsely : Prop := imageChecksRow.holds Try.pinned (OpenSpec.ofChange imageChecksWrong)

/-- 'stemmalaw07.ImageDiffs': WHATEVER THE INPUT: true; the input reads as it did. -/
def imageDiffsSpec : ChangeSpec := { name := "imageDiffs", fn := fun _ => fun
  | [d1, d2] => { results := [.lit (.bool true)], args := [d1, d2] }
  | _ => none }
def imageDiffsRow : OpenClaim := { program := "ytmljeifooamlcaa", sum := "5318bf1980032ef6b8b691affc13cc1eee6ef28a69aad4d484c12d0064939099", func := "stemma/stemmalaw07.ImageDiffs", spec := "imageDiffs", unfollowed := true, recurses := true, apart := false }
def ImageDiffsSaid : Prop := imageDiffsRow.holds Try.pinned (OpenSpec.ofChange imageDiffsSpec)

/-- ITS FALSE NEIGHBOUR: 'it returns false'. Refute it at one input. -/
def imageDiffsWrong : ChangeSpec := { name := "imageDiffs", fn := fun _ => fun
  | [d1, d2] => { results := [.lit (.bool false)], args := [d1, d2] }
  | _ => none }
def ImageDiffsWrongFalsely : Prop := imageDiffsRow.holds Try.pinned (OpenSpec.ofChange imageDiffsWrong)

/-- 'stemmalaw07.ImageWith': WHATEVER THE INPUT: true; the input reads as it did. -/
def imageWithSpec : ChangeSpec := { name := "imageWith", fn := fun _ => fun
  | [d1, d2, d3] => { results := [.lit (.bool true)], args := [d1, d2, d3] }
  | _ => none }
def imageWithRow : OpenClaim := { program := "ytmljeifooamlcaa", sum := "5318bf1980032ef6b8b691affc13cc1eee6ef28a69aad4d484c12d0064939099", func := "stemma/stemmalaw07.ImageWith", spec := "imageWith", unfollowed := true, recurses := true, apart := false }
def ImageWithSaid : Prop := imageWithRow.holds Try.pinned (OpenSpec.ofChange imageWithSpec)

/-- ITS FALSE NEIGHBOUR: 'it returns false'. Refute it at one input. -/
def imageWithWrong : ChangeSpec := { name := "imageWith", fn := fun _ => fun
  | [d1, d2, d3] => { results := [.lit (.bool false)], args := [d1, d2, d3] }
  | _ => none }
def ImageWithWrongFalsely : Prop := imageWithRow.holds Try.pinned (OpenSpec.ofChange imageWithWrong)

/-- 'stemmalaw07.ImageApart': WHATEVER THE INPUT: true; the input reads as it did. -/
def imageApartSpec : ChangeSpec := { name := "imageApart", fn := fun _ => fun
  | [d1, d2, d3] => { results := [.lit (.bool true)], args := [d1, d2, d3] }
  | _ => none }
def imageApartRow : OpenClaim := { program := "ytmljeifooamlcaa", sum := "5318bf1980032ef6b8b691affc13cc1eee6ef28a69aad4d484c12d0064939099", func := "stemma/stemmalaw07.ImageApart", spec := "imageApart", unfollowed := true, recurses := true, apart := false }
def ImageApartSaid : Prop := imageApartRow.holds Try.pinned (OpenSpec.ofChange imageApartSpec)

/-- ITS FALSE NEIGHBOUR: 'it returns false'. Refute it at one input. -/
def imageApartWrong : ChangeSpec := { name := "imageApart", fn := fun _ => fun
  | [d1, d2, d3] => { results := [.lit (.bool false)], args := [d1, d2, d3] }
  | _ => none }
def ImageApartWrongFalsely : Prop := imageApartRow.holds Try.pinned (OpenSpec.ofChange imageApartWrong)

/-- 'stemmalaw07.ImageStays': WHATEVER THE INPUT: true; the input reads as it did. -/
def imageStaysSpec : ChangeSpec := { name := "imageStays", fn := fun _ => fun
  | [d1, d2, d3] => { results := [.lit (.bool true)], args := [d1, d2, d3] }
  | _ => none }
def imageStaysRow : OpenClaim := { program := "ytmljeifooamlcaa", sum := "5318bf1980032ef6b8b691affc13cc1eee6ef28a69aad4d484c12d0064939099", func := "stemma/stemmalaw07.ImageStays", spec := "imageStays", unfollowed := true, recurses := true, apart := false }
def ImageStaysSaid : Prop := imageStaysRow.holds Try.pinned (OpenSpec.ofChange imageStaysSpec)

/-- ITS FALSE NEIGHBOUR: 'it returns false'. Refute it at one input. -/
def imageStaysWrong : ChangeSpec := { name := "imageStays", fn := fun _ => fun
  | [d1, d2, d3] => { results := [.lit (.bool false)], args := [d1, d2, d3] }
  | _ => none }
def ImageStaysWrongFalsely : Prop := imageStaysRow.holds Try.pinned (OpenSpec.ofChange imageStaysWrong)

/-- 'stemmalaw07.ImageKnown': WHATEVER THE INPUT: true; the input reads as it did. -/
def imageKnownSpec : ChangeSpec := { name := "imageKnown", fn := fun _ => fun
  | [] => { results := [.lit (.bool true)], args := [] }
  | _ => none }
def imageKnownRow : OpenClaim := { program := "ytmljeifooamlcaa", sum := "5318bf1980032ef6b8b691affc13cc1eee6ef28a69aad4d484c12d0064939099", func := "stemma/stemmalaw07.ImageKnown", spec := "imageKnown", unfollowed := true, recurses := true, apart := false }
def ImageKnownSaid : Prop := imageKnownRow.holds Try.pinned (OpenSpec.ofChange imageKnownSpec)

/-- ITS FALSE NEIGHBOUR: 'it returns false'. Refute it at one input. -/
def imageKnownWrong : ChangeSpec := { name := "imageKnown", fn := fun _ => fun
  | [] => { results := [.lit (.bool false)], args := [] }
  | _ => none }
def ImageKnownWrongFalsely : Prop := imageKnownRow.holds Try.pinned (OpenSpec.ofChange imageKnownWrong)

/- THE SECOND FORM. 'bulk': how many values and letters a reading holds, each counted each time it is reached (what is shared counts as often as it is met; a slice's spare places count too). A statement '..UptoSaid' is the law's where the arguments, and the package variables that the reading takes, are together of bulk at most 1048576: NARROWER than '..Said'. Prove '..Said' where nothing that the law and all that it calls make is longer than what came in: it says more and counts as full. Else prove '..UptoSaid'. A law counts once. -/
mutual
def uptoBulk {H : Type} : DataW H → Nat
  | .lit (.string bytes) => bytes.length + 1
  | .lit _ => 1
  | .nil => 1
  | .ptr d => uptoBulk d + 1
  | .slice elems spare => uptoBulkAll elems + uptoBulkAll spare + 1
  | .agg parts => uptoBulkAll parts + 1
  | .iface _ d => uptoBulk d + 1
  | .map entries => uptoBulkEntries entries + 1
  | .held _ => 1
def uptoBulkAll {H : Type} : List (DataW H) → Nat
  | [] => 0
  | d :: r => uptoBulk d + uptoBulkAll r
def uptoBulkEntries {H : Type} : List (Lit × DataW H) → Nat
  | [] => 0
  | x :: r => uptoBulkEntry x + uptoBulkEntries r
def uptoBulkEntry {H : Type} : Lit × DataW H → Nat
  | (.string bytes, d) => bytes.length + uptoBulk d + 1
  | (_, d) => uptoBulk d + 1
 end
def uptoSmall : (H : Type) → List (DataW H) → Bool := fun _ ds => decide (uptoBulkAll ds ≤ 1048576)
def OpenSpec.upto (s : _root_.Go.ChangeSpec) : _root_.Go.OpenSpec := { _root_.Go.OpenSpec.ofChange s with cond := some uptoSmall }

/-- 'stemmalaw07.ImageChecks', WHERE WHAT IT READS IS OF BULK AT MOST 1048576: true; the input reads as it did. -/
def imageChecksUptoRow : OpenClaim := { program := "ytmljeifooamlcaa", sum := "5318bf1980032ef6b8b691affc13cc1eee6ef28a69aad4d484c12d0064939099", func := "stemma/stemmalaw07.ImageChecks", spec := "imageChecks", unfollowed := true, recurses := true, apart := false, narrowed := true }
def ImageChecksUptoSaid : Prop := imageChecksUptoRow.holds Try.pinned (OpenSpec.upto imageChecksSpec)

/-- 'stemmalaw07.ImageDiffs', WHERE WHAT IT READS IS OF BULK AT MOST 1048576: true; the input reads as it did. -/
def imageDiffsUptoRow : OpenClaim := { program := "ytmljeifooamlcaa", sum := "5318bf1980032ef6b8b691affc13cc1eee6ef28a69aad4d484c12d0064939099", func := "stemma/stemmalaw07.ImageDiffs", spec := "imageDiffs", unfollowed := true, recurses := true, apart := false, narrowed := true }
def ImageDiffsUptoSaid : Prop := imageDiffsUptoRow.holds Try.pinned (OpenSpec.upto imageDiffsSpec)

/-- 'stemmalaw07.ImageWith', WHERE WHAT IT READS IS OF BULK AT MOST 1048576: true; the input reads as it did. -/
def imageWithUptoRow : OpenClaim := { program := "ytmljeifooamlcaa", sum := "5318bf1980032ef6b8b691affc13cc1eee6ef28a69aad4d484c12d0064939099", func := "stemma/stemmalaw07.ImageWith", spec := "imageWith", unfollowed := true, recurses := true, apart := false, narrowed := true }
def ImageWithUptoSaid : Prop := imageWithUptoRow.holds Try.pinned (OpenSpec.upto imageWithSpec)

/-- 'stemmalaw07.ImageApart', WHERE WHAT IT READS IS OF BULK AT MOST 1048576: true; the input reads as it did. -/
def imageApartUptoRow : OpenClaim := { program := "ytmljeifooamlcaa", sum := "5318bf1980032ef6b8b691affc13cc1eee6ef28a69aad4d484c12d0064939099", func := "stemma/stemmalaw07.ImageApart", spec := "imageApart", unfollowed := true, recurses := true, apart := false, narrowed := true }
def ImageApartUptoSaid : Prop := imageApartUptoRow.holds Try.pinned (OpenSpec.upto imageApartSpec)

/-- 'stemmalaw07.ImageStays', WHERE WHAT IT READS IS OF BULK AT MOST 1048576: true; the input reads as it did. -/
def imageStaysUptoRow : OpenClaim := { program := "ytmljeifooamlcaa", sum := "5318bf1980032ef6b8b691affc13cc1eee6ef28a69aad4d484c12d0064939099", func := "stemma/stemmalaw07.ImageStays", spec := "imageStays", unfollowed := true, recurses := true, apart := false, narrowed := true }
def ImageStaysUptoSaid : Prop := imageStaysUptoRow.holds Try.pinned (OpenSpec.upto imageStaysSpec)

/-- 'stemmalaw07.ImageKnown', WHERE WHAT IT READS IS OF BULK AT MOST 1048576: true; the input reads as it did. -/
def imageKnownUptoRow : OpenClaim := { program := "ytmljeifooamlcaa", sum := "5318bf1980032ef6b8b691affc13cc1eee6ef28a69aad4d484c12d0064939099", func := "stemma/stemmalaw07.ImageKnown", spec := "imageKnown", unfollowed := true, recurses := true, apart := false, narrowed := true }
def ImageKnownUptoSaid : Prop := imageKnownUptoRow.holds Try.pinned (OpenSpec.upto imageKnownSpec)

end Rows
end Go.Proofs.Ytmljeifooamlcaa
