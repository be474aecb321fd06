/-
  LookKnown: what stands in its nodes; the values. No walk in it.
-/
import Derived.Test.YteplcpiamocclaaLook14
import Derived.Test.YteplcpiamocclaaKp
namespace Go.Proofs.Yteplcpiamocclaa
open Go.RowKit Reg Go.ChangeShapes

/-- a node that is, but for addresses, s -/
structure NS (w : World) (x s : El) : Prop where
  strip : x.strip = s
  ok : ElOK w x
theorem NS.keep {w w' : World} {x s : El} (h : NS w x s) (hb : Below w.heap.size w w') : NS w' x s := ⟨h.strip, h.ok.keep hb⟩
theorem NodeOf.ns {w : World} {a b : ByteArray} {x : El} (h : NodeOf w a b x) : NS w x (nd a b) := ⟨h.strip, h.ok⟩
/-- what is said of what comes up: nodes, lists of them -/
def FT (tn : List (Nat × El)) (tl : List (Nat × List El)) (s : Nat) (w : World) (u : Value) : Prop :=
  (∀ S, tn.lookup s = some S → ∃ x : El, u = x.enc ∧ NS w x S) ∧ ∀ L, tl.lookup s = some L → ∃ es, InS w u es ∧ es.map El.strip = L
theorem FT.stable {tn : List (Nat × El)} {tl : List (Nat × List El)} : Stable (FT tn tl) := fun _ _ _ _ h hb =>
  ⟨(fun S hS => by obtain ⟨x, h1, h2⟩ := h.1 S hS; exact ⟨x, h1, h2.keep hb⟩), fun L hL => by obtain ⟨es, h1, h2⟩ := h.2 L hL; exact ⟨es, h1.keep hb, h2⟩⟩
theorem FT.node {tn : List (Nat × El)} {tl : List (Nat × List El)} {s : Nat} {w : World} {x S : El} (h1 : tn.lookup s = some S) (h2 : tl.lookup s = none) (hx : NS w x S) : FT tn tl s w x.enc :=
  ⟨(fun S' h => by rw [h1] at h; obtain rfl := Option.some.inj h; exact ⟨x, rfl, hx⟩), fun L h => by rw [h2] at h; cases h⟩
theorem FT.lit {tn : List (Nat × El)} {tl : List (Nat × List El)} {s : Nat} {w : World} {u : Value} {es L : List El} (h1 : tn.lookup s = none) (h2 : tl.lookup s = some L) (hi : InS w u es) (hs : es.map El.strip = L) : FT tn tl s w u :=
  ⟨(fun S' h => by rw [h1] at h; cases h), fun L' h => by rw [h2] at h; obtain rfl := Option.some.inj h; exact ⟨es, hi, hs⟩⟩
theorem FT.val {tn : List (Nat × El)} {tl : List (Nat × List El)} {s : Nat} {w : World} {u : Value} (h1 : tn.lookup s = none) (h2 : tl.lookup s = none) : FT tn tl s w u :=
  ⟨(fun S' h => by rw [h1] at h; cases h), fun L' h => by rw [h2] at h; cases h⟩
def firstS : El := ⟨true, true, 0, 0, false, namesG ⟨#[97, 98]⟩, namesG ⟨#[97, 98]⟩, namesG ⟨#[98, 97]⟩, none, 0, none, 0, none, 0, none, 0, 0⟩
def downS : El := ⟨false, false, 0, 0, false, namesG ⟨#[]⟩, namesG ⟨#[122, 122, 122]⟩, [], none, 0, none, 0, none, 0, none, 0, 0⟩
def lateS : El := ⟨true, false, 0, 0, false, namesG ⟨#[97, 98, 99]⟩, namesG ⟨#[97, 98, 99]⟩, namesG ⟨#[100]⟩, none, 0, none, 0, none, 0, none, 0, 0⟩
theorem known_k1 : toldV [nd ⟨#[97, 98]⟩ ⟨#[97, 98, 120]⟩, nd ⟨#[97]⟩ ⟨#[97, 98]⟩, nd ⟨#[]⟩ ⟨#[97]⟩] = -1 := by decide +kernel
theorem known_k2 : toldV [firstS] = -1 := by decide +kernel
theorem known_k3 : settledB [firstS, nd ⟨#[97, 98]⟩ ⟨#[97, 98]⟩] = true := by decide +kernel
theorem known_k4 : settledB [nd ⟨#[97, 98]⟩ ⟨#[97, 98]⟩] = false := by decide +kernel
theorem known_k5 : settledB [] = false := by decide +kernel
theorem known_k6 : decide (prims [] ≤ 1) = true := by decide +kernel
theorem known_k7 : decide (prims [firstS, firstS] ≤ 1) = false := by decide +kernel
theorem known_k8 : settledB [firstS, nd ⟨#[97]⟩ ⟨#[97, 98]⟩] = false := by decide +kernel
theorem known_k9 : settledB [firstS, nd ⟨#[97, 98]⟩ ⟨#[97, 98, 120]⟩] = false := by decide +kernel
theorem known_k10 : settledB [firstS, downS] = false := by decide +kernel
theorem known_k11 : lineV [nd ⟨#[97, 98]⟩ ⟨#[]⟩] [nd ⟨#[97, 120]⟩ ⟨#[97, 120]⟩] = 0 := by decide +kernel
theorem known_k12 : lineV [] [nd ⟨#[]⟩ ⟨#[]⟩, nd ⟨#[97, 98]⟩ ⟨#[97, 98]⟩, nd ⟨#[97, 120]⟩ ⟨#[97, 120]⟩] = 1 := by decide +kernel
theorem known_k13 : lineV [nd ⟨#[120]⟩ ⟨#[]⟩] [nd ⟨#[]⟩ ⟨#[]⟩, nd ⟨#[97, 98]⟩ ⟨#[97, 98]⟩] = 1 := by decide +kernel
theorem known_m0 : listsV [nd ⟨#[97, 98]⟩ ⟨#[97, 98]⟩, nd ⟨#[97]⟩ ⟨#[97, 120, 98]⟩] = 1 := by decide +kernel
theorem known_m1 : listsV [nd ⟨#[97, 98]⟩ ⟨#[97, 98]⟩, nd ⟨#[97]⟩ ⟨#[120, 98]⟩] = 1 := by decide +kernel
theorem known_m2 : listsV [nd ⟨#[97, 98]⟩ ⟨#[97, 98]⟩, nd ⟨#[97]⟩ ⟨#[98]⟩] = 1 := by decide +kernel
theorem known_m3 : listsV [nd ⟨#[97, 98]⟩ ⟨#[97, 98]⟩, nd ⟨#[97]⟩ ⟨#[97, 98, 97]⟩] = 1 := by decide +kernel
theorem known_m4 : listsV [nd ⟨#[97, 98]⟩ ⟨#[97, 98]⟩, nd ⟨#[97]⟩ ⟨#[97, 98, 98]⟩] = 1 := by decide +kernel
theorem known_m5 : listsV [nd ⟨#[97, 98]⟩ ⟨#[97, 98]⟩, nd ⟨#[97]⟩ ⟨#[98, 97]⟩] = 1 := by decide +kernel
theorem known_k14 : listsV [nd ⟨#[97, 98]⟩ ⟨#[97, 98]⟩, nd ⟨#[97]⟩ ⟨#[97, 120]⟩, nd ⟨#[]⟩ ⟨#[120, 121, 122]⟩, downS] = -1 := by decide +kernel
theorem known_k15 : listsV [downS, nd ⟨#[97, 98]⟩ ⟨#[98, 120]⟩] = 1 := by decide +kernel
theorem known_k16 : keptV [nd ⟨#[]⟩ ⟨#[97, 98, 99]⟩] [nd ⟨#[97, 98]⟩ ⟨#[97, 98]⟩] = -1 := by decide +kernel
theorem known_k17 : keptV [nd ⟨#[]⟩ ⟨#[97, 98]⟩] [nd ⟨#[97, 98]⟩ ⟨#[97, 120]⟩] = 0 := by decide +kernel
theorem known_k18 : keptV [nd ⟨#[]⟩ ⟨#[97, 98]⟩, downS] [nd ⟨#[97, 98]⟩ ⟨#[97, 98]⟩, nd ⟨#[97, 98]⟩ ⟨#[]⟩, nd ⟨#[]⟩ ⟨#[]⟩] = -1 := by decide +kernel
theorem known_k19 : toldV [nd ⟨#[]⟩ ⟨#[]⟩, lateS] = 1 := by decide +kernel
end Go.Proofs.Yteplcpiamocclaa
