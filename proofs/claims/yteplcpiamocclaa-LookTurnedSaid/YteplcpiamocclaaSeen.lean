/-
  WHAT IS SEEN OF A CLUSTER (slices of api.Seen), AS IT IS READ.
-/
import Derived.Test.YteplcpiamocclaaLookA
namespace Go.Proofs.Yteplcpiamocclaa
open Go.RowKit Reg

/-- what is seen of a node; and the values of its slices -/
structure El where
  up : Bool
  prim : Bool
  ep : Int
  bef : Int
  leased : Bool
  line : List Gd
  list : List Gd
  told : List Gd
  la : Option Addr
  lc : Nat
  sa : Option Addr
  sc : Nat
  ta : Option Addr
  tc : Nat
  ia : Option Addr
  il : Nat
  ic : Nat
abbrev El.vl (e : El) : Value := .slice e.la e.line.length e.lc
abbrev El.vs (e : El) : Value := .slice e.sa e.list.length e.sc
abbrev El.vt (e : El) : Value := .slice e.ta e.told.length e.tc
abbrev El.vi (e : El) : Value := .slice e.ia e.il e.ic
def el0 : El := ⟨false, false, 0, 0, false, [], [], [], none, 0, none, 0, none, 0, none, 0, 0⟩
def El.cells (e : El) : Array Value := #[.bool e.up, .bool e.prim, .int .u64 e.ep, .int .i64 e.bef, .bool e.leased, e.vl, e.vs, e.vt, e.vi]
def El.enc (e : El) : Value := .agg e.cells
def ElOK (w : World) (e : El) : Prop := InG w e.vl e.line ∧ InG w e.vs e.list ∧ InG w e.vt e.told
def SeenAt (w : World) (g o : Nat) (e : El) : Prop :=
  w.cell? ⟨g, o, none⟩ = some (.bool e.up) ∧ w.cell? ⟨g, o + 1, none⟩ = some (.bool e.prim) ∧ w.cell? ⟨g, o + 2, none⟩ = some (.int .u64 e.ep) ∧ w.cell? ⟨g, o + 3, none⟩ = some (.int .i64 e.bef) ∧
  w.cell? ⟨g, o + 4, none⟩ = some (.bool e.leased) ∧ w.cell? ⟨g, o + 5, none⟩ = some e.vl ∧ w.cell? ⟨g, o + 6, none⟩ = some e.vs ∧ w.cell? ⟨g, o + 7, none⟩ = some e.vt ∧ w.cell? ⟨g, o + 8, none⟩ = some e.vi
/-- v is read as the nodes es -/
def InS (w : World) (v : Value) (es : List El) : Prop :=
  ∃ a c, v = .slice a es.length c ∧ (es.length = 0 ∨ es.length ≤ c) ∧ es.length ≤ maxLen ∧ ∀ j, j < es.length → (∃ g off, a = some ⟨g, off, none⟩ ∧ SeenAt w g (off + j * 9) (es.getD j el0)) ∧ ElOK w (es.getD j el0)
section
variable {w w' : World} {v : Value} {es : List El} {e : El} {g o : Nat}
theorem ElOK.keep (h : ElOK w e) (hb : Below w.heap.size w w') : ElOK w' e := ⟨h.1.keep hb, h.2.1.keep hb, h.2.2.keep hb⟩
theorem SeenAt.keep (h : SeenAt w g o e) (hb : Below w.heap.size w w') : SeenAt w' g o e := by
  obtain ⟨h0, h1, h2, h3, h4, h5, h6, h7, h8⟩ := h
  exact ⟨cell_later hb h0, cell_later hb h1, cell_later hb h2, cell_later hb h3, cell_later hb h4, cell_later hb h5, cell_later hb h6, cell_later hb h7, cell_later hb h8⟩
theorem InS.keep (h : InS w v es) (hb : Below w.heap.size w w') : InS w' v es := by
  obtain ⟨a, c, rfl, h1, h2, h3⟩ := h
  refine ⟨a, c, rfl, h1, h2, fun j hj => ?_⟩
  obtain ⟨⟨g, off, h4, h5⟩, h6⟩ := h3 j hj
  exact ⟨⟨g, off, h4, h5.keep hb⟩, h6.keep hb⟩
end
/-- the first that is so; -1: none -/
def fIx (n : Nat) (p : Nat → Bool) : Int := match (List.range n).find? p with
  | some i => i
  | none => -1
theorem fIx_none {n : Nat} {p : Nat → Bool} (h : ∀ j, j < n → p j = false) : fIx n p = -1 := by
  have : (List.range n).find? p = none := by
    rw [List.find?_eq_none]
    intro x hx
    rw [h x (List.mem_range.1 hx)]
    simp
  unfold fIx
  rw [this]
theorem fIx_some {n k : Nat} {p : Nat → Bool} (hk : k < n) (h : ∀ j, j < k → p j = false) (hp : p k = true) : fIx n p = k := by
  have : (List.range n).find? p = some k := by
    rw [List.find?_range_eq_some]
    exact ⟨hp, List.mem_range.2 hk, fun j hj => by rw [h j hj]; rfl⟩
  unfold fIx
  rw [this]
theorem fIx_cases (n : Nat) (p : Nat → Bool) : (fIx n p = -1 ∧ ∀ j, j < n → p j = false) ∨ ∃ k : Nat, k < n ∧ fIx n p = k ∧ p k = true ∧ ∀ j, j < k → p j = false := by
  cases h : (List.range n).find? p with
  | none =>
    have h' := List.find?_eq_none.1 h
    refine .inl ⟨by unfold fIx; rw [h], fun j hj => ?_⟩
    simpa using h' j (List.mem_range.2 hj)
  | some k =>
    obtain ⟨h1, h2, h3⟩ := List.find?_range_eq_some.1 h
    exact .inr ⟨k, List.mem_range.1 h2, by unfold fIx; rw [h], h1, fun j hj => by simpa using h3 j hj⟩
theorem fIx_neg {n : Nat} {p : Nat → Bool} : fIx n p = -1 ↔ ∀ j, j < n → p j = false := by
  rcases fIx_cases n p with ⟨h1, h2⟩ | ⟨k, hk, h1, h2, h3⟩
  · exact ⟨fun _ => h2, fun _ => h1⟩
  · rw [h1]
    exact ⟨fun e => by omega, fun h => by rw [h k hk] at h2; cases h2⟩
theorem fIx_congr {n : Nat} {p q : Nat → Bool} (h : ∀ j, j < n → p j = q j) : fIx n p = fIx n q := by
  rcases fIx_cases n p with ⟨h1, h2⟩ | ⟨k, hk, h1, h2, h3⟩
  · rw [h1, fIx_none fun j hj => by rw [← h j hj, h2 j hj]]
  · rw [h1, fIx_some hk (fun j hj => by rw [← h j (by omega), h3 j hj]) (by rw [← h k hk, h2])]
/-- a node, by its number -/
def nth (es : List El) (j : Nat) : El := es.getD j el0
/-- the lineage that is known -/
def kn (es : List El) : List Gd := es.foldl (fun out s => if out.length < s.line.length then s.line else out) []
theorem kn_snoc (es : List El) (s : El) : kn (es ++ [s]) = if (kn es).length < s.line.length then s.line else kn es := by
  unfold kn
  rw [List.foldl_append]
  rfl
theorem take_snoc {es : List El} {k : Nat} (hk : k < es.length) : es.take (k + 1) = es.take k ++ [nth es k] := by
  rw [List.take_add_one]
  simp [nth, List.getElem?_eq_getElem hk]
end Go.Proofs.Yteplcpiamocclaa
