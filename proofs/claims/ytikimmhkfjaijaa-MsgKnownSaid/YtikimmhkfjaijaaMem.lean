/-
  WORDS FOR MEMORY: a block that is known whole; what stays of it.
-/
import Derived.Below
import Derived.WalkKit
import Derived.WalkSpells
import Derived.Deep.Draws
import Derived.Deep.QuietTactic
import Derived.BigQuiet
namespace Go.Proofs.Ytikimmhkfjaijaa
open Go.RowKit

/-- Block g is just the cells cs, of element type t, none of them frozen. -/
def Blk (w : World) (g : Nat) (t : TypeId) (cs : Array Value) : Prop := w.heap[g]? = some (.cells cs t (0, 0))

section
variable {w w' : World} {g : Nat} {t : TypeId} {cs : Array Value}
theorem Blk.lt (h : Blk w g t cs) : g < w.heap.size := lt_of_block h
theorem Blk.cell (h : Blk w g t cs) (i : Nat) : w.cell? ⟨g, i, none⟩ = cs[i]? := by
  unfold Blk at h; simp [World.cell?, h]
theorem Blk.frozen (h : Blk w g t cs) (i : Nat) : w.frozen? ⟨g, i, none⟩ = false := by
  unfold Blk at h; simp [World.frozen?, h]
theorem Blk.new (w : World) (t : TypeId) (cs : Array Value) : Blk (w.alloc (.cells cs t)) w.heap.size t cs := heap_alloc_new w _
theorem Blk.newAt {w : World} (t : TypeId) (cs : Array Value) {g : Nat} (h : w.heap.size = g) : Blk (w.alloc (.cells cs t)) g t cs := by subst h; exact heap_alloc_new w _
theorem Blk.alloc (h : Blk w g t cs) (o : Obj) : Blk (w.alloc o) g t cs := (Below.heap_alloc w o g h.lt).trans h
theorem Blk.drew (h : Blk w g t cs) : Blk w.drew g t cs := h
theorem Blk.drewN (h : Blk w g t cs) (n : Nat) : Blk (w.drewN n) g t cs := h
theorem Blk.set (h : Blk w g t cs) (i : Nat) (u : Value) : Blk (w.setCell ⟨g, i, none⟩ u) g t (cs.setIfInBounds i u) := by
  unfold Blk at h ⊢
  simp [World.setCell, Array.getElem?_modify, h]
theorem Blk.far (h : Blk w g t cs) {p : Addr} (hp : g ≠ p.block) (u : Value) : Blk (w.setCell p u) g t cs := (Below.heap_setCell w p u g hp).trans h
theorem Blk.row (h : Blk w g t cs) (ds : Array Value) : Blk (w.setRow g ds) g t ds := setRow_heap w g cs ds t _ h
theorem Blk.farRow {k : Nat} (h : Blk w g t cs) (hk : g ≠ k) (ds : Array Value) : Blk (w.setRow k ds) g t cs := by
  unfold Blk at h ⊢
  rw [← h]
  simp only [World.setRow, Array.getElem?_modify]
  rw [if_neg (by omega)]
theorem Blk.below {B : Nat} (h : Blk w g t cs) (hb : Below B w w') (hg : g < B) : Blk w' g t cs := (hb.block g hg).trans h
theorem Blk.keep (h : Blk w g t cs) (hb : Below w.heap.size w w') : Blk w' g t cs := h.below hb h.lt
theorem Below.setRow {B : Nat} {a w : World} (h : Below B a w) {k : Nat} (hk : B ≤ k) (ds : Array Value) : Below B a (w.setRow k ds) :=
  h.trans ⟨rfl, rfl, rfl, by simp [World.setRow], fun i hi => by
    simp only [World.setRow, Array.getElem?_modify]
    rw [if_neg (by omega)]⟩
end

/-! ### A region that draws its order, whose calls make memory and give back numbers, bools or texts: one walk of its text's order -/
/-- The worlds that are as w below its end. -/
def Bw (w : World) : Type := { x : World // Below w.heap.size w x }
def Bw.w {w : World} (x : Bw w) : World := x.1
instance (w : World) : Nonempty (Bw w) := ⟨w, Below.refl _ _⟩
theorem Bw.below {w : World} (x : Bw w) : Below w.heap.size w x.w := x.2
theorem Bw.cell {w : World} (x : Bw w) {p : Addr} {v : Value} (h : w.cell? p = some v) : x.w.cell? p = some v := cell_later x.below h
theorem wp_region_below {P : Program} {id : Nat} {Q : Exit → Act → World → Prop} {a : Act} {w : World} {l : List Oper} (hm : P.follows .mixedOrders = true) (hB : Region.lexB .any l.toArray = true)
    (h : wpQuiet P l.toArray (fun w' => ∃ x : Bw w, w' = x.w) (fun a' => ∀ w', Below w.heap.size w w' → Q .normal a' w') l a) : (Code.region id l.toArray true).wp P Q a w := by
  refine wp_region_quiet (C := fun w' => ∃ x : Bw w, w' = x.w) hm hB ⟨⟨w.drew, (Below.refl _ _).drew⟩, rfl⟩ ?_
  refine (show wpQuiet P l.toArray (fun w' => ∃ x : Bw w, w' = x.w) (fun a' => ∀ w', (∃ x : Bw w, w' = x.w) → Q .normal a' w') l a from ?_)
  have e : (fun a' : Act => ∀ w', (∃ x : Bw w, w' = x.w) → Q .normal a' w') = (fun a' => ∀ w', Below w.heap.size w w' → Q .normal a' w') := by
    funext a'
    apply propext
    exact ⟨fun k w' hw' => k w' ⟨⟨w', hw'⟩, rfl⟩, fun k w' ⟨x, hx⟩ => k w' (hx ▸ x.below)⟩
  rw [e]
  exact h
/-- A call in such a region. -/
theorem below_call {P : Program} {f : FuncId} {args : Array Value} {w : World} {x : Bw w} {v : Value}
    (h : Calls P f args x.w fun e w'' => e = .returned v ∧ Below x.w.heap.size x.w w'') : Calls P f args x.w fun e w'' => e = .returned v ∧ ∃ y : Bw w, w'' = y.w :=
  h.mono fun _ w2 ⟨he, hb⟩ => ⟨he, ⟨w2, x.below.trans (hb.mono x.below.size)⟩, rfl⟩
theorem below_same {P : Program} {f : FuncId} {args : Array Value} {w : World} {x : Bw w} {v : Value}
    (h : Calls P f args x.w fun e w'' => e = .returned v ∧ x.w = w'') : Calls P f args x.w fun e w'' => e = .returned v ∧ ∃ y : Bw w, w'' = y.w :=
  h.mono fun _ _ ⟨he, hb⟩ => ⟨he, x, hb.symm⟩

/-- What is to be shown of the world 'w', asked of a letter. -/
def Later (w : World) (p : World → Prop) : Prop := p w
theorem Later.mk {w : World} {p : World → Prop} (h : ∀ w', w' = w → p w') : Later w p := h w rfl
/-- A whole array or struct is stored into a block: what stands behind it is asked of a world that is a letter. -/
theorem wpList_store_then {P : Program} {ops : Array Oper} {rest : List Oper} {o : Oper} {a : Act} {w : World} {Q : Exit → Act → World → Prop} (hgd : o.guard = none) (ty : TypeId) (x y : Operand) (ho : o.op = .store ty x y)
    (g : Nat) (cells : Array Value) (hx : a.eval x = .pointer (some ⟨g, 0, none⟩)) (hy : a.eval y = .agg cells) (t : TypeId) (old : Array Value) (hg : Blk w g t old)
    (hi : (P.info? ty).map (fun i => i.size) = some cells.size) (hs : old.size = cells.size) (hc : (cells.all fun x => x.oneCell') = true)
    (h : Later (w.setRow g cells) (wpList P ops Q rest (a.put o.dst undef))) : wpList P ops Q (o :: rest) a w :=
  wpList_store_row hgd ty x y ho g cells hx hy t old hg hi hs hc h
end Go.Proofs.Ytikimmhkfjaijaa
