/-
  WHICH BLOCKS TURN, AND WHAT STAYS (printed by wip/gen-kp.py out of the model's texts).
-/
import Derived.Test.YteplcpiamocclaaGrow
import Derived.Test.YteplcpiamocclaaLookA
namespace Go.Proofs.Yteplcpiamocclaa
open Go.RowKit Reg

def Kp (A : Nat → Prop) (w w' : World) : Prop := Below 0 w w' ∧ ∀ b, b < w.heap.size → ¬ A b → w'.heap[b]? = w.heap[b]?
section
variable {A : Nat → Prop} {w w' w'' : World} {B : Nat}
theorem Kp.refl (A : Nat → Prop) (w : World) : Kp A w w := ⟨Below.refl _ _, fun _ _ _ => rfl⟩
theorem Kp.size (h : Kp A w w') : w.heap.size ≤ w'.heap.size := h.1.size
theorem Kp.trans (h : Kp A w w') (h' : Kp A w' w'') : Kp A w w'' := ⟨h.1.trans h'.1, fun b hb hA => (h'.2 b (Nat.lt_of_lt_of_le hb h.size) hA).trans (h.2 b hb hA)⟩
theorem Kp.of_below (h : Below w.heap.size w w') : Kp A w w' := ⟨h.mono (Nat.zero_le _), fun b hb _ => h.block b hb⟩
theorem Kp.below (h : Kp A w w') (hA : ∀ b, A b → B ≤ b) (hB : B ≤ w.heap.size) : Below B w w' :=
  ⟨h.1.os, h.1.tape, h.1.output, h.size, fun b hb => h.2 b (by omega) fun ha => by have := hA b ha; omega⟩
theorem Kp.blk {g : Nat} {t : TypeId} {cs : Array Value} (h : Kp A w w') (hb : Blk w g t cs) (hA : ¬ A g) : Blk w' g t cs := (h.2 g hb.lt hA).trans hb
end
theorem Kp.mono {A A' : Nat → Prop} {w w' : World} (h : Kp A w w') (hA : ∀ b, A b → A' b) : Kp A' w w' := ⟨h.1, fun b hb hn => h.2 b hb fun ha => hn (hA b ha)⟩
section
variable {A : Nat → Prop} {w w' : World} {base m n g : Nat} {e e' : TypeId} {v v' : Value} {xs : List Value}
theorem own_cells (ho : w.ownsRow base e m v n xs) (hg : v.ownBlock = some g) : ∃ cs, w.heap[g]? = some (.cells cs e (0, 0)) := by
  rcases ho.2 with ⟨rfl, _⟩ | ⟨g', cap, cur, rfl, hb, hh, _⟩
  · cases hg
  · have : g' = g := by simpa [Value.ownBlock] using hg
    subst this
    exact ⟨cur, hh⟩
theorem own_in (ho : w.ownsRow base e m v n xs) (hg : v.ownBlock = some g) : g < w.heap.size := by
  obtain ⟨cs, hc⟩ := own_cells ho hg
  exact lt_of_block hc
theorem own_kp (h : Kp A w w') (ho : w.ownsRow base e m v n xs) (hA : ∀ g, v.ownBlock = some g → ¬ A g) : w'.ownsRow base e m v n xs := by
  refine ⟨ho.1, ?_⟩
  rcases ho.2 with hn | ⟨g', cap, cur, rfl, hb, hh, rest⟩
  · exact .inl hn
  · exact .inr ⟨g', cap, cur, rfl, hb, (h.2 g' (lt_of_block hh) (hA g' rfl)).trans hh, rest⟩
theorem own_apart {n' m' base' : Nat} {xs' : List Value} (ho : w.ownsRow base e m v n xs) (ho' : w.ownsRow base' e' m' v' n' xs') (he : e ≠ e') (hg : v.ownBlock = some g) : v'.ownBlock ≠ some g := by
  intro hg'
  obtain ⟨cs, h1⟩ := own_cells ho hg
  obtain ⟨cs', h2⟩ := own_cells ho' hg'
  rw [h1] at h2
  simp only [Option.some.injEq, Obj.cells.injEq] at h2
  exact he h2.2.1
theorem Kp.of_grown {row : Option Nat} (h : w.grownBy w' row) (hr : ∀ k, row = some k → base ≤ k) (hb : base ≤ w.heap.size) : Kp (fun b => row = some b) w w' :=
  ⟨(below_grown h hb hr).mono (Nat.zero_le _), fun b hlt hn => h.block b hlt (fun e => hn e.symm)⟩
end
section
variable {A : Nat → Prop} {base q g i m n : Nat} {w w' w'' : World} {t t' : TypeId} {v u : Value} {xs : List Value} {cs : Array Value}
theorem own_ne (ho : w.ownsRow base t m v n xs) (hb : Blk w q t' cs) (he : t ≠ t') (hg : v.ownBlock = some g) : g ≠ q := by
  rintro rfl
  obtain ⟨cs', h1⟩ := own_cells ho hg
  unfold Blk at hb
  rw [h1] at hb
  simp only [Option.some.injEq, Obj.cells.injEq] at hb
  exact he hb.2.1
theorem setCell_other (a : Addr) (u : Value) (b : Nat) (h : b ≠ a.block) : (w.setCell a u).heap[b]? = w.heap[b]? := by
  simp only [World.setCell, Array.getElem?_modify]
  rw [if_neg (fun e => h e.symm)]
theorem Kp.cell (w : World) (q i : Nat) (u : Value) : Kp (· = q) w (w.setCell ⟨q, i, none⟩ u) :=
  ⟨(Below.refl 0 w).setCell (Nat.zero_le _) _, fun b _ hn => setCell_other _ _ b hn⟩
end
theorem OwG.from_ {w : World} {base g : Nat} {v : Value} {gs : List Gd} (h : OwG w base v gs) (hg : v.ownBlock = some g) : base ≤ g := by
  rcases h.1.2 with ⟨rfl, _⟩ | ⟨g', cap, cur, rfl, hb, _⟩
  · cases hg
  · have : g' = g := by simpa [Value.ownBlock] using hg
    omega
theorem own_slice {w : World} {base m n : Nat} {t : TypeId} {v : Value} {xs : List Value} (h : w.ownsRow base t m v n xs) : ∃ a c, v = .slice a n c := by
  rcases h.2 with ⟨rfl, rfl⟩ | ⟨g, cap, cur, rfl, _⟩
  · exact ⟨none, 0, rfl⟩
  · exact ⟨_, cap, rfl⟩
end Go.Proofs.Yteplcpiamocclaa
