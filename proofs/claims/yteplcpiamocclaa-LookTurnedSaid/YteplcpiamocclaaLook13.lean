/-
  LOOK's statements: literals of nodes; what hangs on what is seen alone; works.
-/
import Derived.Test.YteplcpiamocclaaLook12
namespace Go.Proofs.Yteplcpiamocclaa
open Go.RowKit Reg Go.ChangeShapes

def cellsS (es : List El) : List Value := es.flatMap fun e => e.cells.toList
theorem cellsS_at : ∀ (es : List El) (j i : Nat), j < es.length → i < 9 → (cellsS es)[j * 9 + i]? = (nth es j).cells[i]?
  | e :: es, j, i, hj, hi => by
    cases j with
    | zero =>
      have h9 : e.cells.toList.length = 9 := rfl
      unfold cellsS
      rw [List.flatMap_cons, List.getElem?_append_left (by rw [h9]; omega)]
      simp [nth]
    | succ j =>
      have := cellsS_at es j i (by simpa using hj) hi
      have h9 : e.cells.toList.length = 9 := rfl
      unfold cellsS at this ⊢
      rw [List.flatMap_cons, List.getElem?_append_right (by rw [h9]; omega), h9, show (j + 1) * 9 + i - 9 = j * 9 + i by omega, this]
      simp [nth]
theorem InS.litAt (w : World) (es : List El) (cs : Array Value) (g : Nat) (hg : w.heap.size = g) (hc : cs = (cellsS es).toArray) (h1 : es.length ≤ 1000) (hok : ∀ e ∈ es, ElOK w e) :
    InS (w.alloc (.cells cs 40)) (.slice (some ⟨g, 0, none⟩) es.length es.length) es := by
  subst hg
  have hb := Blk.new w 40 cs
  refine ⟨_, _, rfl, .inr (Nat.le_refl _), by unfold maxLen; omega, fun j hj => ⟨⟨_, _, rfl, ?_⟩, ?_⟩⟩
  · have hcell : ∀ i, i < 9 → (w.alloc (.cells cs 40)).cell? ⟨w.heap.size, 0 + j * 9 + i, none⟩ = (nth es j).cells[i]? := fun i hi => by
      rw [hb.cell, hc, Nat.zero_add, ← cellsS_at es j i hj hi]
      simp
    exact ⟨hcell 0 (by omega), hcell 1 (by omega), hcell 2 (by omega), hcell 3 (by omega), hcell 4 (by omega), hcell 5 (by omega), hcell 6 (by omega), hcell 7 (by omega), hcell 8 (by omega)⟩
  · have hm : es.getD j el0 ∈ es := by
      have : es.getD j el0 = es[j] := by simp [hj]
      rw [this]
      exact List.getElem_mem hj
    exact (hok _ hm).keep ((Below.refl _ _).alloc (Nat.le_refl _) _)
/-- what is seen alone -/
def El.strip (e : El) : El := ⟨e.up, e.prim, 0, 0, false, e.line, e.list, e.told, none, 0, none, 0, none, 0, none, 0, 0⟩
theorem nth_strip (es : List El) (j : Nat) : nth (es.map El.strip) j = (nth es j).strip := by
  unfold nth
  rcases Nat.lt_or_ge j es.length with h | h
  · simp [h]
  · simp [h]
    rfl
theorem kn_strip (es : List El) : kn (es.map El.strip) = kn es := by
  unfold kn
  rw [List.foldl_map]
  rfl
theorem lineP_strip (b n : List El) : lineP (b.map El.strip) (n.map El.strip) = lineP b n := by
  funext i
  unfold lineP
  simp only [nth_strip, List.length_map]
  rfl
theorem badL_strip (es : List El) (j : Nat) : badL (es.map El.strip) j = badL es j := by
  unfold badL
  simp only [nth_strip, kn_strip]
  rfl
theorem badK_strip (b es : List El) (j : Nat) : badK (b.map El.strip) (es.map El.strip) j = badK b es j := by
  unfold badK
  simp only [nth_strip, kn_strip, List.length_map]
  rfl
theorem ups_strip (es : List El) (k : Nat) : ups (es.map El.strip) k = ups es k := by
  unfold ups
  simp only [nth_strip]
  rfl
theorem prims_strip (es : List El) : prims (es.map El.strip) = prims es := by
  unfold prims cntP
  simp only [nth_strip, ups_strip, List.length_map]
  rfl
theorem settledB_strip (es : List El) : settledB (es.map El.strip) = settledB es := by
  unfold settledB otherB
  simp only [nth_strip, kn_strip, prims_strip, List.length_map]
  rfl
/-- what the functions say -/
def lineV (b n : List El) : Int := fIx n.length (lineP b n)
def listsV (es : List El) : Int := fIx es.length fun j => (nth es j).up && badL es j
def keptV (b es : List El) : Int := fIx es.length fun j => (nth es j).up && badK b es j
def toldV (es : List El) : Int := fIx es.length fun i => anyOut (nth es i).told (kn es)
theorem lineV_strip (b n : List El) : lineV (b.map El.strip) (n.map El.strip) = lineV b n := by
  unfold lineV
  rw [lineP_strip, List.length_map]
theorem listsV_strip (es : List El) : listsV (es.map El.strip) = listsV es := by
  unfold listsV
  simp only [nth_strip, badL_strip, List.length_map]
  rfl
theorem keptV_strip (b es : List El) : keptV (b.map El.strip) (es.map El.strip) = keptV b es := by
  unfold keptV
  simp only [nth_strip, badK_strip, List.length_map]
  rfl
theorem toldV_strip (es : List El) : toldV (es.map El.strip) = toldV es := by
  unfold toldV
  simp only [nth_strip, kn_strip, List.length_map]
  rfl
/-- a node, by letters -/
def nd (a b : ByteArray) : El := ⟨true, false, 0, 0, false, namesG a, namesG b, [], none, 0, none, 0, none, 0, none, 0, 0⟩
theorem NodeOf.strip {w : World} {a b : ByteArray} {x : El} (h : NodeOf w a b x) : x.strip = nd a b := by
  unfold El.strip nd
  rw [h.up, h.prim, h.line, h.list, h.told]
theorem works1 : lineV [nd ⟨#[97, 98]⟩ ⟨#[97, 98, 120]⟩, nd ⟨#[97]⟩ ⟨#[97, 98]⟩, nd ⟨#[]⟩ ⟨#[97]⟩] [nd ⟨#[97, 98]⟩ ⟨#[97, 98, 120]⟩, nd ⟨#[97]⟩ ⟨#[97, 98]⟩, nd ⟨#[]⟩ ⟨#[97]⟩] = -1 := by decide +kernel
theorem works2 : listsV [nd ⟨#[97, 98]⟩ ⟨#[97, 98, 120]⟩, nd ⟨#[97]⟩ ⟨#[97, 98]⟩, nd ⟨#[]⟩ ⟨#[97]⟩] = -1 := by decide +kernel
theorem works3 : lineV [] [nd ⟨#[97, 98]⟩ ⟨#[97, 98]⟩, nd ⟨#[97, 120]⟩ ⟨#[97, 120]⟩] = 0 := by decide +kernel
theorem works4 : keptV [nd ⟨#[97, 98]⟩ ⟨#[97, 98]⟩] [nd ⟨#[97, 98]⟩ ⟨#[97]⟩] = 0 := by decide +kernel
theorem works5 : settledB [nd ⟨#[97, 98]⟩ ⟨#[97, 98, 120]⟩, nd ⟨#[97]⟩ ⟨#[97, 98]⟩, nd ⟨#[]⟩ ⟨#[97]⟩] = false := by decide +kernel
end Go.Proofs.Yteplcpiamocclaa
