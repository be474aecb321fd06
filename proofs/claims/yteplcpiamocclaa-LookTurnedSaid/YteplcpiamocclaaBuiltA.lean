/-
  LOOK's statements: shapes; nodes in a row of one's own.
-/
import Derived.Test.YteplcpiamocclaaLook14
import Derived.Test.YteplcpiamocclaaKp
namespace Go.Proofs.Yteplcpiamocclaa
open Go.RowKit Reg Go.ChangeShapes

structure Shp where
  k : Int
  h : Int
  o : Int
  up : Bool
  pr : Bool
def shp0 : Shp := ⟨0, 0, 0, false, false⟩
def Shp.cells (x : Shp) : Array Value := #[.int .u8 x.k, .int .u8 x.h, .int .u8 x.o, .bool x.up, .bool x.pr]
def Shp.wf (x : Shp) : Prop := (0 ≤ x.k ∧ x.k < 256) ∧ (0 ≤ x.h ∧ x.h < 256) ∧ (0 ≤ x.o ∧ x.o < 256)
def ShAt (w : World) (g o : Nat) (x : Shp) : Prop :=
  w.cell? ⟨g, o, none⟩ = some (.int .u8 x.k) ∧ w.cell? ⟨g, o + 1, none⟩ = some (.int .u8 x.h) ∧ w.cell? ⟨g, o + 2, none⟩ = some (.int .u8 x.o) ∧ w.cell? ⟨g, o + 3, none⟩ = some (.bool x.up) ∧ w.cell? ⟨g, o + 4, none⟩ = some (.bool x.pr)
/-- v is read as the shapes xs -/
def InH (w : World) (v : Value) (xs : List Shp) : Prop :=
  ∃ a c, v = .slice a xs.length c ∧ xs.length ≤ maxLen ∧ ∀ j, j < xs.length → (∃ g off, a = some ⟨g, off, none⟩ ∧ ShAt w g (off + j * 5) (xs.getD j shp0)) ∧ (xs.getD j shp0).wf
theorem InH.keep {w w' : World} {v : Value} {xs : List Shp} (h : InH w v xs) (hb : Below w.heap.size w w') : InH w' v xs := by
  obtain ⟨a, c, rfl, h1, h2⟩ := h
  refine ⟨a, c, rfl, h1, fun j hj => ?_⟩
  obtain ⟨⟨g, off, h4, h5, h6, h7, h8, h9⟩, hw⟩ := h2 j hj
  exact ⟨⟨g, off, h4, cell_later hb h5, cell_later hb h6, cell_later hb h7, cell_later hb h8, cell_later hb h9⟩, hw⟩
/-- the lineage: n guids, three an epoch -/
def linA (i : Nat) : Gd := (((1 + i / 3 : Nat) : Int), ((1 + i % 3 : Nat) : Int))
def linG (n : Nat) : List Gd := (List.range n).map linA
theorem linG_len (n : Nat) : (linG n).length = n := by simp [linG]
theorem linG_succ (n : Nat) : linG (n + 1) = linG n ++ [linA n] := by simp [linG, List.range_succ]
/-- what is a node's own -/
def ownA (i j : Nat) : Gd := (((90 + i : Nat) : Int), ((j + 1 : Nat) : Int))
def ownG (i k : Nat) : List Gd := (List.range k).map (ownA i)
theorem ownG_succ (i k : Nat) : ownG i (k + 1) = ownG i k ++ [ownA i k] := by simp [ownG, List.range_succ]
theorem ownG_len (i k : Nat) : (ownG i k).length = k := by simp [ownG]
/-- the node of a shape -/
def nodeB (L : List Gd) (i : Nat) (x : Shp) : El :=
  ⟨x.up, x.pr, 0, 0, false, L.take (x.k.toNat % (L.length + 1)), L.take (x.h.toNat % (L.length + 1)) ++ ownG i (x.o.toNat % 4), [], none, 0, none, 0, none, 0, none, 0, 0⟩
def builtB (L : List Gd) (xs : List Shp) (m : Nat) : List El := (List.range m).map fun i => nodeB L i (xs.getD i shp0)
theorem builtB_succ (L : List Gd) (xs : List Shp) (m : Nat) : builtB L xs (m + 1) = builtB L xs m ++ [nodeB L m (xs.getD m shp0)] := by simp [builtB, List.range_succ]
/-- v owns the nodes es -/
def OwS (w : World) (base : Nat) (v : Value) (es : List El) : Prop := w.ownsRow base 40 9 v es.length (cellsS es)
theorem seen_info : (Try.prog.info? 40).map (fun i => (i.zero, i.size, i.bytes)) = some (some el0.enc, 9, 128) := by kernel_rfl
theorem cellsS_snoc (es : List El) (e : El) : cellsS (es ++ [e]) = cellsS es ++ e.cells.toList := by simp [cellsS]
section
variable {w w' : World} {base : Nat} {v : Value} {es : List El} {e : El}
theorem OwS.nil_ (w : World) (base : Nat) : OwS w base (.slice none 0 0) [] := World.ownsRow_nil _ _ _ _
/-- append, of one node -/
theorem app_seen (ty : TypeId) (ho : OwS w base v es) (hn : es.length + 1 ≤ 2 ^ 30) (hbase : base ≤ w.heap.size) :
    ∃ v' w', (Builtin.append_ #[23, 23] ty #[v, .slice (some ⟨w.heap.size, 0, none⟩) 1 1]).run Try.prog (w.alloc (.cells e.cells 40)) = .ok v' w' ∧
      OwS w' base v' (es ++ [e]) ∧ (w.alloc (.cells e.cells 40)).grownBy w' v.ownBlock := by
  obtain ⟨i, hi, hz0, hz1, hz2⟩ := info_parts seen_info
  have hu := own_new w w.heap.size 40 e.cells 9 1 rfl (Nat.le_refl _) (by decide)
  have hb := (Below.refl w.heap.size w).alloc (Nat.le_refl _) (Obj.cells e.cells 40)
  obtain ⟨v', w', h1, h2⟩ := app_own _ base 23 ty 40 i el0.enc 9 128 Try.underlying23 hi hz0 hz1 hz2 rfl (by decide) (own_kp (A := fun _ => False) (.of_below hb) ho fun _ _ h => h) (Rd.of_own hu) (by simp [El.cells, Value.oneCell']) (by unfold maxLen; omega) (by omega) (by simp; omega)
  refine ⟨v', w', h1, ?_, h2.2.1⟩
  unfold OwS
  rw [cellsS_snoc, List.length_append]
  exact h2.1
theorem OwS.ins (h : OwS w base v es) (hok : ∀ e ∈ es, ElOK w e) (hl : es.length ≤ maxLen) : InS w v es := by
  rcases h.2 with ⟨rfl, h0⟩ | ⟨g, cap, cur, rfl, hg, hh, hc, rest⟩
  · exact ⟨none, 0, by rw [h0], .inl h0, hl, fun j hj => by omega⟩
  · refine ⟨_, cap, rfl, .inr hc, hl, fun j hj => ⟨⟨g, 0, rfl, ?_⟩, ?_⟩⟩
    · have hcell : ∀ i, i < 9 → w.cell? ⟨g, 0 + j * 9 + i, none⟩ = (nth es j).cells[i]? := fun i hi => by
        rw [Nat.zero_add, ← cellsS_at es j i hj hi]
        exact h.cellAt (j * 9 + i) (by omega)
      exact ⟨hcell 0 (by omega), hcell 1 (by omega), hcell 2 (by omega), hcell 3 (by omega), hcell 4 (by omega), hcell 5 (by omega), hcell 6 (by omega), hcell 7 (by omega), hcell 8 (by omega)⟩
    · have hm : es.getD j el0 ∈ es := by
        have : es.getD j el0 = es[j] := by simp [hj]
        rw [this]
        exact List.getElem_mem hj
      exact hok _ hm
end
end Go.Proofs.Yteplcpiamocclaa
