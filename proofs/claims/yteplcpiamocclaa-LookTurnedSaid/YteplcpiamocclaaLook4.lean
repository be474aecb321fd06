/-
  LOOK: Line.
-/
import Derived.Test.YteplcpiamocclaaLook3
namespace Go.Proofs.Yteplcpiamocclaa
open Go.RowKit Reg Go.ChangeShapes

/-- neither goes on where the other ends -/
def apart (a b : List Gd) : Bool := !begB a b && !begB b a
set_option maxRecDepth 100000 in
theorem apart_any (x : El) (qa : Nat) (a : List Gd) (va : Value) (w : World) (ha : w.cell? ⟨qa, 0, none⟩ = some va) (hva : InG w va a) (hx : ElOK w x) :
    Calls Try.prog 29 #[x.enc, .pointer (some ⟨qa, 0, none⟩)] w fun e w' => e = .returned (.bool (apart a x.line)) ∧ Below w.heap.size w w' := by
  have hb0 := (Below.refl w.heap.size w).alloc (Nat.le_refl _) (Obj.cells x.cells 40)
  have bx := Blk.new w 40 x.cells
  have h1 := begins_any va x.vl a x.line _ (hva.keep hb0) (hx.1.keep hb0)
  have h2 := fun w1 (hb : Below w.heap.size w w1) => begins_any x.vl va x.line a w1 (hx.1.keep hb) (hva.keep hb)
  unfold apart
  obtain ⟨ra, rc, rfl⟩ := hva.slice_
  generalize begB a x.line = b1 at *
  generalize begB x.line a = b2 at *
  have c0 := cell_later hb0 ha
  have HA := Lib.hid ha
  have HB0 := Lib.hid hb0
  have HBX := Lib.hid bx
  have H1 := Lib.hid h1
  have H2 := Lib.hid h2
  clear ha hva hx hb0 bx h1 h2
  unfold El.enc
  dsimp only [El.cells, El.vl, El.vs, El.vt, El.vi] at c0 HB0 HBX H1 H2 ⊢
  go_enter Try.func29, Try.ntmps29
  go_wp2_with fail
  refine H1.out.mono ?_
  rintro e w1 ⟨rfl, hb⟩
  have HB1 := Lib.hid (HB0.out.trans (hb.mono HB0.out.size))
  have hbx := HBX.out.keep hb
  obtain ⟨qx, hqx⟩ : ∃ z, z = w.heap.size := ⟨_, rfl⟩
  rw [← hqx] at hbx
  rw [← hqx]
  clear hb H1 c0 hqx HB0 HBX
  have c0 := cell_later HB1.out HA.out
  have x5 := hbx.cell 5
  simp at x5
  clear hbx
  cases b1 with
  | true =>
    go_wp2
    go_ret
    exact ⟨rfl, HB1.out⟩
  | false =>
    go_wp2_with fail
    refine (H2.out _ HB1.out).mono ?_
    rintro e w2 ⟨rfl, hb⟩
    have HB2 := Lib.hid (HB1.out.trans (hb.mono HB1.out.size))
    clear hb c0 x5 HB1
    go_wp2
    go_ret
    exact ⟨by cases b2 <;> rfl, HB2.out⟩
/-- is a node's line apart from another one's? -/
def lineP (before now : List El) (i : Nat) : Bool :=
  (List.range before.length).any (fun j => apart (nth now i).line (nth before j).line) || (List.range now.length).any (fun j => apart (nth now i).line (nth now j).line)
set_option maxRecDepth 100000 in
theorem line1_any (x : El) (qb qn : Nat) (vb vn : Value) (before now : List El) (w : World) (hb : w.cell? ⟨qb, 0, none⟩ = some vb) (hn : w.cell? ⟨qn, 0, none⟩ = some vn) (hvb : InS w vb before) (hvn : InS w vn now) (hx : ElOK w x) :
    Calls Try.prog 28 #[x.enc, .pointer (some ⟨qb, 0, none⟩), .pointer (some ⟨qn, 0, none⟩)] w fun e w' =>
      e = .returned (.bool ((List.range before.length).any (fun j => apart x.line (nth before j).line) || (List.range now.length).any (fun j => apart x.line (nth now j).line))) ∧ Below w.heap.size w w' := by
  have hb0 := (Below.refl w.heap.size w).alloc (Nat.le_refl _) (Obj.cells x.cells 40)
  have bx := Blk.new w 40 x.cells
  have hb1 := hb0.alloc hb0.size (Obj.cells #[x.vl] 35)
  have ba := Blk.new (w.alloc (Obj.cells x.cells 40)) 35 #[x.vl]
  rw [World.size_alloc] at ba
  have hcall : ∀ (es : List El) (v : Value), InS w v es → ∀ w1, Below w.heap.size w w1 → Blk w1 (w.heap.size + 1) 35 #[x.vl] →
      Calls Try.prog 31 #[v, .func (.func 29) #[] #[.pointer (some ⟨w.heap.size + 1, 0, none⟩)]] w1 fun e w' =>
        e = .returned (.bool ((List.range es.length).any fun j => apart x.line (nth es j).line)) ∧ Below w1.heap.size w1 w' := fun es v hv w1 hb2 ba1 => by
    have hv1 := hv.keep hb2
    refine containsS_1 _ _ (fun j => apart x.line (nth es j).line) v es w1 hv1 (fun _ _ => by rfl) fun j hj w2 hb3 => ?_
    obtain ⟨a, c, -, -, -, h3⟩ := hv1
    have hc := (ba1.keep hb3).cell 0
    exact apart_any (nth es j) _ x.line x.vl w2 (by rw [hc]; rfl) (hx.1.keep (hb2.trans (hb3.mono hb2.size))) ((h3 j hj).2.keep hb3)
  have h1 := hcall before vb hvb _ hb1 ba
  have h2 := fun w1 (hb2 : Below w.heap.size w w1) (ba1 : Blk w1 (w.heap.size + 1) 35 #[x.vl]) => hcall now vn hvn w1 hb2 ba1
  generalize (List.range before.length).any (fun j => apart x.line (nth before j).line) = b1 at *
  generalize (List.range now.length).any (fun j => apart x.line (nth now j).line) = b2 at *
  obtain ⟨ab, cb, rfl, -⟩ := hvb
  obtain ⟨an, cn, rfl, -⟩ := hvn
  have c0 := cell_later hb1 hb
  have c1 := cell_later hb1 hn
  have HN := Lib.hid hn
  have HB0 := Lib.hid hb1
  have HBA := Lib.hid ba
  have H1 := Lib.hid h1
  have H2 := Lib.hid h2
  clear hb hn hx hb0 bx h1 h2 hcall hb1 ba
  unfold El.enc
  dsimp only [El.cells, El.vl, El.vs, El.vt, El.vi] at c0 c1 HB0 HBA H1 H2 ⊢
  go_enter Try.func28, Try.ntmps28
  go_wp2_with fail
  refine H1.out.mono ?_
  rintro e w1 ⟨rfl, hb⟩
  have HB1 := Lib.hid (HB0.out.trans (hb.mono HB0.out.size))
  have HBA1 := Lib.hid (HBA.out.keep hb)
  obtain ⟨qx, hqx⟩ : ∃ z, z = w.heap.size + 1 := ⟨_, rfl⟩
  rw [← hqx] at HBA1 H2
  rw [← hqx]
  clear hb H1 c0 c1 hqx HB0 HBA
  have c1 := cell_later HB1.out HN.out
  cases b1 with
  | true =>
    go_wp2
    go_ret
    exact ⟨rfl, HB1.out⟩
  | false =>
    go_wp2_with fail
    refine (H2.out _ HB1.out HBA1.out).mono ?_
    rintro e w2 ⟨rfl, hb⟩
    have HB2 := Lib.hid (HB1.out.trans (hb.mono HB1.out.size))
    clear hb c1 HB1
    go_wp2
    go_ret
    exact ⟨by cases b2 <;> rfl, HB2.out⟩
set_option maxRecDepth 100000 in
theorem line_any (vb vn : Value) (before now : List El) (w : World) (hvb : InS w vb before) (hvn : InS w vn now) :
    Calls Try.prog 10 #[vb, vn] w fun e w' => e = .returned (.int .i64 (fIx now.length (lineP before now))) ∧ Below w.heap.size w w' := by
  have hb0 := (Below.refl w.heap.size w).alloc (Nat.le_refl _) (Obj.cells #[vb] 23)
  have bb := (Blk.new w 23 #[vb]).keep ((Below.refl _ _).alloc (Nat.le_refl _) (Obj.cells #[vn] 23))
  have hb1 := hb0.alloc hb0.size (Obj.cells #[vn] 23)
  have bn := Blk.new (w.alloc (Obj.cells #[vb] 23)) 23 #[vn]
  rw [World.size_alloc] at bn
  have hvb1 := hvb.keep hb1
  have hvn1 := hvn.keep hb1
  have hi := indexS_2 28 (.pointer (some ⟨w.heap.size, 0, none⟩)) (.pointer (some ⟨w.heap.size + 1, 0, none⟩)) (lineP before now) vn now _ hvn1 (fun _ _ => by rfl) fun j hj w2 hb3 => by
    have hvb2 := hvb1.keep hb3
    have hvn2 := hvn1.keep hb3
    have c0 := (bb.keep hb3).cell 0
    have c1 := (bn.keep hb3).cell 0
    have hok : ElOK w2 (nth now j) := by
      obtain ⟨a, c, -, -, -, h3⟩ := hvn2
      exact (h3 j hj).2
    exact line1_any (nth now j) _ _ vb vn before now w2 (by rw [c0]; rfl) (by rw [c1]; rfl) hvb2 hvn2 hok
  generalize fIx now.length (lineP before now) = z at *
  obtain ⟨ab, cb, rfl, -⟩ := hvb
  obtain ⟨an, cn, rfl, -⟩ := hvn
  have c1 := bn.cell 0
  have HB0 := Lib.hid hb1
  have HI := Lib.hid hi
  clear hb0 bb hb1 bn hvb1 hvn1 hi c1
  go_enter Try.func10, Try.ntmps10
  go_wp2_with fail
  refine HI.out.mono ?_
  rintro e w1 ⟨rfl, hb⟩
  have HB1 := Lib.hid (HB0.out.trans (hb.mono HB0.out.size))
  clear hb HI HB0
  go_wp2
  go_ret
  exact ⟨rfl, HB1.out⟩
end Go.Proofs.Yteplcpiamocclaa
