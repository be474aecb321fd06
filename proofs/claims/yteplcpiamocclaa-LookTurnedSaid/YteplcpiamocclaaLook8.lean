/-
  LOOK: primaries, One, Settled.
-/
import Derived.Test.YteplcpiamocclaaLook7
import Derived.RangeFuncBox
namespace Go.Proofs.Yteplcpiamocclaa
open Go.RowKit Reg Go.ChangeShapes Go.Shelf
attribute [local go_sem] Oper.semAt_some

/-- what is no cells may turn: a block of cells stays -/
theorem Blk.others {A B : World} {row : Option Nat} {g : Nat} {t : TypeId} {cs : Array Value} (h : Blk A g t cs) (hg : A.grownBy B row) (hr : ∀ r, row = some r → ∃ o : Obj, A.heap[r]? = some o ∧ o.isCells = false) : Blk B g t cs := by
  refine (hg.block g h.lt fun e => ?_).trans h
  obtain ⟨o, h1, h2⟩ := hr g e.symm
  unfold Blk at h
  rw [h] at h1
  obtain rfl := Option.some.inj h1
  simp [Obj.isCells] at h2
/-- how many of these are primaries -/
def cntP (es : List El) (pre : List Nat) : Nat := (pre.filter fun j => (nth es j).prim).length
theorem cntP_snoc (es : List El) (pre : List Nat) (x : Nat) : cntP es (pre ++ [x]) = if (nth es x).prim = true then cntP es pre + 1 else cntP es pre := by
  unfold cntP
  rw [List.filter_append]
  split <;> rename_i h <;> simp [h]
def prims (es : List El) : Nat := cntP es (ups es es.length)
set_option maxRecDepth 100000 in
set_option maxHeartbeats 2000000 in
theorem primaries_any (v : Value) (es : List El) (w : World) (hv : InS w v es) :
    Calls Try.prog 39 #[v] w fun e w' => e = .returned (.int .i64 (prims es)) ∧ Below w.heap.size w w' := by
  obtain ⟨a, c, rfl⟩ := hv.slice_
  refine (callsIn_wide (n := 3)).1 ?_
  refine callsIn_of_wp_marks Try.func39 rfl trivial ?_ rfl
  simp only [Try.ntmps39, List.size_toArray, List.length_cons, List.length_nil, Nat.reduceAdd, Nat.reduceSub, Array.replicate_succ, Array.replicate_zero, List.push_toArray, List.append_toArray, List.nil_append, List.cons_append]
  gi_wp2_with (refine ⟨trivial, ?_⟩; gi_at_call 33; refine (callsIn_wide.2 (up_any _ _ _ _)).mono ?_; rintro e w' ⟨rfl, rfl⟩)
  have hN := hv
  obtain ⟨_, _, -, -, hlen, -⟩ := hN
  have HLEN := Lib.hid hlen
  have hB0 := (Below.refl w.heap.size w).alloc (Nat.le_refl _) (Obj.cells #[.int .i64 0] 3)
  have bn := (Blk.new w 3 #[.int .i64 0]).keep ((Below.refl _ _).alloc (Nat.le_refl _) (Obj.cells #[.slice a es.length c] 23))
  have hB1 := hB0.alloc hB0.size (Obj.cells #[.slice a es.length c] 23)
  have bb := Blk.new (w.alloc (Obj.cells #[.int .i64 0] 3)) 23 #[.slice a es.length c]
  rw [World.size_alloc] at bb
  have hst := ups_stops 2 (by omega) (w.heap.size + 1) _ es w _ hv hB1 bb.lt (by rw [bb.cell 0]; rfl)
  have hsz : w.heap.size < ((w.alloc (Obj.cells #[.int .i64 0] 3)).alloc (Obj.cells #[.slice a es.length c] 23)).heap.size := bn.lt
  clear hlen hB0 bb
  generalize (w.alloc (Obj.cells #[.int .i64 0] 3)).alloc (Obj.cells #[.slice a es.length c] 23) = W0 at *
  obtain ⟨qn, hqn⟩ : ∃ z, z = w.heap.size := ⟨_, rfl⟩
  rw [← hqn] at bn hB1 hsz hst
  rw [← hqn]
  have HQ := Lib.hid hqn
  clear hqn
  refine wpIn_rangeFunc_ownH rfl (by omega) (Kp := Below qn) (gf := 49) (lb := #[.pointer (some ⟨qn + 1, 0, none⟩)]) rfl trivial (enters_of Try.func49 (by kernel_rfl) rfl)
    hst belowK_t (belowK_b (by omega)) (Below.refl _ _) (fun _ => rfl)
    (fun pre W => Blk W qn 3 #[.int .i64 (cntP es pre)] ∧ Below qn w W)
    (fun _ _ _ => False)
    (OwnFrom.and (Own.from (fun s A B row hs hg hr => hs.others hg hr) _) (ownFrom_below (HQ.out ▸ Nat.le_refl _) (Nat.le_of_lt hsz)))
    (fun _ _ _ _ _ hs _ _ => hs)
    ⟨bn, hB1⟩
    (fun x a' W => ∃ Bx, qn < Bx ∧ Blk W Bx 40 (nth es x).cells ∧ a' = { tmps := #[.slice a es.length c, undef, .int .i64 0, .pointer (some ⟨qn, 0, none⟩), undef, .pointer (some ⟨Bx, 0, none⟩), .slice a es.length c, .func (.func 49) #[] #[.pointer (some ⟨qn + 1, 0, none⟩)], .int .i64 x, (nth es x).enc, undef, undef, undef, undef, undef], defers := [] })
    (fun x a' => fun s A B row hs hg hr => by obtain ⟨Bx, h1, h2, h3⟩ := hs; exact ⟨Bx, h1, h2.others hg fun r e => (hr r e).2, h3⟩) ?assign ?body ?done ?stop
  case assign =>
    rintro l pre x W K ⟨hi, hb⟩ hK
    unfold encU
    generalize nth es x = X at *
    unfold El.enc at hK ⊢
    dsimp only [El.cells, El.vl, El.vs, El.vt, El.vi] at hK ⊢
    gi_wp2
    have hba := (Below.refl W.heap.size W).alloc (Nat.le_refl _) (Obj.cells #[.bool X.up, .bool X.prim, .int .u64 X.ep, .int .i64 X.bef, .bool X.leased, .slice X.la X.line.length X.lc, .slice X.sa X.list.length X.sc, .slice X.ta X.told.length X.tc, .slice X.ia X.il X.ic] 40)
    exact hK _ _ ((KeepsOthers.alloc _ _).from _) (hba.mono (Nat.le_of_lt hi.lt)) ⟨hi.keep hba, hb.trans (hba.mono (Nat.le_of_lt hi.lt))⟩ ⟨W.heap.size, hi.lt, Blk.new _ _ _, rfl⟩
  case body =>
    rintro l pre x a' W hl ⟨r, hr⟩ ⟨hi, hb⟩ ⟨Bx, hBx, bX, rfl⟩ hlt
    have hcs := cntP_snoc es pre x
    have hle : cntP es pre ≤ pre.length := List.length_filter_le _ _
    have hm := HLEN.out
    unfold maxLen at hm
    generalize nth es x = X at *
    unfold El.enc
    dsimp only [El.cells, El.vl, El.vs, El.vt, El.vi] at bX ⊢
    have c1 := bX.cell 1
    have d0 := hi.cell 0
    have hfz := hi.frozen 0
    simp at c1 d0
    have HI := Lib.hid hi
    have HB := Lib.hid hb
    have hwk : IntKind.i64.wrap ((cntP es pre : Int) + 1) = (cntP es pre : Int) + 1 := IntWalk.i64_in _ (by omega)
    obtain ⟨b0, hb0⟩ : ∃ z, z = X.prim := ⟨_, rfl⟩
    rw [← hb0] at hcs c1
    cases b0 with
    | false =>
      rw [if_neg (by simp)] at hcs
      have HCS := Lib.hid hcs
      rw [← hb0]
      clear hb0 hi hb hle hm bX hBx hlt hr hl hcs
      gi_wp2
      exact ⟨KeepsFrom.refl _ _, Below.refl _ _, by rw [HCS.out]; exact HI.out, HB.out⟩
    | true =>
      rw [if_pos rfl] at hcs
      have HCS := Lib.hid hcs
      rw [← hb0]
      clear hb0 hi hb hle hm bX hBx hlt hr hl hcs
      gi_wp2
      exact ⟨(KeepsOthers.setCell _ _ _).from _, (Below.refl qn W).setCell (Nat.le_refl _) _, by rw [HCS.out, Int.natCast_add]; exact HI.out.set 0 _, HB.out.setCell (Nat.le_refl _) _⟩
  case done =>
    rintro D ys W hD rfl ⟨hi, hb⟩ hK
    have d0 := hi.cell 0
    simp at d0
    have HI := Lib.hid hi
    have HB := Lib.hid hb
    clear hi hb
    gi_wp2
    refine ⟨by simp, .inl ⟨_, _, rfl, run_takeDeferred hK, ?_⟩⟩
    exact ⟨_, results_tmp rfl _ _ _, rfl, HQ.out ▸ HB.out.trans (belowK_b (w := W0) (Nat.le_of_lt hsz) W D _ _ hD hK rfl rfl)⟩
  case stop =>
    rintro D c pre W _ _ h _
    exact h.elim
end Go.Proofs.Yteplcpiamocclaa
