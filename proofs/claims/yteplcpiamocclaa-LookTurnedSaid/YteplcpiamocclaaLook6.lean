/-
  LOOK: Told, and the closures of Lists and Settled (printed by wip/gen-look6.py).
-/
import Derived.Test.YteplcpiamocclaaLook5
namespace Go.Proofs.Yteplcpiamocclaa
open Go.RowKit Reg Go.ChangeShapes

set_option maxRecDepth 100000 in
theorem lists1_any (g : Gd) (qk : Nat) (K : List Gd) (u : Value) (w : World) (hk : w.cell? ⟨qk, 3, none⟩ = some u) (hu : InG w u K) :
    Calls Try.prog 37 #[aggG g, .pointer (some ⟨qk, 0, none⟩)] w fun e w' => e = .returned (.bool (decide (g ∈ K))) ∧ Below w.heap.size w w' := by
  have hb0 := (Below.refl w.heap.size w).alloc (Nat.le_refl _) (Obj.cells #[.int .u64 g.1, .int .u64 g.2] 34)
  have h1 := contains_any u K g _ (hu.keep hb0)
  obtain ⟨ra, rc, rfl⟩ := hu.slice_
  generalize decide (g ∈ K) = b1 at *
  have c3 := cell_later hb0 hk
  obtain ⟨ga, gb⟩ := g
  unfold aggG at h1 ⊢
  simp only at h1 hb0 c3 ⊢
  have HB0 := Lib.hid hb0
  have H1 := Lib.hid h1
  clear hk hu hb0 h1
  go_enter Try.func37, Try.ntmps37
  go_wp2_with fail
  refine H1.out.mono ?_
  rintro e w1 ⟨rfl, hb⟩
  have HB1 := Lib.hid (HB0.out.trans (hb.mono HB0.out.size))
  clear hb H1 c3 HB0
  go_wp2
  go_ret
  exact ⟨rfl, HB1.out⟩
set_option maxRecDepth 100000 in
theorem told11_any (g : Gd) (qk : Nat) (K : List Gd) (u : Value) (w : World) (hk : w.cell? ⟨qk, 3, none⟩ = some u) (hu : InG w u K) :
    Calls Try.prog 48 #[aggG g, .pointer (some ⟨qk, 0, none⟩)] w fun e w' => e = .returned (.bool (!decide (g ∈ K))) ∧ Below w.heap.size w w' := by
  have hb0 := (Below.refl w.heap.size w).alloc (Nat.le_refl _) (Obj.cells #[.int .u64 g.1, .int .u64 g.2] 34)
  have h1 := contains_any u K g _ (hu.keep hb0)
  obtain ⟨ra, rc, rfl⟩ := hu.slice_
  generalize decide (g ∈ K) = b1 at *
  have c3 := cell_later hb0 hk
  obtain ⟨ga, gb⟩ := g
  unfold aggG at h1 ⊢
  simp only at h1 hb0 c3 ⊢
  have HB0 := Lib.hid hb0
  have H1 := Lib.hid h1
  clear hk hu hb0 h1
  go_enter Try.func48, Try.ntmps48
  go_wp2_with fail
  refine H1.out.mono ?_
  rintro e w1 ⟨rfl, hb⟩
  have HB1 := Lib.hid (HB0.out.trans (hb.mono HB0.out.size))
  clear hb H1 c3 HB0
  go_wp2
  go_ret
  exact ⟨rfl, HB1.out⟩
theorem gth_of {gs : List Gd} (P : Gd → Bool) : (List.range gs.length).any (fun j => P (gth gs j)) = gs.any P := by
  rw [Bool.eq_iff_iff, List.any_eq_true, List.any_eq_true]
  constructor
  · rintro ⟨j, hj, h⟩
    exact ⟨gth gs j, mem_iff_gth.2 ⟨j, List.mem_range.1 hj, rfl⟩, h⟩
  · rintro ⟨g, hg, h⟩
    obtain ⟨j, hj, e⟩ := mem_iff_gth.1 hg
    exact ⟨j, List.mem_range.2 hj, by rw [e]; exact h⟩
/-- is one of these guids in that list? -/
def anyIn (gs K : List Gd) : Bool := gs.any fun g => decide (g ∈ K)
def anyOut (gs K : List Gd) : Bool := gs.any fun g => !decide (g ∈ K)
theorem anyIn_any (gs K : List Gd) (v u : Value) (qk : Nat) (w : World) (hv : InG w v gs) (hk : w.cell? ⟨qk, 3, none⟩ = some u) (hu : InG w u K) :
    Calls Try.prog 36 #[v, .func (.func 37) #[] #[.pointer (some ⟨qk, 0, none⟩)]] w fun e w' => e = .returned (.bool (anyIn gs K)) ∧ Below w.heap.size w w' := by
  unfold anyIn
  rw [← gth_of]
  exact containsG_1 _ _ (fun j => decide (gth gs j ∈ K)) v gs w hv (fun _ _ => by rfl) fun j hj w2 hb => lists1_any _ _ K u w2 (cell_later hb hk) (hu.keep hb)
theorem anyOut_any (gs K : List Gd) (v u : Value) (qk : Nat) (w : World) (hv : InG w v gs) (hk : w.cell? ⟨qk, 3, none⟩ = some u) (hu : InG w u K) :
    Calls Try.prog 36 #[v, .func (.func 48) #[] #[.pointer (some ⟨qk, 0, none⟩)]] w fun e w' => e = .returned (.bool (anyOut gs K)) ∧ Below w.heap.size w w' := by
  unfold anyOut
  rw [← gth_of]
  exact containsG_1 _ _ (fun j => !decide (gth gs j ∈ K)) v gs w hv (fun _ _ => by rfl) fun j hj w2 hb => told11_any _ _ K u w2 (cell_later hb hk) (hu.keep hb)
set_option maxRecDepth 100000 in
theorem told1_any (x : El) (qk : Nat) (K : List Gd) (u : Value) (w : World) (hk : w.cell? ⟨qk, 3, none⟩ = some u) (hu : InG w u K) (hx : ElOK w x) :
    Calls Try.prog 47 #[x.enc, .pointer (some ⟨qk, 0, none⟩)] w fun e w' => e = .returned (.bool (anyOut x.told K)) ∧ Below w.heap.size w w' := by
  have hb0 := (Below.refl w.heap.size w).alloc (Nat.le_refl _) (Obj.cells x.cells 40)
  have h1 := anyOut_any x.told K x.vt u qk _ (hx.2.2.keep hb0) (cell_later hb0 hk) (hu.keep hb0)
  generalize anyOut x.told K = b1 at *
  unfold El.enc
  dsimp only [El.cells, El.vl, El.vs, El.vt, El.vi] at hb0 h1 ⊢
  have HB0 := Lib.hid hb0
  have H1 := Lib.hid h1
  clear hk hu hb0 h1 hx
  go_enter Try.func47, Try.ntmps47
  go_wp2_with fail
  refine H1.out.mono ?_
  rintro e w1 ⟨rfl, hb⟩
  have HB1 := Lib.hid (HB0.out.trans (hb.mono HB0.out.size))
  clear hb H1 HB0
  go_wp2
  go_ret
  exact ⟨rfl, HB1.out⟩
theorem InS.ok {w : World} {v : Value} {es : List El} (h : InS w v es) (j : Nat) (hj : j < es.length) : ElOK w (nth es j) := by
  obtain ⟨a, c, -, -, -, h3⟩ := h
  exact (h3 j hj).2
theorem InS.slice_ {w : World} {v : Value} {es : List El} (h : InS w v es) : ∃ a c, v = .slice a es.length c := by
  obtain ⟨a, c, e, _⟩ := h
  exact ⟨a, c, e⟩
set_option maxRecDepth 100000 in
theorem told_any (v : Value) (es : List El) (w : World) (hv : InS w v es) :
    Calls Try.prog 20 #[v] w fun e w' => e = .returned (.int .i64 (fIx es.length fun i => anyOut (nth es i).told (kn es))) ∧ Below w.heap.size w w' := by
  have hk := known_any v es w hv
  have hi : ∀ w1 u, Below w.heap.size w w1 → InG w1 u (kn es) → Calls Try.prog 27 #[v, .func (.func 47) #[] #[.pointer (some ⟨w1.heap.size, 0, none⟩)]] (w1.alloc (.cells #[.int .u64 0, .int .i64 0, .bool false, u] 37)) fun e w' =>
      e = .returned (.int .i64 (fIx es.length fun i => anyOut (nth es i).told (kn es))) ∧ Below (w1.alloc (.cells #[.int .u64 0, .int .i64 0, .bool false, u] 37)).heap.size (w1.alloc (.cells #[.int .u64 0, .int .i64 0, .bool false, u] 37)) w' := fun w1 u hb hu => by
    have hba := (Below.refl w1.heap.size w1).alloc (Nat.le_refl _) (Obj.cells #[.int .u64 0, .int .i64 0, .bool false, u] 37)
    have hbl := Blk.new w1 37 #[.int .u64 0, .int .i64 0, .bool false, u]
    have hv1 := hv.keep (hb.trans (hba.mono hb.size))
    refine indexS_1 _ _ (fun i => anyOut (nth es i).told (kn es)) v es _ hv1 (fun _ _ => by rfl) fun j hj w2 hb2 => ?_
    have hc := (hbl.keep hb2).cell 3
    exact told1_any _ _ (kn es) u w2 (by rw [hc]; rfl) ((hu.keep hba).keep hb2) ((hv1.keep hb2).ok j hj)
  generalize fIx es.length (fun i => anyOut (nth es i).told (kn es)) = z at *
  obtain ⟨a, c, rfl⟩ := hv.slice_
  have HK := Lib.hid hk
  have HI := Lib.hid hi
  clear hk hi hv
  go_enter Try.func20, Try.ntmps20
  go_wp2_with fail
  refine HK.out.mono ?_
  rintro e w1 ⟨u, rfl, hu, hb⟩
  have H1 := Lib.hid (HI.out w1 u hb hu)
  obtain ⟨ua, uc, rfl⟩ := hu.slice_
  have HB0 := Lib.hid (hb.trans (((Below.refl w1.heap.size w1).alloc (Nat.le_refl _) (Obj.cells #[.int .u64 0, .int .i64 0, .bool false, .slice ua (kn es).length uc] 37)).mono hb.size))
  clear hu hb HK HI
  go_wp2_with fail
  refine H1.out.mono ?_
  rintro e w2 ⟨rfl, hb⟩
  have HB1 := Lib.hid (HB0.out.trans (hb.mono HB0.out.size))
  clear hb H1 HB0
  go_wp2
  go_ret
  exact ⟨rfl, HB1.out⟩
/-- is a node not settled? -/
def otherB (K : List Gd) (x : El) : Bool := !x.up || !decide (x.line = K) || !decide (x.list = K)
set_option maxRecDepth 100000 in
theorem settled1_any (x : El) (qk : Nat) (K : List Gd) (u : Value) (w : World) (hk : w.cell? ⟨qk, 0, none⟩ = some u) (hu : InG w u K) (hx : ElOK w x) :
    Calls Try.prog 40 #[x.enc, .pointer (some ⟨qk, 0, none⟩)] w fun e w' => e = .returned (.bool (otherB K x)) ∧ Below w.heap.size w w' := by
  have hb0 := (Below.refl w.heap.size w).alloc (Nat.le_refl _) (Obj.cells x.cells 40)
  have bx := Blk.new w 40 x.cells
  have h1 := equal_any x.vl u x.line K _ (hx.1.keep hb0) (hu.keep hb0)
  have h2 := fun w1 (hb : Below w.heap.size w w1) => equal_any x.vs u x.list K w1 (hx.2.1.keep hb) (hu.keep hb)
  unfold otherB
  obtain ⟨ra, rc, rfl⟩ := hu.slice_
  generalize decide (x.line = K) = b1 at *
  generalize decide (x.list = K) = b2 at *
  obtain ⟨b0, hb0'⟩ : ∃ z, z = x.up := ⟨_, rfl⟩
  unfold El.enc
  dsimp only [El.cells, El.vl, El.vs, El.vt, El.vi] at hb0 bx h1 h2 ⊢
  rw [← hb0'] at hb0 bx h1 ⊢
  clear hb0'
  have c0 := cell_later hb0 hk
  have HA := Lib.hid hk
  have HB0 := Lib.hid hb0
  have HBX := Lib.hid bx
  have H1 := Lib.hid h1
  have H2 := Lib.hid h2
  clear hk hu hx hb0 bx h1 h2
  go_enter Try.func40, Try.ntmps40
  cases b0 with
  | false =>
    go_wp2
    go_ret
    exact ⟨rfl, HB0.out⟩
  | true =>
    go_wp2_with fail
    refine H1.out.mono ?_
    rintro e w1 ⟨rfl, hb⟩
    have HB1 := Lib.hid (HB0.out.trans (hb.mono HB0.out.size))
    have hbx := HBX.out.keep hb
    obtain ⟨qx, hqx⟩ : ∃ z, z = w.heap.size := ⟨_, rfl⟩
    rw [← hqx] at hbx
    rw [← hqx]
    clear hb H1 c0 hqx HB0 HBX
    have c0 := cell_later HB1.out HA.out
    have x6 := hbx.cell 6
    simp at x6
    clear hbx
    cases b1 with
    | false =>
      go_wp2
      go_ret
      exact ⟨rfl, HB1.out⟩
    | true =>
      go_wp2_with fail
      refine (H2.out _ HB1.out).mono ?_
      rintro e w2 ⟨rfl, hb⟩
      have HB2 := Lib.hid (HB1.out.trans (hb.mono HB1.out.size))
      clear hb c0 x6 HB1
      go_wp2
      go_ret
      exact ⟨by cases b2 <;> rfl, HB2.out⟩
end Go.Proofs.Yteplcpiamocclaa
