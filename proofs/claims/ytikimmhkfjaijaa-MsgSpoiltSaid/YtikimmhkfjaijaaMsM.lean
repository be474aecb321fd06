/-
  MESSAGES: what comes in as a message; laid (printed by wip/gen-msgm.py).
-/
import Derived.Test.YtikimmhkfjaijaaMsL
namespace Go.Proofs.Ytikimmhkfjaijaa
open Go.RowKit Reg Go.ChangeShapes

/-- v is read as the entries es; their kinds may be stored -/
def InE (w : World) (v : Value) (es : List En) : Prop :=
  ∃ a c, v = .slice a es.length c ∧ (es.length = 0 ∨ es.length ≤ c) ∧ es.length ≤ maxLen ∧ (∀ e ∈ es, wfE e) ∧ ∀ j, j < es.length → ∃ g off, a = some ⟨g, off, none⟩ ∧
    (∀ i, i < 4 → w.cell? ⟨g, off + j * 4 + i, none⟩ = (enL (es.getD j en0))[i]?) ∧ w.frozen? ⟨g, off + j * 4 + 1, none⟩ = false
theorem frozen_later {w w' : World} {p : Addr} {u : Value} (hb : Below w.heap.size w w') (hc : w.cell? p = some u) : w'.frozen? p = w.frozen? p :=
  World.frozen?_of_block (hb.block _ (World.block_lt_of_cell? w _ hc))
theorem enL_at (e : En) {i : Nat} (hi : i < 4) : ∃ u, (enL e)[i]? = some u := by
  have : i < (enL e).length := hi
  exact ⟨_, List.getElem?_eq_getElem this⟩
theorem InE.keep {w w' : World} {v : Value} {es : List En} (h : InE w v es) (hb : Below w.heap.size w w') : InE w' v es := by
  obtain ⟨a, c, h1, h2, h3, h4, h5⟩ := h
  refine ⟨a, c, h1, h2, h3, h4, fun j hj => ?_⟩
  obtain ⟨g, off, k1, k2, k3⟩ := h5 j hj
  refine ⟨g, off, k1, fun i hi => ?_, ?_⟩
  · obtain ⟨u, hu⟩ := enL_at (es.getD j en0) hi
    rw [hu]
    exact cell_later hb (by rw [k2 i hi, hu])
  · obtain ⟨u, hu⟩ := enL_at (es.getD j en0) (i := 1) (by decide)
    rw [frozen_later hb ((k2 1 (by decide)).trans hu)]
    exact k3
theorem InE.slice_ {w : World} {v : Value} {es : List En} (h : InE w v es) : ∃ a c, v = .slice a es.length c := by
  obtain ⟨a, c, h1, -⟩ := h
  exact ⟨a, c, h1⟩
theorem InC.slice_ {w : World} {v : Value} {cs : List Cg} (h : InC w v cs) : ∃ a c, v = .slice a cs.length c := by
  obtain ⟨a, c, h1, -⟩ := h
  exact ⟨a, c, h1⟩
theorem InG.slice_ {w : World} {v : Value} {gs : List Gd} (h : InG w v gs) : ∃ a c, v = .slice a gs.length c := by
  obtain ⟨a, c, h1, -⟩ := h.open_
  exact ⟨a, c, h1⟩
def i64 (x : Int) : Prop := (Lit.int .i64 x).wf = true
/-- all numbers are of their kinds -/
structure wfM (m : Ms) : Prop where
  K : i64 m.K
  T : u64 m.T
  P : i64 m.P
  PT : u64 m.PT
  C : i64 m.C
  M : i64 m.M
  S : i64 m.S
  E : u64 m.l.E
  B : i64 m.l.B
  n : i64 m.n
  la : wfG m.la
  ta : wfG m.ta
  N : i64 m.N
  p : wfPr m.p
/-- v is read as the message m -/
def InMs (w : World) (v : Value) (m : Ms) : Prop := ∃ se sl sc, v = .agg (msA m se sl sc) ∧ InE w se m.es ∧ InG w sl m.l.l ∧ InC w sc m.p.cs ∧ wfM m
theorem InMs.keep {w w' : World} {v : Value} {m : Ms} (h : InMs w v m) (hb : Below w.heap.size w w') : InMs w' v m := by
  obtain ⟨se, sl, sc, h1, h2, h3, h4, h5⟩ := h
  exact ⟨se, sl, sc, h1, h2.keep hb, h3.keep hb, h4.keep hb, h5⟩
section
variable {W w : World} {Z : Nat → Prop} {v : Value}
theorem InE.row {es : List En} {s : List UInt8} (h : InE w v es) (hZ : ∀ b, Z b → w.heap.size ≤ b) : ERow W Z (.lay s) es w v := by
  obtain ⟨a, c, h1, h2, h3, h4, h5⟩ := h
  refine ⟨⟨a, c, h1, h2, h3, fun j hj => ?_⟩, h4⟩
  obtain ⟨g, off, k1, k2, k3⟩ := h5 j hj
  have hlt : g < w.heap.size := by
    obtain ⟨u, hu⟩ := enL_at (es.getD j en0) (i := 0) (by decide)
    exact World.block_lt_of_cell? w _ ((k2 0 (by decide)).trans hu)
  refine ⟨g, off, k1, fun hz => by have := hZ g hz; omega, fun h => h, (fun h => by cases h), fun i hi => ⟨?_, fun hr => ?_⟩⟩
  · obtain ⟨u, hu⟩ := enL_at (es.getD j en0) hi
    exact ⟨u, hu, by rw [k2 i hi, hu]⟩
  · rcases hr with hr | hr
    · cases hr
    · have : i = 1 := by simpa [kindF] using hr
      subst this
      exact k3
theorem InG.row {gs : List Gd} {s : List UInt8} (h : InG w v gs) (hZ : ∀ b, Z b → w.heap.size ≤ b) : GRow W Z (.lay s) gs w v := by
  obtain ⟨⟨a, c, h1, h2⟩, h3, h4⟩ := h
  refine ⟨⟨a, c, h1, ?_, h3, fun j hj => ?_⟩, h4⟩
  · rcases h2 with rfl | ⟨h2, -⟩
    · exact .inl rfl
    · exact .inr h2
  · rcases h2 with rfl | ⟨-, g, off, k1, k2⟩
    · cases hj
    · have hc := cellsG_at gs j hj
      have hlt : g < w.heap.size := World.block_lt_of_cell? w _ (k2 _ _ hc.1)
      refine ⟨g, off, k1, fun hz => by have := hZ g hz; omega, fun h => h, (fun h => by cases h), fun i hi => ⟨?_, fun hr => ?_⟩⟩
      · match i, hi with
        | 0, _ => exact ⟨_, rfl, k2 _ _ hc.1⟩
        | 1, _ => exact ⟨_, rfl, k2 _ _ hc.2⟩
      · rcases hr with hr | hr <;> cases hr
theorem InC.row {p : Prt} (h : InC w v p.cs) (hp : wfPr p) (hZ : ∀ b, Z b → w.heap.size ≤ b) : CRow Z p w v := by
  refine ⟨h, fun hl b hb hz => ?_, hp⟩
  obtain ⟨a, c, h1, h2, h3⟩ := h
  obtain ⟨g, off, rfl, k1, -⟩ := h3 0 hl
  subst h1
  simp only [slB, Option.some.injEq] at hb
  subst hb
  exact absurd (World.block_lt_of_cell? w _ k1) (Nat.not_lt.2 (hZ _ hz))
end
def iK (q : Sf × Ms) : Sf × Ms := ((intF q.1 q.2.K).1, p_K q.2 (intF q.1 q.2.K).2)
theorem st_K (m : Ms) (v : Int) (se sl sc : Value) : (msA m se sl sc).setIfInBounds 0 (.int .i64 v) = msA (p_K m v) se sl sc := rfl
theorem FS.iK {W : World} {fb mb : Nat} {Z : Nat → Prop} {B : Nat} {w : World} {q : Sf × Ms} (h : FS W fb mb Z B q.1 q.2 w) (hx : in8 q.2.K) (hB : B ≤ 900000) :
    Calls Try.prog 22 #[.pointer (some ⟨fb, 0, none⟩), .slice (some ⟨w.heap.size, 0, none⟩) 1 1] (w.alloc (.cells #[.pointer (some ⟨mb, 0, none⟩)] 70)) fun e w' => e = .returned (.tuple #[]) ∧ FS W fb mb Z (B + 9) (iK q).1 (iK q).2 w' :=
  h.int (m' := p_K q.2 (intF q.1 q.2.K).2) 0 q.2.K hx (fun _ _ _ => rfl) (fun _ _ _ => st_K _ _ _ _ _) (p_K_es _ _) (by rw [p_K_l]) (p_K_p _ _) hB
/-- what is laid of a message -/
def layF (m : Ms) : Sf × Ms := allF (iK (⟨.lay [], false⟩, m)).1 (iK (⟨.lay [], false⟩, m)).2
theorem msA_one (m : Ms) (a1 a2 a3 : Option Addr) (n1 n2 n3 c1 c2 c3 : Nat) : ((msA m (.slice a1 n1 c1) (.slice a2 n2 c2) (.slice a3 n3 c3)).all fun x => x.oneCell') = true := by
  rw [← Array.all_toList]
  rfl
theorem msg_size (m : Ms) (se sl sc : Value) : (Try.prog.info? 33).map (·.size) = some (msA m se sl sc).size := by
  show _ = some 26
  kernel_rfl
theorem lay_start {w : World} {m : Ms} {se sl sc : Value} (h2 : InE w se m.es) (h3 : InG w sl m.l.l) (h4 : InC w sc m.p.cs) (h5 : wfM m) :
    FS w (w.heap.size + 1) w.heap.size (fun b => b = w.heap.size ∨ b = w.heap.size + 1) 0 ⟨.lay [], false⟩ m ((w.alloc (.cells (msA m se sl sc) 33)).alloc (.cells #[.pointer (some ⟨w.heap.size, 0, none⟩), .string ByteArray.empty, .pointer none, .bool false] 68)) := by
  have hb1 := (Below.refl w.heap.size w).alloc (Nat.le_refl _) (Obj.cells (msA m se sl sc) 33)
  have hs1 : (w.alloc (.cells (msA m se sl sc) 33)).heap.size = w.heap.size + 1 := by simp
  have hb2 := hb1.alloc hb1.size (Obj.cells #[.pointer (some ⟨w.heap.size, 0, none⟩), .string ByteArray.empty, .pointer none, .bool false] 68)
  have hm := (Blk.new w 33 (msA m se sl sc)).alloc (Obj.cells #[.pointer (some ⟨w.heap.size, 0, none⟩), .string ByteArray.empty, .pointer none, .bool false] 68)
  have hf := Blk.newAt (w := w.alloc (.cells (msA m se sl sc) 33)) 68 #[.pointer (some ⟨w.heap.size, 0, none⟩), .string ByteArray.empty, .pointer none, .bool false] hs1
  have hZ : ∀ b, (b = w.heap.size ∨ b = w.heap.size + 1) → w.heap.size ≤ b := fun b hb => by omega
  have hkp : Kp (fun b => b = w.heap.size ∨ b = w.heap.size + 1) w _ := Kp.of_below hb2
  have hkr := hkp
  exact ⟨hkp, ⟨hf, trivial, fun h => h⟩, fun b hb => by
      rcases hb with e | e
      · exact .inr e
      · exact e.elim, .inl rfl, fun b hb => by
      rcases hb with e | e
      · exact .inl e
      · exact .inr (.inl e), by omega, fun h => h, Nat.le_refl _, se, sl, sc, hm,
    ⟨(h2.row hZ).1.kp hkp (fun b hb e => hb e), (h2.row (W := w) (s := []) hZ).2⟩, ⟨(h3.row hZ).1.kp hkp (fun b hb e => hb e), (h3.row (W := w) (s := []) hZ).2⟩, (h4.row h5.p hZ).next hkp (fun b hb e => hb e)⟩
theorem Md.out_size (m : Md) : m.out.size ≤ m.sz := by
  cases m with
  | lay s => exact Nat.le_of_eq (size_strOf s)
  | rd r st => exact Nat.zero_le _
set_option maxRecDepth 100000 in
set_option maxHeartbeats 1000000 in
theorem laid_any (w : World) (v : Value) (m : Ms) (hv : InMs w v m) (hK : in8 m.K) (hok : OkIn false (iK (⟨.lay [], false⟩, m)).2) :
    Calls Try.prog 15 #[v] w fun e w' => e = .returned (.tuple #[.string (layF m).1.m.out, .bool (!(layF m).1.bad)]) ∧ Below w.heap.size w w' ∧ (layF m).1.m.out.size ≤ 1000000 := by
  obtain ⟨se, sl, sc, rfl, h2, h3, h4, h5⟩ := hv
  have h0 := lay_start h2 h3 h4 h5
  obtain ⟨a1, c1, e1⟩ := h2.slice_
  obtain ⟨a2, c2, e2⟩ := h3.slice_
  obtain ⟨a3, c3, e3⟩ := h4.slice_
  have hm1 : ((msA m se sl sc).all fun x => x.oneCell') = true := by rw [e1, e2, e3]; exact msA_one _ _ _ _ _ _ _ _ _ _
  have hm2 := msg_size m se sl sc
  obtain ⟨q0, hq0⟩ : ∃ q0 : Sf × Ms, q0 = (⟨.lay [], false⟩, m) := ⟨_, rfl⟩
  obtain ⟨q1, hq1⟩ : ∃ q1, q1 = iK q0 := ⟨_, rfl⟩
  obtain ⟨q2, hq2⟩ : ∃ q2, q2 = allF q1.1 q1.2 := ⟨_, rfl⟩
  have hfin : layF m = q2 := by rw [layF, hq2, hq1, hq0]
  have hrd : q2.1.m.isRd = false → True := fun _ => trivial
  obtain ⟨os, hos⟩ : ∃ os, os = q2.1.m.out := ⟨_, rfl⟩
  obtain ⟨bd, hbd⟩ : ∃ bd, bd = q2.1.bad := ⟨_, rfl⟩
  rw [hfin, ← hos, ← hbd]
  have HOS := Lib.hid hos
  have HBD := Lib.hid hbd
  rw [← hq0, ← hq1] at hok
  have h0' : FS w (w.heap.size + 1) w.heap.size (fun b => b = w.heap.size ∨ b = w.heap.size + 1) 0 q0.1 q0.2 ((w.alloc (.cells (msA m se sl sc) 33)).alloc (.cells #[.pointer (some ⟨w.heap.size, 0, none⟩), .string ByteArray.empty, .pointer none, .bool false] 68)) := by rw [hq0]; exact h0
  have hs2 : ((w.alloc (.cells (msA m se sl sc) 33)).alloc (.cells #[.pointer (some ⟨w.heap.size, 0, none⟩), .string ByteArray.empty, .pointer none, .bool false] 68)).heap.size = w.heap.size + 1 + 1 := by simp
  have H1 := h0'.iK (by rw [hq0]; exact hK) (by decide)
  rw [← hq1, hs2] at H1
  replace H1 := Lib.hid H1
  have hrd1 : q1.1.m.isRd = false := by rw [hq1, hq0]; rfl
  have H2 := Lib.hid (fun w2 (h : FS w (w.heap.size + 1) w.heap.size (fun b => b = w.heap.size ∨ b = w.heap.size + 1) (0 + 9) q1.1 q1.2 w2) => all_any h (by rw [hrd1]; exact hok) (by decide))
  rw [← hq2] at H2
  have c0 := h0.slots
  have HM1 := Lib.hid hm1
  have HM2 := Lib.hid hm2
  clear hos hbd hs2 hfin hrd hrd1 h0 h0' h2 h3 h4 h5 hK hok e1 e2 e3 hm1 hm2 hq1 hq2 hq0
  generalize msA m se sl sc = ma at *
  go_enter Try.func15, Try.ntmps15
  go_wp2_with fail
  refine H1.out.mono ?_
  rintro e w1 ⟨rfl, h1⟩
  have d1 := h1.slots
  have G1 := Lib.hid h1
  clear h1 c0
  go_wp2_with fail
  refine (H2.out w1 G1.out).mono ?_
  rintro e w2 ⟨rfl, h2⟩
  have c1 : w2.cell? ⟨w.heap.size + 1, 1, none⟩ = some (.string q2.1.m.out) := by rw [h2.fd.1.cell]; rfl
  have c3 : w2.cell? ⟨w.heap.size + 1, 3, none⟩ = some (.bool q2.1.bad) := by rw [h2.fd.1.cell]; rfl
  have HB := Lib.hid (h2.kp.below (B := w.heap.size) (fun b hb => by omega) (Nat.le_refl _))
  have HOZ : Hid (os.size ≤ 1000000) := Lib.hid (by rw [HOS.out]; have h5 := h2.sz; exact Nat.le_trans (Md.out_size _) (by omega))
  clear d1 G1 h2
  rw [← HOS.out] at c1
  rw [← HBD.out] at c3
  go_wp2_with fail
  go_quiet (fail)
  go_wp2
  go_ret2
  exact ⟨rfl, below_drewN HB.out _, HOZ.out⟩
end Go.Proofs.Ytikimmhkfjaijaa
