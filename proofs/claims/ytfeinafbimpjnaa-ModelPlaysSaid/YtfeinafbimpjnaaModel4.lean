/-
  A MODEL: New, Commit, List; guids, letters.
-/
import Derived.Test.YtfeinafbimpjnaaModel3
import Derived.Test.YtfeinafbimpjnaaGuidFns
namespace Go.Proofs.Ytfeinafbimpjnaa
open Go.RowKit Reg Go.WideShapes Go.ChangeShapes

theorem guid_any (a b : Int) (w : World) : Calls Try.prog 24 #[.int .u64 a, .int .u64 b] w fun e w' => e = .returned (.agg #[.int .u64 a, .int .u64 b]) ∧ Below w.heap.size w w' := by
  go_enter Try.func24, Try.ntmps24
  go_wp2
  refine bodyPost_ret (results_cell_row Try.results24 _ _ w.heap.size 34 _ (0, 0) _ rfl (Blk.new _ _ _) Try.underlying34 rfl (by kernel_rfl)) rfl ⟨rfl, ?_⟩
  exact (Below.refl _ _).alloc (Nat.le_refl _) _
/-- is gs a beginning of hs? -/
def begB (gs hs : List Gd) : Bool := decide (gs.length ≤ hs.length) && decide (gs = hs.take gs.length)
theorem begins_any (v v' : Value) (gs hs : List Gd) (w : World) (hv : InG w v gs) (hv' : InG w v' hs) :
    Calls Try.prog 29 #[v, v'] w fun e w' => e = .returned (.bool (begB gs hs)) ∧ Below w.heap.size w w' := by
  have heq := fun w1 (hb : Below w.heap.size w w1) u (hu : InG w1 u (hs.take gs.length)) => equal_any v u gs (hs.take gs.length) w1 (hv.keep hb) hu
  have htk : ∀ a c, gs.length ≤ hs.length → v' = .slice a hs.length c → InG w (.slice a gs.length c) (hs.take gs.length) := fun a c h e => by subst e; exact hv'.take h
  obtain ⟨a, c, rfl, -, -⟩ := hv.open_
  obtain ⟨a', c', rfl, hac, -⟩ := hv'.open_
  unfold begB
  by_cases hl : gs.length ≤ hs.length
  · have hin := htk a' c' hl rfl
    rw [decide_eq_true hl, Bool.true_and]
    have hc := heq w (Below.refl _ _) _ hin
    have hle : gs.length ≤ c' := by omega
    have i1 : (gs.length : Int) ≤ (hs.length : Int) := by omega
    have HC := Lib.hid hc
    generalize decide (gs = hs.take gs.length) = r at *
    clear heq htk hc hin hv hv' hac
    generalize gs.length = n at *
    generalize hs.length = n' at *
    go_enter Try.func29, Try.ntmps29
    go_wp2_with fail
    refine HC.out.mono ?_
    rintro e w1 ⟨rfl, hb⟩
    have HB := Lib.hid hb
    clear hb HC
    go_wp2
    go_ret
    exact ⟨rfl, HB.out⟩
  · rw [decide_eq_false hl, Bool.false_and]
    have i1 : ¬ ((gs.length : Int) ≤ (hs.length : Int)) := by omega
    have d1 : decide ((gs.length : Int) ≤ (hs.length : Int)) = false := decide_eq_false i1
    clear heq htk hv hv' hac
    generalize gs.length = n at *
    generalize hs.length = n' at *
    go_enter Try.func29, Try.ntmps29
    go_wp2
    go_ret
    exact ⟨rfl, Below.refl _ _⟩
def Mdl.new (n : Int) : Mdl := ⟨n, fun _ => none, fun _ => none, []⟩
theorem new_any (n : Int) (w : World) (h1 : 1 ≤ n) (h8 : n ≤ 8) :
    Calls Try.prog 8 #[.int .i64 n] w fun e w' => e = .returned (.pointer (some ⟨w.heap.size + 1 + 1, 0, none⟩)) ∧ Md w' (w.heap.size + 1 + 1) w.heap.size (w.heap.size + 1) (Mdl.new n) ∧ Below w.heap.size w w' := by
  have i1 : ¬ n < 1 := by omega
  have i2 : ¬ 8 < n := by omega
  have d1 : decide (n < 1) = false := decide_eq_false i1
  have d2 : decide (8 < n) = false := decide_eq_false i2
  have m1 := ((Mp.made w 32).keep ((Below.refl _ _).alloc (Nat.le_refl _) (Obj.map #[] 0))).keep ((Below.refl _ _).alloc (Nat.le_refl _) (Obj.cells #[.int .i64 n, .map (some w.heap.size), .map (some (w.heap.size + 1)), .slice none 0 0] 59))
  have m2 := (Mp.made (w.alloc (Obj.map #[] 0)) 34).keep ((Below.refl _ _).alloc (Nat.le_refl _) (Obj.cells #[.int .i64 n, .map (some w.heap.size), .map (some (w.heap.size + 1)), .slice none 0 0] 59))
  have hsz : (w.alloc (Obj.map #[] 0)).heap.size = w.heap.size + 1 := by simp
  rw [hsz] at m2
  have b3 := Blk.newAt (w := (w.alloc (Obj.map #[] 0)).alloc (Obj.map #[] 0)) 59 #[.int .i64 n, .map (some w.heap.size), .map (some (w.heap.size + 1)), .slice none 0 0] (g := w.heap.size + 1 + 1) (by simp)
  have hb := (((Below.refl w.heap.size w).alloc (Nat.le_refl _) (Obj.map #[] 0)).alloc (by simp) (Obj.map #[] 0)).alloc (by simp; omega) (Obj.cells #[.int .i64 n, .map (some w.heap.size), .map (some (w.heap.size + 1)), .slice none 0 0] 59)
  have M1 := Lib.hid m1
  have M2 := Lib.hid m2
  have B3 := Lib.hid b3
  have HB := Lib.hid hb
  have hmk : ∀ (t : TypeId) (w : World), (Instr.makeMap t none).run Try.prog w = .ok (.map (some w.heap.size)) (w.alloc (.map #[] 0)) := fun _ _ => rfl
  clear m1 m2 b3 hb hsz
  go_enter Try.func8, Try.ntmps8
  go_wp2
  go_ret
  exact ⟨rfl, ⟨⟨h1, h8⟩, ⟨_, B3.out, OwG.nil_ _ _⟩, ⟨_, M1.out, fun _ _ => rfl⟩, ⟨_, M2.out, fun _ _ => rfl⟩, by omega, (fun _ _ h => by cases h), (fun _ _ h => by cases h), Nat.zero_le _⟩, HB.out⟩
theorem new_none (n : Int) (w : World) (h : n < 1 ∨ 8 < n) : Calls Try.prog 8 #[.int .i64 n] w fun e w' => e = .returned (.pointer none) ∧ Below w.heap.size w w' := by
  rcases h with h | h
  · go_enter Try.func8, Try.ntmps8
    go_wp2
    go_ret
    exact ⟨rfl, Below.refl _ _⟩
  · have i1 : ¬ n < 1 := by omega
    have d1 : decide (n < 1) = false := decide_eq_false i1
    go_enter Try.func8, Try.ntmps8
    go_wp2
    go_ret
    exact ⟨rfl, Below.refl _ _⟩
theorem list_any (w : World) (bm bl bi : Nat) (S : Mdl) (h : Md w bm bl bi S) :
    Calls Try.prog 23 #[.pointer (some ⟨bm, 0, none⟩)] w fun e w' => ∃ u, e = .returned u ∧ OwG w' w.heap.size u S.list ∧ Below w.heap.size w w' := by
  obtain ⟨sl, hbk, ho⟩ := h.obj
  have c3 := hbk.cell 3
  simp at c3
  have hc := clone_any sl S.list w ho.rd (by have := h.len; omega)
  have HC := Lib.hid hc
  clear hc hbk ho h
  go_enter Try.func23, Try.ntmps23
  go_wp2_with fail
  refine HC.out.mono ?_
  rintro e w1 ⟨u, rfl, ho, hb⟩
  have HO := Lib.hid ho
  have HB := Lib.hid hb
  clear ho hb HC c3
  go_wp2
  go_ret
  exact ⟨_, rfl, HO.out, HB.out⟩
def Mdl.commit (S : Mdl) (l : List Gd) : Mdl := if begB l S.list then S else if begB S.list l then { S with list := l } else S
def Mdl.taken (S : Mdl) (l : List Gd) : Bool := begB l S.list || begB S.list l
set_option maxRecDepth 100000 in
theorem commit_any (v : Value) (l : List Gd) (w : World) (bm bl bi : Nat) (S : Mdl) (h : Md w bm bl bi S) (hv : InG w v l) (hl : l.length ≤ 2 ^ 20) :
    Calls Try.prog 17 #[.pointer (some ⟨bm, 0, none⟩), v] w fun e w' => e = .returned (.bool (S.taken l)) ∧ Md w' bm bl bi (S.commit l) ∧ Kp (fp bm bl bi) w w' := by
  obtain ⟨sl, hbk, ho⟩ := h.obj
  have hb1 := begins_any v sl l S.list w hv ho.rd
  have hb2 := fun w1 (hb : Below w.heap.size w w1) => begins_any sl v S.list l w1 (ho.rd.keep hb) (hv.keep hb)
  have hcl := fun w1 (hb : Below w.heap.size w w1) => clone_any v l w1 (hv.keep hb) (by omega)
  obtain ⟨a, c, rfl, -, -⟩ := hv.open_
  unfold Mdl.commit Mdl.taken
  have HB1 := Lib.hid hb1
  have HB2 := Lib.hid hb2
  have HCL := Lib.hid hcl
  have HM := Lib.hid h
  have HBK := Lib.hid hbk
  have HL := Lib.hid hl
  have c3 := hbk.cell 3
  simp at c3
  have hml := h.ne_l hbk
  have hmi := h.ne_i hbk
  have HML := Lib.hid hml
  have HMI := Lib.hid hmi
  clear hb1 hb2 hcl hl hv ho hbk h hml hmi
  generalize begB l S.list = b1 at *
  generalize begB S.list l = b2 at *
  go_enter Try.func17, Try.ntmps17
  go_wp2_with fail
  refine HB1.out.mono ?_
  rintro e w1 ⟨rfl, hb⟩
  have HB := Lib.hid hb
  clear hb HB1
  cases b1 with
  | true =>
    clear c3
    go_wp2
    go_ret
    exact ⟨rfl, HM.out.keep HB.out, Kp.of_below HB.out⟩
  | false =>
    have c3 := cell_later HB.out c3
    go_wp2_with fail
    refine (HB2.out _ HB.out).mono ?_
    rintro e w2 ⟨rfl, hb⟩
    have HB := Lib.hid (HB.out.trans (hb.mono HB.out.size))
    clear hb HB2 c3
    cases b2 with
    | false =>
      go_wp2
      go_ret
      exact ⟨rfl, HM.out.keep HB.out, Kp.of_below HB.out⟩
    | true =>
      go_wp2_with fail
      refine (HCL.out _ HB.out).mono ?_
      rintro e w3 ⟨u, rfl, ho, hb⟩
      have hsz2 : w.heap.size ≤ w2.heap.size := HB.out.size
      have HB := Lib.hid (HB.out.trans (hb.mono HB.out.size))
      have hm3 := HM.out.keep HB.out
      have hb3 := HBK.out.keep HB.out
      have hlt := HBK.out.lt
      have f3 := hb3.frozen 3
      have c3 := hb3.cell 3
      simp at c3
      obtain ⟨ua, uc, rfl, -, -⟩ := ho.rd.open_
      obtain ⟨wx, hwx⟩ : ∃ x, x = w3.setCell ⟨bm, 3, none⟩ (.slice ua l.length uc) := ⟨_, rfl⟩
      have hblk : Blk wx bm 59 #[.int .i64 S.n, .map (some bl), .map (some bi), .slice ua l.length uc] := by rw [hwx]; exact hb3.set 3 _
      have hoth : ∀ b, b ≠ bm → wx.heap[b]? = w3.heap[b]? := fun b hne => by
        rw [hwx]
        simp only [World.setCell, Array.getElem?_modify]
        rw [if_neg (fun e => hne e.symm)]
      have hox : OwG wx 0 (.slice ua l.length uc) l := (ho.above fun b hbb => hoth b (by omega)).mono (Nat.zero_le _)
      obtain ⟨F, h3, h4⟩ := hm3.live
      obtain ⟨G, h5, h6⟩ := hm3.img
      have hmx : Md wx bm bl bi { S with list := l } := ⟨HM.out.n, ⟨_, hblk, hox⟩, ⟨F, h3.of_heap (hoth _ (fun e => HML.out e.symm)), h4⟩, ⟨G, h5.of_heap (hoth _ (fun e => HMI.out e.symm)), h6⟩, HM.out.ne, HM.out.wl, HM.out.wi, HL.out⟩
      have hkx : Kp (fp bm bl bi) w wx := by
        have h0 : Below 0 w wx := by
          rw [hwx]
          exact (HB.out.mono (Nat.zero_le _)).setCell (Nat.zero_le _) _
        exact ⟨h0, fun b hlt2 hA => (hoth b fun e => hA (.inl e)).trans (HB.out.block b hlt2)⟩
      have HMX := Lib.hid hmx
      have HKX := Lib.hid hkx
      clear ho hb hsz2 hm3 hb3 hlt hblk hoth hox h3 h4 h5 h6 hmx hkx
      rw [hwx] at HMX HKX
      clear hwx
      go_wp2
      go_ret
      exact ⟨rfl, HMX.out, HKX.out⟩
end Go.Proofs.Ytfeinafbimpjnaa
