/-
  META: facts and contracts for the closed law MetaKnown (printed by wip/gen-metkh.py).
-/
import Derived.Test.YtimgecflcackbaaMetKg
import Derived.Test.YtimgecflcackbaaMetW
namespace Go.Proofs.Ytimgecflcackbaa
open Go.RowKit Reg Go.ChangeShapes

theorem RetZ.zero2 {w w' : World} {z : Int} {e : Ending} (h : RetZ w zeroM z e w') : ∃ lb kb sb tb ib jb, e = .returned (.tuple #[.agg #[.slice lb 0 kb, .slice sb 0 tb, .int .u64 0, .int .u64 0, .int .u64 0, .int .u64 0, .int .i64 0, .int .i64 0, .slice ib 0 jb], .int .i64 z]) ∧ Below w.heap.size w w' := by
  obtain ⟨a, b, c, d, f, g, rfl, -, h⟩ := h
  exact ⟨a, b, c, d, f, g, rfl, h⟩
theorem dec_no2 (Y : ByteArray) (hY : Y.size ≤ 1152921504606846976) (h : decZ (readM 1024 capB capS Y) Y = 4) (w : World) : Calls Try.prog 17 #[.string Y] w fun e w' => ∃ lb kb sb tb ib jb, e = .returned (.tuple #[.agg #[.slice lb 0 kb, .slice sb 0 tb, .int .u64 0, .int .u64 0, .int .u64 0, .int .u64 0, .int .i64 0, .int .i64 0, .slice ib 0 jb], .int .i64 4]) ∧ Below w.heap.size w w' := by
  have hn : ¬ okD (readM 1024 capB capS Y) Y := fun q => by
    unfold decZ at h
    rw [if_pos q] at h
    cases h
  have := dec_any w Y hY
  unfold decM decZ at this
  rw [if_neg hn, if_neg hn] at this
  exact this.mono fun _ _ h => h.z.zero2
def emptyM : Mt := ⟨[0], [], zeroT⟩
theorem empty_facts : encE emptyM = 0 ∧ encM emptyM = ⟨#[1, 1, 0, 0, 0]⟩ := by decide +kernel
theorem enc_empty (w : World) {v : Value} (h : InMt w v emptyM) : Calls Try.prog 13 #[v] w fun e w' => ∃ s, e = .returned (.tuple #[.string s, .int .i64 0]) ∧ s = ⟨#[1, 1, 0, 0, 0]⟩ ∧ Below w.heap.size w w' := by
  have := enc_any w v emptyM h
  rw [empty_facts.1, empty_facts.2] at this
  exact this.mono fun _ _ h => ⟨_, h.1, rfl, h.2⟩
theorem whole_facts : encE wholeM = 0 ∧ (encM wholeM).size = 46 := by decide +kernel
theorem whole_wf : wfM wholeM := by
  refine ⟨fun s hs => ?_, ⟨rfl, rfl⟩, ⟨rfl, rfl⟩, rfl, rfl⟩
  simp only [wholeM, List.mem_cons, List.not_mem_nil, or_false] at hs
  rcases hs with rfl | rfl <;> exact ⟨rfl, rfl⟩
/-- the program's variable 'whole' -/
def WhG (w : World) (g : Nat) : Prop := ∃ la lc sa sc ia ic, Blk w g 30 #[.slice la 2 lc, .slice sa 2 sc, .int .u64 2, .int .u64 1, .int .u64 2, .int .u64 2, .int .i64 1, .int .i64 2, .slice ia 2 ic] ∧ InMt w (.agg #[.slice la 2 lc, .slice sa 2 sc, .int .u64 2, .int .u64 1, .int .u64 2, .int .u64 2, .int .i64 1, .int .i64 2, .slice ia 2 ic]) wholeM
theorem WhG.keep {w w' : World} {g : Nat} (h : WhG w g) (hb : Below w.heap.size w w') : WhG w' g := by
  obtain ⟨la, lc, sa, sc, ia, ic, h1, h2⟩ := h
  exact ⟨la, lc, sa, sc, ia, ic, h1.keep hb, h2.keep hb⟩
theorem WhG.mt {w : World} {g : Nat} (h : WhG w g) : MtG w g wholeM := h
theorem enc_whole (w : World) {v : Value} (h : InMt w v wholeM) : Calls Try.prog 13 #[v] w fun e w' => ∃ s, e = .returned (.tuple #[.string s, .int .i64 0]) ∧ s = encM wholeM ∧ Below w.heap.size w w' := by
  have := enc_any w v wholeM h
  rw [whole_facts.1] at this
  exact this.mono fun _ _ h => ⟨_, h.1, rfl, h.2⟩
/-- whole comes back -/
def RetW (w : World) (e : Ending) (w' : World) : Prop := ∃ la lc sa sc ia ic, e = .returned (.tuple #[.agg #[.slice la 2 lc, .slice sa 2 sc, .int .u64 2, .int .u64 1, .int .u64 2, .int .u64 2, .int .i64 1, .int .i64 2, .slice ia 2 ic], .int .i64 0]) ∧ InMt w' (.agg #[.slice la 2 lc, .slice sa 2 sc, .int .u64 2, .int .u64 1, .int .u64 2, .int .u64 2, .int .i64 1, .int .i64 2, .slice ia 2 ic]) wholeM ∧ Below w.heap.size w w'
theorem dec_whole (w : World) {s : ByteArray} (hs : s = encM wholeM) : Calls Try.prog 17 #[.string s] w (RetW w) := by
  subst hs
  have h := dec_any w (encM wholeM) (by rw [whole_facts.2]; decide)
  obtain ⟨h1, h2⟩ := dec_enc whole_wf whole_facts.1
  rw [h1, h2] at h
  exact h.mono fun _ _ h => h.z
theorem chk_lit (w : World) {v : Value} {m : Mt} (h : InMt w v m) (b n z : Int) (hz : mtOf m b n = z) : Calls Try.prog 10 #[v, .int .i64 b, .int .i64 n] w fun e w' => e = .returned (.int .i64 z) ∧ Below w.heap.size w w' := by
  have := checkM_any w v m b n h
  rwa [hz] at this
theorem whole_chk : mtOf wholeM 2 303 = 0 ∧ mtOf wholeM 2 302 = 2 ∧ mtOf wholeM 1 400 = 2 := by decide +kernel
theorem hid_cell {w : World} {la sa ia : Option Addr} {lc sc ic : Nat} (h : InMt w (.agg #[.slice la 2 lc, .slice sa 2 sc, .int .u64 2, .int .u64 1, .int .u64 2, .int .u64 2, .int .i64 1, .int .i64 2, .slice ia 2 ic]) wholeM) : ∃ g off, sa = some ⟨g, off, none⟩ ∧ w.cell? ⟨g, off + 3, none⟩ = some (.bool true) := by
  obtain ⟨lv, sv, iv, e, h1, h2, h3, h4⟩ := h
  simp only [mtV, Value.agg.injEq, Array.mk.injEq, List.cons.injEq, and_true] at e
  obtain ⟨-, rfl, -⟩ := e
  obtain ⟨a, c, e, -, h⟩ := h2
  simp only [Value.slice.injEq] at e
  obtain ⟨g, off, iv', e2, -, -, -, -, h5, -⟩ := h 0 (by decide)
  exact ⟨g, off, e.1.trans e2, by simpa [wholeM] using h5⟩
theorem img_cell {w : World} {la sa ia : Option Addr} {lc sc ic : Nat} (h : InMt w (.agg #[.slice la 2 lc, .slice sa 2 sc, .int .u64 2, .int .u64 1, .int .u64 2, .int .u64 2, .int .i64 1, .int .i64 2, .slice ia 2 ic]) wholeM) : ∃ g off, ia = some ⟨g, off, none⟩ ∧ w.cell? ⟨g, off, none⟩ = some (.int .i64 302) := by
  obtain ⟨lv, sv, iv, e, h1, h2, h3, h4⟩ := h
  simp only [mtV, Value.agg.injEq, Array.mk.injEq, List.cons.injEq, and_true] at e
  obtain ⟨-, -, -, -, -, -, -, -, rfl⟩ := e
  obtain ⟨a, c, e, -, h⟩ := h3.open_
  simp only [Value.slice.injEq] at e
  obtain ⟨g, off, e2, h5⟩ := h 0 (by decide)
  exact ⟨g, off, e.1.trans e2, by simpa [wholeM] using h5⟩
theorem in_whole {w : World} {gl gs gi g0 g1 : Nat} (hl : InI w (.slice (some ⟨gl, 0, none⟩) 2 2) [200, 0]) (h0 : InI w (.slice (some ⟨g0, 0, none⟩) 2 2) [0, 0]) (h1 : InI w (.slice (some ⟨g1, 0, none⟩) 2 2) [300, 301]) (hi : InI w (.slice (some ⟨gi, 0, none⟩) 2 2) [302, 301])
    (hs : Blk w gs 48 #[.int .u64 1, .int .u64 1, .slice (some ⟨g0, 0, none⟩) 2 2, .bool true, .int .u64 2, .int .u64 1, .slice (some ⟨g1, 0, none⟩) 2 2, .bool false]) :
    InMt w (.agg #[.slice (some ⟨gl, 0, none⟩) 2 2, .slice (some ⟨gs, 0, none⟩) 2 2, .int .u64 2, .int .u64 1, .int .u64 2, .int .u64 2, .int .i64 1, .int .i64 2, .slice (some ⟨gi, 0, none⟩) 2 2]) wholeM := by
  refine ⟨_, _, _, rfl, hl, ⟨some ⟨gs, 0, none⟩, 2, rfl, by decide, fun j hj => ?_⟩, hi, whole_wf.2⟩
  have hj2 : j < 2 := hj
  match j, hj2 with
  | 0, _ => exact ⟨gs, 0, _, rfl, hs.cell 0, hs.cell 1, hs.cell 2, h0, hs.cell 3, rfl, rfl⟩
  | 1, _ => exact ⟨gs, 0, _, rfl, hs.cell 4, hs.cell 5, hs.cell 6, h1, hs.cell 7, rfl, rfl⟩
/-- a copy to which something was done -/
def RetX (w : World) (z : Int) (e : Ending) (w' : World) : Prop := ∃ (m : Mt) (la : Option Addr) (lc : Nat) (sa : Option Addr) (sc : Nat) (ia : Option Addr) (ic : Nat), e = .returned (.agg #[.slice la m.live.length lc, .slice sa m.snaps.length sc, .int .u64 m.token.base.1, .int .u64 m.token.base.2, .int .u64 m.token.target.1, .int .u64 m.token.target.2, .int .i64 m.token.next, .int .i64 m.token.all, .slice ia m.token.image.length ic]) ∧ InMt w' (.agg #[.slice la m.live.length lc, .slice sa m.snaps.length sc, .int .u64 m.token.base.1, .int .u64 m.token.base.2, .int .u64 m.token.target.1, .int .u64 m.token.target.2, .int .i64 m.token.next, .int .i64 m.token.all, .slice ia m.token.image.length ic]) m ∧ mtOf m 2 400 = z ∧ Below w.heap.size w w'
theorem with_lit (fid : FuncId) (m' : Mt) (z : Int) (w : World) (W : Nat) (hW : WhG w W) (hz : mtOf m' 2 400 = z) (hf : ∀ (args : Array Value) (w : World), (callFunc fid args).run Try.prog w = .ok (.enter fid args) w)
    (hdo : ∀ w B g, PtA w B g wholeM → B ≤ g → Calls Try.prog fid #[.pointer (some ⟨g, 0, none⟩)] w (DoT w B g m')) :
    Calls Try.prog 20 #[.func (.func fid) #[] #[], .pointer (some ⟨W, 0, none⟩)] w (RetX w z) := by
  refine (with_any fid wholeM m' w W hW.mt hf (by rw [whole_short]; exact hdo)).mono ?_
  rintro e w' ⟨la, lc, sa, sc, ia, ic, rfl, hi, hb⟩
  exact ⟨m', la, lc, sa, sc, ia, ic, rfl, hi, hz, hb⟩
def AllM (w : World) (l : List (Value × Mt)) : Prop := ∀ x ∈ l, InMt w x.1 x.2
theorem AllM.keep {w w' : World} {l : List (Value × Mt)} (h : AllM w l) (hb : Below w.heap.size w w') : AllM w' l := fun x hx => (h x hx).keep hb
theorem AllM.cons {w : World} {l : List (Value × Mt)} {v : Value} {p : Mt} (h : AllM w l) (hv : InMt w v p) : AllM w ((v, p) :: l) := fun x hx => by
  rcases List.mem_cons.1 hx with rfl | hx
  · exact hv
  · exact h x hx
/-- a row of the first table -/
def RowB (w : World) (g k : Nat) : Prop := ∃ (m : Mt) (la : Option Addr) (lc : Nat) (sa : Option Addr) (sc : Nat) (ia : Option Addr) (ic : Nat) (z : Int), (w.cell? ⟨g, k * 10, none⟩ = some (.slice la m.live.length lc) ∧ w.cell? ⟨g, k * 10 + 1, none⟩ = some (.slice sa m.snaps.length sc) ∧ w.cell? ⟨g, k * 10 + 2, none⟩ = some (.int .u64 m.token.base.1) ∧ w.cell? ⟨g, k * 10 + 3, none⟩ = some (.int .u64 m.token.base.2) ∧
  w.cell? ⟨g, k * 10 + 4, none⟩ = some (.int .u64 m.token.target.1) ∧ w.cell? ⟨g, k * 10 + 5, none⟩ = some (.int .u64 m.token.target.2) ∧ w.cell? ⟨g, k * 10 + 6, none⟩ = some (.int .i64 m.token.next) ∧ w.cell? ⟨g, k * 10 + 7, none⟩ = some (.int .i64 m.token.all) ∧ w.cell? ⟨g, k * 10 + 8, none⟩ = some (.slice ia m.token.image.length ic) ∧ w.cell? ⟨g, k * 10 + 9, none⟩ = some (.int .i64 z)) ∧ InMt w (.agg #[.slice la m.live.length lc, .slice sa m.snaps.length sc, .int .u64 m.token.base.1, .int .u64 m.token.base.2, .int .u64 m.token.target.1, .int .u64 m.token.target.2, .int .i64 m.token.next, .int .i64 m.token.all, .slice ia m.token.image.length ic]) m ∧ mtOf m 2 400 = z
theorem RowB.keep {w w' : World} {g k : Nat} (h : RowB w g k) (hb : Below w.heap.size w w') : RowB w' g k := by
  obtain ⟨m, la, lc, sa, sc, ia, ic, z, ⟨h0, h1, h2, h3, h4, h5, h6, h7, h8, h9⟩, hi, hz⟩ := h
  exact ⟨m, la, lc, sa, sc, ia, ic, z, ⟨cell_later hb h0, cell_later hb h1, cell_later hb h2, cell_later hb h3, cell_later hb h4, cell_later hb h5, cell_later hb h6, cell_later hb h7, cell_later hb h8, cell_later hb h9⟩, hi.keep hb, hz⟩
theorem bad_chk : (mtOf bad2 2 400 = 16 ∧ mtOf bad3 2 400 = 2 ∧ mtOf bad4 2 400 = 2 ∧ mtOf bad5 2 400 = 16 ∧ mtOf bad6 2 400 = 2 ∧ mtOf bad7 2 400 = 2 ∧ mtOf bad8 2 400 = 2 ∧ mtOf bad9 2 400 = 2 ∧ mtOf bad10 2 400 = 2) ∧
    (mtOf bad11 2 400 = 2 ∧ mtOf bad12 2 400 = 16 ∧ mtOf bad13 2 400 = 2 ∧ mtOf bad14 2 400 = 2 ∧ mtOf bad15 2 400 = 0 ∧ mtOf bad16 2 400 = 0 ∧ mtOf bad17 2 400 = 0 ∧ mtOf bad18 2 400 = 3 ∧ mtOf bad19 2 400 = 2) := by decide +kernel
/-! ### texts that are no table's -/
def badS (k : Nat) : ByteArray := match k with
  | 0 => ⟨#[]⟩
  | 1 => ⟨#[0]⟩
  | 2 => ⟨#[1, 1, 0, 0]⟩
  | 3 => ⟨#[1, 1, 0, 0, 1, 2]⟩
  | 4 => ⟨#[1, 1, 1, 192, 0, 0]⟩
  | 5 => ⟨#[1, 9, 0, 0, 0, 0, 0, 0, 0, 0, 0, 0, 0]⟩
  | 6 => ⟨#[1, 1, 1, 193, 1, 1, 1, 1, 1, 2, 1, 2, 1, 193, 0]⟩
  | _ => ⟨#[1, 1, 8, 255, 255, 255, 255, 255, 255, 255, 255, 0, 0]⟩
theorem badS_no : ∀ k, k < 8 → ¬ okD (readM 1024 capB capS (badS k)) (badS k) := by decide +kernel
theorem badS_size : ∀ k, k < 8 → (badS k).size ≤ 1000 := by decide +kernel
/-- a row of the second table -/
def RowS (w : World) (g k : Nat) : Prop := ∃ t : ByteArray, w.cell? ⟨g, k, none⟩ = some (.string t) ∧ decZ (readM 1024 capB capS t) t = 4 ∧ t.size ≤ 1000
theorem RowS.keep {w w' : World} {g k : Nat} (h : RowS w g k) (hb : Below w.heap.size w w') : RowS w' g k := by
  obtain ⟨t, h1, h2⟩ := h
  exact ⟨t, cell_later hb h1, h2⟩
theorem RowS.of {w : World} {g k : Nat} (hk : k < 8) (h : w.cell? ⟨g, k, none⟩ = some (.string (badS k))) : RowS w g k := ⟨_, h, dec_bad (badS_no k hk), badS_size k hk⟩
/-! ### the greatest tables -/
def live8 (k : Nat) : List Int := (List.range k).map fun (j : Nat) => 500 + (j : Int)
theorem live8_succ (k : Nat) : live8 (k + 1) = live8 k ++ [500 + (k : Int)] := by simp [live8, List.range_succ]
def bigG (k : Nat) : Gd := (9223372036854775808, 9223372036854775808 + (k : Int))
def fineG (k : Nat) : Gd := (100000, 100000 + (k : Int))
def esN (a : Option Addr) (c k : Nat) : List Se := (List.range k).map fun j => ⟨bigG j, live8 8, false, a, c⟩
def esG (a : Option Addr) (c k : Nat) : List Se := (List.range 20).map fun j => ⟨if j < k then fineG j else bigG j, live8 8, false, a, c⟩
theorem esN_succ (a : Option Addr) (c k : Nat) : esN a c (k + 1) = esN a c k ++ [⟨bigG k, live8 8, false, a, c⟩] := by simp [esN, List.range_succ]
theorem esN_len (a : Option Addr) (c k : Nat) : (esN a c k).length = k := by simp [esN]
theorem esG_len (a : Option Addr) (c k : Nat) : (esG a c k).length = 20 := by simp [esG]
theorem esG_zero (a : Option Addr) (c : Nat) : esG a c 0 = esN a c 20 := by simp [esG, esN]
theorem esG_succ (a : Option Addr) (c k : Nat) (hk : k < 20) : (esG a c k).set k { (esG a c k).getD k se0 with g := fineG k } = esG a c (k + 1) := by
  apply List.ext_getElem
  · simp [esG]
  · intro i h1 h2
    have hi : i < 20 := by simpa [esG] using h2
    rw [List.getElem_set]
    by_cases e : k = i
    · subst e
      simp [esG, hk]
    · have e1 : (i < k) = (i < k + 1) := by apply propext; omega
      simp [esG, e, e1]
def mostM : Mt := ⟨live8 8, (List.range 20).map (fun j => ⟨bigG j, live8 8, false⟩), zeroT⟩
def fineM : Mt := ⟨live8 8, (List.range 20).map (fun j => ⟨fineG j, live8 8, false⟩), zeroT⟩
theorem esN_most (a : Option Addr) (c : Nat) : (esN a c 20).map Se.sn = mostM.snaps := by
  simp [esN, mostM, Se.sn]
theorem esG_fine (a : Option Addr) (c : Nat) : (esG a c 20).map Se.sn = fineM.snaps := by
  show (esG a c 20).map Se.sn = (List.range 20).map (fun j => ⟨fineG j, live8 8, false⟩)
  unfold esG
  rw [List.map_map]
  apply List.map_congr_left
  intro j hj
  have : j < 20 := by simpa using hj
  simp [Se.sn, this]
theorem in_es {w : World} {base : Nat} {v : Value} {es : List Se} {l : List Sn} (h : OwE w base v es) (hi : ∀ e ∈ es, InI w e.iv e.zs) (hl : es.map Se.sn = l) (hn : l.length ≤ 1000) (hw : ∀ s ∈ l, wfG s.guid) : InS w v l := by
  subst hl
  rw [List.length_map] at hn
  rcases h.2 with ⟨rfl, h0⟩ | ⟨g, cap, cur, rfl, hg, hh, hc, rest⟩
  · rw [List.length_eq_zero_iff.1 h0]
    exact InS.nil_ _ _ _
  · refine ⟨_, cap, by rw [List.length_map], by rw [List.length_map]; unfold maxLen; omega, fun j hj => ?_⟩
    rw [List.length_map] at hj
    have hcell : ∀ i, i < 4 → w.cell? ⟨g, j * 4 + i, none⟩ = (es.getD j se0).cells[i]? := fun i hi => by
      rw [← cellsE_at es j i hj hi]
      exact h.cellAt (j * 4 + i) (by omega)
    have hm : es.getD j se0 ∈ es := by
      have : es.getD j se0 = es[j] := by simp [hj]
      rw [this]
      exact List.getElem_mem hj
    have hs : (es.map Se.sn).getD j snap0 = (es.getD j se0).sn := by simp [hj]
    rw [hs]
    have hww := hw (es.getD j se0).sn (List.mem_map.2 ⟨_, hm, rfl⟩)
    refine ⟨g, 0, (es.getD j se0).iv, rfl, ?_, ?_, ?_, hi _ hm, ?_, hww⟩
    · rw [Nat.zero_add]; exact hcell 0 (by omega)
    · rw [Nat.zero_add]; exact hcell 1 (by omega)
    · rw [Nat.zero_add]; exact hcell 2 (by omega)
    · rw [Nat.zero_add]; exact hcell 3 (by omega)
theorem bigG_wf {k : Nat} (hk : k < 20) : wfG (bigG k) := by
  have : ∀ k, k < 20 → (Lit.int .u64 (bigG k).1).wf = true ∧ (Lit.int .u64 (bigG k).2).wf = true := by decide +kernel
  exact this k hk
theorem fineG_wf {k : Nat} (hk : k < 20) : wfG (fineG k) := by
  have : ∀ k, k < 20 → (Lit.int .u64 (fineG k).1).wf = true ∧ (Lit.int .u64 (fineG k).2).wf = true := by decide +kernel
  exact this k hk
theorem most_in {w : World} {base : Nat} {sv : Value} {a : Option Addr} {c : Nat} (hl : InI w (.slice a 8 c) (live8 8)) (hs : OwE w base sv (esN a c 20)) : InMt w (.agg #[.slice a 8 c, sv, .int .u64 0, .int .u64 0, .int .u64 0, .int .u64 0, .int .i64 0, .int .i64 0, .slice none 0 0]) mostM :=
  ⟨_, _, _, rfl, hl, in_es hs (fun e he => by
    obtain ⟨j, -, rfl⟩ := List.mem_map.1 he
    exact hl) (esN_most a c) (by decide) (fun s hs => by
    obtain ⟨j, hj, rfl⟩ := List.mem_map.1 (show s ∈ (List.range 20).map (fun j => (⟨bigG j, live8 8, false⟩ : Sn)) from hs)
    exact bigG_wf (by simpa using hj)), InI.nil_ _, zeroT_wf⟩
theorem fine_in {w : World} {base : Nat} {sv : Value} {a : Option Addr} {c : Nat} (hl : InI w (.slice a 8 c) (live8 8)) (hs : OwE w base sv (esG a c 20)) : InMt w (.agg #[.slice a 8 c, sv, .int .u64 0, .int .u64 0, .int .u64 0, .int .u64 0, .int .i64 0, .int .i64 0, .slice none 0 0]) fineM :=
  ⟨_, _, _, rfl, hl, in_es hs (fun e he => by
    obtain ⟨j, -, rfl⟩ := List.mem_map.1 he
    exact hl) (esG_fine a c) (by decide) (fun s hs => by
    obtain ⟨j, hj, rfl⟩ := List.mem_map.1 (show s ∈ (List.range 20).map (fun j => (⟨fineG j, live8 8, false⟩ : Sn)) from hs)
    exact fineG_wf (by simpa using hj)), InI.nil_ _, zeroT_wf⟩
theorem most_facts : encE mostM = 0 ∨ encE mostM = 3 := by decide +kernel
theorem fine_facts : encE fineM = 0 ∧ 600 < (encM fineM).size ∧ (encM fineM).size < 100000 := by decide +kernel
theorem enc_most (w : World) {v : Value} (h : InMt w v mostM) : Calls Try.prog 13 #[v] w fun e w' => ∃ s z, e = .returned (.tuple #[.string s, .int .i64 z]) ∧ (z = 0 ∨ z = 3) ∧ Below w.heap.size w w' :=
  (enc_any w v mostM h).mono fun _ _ h => ⟨_, _, h.1, most_facts, h.2⟩
theorem enc_fine (w : World) {v : Value} (h : InMt w v fineM) : Calls Try.prog 13 #[v] w fun e w' => ∃ s, e = .returned (.tuple #[.string s, .int .i64 0]) ∧ (600 < (s.size : Int) ∧ (s.size : Int) < 100000) ∧ Below w.heap.size w w' := by
  have := enc_any w v fineM h
  rw [fine_facts.1] at this
  exact this.mono fun _ _ h => ⟨_, h.1, ⟨by have := fine_facts.2.1; omega, by have := fine_facts.2.2; omega⟩, h.2⟩
def otherM : Mt := { wholeM with token := { wholeM.token with next := 0 } }
theorem other_in {w : World} {la sa ia : Option Addr} {lc sc ic : Nat} (h : InMt w (.agg #[.slice la 2 lc, .slice sa 2 sc, .int .u64 2, .int .u64 1, .int .u64 2, .int .u64 2, .int .i64 1, .int .i64 2, .slice ia 2 ic]) wholeM) : InMt w (.agg #[.slice la 2 lc, .slice sa 2 sc, .int .u64 2, .int .u64 1, .int .u64 2, .int .u64 2, .int .i64 0, .int .i64 2, .slice ia 2 ic]) otherM := by
  obtain ⟨lv, sv, iv, e, h1, h2, h3, h4⟩ := h
  simp only [mtV, Value.agg.injEq, Array.mk.injEq, List.cons.injEq, and_true] at e
  obtain ⟨rfl, rfl, -, -, -, -, -, -, rfl⟩ := e
  exact ⟨_, _, _, rfl, h1, h2, h3, h4.base, h4.target, rfl, h4.all⟩
theorem other_no : sameM otherM wholeM = false := by decide +kernel
theorem same_other (w : World) {u v : Value} (hu : InMt w u otherM) (hv : InMt w v wholeM) : Calls Try.prog 15 #[u, v] w fun e w' => e = .returned (.bool false) ∧ Below w.heap.size w w' := by
  have := sameM_any w u v otherM wholeM hu hv
  rwa [other_no] at this
theorem short_whole (w : World) {v : Value} (hv : InMt w v wholeM) : Calls Try.prog 9 #[v] w fun e w' => ∃ la lc sa sc ia ic, e = .returned (.agg #[.slice la 2 lc, .slice sa 2 sc, .int .u64 2, .int .u64 1, .int .u64 2, .int .u64 2, .int .i64 1, .int .i64 2, .slice ia 2 ic]) ∧ InMt w' (.agg #[.slice la 2 lc, .slice sa 2 sc, .int .u64 2, .int .u64 1, .int .u64 2, .int .u64 2, .int .i64 1, .int .i64 2, .slice ia 2 ic]) wholeM ∧ Below w.heap.size w w' := by
  refine (short2_any w v wholeM hv).mono ?_
  rw [whole_short]
  rintro e w' ⟨u, rfl, ho, hb⟩
  have hin := ho.mt.inm
  obtain ⟨la, lc, sa, sc, ia, ic, rfl⟩ := hin.open_
  exact ⟨la, lc, sa, sc, ia, ic, rfl, hin, hb⟩
end Go.Proofs.Ytimgecflcackbaa
