/-
  MESSAGES: read (printed by wip/gen-msgo.py).
-/
import Derived.Test.YtikimmhkfjaijaaMsN
namespace Go.Proofs.Ytikimmhkfjaijaa
open Go.RowKit Reg Go.ChangeShapes

set_option maxHeartbeats 400000 in
theorem newReader2_any (s : ByteArray) (w : World) (hs : s.size ≤ 1152921504606846976) :
    Calls Try.prog 24 #[.string s] w fun e w' => ∃ r, e = .returned (.pointer (some ⟨r, 0, none⟩)) ∧ w.heap.size < r ∧ Rdr w' r (some s.data.toList) ∧ Below w.heap.size w w' := by
  obtain ⟨cap, w1, hcv, hcap, hsz, hb, hcell, hfr⟩ := bytes_of_list (P := Try.prog) w 9 47 5 s s.data.toList rfl Try.underlying9 Try.underlying47 Try.underlying5
  have HC := Lib.hid hcell
  have HB := Lib.hid hb
  have HS : Hid (s.data.toList.length ≤ 1152921504606846976) := by rw [len_data]; exact hs
  have HCAP := Lib.hid hcap
  have HSZ := Lib.hid hsz
  clear hcell hfr hb hs hcap
  generalize s.data.toList = l at *
  go_enter Try.func24, Try.ntmps24
  go_wp2
  go_ret
  refine ⟨w.heap.size + 1, rfl, by omega, ⟨w.heap.size, 0, cap, Blk.newAt _ _ HSZ.out, by omega, HCAP.out, HS.out, fun j u hu => ?_⟩, HB.out.alloc HB.out.size _⟩
  have hj : j < l.length := by
    rcases Nat.lt_or_ge j l.length with q | q
    · exact q
    · rw [List.getElem?_eq_none (by simpa using q)] at hu; cases hu
  have h1 := HC.out j hj
  rw [Nat.zero_add, World.cell?_alloc_lt _ _ _ (by have := HSZ.out; simp; omega), h1]
  simp [hj, vb] at hu ⊢
  exact hu

set_option maxHeartbeats 400000 in
theorem ok_any (r : Nat) (st : Wire.St) (w : World) (h : Rdr w r st) : Calls Try.prog 44 #[.pointer (some ⟨r, 0, none⟩)] w fun e w' => e = .returned (.bool (okB st)) ∧ w = w' := by
  cases st with
  | none =>
    obtain ⟨v, b⟩ := h
    have c1 : w.cell? ⟨r, 1, none⟩ = some (.bool true) := b.cell 1
    clear b
    go_enter Try.func44, Try.ntmps44
    go_wp2
    go_ret
    exact ⟨rfl, rfl⟩
  | some l =>
    obtain ⟨g, off, c, b, _⟩ := h
    have c1 : w.cell? ⟨r, 1, none⟩ = some (.bool false) := b.cell 1
    clear b
    go_enter Try.func44, Try.ntmps44
    go_wp2
    go_ret
    exact ⟨rfl, rfl⟩
set_option maxHeartbeats 400000 in
theorem end_any (r : Nat) (st : Wire.St) (w : World) (h : Rdr w r st) : Calls Try.prog 25 #[.pointer (some ⟨r, 0, none⟩)] w fun e w' => e = .returned (.bool (endB st)) ∧ w = w' := by
  have hok := ok_any r st w h
  cases st with
  | none =>
    go_enter Try.func25, Try.ntmps25
    go_wp2_with fail
    refine hok.mono ?_
    rintro e w1 ⟨rfl, rfl⟩
    clear hok
    have hz : okB none = false := rfl
    go_wp2
    go_ret
    exact ⟨rfl, rfl⟩
  | some l =>
    obtain ⟨g, off, c, b, _⟩ := h
    have c1 : w.cell? ⟨r, 0, none⟩ = some (.slice (some ⟨g, off, none⟩) l.length c) := b.cell 0
    clear b
    have hz : okB (some l) = true := rfl
    have hl : ((l.length : Int) == 0) = endB (some l) := by
      cases l with
      | nil => rfl
      | cons b l => simp [endB]; omega
    have HOK := Lib.hid hok
    clear hok
    generalize endB (some l) = x at *
    go_enter Try.func25, Try.ntmps25
    go_wp2_with fail
    refine HOK.out.mono ?_
    rintro e w1 ⟨rfl, rfl⟩
    go_wp2
    go_ret
    exact ⟨rfl, rfl⟩

/-! ### what has been read is a message in memory -/
theorem RowsM.widen {W : World} {Z A : Nat → Prop} {md : Md} {size n : Nat} {fz : Nat → Bool} {R : Nat → List Value} {w : World} {v : Value} (h : RowsM W Z md size n fz R w v) (hr : md.isRd = true) (hA : ∀ b, A b → b < W.heap.size) : RowsM W (fun b => Z b ∨ A b) md size n fz R w v := by
  obtain ⟨a, c, h1, h2, h3, h4⟩ := h
  refine ⟨a, c, h1, h2, h3, fun j hj => ?_⟩
  obtain ⟨g, off, k1, k2, k3, k4, k5⟩ := h4 j hj
  exact ⟨g, off, k1, fun hz => hz.elim k2 fun ha => by have := hA g ha; have := k4 hr; omega, k3, k4, k5⟩
theorem ERow.ine {W : World} {Z : Nat → Prop} {md : Md} {es : List En} {w : World} {v : Value} (h : ERow W Z md es w v) (hr : md.isRd = true) : InE w v es := by
  obtain ⟨⟨a, c, h1, h2, h3, h4⟩, h5⟩ := h
  refine ⟨a, c, h1, h2, h3, h5, fun j hj => ?_⟩
  obtain ⟨g, off, k1, k2, k3, k4, k5⟩ := h4 j hj
  refine ⟨g, off, k1, fun i hi => ?_, (k5 1 (by decide)).2 (.inl hr)⟩
  obtain ⟨⟨u, e1, e2⟩, -⟩ := k5 i hi
  rw [e2, e1]
theorem cellsG_get (gs : List Gd) {j : Nat} (hj : j < (cellsG gs).length) : (cellsG gs)[j]? = (gdL (gs.getD (j / 2) (0, 0)))[j % 2]? := by
  rw [cellsG_length] at hj
  have h2 := cellsG_at gs (j / 2) (by omega)
  have hc : j % 2 = 0 ∨ j % 2 = 1 := by omega
  rcases hc with hc | hc
  · have e : j = j / 2 * 2 := by omega
    have h3 := h2.1
    rw [← e] at h3
    rw [h3, hc]
    rfl
  · have e : j = j / 2 * 2 + 1 := by omega
    have h3 := h2.2
    rw [← e] at h3
    rw [h3, hc]
    rfl
theorem GRow.ing {W : World} {Z : Nat → Prop} {md : Md} {gs : List Gd} {w : World} {v : Value} (h : GRow W Z md gs w v) : InG w v gs := by
  obtain ⟨⟨a, c, h1, h2, h3, h4⟩, h5⟩ := h
  refine ⟨⟨a, c, h1, ?_⟩, h3, h5⟩
  rcases Nat.eq_zero_or_pos gs.length with h0 | hp
  · exact .inl (List.length_eq_zero_iff.1 h0)
  · obtain ⟨g, off, rfl, -⟩ := h4 0 hp
    refine .inr ⟨by omega, g, off, rfl, fun j u hu => ?_⟩
    have hj : j < (cellsG gs).length := by
      rcases Nat.lt_or_ge j (cellsG gs).length with q | q
      · exact q
      · rw [List.getElem?_eq_none q] at hu; cases hu
    rw [cellsG_get gs hj] at hu
    rw [cellsG_length] at hj
    obtain ⟨g', off', e, -, -, -, k5⟩ := h4 (j / 2) (by omega)
    simp only [Option.some.injEq, Addr.mk.injEq, and_true] at e
    obtain ⟨rfl, rfl⟩ := e
    obtain ⟨⟨u', e1, e2⟩, -⟩ := k5 (j % 2) (by omega)
    rw [e1] at hu
    obtain rfl := Option.some.inj hu
    rw [← e2]
    congr 2
    omega
def noStr : Value → Bool
  | .string _ => false
  | _ => true
theorem msA_noStr (m : Ms) (a1 a2 a3 : Option Addr) (n1 n2 n3 c1 c2 c3 : Nat) : ((msA m (.slice a1 n1 c1) (.slice a2 n2 c2) (.slice a3 n3 c3)).all noStr) = true := by
  rw [← Array.all_toList]
  rfl
theorem not_str {cs : Array Value} (h : cs.all noStr = true) {i : Nat} {s : ByteArray} : cs[i]? ≠ some (.string s) := by
  intro e
  obtain ⟨hi, e2⟩ := Array.getElem?_eq_some_iff.1 e
  have := (Array.all_eq_true.1 h) i hi
  rw [e2] at this
  cases this
/-- the message that has been read, once the blocks A have been stored into -/
theorem FS.msg {W : World} {fb mb : Nat} {Z : Nat → Prop} {B : Nat} {S : Sf} {m : Ms} {w : World} (h : FS W fb mb Z B S m w) (hr : S.m.isRd = true) (hw : wfM m) :
    ∃ ma, Blk w mb 33 ma ∧ (ma.all fun x => x.oneCell') = true ∧ ma.size = 26 ∧ ∀ A : Nat → Prop, (∀ b, A b → b < W.heap.size ∧ ∃ t za, Blk w b t za ∧ za.all noStr = true) → ∀ w', Kp A w w' → InMs w' (.agg ma) m := by
  obtain ⟨se, sl, sc, hb, h1, h2, h3⟩ := h.ls
  have g1 : ∀ A : Nat → Prop, (∀ b, A b → b < W.heap.size ∧ ∃ t za, Blk w b t za ∧ za.all noStr = true) → ∀ w', Kp A w w' → InE w' se m.es := fun A hA w' hk => ERow.ine (W := W) (Z := fun b => Z b ∨ A b) ⟨(h1.1.widen hr (fun b hb => (hA b hb).1)).kp hk (fun b hb e => hb (.inr e)), h1.2⟩ hr
  have g2 : ∀ A : Nat → Prop, (∀ b, A b → b < W.heap.size ∧ ∃ t za, Blk w b t za ∧ za.all noStr = true) → ∀ w', Kp A w w' → InG w' sl m.l.l := fun A hA w' hk => GRow.ing (W := W) (Z := fun b => Z b ∨ A b) (md := S.m) ⟨(h2.1.widen hr (fun b hb => (hA b hb).1)).kp hk (fun b hb e => hb (.inr e)), h2.2⟩
  have g3 : ∀ A : Nat → Prop, (∀ b, A b → b < W.heap.size ∧ ∃ t za, Blk w b t za ∧ za.all noStr = true) → ∀ w', Kp A w w' → InC w' sc m.p.cs := fun A hA w' hk => by
    refine h3.1.kp hk fun hp b hb e => ?_
    obtain ⟨a, c, hsc, -, hx⟩ := h3.1
    obtain ⟨g, off, rfl, k1, k2⟩ := hx 0 hp
    rw [hsc] at hb
    simp only [slB, Option.some.injEq] at hb
    obtain ⟨-, t, za, hza, hz⟩ := hA b e
    rw [← hb] at hza
    rw [hza.cell] at k2
    exact not_str hz k2
  have g0 : ∀ b, (fun _ : Nat => False) b → b < W.heap.size ∧ ∃ t za, Blk w b t za ∧ za.all noStr = true := fun b e => e.elim
  obtain ⟨a1, c1, e1⟩ := (g1 _ g0 w (Kp.refl _ w)).slice_
  obtain ⟨a2, c2, e2⟩ := (g2 _ g0 w (Kp.refl _ w)).slice_
  obtain ⟨a3, c3, e3⟩ := (g3 _ g0 w (Kp.refl _ w)).slice_
  exact ⟨_, hb, by rw [e1, e2, e3]; exact msA_one _ _ _ _ _ _ _ _ _ _, rfl, fun A hA w' hk => ⟨_, _, _, rfl, g1 A hA w' hk, g2 A hA w' hk, g3 A hA w' hk, hw⟩⟩
def zeroA : Array Value := msA zeroM (.slice none 0 0) (.slice none 0 0) (.slice none 0 0)
theorem readM_r {r : Nat} {l : List UInt8} {X : Sf × Ms} (h : rdF r l = X) : readM l = X.2 ∧ readOk l = (!X.1.bad && endB X.1.m.left) := by
  rw [rdF_rn] at h
  obtain ⟨Y, hY⟩ : ∃ Y, rdF 0 l = Y := ⟨_, rfl⟩
  rw [hY] at h
  subst h
  have h1 := readM_of hY
  have h2 := readOk_of hY
  refine ⟨h1, h2.trans ?_⟩
  obtain ⟨⟨md, b⟩, m⟩ := Y
  cases md <;> rfl
theorem zeroA_noStr : zeroA.all noStr = true := msA_noStr _ _ _ _ _ _ _ _ _ _
theorem in8_0 : in8 0 := ⟨by decide, by decide⟩
theorem okIn_zero (k : Int) : OkIn true (p_K zeroM k) :=
  ⟨fun _ => rfl, fun _ => ⟨in8_0, rfl⟩, fun _ => ⟨(fun e he => by cases he), Nat.zero_le _, in8_0⟩, fun _ => in8_0, fun _ => ⟨Int.le_refl _, (by decide : (0 : Int) ≤ 9223372036854775807)⟩, fun _ => ⟨rfl, in8_0, Nat.zero_le _⟩, fun _ => ⟨in8_0, ⟨rfl, rfl⟩, ⟨rfl, rfl⟩, in8_0⟩, fun _ => ⟨rfl, rfl, rfl⟩⟩
theorem setMany_all {vs : List Value} : ∀ (pre post : List Value) (o : Nat), o = pre.length → post.length = vs.length → setMany (pre ++ post).toArray o vs = (pre ++ vs).toArray := by
  induction vs with
  | nil => intro pre post o _ h; rw [List.length_eq_zero_iff.1 h]; rfl
  | cons u us ih =>
    intro pre post o ho h
    cases post with
    | nil => cases h
    | cons x xs =>
      unfold setMany
      have e : (pre ++ x :: xs).toArray.setIfInBounds o u = ((pre ++ [u]) ++ xs).toArray := by
        rw [List.setIfInBounds_toArray, ho]
        simp
      rw [e, ih (pre ++ [u]) xs (o + 1) (by simp [ho]) (by simpa using h)]
      simp
theorem setMany_whole {a b : Array Value} (h : a.size = b.size) : setMany a 0 b.toList = b := by
  have := setMany_all (vs := b.toList) [] a.toList 0 rfl (by simpa using h)
  simpa using this
theorem Blk.rng {w : World} {g : Nat} {t : TypeId} {cs : Array Value} (h : Blk w g t cs) : w.rangeAt g 0 cs.toList := fun j v hj => by
  rw [Nat.zero_add, h.cell]
  simpa using hj
theorem zeroRows {W : World} {Z : Nat → Prop} {md : Md} {w : World} : ERow W Z md [] w (.slice none 0 0) ∧ GRow W Z md [] w (.slice none 0 0) ∧ CRow Z zeroP w (.slice none 0 0) :=
  ⟨⟨⟨none, 0, rfl, .inl rfl, Nat.zero_le _, fun j hj => by cases hj⟩, fun e he => by cases he⟩, ⟨⟨none, 0, rfl, .inl rfl, Nat.zero_le _, fun j hj => by cases hj⟩, fun e he => by cases he⟩, InC.nil_ _ _ _, (fun h => absurd h (by decide)), zero_wf⟩
theorem read_start {w w3 : World} {r : Nat} {l : List UInt8} (hb3 : Below (w.heap.size + 1 + 1) ((w.alloc (.cells zeroA 33)).alloc (.cells zeroA 33)) w3) (hr : w.heap.size + 1 + 1 < r) (hrd : Rdr w3 r (some l)) :
    FS (w.alloc (.cells zeroA 33)) w3.heap.size (w.heap.size + 1) (fun b => b = w.heap.size + 1 ∨ b = w3.heap.size ∨ b = r) 0 ⟨.rd r (some l), false⟩ zeroM (w3.alloc (.cells #[.pointer (some ⟨w.heap.size + 1, 0, none⟩), .string ByteArray.empty, .pointer (some ⟨r, 0, none⟩), .bool false] 68)) ∧
    Blk (w3.alloc (.cells #[.pointer (some ⟨w.heap.size + 1, 0, none⟩), .string ByteArray.empty, .pointer (some ⟨r, 0, none⟩), .bool false] 68)) w.heap.size 33 zeroA := by
  have hs1 : (w.alloc (.cells zeroA 33)).heap.size = w.heap.size + 1 := by simp
  have hs2 : ((w.alloc (.cells zeroA 33)).alloc (.cells zeroA 33)).heap.size = w.heap.size + 1 + 1 := by simp
  have hq := (((Blk.new w 33 zeroA).alloc (Obj.cells zeroA 33)).below hb3 (by omega)).alloc (Obj.cells #[.pointer (some ⟨w.heap.size + 1, 0, none⟩), .string ByteArray.empty, .pointer (some ⟨r, 0, none⟩), .bool false] 68)
  have hm := ((Blk.newAt (w := w.alloc (.cells zeroA 33)) 33 zeroA hs1).below hb3 (by omega)).alloc (Obj.cells #[.pointer (some ⟨w.heap.size + 1, 0, none⟩), .string ByteArray.empty, .pointer (some ⟨r, 0, none⟩), .bool false] 68)
  have hal := (Below.refl w3.heap.size w3).alloc (Nat.le_refl _) (Obj.cells #[.pointer (some ⟨w.heap.size + 1, 0, none⟩), .string ByteArray.empty, .pointer (some ⟨r, 0, none⟩), .bool false] 68)
  have hsz := hb3.size
  rw [hs2] at hsz
  have hkp : Below (w.heap.size + 1) (w.alloc (.cells zeroA 33)) (w3.alloc (.cells #[.pointer (some ⟨w.heap.size + 1, 0, none⟩), .string ByteArray.empty, .pointer (some ⟨r, 0, none⟩), .bool false] 68)) := by
    have h1 := (Below.refl (w.heap.size + 1) (w.alloc (.cells zeroA 33))).alloc (by omega) (Obj.cells zeroA 33)
    exact (h1.trans (hb3.mono (by omega))).trans (hal.mono (by omega))
  have hkpW : Below (w.alloc (.cells zeroA 33)).heap.size (w.alloc (.cells zeroA 33)) (w3.alloc (.cells #[.pointer (some ⟨w.heap.size + 1, 0, none⟩), .string ByteArray.empty, .pointer (some ⟨r, 0, none⟩), .bool false] 68)) := by rw [hs1]; exact hkp
  have hrl := hrd.lt
  have zr := zeroRows (W := w.alloc (.cells zeroA 33)) (Z := fun b => b = w.heap.size + 1 ∨ b = w3.heap.size ∨ b = r) (md := .rd r (some l)) (w := w3.alloc (.cells #[.pointer (some ⟨w.heap.size + 1, 0, none⟩), .string ByteArray.empty, .pointer (some ⟨r, 0, none⟩), .bool false] 68))
  refine ⟨⟨Kp.of_below hkpW, ⟨Blk.new _ _ _, hrd.keep hal, ?_⟩, ?_, .inl rfl, ?_, by omega, ?_, Nat.le_refl _, _, _, _, hm, zr.1, zr.2.1, zr.2.2⟩, hq⟩
  · intro h
    have h' : w3.heap.size = r ∨ w3.heap.size + 1 = r := h
    omega
  · intro b hb
    have hb' : b = w3.heap.size ∨ b = r := hb
    exact .inr hb'
  · intro b hb
    rcases hb with e | e
    · exact .inl e
    · exact .inr e
  · intro h
    have h' : w.heap.size + 1 = r ∨ w.heap.size + 1 + 1 = r := h
    omega
/-- what read answers -/
def ReadT (w : World) (l : List UInt8) (e : Ending) (w' : World) : Prop := ∃ v, e = .returned (.tuple #[v, .bool (readOk l)]) ∧ InMs w' v (readM l) ∧ Below w.heap.size w w' ∧ ∀ q' t za, Blk w q' t za → za.all noStr = true → ∀ w'', Kp (· = q') w' w'' → InMs w'' v (readM l)
theorem Kp.drew2 {A : Nat → Prop} {a b : World} (h : Kp A a b) : Kp A a b.drew := h.drew
set_option maxRecDepth 100000 in
set_option maxHeartbeats 4000000 in
theorem read_any (w : World) (s : ByteArray) (hs : s.size ≤ 1152921504606846976) : Calls Try.prog 16 #[.string s] w (ReadT w s.data.toList) := by
  unfold ReadT
  obtain ⟨l, hl⟩ : ∃ l, l = s.data.toList := ⟨_, rfl⟩
  rw [← hl]
  obtain ⟨M, hM⟩ : ∃ M, readM l = M := ⟨_, rfl⟩
  obtain ⟨ob, hob⟩ : ∃ b, readOk l = b := ⟨_, rfl⟩
  rw [hM, hob]
  have HNR := Lib.hid (newReader2_any s ((w.alloc (.cells zeroA 33)).alloc (.cells zeroA 33)) hs)
  rw [← hl] at HNR
  have HM := Lib.hid hM
  have HOB := Lib.hid hob
  have HL := Lib.hid hl
  clear hM hob hl
  clear hs
  go_enter Try.func16, Try.ntmps16
  go_wp2_with fail
  refine HNR.out.mono ?_
  rintro e w3 ⟨r, rfl, hr, hrd, hb3⟩
  have hs2 : ((w.alloc (.cells zeroA 33)).alloc (.cells zeroA 33)).heap.size = w.heap.size + 1 + 1 := by simp
  rw [hs2] at hr hb3
  obtain ⟨h0, hq0⟩ := read_start hb3 hr hrd
  obtain ⟨q0, e0⟩ : ∃ q0 : Sf × Ms, q0 = (⟨.rd r (some l), false⟩, zeroM) := ⟨_, rfl⟩
  obtain ⟨q1, e1⟩ : ∃ q1, q1 = iK q0 := ⟨_, rfl⟩
  obtain ⟨q2, e2⟩ : ∃ q2, q2 = allF q1.1 q1.2 := ⟨_, rfl⟩
  have hX : rdF r l = q2 := by
    rw [e2]
    exact rdF_of (by rw [e1, e0])
  have hfin := readM_r hX
  rw [HM.out, HOB.out] at hfin
  have h0' : FS (w.alloc (.cells zeroA 33)) w3.heap.size (w.heap.size + 1) (fun b => b = w.heap.size + 1 ∨ b = w3.heap.size ∨ b = r) 0 q0.1 q0.2 (w3.alloc (.cells #[.pointer (some ⟨w.heap.size + 1, 0, none⟩), .string ByteArray.empty, .pointer (some ⟨r, 0, none⟩), .bool false] 68)) := by rw [e0]; exact h0
  have hsf : (w3.alloc (.cells #[.pointer (some ⟨w.heap.size + 1, 0, none⟩), .string ByteArray.empty, .pointer (some ⟨r, 0, none⟩), .bool false] 68)).heap.size = w3.heap.size + 1 := by simp
  have H1 := h0'.iK (by rw [e0]; exact in8_0) (by decide)
  rw [← e1, hsf] at H1
  replace H1 := Lib.hid H1
  have hal1 : Alike q0.1 q1.1 := by rw [e1]; exact iK_alike q0
  have hal2 : Alike q0.1 q2.1 := by rw [e2]; exact hal1.trans (allF_alike _ _)
  have hok : OkIn q1.1.m.isRd q1.2 := by
    have e : q1.1.m.isRd = true := by rw [hal1.2.2, e0]; rfl
    rw [e, e1]
    have e9 : (iK q0).2 = p_K zeroM (intF q0.1 q0.2.K).2 := by rw [show (iK q0).2 = p_K q0.2 (intF q0.1 q0.2.K).2 from rfl, e0]
    rw [e9]
    exact okIn_zero _
  have H2 := Lib.hid (fun w2 (h : FS (w.alloc (.cells zeroA 33)) w3.heap.size (w.heap.size + 1) (fun b => b = w.heap.size + 1 ∨ b = w3.heap.size ∨ b = r) (0 + 9) q1.1 q1.2 w2) => all_any h hok (by decide))
  rw [← e2] at H2
  have hwf : wfM q2.2 := by rw [← hfin.1, ← HM.out]; exact readM_wf l
  have hrd2 : q2.1.m.isRd = true := by rw [hal2.2.2, e0]; rfl
  obtain ⟨st, hst⟩ : ∃ st, q2.1.m = .rd r st := by
    have h5 := hal2.2.1
    rw [e0] at h5
    cases hm : q2.1.m with
    | lay s' => rw [hm] at hrd2; cases hrd2
    | rd r' st' =>
      rw [hm] at h5
      have h6 : (r' = r') = (r' = r) := congrFun h5 r'
      have h7 : r' = r := by rw [← h6]
      exact ⟨st', by rw [h7]⟩
  have hend : ob = (!q2.1.bad && endB st) := by
    rw [hfin.2, hst]
    rfl
  -- what becomes of it behind all
  have hQW : w.heap.size < (w.alloc (.cells zeroA 33)).heap.size := by simp
  have hqz : ∀ b, (b = w.heap.size + 1 ∨ b = w3.heap.size ∨ b = r) → ¬ b = w.heap.size := by
    have := hrd.lt
    intro b hb e
    omega
  have hqlt : w.heap.size < w3.heap.size := by have := hb3.size; rw [hs2] at this; omega
  have HAFT : Hid (∀ w9, FS (w.alloc (.cells zeroA 33)) w3.heap.size (w.heap.size + 1) (fun b => b = w.heap.size + 1 ∨ b = w3.heap.size ∨ b = r) (0 + 9 + 500000) q2.1 q2.2 w9 →
      Blk w9 w.heap.size 33 zeroA ∧ Blk w9 w3.heap.size 68 #[.pointer (some ⟨w.heap.size + 1, 0, none⟩), .string q2.1.m.out, .pointer (some ⟨r, 0, none⟩), .bool q2.1.bad] ∧ Rdr w9 r st ∧ Below w.heap.size w w9 ∧
      ∃ ma, Blk w9 (w.heap.size + 1) 33 ma ∧ (ma.all fun x => x.oneCell') = true ∧ ma.size = 26 ∧ ∀ q', (q' = w.heap.size ∨ ∃ t za, Blk w q' t za ∧ za.all noStr = true) → ∀ w', Kp (fun b => b = w.heap.size ∨ b = q') w9 w' → InMs w' (.agg ma) M) := Lib.hid fun w9 h9 => by
    have hqb : Blk w9 w.heap.size 33 zeroA := h9.kp.blk (Blk.new w _ _) (fun h => hqz _ h rfl)
    have h7 := h9.fd.1
    rw [show q2.1.m.inV = .pointer (some ⟨r, 0, none⟩) by rw [hst]; rfl] at h7
    have h8 := h9.fd.2.1
    rw [hst] at h8
    refine ⟨hqb, h7, h8, ?_, ?_⟩
    · refine (((Below.refl w.heap.size w).alloc (Nat.le_refl _) _)).trans (h9.kp.below (B := w.heap.size) (fun b hb => ?_) (by omega))
      rcases hb with e | e | e <;> omega
    · rw [hfin.1]
      obtain ⟨ma, g1, g2, g3, g4⟩ := h9.msg hrd2 hwf
      refine ⟨ma, g1, g2, g3, fun q' hq' w' hk => g4 _ (fun b hb => ?_) w' hk⟩
      have hzero : w.heap.size < (w.alloc (.cells zeroA 33)).heap.size ∧ ∃ t za, Blk w9 w.heap.size t za ∧ za.all noStr = true := ⟨hQW, _, _, hqb, zeroA_noStr⟩
      rcases hb with rfl | rfl
      · exact hzero
      · rcases hq' with rfl | ⟨t, za, hz1, hz2⟩
        · exact hzero
        · have hlt := hz1.lt
          refine ⟨by omega, t, za, h9.kp.blk (hz1.alloc _) (fun h => ?_), hz2⟩
          rcases h with e | e | e <;> omega
  have HEND : Hid (∀ w9 w2, Rdr w9 r st → Kp (· = w.heap.size) w9 w2 → Calls Try.prog 25 #[.pointer (some ⟨r, 0, none⟩)] w2 fun e w' => e = .returned (.bool (endB st)) ∧ w2 = w') := Lib.hid fun w9 w2 h1 h2 => end_any r st w2 (h1.kp h2 (fun b hb => by omega))
  have HNE : Hid (w3.heap.size ≠ w.heap.size) := Lib.hid (by omega)
  have HNM : Hid (w.heap.size + 1 ≠ w.heap.size) := Lib.hid (by omega)
  have c0 := h0'.slots
  have HFIN := Lib.hid hend
  clear hr hrd hb3 hs2 h0 hq0 hX h0' hsf hal1 hal2 hok hwf hrd2 hend hQW hqz hqlt hfin e0 e1 e2 hst HNR HM HOB HL
  go_wp2_with fail
  refine H1.out.mono ?_
  rintro e w4 ⟨rfl, h4⟩
  have d1 := h4.slots
  have G4 := Lib.hid h4
  clear h4 c0
  go_wp2_with fail
  refine (H2.out w4 G4.out).mono ?_
  rintro e w9 ⟨rfl, h9⟩
  obtain ⟨hq9, hf9, hr9, hb9, ma, hm9, hone, hsz9, hin9⟩ := HAFT.out w9 h9
  have HQ := Lib.hid hq9
  have HFB := Lib.hid hf9
  have HMB := Lib.hid hm9
  have HONE := Lib.hid hone
  have HMZ := Lib.hid hsz9
  have HIN := Lib.hid hin9
  have HB9 := Lib.hid hb9
  have HSZ : Hid ((Try.prog.info? 33).map (·.size) = some ma.toList.length) := Lib.hid (by rw [Array.length_toList, hsz9]; exact msg_size zeroM (.slice none 0 0) (.slice none 0 0) (.slice none 0 0))
  have HSZ2 : Hid ((Try.prog.info? 33).map (·.size) = some ma.size) := Lib.hid (by rw [hsz9]; exact msg_size zeroM (.slice none 0 0) (.slice none 0 0) (.slice none 0 0))
  replace HEND := Lib.hid (fun w2 h2 => HEND.out w9 w2 hr9 h2)
  clear d1 G4 h9 hq9 hf9 hr9 hb9 hm9 hone hsz9 hin9 HAFT H1 H2
  generalize q2.1.m.out = os at *
  generalize q2.1.bad = bd at *
  generalize endB st = eb at *
  cases bd with
  | false =>
    go_wp2_with fail
    refine wp_region_chain [16, 18] (kv [(16, .is (.bool eb)), (18, .is undef)]) (fun l w2 => match l with | [_, _] => Kp (· = w.heap.size) w9 w2 ∧ Blk w2 w.heap.size 33 ma | _ => Kp (· = w.heap.size) w9 w2 ∧ Blk w2 w.heap.size 33 zeroA) (by kernel_rfl) (by kernel_rfl) (by kernel_rfl) (kv_inh _) (⟨(Kp.refl _ _).drew, HQ.out.drew⟩) ?_
    intro ν hν
    have n16 : ν 16 = .bool eb := hν 16
    have n18 : ν 18 = undef := hν 18
    clear hν
    refine ch_plain 0 2 6 (by rfl) rfl (by kernel_rfl) (by kernel_rfl) ?_
    apply Exists.intro
    refine ⟨fun st w2 hlo hhi hJ => ?_, ?_⟩
    · clear hlo hhi hJ
      go_simp
      exact And.intro rfl rfl
    simp only [Act.put, List.setIfInBounds_toArray, List.set_cons_succ, List.set_cons_zero, Nat.reduceAdd]
    refine ch_plain 0 2 6 (by rfl) rfl (by kernel_rfl) (by kernel_rfl) ?_
    apply Exists.intro
    refine ⟨fun st w2 hlo hhi hJ => ?_, ?_⟩
    · clear hlo hhi hJ
      go_simp
      exact And.intro rfl rfl
    simp only [Act.put, List.setIfInBounds_toArray, List.set_cons_succ, List.set_cons_zero, Nat.reduceAdd]
    refine ch_plain 0 2 6 (by rfl) rfl (by kernel_rfl) (by kernel_rfl) ?_
    apply Exists.intro
    refine ⟨fun st w2 hlo hhi hJ => ?_, ?_⟩
    · clear hlo hhi hJ
      go_simp
      exact And.intro rfl rfl
    simp only [Act.put, List.setIfInBounds_toArray, List.set_cons_succ, List.set_cons_zero, Nat.reduceAdd]
    refine ch_plain 0 2 6 (by rfl) rfl (by kernel_rfl) (by kernel_rfl) ?_
    apply Exists.intro
    refine ⟨fun st w2 hlo hhi hJ => ?_, ?_⟩
    · have hj : Kp (· = w.heap.size) w9 w2 := by
        have q : st = 0 ∨ st = 1 ∨ st = 2 := by omega
        rcases q with rfl | rfl | rfl
        · exact (show Kp (· = w.heap.size) w9 w2 ∧ _ from hJ).1
        · exact (show Kp (· = w.heap.size) w9 w2 ∧ _ from hJ).1
        · exact (show Kp (· = w.heap.size) w9 w2 ∧ _ from hJ).1
      have y3 := (hj.blk HFB.out HNE.out).cell 0
      simp at y3
      clear hj
      clear hlo hhi hJ
      go_simp
      exact And.intro rfl rfl
    simp only [Act.put, List.setIfInBounds_toArray, List.set_cons_succ, List.set_cons_zero, Nat.reduceAdd]
    refine ch_plain 0 2 6 (by rfl) rfl (by kernel_rfl) (by kernel_rfl) ?_
    apply Exists.intro
    refine ⟨fun st w2 hlo hhi hJ => ?_, ?_⟩
    · clear hlo hhi hJ
      go_simp
      exact And.intro rfl rfl
    simp only [Act.put, List.setIfInBounds_toArray, List.set_cons_succ, List.set_cons_zero, Nat.reduceAdd]
    refine ch_plain 0 2 6 (by rfl) rfl (by kernel_rfl) (by kernel_rfl) ?_
    apply Exists.intro
    refine ⟨fun st w2 hlo hhi hJ => ?_, ?_⟩
    · have hj : Kp (· = w.heap.size) w9 w2 := by
        have q : st = 0 ∨ st = 1 ∨ st = 2 := by omega
        rcases q with rfl | rfl | rfl
        · exact (show Kp (· = w.heap.size) w9 w2 ∧ _ from hJ).1
        · exact (show Kp (· = w.heap.size) w9 w2 ∧ _ from hJ).1
        · exact (show Kp (· = w.heap.size) w9 w2 ∧ _ from hJ).1
      have hy := hj.blk HMB.out HNM.out
      have hyr := hy.rng
      clear hj hlo hhi hJ hy
      rw [exec_load_mid 33 _ rfl (w.heap.size + 1) 0 rfl ma.toList _ hyr Try.underlying33 rfl HSZ.out, Array.toArray_toList]
      exact And.intro rfl rfl
    simp only [Act.put, List.setIfInBounds_toArray, List.set_cons_succ, List.set_cons_zero, Nat.reduceAdd]
    refine ch_plain 0 2 6 (by rfl) rfl (by kernel_rfl) (by kernel_rfl) ?_
    apply Exists.intro
    refine ⟨fun st w2 hlo hhi hJ => ?_, ?_⟩
    · clear hlo hhi hJ
      go_simp
      exact And.intro rfl rfl
    simp only [Act.put, List.setIfInBounds_toArray, List.set_cons_succ, List.set_cons_zero, Nat.reduceAdd]
    refine ch_plain 0 2 6 (by rfl) rfl (by kernel_rfl) (by kernel_rfl) ?_
    apply Exists.intro
    refine ⟨fun st w2 hlo hhi hJ => ?_, ?_⟩
    · clear hlo hhi hJ
      go_simp
      exact And.intro rfl rfl
    simp only [Act.put, List.setIfInBounds_toArray, List.set_cons_succ, List.set_cons_zero, Nat.reduceAdd]
    refine ch_plain 0 2 6 (by rfl) rfl (by kernel_rfl) (by kernel_rfl) ?_
    apply Exists.intro
    refine ⟨fun st w2 hlo hhi hJ => ?_, ?_⟩
    · clear hlo hhi hJ
      go_simp
      exact And.intro rfl rfl
    simp only [Act.put, List.setIfInBounds_toArray, List.set_cons_succ, List.set_cons_zero, Nat.reduceAdd]
    refine ch_plain 0 2 6 (by rfl) rfl (by kernel_rfl) (by kernel_rfl) ?_
    apply Exists.intro
    refine ⟨fun st w2 hlo hhi hJ => ?_, ?_⟩
    · have hj : Kp (· = w.heap.size) w9 w2 := by
        have q : st = 0 ∨ st = 1 ∨ st = 2 := by omega
        rcases q with rfl | rfl | rfl
        · exact (show Kp (· = w.heap.size) w9 w2 ∧ _ from hJ).1
        · exact (show Kp (· = w.heap.size) w9 w2 ∧ _ from hJ).1
        · exact (show Kp (· = w.heap.size) w9 w2 ∧ _ from hJ).1
      have y9 := (hj.blk HFB.out HNE.out).cell 3
      simp at y9
      clear hj
      clear hlo hhi hJ
      go_simp
      exact And.intro rfl rfl
    simp only [Act.put, List.setIfInBounds_toArray, List.set_cons_succ, List.set_cons_zero, Nat.reduceAdd]
    refine ch_plain 0 2 6 (by rfl) rfl (by kernel_rfl) (by kernel_rfl) ?_
    apply Exists.intro
    refine ⟨fun st w2 hlo hhi hJ => ?_, ?_⟩
    · clear hlo hhi hJ
      go_simp
      exact And.intro rfl rfl
    simp only [Act.put, List.setIfInBounds_toArray, List.set_cons_succ, List.set_cons_zero, Nat.reduceAdd]
    refine ch_plain 0 2 6 (by rfl) rfl (by kernel_rfl) (by kernel_rfl) ?_
    apply Exists.intro
    refine ⟨fun st w2 hlo hhi hJ => ?_, ?_⟩
    · clear hlo hhi hJ
      go_simp
      exact And.intro rfl rfl
    simp only [Act.put, List.setIfInBounds_toArray, List.set_cons_succ, List.set_cons_zero, Nat.reduceAdd]
    refine ch_plain 0 2 6 (by rfl) rfl (by kernel_rfl) (by kernel_rfl) ?_
    apply Exists.intro
    refine ⟨fun st w2 hlo hhi hJ => ?_, ?_⟩
    · clear hlo hhi hJ
      go_simp
      exact And.intro rfl rfl
    simp only [Act.put, List.setIfInBounds_toArray, List.set_cons_succ, List.set_cons_zero, Nat.reduceAdd]
    refine ch_plain 0 2 6 (by rfl) rfl (by kernel_rfl) (by kernel_rfl) ?_
    apply Exists.intro
    refine ⟨fun st w2 hlo hhi hJ => ?_, ?_⟩
    · clear hlo hhi hJ
      go_simp
      exact And.intro rfl rfl
    simp only [Act.put, List.setIfInBounds_toArray, List.set_cons_succ, List.set_cons_zero, Nat.reduceAdd]
    refine ch_plain 0 2 6 (by rfl) rfl (by kernel_rfl) (by kernel_rfl) ?_
    apply Exists.intro
    refine ⟨fun st w2 hlo hhi hJ => ?_, ?_⟩
    · clear hlo hhi hJ
      go_simp
      exact And.intro rfl rfl
    simp only [Act.put, List.setIfInBounds_toArray, List.set_cons_succ, List.set_cons_zero, Nat.reduceAdd]
    refine ch_plain 0 2 6 (by rfl) rfl (by kernel_rfl) (by kernel_rfl) ?_
    apply Exists.intro
    refine ⟨fun st w2 hlo hhi hJ => ?_, ?_⟩
    · have hj : Kp (· = w.heap.size) w9 w2 := by
        have q : st = 0 ∨ st = 1 ∨ st = 2 := by omega
        rcases q with rfl | rfl | rfl
        · exact (show Kp (· = w.heap.size) w9 w2 ∧ _ from hJ).1
        · exact (show Kp (· = w.heap.size) w9 w2 ∧ _ from hJ).1
        · exact (show Kp (· = w.heap.size) w9 w2 ∧ _ from hJ).1
      have y15 := (hj.blk HFB.out HNE.out).cell 2
      simp at y15
      clear hj
      clear hlo hhi hJ
      go_simp
      exact And.intro rfl rfl
    simp only [Act.put, List.setIfInBounds_toArray, List.set_cons_succ, List.set_cons_zero, Nat.reduceAdd]
    refine ch_special 0 6 (by rfl) rfl (by decide) (by kernel_rfl) (fun w2 hJ => ?_) ?_
    · have hj : Kp (· = w.heap.size) w9 w2 ∧ Blk w2 w.heap.size 33 zeroA := hJ
      go_simp
      refine (HEND.out w2 hj.1).mono ?_
      rintro e w3 ⟨rfl, rfl⟩
      exact ⟨_, rfl, rfl, hj⟩
    rw [n16]
    simp only [Act.put, List.setIfInBounds_toArray, List.set_cons_succ, List.set_cons_zero, Nat.reduceAdd]
    refine ch_plain 0 2 6 (by rfl) rfl (by kernel_rfl) (by kernel_rfl) ?_
    apply Exists.intro
    refine ⟨fun st w2 hlo hhi hJ => ?_, ?_⟩
    · clear hlo hhi hJ
      go_simp
      exact And.intro rfl rfl
    simp only [Act.put, List.setIfInBounds_toArray, List.set_cons_succ, List.set_cons_zero, Nat.reduceAdd]
    refine ch_special 1 6 (by rfl) rfl (by decide) (by kernel_rfl) (fun w2 hJ => ?_) ?_
    · have hj : Kp (· = w.heap.size) w9 w2 ∧ Blk w2 w.heap.size 33 zeroA := hJ
      have hth := hj.2.there (o := 0) (n := ma.size) (by rw [HMZ.out]; decide)
      clear hJ
      rw [exec_store_mid 33 (.tmp 2) (.tmp 27) rfl w.heap.size 0 ma rfl rfl hth HSZ2.out HONE.out]
      have hbk := blk_setCells ma.toList 0 w2 _ hj.2
      rw [setMany_whole (by rw [HMZ.out]; rfl)] at hbk
      exact ⟨rfl, hj.1.trans (kp_setCells _ _ _ _), hbk⟩
    simp only [Act.put, Nat.reduceAdd]
    refine ch_plain 0 2 6 (by rfl) rfl (by kernel_rfl) (by kernel_rfl) ?_
    apply Exists.intro
    refine ⟨fun st w2 hlo hhi hJ => ?_, ?_⟩
    · clear hlo hhi hJ
      go_simp
      exact And.intro rfl rfl
    simp only [Act.put, Nat.reduceAdd]
    refine ch_nil (fun w5 hJ => ?_)
    have hJ5 : Kp (· = w.heap.size) w9 w5 ∧ Blk w5 w.heap.size 33 ma := hJ
    have HJ5 := Lib.hid hJ5
    clear hJ hJ5 n18 n16
    go_wp2
    refine bodyPost_ret (results_cell2 (ty := 33) (g := w.heap.size) (k := 2) (m := 3) rfl rfl rfl HJ5.out.2 Try.underlying33 rfl HSZ2.out) rfl ?_
    refine ⟨_, ?_, HIN.out _ (.inl rfl) w5 (HJ5.out.1.mono fun b e => .inl e), HB9.out.trans (HJ5.out.1.below (fun b e => Nat.le_of_eq e.symm) HB9.out.size), fun q' t za h1 h2 w'' hk => HIN.out q' (.inr ⟨t, za, h1, h2⟩) w'' ((HJ5.out.1.mono fun b e => .inl e).trans (hk.mono fun b e => .inr e))⟩
    rw [HFIN.out]
    rfl
  | true =>
    go_wp2_with fail
    refine wp_region_chain [18] (kv [(18, .is undef)]) (fun l w2 => match l with | [_] => Kp (· = w.heap.size) w9 w2 ∧ Blk w2 w.heap.size 33 ma | _ => Kp (· = w.heap.size) w9 w2 ∧ Blk w2 w.heap.size 33 zeroA) (by kernel_rfl) (by kernel_rfl) (by kernel_rfl) (kv_inh _) (⟨(Kp.refl _ _).drew, HQ.out.drew⟩) ?_
    intro ν hν
    have n18 : ν 18 = undef := hν 18
    clear hν
    refine ch_plain 0 1 6 (by rfl) rfl (by kernel_rfl) (by kernel_rfl) ?_
    apply Exists.intro
    refine ⟨fun st w2 hlo hhi hJ => ?_, ?_⟩
    · clear hlo hhi hJ
      go_simp
      exact And.intro rfl rfl
    simp only [Act.put, List.setIfInBounds_toArray, List.set_cons_succ, List.set_cons_zero, Nat.reduceAdd]
    refine ch_plain 0 1 6 (by rfl) rfl (by kernel_rfl) (by kernel_rfl) ?_
    apply Exists.intro
    refine ⟨fun st w2 hlo hhi hJ => ?_, ?_⟩
    · clear hlo hhi hJ
      go_simp
      exact And.intro rfl rfl
    simp only [Act.put, List.setIfInBounds_toArray, List.set_cons_succ, List.set_cons_zero, Nat.reduceAdd]
    refine ch_plain 0 1 6 (by rfl) rfl (by kernel_rfl) (by kernel_rfl) ?_
    apply Exists.intro
    refine ⟨fun st w2 hlo hhi hJ => ?_, ?_⟩
    · clear hlo hhi hJ
      go_simp
      exact And.intro rfl rfl
    simp only [Act.put, List.setIfInBounds_toArray, List.set_cons_succ, List.set_cons_zero, Nat.reduceAdd]
    refine ch_plain 0 1 6 (by rfl) rfl (by kernel_rfl) (by kernel_rfl) ?_
    apply Exists.intro
    refine ⟨fun st w2 hlo hhi hJ => ?_, ?_⟩
    · have hj : Kp (· = w.heap.size) w9 w2 := by
        have q : st = 0 ∨ st = 1 := by omega
        rcases q with rfl | rfl
        · exact (show Kp (· = w.heap.size) w9 w2 ∧ _ from hJ).1
        · exact (show Kp (· = w.heap.size) w9 w2 ∧ _ from hJ).1
      have y3 := (hj.blk HFB.out HNE.out).cell 0
      simp at y3
      clear hj
      clear hlo hhi hJ
      go_simp
      exact And.intro rfl rfl
    simp only [Act.put, List.setIfInBounds_toArray, List.set_cons_succ, List.set_cons_zero, Nat.reduceAdd]
    refine ch_plain 0 1 6 (by rfl) rfl (by kernel_rfl) (by kernel_rfl) ?_
    apply Exists.intro
    refine ⟨fun st w2 hlo hhi hJ => ?_, ?_⟩
    · clear hlo hhi hJ
      go_simp
      exact And.intro rfl rfl
    simp only [Act.put, List.setIfInBounds_toArray, List.set_cons_succ, List.set_cons_zero, Nat.reduceAdd]
    refine ch_plain 0 1 6 (by rfl) rfl (by kernel_rfl) (by kernel_rfl) ?_
    apply Exists.intro
    refine ⟨fun st w2 hlo hhi hJ => ?_, ?_⟩
    · have hj : Kp (· = w.heap.size) w9 w2 := by
        have q : st = 0 ∨ st = 1 := by omega
        rcases q with rfl | rfl
        · exact (show Kp (· = w.heap.size) w9 w2 ∧ _ from hJ).1
        · exact (show Kp (· = w.heap.size) w9 w2 ∧ _ from hJ).1
      have hy := hj.blk HMB.out HNM.out
      have hyr := hy.rng
      clear hj hlo hhi hJ hy
      rw [exec_load_mid 33 _ rfl (w.heap.size + 1) 0 rfl ma.toList _ hyr Try.underlying33 rfl HSZ.out, Array.toArray_toList]
      exact And.intro rfl rfl
    simp only [Act.put, List.setIfInBounds_toArray, List.set_cons_succ, List.set_cons_zero, Nat.reduceAdd]
    refine ch_plain 0 1 6 (by rfl) rfl (by kernel_rfl) (by kernel_rfl) ?_
    apply Exists.intro
    refine ⟨fun st w2 hlo hhi hJ => ?_, ?_⟩
    · clear hlo hhi hJ
      go_simp
      exact And.intro rfl rfl
    simp only [Act.put, List.setIfInBounds_toArray, List.set_cons_succ, List.set_cons_zero, Nat.reduceAdd]
    refine ch_plain 0 1 6 (by rfl) rfl (by kernel_rfl) (by kernel_rfl) ?_
    apply Exists.intro
    refine ⟨fun st w2 hlo hhi hJ => ?_, ?_⟩
    · clear hlo hhi hJ
      go_simp
      exact And.intro rfl rfl
    simp only [Act.put, List.setIfInBounds_toArray, List.set_cons_succ, List.set_cons_zero, Nat.reduceAdd]
    refine ch_plain 0 1 6 (by rfl) rfl (by kernel_rfl) (by kernel_rfl) ?_
    apply Exists.intro
    refine ⟨fun st w2 hlo hhi hJ => ?_, ?_⟩
    · clear hlo hhi hJ
      go_simp
      exact And.intro rfl rfl
    simp only [Act.put, List.setIfInBounds_toArray, List.set_cons_succ, List.set_cons_zero, Nat.reduceAdd]
    refine ch_plain 0 1 6 (by rfl) rfl (by kernel_rfl) (by kernel_rfl) ?_
    apply Exists.intro
    refine ⟨fun st w2 hlo hhi hJ => ?_, ?_⟩
    · have hj : Kp (· = w.heap.size) w9 w2 := by
        have q : st = 0 ∨ st = 1 := by omega
        rcases q with rfl | rfl
        · exact (show Kp (· = w.heap.size) w9 w2 ∧ _ from hJ).1
        · exact (show Kp (· = w.heap.size) w9 w2 ∧ _ from hJ).1
      have y9 := (hj.blk HFB.out HNE.out).cell 3
      simp at y9
      clear hj
      clear hlo hhi hJ
      go_simp
      exact And.intro rfl rfl
    simp only [Act.put, List.setIfInBounds_toArray, List.set_cons_succ, List.set_cons_zero, Nat.reduceAdd]
    refine ch_plain 0 1 6 (by rfl) rfl (by kernel_rfl) (by kernel_rfl) ?_
    apply Exists.intro
    refine ⟨fun st w2 hlo hhi hJ => ?_, ?_⟩
    · clear hlo hhi hJ
      go_simp
      exact And.intro rfl rfl
    simp only [Act.put, List.setIfInBounds_toArray, List.set_cons_succ, List.set_cons_zero, Nat.reduceAdd]
    refine ch_plain 0 1 6 (by rfl) rfl (by kernel_rfl) (by kernel_rfl) ?_
    apply Exists.intro
    refine ⟨fun st w2 hlo hhi hJ => ?_, ?_⟩
    · clear hlo hhi hJ
      go_simp
      exact And.intro rfl rfl
    simp only [Act.put, List.setIfInBounds_toArray, List.set_cons_succ, List.set_cons_zero, Nat.reduceAdd]
    refine ch_skip (by rfl) (by rfl) ?_
    simp only [Act.put, List.setIfInBounds_toArray, List.set_cons_succ, List.set_cons_zero, Nat.reduceAdd]
    refine ch_skip (by rfl) (by rfl) ?_
    simp only [Act.put, List.setIfInBounds_toArray, List.set_cons_succ, List.set_cons_zero, Nat.reduceAdd]
    refine ch_skip (by rfl) (by rfl) ?_
    simp only [Act.put, List.setIfInBounds_toArray, List.set_cons_succ, List.set_cons_zero, Nat.reduceAdd]
    refine ch_skip (by rfl) (by rfl) ?_
    simp only [Act.put, List.setIfInBounds_toArray, List.set_cons_succ, List.set_cons_zero, Nat.reduceAdd]
    refine ch_skip (by rfl) (by rfl) ?_
    simp only [Act.put, List.setIfInBounds_toArray, List.set_cons_succ, List.set_cons_zero, Nat.reduceAdd]
    refine ch_plain 0 1 6 (by rfl) rfl (by kernel_rfl) (by kernel_rfl) ?_
    apply Exists.intro
    refine ⟨fun st w2 hlo hhi hJ => ?_, ?_⟩
    · clear hlo hhi hJ
      go_simp
      exact And.intro rfl rfl
    simp only [Act.put, List.setIfInBounds_toArray, List.set_cons_succ, List.set_cons_zero, Nat.reduceAdd]
    refine ch_special 0 6 (by rfl) rfl (by decide) (by kernel_rfl) (fun w2 hJ => ?_) ?_
    · have hj : Kp (· = w.heap.size) w9 w2 ∧ Blk w2 w.heap.size 33 zeroA := hJ
      have hth := hj.2.there (o := 0) (n := ma.size) (by rw [HMZ.out]; decide)
      clear hJ
      rw [exec_store_mid 33 (.tmp 2) (.tmp 27) rfl w.heap.size 0 ma rfl rfl hth HSZ2.out HONE.out]
      have hbk := blk_setCells ma.toList 0 w2 _ hj.2
      rw [setMany_whole (by rw [HMZ.out]; rfl)] at hbk
      exact ⟨rfl, hj.1.trans (kp_setCells _ _ _ _), hbk⟩
    simp only [Act.put, Nat.reduceAdd]
    refine ch_plain 0 1 6 (by rfl) rfl (by kernel_rfl) (by kernel_rfl) ?_
    apply Exists.intro
    refine ⟨fun st w2 hlo hhi hJ => ?_, ?_⟩
    · clear hlo hhi hJ
      go_simp
      exact And.intro rfl rfl
    simp only [Act.put, Nat.reduceAdd]
    refine ch_nil (fun w5 hJ => ?_)
    have hJ5 : Kp (· = w.heap.size) w9 w5 ∧ Blk w5 w.heap.size 33 ma := hJ
    have HJ5 := Lib.hid hJ5
    clear hJ hJ5 n18
    go_wp2
    refine bodyPost_ret (results_cell2 (ty := 33) (g := w.heap.size) (k := 2) (m := 3) rfl rfl rfl HJ5.out.2 Try.underlying33 rfl HSZ2.out) rfl ?_
    refine ⟨_, ?_, HIN.out _ (.inl rfl) w5 (HJ5.out.1.mono fun b e => .inl e), HB9.out.trans (HJ5.out.1.below (fun b e => Nat.le_of_eq e.symm) HB9.out.size), fun q' t za h1 h2 w'' hk => HIN.out q' (.inr ⟨t, za, h1, h2⟩) w'' ((HJ5.out.1.mono fun b e => .inl e).trans (hk.mono fun b e => .inr e))⟩
    rw [HFIN.out]
    rfl
end Go.Proofs.Ytikimmhkfjaijaa
