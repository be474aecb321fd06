/-
  META: rows of one's own (ints, snapshots), tables of one's own; what is read, plainly (printed by wip/gen-meto.py).
-/
import Derived.Test.YtimgecflcackbaaMetN
namespace Go.Proofs.Ytimgecflcackbaa
open Go.RowKit Reg Go.ChangeShapes

section
variable {A : Nat → Prop} {w w' : World} {base m n g : Nat} {e e' : TypeId} {v v' : Value} {xs : List Value}
theorem own_cells (ho : w.ownsRow base e m v n xs) (hg : v.ownBlock = some g) : ∃ cs, w.heap[g]? = some (.cells cs e (0, 0)) := by
  rcases ho.2 with ⟨rfl, _⟩ | ⟨g', cap, cur, rfl, hb, hh, _⟩
  · cases hg
  · have : g' = g := by simpa [Value.ownBlock] using hg
    subst this
    exact ⟨cur, hh⟩
theorem own_in (ho : w.ownsRow base e m v n xs) (hg : v.ownBlock = some g) : g < w.heap.size := by
  obtain ⟨cs, hc⟩ := own_cells ho hg
  exact lt_of_block hc
theorem own_kp (h : Kp A w w') (ho : w.ownsRow base e m v n xs) (hA : ∀ g, v.ownBlock = some g → ¬ A g) : w'.ownsRow base e m v n xs := by
  refine ⟨ho.1, ?_⟩
  rcases ho.2 with hn | ⟨g', cap, cur, rfl, hb, hh, rest⟩
  · exact .inl hn
  · exact .inr ⟨g', cap, cur, rfl, hb, (h.2 g' (lt_of_block hh) (hA g' rfl)).trans hh, rest⟩
theorem own_apart {n' m' base' : Nat} {xs' : List Value} (ho : w.ownsRow base e m v n xs) (ho' : w.ownsRow base' e' m' v' n' xs') (he : e ≠ e') (hg : v.ownBlock = some g) : v'.ownBlock ≠ some g := by
  intro hg'
  obtain ⟨cs, h1⟩ := own_cells ho hg
  obtain ⟨cs', h2⟩ := own_cells ho' hg'
  rw [h1] at h2
  simp only [Option.some.injEq, Obj.cells.injEq] at h2
  exact he h2.2.1
end
section
variable {base q g m n : Nat} {w : World} {t t' : TypeId} {v : Value} {xs : List Value} {cs : Array Value}
theorem own_ne (ho : w.ownsRow base t m v n xs) (hb : Blk w q t' cs) (he : t ≠ t') (hg : v.ownBlock = some g) : g ≠ q := by
  rintro rfl
  obtain ⟨cs', h1⟩ := own_cells ho hg
  unfold Blk at hb
  rw [h1] at hb
  simp only [Option.some.injEq, Obj.cells.injEq] at hb
  exact he hb.2.1
end
theorem own_slice {w : World} {base m n : Nat} {t : TypeId} {v : Value} {xs : List Value} (h : w.ownsRow base t m v n xs) : ∃ a c, v = .slice a n c := by
  rcases h.2 with ⟨rfl, rfl⟩ | ⟨g, cap, cur, rfl, _⟩
  · exact ⟨none, 0, rfl⟩
  · exact ⟨_, cap, rfl⟩

theorem Kp.of_row {w w' : World} {r : Nat} (h : w.grownBy w' (some r)) : Kp (· = r) w w' := ⟨⟨h.os, h.tape, h.output, h.size, fun i hi => by omega⟩, fun b hlt hn => h.block b hlt (fun e => hn (Option.some.inj e))⟩
theorem Kp.ext_new {A A2 : Nat → Prop} {w w' w'' : World} (h : Kp A w w') (h2 : Kp A2 w' w'') (hA : ∀ b, A2 b → A b ∨ w.heap.size ≤ b) : Kp A w w'' :=
  ⟨h.1.trans h2.1, fun b hb hn => (h2.2 b (Nat.lt_of_lt_of_le hb h.size) (fun h2 => (hA b h2).elim hn (fun q => by omega))).trans (h.2 b hb hn)⟩
theorem OwI.kp {A : Nat → Prop} {w w' : World} {base : Nat} {v : Value} {zs : List Int} (ho : OwI w base v zs) (h : Kp A w w') (hA : ∀ g, v.ownBlock = some g → ¬ A g) : OwI w' base v zs := ⟨own_kp h ho.1 hA, ho.2⟩
theorem own_from {w : World} {base m n g : Nat} {t : TypeId} {v : Value} {xs : List Value} (h : w.ownsRow base t m v n xs) (hg : v.ownBlock = some g) : base ≤ g := by
  rcases h.2 with ⟨rfl, _⟩ | ⟨g', cap, cur, rfl, hb, _⟩
  · cases hg
  · have : g' = g := by simpa [Value.ownBlock] using hg
    omega
theorem OwI.slice_ {w : World} {base : Nat} {v : Value} {zs : List Int} (h : OwI w base v zs) : ∃ a c, v = .slice a zs.length c := own_slice h.1

/-- a snapshot and where its image lies -/
structure Se where
  g : Gd
  zs : List Int
  h : Bool
  a : Option Addr
  c : Nat
abbrev Se.iv (e : Se) : Value := .slice e.a e.zs.length e.c
def Se.sn (e : Se) : Sn := ⟨e.g, e.zs, e.h⟩
def Se.cells (e : Se) : Array Value := #[.int .u64 e.g.1, .int .u64 e.g.2, e.iv, .bool e.h]
def se0 : Se := ⟨(0, 0), [], false, none, 0⟩
def cellsE (es : List Se) : List Value := es.flatMap fun e => e.cells.toList
theorem cellsE_snoc (es : List Se) (e : Se) : cellsE (es ++ [e]) = cellsE es ++ e.cells.toList := by simp [cellsE]
theorem cellsE_at : ∀ (es : List Se) (j i : Nat), j < es.length → i < 4 → (cellsE es)[j * 4 + i]? = (es.getD j se0).cells[i]?
  | [], _, _, hj, _ => by simp at hj
  | e :: es, 0, i, _, hi => by
    show (e.cells.toList ++ cellsE es)[0 * 4 + i]? = _
    rw [Nat.zero_mul, Nat.zero_add, List.getElem?_append_left (by show i < 4; exact hi)]
    simp
  | e :: es, j + 1, i, hj, hi => by
    show (e.cells.toList ++ cellsE es)[(j + 1) * 4 + i]? = _
    rw [List.getElem?_append_right (by show 4 ≤ _; omega)]
    have := cellsE_at es j i (by simpa using hj) hi
    have e4 : (j + 1) * 4 + i - e.cells.toList.length = j * 4 + i := by show (j + 1) * 4 + i - 4 = _; omega
    rw [e4, this]
    simp
/-- v owns the row es of snapshots -/
def OwE (w : World) (base : Nat) (v : Value) (es : List Se) : Prop := w.ownsRow base 48 4 v es.length (cellsE es)
theorem snap_info : (Try.prog.info? 48).map (fun i => (i.zero, i.size, i.bytes)) = some (some (.agg #[.int .u64 0, .int .u64 0, .slice none 0 0, .bool false]), 4, 48) := by kernel_rfl
theorem OwE.nil_ (w : World) (base : Nat) : OwE w base (.slice none 0 0) [] := World.ownsRow_nil _ _ _ _
theorem se_one (e : Se) : ∀ u ∈ e.cells.toList, u.oneCell' = true := by
  intro u hu
  simp only [Se.cells, List.mem_cons, List.not_mem_nil, or_false] at hu
  rcases hu with rfl | rfl | rfl | rfl <;> rfl
section
variable {w w' : World} {base : Nat} {v u : Value} {es : List Se} {e : Se}
/-- append, of one snapshot -/
theorem app_se (ty : TypeId) (ho : OwE w base v es) (hu : ∃ g, u = .slice (some ⟨g, 0, none⟩) 1 1 ∧ Blk w g 48 e.cells) (hn : es.length + 1 ≤ 2 ^ 30) (hbase : base ≤ w.heap.size) :
    ∃ v' w', (Builtin.append_ #[23, 23] ty #[v, u]).run Try.prog w = .ok v' w' ∧ OwE w' base v' (es ++ [e]) ∧ w.grownBy w' v.ownBlock := by
  obtain ⟨i, hi, hz0, hz1, hz2⟩ := info_parts snap_info
  obtain ⟨g, rfl, hb⟩ := hu
  have hu : w.ownsRow 0 48 4 (.slice (some ⟨g, 0, none⟩) 1 1) 1 e.cells.toList := ⟨rfl, .inr ⟨g, 1, e.cells, rfl, Nat.zero_le _, hb, Nat.le_refl _, by unfold maxLen; omega, rfl, rfl⟩⟩
  obtain ⟨v', w', h1, h2⟩ := app_own _ base 23 ty 48 i (.agg #[.int .u64 0, .int .u64 0, .slice none 0 0, .bool false]) 4 48 Try.underlying23 hi hz0 hz1 hz2 rfl (by decide) ho (Rd.of_own hu) (se_one e) (by unfold maxLen; omega) (by omega) hbase
  refine ⟨v', w', h1, ?_, h2.2.1⟩
  unfold OwE
  rw [cellsE_snoc, List.length_append]
  exact h2.1
end
def EO (w : World) (base : Nat) (e : Se) : Prop := OwI w base e.iv e.zs
/-- v owns the snapshots l -/
structure OwSn (w : World) (base : Nat) (v : Value) (l : List Sn) : Prop where
  len : l.length ≤ 1000
  wf : ∀ s ∈ l, wfG s.guid
  row : ∃ es, OwE w base v es ∧ (∀ e ∈ es, EO w base e) ∧ es.map Se.sn = l
section
variable {A : Nat → Prop} {w w' : World} {base base' : Nat} {v : Value} {l : List Sn}
theorem EO.kp_row {e : Se} {es : List Se} (h : EO w base e) (ho : OwE w base' v es) (hk : Kp (fun b => v.ownBlock = some b) w w') : EO w' base e :=
  OwI.kp h hk fun _ hg e => own_apart h.1 ho (by decide) hg e
theorem own_mono {m n : Nat} {t : TypeId} {xs : List Value} (h : w.ownsRow base t m v n xs) (hb : base' ≤ base) : w.ownsRow base' t m v n xs := by
  refine ⟨h.1, ?_⟩
  rcases h.2 with hn | ⟨g, cap, cur, rfl, hg, rest⟩
  · exact .inl hn
  · exact .inr ⟨g, cap, cur, rfl, Nat.le_trans hb hg, rest⟩
theorem OwSn.nil_ (w : World) (base : Nat) : OwSn w base (.slice none 0 0) [] := ⟨by simp, by simp, [], OwE.nil_ _ _, by simp, rfl⟩
theorem OwSn.mono (h : OwSn w base v l) (hb : base' ≤ base) : OwSn w base' v l := by
  obtain ⟨es, h1, h2, h3⟩ := h.row
  exact ⟨h.len, h.wf, es, own_mono h1 hb, fun e he => OwI.mono (h2 e he) hb, h3⟩
theorem OwSn.kp (h : OwSn w base v l) (hk : Kp A w w') (hA : ∀ b, base ≤ b → ¬ A b) : OwSn w' base v l := by
  obtain ⟨es, h1, h2, h3⟩ := h.row
  exact ⟨h.len, h.wf, es, own_kp hk h1 fun g hg => hA g (own_from h1 hg), fun e he => OwI.kp (h2 e he) hk fun g hg => hA g (own_from (h2 e he).1 hg), h3⟩
theorem OwSn.keep (h : OwSn w base v l) (hb : Below w.heap.size w w') : OwSn w' base v l := h.kp (A := fun _ => False) (Kp.of_below hb) fun _ _ h => h
theorem OwSn.slice_ (h : OwSn w base v l) : ∃ a c, v = .slice a l.length c := by
  obtain ⟨es, h1, -, rfl⟩ := h.row
  rw [List.length_map]
  exact own_slice h1
theorem OwSn.ins (h : OwSn w base v l) : InS w v l := by
  have hwf := h.wf
  have hlen := h.len
  obtain ⟨es, h1, h2, rfl⟩ := h.row
  rw [List.length_map] at hlen
  rcases h1.2 with ⟨rfl, h0⟩ | ⟨g, cap, cur, rfl, hg, hh, hc, rest⟩
  · rw [List.length_eq_zero_iff.1 h0]
    exact InS.nil_ _ _ _
  · refine ⟨_, cap, by rw [List.length_map], by rw [List.length_map]; unfold maxLen; omega, fun j hj => ?_⟩
    rw [List.length_map] at hj
    have hcell : ∀ i, i < 4 → w.cell? ⟨g, j * 4 + i, none⟩ = (es.getD j se0).cells[i]? := fun i hi => by
      rw [← cellsE_at es j i hj hi]
      exact h1.cellAt (j * 4 + i) (by omega)
    have hm : es.getD j se0 ∈ es := by
      have : es.getD j se0 = es[j] := by simp [hj]
      rw [this]
      exact List.getElem_mem hj
    have hs : (es.map Se.sn).getD j snap0 = (es.getD j se0).sn := by simp [hj]
    rw [hs]
    have ho := h2 _ hm
    have hw := hwf (es.getD j se0).sn (List.mem_map.2 ⟨_, hm, rfl⟩)
    have c0 := hcell 0 (by omega)
    refine ⟨g, 0, (es.getD j se0).iv, rfl, ?_, ?_, ?_, ho.rd, ?_, hw⟩
    · rw [Nat.zero_add]; exact c0
    · rw [Nat.zero_add]; exact hcell 1 (by omega)
    · rw [Nat.zero_add]; exact hcell 2 (by omega)
    · rw [Nat.zero_add]; exact hcell 3 (by omega)
end
/-- v is a table whose memory is its own -/
def OwMt (w : World) (base : Nat) (v : Value) (m : Mt) : Prop :=
  ∃ lv sv iv, v = mtV m lv sv iv ∧ OwI w base lv m.live ∧ OwSn w base sv m.snaps ∧ OwI w base iv m.token.image ∧ wfTk m.token
section
variable {A : Nat → Prop} {w w' : World} {base base' : Nat} {v : Value} {m : Mt}
theorem OwMt.inm (h : OwMt w base v m) : InMt w v m := by
  obtain ⟨lv, sv, iv, h1, h2, h3, h4, h5⟩ := h
  exact ⟨lv, sv, iv, h1, h2.rd, h3.ins, h4.rd, h5⟩
theorem OwMt.mono (h : OwMt w base v m) (hb : base' ≤ base) : OwMt w base' v m := by
  obtain ⟨lv, sv, iv, h1, h2, h3, h4, h5⟩ := h
  exact ⟨lv, sv, iv, h1, h2.mono hb, h3.mono hb, h4.mono hb, h5⟩
theorem OwMt.kp (h : OwMt w base v m) (hk : Kp A w w') (hA : ∀ b, base ≤ b → ¬ A b) : OwMt w' base v m := by
  obtain ⟨lv, sv, iv, h1, h2, h3, h4, h5⟩ := h
  exact ⟨lv, sv, iv, h1, h2.kp hk fun g hg => hA g (own_from h2.1 hg), h3.kp hk hA, h4.kp hk fun g hg => hA g (own_from h4.1 hg), h5⟩
end
def zeroT : Tk := ⟨(0, 0), (0, 0), 0, 0, []⟩
def zeroM : Mt := ⟨[], [], zeroT⟩
theorem zeroT_wf : wfTk zeroT := ⟨⟨rfl, rfl⟩, ⟨rfl, rfl⟩, rfl, rfl⟩

/-! ### what is read, plainly: N i is the i-th number -/
def nx (st : Wire.St) : Wire.St := (Wire.num st).2
def nSt (st : Wire.St) : Nat → Wire.St
  | 0 => st
  | k + 1 => nx (nSt st k)
def nAt (st : Wire.St) (k : Nat) : Nat := (Wire.num (nSt st k)).1
theorem num_lt (st : Wire.St) : (Wire.num st).1 < 256 ^ 8 := by
  unfold Wire.num
  split
  · decide
  · decide
  · rename_i k r
    split
    · decide
    · rename_i h
      exact Nat.lt_of_lt_of_le (Wire.be_lt _) (Nat.pow_le_pow_right (by omega) (by rw [List.length_take]; omega))
structure Rds (SS : Nat → Wire.St) (N : Nat → Nat) : Prop where
  num : ∀ k, (Wire.num (SS k)).1 = N k
  next : ∀ k, (Wire.num (SS k)).2 = SS (k + 1)
  lt : ∀ k, N k < 18446744073709551616
theorem Rds.of (st : Wire.St) : Rds (nSt st) (nAt st) := ⟨fun _ => rfl, fun _ => rfl, fun k => by
  have := num_lt (nSt st k)
  have e : (256 : Nat) ^ 8 = 18446744073709551616 := by decide
  rw [e] at this
  exact this⟩
theorem u64_wf {n : Nat} (h : n < 18446744073709551616) : (Lit.int .u64 (n : Int)).wf = true := by
  show (decide ((0 : Int) ≤ (n : Int)) && decide ((n : Int) ≤ 18446744073709551615)) = true
  rw [decide_eq_true (by omega), decide_eq_true (by omega)]
  rfl
def imgN (c : Nat) (N : Nat → Nat) (i k : Nat) : List Int := (List.range k).map fun j => ((min (N (i + j)) c : Nat) : Int)
def snN (c : Nat) (N : Nat → Nat) (i kb : Nat) : Sn := ⟨((N i : Nat), (N (i + 1) : Nat)), imgN c N (i + 3) kb, decide (min (N (i + 2)) c = 1)⟩
def snsN (c : Nat) (N : Nat → Nat) (i kb k : Nat) : List Sn := (List.range k).map fun j => snN c N (i + j * (3 + kb)) kb
def tkN (c : Nat) (N : Nat → Nat) (i kb : Nat) : Tk :=
  if min (N i) c = 1 then ⟨((N (i + 1) : Nat), (N (i + 2) : Nat)), ((N (i + 3) : Nat), (N (i + 4) : Nat)), (min (N (i + 5)) c : Nat), (min (N (i + 6)) c : Nat), imgN c N (i + 7) kb⟩ else zeroT
def mtN (c kb ks : Nat) (N : Nat → Nat) : Mt := ⟨imgN c N 1 kb, snsN c N (2 + kb) kb ks, tkN c N (2 + kb + ks * (3 + kb)) kb⟩
theorem imgN_succ (c : Nat) (N : Nat → Nat) (i k : Nat) : imgN c N i (k + 1) = imgN c N i k ++ [((min (N (i + k)) c : Nat) : Int)] := by simp [imgN, List.range_succ]
theorem imgN_len (c : Nat) (N : Nat → Nat) (i k : Nat) : (imgN c N i k).length = k := by simp [imgN]
theorem snsN_succ (c : Nat) (N : Nat → Nat) (i kb k : Nat) : snsN c N i kb (k + 1) = snsN c N i kb k ++ [snN c N (i + k * (3 + kb)) kb] := by simp [snsN, List.range_succ]
theorem snsN_len (c : Nat) (N : Nat → Nat) (i kb k : Nat) : (snsN c N i kb k).length = k := by simp [snsN]
def capB (n : Nat) : Nat := if 8 < n then 0 else n
def capS (n : Nat) : Nat := if 20 < n then 0 else n
end Go.Proofs.Ytimgecflcackbaa
