/-
  WireBack, WALKED.
-/
import Derived.Test.YtephbgkaoanjjaaWireLaws
import Derived.Test.YtephbgkaoanjjaaOpen
namespace Go.Proofs.Ytephbgkaoanjjaa
open Go.RowKit Reg

/-- What the walk is told of a slice: its address, length and room; the cells xs. -/
def RdV (w : World) (a : Option Addr) (xs : List Value) : Prop := ∀ (j : Nat) (u : Value), xs[j]? = some u → ∃ g off, a = some ⟨g, off, none⟩ ∧ w.cell? ⟨g, off + j, none⟩ = some u
theorem RdIn.open_ {w : World} {v : Value} {n : Nat} {xs : List Value} (h : RdIn w v n xs) (hn : xs.length = n) : ∃ a c, v = .slice a n c ∧ RdV w a xs ∧ (n = 0 ∨ n ≤ c) := by
  rcases h with ⟨a, c, rfl, rfl, rfl⟩ | ⟨hp, _, ⟨rfl, h0⟩ | ⟨g, off, c, rfl, hc, hx⟩⟩
  · exact ⟨a, c, rfl, fun j u hu => by simp at hu, .inl rfl⟩
  · omega
  · exact ⟨_, c, rfl, fun j u hu => ⟨g, off, rfl, hx j u hu⟩, .inr hc⟩
theorem RdV.keep {w w' : World} {a : Option Addr} {xs : List Value} (h : RdV w a xs) (hb : Below w.heap.size w w') : RdV w' a xs := fun j u hu => by
  obtain ⟨g, off, h1, h2⟩ := h j u hu
  exact ⟨g, off, h1, cell_later hb h2⟩

/-! ### plain -/
namespace Wire
def cutT (t : ByteArray) : ByteArray := if 100 < t.size then t.extract 0 100 else t
theorem cutT_size (t : ByteArray) : (cutT t).size ≤ 100 := by
  unfold cutT
  split
  · exact cut_size _ _
  · omega
section
variable (m m' : Nat) (N : Nat → Nat) (X : Nat → ByteArray)
/-- what round j puts -/
def piece (j : Nat) : List UInt8 := (if j < m then putNum (N j) else []) ++ (if j < m' then putText (cutT (X j)).data.toList else [])
/-- what the first j rounds put -/
def upto : Nat → List UInt8
  | 0 => []
  | j + 1 => upto j ++ piece m m' N X j
/-- what the k rounds from j on put -/
def from_ : Nat → Nat → List UInt8
  | _, 0 => []
  | j, k + 1 => piece m m' N X j ++ from_ (j + 1) k
theorem from_upto (j k : Nat) : upto m m' N X j ++ from_ m m' N X j k = upto m m' N X (j + k) := by
  induction k generalizing j with
  | zero => simp [from_]
  | succ k ih =>
    have := ih (j + 1)
    rw [show j + (k + 1) = j + 1 + k from by omega, ← this]
    simp [from_, upto]
theorem from_all (M : Nat) : from_ m m' N X 0 M = upto m m' N X M := by
  have := from_upto m m' N X 0 M
  simpa [upto] using this
theorem putText_length (t : List UInt8) : (putText t).length ≤ 9 + t.length := by
  have := putNum_length t.length
  simp [putText]; omega
theorem piece_length (j : Nat) : (piece m m' N X j).length ≤ 118 := by
  have h1 := putNum_length (N j)
  have h2 := putText_length (cutT (X j)).data.toList
  have h3 := cutT_size (X j)
  rw [len_data] at h2
  unfold piece
  rw [List.length_append]
  split <;> split <;> simp <;> omega
theorem upto_length (j : Nat) : (upto m m' N X j).length ≤ 118 * j := by
  induction j with
  | zero => simp [upto]
  | succ j ih =>
    have := piece_length m m' N X j
    rw [upto, List.length_append]
    omega
end
end Wire
/-- the cut of a text of the row, by cases -/
theorem cutT_cases (t : ByteArray) : ∃ Y : ByteArray, Wire.cutT t = Y ∧ Y.size ≤ 100 ∧ (((100 : Int) < (t.size : Int) ∧ t.extract 0 100 = Y) ∨ ((t.size : Int) ≤ 100 ∧ t = Y)) := by
  refine ⟨_, rfl, Wire.cutT_size t, ?_⟩
  unfold Wire.cutT
  by_cases h : 100 < t.size
  · rw [if_pos h]; exact .inl ⟨by omega, rfl⟩
  · rw [if_neg h]; exact .inr ⟨by omega, rfl⟩
/-- the first loop's text after j rounds, as a string; between the two of a round -/
def backS (m m' : Nat) (N : Nat → Nat) (X : Nat → ByteArray) (j : Nat) : ByteArray := strOf (Wire.upto m m' N X j)
theorem backS_size (m m' : Nat) (N : Nat → Nat) (X : Nat → ByteArray) (j : Nat) (h : j ≤ 30) : (backS m m' N X j).size ≤ 3540 := by
  unfold backS
  rw [size_strOf]
  have := Wire.upto_length m m' N X j
  omega
theorem backS_num (m m' : Nat) (N : Nat → Nat) (X : Nat → ByteArray) (j : Nat) (h : j < m) (h' : ¬ j < m') : strOf ((backS m m' N X j).data.toList ++ Wire.putNum (N j)) = backS m m' N X (j + 1) := by
  unfold backS
  rw [strOf_list, Wire.upto, Wire.piece, if_pos h, if_neg h', List.append_nil]
theorem backS_text (m m' : Nat) (N : Nat → Nat) (X : Nat → ByteArray) (j : Nat) (h : ¬ j < m) (h' : j < m') : strOf ((backS m m' N X j).data.toList ++ Wire.putText (Wire.cutT (X j)).data.toList) = backS m m' N X (j + 1) := by
  unfold backS
  rw [strOf_list, Wire.upto, Wire.piece, if_neg h, if_pos h', List.nil_append]
theorem backS_both (m m' : Nat) (N : Nat → Nat) (X : Nat → ByteArray) (j : Nat) (h : j < m) (h' : j < m') :
    strOf ((strOf ((backS m m' N X j).data.toList ++ Wire.putNum (N j))).data.toList ++ Wire.putText (Wire.cutT (X j)).data.toList) = backS m m' N X (j + 1) := by
  unfold backS
  rw [strOf_list, strOf_list, Wire.upto, Wire.piece, if_pos h, if_pos h', List.append_assoc]
theorem ext_all (Y : ByteArray) : Y.extract 0 Y.size = Y := by
  rw [extract_strOf, List.take_of_length_le (by rw [len_data]; exact Nat.le_refl _), strOf_data]
/-- a region with one reading of the reader r, operation i: what holds of the world before and after it -/
def oneC (w0 : World) (r i : Nat) (st st1 : Wire.St) (σ : Nat → Option Value) (w' : World) : Prop := Below w0.heap.size w0 w' ∧ (σ i = none → Rdr w' r st) ∧ (∀ u, σ i = some u → Rdr w' r st1)
def oneV (i : Nat) (v : Value) (s : Nat) (u : Value) : Prop := s = i → u = v
theorem oneV_inh (i : Nat) (v : Value) (s : Nat) : ∃ u, oneV i v s u := ⟨v, fun _ => rfl⟩
theorem oneC_start {w0 w' : World} {r i : Nat} {st st1 : Wire.St} (hb : Below w0.heap.size w0 w') (h : Rdr w' r st) : oneC w0 r i st st1 (fun _ => none) w'.drew :=
  ⟨hb.trans ((Below.refl _ _).drew), fun _ => h.keep ((Below.refl _ _).drew), fun u hu => by cases hu⟩
theorem special_num {w0 w' : World} {r i n : Nat} {st st1 : Wire.St} {σ : Nat → Option Value} (hr : w0.heap.size ≤ r) (hn : Wire.num st = (n, st1)) (hC : oneC w0 r i st st1 σ w') (h0 : σ i = none) :
    SpecialOK Try.prog (oneV i (.int .u64 (n : Int)) i) (fun u => oneC w0 r i st st1 (upd σ i u)) (.ok (.enter 14 #[.pointer (some ⟨r, 0, none⟩)]) w') := by
  refine (num_lit r st st1 n w' (hC.2.1 h0) hn).mono ?_
  rintro e w2 ⟨rfl, h1, h2⟩
  exact ⟨_, rfl, fun _ => rfl, below_read hC.1 h2 hr (Nat.le_refl _), fun h => by (rw [upd_same] at h; cases h), fun _ _ => h1⟩
theorem special_text {w0 w' : World} {r i : Nat} {t : List UInt8} {Y : ByteArray} {st st1 : Wire.St} {σ : Nat → Option Value} (hr : w0.heap.size ≤ r) (hn : Wire.text st = (t, st1)) (hY : strOf t = Y) (hC : oneC w0 r i st st1 σ w') (h0 : σ i = none) :
    SpecialOK Try.prog (oneV i (.string Y) i) (fun u => oneC w0 r i st st1 (upd σ i u)) (.ok (.enter 16 #[.pointer (some ⟨r, 0, none⟩)]) w') := by
  refine (text_lit r st st1 t Y w' (hC.2.1 h0) hn hY).mono ?_
  rintro e w2 ⟨rfl, h1, h2⟩
  exact ⟨_, rfl, fun _ => rfl, below_read hC.1 h2 hr (Nat.le_refl _), fun h => by (rw [upd_same] at h; cases h), fun _ _ => h1⟩
/-- what the second loop has before it in round k -/
def backL (m m' : Nat) (N : Nat → Nat) (X : Nat → ByteArray) (M k : Nat) : List UInt8 := Wire.from_ m m' N X k (M - k)
theorem backL_step (m m' : Nat) (N : Nat → Nat) (X : Nat → ByteArray) (M k : Nat) (h : k < M) : backL m m' N X M k = Wire.piece m m' N X k ++ backL m m' N X M (k + 1) := by
  unfold backL
  rw [show M - k = (M - (k + 1)) + 1 from by omega, Wire.from_]
theorem backL_start (m m' : Nat) (N : Nat → Nat) (X : Nat → ByteArray) (M : Nat) : (backS m m' N X M).data.toList = backL m m' N X M 0 := by
  unfold backS backL
  rw [strOf_list, Nat.sub_zero, Wire.from_all]
theorem backL_end (m m' : Nat) (N : Nat → Nat) (X : Nat → ByteArray) (M : Nat) : backL m m' N X M M = [] := by
  unfold backL
  rw [Nat.sub_self, Wire.from_]
theorem back_num {m m' : Nat} {N : Nat → Nat} {X : Nat → ByteArray} {M k : Nat} (h : k < M) (k1 : k < m) (k2 : ¬ k < m') (hN : N k < 256 ^ 8) :
    Wire.num (some (backL m m' N X M k)) = (N k, some (backL m m' N X M (k + 1))) := by
  rw [backL_step _ _ _ _ _ _ h, Wire.piece, if_pos k1, if_neg k2, List.append_nil, Wire.num_put _ hN]
theorem cutT_len (t : ByteArray) : (Wire.cutT t).data.toList.length < 256 ^ 8 := by
  rw [len_data]
  exact Nat.lt_of_le_of_lt (Wire.cutT_size t) (by decide)
theorem back_text {m m' : Nat} {N : Nat → Nat} {X : Nat → ByteArray} {M k : Nat} (h : k < M) (k1 : ¬ k < m) (k2 : k < m') :
    Wire.text (some (backL m m' N X M k)) = ((Wire.cutT (X k)).data.toList, some (backL m m' N X M (k + 1))) := by
  rw [backL_step _ _ _ _ _ _ h, Wire.piece, if_neg k1, if_pos k2, List.nil_append, Wire.text_put _ (cutT_len _)]
theorem back_both {m m' : Nat} {N : Nat → Nat} {X : Nat → ByteArray} {M k : Nat} (h : k < M) (k1 : k < m) (k2 : k < m') (hN : N k < 256 ^ 8) :
    ∃ st, Wire.num (some (backL m m' N X M k)) = (N k, st) ∧ Wire.text st = ((Wire.cutT (X k)).data.toList, some (backL m m' N X M (k + 1))) := by
  refine ⟨some (Wire.putText (Wire.cutT (X k)).data.toList ++ backL m m' N X M (k + 1)), ?_, Wire.text_put _ (cutT_len _) _⟩
  rw [backL_step _ _ _ _ _ _ h, Wire.piece, if_pos k1, if_pos k2, List.append_assoc, Wire.num_put _ hN]
theorem back_len (m m' : Nat) (N : Nat → Nat) (X : Nat → ByteArray) (M : Nat) : (((backS m m' N X M).size : Int) == 0) = endB (some (backL m m' N X M 0)) := by
  rw [← backL_start, ← len_data]
  generalize (backS m m' N X M).data.toList = l
  cases l with
  | nil => rfl
  | cons b l => simp [endB]; omega
set_option maxHeartbeats 8000000 in
theorem law_WireBack (v : Value) (l : List Int) (v' : Value) (T : List ByteArray) (w : World) (hv : RdIn w v l.length (l.map (.int .u64))) (_ : l.length ≤ maxLen) (hl : ∀ x ∈ l, (Lit.int .u64 x).wf = true)
    (hv' : RdIn w v' T.length (T.map .string)) (_ : T.length ≤ maxLen) (_ : ∀ s ∈ T, s.size ≤ maxLen) :
    Calls Try.prog 5 #[v, v'] w fun e w' => e = .returned (.bool true) ∧ Below w.heap.size w w' := by
  obtain ⟨a, c, rfl, hra, hca⟩ := hv.open_ (by simp)
  obtain ⟨a', c', rfl, hra', hca'⟩ := hv'.open_ (by simp)
  have hN : ∀ j, j < l.length → ∃ g off, a = some ⟨g, off, none⟩ ∧ w.cell? ⟨g, off + j, none⟩ = some (.int .u64 (((l.getD j 0).toNat : Nat) : Int)) ∧ (l.getD j 0).toNat < 256 ^ 8 := by
    intro j hj
    obtain ⟨x, hx, hx2⟩ := wf_u64 (hl l[j] (List.getElem_mem hj))
    obtain ⟨g, off, h1, h2⟩ := hra j (.int .u64 l[j]) (by simp [hj])
    have e : (l.getD j 0) = l[j] := by simp [hj]
    refine ⟨g, off, h1, ?_, by rw [e, hx]; exact hx2⟩
    rw [h2, e, hx]
    rfl
  have hX : ∀ j, j < T.length → ∃ g off, a' = some ⟨g, off, none⟩ ∧ w.cell? ⟨g, off + j, none⟩ = some (.string (T.getD j ByteArray.empty)) := by
    intro j hj
    obtain ⟨g, off, h1, h2⟩ := hra' j (.string T[j]) (by simp [hj])
    have e : (T.getD j ByteArray.empty) = T[j] := by simp [hj]
    exact ⟨g, off, h1, by rw [h2, e]⟩
  generalize hNN : (fun j => (l.getD j 0).toNat) = N at *
  have hN' : ∀ j, j < l.length → ∃ g off, a = some ⟨g, off, none⟩ ∧ w.cell? ⟨g, off + j, none⟩ = some (.int .u64 ((N j : Nat) : Int)) ∧ N j < 256 ^ 8 := by
    intro j hj; subst hNN; exact hN j hj
  generalize hXX : (fun j => T.getD j ByteArray.empty) = X at *
  have hX' : ∀ j, j < T.length → ∃ g off, a' = some ⟨g, off, none⟩ ∧ w.cell? ⟨g, off + j, none⟩ = some (.string (X j)) := by
    intro j hj; subst hXX; exact hX j hj
  clear hra hra' hv hv' hN hX hNN hXX hl
  have h1 : l.length ≤ 30 ∨ 30 < l.length := Nat.lt_or_ge 30 l.length |>.symm
  have h2 : T.length ≤ 30 ∨ 30 < T.length := Nat.lt_or_ge 30 T.length |>.symm
  generalize l.length = n at *
  generalize T.length = n' at *
  have HN := Lib.hid hN'
  have HX := Lib.hid hX'
  clear hN' hX'
  rcases h1 with h1 | h1
  all_goals rcases h2 with h2 | h2
  all_goals
    go_enter Try.func5, Try.ntmps5
    go_wp2
  focus
    obtain ⟨m, hm⟩ : ∃ m, m = n := ⟨_, rfl⟩
    obtain ⟨m', hm'⟩ : ∃ m', m' = n' := ⟨_, rfl⟩
    rw [show Value.slice a n c = Value.slice a m c from by rw [hm], show Value.slice a' n' c' = Value.slice a' m' c' from by rw [hm']]
  rotate_left
  focus
    obtain ⟨m, hm⟩ : ∃ m, m = n := ⟨_, rfl⟩
    obtain ⟨m', hm'⟩ : ∃ m', m' = 30 := ⟨_, rfl⟩
    rw [show Value.slice a n c = Value.slice a m c from by rw [hm], show Value.slice a' 30 c' = Value.slice a' m' c' from by rw [hm']]
  rotate_left
  focus
    obtain ⟨m, hm⟩ : ∃ m, m = 30 := ⟨_, rfl⟩
    obtain ⟨m', hm'⟩ : ∃ m', m' = n' := ⟨_, rfl⟩
    rw [show Value.slice a 30 c = Value.slice a m c from by rw [hm], show Value.slice a' n' c' = Value.slice a' m' c' from by rw [hm']]
  rotate_left
  focus
    obtain ⟨m, hm⟩ : ∃ m, m = 30 := ⟨_, rfl⟩
    obtain ⟨m', hm'⟩ : ∃ m', m' = 30 := ⟨_, rfl⟩
    rw [show Value.slice a 30 c = Value.slice a m c from by rw [hm], show Value.slice a' 30 c' = Value.slice a' m' c' from by rw [hm']]
  all_goals as_aux_lemma =>
    have M1 : Hid (m ≤ 30 ∧ m ≤ n) := Lib.hid (by omega)
    have M2 : Hid (m' ≤ 30 ∧ m' ≤ n') := Lib.hid (by omega)
    clear hm hm' h1 h2 hca hca'
    go_loopw [5, 6] (fun s i wr => ∃ j : Nat, (j ≤ m ∨ j ≤ m') ∧ i = .int .i64 j ∧ s = .string (backS m m' N X j) ∧ Below w.heap.size w wr) (fun _ i _ => 30 - (intOf i).toNat)
    case atStart => exact ⟨0, .inl (Nat.zero_le _), rfl, rfl, Below.refl _ _⟩
    case round =>
      obtain ⟨j, hj, rfl, rfl, hb⟩ := hrel
      have HB := Lib.hid hb
      clear hb
      by_cases k1 : j < m
      · by_cases k2 : j < m'
        · have i1 : (j : Int) < (m : Int) := by omega
          have i2 : (j : Int) < (m' : Int) := by omega
          obtain ⟨g, off, rfl, hc, hx⟩ := HN.out j (by have := M1.out; omega)
          have hcell := cell_later HB.out hc
          obtain ⟨g', off', rfl, hc'⟩ := HX.out j (by have := M2.out; omega)
          have HX2 := Lib.hid hx
          have HC' := Lib.hid hc'
          have HS := Lib.hid (backS_size m m' N X j (by have := M1.out; omega))
          obtain ⟨Y, hY, hYs, hYc⟩ := cutT_cases (X j)
          have hstep := backS_both m m' N X j k1 k2
          rw [hY] at hstep
          have HSTEP := Lib.hid hstep
          have HYS := Lib.hid hYs
          have HYC := Lib.hid hYc
          have j30 : (j : Int) < 30 := by have := M1.out; omega
          clear hc hx hstep hc' hY hYs hYc
          rcases Int.lt_or_le (m : Int) (m' : Int) with i3 | i3
          all_goals
            go_wp2_with fail
            refine (putNum_any _ _ _ HX2.out (by have := HS.out; unfold maxLen; omega)).mono ?_
            rintro e w1 ⟨rfl, hb⟩
            have HB1 := Lib.hid (HB.out.trans (hb.mono HB.out.size))
            have hs1 : (strOf ((backS m m' N X j).data.toList ++ Wire.putNum (N j))).size ≤ 4000 := by
              rw [size_strOf, List.length_append, len_data]
              have h1 := HS.out
              have h2 := Wire.putNum_length (N j)
              omega
            have HS1 := Lib.hid hs1
            generalize strOf ((backS m m' N X j).data.toList ++ Wire.putNum (N j)) = s1 at *
            have hcB : ∀ x : Bw w1, x.w.cell? ⟨g', off' + j, none⟩ = some (.string (X j)) := fun x => x.cell (cell_later HB1.out HC'.out)
            clear hb HB hcell hs1
            have hyc := HYC.out
            clear HYC
            generalize X j = xj at *
            rcases hyc with ⟨y1, y2⟩ | ⟨y1, y2⟩
            all_goals
              first | subst y2 | skip
              go_wp2
              refine wp_region_below (by as_aux_lemma => kernel_rfl) (by as_aux_lemma => kernel_rfl) ?_
              repeat (go_big_quiet_step (first | (go_at_call 10; exact below_call (putText_any _ _ _ (Nat.le_trans HYS.out (by decide)) (Nat.le_trans HS1.out (by decide))))))
              refine wpQuiet_nil ?_
              intro w2 hb2
              rw [HSTEP.out]
              have HB2 := Lib.hid (HB1.out.trans (hb2.mono HB1.out.size))
              clear hb2 HB1 hcB
              go_wp2
              refine ⟨⟨j + 1, by omega, by go_num, rfl, HB2.out⟩, by simp [intOf]; omega⟩
        · have i1 : (j : Int) < (m : Int) := by omega
          have i2 : ¬ (j : Int) < (m' : Int) := by omega
          have i3 : (m' : Int) ≤ (m : Int) := by omega
          obtain ⟨g, off, rfl, hc, hx⟩ := HN.out j (by have := M1.out; omega)
          have hcell := cell_later HB.out hc
          have HX2 := Lib.hid hx
          have HS := Lib.hid (backS_size m m' N X j (by have := M1.out; omega))
          have hstep := backS_num m m' N X j k1 k2
          have HSTEP := Lib.hid hstep
          have j30 : (j : Int) < 30 := by have := M1.out; omega
          clear hc hx hstep
          go_wp2_with fail
          refine (putNum_any _ _ _ HX2.out (by have := HS.out; unfold maxLen; omega)).mono ?_
          rintro e w1 ⟨rfl, hb⟩
          rw [HSTEP.out]
          have HB1 := Lib.hid (HB.out.trans (hb.mono HB.out.size))
          clear hb HB hcell
          go_wp2
          refine ⟨⟨j + 1, by omega, by go_num, rfl, HB1.out⟩, by simp [intOf]; omega⟩
      · by_cases k2 : j < m'
        · have i1 : ¬ (j : Int) < (m : Int) := by omega
          have i2 : (j : Int) < (m' : Int) := by omega
          have i3 : (m : Int) < (m' : Int) := by omega
          obtain ⟨g', off', rfl, hc'⟩ := HX.out j (by have := M2.out; omega)
          have HC' := Lib.hid hc'
          have HS := Lib.hid (backS_size m m' N X j (by have := M2.out; omega))
          obtain ⟨Y, hY, hYs, hYc⟩ := cutT_cases (X j)
          have hstep := backS_text m m' N X j k1 k2
          rw [hY] at hstep
          have HSTEP := Lib.hid hstep
          have HYS := Lib.hid hYs
          have HYC := Lib.hid hYc
          have j30 : (j : Int) < 30 := by have := M2.out; omega
          have hcB : ∀ x : Bw wr, x.w.cell? ⟨g', off' + j, none⟩ = some (.string (X j)) := fun x => x.cell (cell_later HB.out HC'.out)
          clear hstep hc' hY hYs hYc
          have hyc := HYC.out
          clear HYC
          generalize X j = xj at *
          rcases hyc with ⟨y1, y2⟩ | ⟨y1, y2⟩
          all_goals
            first | subst y2 | skip
            go_wp2
            refine wp_region_below (by as_aux_lemma => kernel_rfl) (by as_aux_lemma => kernel_rfl) ?_
            repeat (go_big_quiet_step (first | (go_at_call 10; exact below_call (putText_any _ _ _ (Nat.le_trans HYS.out (by decide)) (Nat.le_trans HS.out (by decide))))))
            refine wpQuiet_nil ?_
            intro w2 hb2
            rw [HSTEP.out]
            have HB2 := Lib.hid (HB.out.trans (hb2.mono HB.out.size))
            clear hb2 HB hcB
            go_wp2
            refine ⟨⟨j + 1, by omega, by go_num, rfl, HB2.out⟩, by simp [intOf]; omega⟩
        · have i1 : ¬ (j : Int) < (m : Int) := by omega
          have i2 : ¬ (j : Int) < (m' : Int) := by omega
          have hjm : m ≤ j ∧ m' ≤ j ∧ j ≤ 30 := by have := M1.out; have := M2.out; omega
          rcases Int.lt_or_le (m : Int) (m' : Int) with i3 | i3
          all_goals
            have HS := Lib.hid (backS_size m m' N X j hjm.2.2)
            go_wp2_with fail
            refine (newReader_lit _ (backL m m' N X j 0) wr (Nat.le_trans HS.out (by decide)) (backL_start m m' N X j)).mono ?_
            rintro e w1 ⟨r, rfl, hr, hrd, hb⟩
            have HR := Lib.hid (Nat.le_trans HB.out.size hr)
            have HRD := Lib.hid hrd
            have HB1 := Lib.hid (HB.out.trans (hb.mono HB.out.size))
            clear hr hrd hb HB
            have hlen := back_len m m' N X j
            have hend := end_any r _ w1 HRD.out
            generalize endB (some (backL m m' N X j 0)) = b0 at *
            go_wp2_with fail
            refine hend.mono ?_
            rintro e w2 ⟨rfl, rfl⟩
            clear hend
            go_wp2
            clear hlen
            go_loopw [8] (fun i wq => ∃ k : Nat, k ≤ j ∧ i = .int .i64 k ∧ Below w.heap.size w wq ∧ Rdr wq r (some (backL m m' N X j k))) (fun i _ => j - (intOf i).toNat)
            case atStart => exact ⟨0, Nat.zero_le _, rfl, HB1.out, HRD.out⟩
            -- ROUND
            case round =>
              obtain ⟨k, hk, rfl, hbq, hrq⟩ := hrel
              have HBQ := Lib.hid hbq
              have HRQ := Lib.hid hrq
              clear hbq hrq HB1 HRD
              by_cases hkj : k < j
              · have j30 : (k : Int) < 30 := by omega
                by_cases k1 : k < m
                · have i1 : (k : Int) < (m : Int) := by omega
                  by_cases k2 : k < m'
                  · have i2 : (k : Int) < (m' : Int) := by omega
                    obtain ⟨g, off, rfl, hc, hx⟩ := HN.out k (by have := M1.out; omega)
                    have HC := Lib.hid hc
                    obtain ⟨g', off', rfl, hc'⟩ := HX.out k (by have := M2.out; omega)
                    have HC' := Lib.hid hc'
                    obtain ⟨Y, hY, _, hYc⟩ := cutT_cases (X k)
                    have hyy : strOf (Wire.cutT (X k)).data.toList = Y := by rw [strOf_data, hY]
                    have HY := Lib.hid hyy
                    clear hc' hY hyy
                    obtain ⟨st1, hn1, hn2⟩ := back_both (X := X) (M := j) hkj k1 k2 hx
                    have HN1 := Lib.hid hn1
                    have HN2 := Lib.hid hn2
                    clear hc hx hn1 hn2
                    go_wp2
                    refine wp_region_spec (fun i => i == 6) (oneV 6 (.int .u64 ((N k : Nat) : Int))) (oneC w r 6 (some (backL m m' N X j k)) st1) (by as_aux_lemma => kernel_rfl) (by as_aux_lemma => kernel_rfl) (oneV_inh _ _) (oneC_start HBQ.out HRQ.out) ?_
                    intro ν hν
                    have n6 := hν 6 rfl
                    repeat (refine lex_plain (by rfl) rfl ?_; apply Exists.intro; refine ⟨fun σ w1 hA hD hC => ?_, ?_⟩; (· have hcell := cell_later hC.1 HC.out; clear hA hD hC; go_simp; (first | exact And.intro rfl rfl | (simp only [if_neg (Int.not_lt.2 y1), z3, Int.le_refl, and_self, if_true, Int.toNat_natCast, z2]; exact And.intro rfl rfl))); simp only [Act.put, List.setIfInBounds_toArray, List.set_cons_succ, List.set_cons_zero, Nat.reduceAdd])
                    refine lex_special (by rfl) rfl (fun σ w1 hA hD hn hC => ?_) ?_
                    · go_simp
                      exact special_num HR.out HN1.out hC hn
                    rw [n6]
                    simp only [Act.put, List.setIfInBounds_toArray, List.set_cons_succ, List.set_cons_zero, Nat.reduceAdd]
                    repeat (refine lex_plain (by rfl) rfl ?_; apply Exists.intro; refine ⟨fun σ w1 hA hD hC => ?_, ?_⟩; (· have hcell := cell_later hC.1 HC.out; clear hA hD hC; go_simp; (first | exact And.intro rfl rfl | (simp only [if_neg (Int.not_lt.2 y1), z3, Int.le_refl, and_self, if_true, Int.toNat_natCast, z2]; exact And.intro rfl rfl))); simp only [Act.put, List.setIfInBounds_toArray, List.set_cons_succ, List.set_cons_zero, Nat.reduceAdd])
                    refine lex_nil (fun σ wa hA hall hC => ?_)
                    have HBwa := Lib.hid hC.1
                    have HRwa := Lib.hid (hC.2.2 _ (hall 6 rfl (by decide)))
                    clear hA hall hC hν n6 HBQ HRQ
                    clear HC
                    generalize X k = xk at *
                    rcases hYc with ⟨y1, y2⟩ | ⟨y1, y2⟩
                    all_goals
                      first | (have y3 : Y = xk := y2.symm; subst y3; have z1 : ¬ (100 : Int) < (Y.size : Int) := Int.not_lt.2 y1; have z2 := ext_all Y; have z3 : (0 : Int) ≤ (Y.size : Int) := Int.natCast_nonneg _) | have y4 : (100 : Int) ≤ (xk.size : Int) := Int.le_of_lt y1
                      go_wp2
                      refine wp_region_spec (fun i => i == 6) (oneV 6 (.string Y)) (oneC w r 6 st1 (some (backL m m' N X j (k + 1)))) (by as_aux_lemma => kernel_rfl) (by as_aux_lemma => kernel_rfl) (oneV_inh _ _) (oneC_start HBwa.out HRwa.out) ?_
                      intro ν hν
                      have n6 := hν 6 rfl
                      repeat (refine lex_plain (by rfl) rfl ?_; apply Exists.intro; refine ⟨fun σ w1 hA hD hC => ?_, ?_⟩; (· have hcell := cell_later hC.1 HC'.out; clear hA hD hC; go_simp; (first | exact And.intro rfl rfl | (simp only [if_neg (Int.not_lt.2 y1), z3, Int.le_refl, and_self, if_true, Int.toNat_natCast, z2]; exact And.intro rfl rfl))); simp only [Act.put, List.setIfInBounds_toArray, List.set_cons_succ, List.set_cons_zero, Nat.reduceAdd])
                      refine lex_special (by rfl) rfl (fun σ w1 hA hD hn hC => ?_) ?_
                      · go_simp
                        exact special_text HR.out HN2.out HY.out hC hn
                      rw [n6]
                      simp only [Act.put, List.setIfInBounds_toArray, List.set_cons_succ, List.set_cons_zero, Nat.reduceAdd]
                      repeat (refine lex_plain (by rfl) rfl ?_; apply Exists.intro; refine ⟨fun σ w1 hA hD hC => ?_, ?_⟩; (· have hcell := cell_later hC.1 HC'.out; clear hA hD hC; go_simp; (first | exact And.intro rfl rfl | (simp only [if_neg (Int.not_lt.2 y1), z3, Int.le_refl, and_self, if_true, Int.toNat_natCast, z2]; exact And.intro rfl rfl))); simp only [Act.put, List.setIfInBounds_toArray, List.set_cons_succ, List.set_cons_zero, Nat.reduceAdd])
                      refine lex_nil (fun σ wb hA hall hC => ?_)
                      have HBwb := Lib.hid hC.1
                      have HRwb := Lib.hid (hC.2.2 _ (hall 6 rfl (by decide)))
                      clear hA hall hC hν n6 HBwa HRwa
                      go_wp2
                      refine ⟨⟨k + 1, by omega, by go_num, HBwb.out, HRwb.out⟩, by simp [intOf]; omega⟩
                  · have i2 : ¬ (k : Int) < (m' : Int) := by omega
                    by_cases q : (m : Int) < (m' : Int)
                    · exfalso; omega
                    · clear i3
                      have i3 : (m' : Int) ≤ (m : Int) := by omega
                      obtain ⟨g, off, rfl, hc, hx⟩ := HN.out k (by have := M1.out; omega)
                      have HC := Lib.hid hc
                      have hn1 := back_num (X := X) (M := j) hkj k1 k2 hx
                      have HN1 := Lib.hid hn1
                      clear hc hx hn1
                      go_wp2
                      refine wp_region_spec (fun i => i == 6) (oneV 6 (.int .u64 ((N k : Nat) : Int))) (oneC w r 6 (some (backL m m' N X j k)) (some (backL m m' N X j (k + 1)))) (by as_aux_lemma => kernel_rfl) (by as_aux_lemma => kernel_rfl) (oneV_inh _ _) (oneC_start HBQ.out HRQ.out) ?_
                      intro ν hν
                      have n6 := hν 6 rfl
                      repeat (refine lex_plain (by rfl) rfl ?_; apply Exists.intro; refine ⟨fun σ w1 hA hD hC => ?_, ?_⟩; (· have hcell := cell_later hC.1 HC.out; clear hA hD hC; go_simp; (first | exact And.intro rfl rfl | (simp only [if_neg (Int.not_lt.2 y1), z3, Int.le_refl, and_self, if_true, Int.toNat_natCast, z2]; exact And.intro rfl rfl))); simp only [Act.put, List.setIfInBounds_toArray, List.set_cons_succ, List.set_cons_zero, Nat.reduceAdd])
                      refine lex_special (by rfl) rfl (fun σ w1 hA hD hn hC => ?_) ?_
                      · go_simp
                        exact special_num HR.out HN1.out hC hn
                      rw [n6]
                      simp only [Act.put, List.setIfInBounds_toArray, List.set_cons_succ, List.set_cons_zero, Nat.reduceAdd]
                      repeat (refine lex_plain (by rfl) rfl ?_; apply Exists.intro; refine ⟨fun σ w1 hA hD hC => ?_, ?_⟩; (· have hcell := cell_later hC.1 HC.out; clear hA hD hC; go_simp; (first | exact And.intro rfl rfl | (simp only [if_neg (Int.not_lt.2 y1), z3, Int.le_refl, and_self, if_true, Int.toNat_natCast, z2]; exact And.intro rfl rfl))); simp only [Act.put, List.setIfInBounds_toArray, List.set_cons_succ, List.set_cons_zero, Nat.reduceAdd])
                      refine lex_nil (fun σ wa hA hall hC => ?_)
                      have HBwa := Lib.hid hC.1
                      have HRwa := Lib.hid (hC.2.2 _ (hall 6 rfl (by decide)))
                      clear hA hall hC hν n6 HBQ HRQ
                      go_wp2_with fail
                      go_quiet (fail)
                      have HBwb := Lib.hid (below_drewN HBwa.out nq)
                      have HRwb := Lib.hid (HRwa.out.keep (below_drewN (Below.refl _ _) nq))
                      clear HBwa HRwa
                      go_wp2
                      refine ⟨⟨k + 1, by omega, by go_num, HBwb.out, HRwb.out⟩, by simp [intOf]; omega⟩
                · have i1 : ¬ (k : Int) < (m : Int) := by omega
                  have k2 : k < m' := by omega
                  have i2 : (k : Int) < (m' : Int) := by omega
                  by_cases q : (m : Int) < (m' : Int)
                  · clear i3
                    have i3 := q
                    clear q
                    obtain ⟨g', off', rfl, hc'⟩ := HX.out k (by have := M2.out; omega)
                    have HC' := Lib.hid hc'
                    obtain ⟨Y, hY, _, hYc⟩ := cutT_cases (X k)
                    have hyy : strOf (Wire.cutT (X k)).data.toList = Y := by rw [strOf_data, hY]
                    have HY := Lib.hid hyy
                    clear hc' hY hyy
                    have hn2 := back_text (N := N) (X := X) (M := j) hkj k1 k2
                    have HN2 := Lib.hid hn2
                    clear hn2
                    go_wp2_with fail
                    go_quiet (fail)
                    have HBwa := Lib.hid (below_drewN HBQ.out nq)
                    have HRwa := Lib.hid (HRQ.out.keep (below_drewN (Below.refl _ _) nq))
                    clear HBQ HRQ
                    generalize X k = xk at *
                    rcases hYc with ⟨y1, y2⟩ | ⟨y1, y2⟩
                    all_goals
                      first | (have y3 : Y = xk := y2.symm; subst y3; have z1 : ¬ (100 : Int) < (Y.size : Int) := Int.not_lt.2 y1; have z2 := ext_all Y; have z3 : (0 : Int) ≤ (Y.size : Int) := Int.natCast_nonneg _) | have y4 : (100 : Int) ≤ (xk.size : Int) := Int.le_of_lt y1
                      go_wp2
                      refine wp_region_spec (fun i => i == 6) (oneV 6 (.string Y)) (oneC w r 6 (some (backL m m' N X j k)) (some (backL m m' N X j (k + 1)))) (by as_aux_lemma => kernel_rfl) (by as_aux_lemma => kernel_rfl) (oneV_inh _ _) (oneC_start HBwa.out HRwa.out) ?_
                      intro ν hν
                      have n6 := hν 6 rfl
                      repeat (refine lex_plain (by rfl) rfl ?_; apply Exists.intro; refine ⟨fun σ w1 hA hD hC => ?_, ?_⟩; (· have hcell := cell_later hC.1 HC'.out; clear hA hD hC; go_simp; (first | exact And.intro rfl rfl | (simp only [if_neg (Int.not_lt.2 y1), z3, Int.le_refl, and_self, if_true, Int.toNat_natCast, z2]; exact And.intro rfl rfl))); simp only [Act.put, List.setIfInBounds_toArray, List.set_cons_succ, List.set_cons_zero, Nat.reduceAdd])
                      refine lex_special (by rfl) rfl (fun σ w1 hA hD hn hC => ?_) ?_
                      · go_simp
                        exact special_text HR.out HN2.out HY.out hC hn
                      rw [n6]
                      simp only [Act.put, List.setIfInBounds_toArray, List.set_cons_succ, List.set_cons_zero, Nat.reduceAdd]
                      repeat (refine lex_plain (by rfl) rfl ?_; apply Exists.intro; refine ⟨fun σ w1 hA hD hC => ?_, ?_⟩; (· have hcell := cell_later hC.1 HC'.out; clear hA hD hC; go_simp; (first | exact And.intro rfl rfl | (simp only [if_neg (Int.not_lt.2 y1), z3, Int.le_refl, and_self, if_true, Int.toNat_natCast, z2]; exact And.intro rfl rfl))); simp only [Act.put, List.setIfInBounds_toArray, List.set_cons_succ, List.set_cons_zero, Nat.reduceAdd])
                      refine lex_nil (fun σ wb hA hall hC => ?_)
                      have HBwb := Lib.hid hC.1
                      have HRwb := Lib.hid (hC.2.2 _ (hall 6 rfl (by decide)))
                      clear hA hall hC hν n6 HBwa HRwa
                      go_wp2
                      refine ⟨⟨k + 1, by omega, by go_num, HBwb.out, HRwb.out⟩, by simp [intOf]; omega⟩
                  · exfalso; omega
              · obtain rfl : k = j := by omega
                have hrd := HRQ.out
                rw [backL_end] at hrd
                have HRD := Lib.hid hrd
                clear hrd HRQ
                have k1 : ¬ (k : Int) < (m : Int) := by omega
                have k2 : ¬ (k : Int) < (m' : Int) := by omega
                go_wp2_with fail
                refine (end_lit r _ true _ HRD.out rfl).mono ?_
                rintro e w4 ⟨rfl, rfl⟩
                go_wp2_with fail
                refine (ok_lit r _ true _ HRD.out rfl).mono ?_
                rintro e w4 ⟨rfl, rfl⟩
                go_wp2_with fail
                refine (works_any _).mono ?_
                rintro e w4 ⟨rfl, hb⟩
                have HB4 := Lib.hid (HBQ.out.trans (hb.mono HBQ.out.size))
                clear hb HBQ
                go_wp2
                go_ret
                exact ⟨rfl, HB4.out⟩
end Go.Proofs.Ytephbgkaoanjjaa
