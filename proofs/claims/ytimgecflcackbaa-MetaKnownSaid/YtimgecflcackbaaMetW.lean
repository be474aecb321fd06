/-
  META: what is laid is read back, whatever stands behind it; two ways to read agree. Plain.
-/
import Derived.Test.YtimgecflcackbaaMetS
namespace Go.Proofs.Ytimgecflcackbaa
open Go.RowKit Reg Go.ChangeShapes

/-- from the i-th on the numbers are those of l -/
def At (N : Nat → Nat) (i : Nat) (l : List Nat) : Prop := ∀ j, j < l.length → N (i + j) = l.getD j 0
theorem At.left {N : Nat → Nat} {i : Nat} {a b : List Nat} (h : At N i (a ++ b)) : At N i a := fun j hj => by
  rw [h j (by rw [List.length_append]; omega)]
  simp [List.getD, List.getElem?_append_left hj]
theorem At.right {N : Nat → Nat} {i : Nat} {a b : List Nat} (h : At N i (a ++ b)) : At N (i + a.length) b := fun j hj => by
  have := h (a.length + j) (by rw [List.length_append]; omega)
  rw [← Nat.add_assoc] at this
  rw [this]
  simp only [List.getD]
  rw [List.getElem?_append_right (by omega), Nat.add_sub_cancel_left]
theorem At.one {N : Nat → Nat} {i n : Nat} (h : At N i [n]) : N i = n := by
  have := h 0 (by simp)
  simpa using this
def natL (l : List Int) : List Nat := l.map Int.toNat
def gdL (g : Gd) : List Nat := [g.1.toNat, g.2.toNat]
def snL (s : Sn) : List Nat := gdL s.guid ++ (natL [bitZ s.hidden] ++ natL s.image)
def tkL (t : Tk) : List Nat := if t.target = (0, 0) then natL [0] else natL [1] ++ (gdL t.base ++ (gdL t.target ++ (natL [t.next, t.all] ++ natL t.image)))
def mtL (m : Mt) : List Nat := (natL [(m.live.length : Int)] ++ (natL m.live ++ natL [(m.snaps.length : Int)])) ++ (m.snaps.flatMap snL ++ tkL m.token)
def layL (l : List Nat) : List UInt8 := l.flatMap Wire.putNum
theorem layL_append (a b : List Nat) : layL (a ++ b) = layL a ++ layL b := by simp [layL]
theorem lay_nums (l : List Int) : layL (natL l) = numsB l := by
  unfold layL natL numsB
  rw [List.flatMap_map]
theorem lay_gd (g : Gd) : layL (gdL g) = gdB g := by simp [layL, gdL, gdB]
theorem lay_sn (s : Sn) : layL (snL s) = snB s := by
  unfold snL snB
  rw [layL_append, layL_append, lay_gd, lay_nums, lay_nums]
theorem lay_sns : ∀ l : List Sn, layL (l.flatMap snL) = snsB l
  | [] => rfl
  | s :: l => by
    rw [List.flatMap_cons, layL_append, lay_sn, lay_sns l]
    rfl
theorem lay_tk (t : Tk) : layL (tkL t) = tkB t := by
  unfold tkL tkB
  by_cases h : t.target = (0, 0)
  · rw [if_pos h, if_pos h, lay_nums]
  · rw [if_neg h, if_neg h]
    simp only [layL_append, lay_nums, lay_gd]
theorem lay_mt (m : Mt) : layL (mtL m) = mtB m := by
  unfold mtL mtB hdB
  rw [layL_append, layL_append, layL_append, layL_append, lay_nums, lay_nums, lay_nums, lay_sns, lay_tk]
theorem nSt_lay : ∀ (L : List Nat) (rest : List UInt8), (∀ n ∈ L, n < 18446744073709551616) → ∀ k, k ≤ L.length → nSt (some (layL L ++ rest)) k = some (layL (L.drop k) ++ rest)
  | L, rest, _, 0, _ => rfl
  | L, rest, hL, k + 1, h => by
    have ih := nSt_lay L rest hL k (by omega)
    show nx (nSt _ k) = _
    have e : (256 : Nat) ^ 8 = 18446744073709551616 := by decide
    rw [ih, List.drop_eq_getElem_cons (by omega)]
    unfold nx layL
    rw [List.flatMap_cons, List.append_assoc, Wire.num_put _ (by rw [e]; exact hL _ (List.getElem_mem (by omega)))]
theorem nAt_lay (L : List Nat) (rest : List UInt8) (hL : ∀ n ∈ L, n < 18446744073709551616) : At (nAt (some (layL L ++ rest))) 0 L := fun k hk => by
  have e : (256 : Nat) ^ 8 = 18446744073709551616 := by decide
  rw [Nat.zero_add]
  unfold nAt
  rw [nSt_lay L rest hL k (by omega), List.drop_eq_getElem_cons hk]
  unfold layL
  rw [List.flatMap_cons, List.append_assoc, Wire.num_put _ (by rw [e]; exact hL _ (List.getElem_mem hk))]
  simp [hk]
theorem img_at {N : Nat → Nat} {c i : Nat} {zs : List Int} (h : At N i (natL zs)) (hz : ∀ z ∈ zs, 0 ≤ z ∧ z ≤ c) : imgN c N i zs.length = zs := by
  refine List.ext_getElem (imgN_len _ _ _ _) fun j h1 h2 => ?_
  simp only [imgN, List.getElem_map, List.getElem_range]
  rw [h j (by simpa [natL] using h2)]
  have := hz _ (List.getElem_mem h2)
  have e : (natL zs).getD j 0 = zs[j].toNat := by simp [natL, h2]
  rw [e]
  omega
theorem sn_at {N : Nat → Nat} {c i kb : Nat} {s : Sn} (h : At N i (snL s)) (hk : s.image.length = kb) (hc : 1024 ≤ c) (hw : wfG s.guid) (hz : ∀ z ∈ s.image, 0 ≤ z ∧ z ≤ c) : snN c N i kb = s := by
  subst hk
  have h1 := h.left
  have h2 := h.right
  have h3 := h2.left
  have h4 := h2.right
  have e0 := h1 0 (by simp [gdL])
  have e1 := h1 1 (by simp [gdL])
  have e2 := h3 0 (by simp [natL])
  have h5 := img_at h4 hz
  obtain ⟨⟨ge, gc⟩, zs, hd⟩ := s
  have r1 := u64_range hw.1
  have r2 := u64_range hw.2
  unfold snN
  simp only [gdL, natL, List.length_cons, List.length_nil, List.map_cons, List.map_nil, Nat.add_zero] at e0 e1 e2 h5 r1 r2 ⊢
  have e0' : ((N i : Nat) : Int) = ge := by rw [e0]; show ((ge.toNat : Nat) : Int) = ge; omega
  have e1' : ((N (i + 1) : Nat) : Int) = gc := by rw [e1]; show ((gc.toNat : Nat) : Int) = gc; omega
  have e2' : decide (min (N (i + 2)) c = 1) = hd := by
    have q : N (i + 2) = (bitZ hd).toNat := e2
    rw [q]
    cases hd with
    | true => exact decide_eq_true (by show min 1 c = 1; omega)
    | false => exact decide_eq_false (by show ¬ min 0 c = 1; omega)
  rw [e0', e1', e2', h5]
theorem snsN_cons (c : Nat) (N : Nat → Nat) (i kb k : Nat) : snsN c N i kb (k + 1) = snN c N i kb :: snsN c N (i + (3 + kb)) kb k := by
  unfold snsN
  rw [List.range_succ_eq_map, List.map_cons, List.map_map, Nat.zero_mul, Nat.add_zero]
  congr 1
  refine List.map_congr_left fun j _ => ?_
  show snN c N (i + (j + 1) * (3 + kb)) kb = snN c N (i + (3 + kb) + j * (3 + kb)) kb
  rw [Nat.succ_mul]
  congr 1
  omega
theorem sns_at {N : Nat → Nat} {c kb : Nat} (hc : 1024 ≤ c) : ∀ (l : List Sn) (i : Nat), At N i (l.flatMap snL) → (∀ s ∈ l, s.image.length = kb ∧ wfG s.guid ∧ ∀ z ∈ s.image, 0 ≤ z ∧ z ≤ c) → snsN c N i kb l.length = l
  | [], _, _, _ => rfl
  | s :: l, i, h, hl => by
    rw [List.flatMap_cons] at h
    have h1 := hl s (by simp)
    have e : (snL s).length = 3 + kb := by simp [snL, gdL, natL, h1.1]; omega
    have h2 := h.right
    rw [e] at h2
    rw [List.length_cons, snsN_cons, sn_at h.left h1.1 hc h1.2.1 h1.2.2, sns_at hc l _ h2 fun s hs => hl s (by simp [hs])]
theorem tk_at {N : Nat → Nat} {c i kb : Nat} {t : Tk} (h : At N i (tkL t)) (hc : 1024 ≤ c) (hw : wfTk t) {last : Gd} {blocks : Int} (ht : tokOf t last blocks 1024 = 0) (hb : blocks ≤ 8) (hk : t.target ≠ (0, 0) → t.image.length = kb) : tkN c N i kb = t := by
  rcases tok_ok ht with ⟨h1, h2, h3, h4, h5⟩ | ⟨h1, -, -, h3, h4, h5, h6⟩
  · unfold tkL at h
    rw [if_pos h1] at h
    have e0 : N i = 0 := At.one h
    unfold tkN
    rw [e0, if_neg (by omega)]
    obtain ⟨b, tt, nx, al, im⟩ := t
    dsimp only at h1 h2 h3 h4 h5
    subst h1 h2 h3 h4 h5
    rfl
  · unfold tkL at h
    rw [if_neg h1] at h
    have e0 : N i = 1 := At.one h.left
    have q1 := h.right
    have q2 := q1.right
    have q3 := q2.right
    have q4 := q3.right
    have b0 := q1.left 0 (by simp [gdL])
    have b1 := q1.left 1 (by simp [gdL])
    have t0 := q2.left 0 (by simp [gdL])
    have t1 := q2.left 1 (by simp [gdL])
    have n0 := q3.left 0 (by simp [natL])
    have n1 := q3.left 1 (by simp [natL])
    have hk2 := hk h1
    have him := chk_ok h6
    have h7 := img_at (c := c) q4 fun z hz => by rcases him.2.2.2 z hz with h | h <;> omega
    obtain ⟨⟨be, bc⟩, ⟨te, tc⟩, nx, al, im⟩ := t
    obtain ⟨⟨wb1, wb2⟩, ⟨wt1, wt2⟩, -, -⟩ := hw
    have r1 := u64_range wb1
    have r2 := u64_range wb2
    have r3 := u64_range wt1
    have r4 := u64_range wt2
    unfold tkN
    rw [e0, if_pos (by omega)]
    dsimp only at *
    simp only [gdL, natL, List.length_cons, List.length_nil, List.map_cons, List.map_nil, Nat.add_zero, Nat.reduceAdd, Nat.add_assoc] at b0 b1 t0 t1 n0 n1 h7
    have f0 : ((N (i + 1) : Nat) : Int) = be := by rw [b0]; show ((be.toNat : Nat) : Int) = be; omega
    have f1 : ((N (i + 2) : Nat) : Int) = bc := by rw [b1]; show ((bc.toNat : Nat) : Int) = bc; omega
    have f2 : ((N (i + 3) : Nat) : Int) = te := by rw [t0]; show ((te.toNat : Nat) : Int) = te; omega
    have f3 : ((N (i + 4) : Nat) : Int) = tc := by rw [t1]; show ((tc.toNat : Nat) : Int) = tc; omega
    have f4 : ((min (N (i + 5)) c : Nat) : Int) = nx := by rw [n0]; show ((min nx.toNat c : Nat) : Int) = nx; omega
    have f5 : ((min (N (i + 6)) c : Nat) : Int) = al := by rw [n1]; show ((min al.toNat c : Nat) : Int) = al; omega
    rw [f0, f1, f2, f3, f4, f5, ← hk2, h7]
/-- whose numbers fit -/
def wfM (m : Mt) : Prop := (∀ s ∈ m.snaps, wfG s.guid) ∧ wfTk m.token
theorem InMt.wfm {w : World} {v : Value} {m : Mt} (h : InMt w v m) : wfM m := by
  obtain ⟨lv, sv, iv, -, -, ⟨a, c, -, -, hx⟩, -, hw⟩ := h
  refine ⟨fun s hs => ?_, hw⟩
  obtain ⟨j, hj, rfl⟩ := List.mem_iff_getElem.1 hs
  obtain ⟨_, _, _, _, _, _, _, _, _, h⟩ := hx j hj
  simpa [hj] using h
theorem gd_lt {g : Gd} (h : wfG g) : ∀ n ∈ gdL g, n < 18446744073709551616 := by
  have r1 := u64_range h.1
  have r2 := u64_range h.2
  intro n hn
  simp only [gdL, List.mem_cons, List.not_mem_nil, or_false] at hn
  rcases hn with rfl | rfl <;> omega
theorem nat_lt {l : List Int} (h : ∀ z ∈ l, z < 18446744073709551616) : ∀ n ∈ natL l, n < 18446744073709551616 := by
  intro n hn
  obtain ⟨z, hz, rfl⟩ := List.mem_map.1 hn
  have := h z hz
  omega
theorem img_lt {zs : List Int} {blocks : Int} (h : chkOf zs blocks 1024 = 0) : ∀ n ∈ natL zs, n < 18446744073709551616 :=
  nat_lt fun z hz => by rcases (chk_ok h).2.2.2 z hz with h | h <;> omega
theorem mtL_lt {m : Mt} (hw : wfM m) {blocks : Int} (h : mtOf m blocks 1024 = 0) : ∀ n ∈ mtL m, n < 18446744073709551616 := by
  obtain ⟨h1, h2, h3, h4⟩ := mt_ok h
  have hl := chk_len h1
  intro n hn
  unfold mtL at hn
  rcases List.mem_append.1 hn with hn | hn
  · rcases List.mem_append.1 hn with hn | hn
    · exact nat_lt (by simp; omega) n hn
    · rcases List.mem_append.1 hn with hn | hn
      · exact img_lt h1 n hn
      · exact nat_lt (by simp; omega) n hn
  · rcases List.mem_append.1 hn with hn | hn
    · obtain ⟨s, hs, hn⟩ := List.mem_flatMap.1 hn
      unfold snL at hn
      rcases List.mem_append.1 hn with hn | hn
      · exact gd_lt (hw.1 s hs) n hn
      · rcases List.mem_append.1 hn with hn | hn
        · exact nat_lt (by simp; cases s.hidden <;> decide) n hn
        · exact img_lt (sn_ok h3 s hs) n hn
    · unfold tkL at hn
      rcases tok_ok h4 with q | ⟨q, -, -, q3, q4, q5, q6⟩
      · rw [if_pos q.1] at hn
        exact nat_lt (by simp) n hn
      · rw [if_neg q] at hn
        have hb := (chk_ok h1).2.2.1
        rcases List.mem_append.1 hn with hn | hn
        · exact nat_lt (by simp) n hn
        · rcases List.mem_append.1 hn with hn | hn
          · exact gd_lt hw.2.base n hn
          · rcases List.mem_append.1 hn with hn | hn
            · exact gd_lt hw.2.target n hn
            · rcases List.mem_append.1 hn with hn | hn
              · exact nat_lt (by simp; omega) n hn
              · exact img_lt q6 n hn
/-- what is laid is read back, whatever stands behind it -/
theorem read_lay {m : Mt} (hw : wfM m) (h : mtOf m m.live.length 1024 = 0) {c : Nat} {fb fs : Nat → Nat} (hc : 1024 ≤ c) (hfb : ∀ n, n ≤ 8 → fb n = n) (hfs : ∀ n, n ≤ 20 → fs n = n) (s : ByteArray) (rest : List UInt8) (hs : s.data.toList = mtB m ++ rest) : readM c fb fs s = m := by
  have hat := nAt_lay (mtL m) rest (mtL_lt hw h)
  rw [lay_mt, ← hs] at hat
  obtain ⟨h1, h2, h3, h4⟩ := mt_ok h
  have hl := chk_len h1
  unfold readM
  generalize nAt (some s.data.toList) = N at *
  unfold mtL at hat
  have a0 := hat.left
  have a1 := a0.left.one
  have a2 := a0.right.left
  have a3 := a0.right.right.one
  have a4 := hat.right.left
  have a5 := hat.right.right
  have e0 : N 0 = m.live.length := by rw [a1]; simp
  have e1 : N (1 + m.live.length) = m.snaps.length := by
    have : N (0 + (natL [(m.live.length : Int)]).length + (natL m.live).length) = ((m.snaps.length : Int)).toNat := a3
    simpa [natL] using this
  have hmax : ∀ {zs : List Int}, chkOf zs m.live.length 1024 = 0 → ∀ z ∈ zs, 0 ≤ z ∧ z ≤ c := fun hz z hm => by rcases (chk_ok hz).2.2.2 z hm with h | h <;> omega
  have hlen : ∀ {zs : List Int}, chkOf zs m.live.length 1024 = 0 → zs.length = m.live.length := fun hz => by have := (chk_ok hz).1; omega
  have i1 : imgN c N 1 m.live.length = m.live := img_at (i := 1) (by simpa [natL] using a2) (hmax h1)
  have l4 : 0 + (natL [(m.live.length : Int)] ++ (natL m.live ++ natL [(m.snaps.length : Int)])).length = 2 + m.live.length := by simp [natL]; omega
  rw [l4] at a4 a5
  have i2 : snsN c N (2 + m.live.length) m.live.length m.snaps.length = m.snaps := sns_at hc m.snaps _ a4 fun s hs => ⟨hlen (sn_ok h3 s hs), hw.1 s hs, hmax (sn_ok h3 s hs)⟩
  have l5 : (m.snaps.flatMap snL).length = m.snaps.length * (3 + m.live.length) := by
    have : ∀ l : List Sn, (∀ s ∈ l, s.image.length = m.live.length) → (l.flatMap snL).length = l.length * (3 + m.live.length) := by
      intro l
      induction l with
      | nil => intro _; simp
      | cons s l ih =>
        intro hl
        have e := ih fun s hs => hl s (by simp [hs])
        have e2 := hl s (by simp)
        rw [List.flatMap_cons, List.length_append, e, List.length_cons, Nat.succ_mul]
        simp [snL, gdL, natL, e2]
        omega
    exact this _ fun s hs => hlen (sn_ok h3 s hs)
  rw [l5] at a5
  have i3 : tkN c N (2 + m.live.length + m.snaps.length * (3 + m.live.length)) m.live.length = m.token := tk_at a5 hc hw.2 h4 (by omega) fun hne => by
    rcases tok_ok h4 with q | ⟨-, -, -, -, -, -, q⟩
    · exact absurd q.1 hne
    · exact hlen q
  rw [e0, hfb _ hl, e1, hfs _ h2]
  unfold mtN
  rw [i1, i2, i3]
theorem okD_mt {m : Mt} {s : ByteArray} (h : okD m s) : mtOf m m.live.length 1024 = 0 ∧ s = strOf (mtB m) := by
  obtain ⟨h1, h2⟩ := h
  have h3 : mtOf m m.live.length 1024 = 0 := by
    unfold encE at h1
    by_cases q : mtOf m m.live.length 1024 ≠ 0
    · rw [if_pos q] at h1; exact absurd h1 q
    · exact Classical.not_not.1 q
  refine ⟨h3, ?_⟩
  rw [← h2]
  unfold encM
  rw [if_pos h1]
theorem readM_wf (c : Nat) (hc : c ≤ 1048576) (fb fs : Nat → Nat) (s : ByteArray) : wfM (readM c fb fs s) := by
  have R := Rds.of (some s.data.toList)
  refine ⟨fun x hx => ?_, ?_⟩
  · obtain ⟨j, -, rfl⟩ := List.mem_map.1 hx
    exact ⟨u64_wf (R.lt _), u64_wf (R.lt _)⟩
  · show wfTk (tkN _ _ _ _)
    unfold tkN
    by_cases h : min (nAt (some s.data.toList) (2 + fb (nAt (some s.data.toList) 0) + fs (nAt (some s.data.toList) (1 + fb (nAt (some s.data.toList) 0))) * (3 + fb (nAt (some s.data.toList) 0)))) c = 1
    · rw [if_pos h]
      exact ⟨⟨u64_wf (R.lt _), u64_wf (R.lt _)⟩, ⟨u64_wf (R.lt _), u64_wf (R.lt _)⟩, lit_len (by unfold maxLen; omega), lit_len (by unfold maxLen; omega)⟩
    · rw [if_neg h]
      exact zeroT_wf
theorem capB_le {n : Nat} (h : n ≤ 8) : capB n = n := if_neg (by omega)
theorem capS_le {n : Nat} (h : n ≤ 20) : capS n = n := if_neg (by omega)
/-- bytes that are taken are read alike in whatever way -/
theorem read_ok {m : Mt} {s : ByteArray} (hw : wfM m) (h : okD m s) {c : Nat} {fb fs : Nat → Nat} (hc : 1024 ≤ c) (hfb : ∀ n, n ≤ 8 → fb n = n) (hfs : ∀ n, n ≤ 20 → fs n = n) : readM c fb fs s = m := by
  obtain ⟨h1, rfl⟩ := okD_mt h
  exact read_lay hw h1 hc hfb hfs _ [] (by rw [strOf_list, List.append_nil])
theorem dec_agree (s : ByteArray) {c c' : Nat} {fb fs fb' fs' : Nat → Nat} (hc : 1024 ≤ c ∧ c ≤ 1048576) (hfb : ∀ n, n ≤ 8 → fb n = n) (hfs : ∀ n, n ≤ 20 → fs n = n) (hc' : 1024 ≤ c' ∧ c' ≤ 1048576) (hfb' : ∀ n, n ≤ 8 → fb' n = n) (hfs' : ∀ n, n ≤ 20 → fs' n = n) :
    decM (readM c fb fs s) s = decM (readM c' fb' fs' s) s ∧ decZ (readM c fb fs s) s = decZ (readM c' fb' fs' s) s := by
  by_cases h : okD (readM c fb fs s) s
  · have := read_ok (readM_wf c hc.2 fb fs s) h hc'.1 hfb' hfs'
    rw [this]
    exact ⟨rfl, rfl⟩
  · by_cases h' : okD (readM c' fb' fs' s) s
    · have := read_ok (readM_wf c' hc'.2 fb' fs' s) h' hc.1 hfb hfs
      rw [this]
      exact ⟨rfl, rfl⟩
    · unfold decM decZ
      rw [if_neg h, if_neg h', if_neg h, if_neg h']
      exact ⟨rfl, rfl⟩
/-- what Encode gives is taken -/
theorem dec_enc {m : Mt} (hw : wfM m) (h : encE m = 0) : decM (readM 1024 capB capS (encM m)) (encM m) = m ∧ decZ (readM 1024 capB capS (encM m)) (encM m) = 0 := by
  have hok : okD m (encM m) := ⟨h, rfl⟩
  rw [read_ok hw hok (Nat.le_refl _) (fun _ => capB_le) (fun _ => capS_le)]
  exact ⟨if_pos hok, if_pos hok⟩
/-- of two tables' bytes neither is a beginning of the other's -/
theorem no_prefix {m m' : Mt} (hw : wfM m) (hw' : wfM m') (h : mtOf m m.live.length 1024 = 0) (h' : mtOf m' m'.live.length 1024 = 0) (rest : List UInt8) (he : mtB m = mtB m' ++ rest) : rest = [] := by
  have h1 := read_lay hw h (c := 1024) (Nat.le_refl _) (fun _ => capB_le) (fun _ => capS_le) (strOf (mtB m)) [] (by rw [strOf_list, List.append_nil])
  have h2 := read_lay hw' h' (c := 1024) (Nat.le_refl _) (fun _ => capB_le) (fun _ => capS_le) (strOf (mtB m)) rest (by rw [strOf_list, he])
  have e : m = m' := h1.symm.trans h2
  subst e
  have q := congrArg List.length he
  rw [List.length_append] at q
  exact List.eq_nil_of_length_eq_zero (by omega)
theorem dec_bad {s : ByteArray} (h : ¬ okD (readM 1024 capB capS s) s) : decZ (readM 1024 capB capS s) s = 4 := if_neg h
/-- no beginning of a table's bytes is taken -/
theorem cut_bad {m : Mt} (hw : wfM m) (h : encE m = 0) {k : Nat} (hk : k < (encM m).size) {s : ByteArray} (hs : s.data.toList = (encM m).data.toList.take k) : decZ (readM 1024 capB capS s) s = 4 := by
  refine dec_bad fun hok => ?_
  have hm := okD_mt (show okD m (encM m) from ⟨h, rfl⟩)
  have hq := okD_mt hok
  have hb : mtB (readM 1024 capB capS s) = (encM m).data.toList.take k := by
    have := congrArg (fun s : ByteArray => s.data.toList) hq.2
    simp only [strOf_list] at this
    rw [← this, hs]
  have hr := no_prefix hw (readM_wf 1024 (by decide) capB capS s) hm.1 hq.1 ((encM m).data.toList.drop k) (by
    rw [hb, List.take_append_drop]
    have := congrArg (fun s : ByteArray => s.data.toList) hm.2
    simp only [strOf_list] at this
    exact this.symm)
  have := congrArg List.length hr
  rw [List.length_drop, len_data] at this
  simp at this
  omega
/-- nor what has something behind it -/
theorem more_bad {m : Mt} (hw : wfM m) (h : encE m = 0) {s : ByteArray} {b : UInt8} (hs : s.data.toList = (encM m).data.toList ++ [b]) : decZ (readM 1024 capB capS s) s = 4 := by
  refine dec_bad fun hok => ?_
  have hm := okD_mt (show okD m (encM m) from ⟨h, rfl⟩)
  have hq := okD_mt hok
  have h1 := congrArg (fun s : ByteArray => s.data.toList) hm.2
  have h2 := congrArg (fun s : ByteArray => s.data.toList) hq.2
  simp only [strOf_list] at h1 h2
  have hr := no_prefix (readM_wf 1024 (by decide) capB capS s) hw hq.1 hm.1 [b] (by rw [← h2, hs, h1])
  cases hr
end Go.Proofs.Ytimgecflcackbaa
