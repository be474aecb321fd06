/-
  MESSAGES: vote, works (printed by wip/gen-msgw.py).
-/
import Derived.Test.YtikimmhkfjaijaaMsTV
namespace Go.Proofs.Ytikimmhkfjaijaa
open Go.RowKit Reg Go.ChangeShapes

def msV (m : Ms) : Array Value := msA m (.slice none 0 0) (.slice none 0 0) (.slice none 0 0)
theorem lit_in {m : Ms} (w : World) (he : m.es = []) (hl : m.l.l = []) (hc : m.p.cs = []) (hw : wfM m) : InMs w (.agg (msV m)) m :=
  ⟨.slice none 0 0, .slice none 0 0, .slice none 0 0, rfl, by rw [he]; exact ⟨none, 0, rfl, .inl rfl, Nat.zero_le _, (fun e he => by cases he), fun j hj => by cases hj⟩, by rw [hl]; exact InG.nil_ _, by rw [hc]; exact InC.nil_ _ _ _, hw⟩
/-- a yes of the term 1 -/
def voteM : Ms := ⟨2, 1, 0, 0, [], 0, true, 0, 0, ⟨0, 0, false, []⟩, 0, (0, 0), (0, 0), 0, zeroP⟩
def vote0 : Ms := ⟨2, 0, 0, 0, [], 0, false, 0, 0, ⟨0, 0, false, []⟩, 0, (0, 0), (0, 0), 0, zeroP⟩
theorem voteM_wf : wfM voteM := ⟨rfl, rfl, rfl, rfl, rfl, rfl, rfl, rfl, rfl, rfl, ⟨rfl, rfl⟩, ⟨rfl, rfl⟩, rfl, zero_wf⟩
theorem vote0_wf : wfM vote0 := ⟨rfl, rfl, rfl, rfl, rfl, rfl, rfl, rfl, rfl, rfl, ⟨rfl, rfl⟩, ⟨rfl, rfl⟩, rfl, zero_wf⟩
theorem voteM_may : mayM voteM = true := by decide +kernel
theorem vote0_may : mayM vote0 = false := by decide +kernel
theorem voteM_ok : MsOk voteM := ⟨voteM_may, voteM_wf, (fun e he => by cases he), fun e he => by cases he⟩
theorem voteM_check : checkB voteM = true := (checkB_ok voteM_ok).2 (by rfl)
theorem voteM_bytes : bytesM voteM = [1, 2, 1, 1, 1, 1] := by decide +kernel
theorem vote_enc : encM voteM = strOf (Crc.sealed [1, 2, 1, 1, 1, 1]) ∧ decM (encM voteM) = voteM ∧ decZ (encM voteM) = 0 ∧ checkM voteM = 0 := by
  obtain ⟨h1, h2, h3⟩ := enc_dec voteM_ok voteM_check
  refine ⟨by rw [h3, voteM_bytes], h2, ?_, ?_⟩
  · unfold decZ; rw [if_pos h1]
  · unfold checkM; rw [if_pos voteM_check]
theorem vote0_check : checkM vote0 = 2 := by
  unfold checkM checkB
  rw [vote0_may, Bool.false_and, if_neg (by decide)]
theorem zero_bytes : readOk [0] = false := by decide +kernel
theorem zero_dec : decZ (strOf (Crc.sealed [0])) = 4 := by
  unfold decZ
  rw [decOk_sealed, zero_bytes, Bool.false_and, if_neg (by decide)]
theorem same_vote : sameM voteM voteM = true := sameM_iff.2 rfl
theorem same_zero : sameM voteM zeroM = false := by
  cases h : sameM voteM zeroM with
  | false => rfl
  | true =>
    have := congrArg Ms.K (sameM_iff.1 h)
    cases this
theorem msV_one (m : Ms) : ((msV m).all fun x => x.oneCell') = true := msA_one _ _ _ _ _ _ _ _ _ _
theorem msV_size (m : Ms) : (Try.prog.info? 33).map (·.size) = some (msV m).size := msg_size m (.slice none 0 0) (.slice none 0 0) (.slice none 0 0)
def voteA : Array Value := #[.int .i64 2, .int .u64 1, .int .i64 0, .int .u64 0, .slice none 0 0, .int .i64 0, .bool true, .int .i64 0, .int .i64 0, .int .u64 0, .int .i64 0, .bool false, .slice none 0 0, .int .i64 0, .int .u64 0, .int .u64 0, .int .u64 0, .int .u64 0, .int .i64 0, .int .u64 0, .int .u64 0, .int .u64 0, .int .u64 0, .int .i64 0, .int .i64 0, .slice none 0 0]
theorem voteA_eq : voteA = msV voteM := rfl
theorem voteA_size : (Try.prog.info? 33).map (·.size) = some voteA.size := by rw [voteA_eq]; exact msV_size voteM
theorem results_cell1 {P : Program} {fn : Func} {tmps : Array Value} {w : World} {k : Nat} {ty : TypeId} {g : Nat} {t : TypeId} {cs : Array Value} {d : TypeDesc} (hr : fn.results = #[.cell k ty]) (ht : tmps.getD k undef = .pointer (some ⟨g, 0, none⟩)) (hb : Blk w g t cs)
    (hu : P.underlying ty = some d) (hd : (match d with | .struct _ | .array _ _ => true | _ => false) = true) (hi : (P.info? ty).map (·.size) = some cs.size) : (results fn tmps).run P w = .ok (.agg cs) w := by
  have := run_loadVar_row (P := P) w g t ty cs (0, 0) d hb hu hd hi
  have ht2 : tmps[k]?.getD undef = .pointer (some ⟨g, 0, none⟩) := by simpa using ht
  simp [results, hr, ht2, asAddr, this]
theorem mvote_any (w : World) : Calls Try.prog 14 #[] w fun e w' => e = .returned (.agg (msV voteM)) ∧ Below w.heap.size w w' := by
  rw [← voteA_eq]
  have HZ := Lib.hid (Blk.new w 33 zeroA)
  have HB := Lib.hid ((Below.refl w.heap.size w).alloc (Nat.le_refl _) (Obj.cells zeroA 33))
  have HFIN : Hid (∀ w2, w2 = (w.alloc (.cells zeroA 33)).setRow w.heap.size voteA → Blk w2 w.heap.size 33 voteA ∧ Below w.heap.size w w2) := Lib.hid fun w2 h => by
    rw [h]
    exact ⟨HZ.out.row _, Below.setRow HB.out (Nat.le_refl _) _⟩
  have HS := Lib.hid voteA_size
  have HO := Lib.hid (show (voteA.all fun x => x.oneCell') = true by rw [voteA_eq]; exact msV_one voteM)
  go_enter Try.func14, Try.ntmps14
  go_wp2_with (first | refine wpList_store_then rfl 33 _ _ rfl w.heap.size voteA rfl rfl 33 _ HZ.out HS.out rfl HO.out ?_)
  refine Later.mk fun w4 hw4 => ?_
  have HF := Lib.hid (HFIN.out w4 hw4)
  clear hw4
  go_wp2
  refine bodyPost_ret (results_cell1 (ty := 33) (g := w.heap.size) (k := 0) rfl rfl HF.out.1 Try.underlying33 rfl HS.out) rfl ?_
  exact ⟨rfl, HF.out.2⟩
set_option maxRecDepth 100000 in
set_option maxHeartbeats 4000000 in
theorem works_any (w : World) : Calls Try.prog 7 #[] w fun e w' => e = .returned (.bool true) ∧ Below w.heap.size w w' := by
  obtain ⟨v1, v2, v3, v4⟩ := vote_enc
  obtain ⟨E, hE⟩ : ∃ E, E = strOf (Crc.sealed [1, 2, 1, 1, 1, 1]) := ⟨_, rfl⟩
  obtain ⟨Z, hZ⟩ : ∃ E, E = strOf (Crc.sealed [0]) := ⟨_, rfl⟩
  have hsz : E.size ≤ 1152921504606846976 ∧ Z.size ≤ 1152921504606846976 := by
    rw [hE, hZ, size_strOf, size_strOf, Crc.length_sealed, Crc.length_sealed]
    exact ⟨by decide, by decide⟩
  rw [v1] at v2 v3
  rw [← hE] at v1 v2 v3
  have z3 := zero_dec
  rw [← hZ] at z3
  have HENC := Lib.hid (fun w2 => mencode_any w2 (.agg (msV voteM)) voteM (lit_in w2 rfl rfl rfl voteM_wf))
  rw [v1, v4] at HENC
  have HDEC := Lib.hid (fun w2 => mdecode_any w2 E hsz.1)
  rw [v2, v3] at HDEC
  have HDZ := Lib.hid (fun w2 => mdecode_any w2 Z hsz.2)
  rw [z3] at HDZ
  unfold DecM at HDEC HDZ
  have HSZ := Lib.hid (fun w2 => seal_any (strOf [0]) w2 (by unfold maxLen; rw [size_strOf]; decide))
  rw [strOf_list, ← hZ] at HSZ
  have HSE := Lib.hid (fun w2 => seal_any (strOf [1, 2, 1, 1, 1, 1]) w2 (by unfold maxLen; rw [size_strOf]; decide))
  rw [strOf_list, ← hE] at HSE
  have HCK := Lib.hid (fun w2 => mcheck_any w2 (.agg (msV vote0)) vote0 (lit_in w2 rfl rfl rfl vote0_wf))
  rw [vote0_check] at HCK
  have HS1 := Lib.hid (fun w2 u (h : InMs w2 u voteM) => msame_any w2 u (.agg (msV voteM)) voteM voteM h (lit_in w2 rfl rfl rfl voteM_wf))
  rw [same_vote] at HS1
  have HS2 := Lib.hid (fun w2 u (h : InMs w2 u voteM) => msame_any w2 u (.agg (msV zeroM)) voteM zeroM h (lit_in w2 rfl rfl rfl zeroM_wf))
  rw [same_zero] at HS2
  have HV := Lib.hid mvote_any
  have hEE : (E.toList == E.toList) = true := by simp
  clear hE hZ hsz v1 v2 v3 v4 z3
  go_enter Try.func7, Try.ntmps7
  go_wp2_with fail
  refine (HV.out _).mono ?_
  rintro e w1 ⟨rfl, hb⟩
  have HB1 := Lib.hid hb
  clear hb
  go_wp2_with fail
  refine (HENC.out _).mono ?_
  rintro e w2 ⟨rfl, hb⟩
  have HB2 := Lib.hid (HB1.out.trans (hb.mono HB1.out.size))
  clear hb HENC
  go_wp2_with fail
  refine (HDEC.out _).mono ?_
  rintro e w3 ⟨u, rfl, hu, hb⟩
  obtain ⟨ua, b1, b2, b3, d1, d2, d3, rfl, uone, usz, uma, -, -, -, -⟩ := ms_cells hu
  have HB3 := Lib.hid (HB2.out.trans (hb.mono HB2.out.size))
  have HU := Lib.hid hu
  have UONE := Lib.hid uone
  have USZ := Lib.hid usz
  have USZ2 : Hid (zeroA.size = ua.size) := Lib.hid (by rw [uma]; rfl)
  clear hb hu uone usz uma HDEC
  have HZ := Lib.hid (Blk.new w3 33 zeroA)
  go_wp2_with (first | refine wpList_store_then rfl 33 _ _ rfl w3.heap.size ua rfl rfl 33 _ HZ.out USZ.out USZ2.out UONE.out ?_)
  refine Later.mk fun w4 hw4 => ?_
  have hal : Below w3.heap.size w3 w4 := by
    rw [hw4]
    exact Below.setRow ((Below.refl w3.heap.size w3).alloc (Nat.le_refl _) (Obj.cells zeroA 33)) (Nat.le_refl _) _
  have HUA : Hid (Blk w4 w3.heap.size 33 ua) := Lib.hid (by rw [hw4]; exact HZ.out.row _)
  have HU4 := Lib.hid (HU.out.keep hal)
  have HB4 := Lib.hid (HB3.out.trans (hal.mono HB3.out.size))
  clear hal hw4 HZ HU
  go_wp2_with fail
  refine (HSZ.out _).mono ?_
  rintro e w5 ⟨rfl, hb⟩
  have HB5 := Lib.hid (HB4.out.trans (hb.mono HB4.out.size))
  have HUA5 := Lib.hid (HUA.out.keep hb)
  have HU5 := Lib.hid (HU4.out.keep hb)
  clear hb
  go_wp2_with fail
  refine (HDZ.out _).mono ?_
  rintro e w6 ⟨y, rfl, hy, hb⟩
  obtain ⟨ya, b1, b2, b3, d1, d2, d3, rfl, yone, ysz, yma, -, -, -, -⟩ := ms_cells hy
  have HB6 := Lib.hid (HB5.out.trans (hb.mono HB5.out.size))
  have HUA6 := Lib.hid (HUA5.out.keep hb)
  have HU6 := Lib.hid (HU5.out.keep hb)
  have YONE := Lib.hid yone
  have YSZ := Lib.hid ysz
  have YSZ2 : Hid (zeroA.size = ya.size) := Lib.hid (by rw [yma]; rfl)
  clear hb hy yone ysz yma HDZ HUA HU4 HUA5 HU5
  have HZ := Lib.hid (Blk.new w6 33 zeroA)
  go_wp2_with (first | refine wpList_store_then rfl 33 _ _ rfl w6.heap.size ya rfl rfl 33 _ HZ.out YSZ.out YSZ2.out YONE.out ?_)
  refine Later.mk fun w7 hw7 => ?_
  have hal : Below w6.heap.size w6 w7 := by
    rw [hw7]
    exact Below.setRow ((Below.refl w6.heap.size w6).alloc (Nat.le_refl _) (Obj.cells zeroA 33)) (Nat.le_refl _) _
  have HUA7 := Lib.hid (HUA6.out.keep hal)
  have HU7 := Lib.hid (HU6.out.keep hal)
  have HB7 := Lib.hid (HB6.out.trans (hal.mono HB6.out.size))
  clear hal hw7 HZ HUA6 HU6
  go_wp2_with fail
  refine wp_region_chain [4, 13, 14, 19, 28] (kv [(4, .is (.string E)), (13, .is (.agg (msV voteM))), (14, .is (.bool true)), (19, .is (.bool false)), (28, .is (.int .i64 2))]) (fun _ w => Below (w7).heap.size (w7) w) (by kernel_rfl) (by kernel_rfl) (by kernel_rfl) (kv_inh _) (Below.drew (Below.refl _ _)) ?_
  intro ν hν
  have n4 : ν 4 = .string E := hν 4
  have n13 : ν 13 = .agg (msV voteM) := hν 13
  have n14 : ν 14 = .bool true := hν 14
  have n19 : ν 19 = .bool false := hν 19
  have n28 : ν 28 = .int .i64 2 := hν 28
  clear hν
  refine ch_plain 0 5 1 (by rfl) rfl (by kernel_rfl) (by kernel_rfl) ?_
  apply Exists.intro
  refine ⟨fun st w2 hlo hhi hJ => ?_, ?_⟩
  · clear hlo hhi hJ
    go_simp
    exact And.intro rfl rfl
  simp only [Act.put, List.setIfInBounds_toArray, List.set_cons_succ, List.set_cons_zero, Nat.reduceAdd]
  refine ch_plain 0 5 1 (by rfl) rfl (by kernel_rfl) (by kernel_rfl) ?_
  apply Exists.intro
  refine ⟨fun st w2 hlo hhi hJ => ?_, ?_⟩
  · clear hlo hhi hJ
    go_simp
    exact And.intro rfl rfl
  simp only [Act.put, List.setIfInBounds_toArray, List.set_cons_succ, List.set_cons_zero, Nat.reduceAdd]
  refine ch_plain 0 5 1 (by rfl) rfl (by kernel_rfl) (by kernel_rfl) ?_
  apply Exists.intro
  refine ⟨fun st w2 hlo hhi hJ => ?_, ?_⟩
  · clear hlo hhi hJ
    go_simp
    exact And.intro rfl rfl
  simp only [Act.put, List.setIfInBounds_toArray, List.set_cons_succ, List.set_cons_zero, Nat.reduceAdd]
  refine ch_plain 0 5 1 (by rfl) rfl (by kernel_rfl) (by kernel_rfl) ?_
  apply Exists.intro
  refine ⟨fun st w2 hlo hhi hJ => ?_, ?_⟩
  · clear hlo hhi hJ
    go_simp
    exact And.intro rfl rfl
  simp only [Act.put, List.setIfInBounds_toArray, List.set_cons_succ, List.set_cons_zero, Nat.reduceAdd]
  refine ch_special 0 6 (by rfl) rfl (by decide) (by kernel_rfl) (fun w2 hJ => ?_) ?_
  · replace hJ : Below (w7).heap.size (w7) w2 := hJ
    go_simp
    refine (HSE.out w2).mono ?_
    rintro e w3 ⟨rfl, hb⟩
    exact ⟨_, rfl, rfl, hJ.trans (hb.mono hJ.size)⟩
  rw [n4]
  simp only [Act.put, List.setIfInBounds_toArray, List.set_cons_succ, List.set_cons_zero, Nat.reduceAdd]
  refine ch_plain 0 5 1 (by rfl) rfl (by kernel_rfl) (by kernel_rfl) ?_
  apply Exists.intro
  refine ⟨fun st w2 hlo hhi hJ => ?_, ?_⟩
  · clear hlo hhi hJ
    go_simp
    exact And.intro rfl rfl
  simp only [Act.put, List.setIfInBounds_toArray, List.set_cons_succ, List.set_cons_zero, Nat.reduceAdd]
  refine ch_plain 0 5 1 (by rfl) rfl (by kernel_rfl) (by kernel_rfl) ?_
  apply Exists.intro
  refine ⟨fun st w2 hlo hhi hJ => ?_, ?_⟩
  · clear hlo hhi hJ
    go_simp
    exact And.intro rfl rfl
  simp only [Act.put, List.setIfInBounds_toArray, List.set_cons_succ, List.set_cons_zero, Nat.reduceAdd]
  refine ch_plain 0 5 1 (by rfl) rfl (by kernel_rfl) (by kernel_rfl) ?_
  apply Exists.intro
  refine ⟨fun st w2 hlo hhi hJ => ?_, ?_⟩
  · clear hlo hhi hJ
    go_simp
    exact And.intro rfl rfl
  simp only [Act.put, List.setIfInBounds_toArray, List.set_cons_succ, List.set_cons_zero, Nat.reduceAdd]
  refine ch_plain 0 5 1 (by rfl) rfl (by kernel_rfl) (by kernel_rfl) ?_
  apply Exists.intro
  refine ⟨fun st w2 hlo hhi hJ => ?_, ?_⟩
  · clear hlo hhi hJ
    go_simp
    exact And.intro rfl rfl
  simp only [Act.put, List.setIfInBounds_toArray, List.set_cons_succ, List.set_cons_zero, Nat.reduceAdd]
  refine ch_plain 0 5 1 (by rfl) rfl (by kernel_rfl) (by kernel_rfl) ?_
  apply Exists.intro
  refine ⟨fun st w2 hlo hhi hJ => ?_, ?_⟩
  · clear hlo hhi hJ
    go_simp
    exact And.intro rfl rfl
  simp only [Act.put, List.setIfInBounds_toArray, List.set_cons_succ, List.set_cons_zero, Nat.reduceAdd]
  refine ch_plain 0 5 1 (by rfl) rfl (by kernel_rfl) (by kernel_rfl) ?_
  apply Exists.intro
  refine ⟨fun st w2 hlo hhi hJ => ?_, ?_⟩
  · clear hlo hhi hJ
    go_simp
    exact And.intro rfl rfl
  simp only [Act.put, List.setIfInBounds_toArray, List.set_cons_succ, List.set_cons_zero, Nat.reduceAdd]
  refine ch_plain 0 5 1 (by rfl) rfl (by kernel_rfl) (by kernel_rfl) ?_
  apply Exists.intro
  refine ⟨fun st w2 hlo hhi hJ => ?_, ?_⟩
  · clear hlo hhi hJ
    go_simp
    exact And.intro rfl rfl
  simp only [Act.put, List.setIfInBounds_toArray, List.set_cons_succ, List.set_cons_zero, Nat.reduceAdd]
  refine ch_plain 0 5 1 (by rfl) rfl (by kernel_rfl) (by kernel_rfl) ?_
  apply Exists.intro
  refine ⟨fun st w2 hlo hhi hJ => ?_, ?_⟩
  · have hJ' : Below w7.heap.size w7 w2 := hJ
    have hy := HUA7.out.keep hJ'
    clear hlo hhi hJ hJ'
    rw [exec_load_blk 33 _ rfl w3.heap.size rfl _ hy Try.underlying33 rfl USZ.out]
    exact And.intro rfl rfl
  simp only [Act.put, List.setIfInBounds_toArray, List.set_cons_succ, List.set_cons_zero, Nat.reduceAdd]
  refine ch_special 1 6 (by rfl) rfl (by decide) (by kernel_rfl) (fun w2 hJ => ?_) ?_
  · replace hJ : Below (w7).heap.size (w7) w2 := hJ
    go_simp
    refine (HV.out w2).mono ?_
    rintro e w3 ⟨rfl, hb⟩
    exact ⟨_, rfl, rfl, hJ.trans (hb.mono hJ.size)⟩
  rw [n13]
  simp only [Act.put, List.setIfInBounds_toArray, List.set_cons_succ, List.set_cons_zero, Nat.reduceAdd]
  refine ch_special 2 6 (by rfl) rfl (by decide) (by kernel_rfl) (fun w2 hJ => ?_) ?_
  · replace hJ : Below (w7).heap.size (w7) w2 := hJ
    go_simp
    refine (HS1.out w2 _ (HU7.out.keep hJ)).mono ?_
    rintro e w3 ⟨rfl, hb⟩
    exact ⟨_, rfl, rfl, hJ.trans (hb.mono hJ.size)⟩
  rw [n14]
  simp only [Act.put, List.setIfInBounds_toArray, List.set_cons_succ, List.set_cons_zero, Nat.reduceAdd]
  refine ch_plain 0 5 1 (by rfl) rfl (by kernel_rfl) (by kernel_rfl) ?_
  apply Exists.intro
  refine ⟨fun st w2 hlo hhi hJ => ?_, ?_⟩
  · clear hlo hhi hJ
    go_simp
    exact And.intro rfl rfl
  simp only [Act.put, List.setIfInBounds_toArray, List.set_cons_succ, List.set_cons_zero, Nat.reduceAdd]
  refine ch_plain 0 5 1 (by rfl) rfl (by kernel_rfl) (by kernel_rfl) ?_
  apply Exists.intro
  refine ⟨fun st w2 hlo hhi hJ => ?_, ?_⟩
  · clear hlo hhi hJ
    go_simp
    exact And.intro rfl rfl
  simp only [Act.put, List.setIfInBounds_toArray, List.set_cons_succ, List.set_cons_zero, Nat.reduceAdd]
  refine ch_plain 0 5 1 (by rfl) rfl (by kernel_rfl) (by kernel_rfl) ?_
  apply Exists.intro
  refine ⟨fun st w2 hlo hhi hJ => ?_, ?_⟩
  · have hJ' : Below w7.heap.size w7 w2 := hJ
    have hy := HUA7.out.keep hJ'
    clear hlo hhi hJ hJ'
    rw [exec_load_blk 33 _ rfl w3.heap.size rfl _ hy Try.underlying33 rfl USZ.out]
    exact And.intro rfl rfl
  simp only [Act.put, List.setIfInBounds_toArray, List.set_cons_succ, List.set_cons_zero, Nat.reduceAdd]
  refine ch_plain 0 5 1 (by rfl) rfl (by kernel_rfl) (by kernel_rfl) ?_
  apply Exists.intro
  refine ⟨fun st w2 hlo hhi hJ => ?_, ?_⟩
  · clear hlo hhi hJ
    go_simp
    exact And.intro rfl rfl
  simp only [Act.put, List.setIfInBounds_toArray, List.set_cons_succ, List.set_cons_zero, Nat.reduceAdd]
  refine ch_special 3 6 (by rfl) rfl (by decide) (by kernel_rfl) (fun w2 hJ => ?_) ?_
  · replace hJ : Below (w7).heap.size (w7) w2 := hJ
    go_simp
    refine (HS2.out w2 _ (HU7.out.keep hJ)).mono ?_
    rintro e w3 ⟨rfl, hb⟩
    exact ⟨_, rfl, rfl, hJ.trans (hb.mono hJ.size)⟩
  rw [n19]
  simp only [Act.put, List.setIfInBounds_toArray, List.set_cons_succ, List.set_cons_zero, Nat.reduceAdd]
  refine ch_plain 0 5 1 (by rfl) rfl (by kernel_rfl) (by kernel_rfl) ?_
  apply Exists.intro
  refine ⟨fun st w2 hlo hhi hJ => ?_, ?_⟩
  · clear hlo hhi hJ
    go_simp
    exact And.intro rfl rfl
  simp only [Act.put, List.setIfInBounds_toArray, List.set_cons_succ, List.set_cons_zero, Nat.reduceAdd]
  refine ch_plain 0 5 1 (by rfl) rfl (by kernel_rfl) (by kernel_rfl) ?_
  apply Exists.intro
  refine ⟨fun st w2 hlo hhi hJ => ?_, ?_⟩
  · clear hlo hhi hJ
    go_simp
    exact And.intro rfl rfl
  simp only [Act.put, List.setIfInBounds_toArray, List.set_cons_succ, List.set_cons_zero, Nat.reduceAdd]
  refine ch_plain 0 5 1 (by rfl) rfl (by kernel_rfl) (by kernel_rfl) ?_
  apply Exists.intro
  refine ⟨fun st w2 hlo hhi hJ => ?_, ?_⟩
  · clear hlo hhi hJ
    go_simp
    exact And.intro rfl rfl
  simp only [Act.put, List.setIfInBounds_toArray, List.set_cons_succ, List.set_cons_zero, Nat.reduceAdd]
  refine ch_plain 0 5 1 (by rfl) rfl (by kernel_rfl) (by kernel_rfl) ?_
  apply Exists.intro
  refine ⟨fun st w2 hlo hhi hJ => ?_, ?_⟩
  · clear hlo hhi hJ
    go_simp
    exact And.intro rfl rfl
  simp only [Act.put, List.setIfInBounds_toArray, List.set_cons_succ, List.set_cons_zero, Nat.reduceAdd]
  refine ch_plain 0 5 1 (by rfl) rfl (by kernel_rfl) (by kernel_rfl) ?_
  apply Exists.intro
  refine ⟨fun st w2 hlo hhi hJ => ?_, ?_⟩
  · clear hlo hhi hJ
    go_simp
    exact And.intro rfl rfl
  simp only [Act.put, List.setIfInBounds_toArray, List.set_cons_succ, List.set_cons_zero, Nat.reduceAdd]
  refine ch_plain 0 5 1 (by rfl) rfl (by kernel_rfl) (by kernel_rfl) ?_
  apply Exists.intro
  refine ⟨fun st w2 hlo hhi hJ => ?_, ?_⟩
  · clear hlo hhi hJ
    go_simp
    exact And.intro rfl rfl
  simp only [Act.put, List.setIfInBounds_toArray, List.set_cons_succ, List.set_cons_zero, Nat.reduceAdd]
  refine ch_plain 0 5 1 (by rfl) rfl (by kernel_rfl) (by kernel_rfl) ?_
  apply Exists.intro
  refine ⟨fun st w2 hlo hhi hJ => ?_, ?_⟩
  · clear hlo hhi hJ
    go_simp
    exact And.intro rfl rfl
  simp only [Act.put, List.setIfInBounds_toArray, List.set_cons_succ, List.set_cons_zero, Nat.reduceAdd]
  refine ch_plain 0 5 1 (by rfl) rfl (by kernel_rfl) (by kernel_rfl) ?_
  apply Exists.intro
  refine ⟨fun st w2 hlo hhi hJ => ?_, ?_⟩
  · clear hlo hhi hJ
    go_simp
    exact And.intro rfl rfl
  simp only [Act.put, List.setIfInBounds_toArray, List.set_cons_succ, List.set_cons_zero, Nat.reduceAdd]
  refine ch_special 4 6 (by rfl) rfl (by decide) (by kernel_rfl) (fun w2 hJ => ?_) ?_
  · replace hJ : Below (w7).heap.size (w7) w2 := hJ
    go_simp
    refine (HCK.out w2).mono ?_
    rintro e w3 ⟨rfl, hb⟩
    exact ⟨_, rfl, rfl, hJ.trans (hb.mono hJ.size)⟩
  rw [n28]
  simp only [Act.put, List.setIfInBounds_toArray, List.set_cons_succ, List.set_cons_zero, Nat.reduceAdd]
  refine ch_plain 0 5 1 (by rfl) rfl (by kernel_rfl) (by kernel_rfl) ?_
  apply Exists.intro
  refine ⟨fun st w2 hlo hhi hJ => ?_, ?_⟩
  · clear hlo hhi hJ
    go_simp
    exact And.intro rfl rfl
  simp only [Act.put, List.setIfInBounds_toArray, List.set_cons_succ, List.set_cons_zero, Nat.reduceAdd]
  refine ch_plain 0 5 1 (by rfl) rfl (by kernel_rfl) (by kernel_rfl) ?_
  apply Exists.intro
  refine ⟨fun st w2 hlo hhi hJ => ?_, ?_⟩
  · clear hlo hhi hJ
    go_simp
    exact And.intro rfl rfl
  simp only [Act.put, List.setIfInBounds_toArray, List.set_cons_succ, List.set_cons_zero, Nat.reduceAdd]
  refine ch_plain 0 5 1 (by rfl) rfl (by kernel_rfl) (by kernel_rfl) ?_
  apply Exists.intro
  refine ⟨fun st w2 hlo hhi hJ => ?_, ?_⟩
  · clear hlo hhi hJ
    go_simp
    exact And.intro rfl rfl
  simp only [Act.put, Nat.reduceAdd]
  refine ch_nil (fun w5 hJ => ?_)
  replace hJ : Below (w7).heap.size (w7) w5 := hJ
  clear n4 n13 n14 n19 n28
  have HB8 := Lib.hid (HB7.out.trans (hJ.mono HB7.out.size))
  clear hJ
  go_wp2
  go_ret
  exact ⟨rfl, HB8.out⟩
end Go.Proofs.Ytikimmhkfjaijaa
