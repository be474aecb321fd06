/-
  A MODEL: Write and Snap (printed by wip/gen-model2.py).
-/
import Derived.Test.YtfeinafbimpjnaaModel
import Derived.Laws.CopyRow
import Derived.Lib.SlBuf
namespace Go.Proofs.Ytfeinafbimpjnaa
open Go.RowKit Reg Go.WideShapes Go.ChangeShapes

def bytesI (d : ByteArray) : List Int := d.data.toList.map fun x => (x.toNat : Int)
def putV (v : Vol) (b : Nat) (d : ByteArray) : Vol := v.take (32 * b) ++ bytesI d ++ v.drop (32 * b + 32)
theorem bytesI_wf (d : ByteArray) : ∀ x ∈ bytesI d, 0 ≤ x ∧ x < 256 := by
  intro x hx
  obtain ⟨y, _, rfl⟩ := List.mem_map.1 hx
  have := y.toNat_lt
  omega
theorem putV_wf {v : Vol} {b : Nat} {d : ByteArray} (hv : wfV v) (hb : b < 8) (hd : d.size = 32) : wfV (putV v b d) := by
  have hl : (bytesI d).length = 32 := by
    have : d.data.toList.length = d.size := by rw [Array.length_toList]; rfl
    simp only [bytesI, List.length_map]
    omega
  refine ⟨?_, fun x hx => ?_⟩
  · have := hv.1
    simp only [putV, List.length_append, List.length_take, List.length_drop, hl]
    omega
  · simp only [putV, List.mem_append] at hx
    rcases hx with (hx | hx) | hx
    · exact hv.2 x (List.mem_of_mem_take hx)
    · exact bytesI_wf d x hx
    · exact hv.2 x (List.mem_of_mem_drop hx)
theorem block_info : (Try.prog.info? 5).map (fun i => i.size) = some 1 := by kernel_rfl
/-- copy of a whole string over a part of a row -/
theorem run_copy_text {w : World} (ty : TypeId) (g off c : Nat) (cur : Array Value) (t : TypeId) (hg : w.heap[g]? = some (.cells cur t (0, 0))) (s : ByteArray) (n : Nat) (hs : s.size = n) (hfit : off + n ≤ cur.size) :
    (Builtin.copy_ #[66, 9] ty #[.slice (some ⟨g, off, none⟩) n c, .string s]).run Try.prog w = .ok (goInt n) (w.setRow g (cur.toList.take off ++ (s.data.toList.map fun b => Value.int .u8 b.toNat) ++ cur.toList.drop (off + n)).toArray) := by
  obtain ⟨i, hi⟩ : ∃ i, Try.prog.info? 5 = some i := by
    have h := block_info
    cases h2 : Try.prog.info? 5 with
    | none => rw [h2] at h; cases h
    | some i => exact ⟨i, rfl⟩
  have hl : (s.data.toList.map fun b => Value.int .u8 (b.toNat : Int)).length = n := by
    rw [List.length_map, Array.length_toList]
    exact hs
  have hst := run_storeCells_at (P := Try.prog) g off t (s.data.toList.map fun b => Value.int .u8 (b.toNat : Int)) 0 cur w hg (by rw [hl]; omega) (by
    intro v hv
    obtain ⟨y, _, rfl⟩ := List.mem_map.1 hv
    rfl)
  rw [hl] at hst
  simp only [Nat.add_zero] at hst
  have hmin2 : Nat.min n n = n := Nat.min_self n
  have htk : List.take n (s.data.toList.map fun b => Value.int .u8 (b.toNat : Int)) = (s.data.toList.map fun b => Value.int .u8 (b.toNat : Int)) := List.take_of_length_le (by omega)
  simp [Builtin.copy_, run_underlying Try.underlying66, Builtin.lenOf, Builtin.firstCells, sizeOf, typeInfo, hi, hs, htk, hst, hmin2, Result.andThen]
def Mdl.write (S : Mdl) (e b : Int) (d : ByteArray) : Mdl := if 0 ≤ b ∧ b < S.n ∧ d.size = 32 then (match S.live e with | some v => { S with live := up S.live e (putV v b.toNat d) } | none => S) else S
theorem volC_put (v : Vol) (b : Nat) (d : ByteArray) : ((volC v).toList.take (b * 32) ++ (d.data.toList.map fun x => Value.int .u8 x.toNat) ++ (volC v).toList.drop (b * 32 + 32)).toArray = volC (putV v b d) := by
  unfold volC putV bytesI
  simp only [List.map_append, List.map_take, List.map_drop, List.map_map]
  rw [Nat.mul_comm b 32]
  rfl
set_option maxRecDepth 100000 in
theorem write_any (w : World) (bm bl bi : Nat) (S : Mdl) (e b : Int) (d : ByteArray) (h : Md w bm bl bi S) (he : (Lit.int .u64 e).wf = true) (hd : d.size ≤ maxLen) :
    Calls Try.prog 12 #[.pointer (some ⟨bm, 0, none⟩), .int .u64 e, .int .i64 b, .string d] w fun e' w' => e' = .returned (.tuple #[]) ∧ Md w' bm bl bi (S.write e b d) ∧ Kp (fp bm bl bi) w w' := by
  unfold maxLen at hd
  obtain ⟨sl, hbk, -⟩ := h.obj
  have c0 := hbk.cell 0
  have c1 := hbk.cell 1
  simp at c0 c1
  obtain ⟨S', hS'⟩ : ∃ S', S' = S.write e b d := ⟨_, rfl⟩
  rw [← hS']
  by_cases hc : 0 ≤ b ∧ b < S.n ∧ d.size = 32
  · obtain ⟨hc0, hc1, hc2⟩ := hc
    have hw : S' = (match S.live e with | some v => { S with live := up S.live e (putV v b.toNat d) } | none => S) := by rw [hS', Mdl.write, if_pos ⟨hc0, hc1, hc2⟩]
    have hn8 := h.n.2
    obtain ⟨k, rfl⟩ : ∃ k : Nat, b = k := ⟨b.toNat, by omega⟩
    simp only [Int.toNat_natCast] at hw
    have hk8 : k < 8 := by omega
    have hki : (k : Int) < 8 := by omega
    have hz := vol_zero
    have hlk := h.look_live he true
    have hlv : wfV ((S.live e).getD zeroV) := by
      cases hq : S.live e with
      | none => exact zeroV_wf
      | some v => exact h.wl e v hq
    have hsz := volC_size hlv
    have hzs := volC_size zeroV_wf
    unfold encV at hlk hz
    simp only [if_true] at hlk
    have hone := volC_one ((S.live e).getD zeroV)
    have hput := volC_put ((S.live e).getD zeroV) k d
    have hpw := putV_wf hlv hk8 hc2
    have hup : ∀ w2, Md w2 bm bl bi S → _ := fun w2 h2 => h2.put_live he hpw
    unfold encV at hup
    have hlq : ∀ v, S.live e = some v → (S.live e).getD zeroV = v := fun v h => by rw [h]; rfl
    generalize (S.live e).getD zeroV = lv at *
    have hps := volC_size hpw
    generalize volC (putV lv k d) = pv at *
    have HSP := Lib.hid (show (Try.prog.info? 63).map (fun i => i.size) = some pv.size by rw [hps]; exact vol_size)
    clear hps
    generalize volC lv = cv at *
    generalize volC zeroV = zc at *
    generalize hse : S.live e = q at *
    have hsc : (Try.prog.info? 63).map (fun i => i.size) = some cv.size := by rw [hsz]; exact vol_size
    have b6 := Blk.new w 63 zc
    have hb2 := (Below.refl w.heap.size w).alloc (Nat.le_refl _) (Obj.cells zc 63)
    have h2 : ∀ w6, w6 = (w.alloc (Obj.cells zc 63)).setRow w.heap.size cv → Below w.heap.size w w6 ∧ Blk w6 w.heap.size 63 cv := by
      rintro w6 rfl
      exact ⟨Below.setRow hb2 (Nat.le_refl _) _, b6.row _⟩
    have B6 := Lib.hid b6
    have HSC := Lib.hid hsc
    have HZS := Lib.hid (hzs.trans hsz.symm)
    have HSZ := Lib.hid hsz
    have HONE := Lib.hid hone
    have H2 := Lib.hid h2
    have HM := Lib.hid h
    have HUP := Lib.hid hup
    have HPUT := Lib.hid hput
    have hc2i : ((d.size : Nat) : Int) = 32 := by omega
    have HC2 := Lib.hid hc2
    generalize hdn : d.size = dn at hd hc2 hc2i
    subst hc2
    have hki2 : ¬ ((k : Int) < 0) := by omega
    have hki3 : ¬ (S.n ≤ (k : Int)) := by omega
    have HBM := Lib.hid hbk
    have HNE := Lib.hid (h.ne_l hbk)
    have hcp : ∀ w6, Blk w6 w.heap.size 63 cv → (Builtin.copy_ #[66, 9] 3 #[.slice (some ⟨w.heap.size, k * 32, none⟩) 32 32, .string d]).run Try.prog w6 = .ok (goInt (32 : Nat)) (w6.setRow w.heap.size pv) := fun w6 hb => by
      rw [← HPUT.out]
      exact run_copy_text _ _ (k * 32) 32 cv _ hb d 32 HC2.out (by have := HSZ.out; omega)
    have HCP := Lib.hid hcp
    clear hsz hzs hone hlv b6 hsc hb2 h2 hup hput hpw h hbk hS' hn8 hc2i hd hcp
    cases q with
    | none =>
      obtain rfl := hw
      go_enter Try.func12, Try.ntmps12
      go_wp2_with (refine wpList_store_then rfl 63 _ _ rfl w.heap.size cv rfl rfl 63 _ B6.out HSC.out HZS.out HONE.out ?_)
      refine Later.mk fun w6 hw6 => ?_
      have HB6 := Lib.hid (H2.out w6 hw6).1
      clear hw6 c0 c1 hlk hz hdn
      go_wp2
      go_end0
      exact ⟨rfl, HM.out.keep HB6.out, Kp.of_below HB6.out⟩
    | some v0 =>
      go_enter Try.func12, Try.ntmps12
      go_wp2_with (refine wpList_store_then rfl 63 _ _ rfl w.heap.size cv rfl rfl 63 _ B6.out HSC.out HZS.out HONE.out ?_)
      refine Later.mk fun w6 hw6 => ?_
      have HB6 := Lib.hid (H2.out w6 hw6).1
      have HV6 := Lib.hid (H2.out w6 hw6).2
      clear hw6 c0 c1 hlk hz hdn
      obtain rfl := hlq v0 rfl
      have hcp := HCP.out w6 HV6.out
      clear HCP
      go_wp2_with fail
      have hb7 : Below w.heap.size w (w6.setRow w.heap.size pv) := Below.setRow HB6.out (Nat.le_refl _) _
      have hv7 : Blk (w6.setRow w.heap.size pv) w.heap.size 63 pv := HV6.out.row _
      have HM7 := Lib.hid (HM.out.keep hb7)
      have HBM7 := Lib.hid (HBM.out.keep hb7)
      have HNX := Lib.hid (show ¬ w.heap.size = bl from fun e => HM7.out.not_l (t := 63) (cs := pv) (by rw [← e]; exact hv7))
      have HB7 := Lib.hid hb7
      have HV7 := Lib.hid hv7
      clear hb7 hv7 hcp
      generalize w6.setRow w.heap.size pv = w7 at *
      refine wp_region_spec (fun i => i == 6) (kinds [(6, .is undef)]) (UC w7 bl 6 (fun w => Md w bm bl bi S) (fun w => Md w bm bl bi { S with live := up S.live e (putV lv k d) })) (by kernel_rfl) (by kernel_rfl) (kinds_inh _) (UC.start HM7.out.drew) ?_
      intro ν hν
      have n6 : ν 6 = undef := hν 6
      clear hν
      refine lex_plain (by rfl) rfl ?_
      apply Exists.intro
      refine ⟨fun σ w2 hA hD hC => ?_, ?_⟩
      · clear hA hD hC
        go_simp
        exact And.intro rfl rfl
      simp only [Act.put, List.setIfInBounds_toArray, List.set_cons_succ, List.set_cons_zero, Nat.reduceAdd]
      refine lex_plain (by rfl) rfl ?_
      apply Exists.intro
      refine ⟨fun σ w2 hA hD hC => ?_, ?_⟩
      · clear hA hD hC
        go_simp
        exact And.intro rfl rfl
      simp only [Act.put, List.setIfInBounds_toArray, List.set_cons_succ, List.set_cons_zero, Nat.reduceAdd]
      refine lex_plain (by rfl) rfl ?_
      apply Exists.intro
      refine ⟨fun σ w2 hA hD hC => ?_, ?_⟩
      · clear hA hD hC
        go_simp
        exact And.intro rfl rfl
      simp only [Act.put, List.setIfInBounds_toArray, List.set_cons_succ, List.set_cons_zero, Nat.reduceAdd]
      refine lex_plain (by rfl) rfl ?_
      apply Exists.intro
      refine ⟨fun σ w2 hA hD hC => ?_, ?_⟩
      · have hx := (hC.kp.blk HBM7.out HNE.out).cell 1
        simp at hx
        clear hA hD hC
        go_simp
        exact And.intro rfl rfl
      simp only [Act.put, List.setIfInBounds_toArray, List.set_cons_succ, List.set_cons_zero, Nat.reduceAdd]
      refine lex_plain (by rfl) rfl ?_
      apply Exists.intro
      refine ⟨fun σ w2 hA hD hC => ?_, ?_⟩
      · clear hA hD hC
        go_simp
        exact And.intro rfl rfl
      simp only [Act.put, List.setIfInBounds_toArray, List.set_cons_succ, List.set_cons_zero, Nat.reduceAdd]
      refine lex_plain (by rfl) rfl ⟨.agg pv, fun σ w2 hA hD hC => ?_, ?_⟩
      · rw [exec_load 63 (.tmp 8) rfl w.heap.size rfl 63 _ _ (hC.kp.blk HV7.out HNX.out) Try.underlying63 rfl HSP.out]
        exact ⟨rfl, rfl⟩
      simp only [Act.put, List.setIfInBounds_toArray, List.set_cons_succ, List.set_cons_zero, Nat.reduceAdd]
      refine lex_special (by rfl) rfl (fun σ w2 hA hD hn hC => ?_) ?_
      · obtain ⟨w', hr, hm, hk⟩ := HUP.out w2 (hC.m0 hn)
        go_simp
        exact ⟨rfl, hC.put hk hm⟩
      rw [n6]
      simp only [Act.put, Nat.reduceAdd]
      refine lex_nil (fun σ w9 hA hall hC => ?_)
      have s6 := hall 6 rfl (by decide)
      have hm9 := Lib.hid (hC.m1 (by rw [s6]; simp))
      have hk9 := Lib.hid ((Kp.of_below HB7.out).trans (hC.kp.mono fun b hb => (Or.inr (Or.inl hb) : fp bm bl bi b)))
      clear hA hall hC s6 n6
      go_wp2
      go_end0
      exact ⟨rfl, by rw [hw]; exact hm9.out, hk9.out⟩
  · have hw : S' = S := by rw [hS', Mdl.write, if_neg hc]
    subst hw
    have HM := Lib.hid h
    by_cases h1 : b < 0
    · clear hS' hc h
      go_enter Try.func12, Try.ntmps12
      go_wp2
      refine bodyPost_ret (results_none rfl _ _ _) rfl ?_
      exact ⟨rfl, HM.out, Kp.refl _ _⟩
    · by_cases h2 : S'.n ≤ b
      · have h0 : 0 ≤ b := by omega
        clear hS' hc h h1
        go_enter Try.func12, Try.ntmps12
        go_wp2
        refine bodyPost_ret (results_none rfl _ _ _) rfl ?_
        exact ⟨rfl, HM.out, Kp.refl _ _⟩
      · have h0 : 0 ≤ b := by omega
        have h3 : b < S'.n := by omega
        have h4 : ¬ d.size = 32 := fun e => hc ⟨h0, h3, e⟩
        have d1 : decide (b < 0) = false := decide_eq_false h1
        have d2 : decide (S'.n ≤ b) = false := decide_eq_false h2
        have d3 : ((d.size : Int) != 32) = true := by simp; omega
        clear hS' hc h h1 h2 h0 h3 h4
        go_enter Try.func12, Try.ntmps12
        go_wp2
        refine bodyPost_ret (results_none rfl _ _ _) rfl ?_
        exact ⟨rfl, HM.out, Kp.refl _ _⟩
end Go.Proofs.Ytfeinafbimpjnaa
