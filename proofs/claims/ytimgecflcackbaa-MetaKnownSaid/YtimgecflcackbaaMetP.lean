/-
  META: the parts of Decode: numbers, guids, rows of places (printed by wip/gen-metp.py).
-/
import Derived.Test.YtimgecflcackbaaMetO
import Derived.Test.YtimgecflcackbaaWireRef4N
namespace Go.Proofs.Ytimgecflcackbaa
open Go.RowKit Reg Go.ChangeShapes

theorem num_at {SS : Nat → Wire.St} {N : Nat → Nat} (R : Rds SS N) (r i : Nat) (w : World) (h : Rdr w r (SS i)) :
    Calls Try.prog 59 #[.pointer (some ⟨r, 0, none⟩)] w fun e w' => e = .returned (.int .u64 (N i : Int)) ∧ Rdr w' r (SS (i + 1)) ∧ Kp (· = r) w w' := by
  refine (num_any r (SS i) w h).mono ?_
  rintro e w' ⟨h1, h2, h3⟩
  rw [R.num] at h1
  rw [R.next] at h2
  exact ⟨h1, h2, Kp.of_row h3⟩
theorem meas_succ_u {k m : Nat} (h : k < m) : m - (intOf (Value.int .u64 ((k : Int) + 1))).toNat < m - (intOf (Value.int .u64 (k : Int))).toNat := by
  simp [intOf]
  omega
set_option maxRecDepth 100000 in
theorem small_at {SS : Nat → Wire.St} {N : Nat → Nat} (R : Rds SS N) (r q i : Nat) (w : World) (h : Rdr w r (SS i)) (hq : Blk w q 69 #[.pointer (some ⟨r, 0, none⟩)]) :
    Calls Try.prog 58 #[.pointer (some ⟨q, 0, none⟩)] w fun e w' => e = .returned (.int .i64 ((min (N i) 1024 : Nat) : Int)) ∧ Rdr w' r (SS (i + 1)) ∧ Kp (· = r) w w' := by
  have c0 := hq.cell 0
  simp at c0
  have HN := Lib.hid (num_at R r i w h)
  clear h hq
  go_enter Try.func58, Try.ntmps58
  go_wp2_with fail
  refine HN.out.mono ?_
  rintro e w2 ⟨rfl, h1, h2⟩
  have H := Lib.hid (And.intro h1 h2)
  have hmn : min ((N i : Nat) : Int) 1024 = ((min (N i) 1024 : Nat) : Int) := by omega
  have h9 : min (N i) 1024 ≤ 1024 := by omega
  generalize hm : min (N i) 1024 = m at *
  have HM := Lib.hid hm
  have hc : IntKind.i64.wrap (m : Int) = (m : Int) := IntWalk.i64_in _ (by omega)
  have hc2 : wrap64 (m : Int) = (m : Int) := IntWalk.wrap64_in _ (by omega)
  clear h1 h2 h9 HN hm
  go_wp2
  go_ret
  exact ⟨by rw [HM.out]; rfl, H.out.1, H.out.2⟩
set_option maxRecDepth 100000 in
theorem gd_at {SS : Nat → Wire.St} {N : Nat → Nat} (R : Rds SS N) (r q i : Nat) (w : World) (h : Rdr w r (SS i)) (hq : Blk w q 69 #[.pointer (some ⟨r, 0, none⟩)]) (hne : q ≠ r) :
    Calls Try.prog 60 #[.pointer (some ⟨q, 0, none⟩)] w fun e w' => e = .returned (.agg #[.int .u64 (N i : Int), .int .u64 (N (i + 1) : Int)]) ∧ Rdr w' r (SS (i + 2)) ∧ Kp (· = r) w w' := by
  have hrl := h.lt
  have hb0 := (Below.refl w.heap.size w).alloc (Nat.le_refl _) (Obj.cells #[.int .u64 0, .int .u64 0] 26)
  have hq1 := hq.keep hb0
  have c0 := hq1.cell 0
  simp at c0
  have hg1 := Blk.new w 26 #[.int .u64 0, .int .u64 0]
  have h1 := h.keep hb0
  have HB0 := Lib.hid hb0
  have HR := Lib.hid h1
  have HQ := Lib.hid hq1
  have HG := Lib.hid hg1
  have HRL := Lib.hid (And.intro hrl hne)
  clear h hq hb0 hq1 hg1 h1 hrl hne
  go_enter Try.func60, Try.ntmps60
  go_wp2_with fail
  generalize w.alloc (Obj.cells #[.int .u64 0, .int .u64 0] 26) = w1 at *
  refine (num_at R r i w1 HR.out).mono ?_
  rintro e w2 ⟨rfl, h1, h2⟩
  have H1 := Lib.hid h1
  have H2 := Lib.hid h2
  have HQ2 := Lib.hid (h2.blk HQ.out HRL.out.2)
  have HG2 := Lib.hid (h2.blk HG.out (fun e => by have := HRL.out.1; omega))
  have c2 := HQ2.out.cell 0
  simp at c2
  clear h1 h2 c0
  go_wp2_with fail
  refine (num_at R r (i + 1) w2 H1.out).mono ?_
  rintro e w3 ⟨rfl, h1, h2⟩
  have H3 := Lib.hid (show Rdr w3 r (SS (i + 2)) from h1)
  have H4 := Lib.hid (H2.out.trans h2)
  have HG3 := Lib.hid (h2.blk HG2.out (fun e => by have := HRL.out.1; omega))
  clear h1 h2 c2
  go_wp2_with (refine wpList_store_then rfl 26 _ _ rfl w.heap.size #[.int .u64 (N i : Int), .int .u64 (N (i + 1) : Int)] rfl rfl 26 _ HG3.out (by kernel_rfl) rfl (gcells_one _ _) ?_)
  refine Later.mk fun w9 hw9 => ?_
  have H9 := Lib.hid (show Rdr w9 r (SS (i + 2)) ∧ Kp (· = r) w w9 ∧ Blk w9 w.heap.size 26 #[.int .u64 (N i : Int), .int .u64 (N (i + 1) : Int)] by
    rw [hw9]
    have hrow : Below w.heap.size w3 (w3.setRow w.heap.size #[.int .u64 (N i : Int), .int .u64 (N (i + 1) : Int)]) := Below.setRow (Below.refl _ _) (Nat.le_refl _) _
    refine ⟨H3.out.below hrow HRL.out.1, ?_, HG3.out.row _⟩
    have hk : Kp (· = r) w w3 := (Kp.of_below HB0.out).trans H4.out
    exact ⟨hk.1.trans (hrow.mono (Nat.zero_le _)), fun b hb hn => (hrow.block b hb).trans (hk.2 b hb hn)⟩)
  clear hw9
  go_wp2
  refine bodyPost_ret (results_cell (ty := 26) (g := w.heap.size) (k := 1) rfl rfl H9.out.2.2 Try.underlying26 rfl (by kernel_rfl)) rfl ⟨rfl, H9.out.1, H9.out.2.1⟩
set_option maxRecDepth 100000 in
set_option maxHeartbeats 1000000 in
theorem list_at {SS : Nat → Wire.St} {N : Nat → Nat} (R : Rds SS N) (r q i n : Nat) (w : World) (h : Rdr w r (SS i)) (hq : Blk w q 69 #[.pointer (some ⟨r, 0, none⟩)]) (hrq : r < q) :
    Calls Try.prog 62 #[.int .u64 (n : Int), .int .i64 8, .func (.func 58) #[] #[.pointer (some ⟨q, 0, none⟩)]] w fun e w' => ∃ v, e = .returned v ∧ OwI w' w.heap.size v (imgN 1024 N i (capB n)) ∧ Rdr w' r (SS (i + capB n)) ∧ Kp (· = r) w w' := by
  have hrl := h.lt
  have HRD := Lib.hid h
  have HQ := Lib.hid hq
  have HRQ := Lib.hid (And.intro hrq hrl)
  have HQL := Lib.hid hq.lt
  clear h hq hrq hrl
  by_cases h8 : 8 < n
  · have i8 : (8 : Int) < (n : Int) := by omega
    have HC := Lib.hid (show capB n = 0 from if_pos h8)
    clear h8
    go_enter Try.func62, Try.ntmps62
    go_wp2
    go_ret
    exact ⟨_, rfl, by rw [HC.out]; exact OwI.nil_ _ _, by rw [HC.out]; exact HRD.out, Kp.refl _ _⟩
  · have i8 : (n : Int) ≤ 8 := by omega
    have HC := Lib.hid (show capB n = n from if_neg h8)
    have H8 := Lib.hid i8
    clear h8
    go_enter Try.func62, Try.ntmps62
    go_wp2_with fail
    clear i8
    go_loopw [7, 13] (fun u t wr => ∃ k : Nat, k ≤ n ∧ t = .int .u64 k ∧ OwI wr w.heap.size u (imgN 1024 N i k) ∧ Rdr wr r (SS (i + k)) ∧ Blk wr q 69 #[.pointer (some ⟨r, 0, none⟩)] ∧ Kp (· = r) w wr) (fun _ t _ => n - (intOf t).toNat)
    case atStart => exact ⟨0, Nat.zero_le _, rfl, OwI.nil_ _ _, HRD.out, HQ.out, Kp.refl _ _⟩
    case round =>
      obtain ⟨k, hk, rfl, ho, hr, hq, hkp⟩ := hrel
      have HO := Lib.hid ho
      have HR := Lib.hid hr
      have HQr := Lib.hid hq
      have HK := Lib.hid hkp
      obtain ⟨ua, uc, rfl⟩ := ho.slice_
      clear ho hr hq hkp
      by_cases hkn : k < n
      · have l1 : (k : Int) < (n : Int) := by omega
        have HKN := Lib.hid hkn
        have I9 := Lib.hid (show IntKind.u64.wrap ((k : Int) + 1) = (k : Int) + 1 from IntWalk.u64_in _ (by have := H8.out; omega))
        clear hkn hk
        obtain ⟨ln, hln⟩ : ∃ z, z = (imgN 1024 N i k).length := ⟨_, rfl⟩
        rw [← hln] at HO
        rw [← hln]
        clear hln
        go_wp2_with fail
        refine (small_at R r q (i + k) wr HR.out HQr.out).mono ?_
        rintro e w2 ⟨rfl, h1, h2⟩
        have HR2 := Lib.hid (show Rdr w2 r (SS (i + (k + 1))) from h1)
        have HQ2 := Lib.hid (h2.blk HQr.out (by have := HRQ.out.1; omega))
        have HK2 := Lib.hid (HK.out.trans h2)
        have HO2 := Lib.hid (HO.out.kp h2 fun g hg e => by have := own_from HO.out.1 hg; have := HRQ.out.2; omega)
        have hA := app_int 22 ((min (N (i + k)) 1024 : Nat) : Int) HO2.out (WalkArith.wf_i64 (by omega)) (by rw [imgN_len]; have := H8.out; have := HKN.out; omega) HK2.out.size
        rw [← imgN_succ] at hA
        generalize ((min (N (i + k)) 1024 : Nat) : Int) = z at *
        have HA := Lib.hid hA
        clear h1 h2 hA HO HR HQr HK
        go_wp2_with (at_builtin; refine wpList_append_run rfl _ _ 22 rfl _ _ rfl rfl _ HA.out ?_)
        refine Later.mk fun _ _ v' w' hp => ?_
        have HB := Lib.hid (hp.below HO2.out HK2.out.size)
        have HO3 := Lib.hid hp.1
        have HR3 := Lib.hid (HR2.out.below HB.out HRQ.out.2)
        have HK3 := Lib.hid (show Kp (· = r) w w' from ⟨HK2.out.1.trans (HB.out.mono (Nat.zero_le _)), fun b hb hn => (HB.out.block b hb).trans (HK2.out.2 b hb hn)⟩)
        have HQ3 := Lib.hid (HQ2.out.below HB.out HQL.out)
        clear hp HA HO2 HR2 HK2 HQ2 HB l1
        go_wp2
        rw [I9.out]
        clear I9
        exact ⟨⟨k + 1, HKN.out, by simp, HO3.out, HR3.out, HQ3.out, HK3.out⟩, meas_succ_u HKN.out⟩
      · obtain rfl : k = n := by omega
        clear hkn hk
        go_wp2
        go_ret
        exact ⟨_, rfl, by rw [HC.out]; exact HO.out, by rw [HC.out]; exact HR.out, HK.out⟩
end Go.Proofs.Ytimgecflcackbaa
