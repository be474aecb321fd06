/-
  META: the parts of Decode: the list of snapshots (printed by wip/gen-metr.py).
-/
import Derived.Test.YtimgecflcackbaaMetQ
namespace Go.Proofs.Ytimgecflcackbaa
open Go.RowKit Reg Go.ChangeShapes

set_option maxRecDepth 100000 in
set_option maxHeartbeats 1000000 in
theorem lists_at {SS : Nat → Wire.St} {N : Nat → Nat} (R : Rds SS N) {r q B F5 F6 F8 nb : Nat} (i n : Nat) (w : World) (h : Rdr w r (SS i)) (E : Env w r q B F5 F6 F8 nb) :
    Calls Try.prog 63 #[.int .u64 (n : Int), .int .i64 20, .func (.func 64) #[] #[.pointer (some ⟨F6, 0, none⟩), .pointer (some ⟨F5, 0, none⟩), .pointer (some ⟨F8, 0, none⟩)]] w fun e w' =>
      ∃ v, e = .returned v ∧ OwSn w' w.heap.size v (snsN 1024 N i (capB nb) (capS n)) ∧ Rdr w' r (SS (i + capS n * (3 + capB nb))) ∧ Kp (· = r) w w' := by
  have hrl := h.lt
  have HRD := Lib.hid h
  have HE := Lib.hid E
  have HRL := Lib.hid hrl
  have HEL := Lib.hid (And.intro E.q_.lt (And.intro E.b_.lt (And.intro E.f5.lt (And.intro E.f6.lt E.f8.lt))))
  clear h E hrl
  obtain ⟨kb, hkb⟩ : ∃ kb, kb = capB nb := ⟨_, rfl⟩
  rw [← hkb]
  have HKB := Lib.hid hkb
  clear hkb
  by_cases h8 : 20 < n
  · have i8 : (20 : Int) < (n : Int) := by omega
    have HC := Lib.hid (show capS n = 0 from if_pos h8)
    clear h8
    go_enter Try.func63, Try.ntmps63
    go_wp2
    go_ret
    exact ⟨_, rfl, by rw [HC.out]; exact OwSn.nil_ _ _, by rw [HC.out, Nat.zero_mul]; exact HRD.out, Kp.refl _ _⟩
  · have i8 : (n : Int) ≤ 20 := by omega
    have HC := Lib.hid (show capS n = n from if_neg h8)
    have H8 := Lib.hid i8
    clear h8
    go_enter Try.func63, Try.ntmps63
    go_wp2_with fail
    clear i8
    go_loopw [7, 13] (fun u t wr => ∃ (k : Nat) (es : List Se), k ≤ n ∧ t = .int .u64 k ∧ OwE wr w.heap.size u es ∧ (∀ e ∈ es, EO wr w.heap.size e) ∧ es.map Se.sn = snsN 1024 N i kb k ∧ Rdr wr r (SS (i + k * (3 + kb))) ∧ Env wr r q B F5 F6 F8 nb ∧ Kp (· = r) w wr) (fun _ t _ => n - (intOf t).toNat)
    case atStart => exact ⟨0, [], Nat.zero_le _, rfl, OwE.nil_ _ _, (fun e he => by cases he), rfl, by rw [Nat.zero_mul]; exact HRD.out, HE.out, Kp.refl _ _⟩
    case round =>
      obtain ⟨k, es, hk, rfl, ho, hes, hmap, hr, he, hkp⟩ := hrel
      have HO := Lib.hid ho
      have HES := Lib.hid hes
      have HMAP := Lib.hid hmap
      have HR := Lib.hid hr
      have HEr := Lib.hid he
      have HK := Lib.hid hkp
      obtain ⟨ua, uc, rfl⟩ := own_slice ho
      have hln : es.length = k := by have := congrArg List.length hmap; rw [List.length_map, snsN_len] at this; exact this
      clear ho hes hmap hr he hkp
      by_cases hkn : k < n
      · have l1 : (k : Int) < (n : Int) := by omega
        have HKN := Lib.hid hkn
        have I9 := Lib.hid (show IntKind.u64.wrap ((k : Int) + 1) = (k : Int) + 1 from IntWalk.u64_in _ (by have := H8.out; omega))
        have HLN := Lib.hid hln
        obtain ⟨ln, hl⟩ : ∃ z, z = es.length := ⟨_, rfl⟩
        rw [← hl] at HO
        rw [← hl]
        clear hkn hk hln hl
        go_wp2_with fail
        refine (snap_at R (i + k * (3 + kb)) wr HR.out HEr.out).mono ?_
        rintro e w2 ⟨x, rfl, hsn, hox, h1, h2⟩
        rw [← HKB.out] at hsn h1
        have e9 : i + k * (3 + kb) + 3 + kb = i + (k + 1) * (3 + kb) := by rw [Nat.succ_mul]; omega
        rw [e9] at h1
        have hb3 := (Below.refl w2.heap.size w2).alloc (Nat.le_refl _) (Obj.cells x.cells 48)
        have HR2 := Lib.hid (h1.keep hb3)
        have HE2 := Lib.hid ((HEr.out.read h2).keep hb3)
        have HK2 := Lib.hid (show Kp (· = r) w _ from (HK.out.trans h2).trans (Kp.of_below hb3))
        have hk23 : Kp (· = r) wr (w2.alloc (Obj.cells x.cells 48)) := h2.trans (Kp.of_below hb3)
        have hnr : ∀ b, w.heap.size ≤ b → ¬ b = r := fun b hb e => by have := HRL.out; omega
        have HO2 := Lib.hid (show OwE _ w.heap.size _ es from own_kp hk23 HO.out fun g hg => hnr g (own_from HO.out hg))
        have HES2 := Lib.hid (show ∀ e ∈ es, EO (w2.alloc (Obj.cells x.cells 48)) w.heap.size e from fun e he => OwI.kp (HES.out e he) hk23 fun g hg => hnr g (own_from (HES.out e he).1 hg))
        have HOX := Lib.hid (show EO (w2.alloc (Obj.cells x.cells 48)) w.heap.size x from OwI.keep (hox.mono HK.out.size) hb3)
        have hA := app_se 23 HO2.out ⟨w2.heap.size, rfl, Blk.new w2 48 x.cells⟩ (by have := HLN.out; have := H8.out; have := HKN.out; omega) HK2.out.size
        have HSN := Lib.hid hsn
        clear h1 h2 hb3 hk23 hsn hox e9 HO HES HR HEr HK hnr
        obtain ⟨⟨xg, xh⟩, xz, xb, xa, xc⟩ := x
        unfold Se.cells at *
        dsimp only at *
        have HA := Lib.hid hA
        clear hA
        go_wp2_with (at_builtin; refine wpList_append_run rfl _ _ 23 rfl _ _ rfl rfl _ HA.out ?_)
        generalize w2.alloc (Obj.cells #[.int .u64 xg, .int .u64 xh, .slice xa xz.length xc, .bool xb] 48) = w3 at *
        refine Later.mk fun _ _ v' w' hp hg => ?_
        have hkg := Kp.of_grown hg
        have hgb : ∀ b, (Value.slice ua ln uc).ownBlock = some b → w.heap.size ≤ b := fun b hb => own_from HO2.out hb
        have HO3 := Lib.hid hp
        have HES3 := Lib.hid (show ∀ e ∈ es ++ [(⟨(xg, xh), xz, xb, xa, xc⟩ : Se)], EO w' w.heap.size e from fun e he => by
          rcases List.mem_append.1 he with he | he
          · exact (HES2.out e he).kp_row HO2.out hkg
          · rw [List.mem_singleton] at he
            rw [he]
            exact HOX.out.kp_row HO2.out hkg)
        have hbw := hkg.below hgb HK2.out.size
        have HR3 := Lib.hid (HR2.out.below hbw HRL.out)
        have HE3 := Lib.hid (HE2.out.kp hkg fun b _ hb => .inr (by have := hgb b hb; have := HEL.out; omega))
        have HK3 := Lib.hid (HK2.out.ext_new hkg fun b hb => .inr (hgb b hb))
        have HM3 := Lib.hid (show (es ++ [(⟨(xg, xh), xz, xb, xa, xc⟩ : Se)]).map Se.sn = snsN 1024 N i kb (k + 1) by rw [List.map_append, HMAP.out, snsN_succ]; exact congrArg _ (congrArg (fun z => [z]) HSN.out))
        clear hp hg hkg hgb hbw HA HO2 HES2 HOX HR2 HE2 HK2 HSN HMAP l1
        go_wp2
        rw [I9.out]
        clear I9
        exact ⟨⟨k + 1, _, HKN.out, by simp, HO3.out, HES3.out, HM3.out, HR3.out, HE3.out, HK3.out⟩, meas_succ_u HKN.out⟩
      · obtain rfl : k = n := by omega
        clear hkn hk
        go_wp2
        go_ret
        refine ⟨_, rfl, ⟨by rw [snsN_len, HC.out]; have := H8.out; omega, ?_, es, HO.out, HES.out, by rw [HC.out]; exact HMAP.out⟩, by rw [HC.out]; exact HR.out, HK.out⟩
        intro s hs
        obtain ⟨j, -, rfl⟩ := List.mem_map.1 hs
        exact ⟨u64_wf (R.lt _), u64_wf (R.lt _)⟩
end Go.Proofs.Ytimgecflcackbaa
