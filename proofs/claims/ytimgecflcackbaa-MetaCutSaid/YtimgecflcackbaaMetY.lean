/-
  META: the law MetaCut, walked (printed by wip/gen-metx.py).
-/
import Derived.Test.YtimgecflcackbaaMetX
namespace Go.Proofs.Ytimgecflcackbaa
open Go.RowKit Reg Go.ChangeShapes

theorem one_str {P : Program} (w : World) (x : UInt8) (v : Value) (src dst e : TypeId) (hs : P.underlying src = some (.slice e)) (he : P.underlying e = some (.int .u8)) (hd : P.underlying dst = some .string)
    (h : ∃ g, v = .slice (some ⟨g, 0, none⟩) 1 1 ∧ Blk w g e #[.int .u8 (x.toNat : Int)]) : (convert src dst v).run P w = .ok (.string (strOf [x])) w := by
  obtain ⟨g, rfl, hb⟩ := h
  exact str_of w src dst e g 1 1 [x] hs he hd rfl (fun j hj => by
    have : j = 0 := by simpa using hj
    subst this
    rw [hb.cell]; rfl)
theorem dec_no (Y : ByteArray) (hY : Y.size ≤ 1152921504606846976) (h : decZ (readM 1024 capB capS Y) Y = 4) (w : World) : Calls Try.prog 17 #[.string Y] w fun e w' => ∃ lb kb sb tb ib jb, e = .returned (.tuple #[.agg #[.slice lb 0 kb, .slice sb 0 tb, .int .u64 0, .int .u64 0, .int .u64 0, .int .u64 0, .int .i64 0, .int .i64 0, .slice ib 0 jb], .int .i64 4]) ∧ Below w.heap.size w w' := by
  have hn : ¬ okD (readM 1024 capB capS Y) Y := fun q => by
    unfold decZ at h
    rw [if_pos q] at h
    cases h
  have := dec_any w Y hY
  unfold decM decZ at this
  rw [if_neg hn, if_neg hn] at this
  exact this.mono fun _ _ h => h.z.zero
set_option maxRecDepth 100000 in
set_option maxHeartbeats 4000000 in
theorem law_MetaCut (v : Value) (m : Mt) (a b : Int) (w : World) (hv : InMt w v m) (_ : True) (wa : (Lit.int .u16 a).wf = true) (wb : (Lit.int .u8 b).wf = true) :
    Calls Try.prog 7 #[v, .int .u16 a, .int .u8 b] w fun e w' => e = .returned (.bool true) ∧ Below w.heap.size w w' := by
  obtain ⟨x, rfl⟩ : ∃ x : UInt8, b = (x.toNat : Int) := ⟨UInt8.ofNat b.toNat, by have := wf_u8 wb; rw [UInt8.toNat_ofNat']; omega⟩
  have ra : 0 ≤ a ∧ a < 65536 := by
    simp [Lit.wf, show IntKind.u16.min = 0 from by decide, show IntKind.u16.max = 65535 from by decide] at wa
    omega
  have hin := hv
  obtain ⟨la, lc, sa, sc, ia, ic, rfl⟩ := hv.open_
  have hb0 := (Below.refl w.heap.size w).alloc (Nat.le_refl _) (Obj.cells #[.slice la m.live.length lc, .slice sa m.snaps.length sc, .int .u64 m.token.base.1, .int .u64 m.token.base.2, .int .u64 m.token.target.1, .int .u64 m.token.target.2, .int .i64 m.token.next, .int .i64 m.token.all, .slice ia m.token.image.length ic] 30)
  have HB := Lib.hid hb0
  have HI := Lib.hid (hin.keep hb0)
  have HRA := Lib.hid ra
  clear hin hv hb0 wa wb ra
  go_enter Try.func7, Try.ntmps7
  go_wp2_with fail
  generalize w.alloc (Obj.cells #[.slice la m.live.length lc, .slice sa m.snaps.length sc, .int .u64 m.token.base.1, .int .u64 m.token.base.2, .int .u64 m.token.target.1, .int .u64 m.token.target.2, .int .i64 m.token.next, .int .i64 m.token.all, .slice ia m.token.image.length ic] 30) = w0 at *
  refine (short_any w0 _ m HI.out).mono ?_
  generalize shortM m = sm at *
  rintro e w1 ⟨u, rfl, ho, hb⟩
  have hin := ho.inm
  have HWF := Lib.hid hin.wfm
  have HEN := Lib.hid (enc_any w1 u sm hin)
  replace HB := Lib.hid (HB.out.trans (hb.mono HB.out.size))
  obtain ⟨la', lc', sa', sc', ia', ic', rfl⟩ := hin.open_
  clear ho hb hin HI
  go_wp2_with fail
  refine HEN.out.mono ?_
  rintro e w2 ⟨rfl, hb⟩
  replace HB := Lib.hid (HB.out.trans (hb.mono HB.out.size))
  clear hb HEN
  by_cases hz : encE sm = 0
  · have hm0 : mtOf sm sm.live.length 1024 = 0 := (okD_mt (show okD sm (encM sm) from ⟨hz, rfl⟩)).1
    have hle := encM_le hm0
    have hpos : 0 < (encM sm).size := by
      unfold encM
      rw [if_pos hz, size_strOf]
      unfold mtB hdB
      simp [numsB, Wire.putNum]
    have hcut := fun k (hk : k < (encM sm).size) => cut_bad (s := (encM sm).extract 0 k) HWF.out hz hk (extract_list _ _)
    have hmore := more_bad (s := encM sm ++ strOf [x]) (b := x) HWF.out hz (by rw [strOf_append, strOf_list])
    rw [hz]
    generalize encM sm = ES at *
    obtain ⟨k, hk⟩ : ∃ k, k = a.toNat % ES.size := ⟨_, rfl⟩
    have hkl : k < ES.size := by rw [hk]; exact Nat.mod_lt _ hpos
    have HD1 := Lib.hid (fun w => dec_no (ES.extract 0 k) (by simp; omega) (hcut k hkl) w)
    have HD2 := Lib.hid (fun w => dec_no (ES ++ strOf [x]) (by rw [strOf_append, size_strOf, List.length_append, len_data]; simp; omega) hmore w)
    have hrem : a.tmod (ES.size : Int) = (k : Int) := by
      have hra := HRA.out
      obtain ⟨n, rfl⟩ : ∃ n : Nat, a = n := ⟨a.toNat, by omega⟩
      rw [hk, Int.tmod_eq_emod_of_nonneg (by omega)]
      simp
    have hwa : wrap64 a = a := IntWalk.wrap64_in _ (by have := HRA.out; omega)
    have hwa2 : IntKind.i64.wrap a = a := IntWalk.i64_in _ (by have := HRA.out; omega)
    have hne : ¬ ES.size = 0 := by omega
    have hne2 : ¬ (ES.size : Int) = 0 := by omega
    have he1 : (ES.toList == ({ data := #[] } : ByteArray).toList) = false := by
      rw [str_eq]
      refine decide_eq_false fun h => ?_
      have h2 : ES.data.toList.length = 0 := by rw [h]; rfl
      rw [len_data] at h2
      omega
    have hemp : ES.toList.isEmpty = false := by
      rw [Go.ByteArray.toList_eq]
      cases h : ES.data.toList with
      | nil =>
        have h2 : ES.data.toList.length = 0 := by rw [h]; rfl
        rw [len_data] at h2
        omega
      | cons _ _ => rfl
    have hcat := run_string_add_sum (P := Try.prog) (a := ES) (b := strOf [x]) (h := by rw [size_strOf]; simp; omega)
    have HCAT := Lib.hid @hcat
    clear hcat
    have hk1 : (k : Int) ≤ (ES.size : Int) := by omega
    have hk0 : (0 : Int) ≤ (k : Int) := by omega
    have hk2 : k ≤ ES.size := by omega
    have hwk : wrap64 (k : Int) = (k : Int) := IntWalk.wrap64_in _ (by omega)
    clear hz hm0 hle hpos hcut hmore hk hkl
    go_wp2_with fail
    refine (HD1.out _).mono ?_
    rintro e w3 ⟨lb, kb, sb, tb, ib, jb, rfl, hb⟩
    have hbx := ((Below.refl w3.heap.size w3).alloc (Nat.le_refl _) (Obj.cells #[.slice lb 0 kb, .slice sb 0 tb, .int .u64 0, .int .u64 0, .int .u64 0, .int .u64 0, .int .i64 0, .int .i64 0, .slice ib 0 jb] 30)).alloc (by simp) (Obj.cells #[.int .u8 (x.toNat : Int)] 5)
    have hst := one_str (P := Try.prog) ((w3.alloc (Obj.cells #[.slice lb 0 kb, .slice sb 0 tb, .int .u64 0, .int .u64 0, .int .u64 0, .int .u64 0, .int .i64 0, .int .i64 0, .slice ib 0 jb] 30)).alloc (Obj.cells #[.int .u8 (x.toNat : Int)] 5)) x (.slice (some ⟨w3.heap.size + 1, 0, none⟩) 1 1) 44 9 5 Try.underlying44 Try.underlying5 Try.underlying9 ⟨_, rfl, Blk.newAt (w := w3.alloc (Obj.cells #[.slice lb 0 kb, .slice sb 0 tb, .int .u64 0, .int .u64 0, .int .u64 0, .int .u64 0, .int .i64 0, .int .i64 0, .slice ib 0 jb] 30)) 5 _ (by simp)⟩
    replace HB := Lib.hid (HB.out.trans ((hb.trans (hbx.mono hb.size)).mono HB.out.size))
    have hcat := @HCAT.out
    clear hb hbx
    go_wp2_with fail
    generalize (w3.alloc (Obj.cells #[.slice lb 0 kb, .slice sb 0 tb, .int .u64 0, .int .u64 0, .int .u64 0, .int .u64 0, .int .i64 0, .int .i64 0, .slice ib 0 jb] 30)).alloc (Obj.cells #[.int .u8 (x.toNat : Int)] 5) = w4 at *
    clear hst hcat
    refine (HD2.out _).mono ?_
    rintro e w5 ⟨lb', kb', sb', tb', ib', jb', rfl, hb⟩
    replace HB := Lib.hid (HB.out.trans (hb.mono HB.out.size))
    have hbx := (Below.refl w5.heap.size w5).alloc (Nat.le_refl _) (Obj.cells #[.slice lb' 0 kb', .slice sb' 0 tb', .int .u64 0, .int .u64 0, .int .u64 0, .int .u64 0, .int .i64 0, .int .i64 0, .slice ib' 0 jb'] 30)
    replace HB := Lib.hid (HB.out.trans (hbx.mono HB.out.size))
    clear hb hbx
    go_wp2_with fail
    generalize w5.alloc (Obj.cells #[.slice lb' 0 kb', .slice sb' 0 tb', .int .u64 0, .int .u64 0, .int .u64 0, .int .u64 0, .int .i64 0, .int .i64 0, .slice ib' 0 jb'] 30) = w6 at *
    refine (works_any _).mono ?_
    rintro e wz ⟨rfl, hb⟩
    replace HB := Lib.hid (HB.out.trans (hb.mono HB.out.size))
    clear hb
    go_wp2
    go_ret
    exact ⟨rfl, HB.out⟩
  · have e1 : (encE sm != 0) = true := by simp [hz]
    clear hz
    go_wp2_with fail
    refine (works_any _).mono ?_
    rintro e wz ⟨rfl, hb⟩
    replace HB := Lib.hid (HB.out.trans (hb.mono HB.out.size))
    clear hb
    go_wp2
    go_ret
    exact ⟨rfl, HB.out⟩
end Go.Proofs.Ytimgecflcackbaa
