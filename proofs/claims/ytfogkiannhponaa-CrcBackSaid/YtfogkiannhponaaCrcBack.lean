/-
  WHAT IS SEALED IS OPENED AS IT WAS; ANOTHER BYTE IS FOUND.
-/
import Derived.Test.YtfogkiannhponaaCrcLaws
namespace Go.Proofs.Ytfogkiannhponaa
open Go.RowKit
set_option maxHeartbeats 1000000 in
theorem law_CrcBack (s : ByteArray) (at_ c : Int) (w : World) (hs : s.size ≤ reachBytes) (wa : (Lit.int .i64 at_).wf = true) (wc : (Lit.int .u8 c).wf = true) :
    Calls Try.prog 5 #[.string s, .int .i64 at_, .int .u8 c] w fun e w' => e = .returned (.bool true) ∧ Below w.heap.size w w' := by
  have h1 := reach_small hs
  have hlen : (strOf (Crc.sealed s.data.toList)).size = s.size + 4 := by rw [size_strOf, Crc.length_sealed, len_data]
  have hsz : (strOf (Crc.sealed s.data.toList)).size ≤ maxLen := by rw [hlen]; exact h1
  have ho1 : Crc.opens (strOf (Crc.sealed s.data.toList)).data.toList = true := by rw [strOf_list]; exact Crc.opens_sealed _
  have ho2 : strOf ((strOf (Crc.sealed s.data.toList)).data.toList.take ((strOf (Crc.sealed s.data.toList)).size - 4)) = s := by
    rw [hlen, strOf_list, Crc.sealed, ← len_data]; simp [strOf_data]
  have HSZ := Lib.hid hsz
  have HO1 := Lib.hid ho1
  have HO2 := Lib.hid ho2
  have HS := Lib.hid hs
  have hn : ((strOf (Crc.sealed s.data.toList)).size : Int) = (s.size : Int) + 4 := by rw [hlen]; omega
  clear hs hsz ho1 ho2
  have hself : (!s.toList == s.toList) = false := by simp
  have hb : s.size ≤ 140737488351232 := HS.out
  have HOT := Lib.hid (Crc.opens_other s.data.toList)
  generalize hq : Crc.sealed s.data.toList = q at *
  have HQ := Lib.hid hq
  clear hq
  have hbn : (((strOf q).size : Int) != (s.size : Int) + 4) = false := by rw [hn]; simp
  have HN := Lib.hid hn
  have HL := Lib.hid hlen
  clear hn hlen
  go_enter Try.func5, Try.ntmps5
  go_wp2_with fail
  refine (works_any _).mono ?_
  rintro e w1 ⟨rfl, hb1⟩
  have HB1 := Lib.hid hb1
  clear hb1
  go_wp2_with fail
  refine (seal_lit s (strOf q) _ h1 (by rw [HQ.out])).mono ?_
  rintro e w2 ⟨rfl, hb2⟩
  have HB2 := Lib.hid (HB1.out.trans (hb2.mono HB1.out.size))
  clear hb2 HB1
  go_wp2_with fail
  refine (open_yes (strOf q) s _ HSZ.out HO1.out HO2.out).mono ?_
  rintro e w3 ⟨rfl, hb3⟩
  have HB3 := Lib.hid (HB2.out.trans (hb3.mono HB2.out.size))
  clear hb3 HB2
  by_cases hgood : (0 ≤ at_ ∧ at_ < ((strOf q).size : Int)) ∧ (c == 0) = false
  · obtain ⟨⟨ha0, ha1⟩, hc0⟩ := hgood
    obtain ⟨k, rfl⟩ := Int.eq_ofNat_of_zero_le ha0
    obtain ⟨cap, w4, hcv, hcap, hsz4, hb4, hcell, hfr⟩ := bytes_of_list (P := Try.prog) w3 9 29 5 (strOf q) q (strOf_list q) Try.underlying9 Try.underlying29 Try.underlying5
    rw [size_strOf] at ha1
    have hkq : k < q.length := by omega
    have HCE := Lib.hid hcell
    have hck := hcell k hkq
    have hfk := hfr k hkq
    have HB4 := Lib.hid (HB3.out.trans (hb4.mono HB3.out.size))
    have hL : w.heap.size ≤ w3.heap.size := HB3.out.size
    clear hcell hfr hb4 HB3
    generalize w3.heap.size = L at *
    -- the byte that is another one
    obtain ⟨cb, hcb, hcb0⟩ : ∃ cb : BitVec 8, c = (cb.toNat : Int) ∧ cb ≠ 0#8 := by
      have hr := wf_u8 wc
      refine ⟨BitVec.ofNat 8 c.toNat, ?_, ?_⟩
      · rw [BitVec.toNat_ofNat]; omega
      · intro e
        have := congrArg BitVec.toNat e
        rw [BitVec.toNat_ofNat] at this
        simp at hc0 this
        omega
    subst hcb
    have hx := xor_u8 q[k].toBitVec cb
    rw [show ((q[k].toBitVec).toNat : Int) = (q[k].toNat : Int) from rfl] at hx
    -- the text of the bytes behind the store
    have hstr := str_of (P := Try.prog) (w4.setCell ⟨L, k, none⟩ (.int .u8 ((q[k].toBitVec ^^^ cb).toNat : Int))) 29 9 5 L q.length cap (q.set k ⟨q[k].toBitVec ^^^ cb⟩)
      Try.underlying29 Try.underlying5 Try.underlying9 (by simp) (by
        intro j hj
        have hj' : j < q.length := by simpa using hj
        by_cases e : j = k
        · subst e
          rw [World.cell?_setCell_same _ _ _ hck]
          simp
        · rw [World.cell?_setCell_other _ _ _ _ (fun h => e (Addr.mk.inj h).2.1.symm), HCE.out j hj', List.getElem_set_ne (by omega)])
    have hoth := HOT.out k hkq ⟨q[k].toBitVec ^^^ cb⟩ (by
      intro e
      apply hcb0
      have h1 := congrArg UInt8.toBitVec e
      have h2 : q[k].toBitVec ^^^ cb = q[k].toBitVec := h1
      have h3 := congrArg (q[k].toBitVec ^^^ ·) h2
      simpa [← BitVec.xor_assoc] using h3)
    have HSET : Hid ((strOf (q.set k ⟨q[k].toBitVec ^^^ cb⟩)).size ≤ maxLen) := by
      have := HSZ.out
      show (strOf _).size ≤ maxLen
      rw [size_strOf, List.length_set, ← size_strOf]; exact this
    have HOP := Lib.hid (show Crc.opens (strOf (q.set k ⟨q[k].toBitVec ^^^ cb⟩)).data.toList = false by rw [strOf_list]; exact hoth)
    clear hoth
    generalize strOf (q.set k ⟨q[k].toBitVec ^^^ cb⟩) = u at *
    generalize (q[k].toBitVec ^^^ cb).toNat = x at *
    generalize (q[k].toNat : Int) = qk at *
    generalize (cb.toNat : Int) = cn at *
    have hd1 : decide ((k : Int) < 0) = false := by simp
    have hd2 : decide (((strOf q).size : Int) ≤ (k : Int)) = false := by simp [size_strOf]; omega
    have hsl : ((strOf q).size : Int) = (q.length : Int) := by rw [size_strOf]
    have hsle := Lib.hid hsl
    clear hsl
    go_wp2_with fail
    refine (open_no u _ HSET.out HOP.out).mono ?_
    rintro e w5 ⟨rfl, hb5⟩
    have HB5 := Lib.hid ((HB4.out.setCell (p := ⟨L, k, none⟩) hL (.int .u8 (x : Int))).trans (hb5.mono (by simp [World.setCell]; omega)))
    clear hb5 HB4
    go_wp2
    go_ret
    exact ⟨rfl, HB5.out⟩
  · go_wp2
    all_goals
      first
        | (go_ret; exact ⟨rfl, HB3.out⟩)
        | (exfalso; apply hgood; rename_i h; exact h)
end Go.Proofs.Ytfogkiannhponaa
