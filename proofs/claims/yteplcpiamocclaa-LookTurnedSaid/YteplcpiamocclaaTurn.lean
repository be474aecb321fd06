/-
  LookTurned's CLOSURE, WALKED (printed by wip/gen-turn.py).
-/
import Derived.Test.YteplcpiamocclaaTurnP
import Derived.Test.YteplcpiamocclaaBuiltA
namespace Go.Proofs.Yteplcpiamocclaa
open Go.RowKit Reg Go.ChangeShapes

theorem turn_tmod (i t n : Nat) : ((i : Int) + (t : Int)).tmod (n : Int) = (((i + t) % n : Nat) : Int) := by
  rw [Int.tmod_eq_emod_of_nonneg (by omega), ← Int.natCast_add]
  exact (Int.natCast_emod _ _).symm
theorem turn_w1 {n : Nat} (h : n ≤ 6) : wrap64 ((n : Int) - 1) = (n : Int) - 1 := IntWalk.wrap64_in _ (by omega)
theorem turn_w2 {i t : Nat} (h : i ≤ 6) (ht : t < 256) : wrap64 ((i : Int) + (t : Int)) = (i : Int) + (t : Int) := IntWalk.wrap64_in _ (by omega)
theorem turn_w3 {t : Nat} (ht : t < 256) : wrap64 (t : Int) = (t : Int) := IntWalk.wrap64_in _ (by omega)
theorem turn_9 {i n : Nat} (h : i < n) (hn : n ≤ 6) : (i : Int) < 9223372036854775807 := by omega
theorem turn_30 {ts : List El} {i n : Nat} (h : i ≤ n) (hn : n ≤ 6) : (ts.take i).length + 1 ≤ 2 ^ 30 := by
  rw [List.length_take]
  omega
theorem turn_w4 {n m j : Nat} (h : n ≤ 6) (hm : m < n) (hj : j = n - 1 - m) : wrap64 ((n : Int) - 1 - (m : Int)) = (j : Int) := by
  rw [IntWalk.wrap64_in _ (by omega)]
  omega
set_option maxRecDepth 100000 in
set_option maxHeartbeats 2000000 in
theorem turn_any (v : Value) (es : List El) (t q : Nat) (w : World) (hv : InS w v es) (hl : es.length ≤ 6) (ht : t < 256) (hq : w.cell? ⟨q, 0, none⟩ = some (.int .u8 (t : Int))) :
    Calls Try.prog 26 #[v, .pointer (some ⟨q, 0, none⟩)] w fun e w' => ∃ u, e = .returned u ∧ InS w' u (turnL es t) ∧ Below w.heap.size w w' := by
  obtain ⟨a, c, rfl, -, hx⟩ := hv.parts
  have htl := turnL_len es t
  have hnx := fun (i : Nat) (h : i < es.length) => (show nth (turnL es t) i = nth es (es.length - 1 - (i + t) % es.length) by
    rw [nth_get (by rw [turnL_len]; exact h)]
    simp [turnL])
  have hall := fun (x : El) (h : x ∈ turnL es t) => (show ElOK w x by
    obtain ⟨j, hj, rfl⟩ := mem_nth.1 ((turn_mem es t x).1 h)
    exact (hx j hj).2)
  obtain ⟨ts, hts⟩ : ∃ z, z = turnL es t := ⟨_, rfl⟩
  rw [← hts] at htl hnx hall
  rw [← hts]
  obtain ⟨n, hn⟩ : ∃ z, z = es.length := ⟨_, rfl⟩
  rw [← hn] at hx hl htl hnx
  rw [← hn]
  have HX := Lib.hid hx
  have HN := Lib.hid hl
  have HTL := Lib.hid htl
  have HNX := Lib.hid hnx
  have HALL := Lib.hid hall
  have HT := Lib.hid ht
  have HQ := Lib.hid hq
  clear hx hl htl hnx hall hn hts hv ht hq
  go_enter Try.func26, Try.ntmps26
  go_wp2_with fail
  go_loopw [4, 5] (fun u s wr => ∃ (i : Nat), i ≤ n ∧ s = .int .i64 i ∧ Below w.heap.size w wr ∧ OwS wr w.heap.size u (ts.take i)) (fun _ s _ => n - (intOf s).toNat)
  case atStart => exact ⟨0, Nat.zero_le _, rfl, Below.refl _ _, OwS.nil_ _ _⟩
  case round =>
    obtain ⟨i, hi, rfl, hb, ho⟩ := hrel
    have HB := Lib.hid hb
    have HOS := Lib.hid ho
    obtain ⟨oa, oc, rfl⟩ := own_slice ho
    obtain ⟨ol, hol⟩ : ∃ z, z = (ts.take i).length := ⟨_, rfl⟩
    rw [← hol] at HOS
    rw [← hol]
    have HOL := Lib.hid hol
    clear hb ho hol
    by_cases hin : i < n
    · have i1 : (i : Int) < (n : Int) := by omega
      have hm1 := turn_tmod i t n
      have hnx := HNX.out i hin
      obtain ⟨m, hm⟩ : ∃ z, z = (i + t) % n := ⟨_, rfl⟩
      rw [← hm] at hm1 hnx
      have hmn : m < n := by rw [hm]; exact Nat.mod_lt _ (by omega)
      obtain ⟨j, hj⟩ : ∃ z, z = n - 1 - m := ⟨_, rfl⟩
      rw [← hj] at hnx
      have hw1 := turn_w1 HN.out
      have hw2 := turn_w2 (i := i) (Nat.le_trans hi HN.out) HT.out
      have hw3 := turn_w3 HT.out
      have hw4 := turn_w4 HN.out hmn hj
      have hjn : j < n := by omega
      have i3 : (j : Int) < (n : Int) := by omega
      have hnz : ¬ (n : Int) = 0 := by omega
      have hc := cell_later HB.out HQ.out
      obtain ⟨⟨g, off, rfl, hs⟩, hok⟩ := HX.out j hjn
      obtain ⟨x, hX⟩ : ∃ z, z = nth es j := ⟨_, rfl⟩
      rw [← hX] at hs hok hnx
      obtain ⟨s0, s1, s2, s3, s4, s5, s6, s7, s8⟩ := hs.keep HB.out
      dsimp only [El.vl, El.vs, El.vt, El.vi] at s5 s6 s7 s8
      have hec : x.cells = #[.bool x.up, .bool x.prim, .int .u64 x.ep, .int .i64 x.bef, .bool x.leased, .slice x.la x.line.length x.lc, .slice x.sa x.list.length x.sc, .slice x.ta x.told.length x.tc, .slice x.ia x.il x.ic] := rfl
      have hap := app_seen (w := wr) (e := x) 23 HOS.out (turn_30 hi HN.out) HB.out.size
      have hbl := (Below.refl wr.heap.size wr).alloc (Nat.le_refl _) (Obj.cells x.cells 40)
      have hos1 : OwS (wr.alloc (.cells x.cells 40)) w.heap.size (.slice oa ol oc) (ts.take i) := own_kp (A := fun _ => False) (.of_below hbl) HOS.out (fun _ _ h => h)
      have hsn := take_snoc (es := ts) (k := i) (by rw [HTL.out]; exact hin)
      rw [hnx] at hsn
      have HSN := Lib.hid hsn
      rw [hec] at hap hbl hos1
      have HBL := Lib.hid hbl
      have HOS1 := Lib.hid hos1
      have HA := Lib.hid hap
      have HIN := Lib.hid hin
      clear hnx hm hmn hj hjn hs hok hX hec hap hbl hos1 hsn hin hi
      go_wp2_with (at_builtin; refine wpList_append_run rfl _ _ 23 rfl _ _ rfl rfl _ HA.out ?_)
      refine Later.mk fun _ _ u w5 hp1 hp2 => ?_
      have hszw : w.heap.size ≤ wr.heap.size := HB.out.size
      have HB5 := Lib.hid ((HB.out.trans (HBL.out.mono hszw)).trans (below_grown hp2 (Nat.le_trans hszw HBL.out.size) (own_block HOS1.out)))
      have hos5 : OwS w5 w.heap.size u (ts.take (i + 1)) := by rw [HSN.out]; exact hp1
      have HOS5 := Lib.hid hos5
      clear hszw hp1 hp2 hos5 HA HBL HOS1 s0 s1 s2 s3 s4 s5 s6 s7 s8 hw1 hw2 hw3 hw4 hm1 hnz i3 hc
      have i9 : (i : Int) < 9223372036854775807 := turn_9 HIN.out HN.out
      clear i1
      go_wp2
      have hin := HIN.out
      exact ⟨⟨i + 1, by omega, by go_num, HB5.out, HOS5.out⟩, by simp [intOf]; omega⟩
    · obtain rfl : n = i := by omega
      have hok : ∀ e ∈ ts.take n, ElOK wr e := fun e he => (HALL.out e (List.mem_of_mem_take he)).keep HB.out
      have hins := HOS.out.ins hok (by have := HN.out; rw [List.length_take]; unfold maxLen; omega)
      rw [List.take_of_length_le (by rw [HTL.out]; exact Nat.le_refl _)] at hins
      have HINS := Lib.hid hins
      clear hin hi hok hins
      go_wp2
      go_ret
      exact ⟨_, rfl, HINS.out, HB.out⟩
end Go.Proofs.Yteplcpiamocclaa
