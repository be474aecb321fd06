/-
  LOOK: the iterator 'up', its contract.
-/
import Derived.RangeFuncNested
import Derived.RangeFuncBound
import Derived.RangeFuncCalls
import Derived.RangeFuncLeaves
import Derived.Shelf.Abstract
import Derived.Shelf.RegionOpen
import Derived.WalkKit
import Derived.OwnWalkIn
import Derived.TacticsInMore
import Derived.LoopNIn
import Derived.LoopIn
import Derived.Test.YteplcpiamocclaaLook6
import Derived.Test.YteplcpiamocclaaRegIn
namespace Go.Proofs.Yteplcpiamocclaa
open Go.RowKit Reg Go.ChangeShapes
attribute [local go_sem] Oper.semAt_some

theorem up_any (a : Option Addr) (n c : Nat) (w : World) : Calls Try.prog 33 #[.slice a n c] w fun e w' => e = .returned (.func (.func 49) #[] #[.pointer (some ⟨w.heap.size, 0, none⟩)]) ∧ w' = w.alloc (.cells #[.slice a n c] 23) := by
  go_enter Try.func33, Try.ntmps33
  go_wp2
  go_ret
  exact ⟨rfl, rfl⟩
/-- which nodes have come when k rounds are over -/
def ups (es : List El) (k : Nat) : List Nat := (List.range k).filter fun j => (nth es j).up
theorem ups_succ (es : List El) (k : Nat) : ups es (k + 1) = if (nth es k).up = true then ups es k ++ [k] else ups es k := by
  unfold ups
  rw [List.range_succ, List.filter_append]
  split <;> rename_i h <;> simp [h]
theorem ups_len (es : List El) (k : Nat) : (ups es k).length ≤ k := by
  have := List.length_filter_le (fun j => (nth es j).up) (List.range k)
  simpa [ups] using this
def encU (es : List El) (j : Nat) : Array Value := #[.int .i64 j, (nth es j).enc]
set_option maxRecDepth 100000 in
set_option maxHeartbeats 2000000 in
theorem up1_in (n : Nat) (hn : 1 ≤ n) (l Bs : Nat) (v : Value) (es : List El) (w0 : World) (hv : InS w0 v es) (J Jx : List Nat → World → Prop) (W : World) (hW : Below w0.heap.size w0 W) (hJ : AbidesFrom W.heap.size J)
    (hY : ∀ pre x W1, J pre W1 → pre.length < es.length → YieldAt Fence.wide (n - 1) Try.prog l (encU es x) W1 fun e W' =>
      (e = .returned (.bool true) ∧ J (pre ++ [x]) W' ∧ Below w0.heap.size W1 W') ∨ (e = .returned (.bool false) ∧ Jx (pre ++ [x]) W'))
    (hBs : W.cell? ⟨Bs, 0, none⟩ = some v) (h0 : J [] W) :
    CallsIn Fence.wide n Try.prog 49 #[.func (.yield l) #[] #[], .pointer (some ⟨Bs, 0, none⟩)] W fun e W' => (∃ v, e = .returned v) ∧
      ((∃ ys, ys = ups es es.length ∧ J ys W') ∨ (∃ pre, (∃ k, k ≤ es.length ∧ pre = ups es k) ∧ Jx pre W')) := by
  have hm := hv
  obtain ⟨a, c, rfl, -, hlen, hx⟩ := hv
  have HX := Lib.hid (fun j (hj : j < es.length) => (hx j hj).1)
  have HLEN := Lib.hid hlen
  have HJ := Lib.hid hJ
  have HY := Lib.hid hY
  have HW := Lib.hid hW
  have h1 : 1 ≤ n - 1 ∨ n - 1 = 0 := by omega
  clear hx hlen hJ hY hW hm
  refine callsIn_of_wp Try.func49 rfl trivial ?_ rfl
  simp only [Try.ntmps49, List.size_toArray, List.length_cons, List.length_nil, Nat.reduceAdd, Nat.reduceSub, Array.replicate_succ, Array.replicate_zero, List.push_toArray, List.append_toArray, List.nil_append, List.cons_append]
  gi_wp2
  gi_loopw [7] (fun i wr => ∃ k : Nat, k ≤ es.length ∧ i = .int .i64 k ∧ J (ups es k) wr ∧ Below w0.heap.size w0 wr) (fun i _ => es.length - (intOf i).toNat)
  case atStart => exact ⟨0, Nat.zero_le _, rfl, h0, HW.out⟩
  case round =>
    obtain ⟨k, hk, rfl, hJs, hb⟩ := hrel
    have HB := Lib.hid hb
    have HJS := Lib.hid hJs
    have hm := HLEN.out
    unfold maxLen at hm
    clear hb hJs
    by_cases hlt : k < es.length
    · obtain ⟨g, off, rfl, hs⟩ := HX.out k hlt
      have hsn := ups_succ es k
      have hul := ups_len es k
      change SeenAt w0 g (off + k * 9) (nth es k) at hs
      have hyy := HY.out (ups es k) k
      unfold encU at hyy
      generalize nth es k = x at *
      obtain ⟨s0, s1, s2, s3, s4, s5, s6, s7, s8⟩ := hs.keep HB.out
      dsimp only [El.vl, El.vs, El.vt, El.vi] at s5 s6 s7 s8
      have i1 : (k : Int) < (es.length : Int) := by omega
      have I9 := Lib.hid (show (k : Int) < 9223372036854775807 by omega)
      have HK := Lib.hid hlt
      have HSN := Lib.hid hsn
      have hba := (Below.refl wr.heap.size wr).alloc (Nat.le_refl _) (Obj.cells x.cells 40)
      have hj1 := HJ.out _ _ _ none HJS.out (World.grownBy_alloc wr (Obj.cells x.cells 40) none) (fun _ h => by cases h)
      have HB1 := Lib.hid (HB.out.trans (hba.mono HB.out.size))
      obtain ⟨b0, hb0⟩ : ∃ z, z = x.up := ⟨_, rfl⟩
      cases b0 with
      | false =>
        have hB1 := HB1.out
        unfold El.cells El.vl El.vs El.vt El.vi at hB1 hj1
        rw [← hb0] at s0 hsn hB1 hj1
        rw [if_neg (by simp)] at hsn
        have HSN := Lib.hid hsn
        have HJ1 := Lib.hid hj1
        have HB1 := Lib.hid hB1
        clear hB1 hm hk hsn hul hlt hs hyy hba hj1 hb0 hBs h0 h1
        have hwk : IntKind.i64.wrap ((k : Int) + 1) = (k : Int) + 1 := IntWalk.i64_in _ (by have := I9.out; omega)
        iterate 60 (try (first | go_values | gi_guarded | gi_step | gi_upon | gi_back))
        refine ⟨fun _ _ => trivial, ?_⟩
        gi_wp2
        go_roundw
        case rel => exact ⟨k + 1, by have := HK.out; omega, by simp, by rw [HSN.out]; exact HJ1.out, HB1.out⟩
        case measure => have := HK.out; simp [intOf]; omega
      | true =>
        obtain ⟨fn, tmps, assign, body, hy, hR⟩ := hyy _ hj1 (by omega)
        unfold El.enc at hy
        dsimp only [El.cells, El.vl, El.vs, El.vt, El.vi] at hy hR
        have hB1 := HB1.out
        unfold El.cells El.vl El.vs El.vt El.vi at hB1
        rw [← hb0] at s0 hy hR hsn hB1
        have HB1 := Lib.hid hB1
        clear hB1
        rw [if_pos rfl] at hsn
        have HSN := Lib.hid hsn
        clear hm hk hsn hul hlt hs hyy hba hj1 hb0 hBs h0 h1
        gi_wp2
        refine hR.mono ?_
        rintro e W3 (⟨rfl, hJ3, hk3⟩ | ⟨rfl, hJx3⟩)
        · have HB3 := Lib.hid (HB1.out.trans hk3)
          have i9 := I9.out
          clear hk3 hR hy
          gi_wp2
          go_roundw
          case rel => exact ⟨k + 1, by have := HK.out; omega, by simp, by rw [HSN.out]; exact hJ3, HB3.out⟩
          case measure => have := HK.out; simp [intOf]; omega
        · clear hR hy
          gi_wp2
          refine bodyPost_ret (results_none rfl _ _ _) rfl ?_
          exact ⟨⟨_, rfl⟩, .inr ⟨_, ⟨k + 1, by have := HK.out; omega, HSN.out.symm⟩, hJx3⟩⟩
    · obtain rfl : k = es.length := by omega
      have i1 : ¬ ((es.length : Int) < (es.length : Int)) := by omega
      clear hm hk hBs h0 h1
      gi_wp2
      go_end0
      exact ⟨⟨_, rfl⟩, .inl HJS.out⟩
theorem ups_stops (n : Nat) (hn : 1 ≤ n) (Bs : Nat) (v : Value) (es : List El) (w0 w : World) (hv : InS w0 v es) (hW : Below w0.heap.size w0 w) (hB : Bs < w.heap.size) (hBs : w.cell? ⟨Bs, 0, none⟩ = some v) :
    SeqStopsK Fence.wide n Try.prog 49 #[.pointer (some ⟨Bs, 0, none⟩)] (encU es) (Below w0.heap.size) (fun ys => ys = ups es es.length) (fun pre => ∃ k, k ≤ es.length ∧ pre = ups es k) es.length w := fun l J Jx W hW' hJ _ hY h0 =>
  up1_in n hn l Bs v es w0 hv J Jx W (hW.trans (hW'.mono hW.size)) hJ hY ((hW'.cell (p := ⟨Bs, 0, none⟩) hB).trans hBs) h0
end Go.Proofs.Yteplcpiamocclaa
