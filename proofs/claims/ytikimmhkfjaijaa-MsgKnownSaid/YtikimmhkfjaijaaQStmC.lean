/-
  STREAM: the iterator 'nums', its contract.
-/
import Derived.RangeFuncNested
import Derived.RangeFuncBound
import Derived.RangeFuncCalls
import Derived.RangeFuncLeaves
import Derived.RangeFuncBox
import Derived.Shelf.Abstract
import Derived.Shelf.RegionOpen
import Derived.WalkKit
import Derived.OwnWalkIn
import Derived.TacticsInMore
import Derived.LoopNIn
import Derived.LoopIn
import Derived.Test.YtikimmhkfjaijaaQStmB
namespace Go.Proofs.Ytikimmhkfjaijaa
open Go.RowKit Reg Go.ChangeShapes
attribute [local go_sem] Oper.semAt_some

def prA (p : Prt) (sv : Value) : Array Value := #[.int .u64 p.b.1, .int .u64 p.b.2, .int .u64 p.t.1, .int .u64 p.t.2, .int .i64 p.f, .int .i64 p.a, sv]
theorem nums_any (p : Prt) (sv : Value) (w : World) : Calls Try.prog 78 #[prV p sv] w fun e w' => e = .returned (.func (.func 79) #[] #[.pointer (some ⟨w.heap.size, 0, none⟩)]) ∧ w' = w.alloc (.cells (prA p sv) 31) := by
  unfold prV prA
  go_enter Try.func78, Try.ntmps78
  go_wp2
  go_ret
  exact ⟨rfl, rfl⟩
/-- the numbers ahead of the changes -/
def numP (p : Prt) (j : Nat) : Int := match j with
  | 0 => p.b.1
  | 1 => p.b.2
  | 2 => p.t.1
  | 3 => p.t.2
  | 4 => p.f
  | 5 => p.a
  | _ => p.cs.length
def encN (p : Prt) (j : Nat) : Array Value := #[.int .u64 (numP p j)]
def numC (p : Prt) : Array Value := #[.int .u64 p.b.1, .int .u64 p.b.2, .int .u64 p.t.1, .int .u64 p.t.2, .int .u64 p.f, .int .u64 p.a, .int .u64 p.cs.length]
theorem numC_at (p : Prt) {k : Nat} (hk : k < 7) : (numC p)[k]? = some (.int .u64 (numP p k)) := by
  match k, hk with
  | 0, _ => rfl
  | 1, _ => rfl
  | 2, _ => rfl
  | 3, _ => rfl
  | 4, _ => rfl
  | 5, _ => rfl
  | 6, _ => rfl
/-- blocks of cells stay, but q -/
def KC (q : Nat) (W W' : World) : Prop := Below 0 W W' ∧ ∀ b t cs, b ≠ q → Blk W b t cs → Blk W' b t cs
theorem KC.refl (q : Nat) (W : World) : KC q W W := ⟨Below.refl _ _, fun _ _ _ _ h => h⟩
theorem KC.trans {q : Nat} {A B C : World} (h : KC q A B) (k : KC q B C) : KC q A C := ⟨h.1.trans k.1, fun b t cs hb hk => k.2 b t cs hb (h.2 b t cs hb hk)⟩
theorem KC.put {q : Nat} (W : World) (l : Nat) (o o' : Obj) (h : W.heap[l]? = some o) (hc : o.isCells = false) : KC q W (W.putObj l o') := by
  refine ⟨⟨rfl, rfl, rfl, by simp [World.putObj], fun i hi => by omega⟩, fun b t cs _ hb => ?_⟩
  by_cases e : b = l
  · subst e
    unfold Blk at hb
    rw [hb] at h
    obtain rfl := Option.some.inj h
    simp [Obj.isCells] at hc
  · exact (World.putObj_heap_other e).trans hb
theorem KC.size {q : Nat} {A B : World} (h : KC q A B) : A.heap.size ≤ B.heap.size := h.1.size
set_option maxRecDepth 100000 in
set_option maxHeartbeats 2000000 in
theorem nums1_in (n : Nat) (hn : 1 ≤ n) (l Bs q : Nat) (p : Prt) (a : Option Addr) (c : Nat) (hf : 0 ≤ p.f ∧ p.f ≤ 8) (ha : 0 ≤ p.a ∧ p.a ≤ 8) (hl : p.cs.length ≤ 8) (J Jx : List Nat → World → Prop) (W : World) (hJ : AbidesFrom W.heap.size J)
    (hY : ∀ pre x W1, J pre W1 → pre.length < 7 → YieldAt Fence.wide (n - 1) Try.prog l (encN p x) W1 fun e W' =>
      (e = .returned (.bool true) ∧ J (pre ++ [x]) W' ∧ KC q W1 W') ∨ (e = .returned (.bool false) ∧ Jx (pre ++ [x]) W'))
    (hBs : Blk W Bs 31 (prA p (.slice a p.cs.length c))) (hq : q < W.heap.size) (h0 : J [] W) :
    CallsIn Fence.wide n Try.prog 79 #[.func (.yield l) #[] #[], .pointer (some ⟨Bs, 0, none⟩)] W fun e W' => (∃ v, e = .returned v) ∧
      ((∃ ys, ys = List.range 7 ∧ J ys W') ∨ (∃ pre, (∃ k, k ≤ 7 ∧ pre = List.range k) ∧ Jx pre W')) := by
  have x0 := hBs.cell 0
  have x1 := hBs.cell 1
  have x2 := hBs.cell 2
  have x3 := hBs.cell 3
  have x4 := hBs.cell 4
  have x5 := hBs.cell 5
  have x6 := hBs.cell 6
  unfold prA at x0 x1 x2 x3 x4 x5 x6
  simp at x0 x1 x2 x3 x4 x5 x6
  have hlit := Blk.new W 22 (numC p)
  have hj1 := hJ _ _ _ none h0 (World.grownBy_alloc W (Obj.cells (numC p) 22) none) (fun _ h => by cases h)
  have HN := Lib.hid (fun k (hk : k < 7) => numC_at p hk)
  have HY := Lib.hid (fun k => hY (List.range k) k)
  have hlit2 := hlit
  have hj2 := hj1
  unfold numC at hlit2 hj2
  unfold encN at HY
  have HLIT := Lib.hid hlit2
  have HJ1 := Lib.hid hj2
  have h1 : 1 ≤ n - 1 ∨ n - 1 = 0 := by omega
  have HQ := Lib.hid hq
  generalize hNP : numP p = N at *
  generalize hNC : numC p = nc at *
  obtain ⟨⟨be, bc⟩, ⟨te, tc⟩, f, al, cs⟩ := p
  dsimp only at *
  obtain ⟨f0, f1⟩ := hf
  obtain ⟨a0, a1⟩ := ha
  generalize hcl : cs.length = cl at *
  have l1 : (cl : Int) ≤ 8 := by omega
  have hNC2 : nc = #[.int .u64 be, .int .u64 bc, .int .u64 te, .int .u64 tc, .int .u64 f, .int .u64 al, .int .u64 cl] := by rw [← hNC, ← hcl]; rfl
  have HNC := Lib.hid hNC2
  clear hJ hY hBs h0 hlit hj1 hlit2 hj2 hq hNP hNC hNC2 hcl hl
  refine callsIn_of_wp Try.func79 rfl trivial ?_ rfl
  simp only [Try.ntmps79, List.size_toArray, List.length_cons, List.length_nil, Nat.reduceAdd, Nat.reduceSub, Array.replicate_succ, Array.replicate_zero, List.push_toArray, List.append_toArray, List.nil_append, List.cons_append]
  gi_wp2
  gi_loopw [29] (fun i wr => ∃ k : Nat, k ≤ 7 ∧ i = .int .i64 k ∧ J (List.range k) wr ∧ Blk wr W.heap.size 22 nc) (fun i _ => 7 - (intOf i).toNat)
  case atStart => exact ⟨0, Nat.zero_le _, rfl, HJ1.out, by rw [HNC.out]; exact HLIT.out⟩
  case round =>
    obtain ⟨k, hk, rfl, hJs, hb⟩ := hrel
    have HB := Lib.hid hb
    have HJS := Lib.hid hJs
    clear hJs x0 x1 x2 x3 x4 x5 x6
    by_cases hlt : k < 7
    · have c0 : wr.cell? ⟨W.heap.size, k, none⟩ = some (.int .u64 (N k)) := (hb.cell k).trans (HN.out k hlt)
      obtain ⟨fn, tmps, assign, body, hy, hR⟩ := HY.out k wr HJS.out (by simpa using hlt)
      have i1 : (k : Int) < 7 := by omega
      have i0 : (0 : Int) ≤ (k : Int) := by omega
      have HK := Lib.hid hlt
      clear hb hk hlt f0 f1 a0 a1 l1
      gi_wp2
      refine hR.mono ?_
      rintro e W3 (⟨rfl, hJ3, hk3⟩ | ⟨rfl, hJx3⟩)
      · have HB3 := Lib.hid (hk3.2 _ _ _ (Nat.ne_of_gt HQ.out) HB.out)
        have HJ3 := Lib.hid hJ3
        clear hk3 hR hy hJ3
        gi_wp2
        go_roundw
        case rel => exact ⟨k + 1, HK.out, by simp, by rw [List.range_succ]; exact HJ3.out, HB3.out⟩
        case measure => have := HK.out; simp [intOf]; omega
      · clear hR hy
        gi_wp2
        refine bodyPost_ret (results_none rfl _ _ _) rfl ?_
        exact ⟨⟨_, rfl⟩, .inr ⟨_, ⟨k + 1, HK.out, List.range_succ.symm⟩, hJx3⟩⟩
    · obtain rfl : k = 7 := by omega
      clear hk hlt hb f0 f1 a0 a1 l1
      gi_wp2
      go_end0
      exact ⟨⟨_, rfl⟩, .inl ⟨_, rfl, HJS.out⟩⟩
theorem nums_stops (n : Nat) (hn : 1 ≤ n) (Bs q : Nat) (p : Prt) (a : Option Addr) (c : Nat) (hf : 0 ≤ p.f ∧ p.f ≤ 8) (ha : 0 ≤ p.a ∧ p.a ≤ 8) (hl : p.cs.length ≤ 8) (w : World) (hBs : Blk w Bs 31 (prA p (.slice a p.cs.length c))) (hq : q < w.heap.size) :
    SeqStopsK Fence.wide n Try.prog 79 #[.pointer (some ⟨Bs, 0, none⟩)] (encN p) (KC q) (fun ys => ys = List.range 7) (fun pre => ∃ k, k ≤ 7 ∧ pre = List.range k) 7 w := fun l J Jx W hW' hJ _ hY h0 =>
  nums1_in n hn l Bs q p a c hf ha hl J Jx W hJ hY (hBs.keep hW') (Nat.lt_of_lt_of_le hq hW'.size) h0
end Go.Proofs.Ytikimmhkfjaijaa
