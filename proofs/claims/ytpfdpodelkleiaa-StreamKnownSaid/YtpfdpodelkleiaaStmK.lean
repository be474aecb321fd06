/-
  STREAM: changes that a law makes of marks; guid, three, sealed (printed by wip/gen-stmk.py).
-/
import Derived.Test.YtpfdpodelkleiaaStmJ
namespace Go.Proofs.Ytpfdpodelkleiaa
open Go.RowKit Reg Go.ChangeShapes

structure Mk where
  b : Int
  c : Int
  s : Bool
def mk0 : Mk := ⟨0, 0, false⟩
def wfM (m : Mk) : Prop := (Lit.int .i64 m.b).wf = true ∧ 0 ≤ m.c ∧ m.c < 256
/-- a mark's cells at a place -/
def MarkAt (w : World) (g o : Nat) (m : Mk) : Prop := (w.cell? ⟨g, o, none⟩ = some (.int .i64 m.b) ∧ w.cell? ⟨g, o + 1, none⟩ = some (.int .u8 m.c) ∧ w.cell? ⟨g, o + 2, none⟩ = some (.bool m.s)) ∧ wfM m
/-- v is read as the marks ms -/
def InM (w : World) (v : Value) (ms : List Mk) : Prop := ∃ a c, v = .slice a ms.length c ∧ ms.length ≤ maxLen ∧ ∀ j, j < ms.length → ∃ g off, a = some ⟨g, off, none⟩ ∧ MarkAt w g (off + j * 3) (ms.getD j mk0)
theorem MarkAt.keep {w w' : World} {g o : Nat} {m : Mk} (h : MarkAt w g o m) (hb : Below w.heap.size w w') : MarkAt w' g o m := ⟨⟨cell_later hb h.1.1, cell_later hb h.1.2.1, cell_later hb h.1.2.2⟩, h.2⟩
theorem InM.keep {w w' : World} {v : Value} {ms : List Mk} (h : InM w v ms) (hb : Below w.heap.size w w') : InM w' v ms := by
  obtain ⟨a, c, h1, h2, hx⟩ := h
  exact ⟨a, c, h1, h2, fun j hj => by obtain ⟨g, off, h3, h4⟩ := hx j hj; exact ⟨g, off, h3, h4.keep hb⟩⟩
def dataM (c : Int) (s : Bool) : ByteArray := strOfNums (List.replicate (if s = true then 31 else 32) c)
def madeC (m : Mk) : Cg := (m.b, dataM m.c m.s)
def madeP (ms : List Mk) : List Cg := (ms.take 30).map madeC
def layC (c : Int) (k : Nat) : Array Value := (List.replicate k (Value.int .u8 c) ++ List.replicate (32 - k) (Value.int .u8 0)).toArray
theorem layC_set (c : Int) (k : Nat) (h : k < 32) : (layC c k).setIfInBounds k (.int .u8 c) = layC c (k + 1) := by
  unfold layC
  rw [List.setIfInBounds_toArray, List.set_append_right _ _ (by simp), List.length_replicate, Nat.sub_self, show 32 - k = (32 - (k + 1)) + 1 from by omega, List.replicate_succ, List.set_cons_zero, List.replicate_succ' (n := k), List.append_assoc]
  rfl
theorem layC_old (c : Int) (k : Nat) (h : k < 32) : (layC c k)[k]? = some (.int .u8 0) := by
  unfold layC
  rw [List.getElem?_toArray, List.getElem?_append_right (by simp), List.length_replicate, Nat.sub_self, List.getElem?_replicate, if_pos (by omega)]
theorem layC_all (c : Int) (j : Nat) (h : j < 32) : (layC c 32)[j]? = some (.int .u8 c) := by
  unfold layC
  rw [List.getElem?_toArray, List.getElem?_append_left (by simpa using h), List.getElem?_replicate, if_pos h]
theorem byte_info : (Try.prog.info? 5).map (fun i => (i.zero, i.size, i.bytes)) = some (some (.int .u8 0), 1, 1) := by kernel_rfl
theorem made_32 (w : World) : (Instr.makeSlice 61 (.int .i64 32) (.int .i64 32)).run Try.prog w = .ok (.slice (some ⟨w.heap.size, 0, none⟩) 32 32) (w.alloc (.cells (layC 0 0) 5)) := by
  obtain ⟨i, hi, hz0, hz1, hz2⟩ := info_parts byte_info
  have h := run_make (P := Try.prog) w 61 5 i (.int .u8 0) Try.underlying61 hi hz0 .i64 .i64 32 32 (by omega) (Int.le_refl _) (by rw [hz2]; omega) (by omega)
  have e0 : madeCells (Value.cells (.int .u8 0)) (32 * 1) = layC 0 0 := by
    apply Array.ext'
    exact toList_madeCells_one _ _
  rw [hz1] at h
  have h2 : (Instr.makeSlice 61 (.int .i64 32) (.int .i64 32)).run Try.prog w = .ok (.slice (some ⟨w.heap.size, 0, none⟩) 32 32) (w.alloc (.cells (madeCells (Value.cells (.int .u8 0)) (32 * 1)) 5)) := h
  rw [h2, e0]
theorem rep_getD (n : Nat) (c : Int) (i : Nat) (h : i < n) : (List.replicate n c).getD i 0 = c := by simp [h]
theorem conv_32 (w : World) (g : Nat) (c : Int) (hb : Blk w g 5 (layC c 32)) : (convert 61 9 (.slice (some ⟨g, 0, none⟩) 32 32)).run Try.prog w = .ok (.string (dataM c false)) w :=
  run_convert_bytes_arg (P := Try.prog) w 61 5 Try.underlying61 Try.underlying5 g 0 32 32 (List.replicate 32 c) (by simp) (fun i hi => by
    rw [hb.cell, layC_all c (0 + i) (by omega), rep_getD 32 c i hi]) 9 Try.underlying9
theorem conv_31 (w : World) (g : Nat) (c : Int) (hb : Blk w g 5 (layC c 32)) : (convert 61 9 (.slice (some ⟨g, 1, none⟩) 31 31)).run Try.prog w = .ok (.string (dataM c true)) w :=
  run_convert_bytes_arg (P := Try.prog) w 61 5 Try.underlying61 Try.underlying5 g 1 31 31 (List.replicate 31 c) (by simp) (fun i hi => by
    rw [hb.cell, layC_all c (1 + i) (by omega), rep_getD 31 c i hi]) 9 Try.underlying9
theorem exec_convert {P : Program} {w : World} {o : Oper} {a : Act} (s d : TypeId) (x : Operand) (ho : o.op = .convert s d x) (vx : Value) (hx : a.eval x = vx) (u : Value)
    (hr : (convert s d vx).run P w = .ok u w) : (execOp a.eval o).run P w = .ok (.value u) w := by
  unfold execOp
  simp only [ho, Sem.run_bind, hx, hr]
  rfl
/-- 'out = append(out, x)': the literal, the append -/
def JO (B : Nat) (w0 : World) (cs : List Cg) (x : Cg) : List Value → World → Prop
  | [], w => Below w0.heap.size w0 w
  | [u], w => (∃ g c, u = .slice (some ⟨g, 0, none⟩) 1 c ∧ 1 ≤ c ∧ w.rangeAt g 0 (cgL x)) ∧ Below w0.heap.size w0 w
  | [_, u], w => OwC w B u (cs ++ [x]) ∧ Below B w0 w
  | _, _ => False
set_option maxRecDepth 100000 in
set_option maxHeartbeats 2000000 in
theorem made_any (w : World) (v : Value) (ms : List Mk) (hv : InM w v ms) : Calls Try.prog 9 #[v] w fun e w' => ∃ u, e = .returned u ∧ OwC w' w.heap.size u (madeP ms) ∧ Below w.heap.size w w' := by
  obtain ⟨a, c, rfl, hml, hx⟩ := hv
  have HML := Lib.hid hml
  generalize hZ : (fun j => ms.getD j mk0) = Z
  have hZj : ∀ j, ms.getD j mk0 = Z j := fun j => by rw [← hZ]
  simp only [hZj] at hx
  have HX := Lib.hid hx
  obtain ⟨S, hS⟩ : ∃ S : Nat → List Cg, ∀ k, S k = (ms.take k).map madeC := ⟨_, fun _ => rfl⟩
  have HS0 := Lib.hid (show S 0 = [] by rw [hS]; simp)
  have HSN := Lib.hid (fun k (hk : k < ms.length) => show S (k + 1) = S k ++ [madeC (Z k)] by
    rw [hS, hS, List.take_add_one, List.map_append, ← hZj]
    simp [hk])
  have HSL := Lib.hid (fun k => show (S k).length ≤ k by rw [hS]; simp; omega)
  have HSE := Lib.hid (fun k (hk : k = ms.length ∨ k = 30) (h : k ≤ 30) => show madeP ms = S k by
    rw [hS]
    show (ms.take 30).map madeC = _
    rcases hk with rfl | rfl
    · rw [List.take_of_length_le (show ms.length ≤ 30 from h), List.take_of_length_le (Nat.le_refl _)]
    · rfl)
  generalize hn : ms.length = n at *
  clear hn hZ hZj hS hx hml
  go_enter Try.func9, Try.ntmps9
  go_wp2_with fail
  go_loopw [3, 4] (fun l i wr => ∃ k : Nat, k ≤ 30 ∧ k ≤ n ∧ i = .int .i64 k ∧ OwC wr w.heap.size l (S k) ∧ Below w.heap.size w wr) (fun _ i _ => 30 - (intOf i).toNat)
  case atStart => exact ⟨0, by omega, by omega, rfl, by rw [HS0.out]; exact OwC.nil_ _ _, Below.refl _ _⟩
  case round =>
    obtain ⟨k, hk, hkn, rfl, ho, hb⟩ := hrel
    have HO := Lib.hid ho
    have HB := Lib.hid hb
    clear ho hb
    by_cases h1 : k < n
    · by_cases h2 : k < 30
      · obtain ⟨g, off, rfl, hmk, hwm⟩ := HX.out k h1
        have hsn := HSN.out k h1
        generalize Z k = zk at *
        obtain ⟨mb, mc, mS⟩ := zk
        unfold madeC at hsn
        dsimp only at hmk hwm hsn
        have HSN2 := Lib.hid hsn
        have HMK := Lib.hid hmk
        have HK := Lib.hid (And.intro h1 h2)
        have HLE := Lib.hid (show (S k).length + 1 ≤ 2 ^ 40 from by have := HSL.out k; omega)
        have i1 : (k : Int) < (n : Int) := by omega
        have i2 : (k : Int) < 30 := by omega
        have hmk2 := made_32 wr
        clear hmk hwm hsn
        clear h1 h2 hk hkn
        go_wp2_with fail
        clear i1 i2 hmk2
        obtain ⟨wo, rfl⟩ : ∃ wo : World, wo = wr := ⟨_, rfl⟩
        have hb1 := (Below.refl wo.heap.size wo).alloc (Nat.le_refl _) (Obj.cells (layC 0 0) 5)
        have e0 : layC mc 0 = layC 0 0 := rfl
        have hk1 : Blk (wo.alloc (Obj.cells (layC 0 0) 5)) wo.heap.size 5 (layC mc 0) := by
          rw [e0]
          exact Blk.new _ _ _
        generalize wo.alloc (Obj.cells (layC 0 0) 5) = w1 at *
        generalize hL : wo.heap.size = L at *
        have HB1 := Lib.hid hb1
        have HK1 := Lib.hid hk1
        have HLL := Lib.hid hL
        clear hb1 hk1 e0 hL
        go_loopw [6] (fun i w2 => ∃ q : Nat, q ≤ 32 ∧ i = .int .i64 q ∧ Below L wo w2 ∧ Blk w2 L 5 (layC mc q)) (fun i _ => 32 - (intOf i).toNat)
        case atStart => exact ⟨0, Nat.zero_le _, rfl, HB1.out, HK1.out⟩
        case round =>
          obtain ⟨q, hq, rfl, hb2, hk2⟩ := hrel
          have HB2 := Lib.hid hb2
          have HQ := Lib.hid hk2
          clear hb2 hk2
          by_cases hlt : q < 32
          · have c1 := (HQ.out.cell q).trans (layC_old mc q hlt)
            have c2 := HQ.out.frozen q
            have m0 := cell_later (HB.out.trans (HB2.out.mono (by rw [← HLL.out]; exact HB.out.size))) HMK.out.2.1
            have hq2 : (q : Int) < 32 := by omega
            have hq3 : (0 : Int) ≤ (q : Int) := by omega
            have hkn := HK.out.1
            have HLT := Lib.hid hlt
            have hfin := HQ.out.set q (.int .u8 mc)
            rw [layC_set mc q hlt] at hfin
            have HF := Lib.hid hfin
            have HG := Lib.hid (HB2.out.setCell (p := ⟨L, q, none⟩) (Nat.le_refl _) (.int .u8 mc))
            clear hfin hlt hq
            go_wp2
            clear hq2 hq3
            exact ⟨⟨q + 1, HLT.out, rfl, HG.out, HF.out⟩, meas_succ HLT.out⟩
          · obtain rfl : q = 32 := by omega
            have hbo : Below w.heap.size w _ := HB.out.trans (HB2.out.mono (by rw [← HLL.out]; exact HB.out.size))
            have m0 := cell_later hbo HMK.out.1
            have m2 := cell_later hbo HMK.out.2.2
            have HBO := Lib.hid hbo
            have HM0 := Lib.hid m0
            have HOX := Lib.hid (HO.out.keep (by rw [HLL.out]; exact HB2.out))
            have hkn := HK.out.1
            clear hlt hq hbo
            cases mS with
            | true =>
              go_wp2_with fail
              refine wp_region_chain [9, 10] (kv [(9, .sl 1), (10, .sla ((S k).length + 1))]) (JO w.heap.size wr (S k) (mb, dataM mc true)) (by kernel_rfl) (by kernel_rfl) (by kernel_rfl) (kv_inh _) (Below.drew (Below.refl _ _)) ?_
              intro ν hν
              obtain ⟨g9, n9⟩ : ∃ g, ν 9 = .slice (some ⟨g, 0, none⟩) 1 1 := hν 9
              obtain ⟨a10, c10, n10⟩ : ∃ a c, ν 10 = .slice a ((S k).length + 1) c := hν 10
              clear hν
              refine ch_plain 0 2 1 (by rfl) rfl (by kernel_rfl) (by kernel_rfl) ?_
              apply Exists.intro
              refine ⟨fun st w2 hlo hhi hJ => ?_, ?_⟩
              · clear hlo hhi hJ
                go_simp
                exact And.intro rfl rfl
              simp only [Act.put, List.setIfInBounds_toArray, List.set_cons_succ, List.set_cons_zero, Nat.reduceAdd]
              refine ch_plain 0 2 1 (by rfl) rfl (by kernel_rfl) (by kernel_rfl) ?_
              apply Exists.intro
              refine ⟨fun st w2 hlo hhi hJ => ?_, ?_⟩
              · clear hlo hhi hJ
                go_simp
                exact And.intro rfl rfl
              simp only [Act.put, List.setIfInBounds_toArray, List.set_cons_succ, List.set_cons_zero, Nat.reduceAdd]
              refine ch_plain 0 2 1 (by rfl) rfl (by kernel_rfl) (by kernel_rfl) ?_
              apply Exists.intro
              refine ⟨fun st w2 hlo hhi hJ => ?_, ?_⟩
              · clear hlo hhi hJ
                go_simp
                exact And.intro rfl rfl
              simp only [Act.put, List.setIfInBounds_toArray, List.set_cons_succ, List.set_cons_zero, Nat.reduceAdd]
              refine ch_plain 0 2 1 (by rfl) rfl (by kernel_rfl) (by kernel_rfl) ?_
              apply Exists.intro
              refine ⟨fun st w2 hlo hhi hJ => ?_, ?_⟩
              · have hkn := HK.out.1
                clear hlo hhi hJ
                go_simp
                exact And.intro rfl rfl
              simp only [Act.put, List.setIfInBounds_toArray, List.set_cons_succ, List.set_cons_zero, Nat.reduceAdd]
              refine ch_plain 0 2 1 (by rfl) rfl (by kernel_rfl) (by kernel_rfl) ?_
              apply Exists.intro
              refine ⟨fun st w2 hlo hhi hJ => ?_, ?_⟩
              · clear hlo hhi hJ
                go_simp
                exact And.intro rfl rfl
              simp only [Act.put, List.setIfInBounds_toArray, List.set_cons_succ, List.set_cons_zero, Nat.reduceAdd]
              refine ch_plain 0 0 3 (by rfl) rfl (by kernel_rfl) (by kernel_rfl) ?_
              apply Exists.intro
              refine ⟨fun st w2 hlo hhi hJ => ?_, ?_⟩
              · have hj : Below wr.heap.size wr w2 := by
                  obtain rfl : st = 0 := by omega
                  exact hJ
                have h1 := cell_later hj HM0.out
                clear hj
                clear hlo hhi hJ
                go_simp
                exact And.intro rfl rfl
              simp only [Act.put, List.setIfInBounds_toArray, List.set_cons_succ, List.set_cons_zero, Nat.reduceAdd]
              refine ch_plain 0 2 1 (by rfl) rfl (by kernel_rfl) (by kernel_rfl) ?_
              apply Exists.intro
              refine ⟨fun st w2 hlo hhi hJ => ?_, ?_⟩
              · clear hlo hhi hJ
                go_simp
                exact And.intro rfl rfl
              simp only [Act.put, List.setIfInBounds_toArray, List.set_cons_succ, List.set_cons_zero, Nat.reduceAdd]
              refine ch_plain 0 0 2 (by rfl) rfl (by kernel_rfl) (by kernel_rfl) ?_
              apply Exists.intro
              refine ⟨fun st w2 hlo hhi hJ => ?_, ?_⟩
              · have hj : Below wr.heap.size wr w2 := by
                  obtain rfl : st = 0 := by omega
                  exact hJ
                clear hlo hhi hJ
                rw [exec_convert 61 9 (.tmp 45) rfl _ rfl _ (conv_31 w2 L mc (HQ.out.keep hj))]
                exact And.intro rfl rfl
              simp only [Act.put, List.setIfInBounds_toArray, List.set_cons_succ, List.set_cons_zero, Nat.reduceAdd]
              refine ch_plain 0 2 1 (by rfl) rfl (by kernel_rfl) (by kernel_rfl) ?_
              apply Exists.intro
              refine ⟨fun st w2 hlo hhi hJ => ?_, ?_⟩
              · clear hlo hhi hJ
                go_simp
                exact And.intro rfl rfl
              simp only [Act.put, List.setIfInBounds_toArray, List.set_cons_succ, List.set_cons_zero, Nat.reduceAdd]
              refine ch_special 0 1 (by rfl) rfl (by decide) (by kernel_rfl) (fun w2 hJ => ?_) ?_
              · have hj : Below wr.heap.size wr w2 := hJ
                go_simp
                exact ⟨⟨_, rfl⟩, ⟨_, _, rfl, Nat.le_refl _, lit_chg _ _ _⟩, hj.alloc hj.size _⟩
              rw [n9]
              simp only [Act.put, List.setIfInBounds_toArray, List.set_cons_succ, List.set_cons_zero, Nat.reduceAdd]
              refine ch_special 1 1 (by rfl) rfl (by decide) (by kernel_rfl) (fun w2 hJ => ?_) ?_
              · have hj : (∃ g c, ν 9 = .slice (some ⟨g, 0, none⟩) 1 c ∧ 1 ≤ c ∧ w2.rangeAt g 0 (cgL (mb, dataM mc true))) ∧ Below wr.heap.size wr w2 := hJ
                have hws := HBO.out.size
                have hj2 := hj.2.size
                have hoo := (HOX.out.keep hj.2)
                obtain ⟨v', w', hr, hp⟩ := app_chg2 (w := w2) 27 (mb, dataM mc true) hj.1 hoo HLE.out (Nat.le_trans hws hj2)
                rw [n9] at hr
                rw [exec_append (.tmp 39) (.tmp 48) 27 rfl _ (.slice (some ⟨g9, 0, none⟩) 1 1) rfl rfl v' hr]
                obtain ⟨a8, c8, e8, -⟩ := hp.1.rd
                have hbx := hp.below hoo (Nat.le_trans hws hj2)
                exact ⟨⟨a8, c8, by rw [e8, List.length_append]; rfl⟩, hp.1, (hj.2.mono hws).trans hbx⟩
              rw [n10]
              simp only [Act.put, List.setIfInBounds_toArray, List.set_cons_succ, List.set_cons_zero, Nat.reduceAdd]
              refine ch_plain 0 2 1 (by rfl) rfl (by kernel_rfl) (by kernel_rfl) ?_
              apply Exists.intro
              refine ⟨fun st w2 hlo hhi hJ => ?_, ?_⟩
              · clear hlo hhi hJ
                go_simp
                exact And.intro rfl rfl
              simp only [Act.put, Nat.reduceAdd]
              refine ch_nil (fun w5 hJ => ?_)
              have HF := Lib.hid (show OwC w5 w.heap.size (ν 10) (S k ++ [(mb, dataM mc true)]) ∧ Below w.heap.size wr w5 from hJ)
              rw [n10] at HF
              clear hJ n9 n10
              go_wp2
              rw [wrap_succ HK.out.2 (by decide)]
              exact ⟨⟨k + 1, HK.out.2, HK.out.1, rfl, by rw [HSN2.out]; exact HF.out.1, HBO.out.trans HF.out.2⟩, meas_succ HK.out.2⟩
            | false =>
              go_wp2_with fail
              refine wp_region_chain [9, 10] (kv [(9, .sl 1), (10, .sla ((S k).length + 1))]) (JO w.heap.size wr (S k) (mb, dataM mc false)) (by kernel_rfl) (by kernel_rfl) (by kernel_rfl) (kv_inh _) (Below.drew (Below.refl _ _)) ?_
              intro ν hν
              obtain ⟨g9, n9⟩ : ∃ g, ν 9 = .slice (some ⟨g, 0, none⟩) 1 1 := hν 9
              obtain ⟨a10, c10, n10⟩ : ∃ a c, ν 10 = .slice a ((S k).length + 1) c := hν 10
              clear hν
              refine ch_plain 0 2 1 (by rfl) rfl (by kernel_rfl) (by kernel_rfl) ?_
              apply Exists.intro
              refine ⟨fun st w2 hlo hhi hJ => ?_, ?_⟩
              · clear hlo hhi hJ
                go_simp
                exact And.intro rfl rfl
              simp only [Act.put, List.setIfInBounds_toArray, List.set_cons_succ, List.set_cons_zero, Nat.reduceAdd]
              refine ch_plain 0 2 1 (by rfl) rfl (by kernel_rfl) (by kernel_rfl) ?_
              apply Exists.intro
              refine ⟨fun st w2 hlo hhi hJ => ?_, ?_⟩
              · clear hlo hhi hJ
                go_simp
                exact And.intro rfl rfl
              simp only [Act.put, List.setIfInBounds_toArray, List.set_cons_succ, List.set_cons_zero, Nat.reduceAdd]
              refine ch_plain 0 2 1 (by rfl) rfl (by kernel_rfl) (by kernel_rfl) ?_
              apply Exists.intro
              refine ⟨fun st w2 hlo hhi hJ => ?_, ?_⟩
              · clear hlo hhi hJ
                go_simp
                exact And.intro rfl rfl
              simp only [Act.put, List.setIfInBounds_toArray, List.set_cons_succ, List.set_cons_zero, Nat.reduceAdd]
              refine ch_plain 0 2 1 (by rfl) rfl (by kernel_rfl) (by kernel_rfl) ?_
              apply Exists.intro
              refine ⟨fun st w2 hlo hhi hJ => ?_, ?_⟩
              · have hkn := HK.out.1
                clear hlo hhi hJ
                go_simp
                exact And.intro rfl rfl
              simp only [Act.put, List.setIfInBounds_toArray, List.set_cons_succ, List.set_cons_zero, Nat.reduceAdd]
              refine ch_plain 0 2 1 (by rfl) rfl (by kernel_rfl) (by kernel_rfl) ?_
              apply Exists.intro
              refine ⟨fun st w2 hlo hhi hJ => ?_, ?_⟩
              · clear hlo hhi hJ
                go_simp
                exact And.intro rfl rfl
              simp only [Act.put, List.setIfInBounds_toArray, List.set_cons_succ, List.set_cons_zero, Nat.reduceAdd]
              refine ch_plain 0 0 3 (by rfl) rfl (by kernel_rfl) (by kernel_rfl) ?_
              apply Exists.intro
              refine ⟨fun st w2 hlo hhi hJ => ?_, ?_⟩
              · have hj : Below wr.heap.size wr w2 := by
                  obtain rfl : st = 0 := by omega
                  exact hJ
                have h1 := cell_later hj HM0.out
                clear hj
                clear hlo hhi hJ
                go_simp
                exact And.intro rfl rfl
              simp only [Act.put, List.setIfInBounds_toArray, List.set_cons_succ, List.set_cons_zero, Nat.reduceAdd]
              refine ch_plain 0 2 1 (by rfl) rfl (by kernel_rfl) (by kernel_rfl) ?_
              apply Exists.intro
              refine ⟨fun st w2 hlo hhi hJ => ?_, ?_⟩
              · clear hlo hhi hJ
                go_simp
                exact And.intro rfl rfl
              simp only [Act.put, List.setIfInBounds_toArray, List.set_cons_succ, List.set_cons_zero, Nat.reduceAdd]
              refine ch_plain 0 0 2 (by rfl) rfl (by kernel_rfl) (by kernel_rfl) ?_
              apply Exists.intro
              refine ⟨fun st w2 hlo hhi hJ => ?_, ?_⟩
              · have hj : Below wr.heap.size wr w2 := by
                  obtain rfl : st = 0 := by omega
                  exact hJ
                clear hlo hhi hJ
                rw [exec_convert 61 9 (.tmp 45) rfl _ rfl _ (conv_32 w2 L mc (HQ.out.keep hj))]
                exact And.intro rfl rfl
              simp only [Act.put, List.setIfInBounds_toArray, List.set_cons_succ, List.set_cons_zero, Nat.reduceAdd]
              refine ch_plain 0 2 1 (by rfl) rfl (by kernel_rfl) (by kernel_rfl) ?_
              apply Exists.intro
              refine ⟨fun st w2 hlo hhi hJ => ?_, ?_⟩
              · clear hlo hhi hJ
                go_simp
                exact And.intro rfl rfl
              simp only [Act.put, List.setIfInBounds_toArray, List.set_cons_succ, List.set_cons_zero, Nat.reduceAdd]
              refine ch_special 0 1 (by rfl) rfl (by decide) (by kernel_rfl) (fun w2 hJ => ?_) ?_
              · have hj : Below wr.heap.size wr w2 := hJ
                go_simp
                exact ⟨⟨_, rfl⟩, ⟨_, _, rfl, Nat.le_refl _, lit_chg _ _ _⟩, hj.alloc hj.size _⟩
              rw [n9]
              simp only [Act.put, List.setIfInBounds_toArray, List.set_cons_succ, List.set_cons_zero, Nat.reduceAdd]
              refine ch_special 1 1 (by rfl) rfl (by decide) (by kernel_rfl) (fun w2 hJ => ?_) ?_
              · have hj : (∃ g c, ν 9 = .slice (some ⟨g, 0, none⟩) 1 c ∧ 1 ≤ c ∧ w2.rangeAt g 0 (cgL (mb, dataM mc false))) ∧ Below wr.heap.size wr w2 := hJ
                have hws := HBO.out.size
                have hj2 := hj.2.size
                have hoo := (HOX.out.keep hj.2)
                obtain ⟨v', w', hr, hp⟩ := app_chg2 (w := w2) 27 (mb, dataM mc false) hj.1 hoo HLE.out (Nat.le_trans hws hj2)
                rw [n9] at hr
                rw [exec_append (.tmp 39) (.tmp 48) 27 rfl _ (.slice (some ⟨g9, 0, none⟩) 1 1) rfl rfl v' hr]
                obtain ⟨a8, c8, e8, -⟩ := hp.1.rd
                have hbx := hp.below hoo (Nat.le_trans hws hj2)
                exact ⟨⟨a8, c8, by rw [e8, List.length_append]; rfl⟩, hp.1, (hj.2.mono hws).trans hbx⟩
              rw [n10]
              simp only [Act.put, List.setIfInBounds_toArray, List.set_cons_succ, List.set_cons_zero, Nat.reduceAdd]
              refine ch_plain 0 2 1 (by rfl) rfl (by kernel_rfl) (by kernel_rfl) ?_
              apply Exists.intro
              refine ⟨fun st w2 hlo hhi hJ => ?_, ?_⟩
              · clear hlo hhi hJ
                go_simp
                exact And.intro rfl rfl
              simp only [Act.put, Nat.reduceAdd]
              refine ch_nil (fun w5 hJ => ?_)
              have HF := Lib.hid (show OwC w5 w.heap.size (ν 10) (S k ++ [(mb, dataM mc false)]) ∧ Below w.heap.size wr w5 from hJ)
              rw [n10] at HF
              clear hJ n9 n10
              go_wp2
              rw [wrap_succ HK.out.2 (by decide)]
              exact ⟨⟨k + 1, HK.out.2, HK.out.1, rfl, by rw [HSN2.out]; exact HF.out.1, HBO.out.trans HF.out.2⟩, meas_succ HK.out.2⟩
      · obtain rfl : k = 30 := by omega
        have i1 : ((30 : Nat) : Int) < (n : Int) := by omega
        have HPE := Lib.hid (HSE.out 30 (.inr rfl) (by omega))
        clear hk hkn h1 h2
        go_wp2
        go_ret
        exact ⟨_, rfl, by rw [HPE.out]; exact HO.out, HB.out⟩
    · obtain rfl : k = n := by omega
      have i1 : ¬ ((k : Int) < (k : Int)) := by omega
      have HPE := Lib.hid (HSE.out k (.inl rfl) hk)
      clear hk hkn h1
      go_wp2
      go_ret
      exact ⟨_, rfl, by rw [HPE.out]; exact HO.out, HB.out⟩
end Go.Proofs.Ytpfdpodelkleiaa
