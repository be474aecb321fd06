/-
  META's REFERENCE: Decode (printed by wip/gen-metdb.py).
-/
import Derived.Test.YtimgecflcackbaaMetDa
namespace Go.Proofs.Ytimgecflcackbaa
open Go.RowKit Reg Go.ChangeShapes

theorem exec_append {P : Program} {w w' : World} {o : Oper} {a : Act} (s x : Operand) (t : TypeId) (ho : o.op = .call { callee := .builtin .append, args := #[s, x], argTypes := #[t, t] }) (v u : Value) (hs : a.eval s = v) (hx : a.eval x = u) (v' : Value)
    (hr : (Builtin.append_ #[t, t] o.type #[v, u]).run P w = .ok v' w') : (execOp a.eval o).run P w = .ok (.value v') w' := by
  unfold execOp
  simp only [ho, resolve, invoke, builtin, Sem.run_bind, Sem.run_pure, Result.andThen_ok, List.map_toArray, List.map_cons, List.map_nil, hs, hx, hr]
/-- what the reference's Decode keeps: its reader, the table (in block M), the result's variable -/
structure DN (w0 : World) (r q kb M : Nat) (mc : Array Value) (lv : Value) (live : List Int) (w : World) : Prop where
  qb : Blk w q 83 (RQ r kb)
  bm : Blk w M 30 mc
  rc : Blk w w0.heap.size 30 #[.slice none 0 0, .slice none 0 0, .int .u64 0, .int .u64 0, .int .u64 0, .int .u64 0, .int .i64 0, .int .i64 0, .slice none 0 0]
  bl : Below w0.heap.size w0 w
  lo : OwI w (r + 1) lv live
  orc : w0.heap.size < r
  oq : r < q
  om : q < M
def RW (w : World) (base : Nat) (u : Value) (es : List Se) : Prop := OwE w base u es ∧ ∀ e ∈ es, EO w base e
section
variable {A : Nat → Prop} {w0 w w' : World} {r q kb M : Nat} {mc mc' : Array Value} {lv : Value} {live : List Int}
theorem RW.kpT {base : Nat} {u : Value} {es : List Se} (h : RW w base u es) (hk : Kp A w w') (hA : ∀ b, A b → Oth w base b) : RW w' base u es := by
  refine ⟨own_kp hk h.1 fun g hg ha => ?_, fun e he => OwI.kpT (h.2 e he) hk hA⟩
  rcases hA g ha with q | ⟨t, cs, hb, -, h4⟩
  · have := own_from h.1 hg; omega
  · exact own_ne h.1 hb (Ne.symm h4) hg rfl
theorem RW.keep {base : Nat} {u : Value} {es : List Se} (h : RW w base u es) (hb : Below w.heap.size w w') : RW w' base u es := h.kpT (A := fun _ => False) (Kp.of_below hb) fun _ h => h.elim
theorem DN.kp (h : DN w0 r q kb M mc lv live w) (hk : Kp A w w') (hA : ∀ b, A b → Oth w (r + 1) b ∧ w0.heap.size < b ∧ b ≠ q) (hm : Blk w' M 30 mc') : DN w0 r q kb M mc' lv live w' :=
  ⟨hk.blk h.qb fun hb => (hA _ hb).2.2 rfl, hm, hk.blk h.rc fun hb => by have := (hA _ hb).2.1; omega, h.bl.trans (hk.below (fun b hb => Nat.le_of_lt (hA b hb).2.1) h.bl.size), h.lo.kpT hk fun b hb => (hA b hb).1, h.orc, h.oq, h.om⟩
theorem DN.othM (h : DN w0 r q kb M mc lv live w) : Oth w (r + 1) M := .inr ⟨_, _, h.bm, by decide, by decide⟩
theorem DN.read (h : DN w0 r q kb M mc lv live w) (hk : Kp (· = r) w w') : DN w0 r q kb M mc lv live w' := by
  have h1 := h.orc
  have h2 := h.oq
  have h3 := h.om
  exact h.kp hk (fun b hb => ⟨.inl (by omega), by omega, by omega⟩) (hk.blk h.bm (by omega))
theorem DN.keep (h : DN w0 r q kb M mc lv live w) (hb : Below w.heap.size w w') : DN w0 r q kb M mc lv live w' :=
  h.kp (A := fun _ => False) (Kp.of_below hb) (fun _ h => h.elim) (h.bm.keep hb)
theorem DN.turn (h : DN w0 r q kb M mc lv live w) (hk : Kp (· = M) w w') (hm : Blk w' M 30 mc') : DN w0 r q kb M mc' lv live w' := by
  have h1 := h.orc
  have h2 := h.oq
  have h3 := h.om
  exact h.kp hk (fun b hb => ⟨by subst hb; exact h.othM, by omega, by omega⟩) hm
theorem DN.grow {base : Nat} {u : Value} {es : List Se} (h : DN w0 r q kb M mc lv live w) (ho : OwE w base u es) (hbase : r < base) (hk : Kp (fun b => u.ownBlock = some b) w w') : DN w0 r q kb M mc lv live w' := by
  have h1 := h.orc
  have h2 := h.oq
  have hm := hk.blk h.bm fun e => own_ne ho h.bm (by decide) e rfl
  exact ⟨hk.blk h.qb fun e => own_ne ho h.qb (by decide) e rfl, hm, hk.blk h.rc fun e => own_ne ho h.rc (by decide) e rfl, h.bl.trans (hk.below (fun b hb => by have := own_from ho hb; omega) h.bl.size), h.lo.kp hk fun b hb e => own_apart h.lo.1 ho (by decide) hb e, h1, h2, h.om⟩
end
def seOf (g : Gd) (zs : List Int) (hd : Bool) : Value → Se
  | .slice a _ c => ⟨g, zs, hd, a, c⟩
  | _ => ⟨g, zs, hd, none, 0⟩
/-- 'm.Snaps = append(m.Snaps, Snap{g, hidden, r.image()})' -/
def J9 (D : Value → World → Prop) (R0 R1 : World → Prop) (G : Nat) (gd : Gd) (base : Nat) (u : Value) (es : List Se) (hd : Bool) (zs : List Int) : List Value → World → Prop
  | [], w => D u w ∧ R0 w ∧ Blk w G 26 #[.int .u64 gd.1, .int .u64 gd.2] ∧ RW w base u es
  | [iv], w => D u w ∧ R1 w ∧ Blk w G 26 #[.int .u64 gd.1, .int .u64 gd.2] ∧ RW w base u es ∧ OwI w base iv zs
  | [iv, sl], w => D u w ∧ R1 w ∧ RW w base u es ∧ OwI w base iv zs ∧ ∃ g, sl = .slice (some ⟨g, 0, none⟩) 1 1 ∧ Blk w g 48 (seOf gd zs hd iv).cells
  | [iv, _, u'], w => D u w ∧ R1 w ∧ RW w base u' (es ++ [seOf gd zs hd iv])
  | [iv, _, u', _], w => D u' w ∧ R1 w ∧ RW w base u' (es ++ [seOf gd zs hd iv])
  | _, _ => False
/-- 'm.Token = Token{.., r.image()}' -/
def J6 (D0 : World → Prop) (D1 : Value → World → Prop) (R0 : World → Prop) (R1 : World → Prop) (ga gb : Nat) (ca cb : Array Value) (base : Nat) (sv : Value) (sns : List Sn) (im : List Int) : List Value → World → Prop
  | [], w => D0 w ∧ R0 w ∧ Blk w ga 26 ca ∧ Blk w gb 26 cb ∧ OwSn w base sv sns
  | [iv], w => D0 w ∧ R1 w ∧ Blk w ga 26 ca ∧ Blk w gb 26 cb ∧ OwSn w base sv sns ∧ OwI w base iv im
  | [iv, _], w => D1 iv w ∧ OwSn w base sv sns ∧ OwI w base iv im
  | _, _ => False
def capR (n : Nat) : Nat := min (min n 1048576) 100
set_option maxRecDepth 100000 in
set_option maxHeartbeats 8000000 in
theorem decR_any (w : World) (s : ByteArray) (hs2 : s.size ≤ 1152921504606846976) : Calls Try.prog 18 #[.string s] w (DecT w (decM (readM 1048576 capR capR s) s) (decZ (readM 1048576 capR capR s) s)) := by
  unfold DecT
  obtain ⟨m, hm⟩ : ∃ m, m = readM 1048576 capR capR s := ⟨_, rfl⟩
  rw [← hm]
  have hgood := fun h : okD m s => show decM m s = m ∧ decZ m s = 0 from ⟨if_pos h, if_pos h⟩
  have hbad := fun h : ¬ okD m s => show decM m s = zeroM ∧ decZ m s = 4 from ⟨if_neg h, if_neg h⟩
  generalize decM m s = dm at *
  generalize decZ m s = dz at *
  unfold readM at hm
  obtain ⟨SS, hSS⟩ : ∃ SS, SS = nSt (some s.data.toList) := ⟨_, rfl⟩
  obtain ⟨N, hN⟩ : ∃ N, N = nAt (some s.data.toList) := ⟨_, rfl⟩
  have R : Rds SS N := by rw [hSS, hN]; exact Rds.of _
  have hS0 : SS 0 = some s.data.toList := by rw [hSS]; rfl
  rw [← hN] at hm
  obtain ⟨kb, hkb⟩ : ∃ k, k = capR (N 0) := ⟨_, rfl⟩
  rw [← hkb] at hm
  obtain ⟨ks, hks⟩ : ∃ k, k = capR (N (1 + kb)) := ⟨_, rfl⟩
  rw [← hks] at hm
  unfold capR at hkb hks
  have HKBL := Lib.hid (show kb ≤ 100 by omega)
  have HKSL := Lib.hid (show ks ≤ 100 by omega)
  have HGOOD := Lib.hid hgood
  have HBAD := Lib.hid hbad
  have HKB := Lib.hid hkb
  have HKS := Lib.hid hks
  have HM := Lib.hid (show m = ⟨imgN 1048576 N 1 kb, snsN 1048576 N (2 + kb) kb ks, tkN 1048576 N (2 + kb + ks * (3 + kb)) kb⟩ from hm)
  have hb0 := (((Below.refl w.heap.size w).alloc (Nat.le_refl _) (Obj.cells #[.slice none 0 0, .slice none 0 0, .int .u64 0, .int .u64 0, .int .u64 0, .int .u64 0, .int .i64 0, .int .i64 0, .slice none 0 0] 30)).alloc (by simp) (Obj.cells #[.string s, .bool false] 81)).alloc (by simp; omega) (Obj.cells #[.pointer (some ⟨w.heap.size + 1, 0, none⟩), .int .i64 0] 83)
  have hz0 := ((Blk.new w 30 #[.slice none 0 0, .slice none 0 0, .int .u64 0, .int .u64 0, .int .u64 0, .int .u64 0, .int .i64 0, .int .i64 0, .slice none 0 0]).alloc (Obj.cells #[.string s, .bool false] 81)).alloc (Obj.cells #[.pointer (some ⟨w.heap.size + 1, 0, none⟩), .int .i64 0] 83)
  have hr0 : RdR (((w.alloc (Obj.cells #[.slice none 0 0, .slice none 0 0, .int .u64 0, .int .u64 0, .int .u64 0, .int .u64 0, .int .i64 0, .int .i64 0, .slice none 0 0] 30)).alloc (Obj.cells #[.string s, .bool false] 81)).alloc (Obj.cells #[.pointer (some ⟨w.heap.size + 1, 0, none⟩), .int .i64 0] 83)) (w.heap.size + 1) (SS 0) := by
    rw [hS0]
    exact ⟨by rw [len_data]; exact hs2, by rw [strOf_data]; exact (Blk.newAt (w := w.alloc (Obj.cells #[.slice none 0 0, .slice none 0 0, .int .u64 0, .int .u64 0, .int .u64 0, .int .u64 0, .int .i64 0, .int .i64 0, .slice none 0 0] 30)) 81 _ (by simp)).alloc _⟩
  have hq0 := Blk.newAt (w := (w.alloc (Obj.cells #[.slice none 0 0, .slice none 0 0, .int .u64 0, .int .u64 0, .int .u64 0, .int .u64 0, .int .i64 0, .int .i64 0, .slice none 0 0] 30)).alloc (Obj.cells #[.string s, .bool false] 81)) 83 #[.pointer (some ⟨w.heap.size + 1, 0, none⟩), .int .i64 0] (g := w.heap.size + 1 + 1) (by simp)
  have HB := Lib.hid hb0
  have HZ := Lib.hid hz0
  have HR := Lib.hid hr0
  have HQ := Lib.hid hq0
  clear hgood hbad hSS hN hS0 hkb hks hm hs2 hb0 hz0 hr0 hq0
  go_enter Try.func18, Try.ntmps18
  go_wp2_with fail
  generalize ((w.alloc (Obj.cells #[.slice none 0 0, .slice none 0 0, .int .u64 0, .int .u64 0, .int .u64 0, .int .u64 0, .int .i64 0, .int .i64 0, .slice none 0 0] 30)).alloc (Obj.cells #[.string s, .bool false] 81)).alloc (Obj.cells #[.pointer (some ⟨w.heap.size + 1, 0, none⟩), .int .i64 0] 83) = w1 at *
  have HWR := Lib.hid (show w.heap.size < w.heap.size + 1 from Nat.lt_succ_self _)
  have HRQ := Lib.hid (show w.heap.size + 1 < w.heap.size + 1 + 1 from Nat.lt_succ_self _)
  generalize w.heap.size + 1 + 1 = q at *
  generalize w.heap.size + 1 = r at *
  refine (smallR_at R r q 0 0 w1 HR.out HQ.out).mono ?_
  rintro e w2 ⟨rfl, h1, h2⟩
  have hkbe : min ((min (N 0) 1048576 : Nat) : Int) 100 = (kb : Int) := by have := HKB.out; omega
  have hbq := h2.blk HQ.out (by have := HRQ.out; omega)
  have x1 := hbq.cell 1
  have f1 := hbq.frozen 1
  simp at x1
  have hk := kp_cell w2 q 1 (.int .i64 (kb : Int))
  have HQ3 := Lib.hid (show Blk _ q 83 (RQ r (kb : Int)) from hbq.set 1 (.int .i64 (kb : Int)))
  have HB3 := Lib.hid ((HB.out.trans (h2.below (fun b hb => by have := HWR.out; omega) HB.out.size)).trans (hk.below (fun b hb => by have := HWR.out; have := HRQ.out; omega) (by have := HB.out.size; have := h2.size; omega)))
  have HZ3 := Lib.hid (hk.blk (h2.blk HZ.out (by have := HWR.out; omega)) (by have := HWR.out; have := HRQ.out; omega))
  have HR3 := Lib.hid (h1.below (below_cell w2 q 1 (.int .i64 (kb : Int))) HRQ.out)
  generalize ((min (N 0) 1048576 : Nat) : Int) = z0 at *
  clear h1 h2 hbq hk HB HZ HR HQ
  go_wp2_with fail
  generalize w2.setCell ⟨q, 1, none⟩ (.int .i64 (kb : Int)) = w3 at *
  clear x1 f1 hkbe
  refine (imageR_at R r q 1 kb w3 HR3.out HQ3.out HRQ.out HKBL.out).mono ?_
  rintro e w4 ⟨lv, rfl, ho, h1, h2⟩
  obtain ⟨la, lc, rfl⟩ := ho.slice_
  have hln : (imgN 1048576 N 1 kb).length = kb := imgN_len _ _ _ _
  rw [hln] at ho
  rw [hln]
  have hbx := (Below.refl w4.heap.size w4).alloc (Nat.le_refl _) (Obj.cells #[.slice la kb lc, .slice none 0 0, .int .u64 0, .int .u64 0, .int .u64 0, .int .u64 0, .int .i64 0, .int .i64 0, .slice none 0 0] 30)
  have HD := Lib.hid (show DN w r q kb w4.heap.size #[.slice la kb lc, .slice none 0 0, .int .u64 0, .int .u64 0, .int .u64 0, .int .u64 0, .int .i64 0, .int .i64 0, .slice none 0 0] (.slice la kb lc) (imgN 1048576 N 1 kb) (w4.alloc (Obj.cells #[.slice la kb lc, .slice none 0 0, .int .u64 0, .int .u64 0, .int .u64 0, .int .u64 0, .int .i64 0, .int .i64 0, .slice none 0 0] 30)) from
    ⟨(h2.blk HQ3.out (by have := HRQ.out; omega)).keep hbx, Blk.new _ _ _, (h2.blk HZ3.out (by have := HWR.out; omega)).keep hbx, (HB3.out.trans (h2.below (fun b hb => by have := HWR.out; omega) HB3.out.size)).trans (hbx.mono (by have := HB3.out.size; have := h2.size; omega)), (ho.mono (by have := HR3.out.lt; omega)).keep hbx, HWR.out, HRQ.out, by have := HQ3.out.lt; have := h2.size; omega⟩)
  have HR4 := Lib.hid (h1.keep hbx)
  clear ho h1 h2 hln hbx HQ3 HB3 HZ3 HR3
  generalize imgN 1048576 N 1 kb = live at *
  go_wp2_with fail
  generalize w4.alloc (Obj.cells #[.slice la kb lc, .slice none 0 0, .int .u64 0, .int .u64 0, .int .u64 0, .int .u64 0, .int .i64 0, .int .i64 0, .slice none 0 0] 30) = w5 at *
  generalize w4.heap.size = M at *
  refine (smallR_at R r q (1 + kb) kb w5 HR4.out HD.out.qb).mono ?_
  rintro e w6 ⟨rfl, h1, h2⟩
  obtain ⟨n1, hn1⟩ : ∃ n, n = min (N (1 + kb)) 1048576 := ⟨_, rfl⟩
  have HN1 := Lib.hid (show ks = min n1 100 by rw [hn1]; exact HKS.out)
  rw [← hn1]
  clear hn1
  have HD6 := Lib.hid (HD.out.read h2)
  have e2 : 1 + kb + 1 = 2 + kb := by omega
  rw [e2] at h1
  have HR6 := Lib.hid h1
  clear h1 h2 e2 HD HR4
  go_wp2_with fail
  go_loopw [7] (fun t wr => ∃ (k : Nat) (u : Value) (es : List Se), k ≤ ks ∧ t = .int .i64 k ∧ DN w r q kb M #[.slice la kb lc, u, .int .u64 0, .int .u64 0, .int .u64 0, .int .u64 0, .int .i64 0, .int .i64 0, .slice none 0 0] (.slice la kb lc) live wr ∧ RdR wr r (SS (2 + kb + k * (3 + kb))) ∧ RW wr (r + 1) u es ∧ es.map Se.sn = snsN 1048576 N (2 + kb) kb k) (fun t _ => ks - (intOf t).toNat)
  case atStart => exact ⟨0, .slice none 0 0, [], Nat.zero_le _, rfl, HD6.out, by rw [Nat.zero_mul]; exact HR6.out, ⟨OwE.nil_ _ _, fun e he => by cases he⟩, rfl⟩
  case round =>
    obtain ⟨k, u, es, hk, rfl, hd, hr, hw, hmap⟩ := hrel
    clear HD6 HR6
    have HD := Lib.hid hd
    have HR := Lib.hid hr
    have HRW := Lib.hid hw
    have HMAP := Lib.hid hmap
    obtain ⟨ua, uc, rfl⟩ := own_slice hw.1
    have hln : es.length = k := by have := congrArg List.length hmap; rw [List.length_map, snsN_len] at this; exact this
    have HLN := Lib.hid hln
    obtain ⟨ln, hl⟩ : ∃ z, z = es.length := ⟨_, rfl⟩
    rw [← hl] at HD HRW
    have HL9 := Lib.hid hl
    clear hd hr hw hmap hln hl
    by_cases hkm : k < ks
    · have l1 : (k : Int) < (n1 : Int) := by have := HN1.out; omega
      have l2 : (k : Int) < (100 : Int) := by have := HN1.out; omega
      have HKM := Lib.hid hkm
      have I9 := Lib.hid (show wrap64 ((k : Int) + 1) = (k : Int) + 1 from IntWalk.wrap64_in _ (by omega))
      clear hkm hk
      obtain ⟨i0, hi0⟩ : ∃ i, i = 2 + kb + k * (3 + kb) := ⟨_, rfl⟩
      have HI0 := Lib.hid hi0
      rw [← hi0] at HR
      clear hi0
      go_wp2_with fail
      refine (gdR_at R r q i0 kb wr HR.out HD.out.qb (by have := HRQ.out; omega)).mono ?_
      rintro e w8 ⟨rfl, h1, h2⟩
      have hbx := (Below.refl w8.heap.size w8).alloc (Nat.le_refl _) (Obj.cells #[.int .u64 (N i0 : Int), .int .u64 (N (i0 + 1) : Int)] 26)
      have HD8 := Lib.hid ((HD.out.read h2).keep hbx)
      have HR8 := Lib.hid (show RdR _ r (SS (i0 + 2)) from h1.keep hbx)
      have HRW8 := Lib.hid ((HRW.out.kpT h2 fun b hb => .inl (by omega)).keep hbx)
      have HG8 := Lib.hid (Blk.new w8 26 #[.int .u64 (N i0 : Int), .int .u64 (N (i0 + 1) : Int)])
      have HGG := Lib.hid (show q < w8.heap.size from (HD.out.read h2).qb.lt)
      have HGM := Lib.hid (show q < w8.heap.size ∧ r < q from ⟨(HD.out.read h2).qb.lt, HRQ.out⟩)
      clear h1 h2 hbx HD HR HRW
      go_wp2_with fail
      generalize w8.alloc (Obj.cells #[.int .u64 (N i0 : Int), .int .u64 (N (i0 + 1) : Int)] 26) = w9 at *
      generalize w8.heap.size = G at *
      refine (smallR_at R r q (i0 + 2) kb w9 HR8.out HD8.out.qb).mono ?_
      rintro e w10 ⟨rfl, h1, h2⟩
      obtain ⟨hd, hhd⟩ : ∃ z, z = decide (min (N (i0 + 2)) 1048576 = 1) := ⟨_, rfl⟩
      have e1 : (((min (N (i0 + 2)) 1048576 : Nat) : Int) == 1) = hd := by
        rw [hhd]
        by_cases hx : min (N (i0 + 2)) 1048576 = 1
        · rw [hx]; rfl
        · rw [decide_eq_false hx]
          have : ((min (N (i0 + 2)) 1048576 : Nat) : Int) ≠ 1 := by omega
          simpa using this
      have HHD := Lib.hid hhd
      generalize ((min (N (i0 + 2)) 1048576 : Nat) : Int) = mm at *
      obtain ⟨zs, hzs⟩ : ∃ z, z = imgN 1048576 N (i0 + 3) kb := ⟨_, rfl⟩
      have HIM := Lib.hid (fun w2 (h : RdR w2 r (SS (i0 + 3))) (hq : Blk w2 q 83 (RQ r (kb : Int))) => imageR_at R r q (i0 + 3) kb w2 h hq HRQ.out HKBL.out)
      rw [← hzs] at HIM
      have HZS := Lib.hid hzs
      have HD10 := Lib.hid (HD8.out.read h2)
      have HR10 := Lib.hid (show RdR w10 r (SS (i0 + 3)) from h1)
      have HRW10 := Lib.hid (HRW8.out.kpT h2 fun b hb => .inl (by omega))
      have HG10 := Lib.hid (h2.blk HG8.out (by have := HGM.out; have := HGG.out; omega))
      clear h1 h2 hhd hzs HD8 HR8 HRW8 HG8
      go_wp2_with fail
      refine wp_region_chain [5, 7, 8, 10] (kv [(5, .sla zs.length), (7, .sl 1), (8, .sla (ln + 1)), (10, .is undef)]) ((J9 (fun u w9 => DN w r q kb M #[.slice la kb lc, u, .int .u64 0, .int .u64 0, .int .u64 0, .int .u64 0, .int .i64 0, .int .i64 0, .slice none 0 0] (.slice la kb lc) live w9) (fun w9 => RdR w9 r (SS (i0 + 3))) (fun w9 => RdR w9 r (SS (i0 + 3 + kb))) G ((N i0 : Nat), (N (i0 + 1) : Nat)) (r + 1) (.slice ua ln uc) es hd zs)) (by kernel_rfl) (by kernel_rfl) (by kernel_rfl) (kv_inh _) (⟨HD10.out.keep (Below.drew (Below.refl _ _)), HR10.out.keep (Below.drew (Below.refl _ _)), HG10.out.keep (Below.drew (Below.refl _ _)), HRW10.out.keep (Below.drew (Below.refl _ _))⟩) ?_
      intro ν hν
      obtain ⟨a5, c5, n5⟩ : ∃ a c, ν 5 = .slice a zs.length c := hν 5
      obtain ⟨g7, n7⟩ : ∃ g, ν 7 = .slice (some ⟨g, 0, none⟩) 1 1 := hν 7
      obtain ⟨a8, c8, n8⟩ : ∃ a c, ν 8 = .slice a (ln + 1) c := hν 8
      have n10 : ν 10 = undef := hν 10
      clear hν
      refine ch_plain 0 4 6 (by rfl) rfl (by kernel_rfl) (by kernel_rfl) ?_
      apply Exists.intro
      refine ⟨fun st w2 hlo hhi hJ => ?_, ?_⟩
      · clear hlo hhi hJ
        go_simp
        exact And.intro rfl rfl
      simp only [Act.put, List.setIfInBounds_toArray, List.set_cons_succ, List.set_cons_zero, Nat.reduceAdd]
      refine ch_plain 0 2 6 (by rfl) rfl (by kernel_rfl) (by kernel_rfl) ?_
      apply Exists.intro
      refine ⟨fun st w2 hlo hhi hJ => ?_, ?_⟩
      · have hj : Blk w2 M 30 #[.slice la kb lc, .slice ua ln uc, .int .u64 0, .int .u64 0, .int .u64 0, .int .u64 0, .int .i64 0, .int .i64 0, .slice none 0 0] := by
          have h1 : st = 0 ∨ st = 1 ∨ st = 2 := by omega
          rcases h1 with rfl | rfl | rfl
          · have hj : (DN w r q kb M #[.slice la kb lc, .slice ua ln uc, .int .u64 0, .int .u64 0, .int .u64 0, .int .u64 0, .int .i64 0, .int .i64 0, .slice none 0 0] (.slice la kb lc) live w2) ∧ _ := hJ
            exact hj.1.bm
          · have hj : (DN w r q kb M #[.slice la kb lc, .slice ua ln uc, .int .u64 0, .int .u64 0, .int .u64 0, .int .u64 0, .int .i64 0, .int .i64 0, .slice none 0 0] (.slice la kb lc) live w2) ∧ _ := hJ
            exact hj.1.bm
          · have hj : (DN w r q kb M #[.slice la kb lc, .slice ua ln uc, .int .u64 0, .int .u64 0, .int .u64 0, .int .u64 0, .int .i64 0, .int .i64 0, .slice none 0 0] (.slice la kb lc) live w2) ∧ _ := hJ
            exact hj.1.bm
        have hx := hj.cell 1
        simp at hx
        clear hj
        clear hlo hhi hJ
        go_simp
        exact And.intro rfl rfl
      simp only [Act.put, List.setIfInBounds_toArray, List.set_cons_succ, List.set_cons_zero, Nat.reduceAdd]
      refine ch_plain 0 1 6 (by rfl) rfl (by kernel_rfl) (by kernel_rfl) ?_
      apply Exists.intro
      refine ⟨fun st w2 hlo hhi hJ => ?_, ?_⟩
      · have hj : Blk w2 G 26 #[.int .u64 (N i0 : Int), .int .u64 (N (i0 + 1) : Int)] := by
          have h1 : st = 0 ∨ st = 1 := by omega
          rcases h1 with rfl | rfl
          · have hj : (DN w r q kb M #[.slice la kb lc, .slice ua ln uc, .int .u64 0, .int .u64 0, .int .u64 0, .int .u64 0, .int .i64 0, .int .i64 0, .slice none 0 0] (.slice la kb lc) live w2) ∧ _ ∧ (Blk w2 G 26 #[.int .u64 (N i0 : Int), .int .u64 (N (i0 + 1) : Int)]) ∧ _ := hJ
            exact hj.2.2.1
          · have hj : (DN w r q kb M #[.slice la kb lc, .slice ua ln uc, .int .u64 0, .int .u64 0, .int .u64 0, .int .u64 0, .int .i64 0, .int .i64 0, .slice none 0 0] (.slice la kb lc) live w2) ∧ _ ∧ (Blk w2 G 26 #[.int .u64 (N i0 : Int), .int .u64 (N (i0 + 1) : Int)]) ∧ _ := hJ
            exact hj.2.2.1
        have hx0 := hj.cell 0
        have hx1 := hj.cell 1
        simp at hx0 hx1
        clear hj
        clear hlo hhi hJ
        go_simp
        exact And.intro rfl rfl
      simp only [Act.put, List.setIfInBounds_toArray, List.set_cons_succ, List.set_cons_zero, Nat.reduceAdd]
      refine ch_plain 0 4 6 (by rfl) rfl (by kernel_rfl) (by kernel_rfl) ?_
      apply Exists.intro
      refine ⟨fun st w2 hlo hhi hJ => ?_, ?_⟩
      · clear hlo hhi hJ
        go_simp
        exact And.intro rfl rfl
      simp only [Act.put, List.setIfInBounds_toArray, List.set_cons_succ, List.set_cons_zero, Nat.reduceAdd]
      refine ch_plain 0 4 6 (by rfl) rfl (by kernel_rfl) (by kernel_rfl) ?_
      apply Exists.intro
      refine ⟨fun st w2 hlo hhi hJ => ?_, ?_⟩
      · clear hlo hhi hJ
        go_simp
        exact And.intro rfl rfl
      simp only [Act.put, List.setIfInBounds_toArray, List.set_cons_succ, List.set_cons_zero, Nat.reduceAdd]
      refine ch_special 0 6 (by rfl) rfl (by decide) (by kernel_rfl) (fun w2 hJ => ?_) ?_
      · have hj : (DN w r q kb M #[.slice la kb lc, .slice ua ln uc, .int .u64 0, .int .u64 0, .int .u64 0, .int .u64 0, .int .i64 0, .int .i64 0, .slice none 0 0] (.slice la kb lc) live w2) ∧ RdR w2 r (SS (i0 + 3)) ∧ (Blk w2 G 26 #[.int .u64 (N i0 : Int), .int .u64 (N (i0 + 1) : Int)]) ∧ (RW w2 (r + 1) (.slice ua ln uc) es) := hJ
        go_simp
        refine (HIM.out w2 hj.2.1 hj.1.qb).mono ?_
        rintro e w3 ⟨v, rfl, ho, h1, h2⟩
        obtain ⟨a, c, rfl⟩ := ho.slice_
        have hgm := HGM.out
        have hgg := HGG.out
        exact ⟨_, rfl, ⟨_, _, rfl⟩, hj.1.read h2, h1, h2.blk hj.2.2.1 (by omega), hj.2.2.2.kpT h2 (fun b hb => .inl (by omega)), ho.mono (by have := hj.1.qb.lt; omega)⟩
      rw [n5]
      simp only [Act.put, List.setIfInBounds_toArray, List.set_cons_succ, List.set_cons_zero, Nat.reduceAdd]
      refine ch_plain 0 4 6 (by rfl) rfl (by kernel_rfl) (by kernel_rfl) ?_
      apply Exists.intro
      refine ⟨fun st w2 hlo hhi hJ => ?_, ?_⟩
      · clear hlo hhi hJ
        go_simp
        exact And.intro rfl rfl
      simp only [Act.put, List.setIfInBounds_toArray, List.set_cons_succ, List.set_cons_zero, Nat.reduceAdd]
      refine ch_special 1 6 (by rfl) rfl (by decide) (by kernel_rfl) (fun w2 hJ => ?_) ?_
      · have hj : (DN w r q kb M #[.slice la kb lc, .slice ua ln uc, .int .u64 0, .int .u64 0, .int .u64 0, .int .u64 0, .int .i64 0, .int .i64 0, .slice none 0 0] (.slice la kb lc) live w2) ∧ RdR w2 r (SS (i0 + 3 + kb)) ∧ (Blk w2 G 26 #[.int .u64 (N i0 : Int), .int .u64 (N (i0 + 1) : Int)]) ∧ (RW w2 (r + 1) (.slice ua ln uc) es) ∧ OwI w2 (r + 1) (ν 5) zs := hJ
        rw [n5] at hj
        go_simp
        have hbb := (Below.refl w2.heap.size w2).alloc (Nat.le_refl _) (Obj.cells (seOf ((N i0 : Nat), (N (i0 + 1) : Nat)) zs hd (.slice a5 zs.length c5)).cells 48)
        exact ⟨⟨_, rfl⟩, hj.1.keep hbb, hj.2.1.keep hbb, hj.2.2.2.1.keep hbb, hj.2.2.2.2.keep hbb, _, rfl, Blk.new _ _ _⟩
      rw [n7]
      simp only [Act.put, List.setIfInBounds_toArray, List.set_cons_succ, List.set_cons_zero, Nat.reduceAdd]
      refine ch_special 2 6 (by rfl) rfl (by decide) (by kernel_rfl) (fun w2 hJ => ?_) ?_
      · have hj : (DN w r q kb M #[.slice la kb lc, .slice ua ln uc, .int .u64 0, .int .u64 0, .int .u64 0, .int .u64 0, .int .i64 0, .int .i64 0, .slice none 0 0] (.slice la kb lc) live w2) ∧ RdR w2 r (SS (i0 + 3 + kb)) ∧ (RW w2 (r + 1) (.slice ua ln uc) es) ∧ OwI w2 (r + 1) (ν 5) zs ∧ ∃ g, ν 7 = .slice (some ⟨g, 0, none⟩) 1 1 ∧ Blk w2 g 48 (seOf ((N i0 : Nat), (N (i0 + 1) : Nat)) zs hd (ν 5)).cells := hJ
        rw [n5] at hj
        have hws := hj.1.qb.lt
        have hrq := HRQ.out
        obtain ⟨v', w', hr, hp, hg⟩ := app_se (e := (seOf ((N i0 : Nat), (N (i0 + 1) : Nat)) zs hd (.slice a5 zs.length c5))) 23 hj.2.2.1.1 hj.2.2.2.2 (by have h1 := HLN.out; have h2 := HKM.out; have h3 := HKSL.out; omega) (by omega)
        rw [n7] at hr
        rw [exec_append (.tmp 47) (.tmp 53) 23 rfl (.slice ua ln uc) (.slice (some ⟨g7, 0, none⟩) 1 1) rfl rfl v' hr]
        have hkg := Kp.of_grown hg
        obtain ⟨xa, xc, rfl⟩ := own_slice hp
        have hrb := hkg.below (B := r + 1) (fun b hb => own_from hj.2.2.1.1 hb) (by omega)
        refine ⟨⟨xa, xc, by rw [List.length_append, HL9.out]; rfl⟩, hj.1.grow hj.2.2.1.1 (Nat.lt_succ_self _) hkg, hj.2.1.below hrb (Nat.lt_succ_self _), ?_⟩
        show RW w' (r + 1) _ (es ++ [seOf ((N i0 : Nat), (N (i0 + 1) : Nat)) zs hd (ν 5)])
        rw [n5]
        refine ⟨hp, fun e he => ?_⟩
        rcases List.mem_append.1 he with he | he
        · exact (hj.2.2.1.2 e he).kp_row hj.2.2.1.1 hkg
        · rw [List.mem_singleton] at he
          rw [he]
          exact EO.kp_row (e := (seOf ((N i0 : Nat), (N (i0 + 1) : Nat)) zs hd (.slice a5 zs.length c5))) hj.2.2.2.1 hj.2.2.1.1 hkg
      rw [n8]
      simp only [Act.put, List.setIfInBounds_toArray, List.set_cons_succ, List.set_cons_zero, Nat.reduceAdd]
      refine ch_plain 0 4 6 (by rfl) rfl (by kernel_rfl) (by kernel_rfl) ?_
      apply Exists.intro
      refine ⟨fun st w2 hlo hhi hJ => ?_, ?_⟩
      · clear hlo hhi hJ
        go_simp
        exact And.intro rfl rfl
      simp only [Act.put, List.setIfInBounds_toArray, List.set_cons_succ, List.set_cons_zero, Nat.reduceAdd]
      refine ch_special 3 6 (by rfl) rfl (by decide) (by kernel_rfl) (fun w2 hJ => ?_) ?_
      · have hj : (DN w r q kb M #[.slice la kb lc, .slice ua ln uc, .int .u64 0, .int .u64 0, .int .u64 0, .int .u64 0, .int .i64 0, .int .i64 0, .slice none 0 0] (.slice la kb lc) live w2) ∧ RdR w2 r (SS (i0 + 3 + kb)) ∧ RW w2 (r + 1) (ν 8) (es ++ [seOf ((N i0 : Nat), (N (i0 + 1) : Nat)) zs hd (ν 5)]) := hJ
        have hx := hj.1.bm.cell 1
        have hf := hj.1.bm.frozen 1
        simp at hx
        have HJ := Lib.hid hj
        clear hj hJ
        go_simp
        refine ⟨rfl, ?_⟩
        have hk := kp_cell w2 M 1 (.slice a8 (ln + 1) c8)
        have hd := HJ.out.1.turn hk (HJ.out.1.bm.set 1 (.slice a8 (ln + 1) c8))
        have hr := HJ.out.2.1.below (below_cell w2 M 1 (.slice a8 (ln + 1) c8)) (Nat.lt_trans HRQ.out HJ.out.1.om)
        have hw := HJ.out.2.2.kpT hk fun b hb => by subst hb; exact HJ.out.1.othM
        rw [n8, n5] at hw
        exact ⟨hd, hr, hw⟩
      rw [n10]
      simp only [Act.put, Nat.reduceAdd]
      refine ch_nil (fun w5 hJ => ?_)
      have hF : (DN w r q kb M #[.slice la kb lc, (ν 8), .int .u64 0, .int .u64 0, .int .u64 0, .int .u64 0, .int .i64 0, .int .i64 0, .slice none 0 0] (.slice la kb lc) live w5) ∧ RdR w5 r (SS (i0 + 3 + kb)) ∧ RW w5 (r + 1) (ν 8) (es ++ [seOf ((N i0 : Nat), (N (i0 + 1) : Nat)) zs hd (ν 5)]) := hJ
      rw [n5, n8] at hF
      have HF := Lib.hid hF
      have e9 : i0 + 3 + kb = 2 + kb + (k + 1) * (3 + kb) := by rw [HI0.out, Nat.succ_mul]; omega
      have HE9 := Lib.hid e9
      have HMP := Lib.hid (show (es ++ [seOf ((N i0 : Nat), (N (i0 + 1) : Nat)) zs hd (.slice a5 zs.length c5)]).map Se.sn = snsN 1048576 N (2 + kb) kb (k + 1) by
        rw [List.map_append, HMAP.out, snsN_succ]
        refine congrArg _ (congrArg (fun z => [z]) ?_)
        show (⟨((N i0 : Nat), (N (i0 + 1) : Nat)), zs, hd⟩ : Sn) = _
        rw [HZS.out, HHD.out, HI0.out]
        rfl)
      clear hJ hF e9 n5 n7 n8 n10 l1 l2 e1 HD10 HR10 HRW10 HG10 HIM HZS HHD HI0 HMAP
      go_wp2
      rw [I9.out]
      clear I9
      exact ⟨⟨k + 1, _, _, HKM.out, by simp, HF.out.1, by rw [← HE9.out]; exact HF.out.2.1, HF.out.2.2, HMP.out⟩, meas_succ HKM.out⟩
    · obtain rfl : k = ks := by omega
      have HSN := Lib.hid (show OwSn wr (r + 1) (.slice ua ln uc) (snsN 1048576 N (2 + kb) kb k) from ⟨by rw [snsN_len]; have := HKSL.out; omega, (by
        intro s hs
        obtain ⟨j, -, rfl⟩ := List.mem_map.1 hs
        exact ⟨u64_wf (R.lt _), u64_wf (R.lt _)⟩), es, HRW.out.1, HRW.out.2, HMAP.out⟩)
      obtain ⟨j0, hj0⟩ : ∃ j, j = 2 + kb + k * (3 + kb) := ⟨_, rfl⟩
      rw [← hj0] at HM HR
      have hend : (n1 : Int) ≤ (k : Int) ∨ ((k : Int) < (n1 : Int) ∧ (100 : Int) ≤ (k : Int)) := by have := HN1.out; omega
      clear hj0 hkm hk HRW HMAP HL9 HLN
      generalize snsN 1048576 N (2 + kb) kb k = sns at *
      rcases hend with l1 | ⟨l1, l2⟩
      all_goals
        go_wp2_with fail
        refine (smallR_at R r q j0 kb wr HR.out HD.out.qb).mono ?_
        rintro e w11 ⟨rfl, h1, h2⟩
        replace HD := Lib.hid (HD.out.read h2)
        replace HR := Lib.hid h1
        replace HSN := Lib.hid (HSN.out.kp h2 fun b hb => by omega)
        clear h1 h2
        by_cases h1 : min (N j0) 1048576 = 1
        · have e1 : (((min (N j0) 1048576 : Nat) : Int) == 1) = true := by rw [h1]; rfl
          have HTK := Lib.hid (show tkN 1048576 N j0 kb = ⟨((N (j0 + 1) : Nat), (N (j0 + 2) : Nat)), ((N (j0 + 3) : Nat), (N (j0 + 4) : Nat)), (min (N (j0 + 5)) 1048576 : Nat), (min (N (j0 + 6)) 1048576 : Nat), imgN 1048576 N (j0 + 7) kb⟩ from if_pos h1)
          generalize ((min (N j0) 1048576 : Nat) : Int) = z at *
          clear h1
          go_wp2_with fail
          refine (gdR_at R r q (j0 + 1) kb w11 HR.out HD.out.qb (by have := HRQ.out; omega)).mono ?_
          rintro e w12 ⟨rfl, h1, h2⟩
          have hbx := (Below.refl w12.heap.size w12).alloc (Nat.le_refl _) (Obj.cells #[.int .u64 (N (j0 + 1) : Int), .int .u64 (N (j0 + 2) : Int)] 26)
          have hgt := (HD.out.read h2).qb.lt
          replace HD := Lib.hid ((HD.out.read h2).keep hbx)
          replace HR := Lib.hid (show RdR _ r (SS (j0 + 3)) from h1.keep hbx)
          replace HSN := Lib.hid ((HSN.out.kp h2 fun b hb => by omega).keep hbx)
          have HGA := Lib.hid (Blk.new w12 26 #[.int .u64 (N (j0 + 1) : Int), .int .u64 (N (j0 + 2) : Int)])
          have HGTGA := Lib.hid hgt
          clear h1 h2 hbx hgt
          go_wp2_with fail
          generalize w12.alloc (Obj.cells #[.int .u64 (N (j0 + 1) : Int), .int .u64 (N (j0 + 2) : Int)] 26) = w12b at *
          generalize w12.heap.size = GAX at *
          refine (gdR_at R r q (j0 + 3) kb w12b HR.out HD.out.qb (by have := HRQ.out; omega)).mono ?_
          rintro e w13 ⟨rfl, h1, h2⟩
          have hbx := (Below.refl w13.heap.size w13).alloc (Nat.le_refl _) (Obj.cells #[.int .u64 (N (j0 + 3) : Int), .int .u64 (N (j0 + 4) : Int)] 26)
          have hgt := (HD.out.read h2).qb.lt
          replace HD := Lib.hid ((HD.out.read h2).keep hbx)
          replace HR := Lib.hid (show RdR _ r (SS (j0 + 5)) from h1.keep hbx)
          replace HSN := Lib.hid ((HSN.out.kp h2 fun b hb => by omega).keep hbx)
          replace HGA := Lib.hid ((h2.blk HGA.out (by have h5 := HGTGA.out; have h6 := HRQ.out; omega)).keep hbx)
          have HGB := Lib.hid (Blk.new w13 26 #[.int .u64 (N (j0 + 3) : Int), .int .u64 (N (j0 + 4) : Int)])
          have HGTGB := Lib.hid hgt
          clear h1 h2 hbx hgt
          go_wp2_with fail
          generalize w13.alloc (Obj.cells #[.int .u64 (N (j0 + 3) : Int), .int .u64 (N (j0 + 4) : Int)] 26) = w13b at *
          generalize w13.heap.size = GBX at *
          have HGO := Lib.hid (And.intro HGTGA.out HGTGB.out)
          refine (smallR_at R r q (j0 + 5) kb w13b HR.out HD.out.qb).mono ?_
          rintro e w14 ⟨rfl, h1, h2⟩
          have hm9 : min (N (j0 + 5)) 1048576 ≤ 1048576 := by omega
          generalize min (N (j0 + 5)) 1048576 = m5 at *
          have HL5 := Lib.hid hm9
          replace HD := Lib.hid (HD.out.read h2)
          replace HR := Lib.hid (show RdR _ r (SS (j0 + 6)) from h1)
          replace HSN := Lib.hid (HSN.out.kp h2 fun b hb => by omega)
          replace HGA := Lib.hid (h2.blk HGA.out (by have h5 := HGO.out; have h6 := HRQ.out; omega))
          replace HGB := Lib.hid (h2.blk HGB.out (by have h5 := HGO.out; have h6 := HRQ.out; omega))
          clear h1 h2 hm9
          go_wp2_with fail
          obtain ⟨im, him⟩ : ∃ z, z = imgN 1048576 N (j0 + 7) kb := ⟨_, rfl⟩
          have HIM := Lib.hid (fun w2 (h : RdR w2 r (SS (j0 + 7))) (hq : Blk w2 q 83 (RQ r (kb : Int))) => imageR_at R r q (j0 + 7) kb w2 h hq HRQ.out HKBL.out)
          rw [← him] at HIM HTK
          clear him
          refine (smallR_at R r q (j0 + 6) kb w14 HR.out HD.out.qb).mono ?_
          rintro e w15 ⟨rfl, h1, h2⟩
          have hm9 : min (N (j0 + 6)) 1048576 ≤ 1048576 := by omega
          generalize min (N (j0 + 6)) 1048576 = m6 at *
          have HL6 := Lib.hid hm9
          replace HD := Lib.hid (HD.out.read h2)
          replace HR := Lib.hid (show RdR _ r (SS (j0 + 7)) from h1)
          replace HSN := Lib.hid (HSN.out.kp h2 fun b hb => by omega)
          replace HGA := Lib.hid (h2.blk HGA.out (by have h5 := HGO.out; have h6 := HRQ.out; omega))
          replace HGB := Lib.hid (h2.blk HGB.out (by have h5 := HGO.out; have h6 := HRQ.out; omega))
          clear h1 h2 hm9
          go_wp2_with fail
          refine wp_region_chain [5, 8] (kv [(5, .sla im.length), (8, .is undef)]) ((J6 (fun w9 => DN w r q kb M #[.slice la kb lc, .slice ua ln uc, .int .u64 0, .int .u64 0, .int .u64 0, .int .u64 0, .int .i64 0, .int .i64 0, .slice none 0 0] (.slice la kb lc) live w9) (fun iv w9 => DN w r q kb M #[.slice la kb lc, .slice ua ln uc, .int .u64 (N (j0 + 1) : Int), .int .u64 (N (j0 + 2) : Int), .int .u64 (N (j0 + 3) : Int), .int .u64 (N (j0 + 4) : Int), .int .i64 (m5 : Int), .int .i64 (m6 : Int), iv] (.slice la kb lc) live w9) (fun w9 => RdR w9 r (SS (j0 + 7))) (fun w9 => RdR w9 r (SS (j0 + 7 + kb))) GAX GBX #[.int .u64 (N (j0 + 1) : Int), .int .u64 (N (j0 + 2) : Int)] #[.int .u64 (N (j0 + 3) : Int), .int .u64 (N (j0 + 4) : Int)] (r + 1) (.slice ua ln uc) sns im)) (by kernel_rfl) (by kernel_rfl) (by kernel_rfl) (kv_inh _) (⟨HD.out.keep (Below.drew (Below.refl _ _)), HR.out.keep (Below.drew (Below.refl _ _)), HGA.out.keep (Below.drew (Below.refl _ _)), HGB.out.keep (Below.drew (Below.refl _ _)), HSN.out.keep (Below.drew (Below.refl _ _))⟩) ?_
          intro ν hν
          obtain ⟨a5, c5, n5⟩ : ∃ a c, ν 5 = .slice a im.length c := hν 5
          have n8 : ν 8 = undef := hν 8
          clear hν
          refine ch_plain 0 1 6 (by rfl) rfl (by kernel_rfl) (by kernel_rfl) ?_
          apply Exists.intro
          refine ⟨fun st w2 hlo hhi hJ => ?_, ?_⟩
          · have hj : Blk w2 GAX 26 #[.int .u64 (N (j0 + 1) : Int), .int .u64 (N (j0 + 2) : Int)] := by
              have h1 : st = 0 ∨ st = 1 := by omega
              rcases h1 with rfl | rfl
              · have hj : (DN w r q kb M #[.slice la kb lc, .slice ua ln uc, .int .u64 0, .int .u64 0, .int .u64 0, .int .u64 0, .int .i64 0, .int .i64 0, .slice none 0 0] (.slice la kb lc) live w2) ∧ _ ∧ (Blk w2 GAX 26 #[.int .u64 (N (j0 + 1) : Int), .int .u64 (N (j0 + 2) : Int)]) ∧ (Blk w2 GBX 26 #[.int .u64 (N (j0 + 3) : Int), .int .u64 (N (j0 + 4) : Int)]) ∧ _ := hJ
                exact hj.2.2.1
              · have hj : (DN w r q kb M #[.slice la kb lc, .slice ua ln uc, .int .u64 0, .int .u64 0, .int .u64 0, .int .u64 0, .int .i64 0, .int .i64 0, .slice none 0 0] (.slice la kb lc) live w2) ∧ _ ∧ (Blk w2 GAX 26 #[.int .u64 (N (j0 + 1) : Int), .int .u64 (N (j0 + 2) : Int)]) ∧ (Blk w2 GBX 26 #[.int .u64 (N (j0 + 3) : Int), .int .u64 (N (j0 + 4) : Int)]) ∧ _ := hJ
                exact hj.2.2.1
            have hx0 := hj.cell 0
            have hx1 := hj.cell 1
            simp at hx0 hx1
            clear hj
            clear hlo hhi hJ
            go_simp
            exact And.intro rfl rfl
          simp only [Act.put, List.setIfInBounds_toArray, List.set_cons_succ, List.set_cons_zero, Nat.reduceAdd]
          refine ch_plain 0 1 6 (by rfl) rfl (by kernel_rfl) (by kernel_rfl) ?_
          apply Exists.intro
          refine ⟨fun st w2 hlo hhi hJ => ?_, ?_⟩
          · have hj : Blk w2 GBX 26 #[.int .u64 (N (j0 + 3) : Int), .int .u64 (N (j0 + 4) : Int)] := by
              have h1 : st = 0 ∨ st = 1 := by omega
              rcases h1 with rfl | rfl
              · have hj : (DN w r q kb M #[.slice la kb lc, .slice ua ln uc, .int .u64 0, .int .u64 0, .int .u64 0, .int .u64 0, .int .i64 0, .int .i64 0, .slice none 0 0] (.slice la kb lc) live w2) ∧ _ ∧ (Blk w2 GAX 26 #[.int .u64 (N (j0 + 1) : Int), .int .u64 (N (j0 + 2) : Int)]) ∧ (Blk w2 GBX 26 #[.int .u64 (N (j0 + 3) : Int), .int .u64 (N (j0 + 4) : Int)]) ∧ _ := hJ
                exact hj.2.2.2.1
              · have hj : (DN w r q kb M #[.slice la kb lc, .slice ua ln uc, .int .u64 0, .int .u64 0, .int .u64 0, .int .u64 0, .int .i64 0, .int .i64 0, .slice none 0 0] (.slice la kb lc) live w2) ∧ _ ∧ (Blk w2 GAX 26 #[.int .u64 (N (j0 + 1) : Int), .int .u64 (N (j0 + 2) : Int)]) ∧ (Blk w2 GBX 26 #[.int .u64 (N (j0 + 3) : Int), .int .u64 (N (j0 + 4) : Int)]) ∧ _ := hJ
                exact hj.2.2.2.1
            have hx0 := hj.cell 0
            have hx1 := hj.cell 1
            simp at hx0 hx1
            clear hj
            clear hlo hhi hJ
            go_simp
            exact And.intro rfl rfl
          simp only [Act.put, List.setIfInBounds_toArray, List.set_cons_succ, List.set_cons_zero, Nat.reduceAdd]
          refine ch_plain 0 2 6 (by rfl) rfl (by kernel_rfl) (by kernel_rfl) ?_
          apply Exists.intro
          refine ⟨fun st w2 hlo hhi hJ => ?_, ?_⟩
          · clear hlo hhi hJ
            go_simp
            exact And.intro rfl rfl
          simp only [Act.put, List.setIfInBounds_toArray, List.set_cons_succ, List.set_cons_zero, Nat.reduceAdd]
          refine ch_plain 0 2 6 (by rfl) rfl (by kernel_rfl) (by kernel_rfl) ?_
          apply Exists.intro
          refine ⟨fun st w2 hlo hhi hJ => ?_, ?_⟩
          · clear hlo hhi hJ
            go_simp
            exact And.intro rfl rfl
          simp only [Act.put, List.setIfInBounds_toArray, List.set_cons_succ, List.set_cons_zero, Nat.reduceAdd]
          refine ch_plain 0 2 6 (by rfl) rfl (by kernel_rfl) (by kernel_rfl) ?_
          apply Exists.intro
          refine ⟨fun st w2 hlo hhi hJ => ?_, ?_⟩
          · clear hlo hhi hJ
            go_simp
            exact And.intro rfl rfl
          simp only [Act.put, List.setIfInBounds_toArray, List.set_cons_succ, List.set_cons_zero, Nat.reduceAdd]
          refine ch_special 0 6 (by rfl) rfl (by decide) (by kernel_rfl) (fun w2 hJ => ?_) ?_
          · have hj : (DN w r q kb M #[.slice la kb lc, .slice ua ln uc, .int .u64 0, .int .u64 0, .int .u64 0, .int .u64 0, .int .i64 0, .int .i64 0, .slice none 0 0] (.slice la kb lc) live w2) ∧ RdR w2 r (SS (j0 + 7)) ∧ (Blk w2 GAX 26 #[.int .u64 (N (j0 + 1) : Int), .int .u64 (N (j0 + 2) : Int)]) ∧ (Blk w2 GBX 26 #[.int .u64 (N (j0 + 3) : Int), .int .u64 (N (j0 + 4) : Int)]) ∧ OwSn w2 (r + 1) (.slice ua ln uc) sns := hJ
            go_simp
            refine (HIM.out w2 hj.2.1 hj.1.qb).mono ?_
            rintro e w3 ⟨v, rfl, ho, h1, h2⟩
            obtain ⟨a, c, rfl⟩ := ho.slice_
            have hg1 := HGO.out
            have hg2 := HRQ.out
            exact ⟨_, rfl, ⟨_, _, rfl⟩, hj.1.read h2, h1, h2.blk hj.2.2.1 (by omega), h2.blk hj.2.2.2.1 (by omega), hj.2.2.2.2.kp h2 (fun b hb => by omega), ho.mono (by have := hj.1.qb.lt; omega)⟩
          rw [n5]
          simp only [Act.put, List.setIfInBounds_toArray, List.set_cons_succ, List.set_cons_zero, Nat.reduceAdd]
          refine ch_plain 0 2 6 (by rfl) rfl (by kernel_rfl) (by kernel_rfl) ?_
          apply Exists.intro
          refine ⟨fun st w2 hlo hhi hJ => ?_, ?_⟩
          · clear hlo hhi hJ
            go_simp
            exact And.intro rfl rfl
          simp only [Act.put, List.setIfInBounds_toArray, List.set_cons_succ, List.set_cons_zero, Nat.reduceAdd]
          refine ch_plain 0 2 6 (by rfl) rfl (by kernel_rfl) (by kernel_rfl) ?_
          apply Exists.intro
          refine ⟨fun st w2 hlo hhi hJ => ?_, ?_⟩
          · clear hlo hhi hJ
            go_simp
            exact And.intro rfl rfl
          simp only [Act.put, List.setIfInBounds_toArray, List.set_cons_succ, List.set_cons_zero, Nat.reduceAdd]
          refine ch_special 1 6 (by rfl) rfl (by decide) (by kernel_rfl) (fun w2 hJ => ?_) ?_
          · have hj : (DN w r q kb M #[.slice la kb lc, .slice ua ln uc, .int .u64 0, .int .u64 0, .int .u64 0, .int .u64 0, .int .i64 0, .int .i64 0, .slice none 0 0] (.slice la kb lc) live w2) ∧ RdR w2 r (SS (j0 + 7 + kb)) ∧ (Blk w2 GAX 26 #[.int .u64 (N (j0 + 1) : Int), .int .u64 (N (j0 + 2) : Int)]) ∧ (Blk w2 GBX 26 #[.int .u64 (N (j0 + 3) : Int), .int .u64 (N (j0 + 4) : Int)]) ∧ OwSn w2 (r + 1) (.slice ua ln uc) sns ∧ OwI w2 (r + 1) (ν 5) im := hJ
            rw [n5] at hj
            have hbm := hj.1.bm
            rw [exec_store_mid 28 (.tmp 74) (.tmp 73) rfl M 2 #[.int .u64 (N (j0 + 1) : Int), .int .u64 (N (j0 + 2) : Int), .int .u64 (N (j0 + 3) : Int), .int .u64 (N (j0 + 4) : Int), .int .i64 (m5 : Int), .int .i64 (m6 : Int), .slice a5 im.length c5] rfl rfl (hbm.there (by show 2 + 7 ≤ 9; decide)) (by kernel_rfl) (tk_one _ _ _ _ _ _ _ _ _)]
            have hk := kp_setCells M [.int .u64 (N (j0 + 1) : Int), .int .u64 (N (j0 + 2) : Int), .int .u64 (N (j0 + 3) : Int), .int .u64 (N (j0 + 4) : Int), .int .i64 (m5 : Int), .int .i64 (m6 : Int), .slice a5 im.length c5] 2 w2
            have hb9 := blk_setCells [.int .u64 (N (j0 + 1) : Int), .int .u64 (N (j0 + 2) : Int), .int .u64 (N (j0 + 3) : Int), .int .u64 (N (j0 + 4) : Int), .int .i64 (m5 : Int), .int .i64 (m6 : Int), .slice a5 im.length c5] 2 w2 _ hbm
            have hoth : ∀ b, b = M → Oth w2 (r + 1) b := fun b hb => by subst hb; exact hj.1.othM
            refine ⟨rfl, ?_⟩
            show (DN w r q kb M #[.slice la kb lc, .slice ua ln uc, .int .u64 (N (j0 + 1) : Int), .int .u64 (N (j0 + 2) : Int), .int .u64 (N (j0 + 3) : Int), .int .u64 (N (j0 + 4) : Int), .int .i64 (m5 : Int), .int .i64 (m6 : Int), (ν 5)] (.slice la kb lc) live _) ∧ OwSn _ (r + 1) (.slice ua ln uc) sns ∧ OwI _ (r + 1) (ν 5) im
            rw [n5]
            exact ⟨hj.1.turn hk hb9, hj.2.2.2.2.1.kpT hk hoth, hj.2.2.2.2.2.kpT hk hoth⟩
          rw [n8]
          simp only [Act.put, Nat.reduceAdd]
          refine ch_nil (fun w5 hJ => ?_)
          have hF : (DN w r q kb M #[.slice la kb lc, .slice ua ln uc, .int .u64 (N (j0 + 1) : Int), .int .u64 (N (j0 + 2) : Int), .int .u64 (N (j0 + 3) : Int), .int .u64 (N (j0 + 4) : Int), .int .i64 (m5 : Int), .int .i64 (m6 : Int), (ν 5)] (.slice la kb lc) live w5) ∧ OwSn w5 (r + 1) (.slice ua ln uc) sns ∧ OwI w5 (r + 1) (ν 5) im := hJ
          rw [n5] at hF
          replace HD := Lib.hid hF.1
          replace HSN := Lib.hid hF.2.1
          have HI := Lib.hid hF.2.2
          have HWF := Lib.hid (show wfTk ⟨((N (j0 + 1) : Nat), (N (j0 + 2) : Nat)), ((N (j0 + 3) : Nat), (N (j0 + 4) : Nat)), (m5 : Nat), (m6 : Nat), im⟩ from ⟨⟨u64_wf (R.lt _), u64_wf (R.lt _)⟩, ⟨u64_wf (R.lt _), u64_wf (R.lt _)⟩, lit_len (by have := HL5.out; unfold maxLen; omega), lit_len (by have := HL6.out; unfold maxLen; omega)⟩)
          clear hJ hF n5 n8 HGA HGB HR HIM
          have HLIV := Lib.hid (show m = ⟨live, sns, ⟨((N (j0 + 1) : Nat), (N (j0 + 2) : Nat)), ((N (j0 + 3) : Nat), (N (j0 + 4) : Nat)), (m5 : Nat), (m6 : Nat), im⟩⟩ by rw [HM.out, HTK.out])
          have HOM := Lib.hid (show OwMt w5 w.heap.size (.agg #[.slice la kb lc, .slice ua ln uc, .int .u64 (N (j0 + 1) : Int), .int .u64 (N (j0 + 2) : Int), .int .u64 (N (j0 + 3) : Int), .int .u64 (N (j0 + 4) : Int), .int .i64 (m5 : Int), .int .i64 (m6 : Int), .slice a5 im.length c5]) m from ⟨.slice la kb lc, .slice ua ln uc, .slice a5 im.length c5, by rw [HLIV.out]; rfl, by rw [HLIV.out]; exact HD.out.lo.mono (by have := HD.out.orc; omega), by rw [HLIV.out]; exact HSN.out.mono (by have := HD.out.orc; omega), by rw [HLIV.out]; exact HI.out.mono (by have := HD.out.orc; omega), by rw [HLIV.out]; exact HWF.out⟩)
          have z0 := HD.out.bm.cell 0
          have z1 := HD.out.bm.cell 1
          have z2 := HD.out.bm.cell 2
          have z3 := HD.out.bm.cell 3
          have z4 := HD.out.bm.cell 4
          have z5 := HD.out.bm.cell 5
          have z6 := HD.out.bm.cell 6
          have z7 := HD.out.bm.cell 7
          have z8 := HD.out.bm.cell 8
          simp at z0 z1 z2 z3 z4 z5 z6 z7 z8
          go_wp2_with fail
          refine (encR_any _ _ m HOM.out.inm).mono ?_
          rintro e wy ⟨rfl, hb⟩
          replace z0 := cell_later hb z0
          replace z1 := cell_later hb z1
          replace z2 := cell_later hb z2
          replace z3 := cell_later hb z3
          replace z4 := cell_later hb z4
          replace z5 := cell_later hb z5
          replace z6 := cell_later hb z6
          replace z7 := cell_later hb z7
          replace z8 := cell_later hb z8
          have HBY := Lib.hid (HD.out.bl.trans (hb.mono HD.out.bl.size))
          have HZY := Lib.hid (HD.out.rc.keep hb)
          have HOY := Lib.hid (HOM.out.kp (Kp.of_below hb) (A := fun _ => False) fun _ _ h => h)
          clear hb HOM
          obtain ⟨EZ, hEZ⟩ : ∃ z, z = encE m := ⟨_, rfl⟩
          obtain ⟨ES, hES⟩ : ∃ z, z = encM m := ⟨_, rfl⟩
          rw [← hEZ, ← hES]
          have HOKD := Lib.hid (show okD m s ↔ EZ = 0 ∧ ES = s by rw [hEZ, hES]; exact Iff.rfl)
          clear hEZ hES
          by_cases hok : EZ = 0
          · subst hok
            by_cases heq : ES = s
            · subst heq
              obtain ⟨hg1, hg2⟩ := HGOOD.out (HOKD.out.2 ⟨rfl, rfl⟩)
              have HG := Lib.hid (And.intro hg1 hg2)
              have e2 : (ES.toList != ES.toList) = false := by simp
              clear hg1 hg2
              go_wp2_with (refine wpList_store_then rfl 30 _ _ rfl w.heap.size #[.slice la kb lc, .slice ua ln uc, .int .u64 (N (j0 + 1) : Int), .int .u64 (N (j0 + 2) : Int), .int .u64 (N (j0 + 3) : Int), .int .u64 (N (j0 + 4) : Int), .int .i64 (m5 : Int), .int .i64 (m6 : Int), .slice a5 im.length c5] rfl rfl 30 _ HZY.out meta_size rfl (mt_one _ _ _ _ _ _ _ _ _ _ _ _ _ _ _) ?_)
              refine Later.mk fun w20 hw20 => ?_
              have H9 := Lib.hid (show Below w.heap.size w w20 ∧ Blk w20 w.heap.size 30 #[.slice la kb lc, .slice ua ln uc, .int .u64 (N (j0 + 1) : Int), .int .u64 (N (j0 + 2) : Int), .int .u64 (N (j0 + 3) : Int), .int .u64 (N (j0 + 4) : Int), .int .i64 (m5 : Int), .int .i64 (m6 : Int), .slice a5 im.length c5] ∧ OwMt w20 w.heap.size (.agg #[.slice la kb lc, .slice ua ln uc, .int .u64 (N (j0 + 1) : Int), .int .u64 (N (j0 + 2) : Int), .int .u64 (N (j0 + 3) : Int), .int .u64 (N (j0 + 4) : Int), .int .i64 (m5 : Int), .int .i64 (m6 : Int), .slice a5 im.length c5]) m by
                rw [hw20]
                refine ⟨Below.setRow HBY.out (Nat.le_refl _) _, HZY.out.row _, ?_⟩
                obtain ⟨lv, sv, iv, h1, h2, h3, h4, h5⟩ := HOY.out
                have hkr := kp_row wy w.heap.size #[.slice la kb lc, .slice ua ln uc, .int .u64 (N (j0 + 1) : Int), .int .u64 (N (j0 + 2) : Int), .int .u64 (N (j0 + 3) : Int), .int .u64 (N (j0 + 4) : Int), .int .i64 (m5 : Int), .int .i64 (m6 : Int), .slice a5 im.length c5]
                have hoth : ∀ b, b = w.heap.size → Oth wy w.heap.size b := fun b hb => by subst hb; exact .inr ⟨_, _, HZY.out, by decide, by decide⟩
                exact ⟨lv, sv, iv, h1, h2.kpT hkr hoth, h3.kpT hkr hoth, h4.kpT hkr hoth, h5⟩)
              clear hw20 z0 z1 z2 z3 z4 z5 z6 z7 z8 HZY HOY HBY
              go_wp2
              refine bodyPost_ret (results_cell2 (ty := 30) (g := w.heap.size) (k := 2) (m := 3) rfl rfl rfl H9.out.2.1 Try.underlying30 rfl meta_size) rfl ⟨.agg #[.slice la kb lc, .slice ua ln uc, .int .u64 (N (j0 + 1) : Int), .int .u64 (N (j0 + 2) : Int), .int .u64 (N (j0 + 3) : Int), .int .u64 (N (j0 + 4) : Int), .int .i64 (m5 : Int), .int .i64 (m6 : Int), .slice a5 im.length c5], (by rw [HG.out.2] <;> rfl), by rw [HG.out.1]; exact H9.out.2.2, H9.out.1⟩
            · obtain ⟨hg1, hg2⟩ := HBAD.out (fun h => heq (HOKD.out.1 h).2)
              have HG := Lib.hid (And.intro hg1 hg2)
              have e2 : (ES.toList != s.toList) = true := by
                simp only [bne_iff_ne, ne_eq]
                intro h
                exact heq ((str_iff _ _).1 (by simpa using h))
              have e3 : (ES.toList == s.toList) = false := by simpa using e2
              have e4 : decide (ES.toList = s.toList) = false := by simpa using e2
              clear hg1 hg2 heq
              go_wp2_with (refine wpList_store_then rfl 30 _ _ rfl w.heap.size #[.slice none 0 0, .slice none 0 0, .int .u64 0, .int .u64 0, .int .u64 0, .int .u64 0, .int .i64 0, .int .i64 0, .slice none 0 0] rfl rfl 30 _ HZY.out meta_size rfl (mt_one _ _ _ _ _ _ _ _ _ _ _ _ _ _ _) ?_)
              refine Later.mk fun w20 hw20 => ?_
              have H9 := Lib.hid (show Below w.heap.size w w20 ∧ Blk w20 w.heap.size 30 #[.slice none 0 0, .slice none 0 0, .int .u64 0, .int .u64 0, .int .u64 0, .int .u64 0, .int .i64 0, .int .i64 0, .slice none 0 0] by
                rw [hw20]
                exact ⟨Below.setRow HBY.out (Nat.le_refl _) _, HZY.out.row _⟩)
              clear hw20 z0 z1 z2 z3 z4 z5 z6 z7 z8
              go_wp2
              refine bodyPost_ret (results_cell2 (ty := 30) (g := w.heap.size) (k := 2) (m := 3) rfl rfl rfl H9.out.2 Try.underlying30 rfl meta_size) rfl ⟨.agg #[.slice none 0 0, .slice none 0 0, .int .u64 0, .int .u64 0, .int .u64 0, .int .u64 0, .int .i64 0, .int .i64 0, .slice none 0 0], (by rw [HG.out.2] <;> rfl), by rw [HG.out.1]; exact ⟨.slice none 0 0, .slice none 0 0, .slice none 0 0, rfl, OwI.nil_ _ _, OwSn.nil_ _ _, OwI.nil_ _ _, zeroT_wf⟩, H9.out.1⟩
          · obtain ⟨hg1, hg2⟩ := HBAD.out (fun h => hok (HOKD.out.1 h).1)
            have HG := Lib.hid (And.intro hg1 hg2)
            have e2 : (EZ != 0) = true := by simp [hok]
            clear hg1 hg2 hok
            go_wp2_with (refine wpList_store_then rfl 30 _ _ rfl w.heap.size #[.slice none 0 0, .slice none 0 0, .int .u64 0, .int .u64 0, .int .u64 0, .int .u64 0, .int .i64 0, .int .i64 0, .slice none 0 0] rfl rfl 30 _ HZY.out meta_size rfl (mt_one _ _ _ _ _ _ _ _ _ _ _ _ _ _ _) ?_)
            refine Later.mk fun w20 hw20 => ?_
            have H9 := Lib.hid (show Below w.heap.size w w20 ∧ Blk w20 w.heap.size 30 #[.slice none 0 0, .slice none 0 0, .int .u64 0, .int .u64 0, .int .u64 0, .int .u64 0, .int .i64 0, .int .i64 0, .slice none 0 0] by
              rw [hw20]
              exact ⟨Below.setRow HBY.out (Nat.le_refl _) _, HZY.out.row _⟩)
            clear hw20 z0 z1 z2 z3 z4 z5 z6 z7 z8
            go_wp2
            refine bodyPost_ret (results_cell2 (ty := 30) (g := w.heap.size) (k := 2) (m := 3) rfl rfl rfl H9.out.2 Try.underlying30 rfl meta_size) rfl ⟨.agg #[.slice none 0 0, .slice none 0 0, .int .u64 0, .int .u64 0, .int .u64 0, .int .u64 0, .int .i64 0, .int .i64 0, .slice none 0 0], (by rw [HG.out.2] <;> rfl), by rw [HG.out.1]; exact ⟨.slice none 0 0, .slice none 0 0, .slice none 0 0, rfl, OwI.nil_ _ _, OwSn.nil_ _ _, OwI.nil_ _ _, zeroT_wf⟩, H9.out.1⟩
        · have e1 : (((min (N j0) 1048576 : Nat) : Int) == 1) = false := by
            have : ((min (N j0) 1048576 : Nat) : Int) ≠ 1 := by omega
            simpa using this
          have HTK := Lib.hid (show tkN 1048576 N j0 kb = zeroT from if_neg h1)
          generalize ((min (N j0) 1048576 : Nat) : Int) = z at *
          clear h1
          have HI := Lib.hid (OwI.nil_ w11 (r + 1))
          have HWF := Lib.hid zeroT_wf
          have HLIV := Lib.hid (show m = ⟨live, sns, zeroT⟩ by rw [HM.out, HTK.out])
          have HOM := Lib.hid (show OwMt w11 w.heap.size (.agg #[.slice la kb lc, .slice ua ln uc, .int .u64 0, .int .u64 0, .int .u64 0, .int .u64 0, .int .i64 0, .int .i64 0, .slice none 0 0]) m from ⟨.slice la kb lc, .slice ua ln uc, .slice none 0 0, by rw [HLIV.out]; rfl, by rw [HLIV.out]; exact HD.out.lo.mono (by have := HD.out.orc; omega), by rw [HLIV.out]; exact HSN.out.mono (by have := HD.out.orc; omega), by rw [HLIV.out]; exact HI.out.mono (by have := HD.out.orc; omega), by rw [HLIV.out]; exact HWF.out⟩)
          have z0 := HD.out.bm.cell 0
          have z1 := HD.out.bm.cell 1
          have z2 := HD.out.bm.cell 2
          have z3 := HD.out.bm.cell 3
          have z4 := HD.out.bm.cell 4
          have z5 := HD.out.bm.cell 5
          have z6 := HD.out.bm.cell 6
          have z7 := HD.out.bm.cell 7
          have z8 := HD.out.bm.cell 8
          simp at z0 z1 z2 z3 z4 z5 z6 z7 z8
          go_wp2_with fail
          refine (encR_any _ _ m HOM.out.inm).mono ?_
          rintro e wy ⟨rfl, hb⟩
          replace z0 := cell_later hb z0
          replace z1 := cell_later hb z1
          replace z2 := cell_later hb z2
          replace z3 := cell_later hb z3
          replace z4 := cell_later hb z4
          replace z5 := cell_later hb z5
          replace z6 := cell_later hb z6
          replace z7 := cell_later hb z7
          replace z8 := cell_later hb z8
          have HBY := Lib.hid (HD.out.bl.trans (hb.mono HD.out.bl.size))
          have HZY := Lib.hid (HD.out.rc.keep hb)
          have HOY := Lib.hid (HOM.out.kp (Kp.of_below hb) (A := fun _ => False) fun _ _ h => h)
          clear hb HOM
          obtain ⟨EZ, hEZ⟩ : ∃ z, z = encE m := ⟨_, rfl⟩
          obtain ⟨ES, hES⟩ : ∃ z, z = encM m := ⟨_, rfl⟩
          rw [← hEZ, ← hES]
          have HOKD := Lib.hid (show okD m s ↔ EZ = 0 ∧ ES = s by rw [hEZ, hES]; exact Iff.rfl)
          clear hEZ hES
          by_cases hok : EZ = 0
          · subst hok
            by_cases heq : ES = s
            · subst heq
              obtain ⟨hg1, hg2⟩ := HGOOD.out (HOKD.out.2 ⟨rfl, rfl⟩)
              have HG := Lib.hid (And.intro hg1 hg2)
              have e2 : (ES.toList != ES.toList) = false := by simp
              clear hg1 hg2
              go_wp2_with (refine wpList_store_then rfl 30 _ _ rfl w.heap.size #[.slice la kb lc, .slice ua ln uc, .int .u64 0, .int .u64 0, .int .u64 0, .int .u64 0, .int .i64 0, .int .i64 0, .slice none 0 0] rfl rfl 30 _ HZY.out meta_size rfl (mt_one _ _ _ _ _ _ _ _ _ _ _ _ _ _ _) ?_)
              refine Later.mk fun w20 hw20 => ?_
              have H9 := Lib.hid (show Below w.heap.size w w20 ∧ Blk w20 w.heap.size 30 #[.slice la kb lc, .slice ua ln uc, .int .u64 0, .int .u64 0, .int .u64 0, .int .u64 0, .int .i64 0, .int .i64 0, .slice none 0 0] ∧ OwMt w20 w.heap.size (.agg #[.slice la kb lc, .slice ua ln uc, .int .u64 0, .int .u64 0, .int .u64 0, .int .u64 0, .int .i64 0, .int .i64 0, .slice none 0 0]) m by
                rw [hw20]
                refine ⟨Below.setRow HBY.out (Nat.le_refl _) _, HZY.out.row _, ?_⟩
                obtain ⟨lv, sv, iv, h1, h2, h3, h4, h5⟩ := HOY.out
                have hkr := kp_row wy w.heap.size #[.slice la kb lc, .slice ua ln uc, .int .u64 0, .int .u64 0, .int .u64 0, .int .u64 0, .int .i64 0, .int .i64 0, .slice none 0 0]
                have hoth : ∀ b, b = w.heap.size → Oth wy w.heap.size b := fun b hb => by subst hb; exact .inr ⟨_, _, HZY.out, by decide, by decide⟩
                exact ⟨lv, sv, iv, h1, h2.kpT hkr hoth, h3.kpT hkr hoth, h4.kpT hkr hoth, h5⟩)
              clear hw20 z0 z1 z2 z3 z4 z5 z6 z7 z8 HZY HOY HBY
              go_wp2
              refine bodyPost_ret (results_cell2 (ty := 30) (g := w.heap.size) (k := 2) (m := 3) rfl rfl rfl H9.out.2.1 Try.underlying30 rfl meta_size) rfl ⟨.agg #[.slice la kb lc, .slice ua ln uc, .int .u64 0, .int .u64 0, .int .u64 0, .int .u64 0, .int .i64 0, .int .i64 0, .slice none 0 0], (by rw [HG.out.2] <;> rfl), by rw [HG.out.1]; exact H9.out.2.2, H9.out.1⟩
            · obtain ⟨hg1, hg2⟩ := HBAD.out (fun h => heq (HOKD.out.1 h).2)
              have HG := Lib.hid (And.intro hg1 hg2)
              have e2 : (ES.toList != s.toList) = true := by
                simp only [bne_iff_ne, ne_eq]
                intro h
                exact heq ((str_iff _ _).1 (by simpa using h))
              have e3 : (ES.toList == s.toList) = false := by simpa using e2
              have e4 : decide (ES.toList = s.toList) = false := by simpa using e2
              clear hg1 hg2 heq
              go_wp2_with (refine wpList_store_then rfl 30 _ _ rfl w.heap.size #[.slice none 0 0, .slice none 0 0, .int .u64 0, .int .u64 0, .int .u64 0, .int .u64 0, .int .i64 0, .int .i64 0, .slice none 0 0] rfl rfl 30 _ HZY.out meta_size rfl (mt_one _ _ _ _ _ _ _ _ _ _ _ _ _ _ _) ?_)
              refine Later.mk fun w20 hw20 => ?_
              have H9 := Lib.hid (show Below w.heap.size w w20 ∧ Blk w20 w.heap.size 30 #[.slice none 0 0, .slice none 0 0, .int .u64 0, .int .u64 0, .int .u64 0, .int .u64 0, .int .i64 0, .int .i64 0, .slice none 0 0] by
                rw [hw20]
                exact ⟨Below.setRow HBY.out (Nat.le_refl _) _, HZY.out.row _⟩)
              clear hw20 z0 z1 z2 z3 z4 z5 z6 z7 z8
              go_wp2
              refine bodyPost_ret (results_cell2 (ty := 30) (g := w.heap.size) (k := 2) (m := 3) rfl rfl rfl H9.out.2 Try.underlying30 rfl meta_size) rfl ⟨.agg #[.slice none 0 0, .slice none 0 0, .int .u64 0, .int .u64 0, .int .u64 0, .int .u64 0, .int .i64 0, .int .i64 0, .slice none 0 0], (by rw [HG.out.2] <;> rfl), by rw [HG.out.1]; exact ⟨.slice none 0 0, .slice none 0 0, .slice none 0 0, rfl, OwI.nil_ _ _, OwSn.nil_ _ _, OwI.nil_ _ _, zeroT_wf⟩, H9.out.1⟩
          · obtain ⟨hg1, hg2⟩ := HBAD.out (fun h => hok (HOKD.out.1 h).1)
            have HG := Lib.hid (And.intro hg1 hg2)
            have e2 : (EZ != 0) = true := by simp [hok]
            clear hg1 hg2 hok
            go_wp2_with (refine wpList_store_then rfl 30 _ _ rfl w.heap.size #[.slice none 0 0, .slice none 0 0, .int .u64 0, .int .u64 0, .int .u64 0, .int .u64 0, .int .i64 0, .int .i64 0, .slice none 0 0] rfl rfl 30 _ HZY.out meta_size rfl (mt_one _ _ _ _ _ _ _ _ _ _ _ _ _ _ _) ?_)
            refine Later.mk fun w20 hw20 => ?_
            have H9 := Lib.hid (show Below w.heap.size w w20 ∧ Blk w20 w.heap.size 30 #[.slice none 0 0, .slice none 0 0, .int .u64 0, .int .u64 0, .int .u64 0, .int .u64 0, .int .i64 0, .int .i64 0, .slice none 0 0] by
              rw [hw20]
              exact ⟨Below.setRow HBY.out (Nat.le_refl _) _, HZY.out.row _⟩)
            clear hw20 z0 z1 z2 z3 z4 z5 z6 z7 z8
            go_wp2
            refine bodyPost_ret (results_cell2 (ty := 30) (g := w.heap.size) (k := 2) (m := 3) rfl rfl rfl H9.out.2 Try.underlying30 rfl meta_size) rfl ⟨.agg #[.slice none 0 0, .slice none 0 0, .int .u64 0, .int .u64 0, .int .u64 0, .int .u64 0, .int .i64 0, .int .i64 0, .slice none 0 0], (by rw [HG.out.2] <;> rfl), by rw [HG.out.1]; exact ⟨.slice none 0 0, .slice none 0 0, .slice none 0 0, rfl, OwI.nil_ _ _, OwSn.nil_ _ _, OwI.nil_ _ _, zeroT_wf⟩, H9.out.1⟩
end Go.Proofs.Ytimgecflcackbaa
