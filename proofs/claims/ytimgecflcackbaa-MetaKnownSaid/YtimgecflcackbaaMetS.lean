/-
  META: Decode of the program (printed by wip/gen-mets.py).
-/
import Derived.Test.YtimgecflcackbaaMetR
import Derived.Laws.EntriesVeiled
namespace Go.Proofs.Ytimgecflcackbaa
open Go.RowKit Reg Go.ChangeShapes

/-- of the text's numbers, those that the program reads -/
def readM (c : Nat) (fb fs : Nat → Nat) (s : ByteArray) : Mt := mtN c (fb (nAt (some s.data.toList) 0)) (fs (nAt (some s.data.toList) (1 + fb (nAt (some s.data.toList) 0)))) (nAt (some s.data.toList))
def okD (m : Mt) (s : ByteArray) : Prop := encE m = 0 ∧ encM m = s
instance (m : Mt) (s : ByteArray) : Decidable (okD m s) := by unfold okD; infer_instance
def decM (m : Mt) (s : ByteArray) : Mt := if okD m s then m else zeroM
def decZ (m : Mt) (s : ByteArray) : Int := if okD m s then 0 else 4
def DecT (w : World) (m : Mt) (z : Int) (e : Ending) (w' : World) : Prop := ∃ v, e = .returned (.tuple #[v, .int .i64 z]) ∧ OwMt w' w.heap.size v m ∧ Below w.heap.size w w'
def Oth (w : World) (base b : Nat) : Prop := b < base ∨ ∃ t cs, Blk w b t cs ∧ t ≠ 3 ∧ t ≠ 48
section
variable {A : Nat → Prop} {w w' : World} {base : Nat} {v : Value}
theorem OwI.kpT {zs : List Int} (ho : OwI w base v zs) (hk : Kp A w w') (hA : ∀ b, A b → Oth w base b) : OwI w' base v zs :=
  ho.kp hk fun g hg ha => by
    rcases hA g ha with h | ⟨t, cs, hb, h1, -⟩
    · have := own_from ho.1 hg; omega
    · exact own_ne ho.1 hb (Ne.symm h1) hg rfl
theorem OwSn.kpT {l : List Sn} (ho : OwSn w base v l) (hk : Kp A w w') (hA : ∀ b, A b → Oth w base b) : OwSn w' base v l := by
  obtain ⟨es, h1, h2, h3⟩ := ho.row
  refine ⟨ho.len, ho.wf, es, own_kp hk h1 fun g hg ha => ?_, fun e he => OwI.kpT (h2 e he) hk hA, h3⟩
  rcases hA g ha with h | ⟨t, cs, hb, -, h4⟩
  · have := own_from h1 hg; omega
  · exact own_ne h1 hb (Ne.symm h4) hg rfl
end
/-- what Decode's second half keeps: the closures, the table (in block M), the result's variable -/
structure DM (w0 : World) (r q B F5 F6 F8 n M : Nat) (mc : Array Value) (lv : Value) (live : List Int) (sv : Value) (sns : List Sn) (w : World) : Prop where
  env : Env w r q B F5 F6 F8 n
  bm : Blk w M 30 mc
  rc : Blk w w0.heap.size 30 #[.slice none 0 0, .slice none 0 0, .int .u64 0, .int .u64 0, .int .u64 0, .int .u64 0, .int .i64 0, .int .i64 0, .slice none 0 0]
  bl : Below w0.heap.size w0 w
  lo : OwI w (r + 1) lv live
  so : OwSn w (r + 1) sv sns
  orc : w0.heap.size < r
  om : q < M ∧ B < M ∧ F5 < M ∧ F6 < M ∧ F8 < M
section
variable {A : Nat → Prop} {w0 w w' : World} {r q B F5 F6 F8 n M : Nat} {mc mc' : Array Value} {lv sv sv' : Value} {live : List Int} {sns sns' : List Sn}
theorem DM.kp (h : DM w0 r q B F5 F6 F8 n M mc lv live sv sns w) (hk : Kp A w w') (hA : ∀ b, A b → Oth w (r + 1) b ∧ w0.heap.size < b ∧ (b = r ∨ M ≤ b)) (hm : Blk w' M 30 mc') : DM w0 r q B F5 F6 F8 n M mc' lv live sv sns w' := by
  have h1 := h.om
  exact ⟨h.env.kp hk fun b _ hb => by have := (hA b hb).2.2; omega, hm, hk.blk h.rc fun hb => by have := (hA _ hb).2.1; omega, h.bl.trans (hk.below (fun b hb => Nat.le_of_lt (hA b hb).2.1) h.bl.size), h.lo.kpT hk fun b hb => (hA b hb).1, h.so.kpT hk fun b hb => (hA b hb).1, h.orc, h1⟩
theorem DM.rM (h : DM w0 r q B F5 F6 F8 n M mc lv live sv sns w) : r < M := Nat.lt_trans h.env.oq h.om.1
theorem DM.othM (h : DM w0 r q B F5 F6 F8 n M mc lv live sv sns w) : Oth w (r + 1) M := .inr ⟨_, _, h.bm, by decide, by decide⟩
theorem DM.read (h : DM w0 r q B F5 F6 F8 n M mc lv live sv sns w) (hk : Kp (· = r) w w') : DM w0 r q B F5 F6 F8 n M mc lv live sv sns w' := by
  have h1 := h.rM
  have h2 := h.orc
  exact h.kp hk (fun b hb => ⟨.inl (by omega), by omega, .inl hb⟩) (hk.blk h.bm (by omega))
theorem DM.keep (h : DM w0 r q B F5 F6 F8 n M mc lv live sv sns w) (hb : Below w.heap.size w w') : DM w0 r q B F5 F6 F8 n M mc lv live sv sns w' :=
  h.kp (A := fun _ => False) (Kp.of_below hb) (fun _ h => h.elim) (h.bm.keep hb)
theorem DM.turn (h : DM w0 r q B F5 F6 F8 n M mc lv live sv sns w) (hk : Kp (· = M) w w') (hm : Blk w' M 30 mc') : DM w0 r q B F5 F6 F8 n M mc' lv live sv sns w' := by
  have h1 := h.rM
  have h2 := h.orc
  exact h.kp hk (fun b hb => ⟨by subst hb; exact h.othM, by omega, .inr (by omega)⟩) hm
theorem DM.other {T : Nat} {ts : Array Value} (h : DM w0 r q B F5 F6 F8 n M mc lv live sv sns w) (ht : Blk w T 28 ts) (hT : M < T) (hk : Kp (· = T) w w') : DM w0 r q B F5 F6 F8 n M mc lv live sv sns w' := by
  have h1 := h.rM
  have h2 := h.orc
  exact h.kp hk (fun b hb => ⟨by subst hb; exact .inr ⟨_, _, ht, by decide, by decide⟩, by omega, .inr (by omega)⟩) (hk.blk h.bm (by omega))
theorem DM.snaps (h : DM w0 r q B F5 F6 F8 n M mc lv live sv sns w) (ho : OwSn w (r + 1) sv' sns') : DM w0 r q B F5 F6 F8 n M mc lv live sv' sns' w :=
  ⟨h.env, h.bm, h.rc, h.bl, h.lo, ho, h.orc, h.om⟩
end
theorem meta_size : (Try.prog.info? 30).map (·.size) = some 9 := by kernel_rfl
theorem mt_one (la sa ia : Option Addr) (ln lc sn sc iz ic : Nat) (a b c d e f : Int) : (#[Value.slice la ln lc, .slice sa sn sc, .int .u64 a, .int .u64 b, .int .u64 c, .int .u64 d, .int .i64 e, .int .i64 f, .slice ia iz ic].all fun x => x.oneCell') = true := by
  rw [← Array.all_toList]
  rfl
/-- results: a struct in a block, and a slot -/
theorem results_cell2 {P : Program} {fn : Func} {tmps : Array Value} {w : World} {k m : Nat} {ty : TypeId} {g : Nat} {t : TypeId} {cs : Array Value} {d : TypeDesc} {u : Value} (hr : fn.results = #[.cell k ty, .tmp m]) (ht : tmps.getD k undef = .pointer (some ⟨g, 0, none⟩)) (hm : tmps.getD m undef = u) (hb : Blk w g t cs)
    (hu : P.underlying ty = some d) (hd : (match d with | .struct _ | .array _ _ => true | _ => false) = true) (hi : (P.info? ty).map (·.size) = some cs.size) : (results fn tmps).run P w = .ok (.tuple #[.agg cs, u]) w := by
  have := run_loadVar_row (P := P) w g t ty cs (0, 0) d hb hu hd hi
  have ht2 : tmps[k]?.getD undef = .pointer (some ⟨g, 0, none⟩) := by simpa using ht
  have hm2 : tmps[m]?.getD undef = u := by simpa using hm
  simp [results, hr, ht2, hm2, asAddr, this]
theorem Blk.there {w : World} {g : Nat} {t : TypeId} {cs : Array Value} (h : Blk w g t cs) {o n : Nat} (hn : o + n ≤ cs.size) : w.there g o n := fun j hj => by
  rw [h.cell, h.frozen, Array.getElem?_eq_getElem (by omega)]
  exact ⟨rfl, rfl⟩
theorem wpList_mid_then {P : Program} {ops : Array Oper} {rest : List Oper} {op : Oper} {a : Act} {w : World} {Q : Exit → Act → World → Prop} (hgd : op.guard = none) (ty : TypeId) (x y : Operand) (ho : op.op = .store ty x y)
    (b o : Nat) (cells : Array Value) (hx : a.eval x = .pointer (some ⟨b, o, none⟩)) (hy : a.eval y = .agg cells) (ht : w.there b o cells.size) (hi : (P.info? ty).map (·.size) = some cells.size) (h1 : cells.all (·.oneCell') = true)
    (h : Later (w.setCells b o cells.toList) (wpList P ops Q rest (a.put op.dst undef))) : wpList P ops Q (op :: rest) a w := wpList_store_mid hgd ty x y ho b o cells hx hy ht hi h1 h
theorem kp_row (w : World) (g : Nat) (cs : Array Value) : Kp (· = g) w (w.setRow g cs) :=
  ⟨⟨rfl, rfl, rfl, by simp [World.setRow], fun i hi => by omega⟩, fun b _ hn => by simp only [World.setRow, Array.getElem?_modify]; rw [if_neg (fun e => hn e.symm)]⟩
theorem str_iff (a b : ByteArray) : a.toList = b.toList ↔ a = b := by
  constructor
  · intro h
    have := (str_eq a b).symm.trans (by rw [h]; simp : (a.toList == b.toList) = true)
    exact ByteArray.ext (Array.ext' (by simpa using this))
  · rintro rfl; rfl
set_option maxRecDepth 100000 in
set_option maxHeartbeats 4000000 in
theorem dec_any (w : World) (s : ByteArray) (hs2 : s.size ≤ 1152921504606846976) : Calls Try.prog 17 #[.string s] w (DecT w (decM (readM 1024 capB capS s) s) (decZ (readM 1024 capB capS s) s)) := by
  unfold DecT
  have hmf : ∀ (fn : Fn) (first cap : Array Value) (w : World), (Instr.makeFunc fn first cap).run Try.prog w = .ok (.func fn first cap) w := fun _ _ _ _ => rfl
  obtain ⟨m, hm⟩ : ∃ m, m = readM 1024 capB capS s := ⟨_, rfl⟩
  rw [← hm]
  have hgood := fun h : okD m s => show decM m s = m ∧ decZ m s = 0 from ⟨if_pos h, if_pos h⟩
  have hbad := fun h : ¬ okD m s => show decM m s = zeroM ∧ decZ m s = 4 from ⟨if_neg h, if_neg h⟩
  generalize decM m s = dm at *
  generalize decZ m s = dz at *
  have HNR := Lib.hid (fun w => newReader_any s w hs2)
  unfold readM at hm
  obtain ⟨SS, hSS⟩ : ∃ SS, SS = nSt (some s.data.toList) := ⟨_, rfl⟩
  obtain ⟨N, hN⟩ : ∃ N, N = nAt (some s.data.toList) := ⟨_, rfl⟩
  have R : Rds SS N := by rw [hSS, hN]; exact Rds.of _
  have hS0 : SS 0 = some s.data.toList := by rw [hSS]; rfl
  rw [← hN] at hm
  obtain ⟨kb, hkb⟩ : ∃ k, k = capB (N 0) := ⟨_, rfl⟩
  rw [← hkb] at hm
  obtain ⟨ks, hks⟩ : ∃ k, k = capS (N (1 + kb)) := ⟨_, rfl⟩
  rw [← hks] at hm
  have HGOOD := Lib.hid hgood
  have HBAD := Lib.hid hbad
  have HS0 := Lib.hid hS0
  have HKB := Lib.hid hkb
  have HKS := Lib.hid hks
  have HM := Lib.hid (show m = ⟨imgN 1024 N 1 kb, snsN 1024 N (2 + kb) kb ks, tkN 1024 N (2 + kb + ks * (3 + kb)) kb⟩ from hm)
  have hb0 := (Below.refl w.heap.size w).alloc (Nat.le_refl _) (Obj.cells #[.slice none 0 0, .slice none 0 0, .int .u64 0, .int .u64 0, .int .u64 0, .int .u64 0, .int .i64 0, .int .i64 0, .slice none 0 0] 30)
  have hz0 := Blk.new w 30 #[.slice none 0 0, .slice none 0 0, .int .u64 0, .int .u64 0, .int .u64 0, .int .u64 0, .int .i64 0, .int .i64 0, .slice none 0 0]
  clear hgood hbad hSS hN hS0 hkb hks hm hs2
  go_enter Try.func17, Try.ntmps17
  go_wp2_with fail
  generalize w.alloc (Obj.cells #[.slice none 0 0, .slice none 0 0, .int .u64 0, .int .u64 0, .int .u64 0, .int .u64 0, .int .i64 0, .int .i64 0, .slice none 0 0] 30) = w1 at *
  have HB1 := Lib.hid hb0
  have HZ1 := Lib.hid hz0
  clear hb0 hz0
  refine (HNR.out w1).mono ?_
  rintro e w2 ⟨r, rfl, hr, hrd, hb⟩
  rw [← HS0.out] at hrd
  have HZR := Lib.hid (show w.heap.size < r from Nat.lt_of_lt_of_le HZ1.out.lt hr)
  have HB2 := Lib.hid (HB1.out.trans (hb.mono HB1.out.size))
  have HZ2 := Lib.hid (HZ1.out.keep hb)
  have HR2 := Lib.hid hrd
  have HRL := Lib.hid hrd.lt
  clear hr hrd hb HB1 HZ1 HNR
  have hq3 := ((Blk.new w2 69 #[.pointer (some ⟨r, 0, none⟩)]).alloc (Obj.cells #[.func (.func 58) #[] #[.pointer (some ⟨w2.heap.size, 0, none⟩)]] 72)).alloc (Obj.cells #[.func (.func 60) #[] #[.pointer (some ⟨w2.heap.size, 0, none⟩)]] 73)
  have cq := hq3.cell 0
  simp at cq
  go_wp2_with fail
  have h5 := (Blk.newAt (w := w2.alloc (Obj.cells #[.pointer (some ⟨r, 0, none⟩)] 69)) 72 #[.func (.func 58) #[] #[.pointer (some ⟨w2.heap.size, 0, none⟩)]] (g := w2.heap.size + 1) (by simp)).alloc (Obj.cells #[.func (.func 60) #[] #[.pointer (some ⟨w2.heap.size, 0, none⟩)]] 73)
  have h6 := Blk.newAt (w := (w2.alloc (Obj.cells #[.pointer (some ⟨r, 0, none⟩)] 69)).alloc (Obj.cells #[.func (.func 58) #[] #[.pointer (some ⟨w2.heap.size, 0, none⟩)]] 72)) 73 #[.func (.func 60) #[] #[.pointer (some ⟨w2.heap.size, 0, none⟩)]] (g := w2.heap.size + 2) (by simp)
  have hbx := (((Below.refl w2.heap.size w2).alloc (Nat.le_refl _) (Obj.cells #[.pointer (some ⟨r, 0, none⟩)] 69)).alloc (by simp) (Obj.cells #[.func (.func 58) #[] #[.pointer (some ⟨w2.heap.size, 0, none⟩)]] 72)).alloc (by simp; omega) (Obj.cells #[.func (.func 60) #[] #[.pointer (some ⟨w2.heap.size, 0, none⟩)]] 73)
  have HB3 := Lib.hid (HB2.out.trans (hbx.mono HB2.out.size))
  have HZ3 := Lib.hid (HZ2.out.keep hbx)
  have HR3 := Lib.hid (HR2.out.keep hbx)
  have HQ3 := Lib.hid hq3
  have H53 := Lib.hid h5
  have H63 := Lib.hid h6
  have hsz : ((w2.alloc (Obj.cells #[.pointer (some ⟨r, 0, none⟩)] 69)).alloc (Obj.cells #[.func (.func 58) #[] #[.pointer (some ⟨w2.heap.size, 0, none⟩)]] 72) |>.alloc (Obj.cells #[.func (.func 60) #[] #[.pointer (some ⟨w2.heap.size, 0, none⟩)]] 73)).heap.size = w2.heap.size + 3 := by simp
  generalize ((w2.alloc (Obj.cells #[.pointer (some ⟨r, 0, none⟩)] 69)).alloc (Obj.cells #[.func (.func 58) #[] #[.pointer (some ⟨w2.heap.size, 0, none⟩)]] 72)).alloc (Obj.cells #[.func (.func 60) #[] #[.pointer (some ⟨w2.heap.size, 0, none⟩)]] 73) = w3 at *
  generalize w2.heap.size = q at *
  have HSZ := Lib.hid hsz
  clear hq3 h5 h6 hbx HB2 HZ2 HR2 hsz
  refine (num_at R r 0 w3 HR3.out).mono ?_
  rintro e w4 ⟨rfl, h1, h2⟩
  have HB4 := Lib.hid (HB3.out.trans (h2.below (fun b hb => by have := HZR.out; omega) HB3.out.size))
  have HZ4 := Lib.hid (h2.blk HZ3.out (by have := HZR.out; omega))
  have HR4 := Lib.hid h1
  have HQ4 := Lib.hid (h2.blk HQ3.out (by have := HRL.out; omega))
  have H54 := Lib.hid (h2.blk H53.out (by have := HRL.out; omega))
  have H64 := Lib.hid (h2.blk H63.out (by have := HRL.out; omega))
  have HS4 := Lib.hid (show q + 3 ≤ w4.heap.size by have := h2.size; have := HSZ.out; omega)
  clear h1 h2 HB3 HZ3 HR3 HQ3 H53 H63 HSZ cq
  go_wp2_with fail
  have hbx := ((Below.refl w4.heap.size w4).alloc (Nat.le_refl _) (Obj.cells #[.int .u64 (N 0 : Int)] 24)).alloc (by simp) (Obj.cells #[.func (.func 61) #[] #[.pointer (some ⟨w4.heap.size, 0, none⟩), .pointer (some ⟨q + 1, 0, none⟩)]] 75)
  have hE := Env.mk (w := (w4.alloc (Obj.cells #[.int .u64 (N 0 : Int)] 24)).alloc (Obj.cells #[.func (.func 61) #[] #[.pointer (some ⟨w4.heap.size, 0, none⟩), .pointer (some ⟨q + 1, 0, none⟩)]] 75)) (r := r) (q := q) (B := w4.heap.size) (F5 := q + 1) (F6 := q + 2) (F8 := w4.heap.size + 1) (n := N 0) (HQ4.out.keep hbx) ((Blk.new w4 24 #[.int .u64 (N 0 : Int)]).alloc (Obj.cells #[.func (.func 61) #[] #[.pointer (some ⟨w4.heap.size, 0, none⟩), .pointer (some ⟨q + 1, 0, none⟩)]] 75)) (H54.out.keep hbx) (H64.out.keep hbx) (Blk.newAt (w := w4.alloc (Obj.cells #[.int .u64 (N 0 : Int)] 24)) 75 #[.func (.func 61) #[] #[.pointer (some ⟨w4.heap.size, 0, none⟩), .pointer (some ⟨q + 1, 0, none⟩)]] (g := w4.heap.size + 1) (by simp)) HRL.out (by have := HRL.out; have := HS4.out; omega) (by have := HRL.out; omega) (by have := HRL.out; omega) (by have := HRL.out; have := HS4.out; omega)
  have HE5 := Lib.hid hE
  have HB5 := Lib.hid (HB4.out.trans (hbx.mono HB4.out.size))
  have HZ5 := Lib.hid (HZ4.out.keep hbx)
  have HR5 := Lib.hid (HR4.out.keep hbx)
  have HS5 := Lib.hid (show q + 3 ≤ w4.heap.size ∧ w4.heap.size + 2 ≤ ((w4.alloc (Obj.cells #[.int .u64 (N 0 : Int)] 24)).alloc (Obj.cells #[.func (.func 61) #[] #[.pointer (some ⟨w4.heap.size, 0, none⟩), .pointer (some ⟨q + 1, 0, none⟩)]] 75)).heap.size from ⟨HS4.out, by simp⟩)
  generalize (w4.alloc (Obj.cells #[.int .u64 (N 0 : Int)] 24)).alloc (Obj.cells #[.func (.func 61) #[] #[.pointer (some ⟨w4.heap.size, 0, none⟩), .pointer (some ⟨q + 1, 0, none⟩)]] 75) = w5 at *
  generalize w4.heap.size = B at *
  clear hbx hE HB4 HZ4 HR4 HQ4 H54 H64 HS4
  refine (places_at R 1 w5 HR5.out HE5.out).mono ?_
  rintro e w6 ⟨lv, rfl, ho, h1, h2⟩
  rw [← HKB.out] at ho h1
  obtain ⟨la, lc, rfl⟩ := ho.slice_
  have hln : (imgN 1024 N 1 kb).length = kb := imgN_len _ _ _ _
  rw [hln] at ho
  rw [hln]
  have hbx := (Below.refl w6.heap.size w6).alloc (Nat.le_refl _) (Obj.cells #[.slice la kb lc, .slice none 0 0, .int .u64 0, .int .u64 0, .int .u64 0, .int .u64 0, .int .i64 0, .int .i64 0, .slice none 0 0] 30)
  have hdm : DM w r q B (q + 1) (q + 2) (B + 1) (N 0) w6.heap.size #[.slice la kb lc, .slice none 0 0, .int .u64 0, .int .u64 0, .int .u64 0, .int .u64 0, .int .i64 0, .int .i64 0, .slice none 0 0] (.slice la kb lc) (imgN 1024 N 1 kb) (.slice none 0 0) [] (w6.alloc (Obj.cells #[.slice la kb lc, .slice none 0 0, .int .u64 0, .int .u64 0, .int .u64 0, .int .u64 0, .int .i64 0, .int .i64 0, .slice none 0 0] 30)) := by
    have hrl := HRL.out
    have hs5 := HS5.out
    have h6 := h2.size
    refine ⟨(HE5.out.read h2).keep hbx, Blk.new _ _ _, (h2.blk HZ5.out (by have := HZR.out; omega)).keep hbx, (HB5.out.trans (h2.below (fun b hb => by have := HZR.out; omega) HB5.out.size)).trans (hbx.mono (Nat.le_trans HB5.out.size h6)), (ho.mono (by omega)).keep hbx, OwSn.nil_ _ _, HZR.out, ?_⟩
    omega
  have HD := Lib.hid hdm
  have HR6 := Lib.hid (show Rdr _ r (SS (1 + kb)) from h1.keep hbx)
  have cq := hdm.env.q_.cell 0
  simp at cq
  clear ho h1 h2 hln hdm hbx HE5 HB5 HZ5 HR5
  go_wp2_with fail
  generalize w6.alloc (Obj.cells #[.slice la kb lc, .slice none 0 0, .int .u64 0, .int .u64 0, .int .u64 0, .int .u64 0, .int .i64 0, .int .i64 0, .slice none 0 0] 30) = w7 at *
  generalize w6.heap.size = M at *
  refine (num_at R r (1 + kb) w7 HR6.out).mono ?_
  rintro e w8 ⟨rfl, h1, h2⟩
  have HD8 := Lib.hid (HD.out.read h2)
  have e2 : 1 + kb + 1 = 2 + kb := by omega
  rw [e2] at h1
  have HR8 := Lib.hid h1
  clear h1 h2 e2 cq HD HR6
  go_wp2_with fail
  refine (lists_at R (2 + kb) (N (1 + kb)) w8 HR8.out HD8.out.env).mono ?_
  rintro e w9 ⟨sv, rfl, ho, h1, h2⟩
  rw [← HKS.out, ← HKB.out] at ho h1
  obtain ⟨sa, sc, rfl⟩ := ho.slice_
  have hln : (snsN 1024 N (2 + kb) kb ks).length = ks := snsN_len _ _ _ _ _
  rw [hln] at ho
  rw [hln]
  have hd9 := (HD8.out.read h2).snaps (ho.mono (by have h3 := HD8.out.rM; have h4 := HD8.out.bm.lt; omega))
  have hks := kp_cell w9 M 1 (.slice sa ks sc)
  have hd10 := hd9.turn hks (hd9.bm.set 1 (.slice sa ks sc))
  have x1 := hd9.bm.cell 1
  have f1 := hd9.bm.frozen 1
  have c5 := hd10.env.f5.cell 0
  simp at x1 c5
  have HD10 := Lib.hid (show DM w r q B (q + 1) (q + 2) (B + 1) (N 0) M #[.slice la kb lc, .slice sa ks sc, .int .u64 0, .int .u64 0, .int .u64 0, .int .u64 0, .int .i64 0, .int .i64 0, .slice none 0 0] (.slice la kb lc) (imgN 1024 N 1 kb) (.slice sa ks sc) (snsN 1024 N (2 + kb) kb ks) _ from hd10)
  obtain ⟨j0, hj0⟩ : ∃ j, j = 2 + kb + ks * (3 + kb) := ⟨_, rfl⟩
  rw [← hj0] at h1 HM
  have HR10 := Lib.hid (h1.below (below_cell w9 M 1 (.slice sa ks sc)) hd9.rM)
  clear ho h1 h2 hln hd9 hd10 hks HD8 HR8 hj0
  generalize imgN 1024 N 1 kb = live at *
  generalize snsN 1024 N (2 + kb) kb ks = sns at *
  go_wp2_with fail
  generalize w9.setCell ⟨M, 1, none⟩ (.slice sa ks sc) = w10 at *
  clear x1 f1 c5
  refine (small_at R r q j0 w10 HR10.out HD10.out.env.q_).mono ?_
  rintro e w11 ⟨rfl, h1, h2⟩
  have HD11 := Lib.hid (HD10.out.read h2)
  have HR11 := Lib.hid h1
  clear h1 h2 HD10 HR10
  by_cases h1 : min (N j0) 1024 = 1
  · have e1 : (((min (N j0) 1024 : Nat) : Int) == 1) = true := by rw [h1]; rfl
    have HTK := Lib.hid (show tkN 1024 N j0 kb = ⟨((N (j0 + 1) : Nat), (N (j0 + 2) : Nat)), ((N (j0 + 3) : Nat), (N (j0 + 4) : Nat)), (min (N (j0 + 5)) 1024 : Nat), (min (N (j0 + 6)) 1024 : Nat), imgN 1024 N (j0 + 7) kb⟩ from if_pos h1)
    generalize ((min (N j0) 1024 : Nat) : Int) = z at *
    clear h1
    have c6 := HD11.out.env.f6.cell 0
    simp at c6
    go_wp2_with fail
    refine (gd_at R r q (j0 + 1) w11 HR11.out HD11.out.env.q_ (by have := HD11.out.env.oq; omega)).mono ?_
    rintro e w12 ⟨rfl, h1, h2⟩
    have hbx := (Below.refl w12.heap.size w12).alloc (Nat.le_refl _) (Obj.cells #[.int .u64 (N (j0 + 1) : Int), .int .u64 (N (j0 + 2) : Int), .int .u64 0, .int .u64 0, .int .i64 0, .int .i64 0, .slice none 0 0] 28)
    have hd := HD11.out.read h2
    have HD13 := Lib.hid (hd.keep hbx)
    have HT13 := Lib.hid (Blk.new w12 28 #[.int .u64 (N (j0 + 1) : Int), .int .u64 (N (j0 + 2) : Int), .int .u64 0, .int .u64 0, .int .i64 0, .int .i64 0, .slice none 0 0])
    have HMT := Lib.hid (show M < w12.heap.size from hd.bm.lt)
    have HR13 := Lib.hid (show Rdr _ r (SS (j0 + 3)) from h1.keep hbx)
    clear h1 h2 hbx hd HD11 HR11 c6
    have c6 := HD13.out.env.f6.cell 0
    simp at c6
    go_wp2_with fail
    generalize w12.alloc (Obj.cells #[.int .u64 (N (j0 + 1) : Int), .int .u64 (N (j0 + 2) : Int), .int .u64 0, .int .u64 0, .int .i64 0, .int .i64 0, .slice none 0 0] 28) = w13 at *
    generalize w12.heap.size = T at *
    clear c6
    refine (gd_at R r q (j0 + 3) w13 HR13.out HD13.out.env.q_ (by have := HD13.out.env.oq; omega)).mono ?_
    rintro e w14 ⟨rfl, h1, h2⟩
    have hd := HD13.out.read h2
    have ht := h2.blk HT13.out (by have := hd.rM; have := HMT.out; omega)
    have hk := kp_setCells T [.int .u64 (N (j0 + 3) : Int), .int .u64 (N (j0 + 4) : Int)] 2 w14
    have HT14 := Lib.hid ht
    have HT15 := Lib.hid (show Blk (w14.setCells T 2 [.int .u64 (N (j0 + 3) : Int), .int .u64 (N (j0 + 4) : Int)]) T 28 #[.int .u64 (N (j0 + 1) : Int), .int .u64 (N (j0 + 2) : Int), .int .u64 (N (j0 + 3) : Int), .int .u64 (N (j0 + 4) : Int), .int .i64 0, .int .i64 0, .slice none 0 0] from blk_setCells _ _ _ _ ht)
    have HD15 := Lib.hid (hd.other ht HMT.out hk)
    have HR15 := Lib.hid (show Rdr (w14.setCells T 2 [.int .u64 (N (j0 + 3) : Int), .int .u64 (N (j0 + 4) : Int)]) r (SS (j0 + 5)) from h1.below (hk.below (B := r + 1) (fun b hb => by have := hd.rM; have := HMT.out; omega) (by have := hd.rM; have := hd.bm.lt; omega)) (Nat.lt_succ_self r))
    have c5 := HD15.out.env.f5.cell 0
    simp at c5
    clear h1 h2 hd ht hk HD13 HT13 HR13
    go_wp2_with (refine wpList_store_mid rfl 26 _ _ rfl T 2 #[.int .u64 (N (j0 + 3) : Int), .int .u64 (N (j0 + 4) : Int)] rfl rfl (HT14.out.there (by show 2 + 2 ≤ 7; decide)) (by kernel_rfl) (gcells_one _ _) ?_)
    generalize w14.setCells T 2 [.int .u64 (N (j0 + 3) : Int), .int .u64 (N (j0 + 4) : Int)] = w15 at *
    clear c5 HT14
    refine (small_at R r q (j0 + 5) w15 HR15.out HD15.out.env.q_).mono ?_
    rintro e w16 ⟨rfl, h1, h2⟩
    have hm9 : min (N (j0 + 5)) 1024 ≤ 1024 := by omega
    generalize min (N (j0 + 5)) 1024 = m5 at *
    have HL5 := Lib.hid hm9
    clear hm9
    have hd := HD15.out.read h2
    have ht := h2.blk HT15.out (by have := hd.rM; have := HMT.out; omega)
    have hk := kp_cell w16 T 4 (.int .i64 (m5 : Int))
    have x4 := ht.cell 4
    have f4 := ht.frozen 4
    simp at x4
    have HT17 := Lib.hid (show Blk _ T 28 #[.int .u64 (N (j0 + 1) : Int), .int .u64 (N (j0 + 2) : Int), .int .u64 (N (j0 + 3) : Int), .int .u64 (N (j0 + 4) : Int), .int .i64 (m5 : Int), .int .i64 0, .slice none 0 0] from ht.set 4 (.int .i64 (m5 : Int)))
    have HD17 := Lib.hid (hd.other ht HMT.out hk)
    have HR17 := Lib.hid (show Rdr _ r (SS (j0 + 6)) from h1.below (hk.below (B := r + 1) (fun b hb => by have := hd.rM; have := HMT.out; omega) (by have := hd.rM; have := hd.bm.lt; omega)) (Nat.lt_succ_self r))
    have c5 := HD17.out.env.f5.cell 0
    simp at c5
    clear h1 h2 hd ht hk HD15 HT15 HR15
    go_wp2_with fail
    generalize w16.setCell ⟨T, 4, none⟩ (.int .i64 (m5 : Int)) = w17 at *
    clear c5 x4 f4
    refine (small_at R r q (j0 + 6) w17 HR17.out HD17.out.env.q_).mono ?_
    rintro e w18 ⟨rfl, h1, h2⟩
    have hm9 : min (N (j0 + 6)) 1024 ≤ 1024 := by omega
    generalize min (N (j0 + 6)) 1024 = m6 at *
    have HL6 := Lib.hid hm9
    clear hm9
    have hd := HD17.out.read h2
    have ht := h2.blk HT17.out (by have := hd.rM; have := HMT.out; omega)
    have hk := kp_cell w18 T 5 (.int .i64 (m6 : Int))
    have x5 := ht.cell 5
    have f5 := ht.frozen 5
    simp at x5
    have HT20 := Lib.hid (show Blk _ T 28 #[.int .u64 (N (j0 + 1) : Int), .int .u64 (N (j0 + 2) : Int), .int .u64 (N (j0 + 3) : Int), .int .u64 (N (j0 + 4) : Int), .int .i64 (m5 : Int), .int .i64 (m6 : Int), .slice none 0 0] from ht.set 5 (.int .i64 (m6 : Int)))
    have HD20 := Lib.hid (hd.other ht HMT.out hk)
    have HR20 := Lib.hid (show Rdr _ r (SS (j0 + 7)) from h1.below (hk.below (B := r + 1) (fun b hb => by have := hd.rM; have := HMT.out; omega) (by have := hd.rM; have := hd.bm.lt; omega)) (Nat.lt_succ_self r))
    have c8 := HD20.out.env.f8.cell 0
    simp at c8
    clear h1 h2 hd ht hk HD17 HT17 HR17
    go_wp2_with fail
    generalize w18.setCell ⟨T, 5, none⟩ (.int .i64 (m6 : Int)) = w20 at *
    clear c8 x5 f5
    refine (places_at R (j0 + 7) w20 HR20.out HD20.out.env).mono ?_
    rintro e w21 ⟨iv, rfl, ho, h1, h2⟩
    rw [← HKB.out] at ho h1
    obtain ⟨ia, ic, rfl⟩ := ho.slice_
    have hln : (imgN 1024 N (j0 + 7) kb).length = kb := imgN_len _ _ _ _
    rw [hln] at ho
    rw [hln]
    have hd := HD20.out.read h2
    have ht := h2.blk HT20.out (by have := hd.rM; have := HMT.out; omega)
    have hk := kp_cell w21 T 6 (.slice ia kb ic)
    have ht22 := ht.set 6 (.slice ia kb ic)
    have HI22 := Lib.hid (show OwI (w21.setCell ⟨T, 6, none⟩ (.slice ia kb ic)) (r + 1) (.slice ia kb ic) (imgN 1024 N (j0 + 7) kb) from (ho.mono (by have := HD20.out.rM; have := HD20.out.bm.lt; omega)).kpT hk fun b hb => by subst hb; exact .inr ⟨_, _, ht, by decide, by decide⟩)
    have HT22 := Lib.hid (show Blk _ T 28 #[.int .u64 (N (j0 + 1) : Int), .int .u64 (N (j0 + 2) : Int), .int .u64 (N (j0 + 3) : Int), .int .u64 (N (j0 + 4) : Int), .int .i64 (m5 : Int), .int .i64 (m6 : Int), .slice ia kb ic] from ht22)
    have HD22 := Lib.hid (hd.other ht HMT.out hk)
    have x6 := ht.cell 6
    have f6 := ht.frozen 6
    simp at x6
    have t0 := HT22.out.cell 0
    have t1 := HT22.out.cell 1
    have t2 := HT22.out.cell 2
    have t3 := HT22.out.cell 3
    have t4 := HT22.out.cell 4
    have t5 := HT22.out.cell 5
    have t6 := HT22.out.cell 6
    simp at t0 t1 t2 t3 t4 t5 t6
    clear ho h1 h2 hln hd ht hk ht22 HD20 HT20 HR20
    generalize imgN 1024 N (j0 + 7) kb = im at *
    go_wp2_with (refine wpList_mid_then rfl 28 _ _ rfl M 2 #[.int .u64 (N (j0 + 1) : Int), .int .u64 (N (j0 + 2) : Int), .int .u64 (N (j0 + 3) : Int), .int .u64 (N (j0 + 4) : Int), .int .i64 (m5 : Int), .int .i64 (m6 : Int), .slice ia kb ic] rfl rfl (HD22.out.bm.there (by show 2 + 7 ≤ 9; decide)) (by kernel_rfl) (tk_one _ _ _ _ _ _ _ _ _) ?_)
    refine Later.mk fun we hwe => ?_
    have hk := kp_setCells M [.int .u64 (N (j0 + 1) : Int), .int .u64 (N (j0 + 2) : Int), .int .u64 (N (j0 + 3) : Int), .int .u64 (N (j0 + 4) : Int), .int .i64 (m5 : Int), .int .i64 (m6 : Int), .slice ia kb ic] 2 (w21.setCell ⟨T, 6, none⟩ (.slice ia kb ic))
    have hbm := blk_setCells [.int .u64 (N (j0 + 1) : Int), .int .u64 (N (j0 + 2) : Int), .int .u64 (N (j0 + 3) : Int), .int .u64 (N (j0 + 4) : Int), .int .i64 (m5 : Int), .int .i64 (m6 : Int), .slice ia kb ic] 2 (w21.setCell ⟨T, 6, none⟩ (.slice ia kb ic)) _ HD22.out.bm
    have HD23 := Lib.hid (show DM w r q B (q + 1) (q + 2) (B + 1) (N 0) M #[.slice la kb lc, .slice sa ks sc, .int .u64 (N (j0 + 1) : Int), .int .u64 (N (j0 + 2) : Int), .int .u64 (N (j0 + 3) : Int), .int .u64 (N (j0 + 4) : Int), .int .i64 (m5 : Int), .int .i64 (m6 : Int), .slice ia kb ic] (.slice la kb lc) live (.slice sa ks sc) sns we from by rw [hwe]; exact HD22.out.turn hk hbm)
    have HI := Lib.hid (show OwI we (r + 1) (.slice ia kb ic) im by rw [hwe]; exact HI22.out.kpT hk fun b hb => by subst hb; exact HD22.out.othM)
    have HWF := Lib.hid (show wfTk ⟨((N (j0 + 1) : Nat), (N (j0 + 2) : Nat)), ((N (j0 + 3) : Nat), (N (j0 + 4) : Nat)), (m5 : Nat), (m6 : Nat), im⟩ from ⟨⟨u64_wf (R.lt _), u64_wf (R.lt _)⟩, ⟨u64_wf (R.lt _), u64_wf (R.lt _)⟩, lit_len (by have := HL5.out; unfold maxLen; omega), lit_len (by have := HL6.out; unfold maxLen; omega)⟩)
    clear hk hbm hwe t0 t1 t2 t3 t4 t5 t6 x6 f6 HD22 HT22 HI22
    have HLIV := Lib.hid (show m = ⟨live, sns, ⟨((N (j0 + 1) : Nat), (N (j0 + 2) : Nat)), ((N (j0 + 3) : Nat), (N (j0 + 4) : Nat)), (m5 : Nat), (m6 : Nat), im⟩⟩ by rw [HM.out, HTK.out])
    have HOM := Lib.hid (show OwMt we w.heap.size (.agg #[.slice la kb lc, .slice sa ks sc, .int .u64 (N (j0 + 1) : Int), .int .u64 (N (j0 + 2) : Int), .int .u64 (N (j0 + 3) : Int), .int .u64 (N (j0 + 4) : Int), .int .i64 (m5 : Int), .int .i64 (m6 : Int), .slice ia kb ic]) m from ⟨.slice la kb lc, .slice sa ks sc, .slice ia kb ic, by rw [HLIV.out]; rfl, by rw [HLIV.out]; exact HD23.out.lo.mono (by have := HD23.out.orc; omega), by rw [HLIV.out]; exact HD23.out.so.mono (by have := HD23.out.orc; omega), by rw [HLIV.out]; exact HI.out.mono (by have := HD23.out.orc; omega), by rw [HLIV.out]; exact HWF.out⟩)
    have z0 := HD23.out.bm.cell 0
    have z1 := HD23.out.bm.cell 1
    have z2 := HD23.out.bm.cell 2
    have z3 := HD23.out.bm.cell 3
    have z4 := HD23.out.bm.cell 4
    have z5 := HD23.out.bm.cell 5
    have z6 := HD23.out.bm.cell 6
    have z7 := HD23.out.bm.cell 7
    have z8 := HD23.out.bm.cell 8
    simp at z0 z1 z2 z3 z4 z5 z6 z7 z8
    go_wp2_with fail
    refine (enc_any _ _ m HOM.out.inm).mono ?_
    rintro e wy ⟨rfl, hb⟩
    replace z0 := cell_later hb z0
    replace z1 := cell_later hb z1
    replace z2 := cell_later hb z2
    replace z3 := cell_later hb z3
    replace z4 := cell_later hb z4
    replace z5 := cell_later hb z5
    replace z6 := cell_later hb z6
    replace z7 := cell_later hb z7
    replace z8 := cell_later hb z8
    have HBY := Lib.hid (HD23.out.bl.trans (hb.mono HD23.out.bl.size))
    have HZY := Lib.hid (HD23.out.rc.keep hb)
    have HOY := Lib.hid (HOM.out.kp (Kp.of_below hb) (A := fun _ => False) fun _ _ h => h)
    clear hb HOM
    obtain ⟨EZ, hEZ⟩ : ∃ z, z = encE m := ⟨_, rfl⟩
    obtain ⟨ES, hES⟩ : ∃ z, z = encM m := ⟨_, rfl⟩
    rw [← hEZ, ← hES]
    have HOKD := Lib.hid (show okD m s ↔ EZ = 0 ∧ ES = s by rw [hEZ, hES]; exact Iff.rfl)
    clear hEZ hES
    by_cases hok : EZ = 0
    · subst hok
      by_cases heq : ES = s
      · subst heq
        obtain ⟨hg1, hg2⟩ := HGOOD.out (HOKD.out.2 ⟨rfl, rfl⟩)
        have HG := Lib.hid (And.intro hg1 hg2)
        have e2 : (ES.toList != ES.toList) = false := by simp
        clear hg1 hg2
        go_wp2_with (refine wpList_store_then rfl 30 _ _ rfl w.heap.size #[.slice la kb lc, .slice sa ks sc, .int .u64 (N (j0 + 1) : Int), .int .u64 (N (j0 + 2) : Int), .int .u64 (N (j0 + 3) : Int), .int .u64 (N (j0 + 4) : Int), .int .i64 (m5 : Int), .int .i64 (m6 : Int), .slice ia kb ic] rfl rfl 30 _ HZY.out meta_size rfl (mt_one _ _ _ _ _ _ _ _ _ _ _ _ _ _ _) ?_)
        refine Later.mk fun w20 hw20 => ?_
        have H9 := Lib.hid (show Below w.heap.size w w20 ∧ Blk w20 w.heap.size 30 #[.slice la kb lc, .slice sa ks sc, .int .u64 (N (j0 + 1) : Int), .int .u64 (N (j0 + 2) : Int), .int .u64 (N (j0 + 3) : Int), .int .u64 (N (j0 + 4) : Int), .int .i64 (m5 : Int), .int .i64 (m6 : Int), .slice ia kb ic] ∧ OwMt w20 w.heap.size (.agg #[.slice la kb lc, .slice sa ks sc, .int .u64 (N (j0 + 1) : Int), .int .u64 (N (j0 + 2) : Int), .int .u64 (N (j0 + 3) : Int), .int .u64 (N (j0 + 4) : Int), .int .i64 (m5 : Int), .int .i64 (m6 : Int), .slice ia kb ic]) m by
          rw [hw20]
          refine ⟨Below.setRow HBY.out (Nat.le_refl _) _, HZY.out.row _, ?_⟩
          obtain ⟨lv, sv, iv, h1, h2, h3, h4, h5⟩ := HOY.out
          have hkr := kp_row wy w.heap.size #[.slice la kb lc, .slice sa ks sc, .int .u64 (N (j0 + 1) : Int), .int .u64 (N (j0 + 2) : Int), .int .u64 (N (j0 + 3) : Int), .int .u64 (N (j0 + 4) : Int), .int .i64 (m5 : Int), .int .i64 (m6 : Int), .slice ia kb ic]
          have hoth : ∀ b, b = w.heap.size → Oth wy w.heap.size b := fun b hb => by subst hb; exact .inr ⟨_, _, HZY.out, by decide, by decide⟩
          exact ⟨lv, sv, iv, h1, h2.kpT hkr hoth, h3.kpT hkr hoth, h4.kpT hkr hoth, h5⟩)
        clear hw20 z0 z1 z2 z3 z4 z5 z6 z7 z8 HZY HOY HBY
        go_wp2
        refine bodyPost_ret (results_cell2 (ty := 30) (g := w.heap.size) (k := 2) (m := 3) rfl rfl rfl H9.out.2.1 Try.underlying30 rfl meta_size) rfl ⟨.agg #[.slice la kb lc, .slice sa ks sc, .int .u64 (N (j0 + 1) : Int), .int .u64 (N (j0 + 2) : Int), .int .u64 (N (j0 + 3) : Int), .int .u64 (N (j0 + 4) : Int), .int .i64 (m5 : Int), .int .i64 (m6 : Int), .slice ia kb ic], (by rw [HG.out.2] <;> rfl), by rw [HG.out.1]; exact H9.out.2.2, H9.out.1⟩
      · obtain ⟨hg1, hg2⟩ := HBAD.out (fun h => heq (HOKD.out.1 h).2)
        have HG := Lib.hid (And.intro hg1 hg2)
        have e2 : (ES.toList != s.toList) = true := by
          simp only [bne_iff_ne, ne_eq]
          intro h
          exact heq ((str_iff _ _).1 (by simpa using h))
        have e3 : (ES.toList == s.toList) = false := by simpa using e2
        have e4 : decide (ES.toList = s.toList) = false := by simpa using e2
        clear hg1 hg2 heq
        go_wp2_with (refine wpList_store_then rfl 30 _ _ rfl w.heap.size #[.slice none 0 0, .slice none 0 0, .int .u64 0, .int .u64 0, .int .u64 0, .int .u64 0, .int .i64 0, .int .i64 0, .slice none 0 0] rfl rfl 30 _ HZY.out meta_size rfl (mt_one _ _ _ _ _ _ _ _ _ _ _ _ _ _ _) ?_)
        refine Later.mk fun w20 hw20 => ?_
        have H9 := Lib.hid (show Below w.heap.size w w20 ∧ Blk w20 w.heap.size 30 #[.slice none 0 0, .slice none 0 0, .int .u64 0, .int .u64 0, .int .u64 0, .int .u64 0, .int .i64 0, .int .i64 0, .slice none 0 0] by
          rw [hw20]
          exact ⟨Below.setRow HBY.out (Nat.le_refl _) _, HZY.out.row _⟩)
        clear hw20 z0 z1 z2 z3 z4 z5 z6 z7 z8
        go_wp2
        refine bodyPost_ret (results_cell2 (ty := 30) (g := w.heap.size) (k := 2) (m := 3) rfl rfl rfl H9.out.2 Try.underlying30 rfl meta_size) rfl ⟨.agg #[.slice none 0 0, .slice none 0 0, .int .u64 0, .int .u64 0, .int .u64 0, .int .u64 0, .int .i64 0, .int .i64 0, .slice none 0 0], (by rw [HG.out.2] <;> rfl), by rw [HG.out.1]; exact ⟨.slice none 0 0, .slice none 0 0, .slice none 0 0, rfl, OwI.nil_ _ _, OwSn.nil_ _ _, OwI.nil_ _ _, zeroT_wf⟩, H9.out.1⟩
    · obtain ⟨hg1, hg2⟩ := HBAD.out (fun h => hok (HOKD.out.1 h).1)
      have HG := Lib.hid (And.intro hg1 hg2)
      have e2 : (EZ != 0) = true := by simp [hok]
      clear hg1 hg2 hok
      go_wp2_with (refine wpList_store_then rfl 30 _ _ rfl w.heap.size #[.slice none 0 0, .slice none 0 0, .int .u64 0, .int .u64 0, .int .u64 0, .int .u64 0, .int .i64 0, .int .i64 0, .slice none 0 0] rfl rfl 30 _ HZY.out meta_size rfl (mt_one _ _ _ _ _ _ _ _ _ _ _ _ _ _ _) ?_)
      refine Later.mk fun w20 hw20 => ?_
      have H9 := Lib.hid (show Below w.heap.size w w20 ∧ Blk w20 w.heap.size 30 #[.slice none 0 0, .slice none 0 0, .int .u64 0, .int .u64 0, .int .u64 0, .int .u64 0, .int .i64 0, .int .i64 0, .slice none 0 0] by
        rw [hw20]
        exact ⟨Below.setRow HBY.out (Nat.le_refl _) _, HZY.out.row _⟩)
      clear hw20 z0 z1 z2 z3 z4 z5 z6 z7 z8
      go_wp2
      refine bodyPost_ret (results_cell2 (ty := 30) (g := w.heap.size) (k := 2) (m := 3) rfl rfl rfl H9.out.2 Try.underlying30 rfl meta_size) rfl ⟨.agg #[.slice none 0 0, .slice none 0 0, .int .u64 0, .int .u64 0, .int .u64 0, .int .u64 0, .int .i64 0, .int .i64 0, .slice none 0 0], (by rw [HG.out.2] <;> rfl), by rw [HG.out.1]; exact ⟨.slice none 0 0, .slice none 0 0, .slice none 0 0, rfl, OwI.nil_ _ _, OwSn.nil_ _ _, OwI.nil_ _ _, zeroT_wf⟩, H9.out.1⟩
  · have e1 : (((min (N j0) 1024 : Nat) : Int) == 1) = false := by
      have : ((min (N j0) 1024 : Nat) : Int) ≠ 1 := by omega
      simpa using this
    have HTK := Lib.hid (show tkN 1024 N j0 kb = zeroT from if_neg h1)
    generalize ((min (N j0) 1024 : Nat) : Int) = z at *
    clear h1
    have HI := Lib.hid (OwI.nil_ w11 (r + 1))
    have HWF := Lib.hid zeroT_wf
    have HLIV := Lib.hid (show m = ⟨live, sns, zeroT⟩ by rw [HM.out, HTK.out])
    have HOM := Lib.hid (show OwMt w11 w.heap.size (.agg #[.slice la kb lc, .slice sa ks sc, .int .u64 0, .int .u64 0, .int .u64 0, .int .u64 0, .int .i64 0, .int .i64 0, .slice none 0 0]) m from ⟨.slice la kb lc, .slice sa ks sc, .slice none 0 0, by rw [HLIV.out]; rfl, by rw [HLIV.out]; exact HD11.out.lo.mono (by have := HD11.out.orc; omega), by rw [HLIV.out]; exact HD11.out.so.mono (by have := HD11.out.orc; omega), by rw [HLIV.out]; exact HI.out.mono (by have := HD11.out.orc; omega), by rw [HLIV.out]; exact HWF.out⟩)
    have z0 := HD11.out.bm.cell 0
    have z1 := HD11.out.bm.cell 1
    have z2 := HD11.out.bm.cell 2
    have z3 := HD11.out.bm.cell 3
    have z4 := HD11.out.bm.cell 4
    have z5 := HD11.out.bm.cell 5
    have z6 := HD11.out.bm.cell 6
    have z7 := HD11.out.bm.cell 7
    have z8 := HD11.out.bm.cell 8
    simp at z0 z1 z2 z3 z4 z5 z6 z7 z8
    go_wp2_with fail
    refine (enc_any _ _ m HOM.out.inm).mono ?_
    rintro e wy ⟨rfl, hb⟩
    replace z0 := cell_later hb z0
    replace z1 := cell_later hb z1
    replace z2 := cell_later hb z2
    replace z3 := cell_later hb z3
    replace z4 := cell_later hb z4
    replace z5 := cell_later hb z5
    replace z6 := cell_later hb z6
    replace z7 := cell_later hb z7
    replace z8 := cell_later hb z8
    have HBY := Lib.hid (HD11.out.bl.trans (hb.mono HD11.out.bl.size))
    have HZY := Lib.hid (HD11.out.rc.keep hb)
    have HOY := Lib.hid (HOM.out.kp (Kp.of_below hb) (A := fun _ => False) fun _ _ h => h)
    clear hb HOM
    obtain ⟨EZ, hEZ⟩ : ∃ z, z = encE m := ⟨_, rfl⟩
    obtain ⟨ES, hES⟩ : ∃ z, z = encM m := ⟨_, rfl⟩
    rw [← hEZ, ← hES]
    have HOKD := Lib.hid (show okD m s ↔ EZ = 0 ∧ ES = s by rw [hEZ, hES]; exact Iff.rfl)
    clear hEZ hES
    by_cases hok : EZ = 0
    · subst hok
      by_cases heq : ES = s
      · subst heq
        obtain ⟨hg1, hg2⟩ := HGOOD.out (HOKD.out.2 ⟨rfl, rfl⟩)
        have HG := Lib.hid (And.intro hg1 hg2)
        have e2 : (ES.toList != ES.toList) = false := by simp
        clear hg1 hg2
        go_wp2_with (refine wpList_store_then rfl 30 _ _ rfl w.heap.size #[.slice la kb lc, .slice sa ks sc, .int .u64 0, .int .u64 0, .int .u64 0, .int .u64 0, .int .i64 0, .int .i64 0, .slice none 0 0] rfl rfl 30 _ HZY.out meta_size rfl (mt_one _ _ _ _ _ _ _ _ _ _ _ _ _ _ _) ?_)
        refine Later.mk fun w20 hw20 => ?_
        have H9 := Lib.hid (show Below w.heap.size w w20 ∧ Blk w20 w.heap.size 30 #[.slice la kb lc, .slice sa ks sc, .int .u64 0, .int .u64 0, .int .u64 0, .int .u64 0, .int .i64 0, .int .i64 0, .slice none 0 0] ∧ OwMt w20 w.heap.size (.agg #[.slice la kb lc, .slice sa ks sc, .int .u64 0, .int .u64 0, .int .u64 0, .int .u64 0, .int .i64 0, .int .i64 0, .slice none 0 0]) m by
          rw [hw20]
          refine ⟨Below.setRow HBY.out (Nat.le_refl _) _, HZY.out.row _, ?_⟩
          obtain ⟨lv, sv, iv, h1, h2, h3, h4, h5⟩ := HOY.out
          have hkr := kp_row wy w.heap.size #[.slice la kb lc, .slice sa ks sc, .int .u64 0, .int .u64 0, .int .u64 0, .int .u64 0, .int .i64 0, .int .i64 0, .slice none 0 0]
          have hoth : ∀ b, b = w.heap.size → Oth wy w.heap.size b := fun b hb => by subst hb; exact .inr ⟨_, _, HZY.out, by decide, by decide⟩
          exact ⟨lv, sv, iv, h1, h2.kpT hkr hoth, h3.kpT hkr hoth, h4.kpT hkr hoth, h5⟩)
        clear hw20 z0 z1 z2 z3 z4 z5 z6 z7 z8 HZY HOY HBY
        go_wp2
        refine bodyPost_ret (results_cell2 (ty := 30) (g := w.heap.size) (k := 2) (m := 3) rfl rfl rfl H9.out.2.1 Try.underlying30 rfl meta_size) rfl ⟨.agg #[.slice la kb lc, .slice sa ks sc, .int .u64 0, .int .u64 0, .int .u64 0, .int .u64 0, .int .i64 0, .int .i64 0, .slice none 0 0], (by rw [HG.out.2] <;> rfl), by rw [HG.out.1]; exact H9.out.2.2, H9.out.1⟩
      · obtain ⟨hg1, hg2⟩ := HBAD.out (fun h => heq (HOKD.out.1 h).2)
        have HG := Lib.hid (And.intro hg1 hg2)
        have e2 : (ES.toList != s.toList) = true := by
          simp only [bne_iff_ne, ne_eq]
          intro h
          exact heq ((str_iff _ _).1 (by simpa using h))
        have e3 : (ES.toList == s.toList) = false := by simpa using e2
        have e4 : decide (ES.toList = s.toList) = false := by simpa using e2
        clear hg1 hg2 heq
        go_wp2_with (refine wpList_store_then rfl 30 _ _ rfl w.heap.size #[.slice none 0 0, .slice none 0 0, .int .u64 0, .int .u64 0, .int .u64 0, .int .u64 0, .int .i64 0, .int .i64 0, .slice none 0 0] rfl rfl 30 _ HZY.out meta_size rfl (mt_one _ _ _ _ _ _ _ _ _ _ _ _ _ _ _) ?_)
        refine Later.mk fun w20 hw20 => ?_
        have H9 := Lib.hid (show Below w.heap.size w w20 ∧ Blk w20 w.heap.size 30 #[.slice none 0 0, .slice none 0 0, .int .u64 0, .int .u64 0, .int .u64 0, .int .u64 0, .int .i64 0, .int .i64 0, .slice none 0 0] by
          rw [hw20]
          exact ⟨Below.setRow HBY.out (Nat.le_refl _) _, HZY.out.row _⟩)
        clear hw20 z0 z1 z2 z3 z4 z5 z6 z7 z8
        go_wp2
        refine bodyPost_ret (results_cell2 (ty := 30) (g := w.heap.size) (k := 2) (m := 3) rfl rfl rfl H9.out.2 Try.underlying30 rfl meta_size) rfl ⟨.agg #[.slice none 0 0, .slice none 0 0, .int .u64 0, .int .u64 0, .int .u64 0, .int .u64 0, .int .i64 0, .int .i64 0, .slice none 0 0], (by rw [HG.out.2] <;> rfl), by rw [HG.out.1]; exact ⟨.slice none 0 0, .slice none 0 0, .slice none 0 0, rfl, OwI.nil_ _ _, OwSn.nil_ _ _, OwI.nil_ _ _, zeroT_wf⟩, H9.out.1⟩
    · obtain ⟨hg1, hg2⟩ := HBAD.out (fun h => hok (HOKD.out.1 h).1)
      have HG := Lib.hid (And.intro hg1 hg2)
      have e2 : (EZ != 0) = true := by simp [hok]
      clear hg1 hg2 hok
      go_wp2_with (refine wpList_store_then rfl 30 _ _ rfl w.heap.size #[.slice none 0 0, .slice none 0 0, .int .u64 0, .int .u64 0, .int .u64 0, .int .u64 0, .int .i64 0, .int .i64 0, .slice none 0 0] rfl rfl 30 _ HZY.out meta_size rfl (mt_one _ _ _ _ _ _ _ _ _ _ _ _ _ _ _) ?_)
      refine Later.mk fun w20 hw20 => ?_
      have H9 := Lib.hid (show Below w.heap.size w w20 ∧ Blk w20 w.heap.size 30 #[.slice none 0 0, .slice none 0 0, .int .u64 0, .int .u64 0, .int .u64 0, .int .u64 0, .int .i64 0, .int .i64 0, .slice none 0 0] by
        rw [hw20]
        exact ⟨Below.setRow HBY.out (Nat.le_refl _) _, HZY.out.row _⟩)
      clear hw20 z0 z1 z2 z3 z4 z5 z6 z7 z8
      go_wp2
      refine bodyPost_ret (results_cell2 (ty := 30) (g := w.heap.size) (k := 2) (m := 3) rfl rfl rfl H9.out.2 Try.underlying30 rfl meta_size) rfl ⟨.agg #[.slice none 0 0, .slice none 0 0, .int .u64 0, .int .u64 0, .int .u64 0, .int .u64 0, .int .i64 0, .int .i64 0, .slice none 0 0], (by rw [HG.out.2] <;> rfl), by rw [HG.out.1]; exact ⟨.slice none 0 0, .slice none 0 0, .slice none 0 0, rfl, OwI.nil_ _ _, OwSn.nil_ _ _, OwI.nil_ _ _, zeroT_wf⟩, H9.out.1⟩
end Go.Proofs.Ytimgecflcackbaa
