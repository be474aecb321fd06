/-
  META: the parts of Decode: places, a snapshot, the list of snapshots (printed by wip/gen-metq.py).
-/
import Derived.Test.YtimgecflcackbaaMetP
namespace Go.Proofs.Ytimgecflcackbaa
open Go.RowKit Reg Go.ChangeShapes

theorem below_cell (w : World) (g i : Nat) (u : Value) : Below g w (w.setCell ⟨g, i, none⟩ u) := (Below.refl g w).setCell (p := ⟨g, i, none⟩) (Nat.le_refl g) u
theorem kp_cell (w : World) (g i : Nat) (u : Value) : Kp (· = g) w (w.setCell ⟨g, i, none⟩ u) := ⟨(Below.refl 0 w).setCell (Nat.zero_le _) _, fun b _ hn => Below.heap_setCell w _ _ b hn⟩
/-- what Decode's closures hold -/
structure Env (w : World) (r q B F5 F6 F8 n : Nat) : Prop where
  q_ : Blk w q 69 #[.pointer (some ⟨r, 0, none⟩)]
  b_ : Blk w B 24 #[.int .u64 (n : Int)]
  f5 : Blk w F5 72 #[.func (.func 58) #[] #[.pointer (some ⟨q, 0, none⟩)]]
  f6 : Blk w F6 73 #[.func (.func 60) #[] #[.pointer (some ⟨q, 0, none⟩)]]
  f8 : Blk w F8 75 #[.func (.func 61) #[] #[.pointer (some ⟨B, 0, none⟩), .pointer (some ⟨F5, 0, none⟩)]]
  oq : r < q
  ob : r < B
  o5 : r < F5
  o6 : r < F6
  o8 : r < F8
theorem Env.kp {A : Nat → Prop} {w w' : World} {r q B F5 F6 F8 n : Nat} (h : Env w r q B F5 F6 F8 n) (hk : Kp A w w') (hA : ∀ b, b < w.heap.size → A b → b = r ∨ (b ≠ q ∧ b ≠ B ∧ b ≠ F5 ∧ b ≠ F6 ∧ b ≠ F8)) : Env w' r q B F5 F6 F8 n := by
  have h1 := h.oq
  have h2 := h.ob
  have h3 := h.o5
  have h4 := h.o6
  have h5 := h.o8
  exact ⟨hk.blk h.q_ fun ha => by have := hA _ h.q_.lt ha; omega, hk.blk h.b_ fun ha => by have := hA _ h.b_.lt ha; omega, hk.blk h.f5 fun ha => by have := hA _ h.f5.lt ha; omega,
    hk.blk h.f6 fun ha => by have := hA _ h.f6.lt ha; omega, hk.blk h.f8 fun ha => by have := hA _ h.f8.lt ha; omega, h1, h2, h3, h4, h5⟩
theorem Env.keep {w w' : World} {r q B F5 F6 F8 n : Nat} (h : Env w r q B F5 F6 F8 n) (hb : Below w.heap.size w w') : Env w' r q B F5 F6 F8 n := h.kp (A := fun _ => False) (Kp.of_below hb) fun _ _ h => h.elim
theorem Env.read {w w' : World} {r q B F5 F6 F8 n : Nat} (h : Env w r q B F5 F6 F8 n) (hk : Kp (· = r) w w') : Env w' r q B F5 F6 F8 n := h.kp hk fun _ _ h => .inl h
set_option maxRecDepth 100000 in
theorem places_at {SS : Nat → Wire.St} {N : Nat → Nat} (R : Rds SS N) {r q B F5 F6 F8 n : Nat} (i : Nat) (w : World) (h : Rdr w r (SS i)) (E : Env w r q B F5 F6 F8 n) :
    Calls Try.prog 61 #[.pointer (some ⟨B, 0, none⟩), .pointer (some ⟨F5, 0, none⟩)] w fun e w' => ∃ v, e = .returned v ∧ OwI w' w.heap.size v (imgN 1024 N i (capB n)) ∧ Rdr w' r (SS (i + capB n)) ∧ Kp (· = r) w w' := by
  have c0 := E.b_.cell 0
  have c1 := E.f5.cell 0
  simp at c0 c1
  have HL := Lib.hid (list_at R r q i n w h E.q_ E.oq)
  clear h E
  go_enter Try.func61, Try.ntmps61
  go_wp2_with fail
  refine HL.out.mono ?_
  rintro e w2 ⟨v, rfl, h1, h2, h3⟩
  have H := Lib.hid (And.intro h1 (And.intro h2 h3))
  clear h1 h2 h3 HL
  go_wp2
  go_ret
  exact ⟨_, rfl, H.out.1, H.out.2.1, H.out.2.2⟩
set_option maxRecDepth 100000 in
set_option maxHeartbeats 1000000 in
theorem snap_at {SS : Nat → Wire.St} {N : Nat → Nat} (R : Rds SS N) {r q B F5 F6 F8 n : Nat} (i : Nat) (w : World) (h : Rdr w r (SS i)) (E : Env w r q B F5 F6 F8 n) :
    Calls Try.prog 64 #[.pointer (some ⟨F6, 0, none⟩), .pointer (some ⟨F5, 0, none⟩), .pointer (some ⟨F8, 0, none⟩)] w fun e w' =>
      ∃ x : Se, e = .returned (.agg x.cells) ∧ x.sn = snN 1024 N i (capB n) ∧ OwI w' w.heap.size x.iv x.zs ∧ Rdr w' r (SS (i + 3 + capB n)) ∧ Kp (· = r) w w' := by
  have hrl := h.lt
  have hb0 := (Below.refl w.heap.size w).alloc (Nat.le_refl _) (Obj.cells #[.int .u64 0, .int .u64 0, .slice none 0 0, .bool false] 48)
  have E1 := E.keep hb0
  have c0 := E1.f6.cell 0
  simp at c0
  have HZ := Lib.hid (Blk.new w 48 #[.int .u64 0, .int .u64 0, .slice none 0 0, .bool false])
  have HB0 := Lib.hid hb0
  have HR := Lib.hid (h.keep hb0)
  have HE := Lib.hid E1
  have HRL := Lib.hid hrl
  have HEL := Lib.hid (And.intro E.q_.lt (And.intro E.b_.lt (And.intro E.f5.lt (And.intro E.f6.lt E.f8.lt))))
  clear h E E1 hb0 hrl
  go_enter Try.func64, Try.ntmps64
  go_wp2_with fail
  generalize w.alloc (Obj.cells #[.int .u64 0, .int .u64 0, .slice none 0 0, .bool false] 48) = w1 at *
  refine (gd_at R r q i w1 HR.out HE.out.q_ (by have := HE.out.oq; omega)).mono ?_
  rintro e w2 ⟨rfl, h1, h2⟩
  have HR2 := Lib.hid h1
  have HE2 := Lib.hid (HE.out.read h2)
  have HK2 := Lib.hid (show Kp (· = r) w w2 from (Kp.of_below HB0.out).trans h2)
  have HZ2 := Lib.hid (h2.blk HZ.out (by have := HRL.out; omega))
  clear h1 h2 c0 HR HE HB0 HZ
  have hbx := (Below.refl w2.heap.size w2).alloc (Nat.le_refl _) (Obj.cells #[.int .u64 (N i : Int), .int .u64 (N (i + 1) : Int), .slice none 0 0, .bool false] 48)
  have hE3 := HE2.out.keep hbx
  have c1 := hE3.f5.cell 0
  simp at c1
  go_wp2_with fail
  have HX := Lib.hid (Blk.new w2 48 #[.int .u64 (N i : Int), .int .u64 (N (i + 1) : Int), .slice none 0 0, .bool false])
  have HE3 := Lib.hid hE3
  have HR3 := Lib.hid (HR2.out.keep hbx)
  have HZ3 := Lib.hid (HZ2.out.keep hbx)
  have HK3 := Lib.hid (show Kp (· = r) w _ from HK2.out.trans (Kp.of_below hbx))
  have HG := Lib.hid (show w.heap.size < w2.heap.size from HZ2.out.lt)
  generalize w2.alloc (Obj.cells #[.int .u64 (N i : Int), .int .u64 (N (i + 1) : Int), .slice none 0 0, .bool false] 48) = w3 at *
  generalize w2.heap.size = g at *
  clear hbx hE3 HR2 HE2 HZ2 HK2
  refine (small_at R r q (i + 2) w3 HR3.out HE3.out.q_).mono ?_
  rintro e w4 ⟨rfl, h1, h2⟩
  obtain ⟨hd, hhd⟩ : ∃ z, z = decide (min (N (i + 2)) 1024 = 1) := ⟨_, rfl⟩
  have e1 : (((min (N (i + 2)) 1024 : Nat) : Int) == 1) = hd := by
    rw [hhd]
    by_cases hx : min (N (i + 2)) 1024 = 1
    · rw [hx]; rfl
    · rw [decide_eq_false hx]
      have : ((min (N (i + 2)) 1024 : Nat) : Int) ≠ 1 := by omega
      simpa using this
  have HHD := Lib.hid hhd
  generalize ((min (N (i + 2)) 1024 : Nat) : Int) = m at *
  have hxb := h2.blk HX.out (by have := HG.out; have := HRL.out; omega)
  have x3 := hxb.cell 3
  have f3 := hxb.frozen 3
  simp at x3
  have HX4 := Lib.hid hxb
  have HR4 := Lib.hid h1
  have HE4 := Lib.hid (HE3.out.read h2)
  have HZ4 := Lib.hid (h2.blk HZ3.out (by have := HRL.out; omega))
  have HK4 := Lib.hid (HK3.out.trans h2)
  clear h1 h2 hxb c1 HX HR3 HE3 HZ3 HK3 hhd
  have hk5 : Kp (· = g) w4 (w4.setCell ⟨g, 3, none⟩ (.bool hd)) := ⟨(Below.refl 0 w4).setCell (Nat.zero_le _) _, fun b _ hn => Below.heap_setCell w4 _ _ b hn⟩
  have hE5 := HE4.out.kp hk5 (fun b _ e => .inr (by have := HEL.out; have := HG.out; omega))
  have c8 := hE5.f8.cell 0
  simp at c8
  have HE5 := Lib.hid hE5
  have HX5 := Lib.hid (HX4.out.set 3 (.bool hd))
  have HR5 := Lib.hid (HR4.out.below (below_cell w4 g 3 (.bool hd)) (by have := HG.out; have := HRL.out; omega))
  have HZ5 := Lib.hid (hk5.blk HZ4.out (by have := HG.out; omega))
  have HK5 := Lib.hid (show Kp (· = r) w _ from HK4.out.ext_new hk5 fun b e => .inr (by have := HG.out; omega))
  clear hk5 hE5 HE4 HX4 HR4 HZ4 HK4
  go_wp2_with fail
  generalize w4.setCell ⟨g, 3, none⟩ (.bool hd) = w5 at *
  clear c8 x3 f3
  refine (places_at R (i + 3) w5 HR5.out HE5.out).mono ?_
  rintro e w6 ⟨v, rfl, ho, h1, h2⟩
  obtain ⟨va, vc, rfl⟩ := ho.slice_
  have hgx : g < w5.heap.size := HX5.out.lt
  have hx6 := h2.blk HX5.out (by have := HG.out; have := HRL.out; omega)
  have x2 := hx6.cell 2
  have f2 := hx6.frozen 2
  simp at x2
  have hk7 := kp_cell w6 g 2 (.slice va (imgN 1024 N (i + 3) (capB n)).length vc)
  have hx7 := hx6.set 2 (.slice va (imgN 1024 N (i + 3) (capB n)).length vc)
  have y0 := hx7.cell 0
  have y1 := hx7.cell 1
  have y2 := hx7.cell 2
  have y3 := hx7.cell 3
  simp at y0 y1 y2 y3
  have hz7 := hk7.blk (h2.blk HZ5.out (by have := HRL.out; omega)) (by have := HG.out; omega)
  have HZ7 := Lib.hid hz7
  have HO7 := Lib.hid ((ho.mono (Nat.le_of_lt (Nat.lt_trans HG.out hgx))).kp hk7 fun b hb e => by have := own_from ho.1 hb; omega)
  have HR7 := Lib.hid (h1.below (below_cell w6 g 2 (.slice va (imgN 1024 N (i + 3) (capB n)).length vc)) (by have := HG.out; have := HRL.out; omega))
  have HK7 := Lib.hid ((HK5.out.trans h2).ext_new hk7 fun b e => .inr (by have := HG.out; omega))
  have HSN := Lib.hid (show Se.sn ⟨((N i : Nat), (N (i + 1) : Nat)), imgN 1024 N (i + 3) (capB n), hd, va, vc⟩ = snN 1024 N i (capB n) by rw [HHD.out]; rfl)
  clear hx7 hz7 ho h1 h2 hx6 hk7 HE5 HX5 HR5 HZ5 HK5 HHD
  have HLN := Lib.hid (show (imgN 1024 N (i + 3) (capB n)).length = (imgN 1024 N (i + 3) (capB n)).length from rfl)
  generalize hzs : imgN 1024 N (i + 3) (capB n) = zs at *
  clear hzs HLN
  go_wp2_with (refine wpList_store_then rfl 48 _ _ rfl w.heap.size #[.int .u64 (N i : Int), .int .u64 (N (i + 1) : Int), .slice va zs.length vc, .bool hd] rfl rfl 48 _ HZ7.out (by kernel_rfl) rfl (sn_one _ _ _ _ _ _) ?_)
  generalize w6.setCell ⟨g, 2, none⟩ (.slice va zs.length vc) = w7 at *
  refine Later.mk fun w9 hw9 => ?_
  have H9 := Lib.hid (show Rdr w9 r (SS (i + 3 + capB n)) ∧ Kp (· = r) w w9 ∧ Blk w9 w.heap.size 48 #[.int .u64 (N i : Int), .int .u64 (N (i + 1) : Int), .slice va zs.length vc, .bool hd] ∧ OwI w9 w.heap.size (.slice va zs.length vc) zs by
    rw [hw9]
    have hrow : Below w.heap.size w7 (w7.setRow w.heap.size #[.int .u64 (N i : Int), .int .u64 (N (i + 1) : Int), .slice va zs.length vc, .bool hd]) := Below.setRow (Below.refl _ _) (Nat.le_refl _) _
    have hkr : Kp (· = w.heap.size) w7 (w7.setRow w.heap.size #[.int .u64 (N i : Int), .int .u64 (N (i + 1) : Int), .slice va zs.length vc, .bool hd]) :=
      ⟨hrow.mono (Nat.zero_le _), fun b _ hn => by simp only [World.setRow, Array.getElem?_modify]; rw [if_neg (fun e => hn e.symm)]⟩
    exact ⟨HR7.out.below hrow HRL.out, HK7.out.ext_new hkr fun b e => .inr (by omega), HZ7.out.row _, HO7.out.kp hkr fun b hb e => own_ne HO7.out.1 HZ7.out (by decide) hb e⟩)
  clear hw9 HR7 HK7 HO7 HZ7
  go_wp2
  refine bodyPost_ret (results_cell (ty := 48) (g := w.heap.size) (k := 3) rfl rfl H9.out.2.2.1 Try.underlying48 rfl (by kernel_rfl)) rfl ⟨_, rfl, HSN.out, H9.out.2.2.2, H9.out.1, H9.out.2.1⟩
end Go.Proofs.Ytimgecflcackbaa
