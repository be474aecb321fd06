/-
  META: the closed law MetaKnown, walked (printed by wip/gen-metki.py).
-/
import Derived.Test.YtimgecflcackbaaMetKh
import Derived.Deep.LoopGhost
import Derived.Deep.CutRange
import Derived.Deep.CutBlock
namespace Go.Proofs.Ytimgecflcackbaa
open Go.RowKit Reg Go.ChangeShapes

theorem exec_append2 {P : Program} {w w' : World} {o : Oper} {a : Act} (s x : Operand) (t : TypeId) (ho : o.op = .call { callee := .builtin .append, args := #[s, x], argTypes := #[t, t] }) (v u : Value) (hs : a.eval s = v) (hx : a.eval x = u) (v' : Value)
    (hr : (Builtin.append_ #[t, t] o.type #[v, u]).run P w = .ok v' w') : (execOp a.eval o).run P w = .ok (.value v') w' := by
  unfold execOp
  simp only [ho, resolve, invoke, builtin, Sem.run_bind, Sem.run_pure, Result.andThen_ok, List.map_toArray, List.map_cons, List.map_nil, hs, hx, hr]
theorem row_info : (Try.prog.info? 52).map (fun i => (i.zero, i.size)) = some (some (.agg #[.slice none 0 0, .slice none 0 0, .int .u64 0, .int .u64 0, .int .u64 0, .int .u64 0, .int .i64 0, .int .i64 0, .slice none 0 0, .int .i64 0]), 10) := by kernel_rfl
set_option maxRecDepth 100000 in
theorem fill18 (m2 : Mt) (la2 : Option Addr) (lc2 : Nat) (sa2 : Option Addr) (sc2 : Nat) (ia2 : Option Addr) (ic2 : Nat) (m3 : Mt) (la3 : Option Addr) (lc3 : Nat) (sa3 : Option Addr) (sc3 : Nat) (ia3 : Option Addr) (ic3 : Nat) (m4 : Mt) (la4 : Option Addr) (lc4 : Nat) (sa4 : Option Addr) (sc4 : Nat) (ia4 : Option Addr) (ic4 : Nat) (m5 : Mt) (la5 : Option Addr) (lc5 : Nat) (sa5 : Option Addr) (sc5 : Nat) (ia5 : Option Addr) (ic5 : Nat) (m6 : Mt) (la6 : Option Addr) (lc6 : Nat) (sa6 : Option Addr) (sc6 : Nat) (ia6 : Option Addr) (ic6 : Nat) (m7 : Mt) (la7 : Option Addr) (lc7 : Nat) (sa7 : Option Addr) (sc7 : Nat) (ia7 : Option Addr) (ic7 : Nat) (m8 : Mt) (la8 : Option Addr) (lc8 : Nat) (sa8 : Option Addr) (sc8 : Nat) (ia8 : Option Addr) (ic8 : Nat) (m9 : Mt) (la9 : Option Addr) (lc9 : Nat) (sa9 : Option Addr) (sc9 : Nat) (ia9 : Option Addr) (ic9 : Nat) (m10 : Mt) (la10 : Option Addr) (lc10 : Nat) (sa10 : Option Addr) (sc10 : Nat) (ia10 : Option Addr) (ic10 : Nat) (m11 : Mt) (la11 : Option Addr) (lc11 : Nat) (sa11 : Option Addr) (sc11 : Nat) (ia11 : Option Addr) (ic11 : Nat) (m12 : Mt) (la12 : Option Addr) (lc12 : Nat) (sa12 : Option Addr) (sc12 : Nat) (ia12 : Option Addr) (ic12 : Nat) (m13 : Mt) (la13 : Option Addr) (lc13 : Nat) (sa13 : Option Addr) (sc13 : Nat) (ia13 : Option Addr) (ic13 : Nat) (m14 : Mt) (la14 : Option Addr) (lc14 : Nat) (sa14 : Option Addr) (sc14 : Nat) (ia14 : Option Addr) (ic14 : Nat) (m15 : Mt) (la15 : Option Addr) (lc15 : Nat) (sa15 : Option Addr) (sc15 : Nat) (ia15 : Option Addr) (ic15 : Nat) (m16 : Mt) (la16 : Option Addr) (lc16 : Nat) (sa16 : Option Addr) (sc16 : Nat) (ia16 : Option Addr) (ic16 : Nat) (m17 : Mt) (la17 : Option Addr) (lc17 : Nat) (sa17 : Option Addr) (sc17 : Nat) (ia17 : Option Addr) (ic17 : Nat) (m18 : Mt) (la18 : Option Addr) (lc18 : Nat) (sa18 : Option Addr) (sc18 : Nat) (ia18 : Option Addr) (ic18 : Nat) (m19 : Mt) (la19 : Option Addr) (lc19 : Nat) (sa19 : Option Addr) (sc19 : Nat) (ia19 : Option Addr) (ic19 : Nat) : Instr.fill (fun i => some (i * 10, 10)) ((Array.range (18 * 10)).map ((Value.agg #[.slice none 0 0, .slice none 0 0, .int .u64 0, .int .u64 0, .int .u64 0, .int .u64 0, .int .i64 0, .int .i64 0, .slice none 0 0, .int .i64 0]).cells[· % (Value.agg #[.slice none 0 0, .slice none 0 0, .int .u64 0, .int .u64 0, .int .u64 0, .int .u64 0, .int .i64 0, .int .i64 0, .slice none 0 0, .int .i64 0]).cells.size]!)) [(0, .agg #[.slice la2 m2.live.length lc2, .slice sa2 m2.snaps.length sc2, .int .u64 m2.token.base.1, .int .u64 m2.token.base.2, .int .u64 m2.token.target.1, .int .u64 m2.token.target.2, .int .i64 m2.token.next, .int .i64 m2.token.all, .slice ia2 m2.token.image.length ic2, .int .i64 16]), (1, .agg #[.slice la3 m3.live.length lc3, .slice sa3 m3.snaps.length sc3, .int .u64 m3.token.base.1, .int .u64 m3.token.base.2, .int .u64 m3.token.target.1, .int .u64 m3.token.target.2, .int .i64 m3.token.next, .int .i64 m3.token.all, .slice ia3 m3.token.image.length ic3, .int .i64 2]), (2, .agg #[.slice la4 m4.live.length lc4, .slice sa4 m4.snaps.length sc4, .int .u64 m4.token.base.1, .int .u64 m4.token.base.2, .int .u64 m4.token.target.1, .int .u64 m4.token.target.2, .int .i64 m4.token.next, .int .i64 m4.token.all, .slice ia4 m4.token.image.length ic4, .int .i64 2]), (3, .agg #[.slice la5 m5.live.length lc5, .slice sa5 m5.snaps.length sc5, .int .u64 m5.token.base.1, .int .u64 m5.token.base.2, .int .u64 m5.token.target.1, .int .u64 m5.token.target.2, .int .i64 m5.token.next, .int .i64 m5.token.all, .slice ia5 m5.token.image.length ic5, .int .i64 16]), (4, .agg #[.slice la6 m6.live.length lc6, .slice sa6 m6.snaps.length sc6, .int .u64 m6.token.base.1, .int .u64 m6.token.base.2, .int .u64 m6.token.target.1, .int .u64 m6.token.target.2, .int .i64 m6.token.next, .int .i64 m6.token.all, .slice ia6 m6.token.image.length ic6, .int .i64 2]), (5, .agg #[.slice la7 m7.live.length lc7, .slice sa7 m7.snaps.length sc7, .int .u64 m7.token.base.1, .int .u64 m7.token.base.2, .int .u64 m7.token.target.1, .int .u64 m7.token.target.2, .int .i64 m7.token.next, .int .i64 m7.token.all, .slice ia7 m7.token.image.length ic7, .int .i64 2]), (6, .agg #[.slice la8 m8.live.length lc8, .slice sa8 m8.snaps.length sc8, .int .u64 m8.token.base.1, .int .u64 m8.token.base.2, .int .u64 m8.token.target.1, .int .u64 m8.token.target.2, .int .i64 m8.token.next, .int .i64 m8.token.all, .slice ia8 m8.token.image.length ic8, .int .i64 2]), (7, .agg #[.slice la9 m9.live.length lc9, .slice sa9 m9.snaps.length sc9, .int .u64 m9.token.base.1, .int .u64 m9.token.base.2, .int .u64 m9.token.target.1, .int .u64 m9.token.target.2, .int .i64 m9.token.next, .int .i64 m9.token.all, .slice ia9 m9.token.image.length ic9, .int .i64 2]), (8, .agg #[.slice la10 m10.live.length lc10, .slice sa10 m10.snaps.length sc10, .int .u64 m10.token.base.1, .int .u64 m10.token.base.2, .int .u64 m10.token.target.1, .int .u64 m10.token.target.2, .int .i64 m10.token.next, .int .i64 m10.token.all, .slice ia10 m10.token.image.length ic10, .int .i64 2]), (9, .agg #[.slice la11 m11.live.length lc11, .slice sa11 m11.snaps.length sc11, .int .u64 m11.token.base.1, .int .u64 m11.token.base.2, .int .u64 m11.token.target.1, .int .u64 m11.token.target.2, .int .i64 m11.token.next, .int .i64 m11.token.all, .slice ia11 m11.token.image.length ic11, .int .i64 2]), (10, .agg #[.slice la12 m12.live.length lc12, .slice sa12 m12.snaps.length sc12, .int .u64 m12.token.base.1, .int .u64 m12.token.base.2, .int .u64 m12.token.target.1, .int .u64 m12.token.target.2, .int .i64 m12.token.next, .int .i64 m12.token.all, .slice ia12 m12.token.image.length ic12, .int .i64 16]), (11, .agg #[.slice la13 m13.live.length lc13, .slice sa13 m13.snaps.length sc13, .int .u64 m13.token.base.1, .int .u64 m13.token.base.2, .int .u64 m13.token.target.1, .int .u64 m13.token.target.2, .int .i64 m13.token.next, .int .i64 m13.token.all, .slice ia13 m13.token.image.length ic13, .int .i64 2]), (12, .agg #[.slice la14 m14.live.length lc14, .slice sa14 m14.snaps.length sc14, .int .u64 m14.token.base.1, .int .u64 m14.token.base.2, .int .u64 m14.token.target.1, .int .u64 m14.token.target.2, .int .i64 m14.token.next, .int .i64 m14.token.all, .slice ia14 m14.token.image.length ic14, .int .i64 2]), (13, .agg #[.slice la15 m15.live.length lc15, .slice sa15 m15.snaps.length sc15, .int .u64 m15.token.base.1, .int .u64 m15.token.base.2, .int .u64 m15.token.target.1, .int .u64 m15.token.target.2, .int .i64 m15.token.next, .int .i64 m15.token.all, .slice ia15 m15.token.image.length ic15, .int .i64 0]), (14, .agg #[.slice la16 m16.live.length lc16, .slice sa16 m16.snaps.length sc16, .int .u64 m16.token.base.1, .int .u64 m16.token.base.2, .int .u64 m16.token.target.1, .int .u64 m16.token.target.2, .int .i64 m16.token.next, .int .i64 m16.token.all, .slice ia16 m16.token.image.length ic16, .int .i64 0]), (15, .agg #[.slice la17 m17.live.length lc17, .slice sa17 m17.snaps.length sc17, .int .u64 m17.token.base.1, .int .u64 m17.token.base.2, .int .u64 m17.token.target.1, .int .u64 m17.token.target.2, .int .i64 m17.token.next, .int .i64 m17.token.all, .slice ia17 m17.token.image.length ic17, .int .i64 0]), (16, .agg #[.slice la18 m18.live.length lc18, .slice sa18 m18.snaps.length sc18, .int .u64 m18.token.base.1, .int .u64 m18.token.base.2, .int .u64 m18.token.target.1, .int .u64 m18.token.target.2, .int .i64 m18.token.next, .int .i64 m18.token.all, .slice ia18 m18.token.image.length ic18, .int .i64 3]), (17, .agg #[.slice la19 m19.live.length lc19, .slice sa19 m19.snaps.length sc19, .int .u64 m19.token.base.1, .int .u64 m19.token.base.2, .int .u64 m19.token.target.1, .int .u64 m19.token.target.2, .int .i64 m19.token.next, .int .i64 m19.token.all, .slice ia19 m19.token.image.length ic19, .int .i64 2])] = some #[.slice la2 m2.live.length lc2, .slice sa2 m2.snaps.length sc2, .int .u64 m2.token.base.1, .int .u64 m2.token.base.2, .int .u64 m2.token.target.1, .int .u64 m2.token.target.2, .int .i64 m2.token.next, .int .i64 m2.token.all, .slice ia2 m2.token.image.length ic2, .int .i64 16, .slice la3 m3.live.length lc3, .slice sa3 m3.snaps.length sc3, .int .u64 m3.token.base.1, .int .u64 m3.token.base.2, .int .u64 m3.token.target.1, .int .u64 m3.token.target.2, .int .i64 m3.token.next, .int .i64 m3.token.all, .slice ia3 m3.token.image.length ic3, .int .i64 2, .slice la4 m4.live.length lc4, .slice sa4 m4.snaps.length sc4, .int .u64 m4.token.base.1, .int .u64 m4.token.base.2, .int .u64 m4.token.target.1, .int .u64 m4.token.target.2, .int .i64 m4.token.next, .int .i64 m4.token.all, .slice ia4 m4.token.image.length ic4, .int .i64 2, .slice la5 m5.live.length lc5, .slice sa5 m5.snaps.length sc5, .int .u64 m5.token.base.1, .int .u64 m5.token.base.2, .int .u64 m5.token.target.1, .int .u64 m5.token.target.2, .int .i64 m5.token.next, .int .i64 m5.token.all, .slice ia5 m5.token.image.length ic5, .int .i64 16, .slice la6 m6.live.length lc6, .slice sa6 m6.snaps.length sc6, .int .u64 m6.token.base.1, .int .u64 m6.token.base.2, .int .u64 m6.token.target.1, .int .u64 m6.token.target.2, .int .i64 m6.token.next, .int .i64 m6.token.all, .slice ia6 m6.token.image.length ic6, .int .i64 2, .slice la7 m7.live.length lc7, .slice sa7 m7.snaps.length sc7, .int .u64 m7.token.base.1, .int .u64 m7.token.base.2, .int .u64 m7.token.target.1, .int .u64 m7.token.target.2, .int .i64 m7.token.next, .int .i64 m7.token.all, .slice ia7 m7.token.image.length ic7, .int .i64 2, .slice la8 m8.live.length lc8, .slice sa8 m8.snaps.length sc8, .int .u64 m8.token.base.1, .int .u64 m8.token.base.2, .int .u64 m8.token.target.1, .int .u64 m8.token.target.2, .int .i64 m8.token.next, .int .i64 m8.token.all, .slice ia8 m8.token.image.length ic8, .int .i64 2, .slice la9 m9.live.length lc9, .slice sa9 m9.snaps.length sc9, .int .u64 m9.token.base.1, .int .u64 m9.token.base.2, .int .u64 m9.token.target.1, .int .u64 m9.token.target.2, .int .i64 m9.token.next, .int .i64 m9.token.all, .slice ia9 m9.token.image.length ic9, .int .i64 2, .slice la10 m10.live.length lc10, .slice sa10 m10.snaps.length sc10, .int .u64 m10.token.base.1, .int .u64 m10.token.base.2, .int .u64 m10.token.target.1, .int .u64 m10.token.target.2, .int .i64 m10.token.next, .int .i64 m10.token.all, .slice ia10 m10.token.image.length ic10, .int .i64 2, .slice la11 m11.live.length lc11, .slice sa11 m11.snaps.length sc11, .int .u64 m11.token.base.1, .int .u64 m11.token.base.2, .int .u64 m11.token.target.1, .int .u64 m11.token.target.2, .int .i64 m11.token.next, .int .i64 m11.token.all, .slice ia11 m11.token.image.length ic11, .int .i64 2, .slice la12 m12.live.length lc12, .slice sa12 m12.snaps.length sc12, .int .u64 m12.token.base.1, .int .u64 m12.token.base.2, .int .u64 m12.token.target.1, .int .u64 m12.token.target.2, .int .i64 m12.token.next, .int .i64 m12.token.all, .slice ia12 m12.token.image.length ic12, .int .i64 16, .slice la13 m13.live.length lc13, .slice sa13 m13.snaps.length sc13, .int .u64 m13.token.base.1, .int .u64 m13.token.base.2, .int .u64 m13.token.target.1, .int .u64 m13.token.target.2, .int .i64 m13.token.next, .int .i64 m13.token.all, .slice ia13 m13.token.image.length ic13, .int .i64 2, .slice la14 m14.live.length lc14, .slice sa14 m14.snaps.length sc14, .int .u64 m14.token.base.1, .int .u64 m14.token.base.2, .int .u64 m14.token.target.1, .int .u64 m14.token.target.2, .int .i64 m14.token.next, .int .i64 m14.token.all, .slice ia14 m14.token.image.length ic14, .int .i64 2, .slice la15 m15.live.length lc15, .slice sa15 m15.snaps.length sc15, .int .u64 m15.token.base.1, .int .u64 m15.token.base.2, .int .u64 m15.token.target.1, .int .u64 m15.token.target.2, .int .i64 m15.token.next, .int .i64 m15.token.all, .slice ia15 m15.token.image.length ic15, .int .i64 0, .slice la16 m16.live.length lc16, .slice sa16 m16.snaps.length sc16, .int .u64 m16.token.base.1, .int .u64 m16.token.base.2, .int .u64 m16.token.target.1, .int .u64 m16.token.target.2, .int .i64 m16.token.next, .int .i64 m16.token.all, .slice ia16 m16.token.image.length ic16, .int .i64 0, .slice la17 m17.live.length lc17, .slice sa17 m17.snaps.length sc17, .int .u64 m17.token.base.1, .int .u64 m17.token.base.2, .int .u64 m17.token.target.1, .int .u64 m17.token.target.2, .int .i64 m17.token.next, .int .i64 m17.token.all, .slice ia17 m17.token.image.length ic17, .int .i64 0, .slice la18 m18.live.length lc18, .slice sa18 m18.snaps.length sc18, .int .u64 m18.token.base.1, .int .u64 m18.token.base.2, .int .u64 m18.token.target.1, .int .u64 m18.token.target.2, .int .i64 m18.token.next, .int .i64 m18.token.all, .slice ia18 m18.token.image.length ic18, .int .i64 3, .slice la19 m19.live.length lc19, .slice sa19 m19.snaps.length sc19, .int .u64 m19.token.base.1, .int .u64 m19.token.base.2, .int .u64 m19.token.target.1, .int .u64 m19.token.target.2, .int .i64 m19.token.next, .int .i64 m19.token.all, .slice ia19 m19.token.image.length ic19, .int .i64 2] := by kernel_rfl
set_option maxRecDepth 100000 in
set_option maxHeartbeats 16000000 in
theorem law_MetaKnown (w : World) : Calls Try.prog 8 #[] w fun e w' => e = .returned (.bool true) ∧ Below w.heap.size w w' := by
  have hmf : ∀ (fn : Fn) (first cap : Array Value) (w : World), (Instr.makeFunc fn first cap).run Try.prog w = .ok (.func fn first cap) w := fun _ _ _ _ => rfl
  have HMF := Lib.hid hmf
  have hb := (Below.refl w.heap.size w).alloc (Nat.le_refl _) (Obj.cells #[.int .i64 0] 3)
  have hl := InI.lit w [0] #[.int .i64 0] rfl (by decide) (by decide)
  have HB := Lib.hid hb
  have HE := Lib.hid (enc_empty _ (show InMt (w.alloc (Obj.cells #[.int .i64 0] 3)) (.agg #[.slice (some ⟨w.heap.size, 0, none⟩) 1 1, .slice none 0 0, .int .u64 0, .int .u64 0, .int .u64 0, .int .u64 0, .int .i64 0, .int .i64 0, .slice none 0 0]) emptyM from ⟨_, _, _, rfl, hl, InS.nil_ _ _ _, InI.nil_ _, zeroT_wf⟩))
  clear hmf hb hl
  go_enter Try.func8, Try.ntmps8
  go_wp2_with fail
  refine HE.out.mono ?_
  rintro e wx ⟨s0, rfl, hs0, hb⟩
  replace HB := Lib.hid (HB.out.trans (hb.mono HB.out.size))
  have e1 : (s0.toList == ({ data := #[1, 1, 0, 0, 0] } : ByteArray).toList) = true := by rw [hs0]; exact same_str _
  have e2 : s0.toList = ({ data := #[1, 1, 0, 0, 0] } : ByteArray).toList := by rw [hs0]
  clear hb HE hs0
  go_wp2_with fail
  have hb := (Below.refl wx.heap.size wx).alloc (Nat.le_refl _) (Obj.cells #[.int .i64 200, .int .i64 0] 3)
  replace HB := Lib.hid (HB.out.trans (hb.mono HB.out.size))
  have HL := Lib.hid (show InI (wx.alloc (Obj.cells #[.int .i64 200, .int .i64 0] 3)) (.slice (some ⟨wx.heap.size, 0, none⟩) 2 2) [200, 0] from InI.litAt wx [200, 0] #[.int .i64 200, .int .i64 0] _ rfl rfl (by decide) (by decide))
  clear hb
  generalize wx.heap.size = gl at *
  generalize wx.alloc (Obj.cells #[.int .i64 200, .int .i64 0] 3) = wy at *
  obtain ⟨wx, rfl⟩ : ∃ wx : World, wx = wy := ⟨_, rfl⟩
  refine (guid_any 1 1 _).mono ?_
  rintro e wx ⟨rfl, hb⟩
  replace HB := Lib.hid (HB.out.trans (hb.mono HB.out.size))
  replace HL := Lib.hid (HL.out.keep hb)
  clear hb
  go_wp2_with fail
  have hb := (Below.refl wx.heap.size wx).alloc (Nat.le_refl _) (Obj.cells #[.int .i64 0, .int .i64 0] 3)
  replace HB := Lib.hid (HB.out.trans (hb.mono HB.out.size))
  replace HL := Lib.hid (HL.out.keep hb)
  have HI0 := Lib.hid (show InI (wx.alloc (Obj.cells #[.int .i64 0, .int .i64 0] 3)) (.slice (some ⟨wx.heap.size, 0, none⟩) 2 2) [0, 0] from InI.litAt wx [0, 0] #[.int .i64 0, .int .i64 0] _ rfl rfl (by decide) (by decide))
  clear hb
  generalize wx.heap.size = g0 at *
  generalize wx.alloc (Obj.cells #[.int .i64 0, .int .i64 0] 3) = wy at *
  obtain ⟨wx, rfl⟩ : ∃ wx : World, wx = wy := ⟨_, rfl⟩
  refine (guid_any 2 1 _).mono ?_
  rintro e wx ⟨rfl, hb⟩
  replace HB := Lib.hid (HB.out.trans (hb.mono HB.out.size))
  replace HL := Lib.hid (HL.out.keep hb)
  replace HI0 := Lib.hid (HI0.out.keep hb)
  clear hb
  go_wp2_with fail
  have hb := ((Below.refl wx.heap.size wx).alloc (Nat.le_refl _) (Obj.cells #[.int .i64 300, .int .i64 301] 3)).alloc (by simp) (Obj.cells #[.int .u64 1, .int .u64 1, .slice (some ⟨g0, 0, none⟩) 2 2, .bool true, .int .u64 2, .int .u64 1, .slice (some ⟨wx.heap.size, 0, none⟩) 2 2, .bool false] 48)
  have hb2 := (Below.refl (wx.alloc (Obj.cells #[.int .i64 300, .int .i64 301] 3)).heap.size (wx.alloc (Obj.cells #[.int .i64 300, .int .i64 301] 3))).alloc (Nat.le_refl _) (Obj.cells #[.int .u64 1, .int .u64 1, .slice (some ⟨g0, 0, none⟩) 2 2, .bool true, .int .u64 2, .int .u64 1, .slice (some ⟨wx.heap.size, 0, none⟩) 2 2, .bool false] 48)
  replace HB := Lib.hid (HB.out.trans (hb.mono HB.out.size))
  replace HL := Lib.hid (HL.out.keep hb)
  replace HI0 := Lib.hid (HI0.out.keep hb)
  have HI1 := Lib.hid ((show InI (wx.alloc (Obj.cells #[.int .i64 300, .int .i64 301] 3)) (.slice (some ⟨wx.heap.size, 0, none⟩) 2 2) [300, 301] from InI.litAt wx [300, 301] #[.int .i64 300, .int .i64 301] _ rfl rfl (by decide) (by decide)).keep hb2)
  have HS := Lib.hid (Blk.newAt (w := wx.alloc (Obj.cells #[.int .i64 300, .int .i64 301] 3)) 48 #[.int .u64 1, .int .u64 1, .slice (some ⟨g0, 0, none⟩) 2 2, .bool true, .int .u64 2, .int .u64 1, .slice (some ⟨wx.heap.size, 0, none⟩) 2 2, .bool false] (g := wx.heap.size + 1) (by simp))
  clear hb hb2
  generalize wx.heap.size + 1 = gs at *
  generalize wx.heap.size = g1 at *
  generalize (wx.alloc (Obj.cells #[.int .i64 300, .int .i64 301] 3)).alloc (Obj.cells #[.int .u64 1, .int .u64 1, .slice (some ⟨g0, 0, none⟩) 2 2, .bool true, .int .u64 2, .int .u64 1, .slice (some ⟨g1, 0, none⟩) 2 2, .bool false] 48) = wy at *
  obtain ⟨wx, rfl⟩ : ∃ wx : World, wx = wy := ⟨_, rfl⟩
  refine (guid_any 2 1 _).mono ?_
  rintro e wx ⟨rfl, hb⟩
  replace HB := Lib.hid (HB.out.trans (hb.mono HB.out.size))
  replace HL := Lib.hid (HL.out.keep hb)
  replace HI0 := Lib.hid (HI0.out.keep hb)
  replace HI1 := Lib.hid (HI1.out.keep hb)
  replace HS := Lib.hid (HS.out.keep hb)
  clear hb
  go_wp2_with fail
  refine (guid_any 2 2 _).mono ?_
  rintro e wx ⟨rfl, hb⟩
  replace HB := Lib.hid (HB.out.trans (hb.mono HB.out.size))
  replace HL := Lib.hid (HL.out.keep hb)
  replace HI0 := Lib.hid (HI0.out.keep hb)
  replace HI1 := Lib.hid (HI1.out.keep hb)
  replace HS := Lib.hid (HS.out.keep hb)
  clear hb
  go_wp2_with fail
  have hb := ((Below.refl wx.heap.size wx).alloc (Nat.le_refl _) (Obj.cells #[.int .i64 302, .int .i64 301] 3)).alloc (by simp) (Obj.cells #[.slice (some ⟨gl, 0, none⟩) 2 2, .slice (some ⟨gs, 0, none⟩) 2 2, .int .u64 2, .int .u64 1, .int .u64 2, .int .u64 2, .int .i64 1, .int .i64 2, .slice (some ⟨wx.heap.size, 0, none⟩) 2 2] 30)
  have hb2 := (Below.refl (wx.alloc (Obj.cells #[.int .i64 302, .int .i64 301] 3)).heap.size (wx.alloc (Obj.cells #[.int .i64 302, .int .i64 301] 3))).alloc (Nat.le_refl _) (Obj.cells #[.slice (some ⟨gl, 0, none⟩) 2 2, .slice (some ⟨gs, 0, none⟩) 2 2, .int .u64 2, .int .u64 1, .int .u64 2, .int .u64 2, .int .i64 1, .int .i64 2, .slice (some ⟨wx.heap.size, 0, none⟩) 2 2] 30)
  replace HB := Lib.hid (HB.out.trans (hb.mono HB.out.size))
  replace HL := Lib.hid (HL.out.keep hb)
  replace HI0 := Lib.hid (HI0.out.keep hb)
  replace HI1 := Lib.hid (HI1.out.keep hb)
  replace HS := Lib.hid (HS.out.keep hb)
  have HIT := Lib.hid ((show InI (wx.alloc (Obj.cells #[.int .i64 302, .int .i64 301] 3)) (.slice (some ⟨wx.heap.size, 0, none⟩) 2 2) [302, 301] from InI.litAt wx [302, 301] #[.int .i64 302, .int .i64 301] _ rfl rfl (by decide) (by decide)).keep hb2)
  have HWB := Lib.hid (Blk.newAt (w := wx.alloc (Obj.cells #[.int .i64 302, .int .i64 301] 3)) 30 #[.slice (some ⟨gl, 0, none⟩) 2 2, .slice (some ⟨gs, 0, none⟩) 2 2, .int .u64 2, .int .u64 1, .int .u64 2, .int .u64 2, .int .i64 1, .int .i64 2, .slice (some ⟨wx.heap.size, 0, none⟩) 2 2] (g := wx.heap.size + 1) (by simp))
  clear hb hb2
  generalize wx.heap.size + 1 = gw at *
  generalize wx.heap.size = gi at *
  generalize (wx.alloc (Obj.cells #[.int .i64 302, .int .i64 301] 3)).alloc (Obj.cells #[.slice (some ⟨gl, 0, none⟩) 2 2, .slice (some ⟨gs, 0, none⟩) 2 2, .int .u64 2, .int .u64 1, .int .u64 2, .int .u64 2, .int .i64 1, .int .i64 2, .slice (some ⟨gi, 0, none⟩) 2 2] 30) = wy at *
  obtain ⟨wx, rfl⟩ : ∃ wx : World, wx = wy := ⟨_, rfl⟩
  have HWI := Lib.hid (in_whole HL.out HI0.out HI1.out HIT.out HS.out)
  have HW := Lib.hid (show WhG wx gw from ⟨_, _, _, _, _, _, HWB.out, HWI.out⟩)
  clear HL HI0 HI1 HIT HS HWB
  refine (enc_whole _ HWI.out).mono ?_
  rintro e wx ⟨sW, rfl, hsW, hb⟩
  replace HB := Lib.hid (HB.out.trans (hb.mono HB.out.size))
  replace HW := Lib.hid (HW.out.keep hb)
  have HSW := Lib.hid hsW
  clear hb hsW HWI
  go_wp2_with fail
  refine (dec_whole _ HSW.out).mono ?_
  rintro e wx ⟨ld, kd, sd, td, id_, jd, rfl, hi, hb⟩
  replace HB := Lib.hid (HB.out.trans (hb.mono HB.out.size))
  replace HW := Lib.hid (HW.out.keep hb)
  have HD := Lib.hid hi
  clear hb hi HSW
  have hb := (Below.refl wx.heap.size wx).alloc (Nat.le_refl _) (Obj.cells #[.slice ld 2 kd, .slice sd 2 td, .int .u64 2, .int .u64 1, .int .u64 2, .int .u64 2, .int .i64 1, .int .i64 2, .slice id_ 2 jd] 30)
  replace HB := Lib.hid (HB.out.trans (hb.mono HB.out.size))
  replace HW := Lib.hid (HW.out.keep hb)
  replace HD := Lib.hid (HD.out.keep hb)
  have HDB := Lib.hid (Blk.new wx 30 #[.slice ld 2 kd, .slice sd 2 td, .int .u64 2, .int .u64 1, .int .u64 2, .int .u64 2, .int .i64 1, .int .i64 2, .slice id_ 2 jd])
  obtain ⟨la, lc, sa, sc, ia, ic, hg2, hi2⟩ := HW.out
  have x0 := hg2.cell 0
  have x1 := hg2.cell 1
  have x2 := hg2.cell 2
  have x3 := hg2.cell 3
  have x4 := hg2.cell 4
  have x5 := hg2.cell 5
  have x6 := hg2.cell 6
  have x7 := hg2.cell 7
  have x8 := hg2.cell 8
  simp at x0 x1 x2 x3 x4 x5 x6 x7 x8
  have HWI := Lib.hid hi2
  clear hb hg2 hi2
  go_wp2_with fail
  clear x0 x1 x2 x3 x4 x5 x6 x7 x8
  generalize wx.heap.size = gd at *
  generalize wx.alloc (Obj.cells #[.slice ld 2 kd, .slice sd 2 td, .int .u64 2, .int .u64 1, .int .u64 2, .int .u64 2, .int .i64 1, .int .i64 2, .slice id_ 2 jd] 30) = wy at *
  obtain ⟨wx, rfl⟩ : ∃ wx : World, wx = wy := ⟨_, rfl⟩
  refine (samew _ HD.out HWI.out).mono ?_
  rintro e wx ⟨rfl, hb⟩
  replace HB := Lib.hid (HB.out.trans (hb.mono HB.out.size))
  replace HW := Lib.hid (HW.out.keep hb)
  replace HD := Lib.hid (HD.out.keep hb)
  replace HDB := Lib.hid (HDB.out.keep hb)
  replace HWI := Lib.hid (HWI.out.keep hb)
  obtain ⟨gh, oh, hsd, hhc⟩ := hid_cell HD.out
  obtain ⟨gm, om, hid_, him⟩ := img_cell HD.out
  have y1 := HDB.out.cell 1
  have y8 := HDB.out.cell 8
  simp at y1 y8
  rw [hsd] at y1
  rw [hid_] at y8
  clear hb hsd hid_
  obtain ⟨la, lc, sa, sc, ia, ic, hg2, hi2⟩ := HW.out
  have x0 := hg2.cell 0
  have x1 := hg2.cell 1
  have x2 := hg2.cell 2
  have x3 := hg2.cell 3
  have x4 := hg2.cell 4
  have x5 := hg2.cell 5
  have x6 := hg2.cell 6
  have x7 := hg2.cell 7
  have x8 := hg2.cell 8
  simp at x0 x1 x2 x3 x4 x5 x6 x7 x8
  replace HWI := Lib.hid hi2
  clear hg2 hi2
  go_wp2_with fail
  refine (chk_lit _ HWI.out 2 303 0 whole_chk.1).mono ?_
  rintro e wx ⟨rfl, hb⟩
  replace HB := Lib.hid (HB.out.trans (hb.mono HB.out.size))
  replace HW := Lib.hid (HW.out.keep hb)
  replace HWI := Lib.hid (HWI.out.keep hb)
  replace x0 := cell_later hb x0
  replace x1 := cell_later hb x1
  replace x2 := cell_later hb x2
  replace x3 := cell_later hb x3
  replace x4 := cell_later hb x4
  replace x5 := cell_later hb x5
  replace x6 := cell_later hb x6
  replace x7 := cell_later hb x7
  replace x8 := cell_later hb x8
  clear hb y1 y8 him hhc HD HDB
  go_wp2_with fail
  refine (chk_lit _ HWI.out 2 302 2 whole_chk.2.1).mono ?_
  rintro e wx ⟨rfl, hb⟩
  replace HB := Lib.hid (HB.out.trans (hb.mono HB.out.size))
  replace HW := Lib.hid (HW.out.keep hb)
  replace HWI := Lib.hid (HWI.out.keep hb)
  replace x0 := cell_later hb x0
  replace x1 := cell_later hb x1
  replace x2 := cell_later hb x2
  replace x3 := cell_later hb x3
  replace x4 := cell_later hb x4
  replace x5 := cell_later hb x5
  replace x6 := cell_later hb x6
  replace x7 := cell_later hb x7
  replace x8 := cell_later hb x8
  clear hb
  go_wp2_with fail
  refine (chk_lit _ HWI.out 1 400 2 whole_chk.2.2).mono ?_
  rintro e wx ⟨rfl, hb⟩
  replace HB := Lib.hid (HB.out.trans (hb.mono HB.out.size))
  replace HW := Lib.hid (HW.out.keep hb)
  replace HWI := Lib.hid (HWI.out.keep hb)
  replace x0 := cell_later hb x0
  replace x1 := cell_later hb x1
  replace x2 := cell_later hb x2
  replace x3 := cell_later hb x3
  replace x4 := cell_later hb x4
  replace x5 := cell_later hb x5
  replace x6 := cell_later hb x6
  replace x7 := cell_later hb x7
  replace x8 := cell_later hb x8
  clear hb x0 x1 x2 x3 x4 x5 x6 x7 x8 HWI
  have hmf := HMF.out
  go_upto_region 10 with fail
  go_cut [156, 157, 158] from 102 to 158 (fun s156 s157 s158 wc => ∃ gt, s156 = .slice (some ⟨gt, 0, none⟩) 18 18 ∧ s157 = .int .i64 18 ∧ s158 = .int .i64 0 ∧ Below w.heap.size w wc ∧ WhG wc gw ∧ ∀ k, k < 18 → RowB wc gt k)
  case first =>
    go_wp2_with fail
    have HAL := Lib.hid (show AllM wx [] from fun _ h => by cases h)
    refine (with_lit 21 bad2 16 _ gw HW.out (bad_chk.1.1) (fun _ _ => rfl) do2).mono ?_
    rintro e wx ⟨m2, la2, lc2, sa2, sc2, ia2, ic2, rfl, hi, hz, hb⟩
    replace HB := Lib.hid (HB.out.trans (hb.mono HB.out.size))
    replace HW := Lib.hid (HW.out.keep hb)
    replace HAL := Lib.hid (HAL.out.keep hb)
    have HZ2 := Lib.hid hz
    replace HAL := Lib.hid (HAL.out.cons (v := .agg #[.slice la2 m2.live.length lc2, .slice sa2 m2.snaps.length sc2, .int .u64 m2.token.base.1, .int .u64 m2.token.base.2, .int .u64 m2.token.target.1, .int .u64 m2.token.target.2, .int .i64 m2.token.next, .int .i64 m2.token.all, .slice ia2 m2.token.image.length ic2]) (p := m2) hi)
    clear hb hi hz
    go_wp2_with fail
    refine (with_lit 22 bad3 2 _ gw HW.out (bad_chk.1.2.1) (fun _ _ => rfl) do3).mono ?_
    rintro e wx ⟨m3, la3, lc3, sa3, sc3, ia3, ic3, rfl, hi, hz, hb⟩
    replace HB := Lib.hid (HB.out.trans (hb.mono HB.out.size))
    replace HW := Lib.hid (HW.out.keep hb)
    replace HAL := Lib.hid (HAL.out.keep hb)
    have HZ3 := Lib.hid hz
    replace HAL := Lib.hid (HAL.out.cons (v := .agg #[.slice la3 m3.live.length lc3, .slice sa3 m3.snaps.length sc3, .int .u64 m3.token.base.1, .int .u64 m3.token.base.2, .int .u64 m3.token.target.1, .int .u64 m3.token.target.2, .int .i64 m3.token.next, .int .i64 m3.token.all, .slice ia3 m3.token.image.length ic3]) (p := m3) hi)
    clear hb hi hz
    go_wp2_with fail
    refine (with_lit 23 bad4 2 _ gw HW.out (bad_chk.1.2.2.1) (fun _ _ => rfl) do4).mono ?_
    rintro e wx ⟨m4, la4, lc4, sa4, sc4, ia4, ic4, rfl, hi, hz, hb⟩
    replace HB := Lib.hid (HB.out.trans (hb.mono HB.out.size))
    replace HW := Lib.hid (HW.out.keep hb)
    replace HAL := Lib.hid (HAL.out.keep hb)
    have HZ4 := Lib.hid hz
    replace HAL := Lib.hid (HAL.out.cons (v := .agg #[.slice la4 m4.live.length lc4, .slice sa4 m4.snaps.length sc4, .int .u64 m4.token.base.1, .int .u64 m4.token.base.2, .int .u64 m4.token.target.1, .int .u64 m4.token.target.2, .int .i64 m4.token.next, .int .i64 m4.token.all, .slice ia4 m4.token.image.length ic4]) (p := m4) hi)
    clear hb hi hz
    go_wp2_with fail
    refine (with_lit 24 bad5 16 _ gw HW.out (bad_chk.1.2.2.2.1) (fun _ _ => rfl) do5).mono ?_
    rintro e wx ⟨m5, la5, lc5, sa5, sc5, ia5, ic5, rfl, hi, hz, hb⟩
    replace HB := Lib.hid (HB.out.trans (hb.mono HB.out.size))
    replace HW := Lib.hid (HW.out.keep hb)
    replace HAL := Lib.hid (HAL.out.keep hb)
    have HZ5 := Lib.hid hz
    replace HAL := Lib.hid (HAL.out.cons (v := .agg #[.slice la5 m5.live.length lc5, .slice sa5 m5.snaps.length sc5, .int .u64 m5.token.base.1, .int .u64 m5.token.base.2, .int .u64 m5.token.target.1, .int .u64 m5.token.target.2, .int .i64 m5.token.next, .int .i64 m5.token.all, .slice ia5 m5.token.image.length ic5]) (p := m5) hi)
    clear hb hi hz
    go_wp2_with fail
    refine (with_lit 25 bad6 2 _ gw HW.out (bad_chk.1.2.2.2.2.1) (fun _ _ => rfl) do6).mono ?_
    rintro e wx ⟨m6, la6, lc6, sa6, sc6, ia6, ic6, rfl, hi, hz, hb⟩
    replace HB := Lib.hid (HB.out.trans (hb.mono HB.out.size))
    replace HW := Lib.hid (HW.out.keep hb)
    replace HAL := Lib.hid (HAL.out.keep hb)
    have HZ6 := Lib.hid hz
    replace HAL := Lib.hid (HAL.out.cons (v := .agg #[.slice la6 m6.live.length lc6, .slice sa6 m6.snaps.length sc6, .int .u64 m6.token.base.1, .int .u64 m6.token.base.2, .int .u64 m6.token.target.1, .int .u64 m6.token.target.2, .int .i64 m6.token.next, .int .i64 m6.token.all, .slice ia6 m6.token.image.length ic6]) (p := m6) hi)
    clear hb hi hz
    go_wp2_with fail
    refine (with_lit 26 bad7 2 _ gw HW.out (bad_chk.1.2.2.2.2.2.1) (fun _ _ => rfl) do7).mono ?_
    rintro e wx ⟨m7, la7, lc7, sa7, sc7, ia7, ic7, rfl, hi, hz, hb⟩
    replace HB := Lib.hid (HB.out.trans (hb.mono HB.out.size))
    replace HW := Lib.hid (HW.out.keep hb)
    replace HAL := Lib.hid (HAL.out.keep hb)
    have HZ7 := Lib.hid hz
    replace HAL := Lib.hid (HAL.out.cons (v := .agg #[.slice la7 m7.live.length lc7, .slice sa7 m7.snaps.length sc7, .int .u64 m7.token.base.1, .int .u64 m7.token.base.2, .int .u64 m7.token.target.1, .int .u64 m7.token.target.2, .int .i64 m7.token.next, .int .i64 m7.token.all, .slice ia7 m7.token.image.length ic7]) (p := m7) hi)
    clear hb hi hz
    go_wp2_with fail
    refine (with_lit 27 bad8 2 _ gw HW.out (bad_chk.1.2.2.2.2.2.2.1) (fun _ _ => rfl) do8).mono ?_
    rintro e wx ⟨m8, la8, lc8, sa8, sc8, ia8, ic8, rfl, hi, hz, hb⟩
    replace HB := Lib.hid (HB.out.trans (hb.mono HB.out.size))
    replace HW := Lib.hid (HW.out.keep hb)
    replace HAL := Lib.hid (HAL.out.keep hb)
    have HZ8 := Lib.hid hz
    replace HAL := Lib.hid (HAL.out.cons (v := .agg #[.slice la8 m8.live.length lc8, .slice sa8 m8.snaps.length sc8, .int .u64 m8.token.base.1, .int .u64 m8.token.base.2, .int .u64 m8.token.target.1, .int .u64 m8.token.target.2, .int .i64 m8.token.next, .int .i64 m8.token.all, .slice ia8 m8.token.image.length ic8]) (p := m8) hi)
    clear hb hi hz
    go_wp2_with fail
    refine (with_lit 28 bad9 2 _ gw HW.out (bad_chk.1.2.2.2.2.2.2.2.1) (fun _ _ => rfl) do9).mono ?_
    rintro e wx ⟨m9, la9, lc9, sa9, sc9, ia9, ic9, rfl, hi, hz, hb⟩
    replace HB := Lib.hid (HB.out.trans (hb.mono HB.out.size))
    replace HW := Lib.hid (HW.out.keep hb)
    replace HAL := Lib.hid (HAL.out.keep hb)
    have HZ9 := Lib.hid hz
    replace HAL := Lib.hid (HAL.out.cons (v := .agg #[.slice la9 m9.live.length lc9, .slice sa9 m9.snaps.length sc9, .int .u64 m9.token.base.1, .int .u64 m9.token.base.2, .int .u64 m9.token.target.1, .int .u64 m9.token.target.2, .int .i64 m9.token.next, .int .i64 m9.token.all, .slice ia9 m9.token.image.length ic9]) (p := m9) hi)
    clear hb hi hz
    go_wp2_with fail
    refine (with_lit 29 bad10 2 _ gw HW.out (bad_chk.1.2.2.2.2.2.2.2.2) (fun _ _ => rfl) do10).mono ?_
    rintro e wx ⟨m10, la10, lc10, sa10, sc10, ia10, ic10, rfl, hi, hz, hb⟩
    replace HB := Lib.hid (HB.out.trans (hb.mono HB.out.size))
    replace HW := Lib.hid (HW.out.keep hb)
    replace HAL := Lib.hid (HAL.out.keep hb)
    have HZ10 := Lib.hid hz
    replace HAL := Lib.hid (HAL.out.cons (v := .agg #[.slice la10 m10.live.length lc10, .slice sa10 m10.snaps.length sc10, .int .u64 m10.token.base.1, .int .u64 m10.token.base.2, .int .u64 m10.token.target.1, .int .u64 m10.token.target.2, .int .i64 m10.token.next, .int .i64 m10.token.all, .slice ia10 m10.token.image.length ic10]) (p := m10) hi)
    clear hb hi hz
    go_wp2_with fail
    refine (with_lit 30 bad11 2 _ gw HW.out (bad_chk.2.1) (fun _ _ => rfl) do11).mono ?_
    rintro e wx ⟨m11, la11, lc11, sa11, sc11, ia11, ic11, rfl, hi, hz, hb⟩
    replace HB := Lib.hid (HB.out.trans (hb.mono HB.out.size))
    replace HW := Lib.hid (HW.out.keep hb)
    replace HAL := Lib.hid (HAL.out.keep hb)
    have HZ11 := Lib.hid hz
    replace HAL := Lib.hid (HAL.out.cons (v := .agg #[.slice la11 m11.live.length lc11, .slice sa11 m11.snaps.length sc11, .int .u64 m11.token.base.1, .int .u64 m11.token.base.2, .int .u64 m11.token.target.1, .int .u64 m11.token.target.2, .int .i64 m11.token.next, .int .i64 m11.token.all, .slice ia11 m11.token.image.length ic11]) (p := m11) hi)
    clear hb hi hz
    go_wp2_with fail
    refine (with_lit 31 bad12 16 _ gw HW.out (bad_chk.2.2.1) (fun _ _ => rfl) do12).mono ?_
    rintro e wx ⟨m12, la12, lc12, sa12, sc12, ia12, ic12, rfl, hi, hz, hb⟩
    replace HB := Lib.hid (HB.out.trans (hb.mono HB.out.size))
    replace HW := Lib.hid (HW.out.keep hb)
    replace HAL := Lib.hid (HAL.out.keep hb)
    have HZ12 := Lib.hid hz
    replace HAL := Lib.hid (HAL.out.cons (v := .agg #[.slice la12 m12.live.length lc12, .slice sa12 m12.snaps.length sc12, .int .u64 m12.token.base.1, .int .u64 m12.token.base.2, .int .u64 m12.token.target.1, .int .u64 m12.token.target.2, .int .i64 m12.token.next, .int .i64 m12.token.all, .slice ia12 m12.token.image.length ic12]) (p := m12) hi)
    clear hb hi hz
    go_wp2_with fail
    refine (with_lit 32 bad13 2 _ gw HW.out (bad_chk.2.2.2.1) (fun _ _ => rfl) do13).mono ?_
    rintro e wx ⟨m13, la13, lc13, sa13, sc13, ia13, ic13, rfl, hi, hz, hb⟩
    replace HB := Lib.hid (HB.out.trans (hb.mono HB.out.size))
    replace HW := Lib.hid (HW.out.keep hb)
    replace HAL := Lib.hid (HAL.out.keep hb)
    have HZ13 := Lib.hid hz
    replace HAL := Lib.hid (HAL.out.cons (v := .agg #[.slice la13 m13.live.length lc13, .slice sa13 m13.snaps.length sc13, .int .u64 m13.token.base.1, .int .u64 m13.token.base.2, .int .u64 m13.token.target.1, .int .u64 m13.token.target.2, .int .i64 m13.token.next, .int .i64 m13.token.all, .slice ia13 m13.token.image.length ic13]) (p := m13) hi)
    clear hb hi hz
    go_wp2_with fail
    refine (with_lit 33 bad14 2 _ gw HW.out (bad_chk.2.2.2.2.1) (fun _ _ => rfl) do14).mono ?_
    rintro e wx ⟨m14, la14, lc14, sa14, sc14, ia14, ic14, rfl, hi, hz, hb⟩
    replace HB := Lib.hid (HB.out.trans (hb.mono HB.out.size))
    replace HW := Lib.hid (HW.out.keep hb)
    replace HAL := Lib.hid (HAL.out.keep hb)
    have HZ14 := Lib.hid hz
    replace HAL := Lib.hid (HAL.out.cons (v := .agg #[.slice la14 m14.live.length lc14, .slice sa14 m14.snaps.length sc14, .int .u64 m14.token.base.1, .int .u64 m14.token.base.2, .int .u64 m14.token.target.1, .int .u64 m14.token.target.2, .int .i64 m14.token.next, .int .i64 m14.token.all, .slice ia14 m14.token.image.length ic14]) (p := m14) hi)
    clear hb hi hz
    go_wp2_with fail
    refine (with_lit 34 bad15 0 _ gw HW.out (bad_chk.2.2.2.2.2.1) (fun _ _ => rfl) do15).mono ?_
    rintro e wx ⟨m15, la15, lc15, sa15, sc15, ia15, ic15, rfl, hi, hz, hb⟩
    replace HB := Lib.hid (HB.out.trans (hb.mono HB.out.size))
    replace HW := Lib.hid (HW.out.keep hb)
    replace HAL := Lib.hid (HAL.out.keep hb)
    have HZ15 := Lib.hid hz
    replace HAL := Lib.hid (HAL.out.cons (v := .agg #[.slice la15 m15.live.length lc15, .slice sa15 m15.snaps.length sc15, .int .u64 m15.token.base.1, .int .u64 m15.token.base.2, .int .u64 m15.token.target.1, .int .u64 m15.token.target.2, .int .i64 m15.token.next, .int .i64 m15.token.all, .slice ia15 m15.token.image.length ic15]) (p := m15) hi)
    clear hb hi hz
    go_wp2_with fail
    refine (with_lit 35 bad16 0 _ gw HW.out (bad_chk.2.2.2.2.2.2.1) (fun _ _ => rfl) do16).mono ?_
    rintro e wx ⟨m16, la16, lc16, sa16, sc16, ia16, ic16, rfl, hi, hz, hb⟩
    replace HB := Lib.hid (HB.out.trans (hb.mono HB.out.size))
    replace HW := Lib.hid (HW.out.keep hb)
    replace HAL := Lib.hid (HAL.out.keep hb)
    have HZ16 := Lib.hid hz
    replace HAL := Lib.hid (HAL.out.cons (v := .agg #[.slice la16 m16.live.length lc16, .slice sa16 m16.snaps.length sc16, .int .u64 m16.token.base.1, .int .u64 m16.token.base.2, .int .u64 m16.token.target.1, .int .u64 m16.token.target.2, .int .i64 m16.token.next, .int .i64 m16.token.all, .slice ia16 m16.token.image.length ic16]) (p := m16) hi)
    clear hb hi hz
    go_wp2_with fail
    refine (with_lit 36 bad17 0 _ gw HW.out (bad_chk.2.2.2.2.2.2.2.1) (fun _ _ => rfl) do17).mono ?_
    rintro e wx ⟨m17, la17, lc17, sa17, sc17, ia17, ic17, rfl, hi, hz, hb⟩
    replace HB := Lib.hid (HB.out.trans (hb.mono HB.out.size))
    replace HW := Lib.hid (HW.out.keep hb)
    replace HAL := Lib.hid (HAL.out.keep hb)
    have HZ17 := Lib.hid hz
    replace HAL := Lib.hid (HAL.out.cons (v := .agg #[.slice la17 m17.live.length lc17, .slice sa17 m17.snaps.length sc17, .int .u64 m17.token.base.1, .int .u64 m17.token.base.2, .int .u64 m17.token.target.1, .int .u64 m17.token.target.2, .int .i64 m17.token.next, .int .i64 m17.token.all, .slice ia17 m17.token.image.length ic17]) (p := m17) hi)
    clear hb hi hz
    go_wp2_with fail
    refine (with_lit 37 bad18 3 _ gw HW.out (bad_chk.2.2.2.2.2.2.2.2.1) (fun _ _ => rfl) do18).mono ?_
    rintro e wx ⟨m18, la18, lc18, sa18, sc18, ia18, ic18, rfl, hi, hz, hb⟩
    replace HB := Lib.hid (HB.out.trans (hb.mono HB.out.size))
    replace HW := Lib.hid (HW.out.keep hb)
    replace HAL := Lib.hid (HAL.out.keep hb)
    have HZ18 := Lib.hid hz
    replace HAL := Lib.hid (HAL.out.cons (v := .agg #[.slice la18 m18.live.length lc18, .slice sa18 m18.snaps.length sc18, .int .u64 m18.token.base.1, .int .u64 m18.token.base.2, .int .u64 m18.token.target.1, .int .u64 m18.token.target.2, .int .i64 m18.token.next, .int .i64 m18.token.all, .slice ia18 m18.token.image.length ic18]) (p := m18) hi)
    clear hb hi hz
    go_wp2_with fail
    refine (with_lit 38 bad19 2 _ gw HW.out (bad_chk.2.2.2.2.2.2.2.2.2) (fun _ _ => rfl) do19).mono ?_
    rintro e wx ⟨m19, la19, lc19, sa19, sc19, ia19, ic19, rfl, hi, hz, hb⟩
    replace HB := Lib.hid (HB.out.trans (hb.mono HB.out.size))
    replace HW := Lib.hid (HW.out.keep hb)
    replace HAL := Lib.hid (HAL.out.keep hb)
    have HZ19 := Lib.hid hz
    replace HAL := Lib.hid (HAL.out.cons (v := .agg #[.slice la19 m19.live.length lc19, .slice sa19 m19.snaps.length sc19, .int .u64 m19.token.base.1, .int .u64 m19.token.base.2, .int .u64 m19.token.target.1, .int .u64 m19.token.target.2, .int .i64 m19.token.next, .int .i64 m19.token.all, .slice ia19 m19.token.image.length ic19]) (p := m19) hi)
    clear hb hi hz
    obtain ⟨ie, hie, hz0, hz1⟩ : ∃ ie, Try.prog.info? 52 = some ie ∧ ie.zero = some (.agg #[.slice none 0 0, .slice none 0 0, .int .u64 0, .int .u64 0, .int .u64 0, .int .u64 0, .int .i64 0, .int .i64 0, .slice none 0 0, .int .i64 0]) ∧ ie.size = 10 := by
      have h := row_info
      cases hie : Try.prog.info? 52 with
      | none => rw [hie] at h; cases h
      | some ie =>
        rw [hie] at h
        simp only [Option.map_some, Option.some.injEq, Prod.mk.injEq] at h
        exact ⟨ie, rfl, h.1, h.2⟩
    have HIE := Lib.hid hie
    have HZ0 := Lib.hid hz0
    have HZ1 := Lib.hid hz1
    clear hie hz0 hz1
    go_wp2_with fail
    refine wp_buildSlice 53 52 18 _ rfl #[.slice la2 m2.live.length lc2, .slice sa2 m2.snaps.length sc2, .int .u64 m2.token.base.1, .int .u64 m2.token.base.2, .int .u64 m2.token.target.1, .int .u64 m2.token.target.2, .int .i64 m2.token.next, .int .i64 m2.token.all, .slice ia2 m2.token.image.length ic2, .int .i64 16, .slice la3 m3.live.length lc3, .slice sa3 m3.snaps.length sc3, .int .u64 m3.token.base.1, .int .u64 m3.token.base.2, .int .u64 m3.token.target.1, .int .u64 m3.token.target.2, .int .i64 m3.token.next, .int .i64 m3.token.all, .slice ia3 m3.token.image.length ic3, .int .i64 2, .slice la4 m4.live.length lc4, .slice sa4 m4.snaps.length sc4, .int .u64 m4.token.base.1, .int .u64 m4.token.base.2, .int .u64 m4.token.target.1, .int .u64 m4.token.target.2, .int .i64 m4.token.next, .int .i64 m4.token.all, .slice ia4 m4.token.image.length ic4, .int .i64 2, .slice la5 m5.live.length lc5, .slice sa5 m5.snaps.length sc5, .int .u64 m5.token.base.1, .int .u64 m5.token.base.2, .int .u64 m5.token.target.1, .int .u64 m5.token.target.2, .int .i64 m5.token.next, .int .i64 m5.token.all, .slice ia5 m5.token.image.length ic5, .int .i64 16, .slice la6 m6.live.length lc6, .slice sa6 m6.snaps.length sc6, .int .u64 m6.token.base.1, .int .u64 m6.token.base.2, .int .u64 m6.token.target.1, .int .u64 m6.token.target.2, .int .i64 m6.token.next, .int .i64 m6.token.all, .slice ia6 m6.token.image.length ic6, .int .i64 2, .slice la7 m7.live.length lc7, .slice sa7 m7.snaps.length sc7, .int .u64 m7.token.base.1, .int .u64 m7.token.base.2, .int .u64 m7.token.target.1, .int .u64 m7.token.target.2, .int .i64 m7.token.next, .int .i64 m7.token.all, .slice ia7 m7.token.image.length ic7, .int .i64 2, .slice la8 m8.live.length lc8, .slice sa8 m8.snaps.length sc8, .int .u64 m8.token.base.1, .int .u64 m8.token.base.2, .int .u64 m8.token.target.1, .int .u64 m8.token.target.2, .int .i64 m8.token.next, .int .i64 m8.token.all, .slice ia8 m8.token.image.length ic8, .int .i64 2, .slice la9 m9.live.length lc9, .slice sa9 m9.snaps.length sc9, .int .u64 m9.token.base.1, .int .u64 m9.token.base.2, .int .u64 m9.token.target.1, .int .u64 m9.token.target.2, .int .i64 m9.token.next, .int .i64 m9.token.all, .slice ia9 m9.token.image.length ic9, .int .i64 2, .slice la10 m10.live.length lc10, .slice sa10 m10.snaps.length sc10, .int .u64 m10.token.base.1, .int .u64 m10.token.base.2, .int .u64 m10.token.target.1, .int .u64 m10.token.target.2, .int .i64 m10.token.next, .int .i64 m10.token.all, .slice ia10 m10.token.image.length ic10, .int .i64 2, .slice la11 m11.live.length lc11, .slice sa11 m11.snaps.length sc11, .int .u64 m11.token.base.1, .int .u64 m11.token.base.2, .int .u64 m11.token.target.1, .int .u64 m11.token.target.2, .int .i64 m11.token.next, .int .i64 m11.token.all, .slice ia11 m11.token.image.length ic11, .int .i64 2, .slice la12 m12.live.length lc12, .slice sa12 m12.snaps.length sc12, .int .u64 m12.token.base.1, .int .u64 m12.token.base.2, .int .u64 m12.token.target.1, .int .u64 m12.token.target.2, .int .i64 m12.token.next, .int .i64 m12.token.all, .slice ia12 m12.token.image.length ic12, .int .i64 16, .slice la13 m13.live.length lc13, .slice sa13 m13.snaps.length sc13, .int .u64 m13.token.base.1, .int .u64 m13.token.base.2, .int .u64 m13.token.target.1, .int .u64 m13.token.target.2, .int .i64 m13.token.next, .int .i64 m13.token.all, .slice ia13 m13.token.image.length ic13, .int .i64 2, .slice la14 m14.live.length lc14, .slice sa14 m14.snaps.length sc14, .int .u64 m14.token.base.1, .int .u64 m14.token.base.2, .int .u64 m14.token.target.1, .int .u64 m14.token.target.2, .int .i64 m14.token.next, .int .i64 m14.token.all, .slice ia14 m14.token.image.length ic14, .int .i64 2, .slice la15 m15.live.length lc15, .slice sa15 m15.snaps.length sc15, .int .u64 m15.token.base.1, .int .u64 m15.token.base.2, .int .u64 m15.token.target.1, .int .u64 m15.token.target.2, .int .i64 m15.token.next, .int .i64 m15.token.all, .slice ia15 m15.token.image.length ic15, .int .i64 0, .slice la16 m16.live.length lc16, .slice sa16 m16.snaps.length sc16, .int .u64 m16.token.base.1, .int .u64 m16.token.base.2, .int .u64 m16.token.target.1, .int .u64 m16.token.target.2, .int .i64 m16.token.next, .int .i64 m16.token.all, .slice ia16 m16.token.image.length ic16, .int .i64 0, .slice la17 m17.live.length lc17, .slice sa17 m17.snaps.length sc17, .int .u64 m17.token.base.1, .int .u64 m17.token.base.2, .int .u64 m17.token.target.1, .int .u64 m17.token.target.2, .int .i64 m17.token.next, .int .i64 m17.token.all, .slice ia17 m17.token.image.length ic17, .int .i64 0, .slice la18 m18.live.length lc18, .slice sa18 m18.snaps.length sc18, .int .u64 m18.token.base.1, .int .u64 m18.token.base.2, .int .u64 m18.token.target.1, .int .u64 m18.token.target.2, .int .i64 m18.token.next, .int .i64 m18.token.all, .slice ia18 m18.token.image.length ic18, .int .i64 3, .slice la19 m19.live.length lc19, .slice sa19 m19.snaps.length sc19, .int .u64 m19.token.base.1, .int .u64 m19.token.base.2, .int .u64 m19.token.target.1, .int .u64 m19.token.target.2, .int .i64 m19.token.next, .int .i64 m19.token.all, .slice ia19 m19.token.image.length ic19, .int .i64 2] ie (.agg #[.slice none 0 0, .slice none 0 0, .int .u64 0, .int .u64 0, .int .u64 0, .int .u64 0, .int .i64 0, .int .i64 0, .slice none 0 0, .int .i64 0]) Try.underlying53 HIE.out HZ0.out (by rw [HZ1.out]; decide) (by rw [HZ1.out]; decide) (by rw [HZ1.out]; kernel_rfl) ?_
    clear HIE HZ0 HZ1
    have hb := (Below.refl wx.heap.size wx).alloc (Nat.le_refl _) (Obj.cells #[.slice la2 m2.live.length lc2, .slice sa2 m2.snaps.length sc2, .int .u64 m2.token.base.1, .int .u64 m2.token.base.2, .int .u64 m2.token.target.1, .int .u64 m2.token.target.2, .int .i64 m2.token.next, .int .i64 m2.token.all, .slice ia2 m2.token.image.length ic2, .int .i64 16, .slice la3 m3.live.length lc3, .slice sa3 m3.snaps.length sc3, .int .u64 m3.token.base.1, .int .u64 m3.token.base.2, .int .u64 m3.token.target.1, .int .u64 m3.token.target.2, .int .i64 m3.token.next, .int .i64 m3.token.all, .slice ia3 m3.token.image.length ic3, .int .i64 2, .slice la4 m4.live.length lc4, .slice sa4 m4.snaps.length sc4, .int .u64 m4.token.base.1, .int .u64 m4.token.base.2, .int .u64 m4.token.target.1, .int .u64 m4.token.target.2, .int .i64 m4.token.next, .int .i64 m4.token.all, .slice ia4 m4.token.image.length ic4, .int .i64 2, .slice la5 m5.live.length lc5, .slice sa5 m5.snaps.length sc5, .int .u64 m5.token.base.1, .int .u64 m5.token.base.2, .int .u64 m5.token.target.1, .int .u64 m5.token.target.2, .int .i64 m5.token.next, .int .i64 m5.token.all, .slice ia5 m5.token.image.length ic5, .int .i64 16, .slice la6 m6.live.length lc6, .slice sa6 m6.snaps.length sc6, .int .u64 m6.token.base.1, .int .u64 m6.token.base.2, .int .u64 m6.token.target.1, .int .u64 m6.token.target.2, .int .i64 m6.token.next, .int .i64 m6.token.all, .slice ia6 m6.token.image.length ic6, .int .i64 2, .slice la7 m7.live.length lc7, .slice sa7 m7.snaps.length sc7, .int .u64 m7.token.base.1, .int .u64 m7.token.base.2, .int .u64 m7.token.target.1, .int .u64 m7.token.target.2, .int .i64 m7.token.next, .int .i64 m7.token.all, .slice ia7 m7.token.image.length ic7, .int .i64 2, .slice la8 m8.live.length lc8, .slice sa8 m8.snaps.length sc8, .int .u64 m8.token.base.1, .int .u64 m8.token.base.2, .int .u64 m8.token.target.1, .int .u64 m8.token.target.2, .int .i64 m8.token.next, .int .i64 m8.token.all, .slice ia8 m8.token.image.length ic8, .int .i64 2, .slice la9 m9.live.length lc9, .slice sa9 m9.snaps.length sc9, .int .u64 m9.token.base.1, .int .u64 m9.token.base.2, .int .u64 m9.token.target.1, .int .u64 m9.token.target.2, .int .i64 m9.token.next, .int .i64 m9.token.all, .slice ia9 m9.token.image.length ic9, .int .i64 2, .slice la10 m10.live.length lc10, .slice sa10 m10.snaps.length sc10, .int .u64 m10.token.base.1, .int .u64 m10.token.base.2, .int .u64 m10.token.target.1, .int .u64 m10.token.target.2, .int .i64 m10.token.next, .int .i64 m10.token.all, .slice ia10 m10.token.image.length ic10, .int .i64 2, .slice la11 m11.live.length lc11, .slice sa11 m11.snaps.length sc11, .int .u64 m11.token.base.1, .int .u64 m11.token.base.2, .int .u64 m11.token.target.1, .int .u64 m11.token.target.2, .int .i64 m11.token.next, .int .i64 m11.token.all, .slice ia11 m11.token.image.length ic11, .int .i64 2, .slice la12 m12.live.length lc12, .slice sa12 m12.snaps.length sc12, .int .u64 m12.token.base.1, .int .u64 m12.token.base.2, .int .u64 m12.token.target.1, .int .u64 m12.token.target.2, .int .i64 m12.token.next, .int .i64 m12.token.all, .slice ia12 m12.token.image.length ic12, .int .i64 16, .slice la13 m13.live.length lc13, .slice sa13 m13.snaps.length sc13, .int .u64 m13.token.base.1, .int .u64 m13.token.base.2, .int .u64 m13.token.target.1, .int .u64 m13.token.target.2, .int .i64 m13.token.next, .int .i64 m13.token.all, .slice ia13 m13.token.image.length ic13, .int .i64 2, .slice la14 m14.live.length lc14, .slice sa14 m14.snaps.length sc14, .int .u64 m14.token.base.1, .int .u64 m14.token.base.2, .int .u64 m14.token.target.1, .int .u64 m14.token.target.2, .int .i64 m14.token.next, .int .i64 m14.token.all, .slice ia14 m14.token.image.length ic14, .int .i64 2, .slice la15 m15.live.length lc15, .slice sa15 m15.snaps.length sc15, .int .u64 m15.token.base.1, .int .u64 m15.token.base.2, .int .u64 m15.token.target.1, .int .u64 m15.token.target.2, .int .i64 m15.token.next, .int .i64 m15.token.all, .slice ia15 m15.token.image.length ic15, .int .i64 0, .slice la16 m16.live.length lc16, .slice sa16 m16.snaps.length sc16, .int .u64 m16.token.base.1, .int .u64 m16.token.base.2, .int .u64 m16.token.target.1, .int .u64 m16.token.target.2, .int .i64 m16.token.next, .int .i64 m16.token.all, .slice ia16 m16.token.image.length ic16, .int .i64 0, .slice la17 m17.live.length lc17, .slice sa17 m17.snaps.length sc17, .int .u64 m17.token.base.1, .int .u64 m17.token.base.2, .int .u64 m17.token.target.1, .int .u64 m17.token.target.2, .int .i64 m17.token.next, .int .i64 m17.token.all, .slice ia17 m17.token.image.length ic17, .int .i64 0, .slice la18 m18.live.length lc18, .slice sa18 m18.snaps.length sc18, .int .u64 m18.token.base.1, .int .u64 m18.token.base.2, .int .u64 m18.token.target.1, .int .u64 m18.token.target.2, .int .i64 m18.token.next, .int .i64 m18.token.all, .slice ia18 m18.token.image.length ic18, .int .i64 3, .slice la19 m19.live.length lc19, .slice sa19 m19.snaps.length sc19, .int .u64 m19.token.base.1, .int .u64 m19.token.base.2, .int .u64 m19.token.target.1, .int .u64 m19.token.target.2, .int .i64 m19.token.next, .int .i64 m19.token.all, .slice ia19 m19.token.image.length ic19, .int .i64 2] 52)
    have hkt := Blk.new wx 52 #[.slice la2 m2.live.length lc2, .slice sa2 m2.snaps.length sc2, .int .u64 m2.token.base.1, .int .u64 m2.token.base.2, .int .u64 m2.token.target.1, .int .u64 m2.token.target.2, .int .i64 m2.token.next, .int .i64 m2.token.all, .slice ia2 m2.token.image.length ic2, .int .i64 16, .slice la3 m3.live.length lc3, .slice sa3 m3.snaps.length sc3, .int .u64 m3.token.base.1, .int .u64 m3.token.base.2, .int .u64 m3.token.target.1, .int .u64 m3.token.target.2, .int .i64 m3.token.next, .int .i64 m3.token.all, .slice ia3 m3.token.image.length ic3, .int .i64 2, .slice la4 m4.live.length lc4, .slice sa4 m4.snaps.length sc4, .int .u64 m4.token.base.1, .int .u64 m4.token.base.2, .int .u64 m4.token.target.1, .int .u64 m4.token.target.2, .int .i64 m4.token.next, .int .i64 m4.token.all, .slice ia4 m4.token.image.length ic4, .int .i64 2, .slice la5 m5.live.length lc5, .slice sa5 m5.snaps.length sc5, .int .u64 m5.token.base.1, .int .u64 m5.token.base.2, .int .u64 m5.token.target.1, .int .u64 m5.token.target.2, .int .i64 m5.token.next, .int .i64 m5.token.all, .slice ia5 m5.token.image.length ic5, .int .i64 16, .slice la6 m6.live.length lc6, .slice sa6 m6.snaps.length sc6, .int .u64 m6.token.base.1, .int .u64 m6.token.base.2, .int .u64 m6.token.target.1, .int .u64 m6.token.target.2, .int .i64 m6.token.next, .int .i64 m6.token.all, .slice ia6 m6.token.image.length ic6, .int .i64 2, .slice la7 m7.live.length lc7, .slice sa7 m7.snaps.length sc7, .int .u64 m7.token.base.1, .int .u64 m7.token.base.2, .int .u64 m7.token.target.1, .int .u64 m7.token.target.2, .int .i64 m7.token.next, .int .i64 m7.token.all, .slice ia7 m7.token.image.length ic7, .int .i64 2, .slice la8 m8.live.length lc8, .slice sa8 m8.snaps.length sc8, .int .u64 m8.token.base.1, .int .u64 m8.token.base.2, .int .u64 m8.token.target.1, .int .u64 m8.token.target.2, .int .i64 m8.token.next, .int .i64 m8.token.all, .slice ia8 m8.token.image.length ic8, .int .i64 2, .slice la9 m9.live.length lc9, .slice sa9 m9.snaps.length sc9, .int .u64 m9.token.base.1, .int .u64 m9.token.base.2, .int .u64 m9.token.target.1, .int .u64 m9.token.target.2, .int .i64 m9.token.next, .int .i64 m9.token.all, .slice ia9 m9.token.image.length ic9, .int .i64 2, .slice la10 m10.live.length lc10, .slice sa10 m10.snaps.length sc10, .int .u64 m10.token.base.1, .int .u64 m10.token.base.2, .int .u64 m10.token.target.1, .int .u64 m10.token.target.2, .int .i64 m10.token.next, .int .i64 m10.token.all, .slice ia10 m10.token.image.length ic10, .int .i64 2, .slice la11 m11.live.length lc11, .slice sa11 m11.snaps.length sc11, .int .u64 m11.token.base.1, .int .u64 m11.token.base.2, .int .u64 m11.token.target.1, .int .u64 m11.token.target.2, .int .i64 m11.token.next, .int .i64 m11.token.all, .slice ia11 m11.token.image.length ic11, .int .i64 2, .slice la12 m12.live.length lc12, .slice sa12 m12.snaps.length sc12, .int .u64 m12.token.base.1, .int .u64 m12.token.base.2, .int .u64 m12.token.target.1, .int .u64 m12.token.target.2, .int .i64 m12.token.next, .int .i64 m12.token.all, .slice ia12 m12.token.image.length ic12, .int .i64 16, .slice la13 m13.live.length lc13, .slice sa13 m13.snaps.length sc13, .int .u64 m13.token.base.1, .int .u64 m13.token.base.2, .int .u64 m13.token.target.1, .int .u64 m13.token.target.2, .int .i64 m13.token.next, .int .i64 m13.token.all, .slice ia13 m13.token.image.length ic13, .int .i64 2, .slice la14 m14.live.length lc14, .slice sa14 m14.snaps.length sc14, .int .u64 m14.token.base.1, .int .u64 m14.token.base.2, .int .u64 m14.token.target.1, .int .u64 m14.token.target.2, .int .i64 m14.token.next, .int .i64 m14.token.all, .slice ia14 m14.token.image.length ic14, .int .i64 2, .slice la15 m15.live.length lc15, .slice sa15 m15.snaps.length sc15, .int .u64 m15.token.base.1, .int .u64 m15.token.base.2, .int .u64 m15.token.target.1, .int .u64 m15.token.target.2, .int .i64 m15.token.next, .int .i64 m15.token.all, .slice ia15 m15.token.image.length ic15, .int .i64 0, .slice la16 m16.live.length lc16, .slice sa16 m16.snaps.length sc16, .int .u64 m16.token.base.1, .int .u64 m16.token.base.2, .int .u64 m16.token.target.1, .int .u64 m16.token.target.2, .int .i64 m16.token.next, .int .i64 m16.token.all, .slice ia16 m16.token.image.length ic16, .int .i64 0, .slice la17 m17.live.length lc17, .slice sa17 m17.snaps.length sc17, .int .u64 m17.token.base.1, .int .u64 m17.token.base.2, .int .u64 m17.token.target.1, .int .u64 m17.token.target.2, .int .i64 m17.token.next, .int .i64 m17.token.all, .slice ia17 m17.token.image.length ic17, .int .i64 0, .slice la18 m18.live.length lc18, .slice sa18 m18.snaps.length sc18, .int .u64 m18.token.base.1, .int .u64 m18.token.base.2, .int .u64 m18.token.target.1, .int .u64 m18.token.target.2, .int .i64 m18.token.next, .int .i64 m18.token.all, .slice ia18 m18.token.image.length ic18, .int .i64 3, .slice la19 m19.live.length lc19, .slice sa19 m19.snaps.length sc19, .int .u64 m19.token.base.1, .int .u64 m19.token.base.2, .int .u64 m19.token.target.1, .int .u64 m19.token.target.2, .int .i64 m19.token.next, .int .i64 m19.token.all, .slice ia19 m19.token.image.length ic19, .int .i64 2]
    have HRB := Lib.hid (show ∀ k, k < 18 → RowB (wx.alloc (Obj.cells #[.slice la2 m2.live.length lc2, .slice sa2 m2.snaps.length sc2, .int .u64 m2.token.base.1, .int .u64 m2.token.base.2, .int .u64 m2.token.target.1, .int .u64 m2.token.target.2, .int .i64 m2.token.next, .int .i64 m2.token.all, .slice ia2 m2.token.image.length ic2, .int .i64 16, .slice la3 m3.live.length lc3, .slice sa3 m3.snaps.length sc3, .int .u64 m3.token.base.1, .int .u64 m3.token.base.2, .int .u64 m3.token.target.1, .int .u64 m3.token.target.2, .int .i64 m3.token.next, .int .i64 m3.token.all, .slice ia3 m3.token.image.length ic3, .int .i64 2, .slice la4 m4.live.length lc4, .slice sa4 m4.snaps.length sc4, .int .u64 m4.token.base.1, .int .u64 m4.token.base.2, .int .u64 m4.token.target.1, .int .u64 m4.token.target.2, .int .i64 m4.token.next, .int .i64 m4.token.all, .slice ia4 m4.token.image.length ic4, .int .i64 2, .slice la5 m5.live.length lc5, .slice sa5 m5.snaps.length sc5, .int .u64 m5.token.base.1, .int .u64 m5.token.base.2, .int .u64 m5.token.target.1, .int .u64 m5.token.target.2, .int .i64 m5.token.next, .int .i64 m5.token.all, .slice ia5 m5.token.image.length ic5, .int .i64 16, .slice la6 m6.live.length lc6, .slice sa6 m6.snaps.length sc6, .int .u64 m6.token.base.1, .int .u64 m6.token.base.2, .int .u64 m6.token.target.1, .int .u64 m6.token.target.2, .int .i64 m6.token.next, .int .i64 m6.token.all, .slice ia6 m6.token.image.length ic6, .int .i64 2, .slice la7 m7.live.length lc7, .slice sa7 m7.snaps.length sc7, .int .u64 m7.token.base.1, .int .u64 m7.token.base.2, .int .u64 m7.token.target.1, .int .u64 m7.token.target.2, .int .i64 m7.token.next, .int .i64 m7.token.all, .slice ia7 m7.token.image.length ic7, .int .i64 2, .slice la8 m8.live.length lc8, .slice sa8 m8.snaps.length sc8, .int .u64 m8.token.base.1, .int .u64 m8.token.base.2, .int .u64 m8.token.target.1, .int .u64 m8.token.target.2, .int .i64 m8.token.next, .int .i64 m8.token.all, .slice ia8 m8.token.image.length ic8, .int .i64 2, .slice la9 m9.live.length lc9, .slice sa9 m9.snaps.length sc9, .int .u64 m9.token.base.1, .int .u64 m9.token.base.2, .int .u64 m9.token.target.1, .int .u64 m9.token.target.2, .int .i64 m9.token.next, .int .i64 m9.token.all, .slice ia9 m9.token.image.length ic9, .int .i64 2, .slice la10 m10.live.length lc10, .slice sa10 m10.snaps.length sc10, .int .u64 m10.token.base.1, .int .u64 m10.token.base.2, .int .u64 m10.token.target.1, .int .u64 m10.token.target.2, .int .i64 m10.token.next, .int .i64 m10.token.all, .slice ia10 m10.token.image.length ic10, .int .i64 2, .slice la11 m11.live.length lc11, .slice sa11 m11.snaps.length sc11, .int .u64 m11.token.base.1, .int .u64 m11.token.base.2, .int .u64 m11.token.target.1, .int .u64 m11.token.target.2, .int .i64 m11.token.next, .int .i64 m11.token.all, .slice ia11 m11.token.image.length ic11, .int .i64 2, .slice la12 m12.live.length lc12, .slice sa12 m12.snaps.length sc12, .int .u64 m12.token.base.1, .int .u64 m12.token.base.2, .int .u64 m12.token.target.1, .int .u64 m12.token.target.2, .int .i64 m12.token.next, .int .i64 m12.token.all, .slice ia12 m12.token.image.length ic12, .int .i64 16, .slice la13 m13.live.length lc13, .slice sa13 m13.snaps.length sc13, .int .u64 m13.token.base.1, .int .u64 m13.token.base.2, .int .u64 m13.token.target.1, .int .u64 m13.token.target.2, .int .i64 m13.token.next, .int .i64 m13.token.all, .slice ia13 m13.token.image.length ic13, .int .i64 2, .slice la14 m14.live.length lc14, .slice sa14 m14.snaps.length sc14, .int .u64 m14.token.base.1, .int .u64 m14.token.base.2, .int .u64 m14.token.target.1, .int .u64 m14.token.target.2, .int .i64 m14.token.next, .int .i64 m14.token.all, .slice ia14 m14.token.image.length ic14, .int .i64 2, .slice la15 m15.live.length lc15, .slice sa15 m15.snaps.length sc15, .int .u64 m15.token.base.1, .int .u64 m15.token.base.2, .int .u64 m15.token.target.1, .int .u64 m15.token.target.2, .int .i64 m15.token.next, .int .i64 m15.token.all, .slice ia15 m15.token.image.length ic15, .int .i64 0, .slice la16 m16.live.length lc16, .slice sa16 m16.snaps.length sc16, .int .u64 m16.token.base.1, .int .u64 m16.token.base.2, .int .u64 m16.token.target.1, .int .u64 m16.token.target.2, .int .i64 m16.token.next, .int .i64 m16.token.all, .slice ia16 m16.token.image.length ic16, .int .i64 0, .slice la17 m17.live.length lc17, .slice sa17 m17.snaps.length sc17, .int .u64 m17.token.base.1, .int .u64 m17.token.base.2, .int .u64 m17.token.target.1, .int .u64 m17.token.target.2, .int .i64 m17.token.next, .int .i64 m17.token.all, .slice ia17 m17.token.image.length ic17, .int .i64 0, .slice la18 m18.live.length lc18, .slice sa18 m18.snaps.length sc18, .int .u64 m18.token.base.1, .int .u64 m18.token.base.2, .int .u64 m18.token.target.1, .int .u64 m18.token.target.2, .int .i64 m18.token.next, .int .i64 m18.token.all, .slice ia18 m18.token.image.length ic18, .int .i64 3, .slice la19 m19.live.length lc19, .slice sa19 m19.snaps.length sc19, .int .u64 m19.token.base.1, .int .u64 m19.token.base.2, .int .u64 m19.token.target.1, .int .u64 m19.token.target.2, .int .i64 m19.token.next, .int .i64 m19.token.all, .slice ia19 m19.token.image.length ic19, .int .i64 2] 52)) wx.heap.size k from fun k hk => by
      have hal := HAL.out.keep hb
      match k, hk with
      | 0, _ => exact ⟨m2, la2, lc2, sa2, sc2, ia2, ic2, 16, ⟨hkt.cell 0, hkt.cell 1, hkt.cell 2, hkt.cell 3, hkt.cell 4, hkt.cell 5, hkt.cell 6, hkt.cell 7, hkt.cell 8, hkt.cell 9⟩, hal (.agg #[.slice la2 m2.live.length lc2, .slice sa2 m2.snaps.length sc2, .int .u64 m2.token.base.1, .int .u64 m2.token.base.2, .int .u64 m2.token.target.1, .int .u64 m2.token.target.2, .int .i64 m2.token.next, .int .i64 m2.token.all, .slice ia2 m2.token.image.length ic2], m2) (List.mem_of_getElem? (i := 17) rfl), HZ2.out⟩
      | 1, _ => exact ⟨m3, la3, lc3, sa3, sc3, ia3, ic3, 2, ⟨hkt.cell 10, hkt.cell 11, hkt.cell 12, hkt.cell 13, hkt.cell 14, hkt.cell 15, hkt.cell 16, hkt.cell 17, hkt.cell 18, hkt.cell 19⟩, hal (.agg #[.slice la3 m3.live.length lc3, .slice sa3 m3.snaps.length sc3, .int .u64 m3.token.base.1, .int .u64 m3.token.base.2, .int .u64 m3.token.target.1, .int .u64 m3.token.target.2, .int .i64 m3.token.next, .int .i64 m3.token.all, .slice ia3 m3.token.image.length ic3], m3) (List.mem_of_getElem? (i := 16) rfl), HZ3.out⟩
      | 2, _ => exact ⟨m4, la4, lc4, sa4, sc4, ia4, ic4, 2, ⟨hkt.cell 20, hkt.cell 21, hkt.cell 22, hkt.cell 23, hkt.cell 24, hkt.cell 25, hkt.cell 26, hkt.cell 27, hkt.cell 28, hkt.cell 29⟩, hal (.agg #[.slice la4 m4.live.length lc4, .slice sa4 m4.snaps.length sc4, .int .u64 m4.token.base.1, .int .u64 m4.token.base.2, .int .u64 m4.token.target.1, .int .u64 m4.token.target.2, .int .i64 m4.token.next, .int .i64 m4.token.all, .slice ia4 m4.token.image.length ic4], m4) (List.mem_of_getElem? (i := 15) rfl), HZ4.out⟩
      | 3, _ => exact ⟨m5, la5, lc5, sa5, sc5, ia5, ic5, 16, ⟨hkt.cell 30, hkt.cell 31, hkt.cell 32, hkt.cell 33, hkt.cell 34, hkt.cell 35, hkt.cell 36, hkt.cell 37, hkt.cell 38, hkt.cell 39⟩, hal (.agg #[.slice la5 m5.live.length lc5, .slice sa5 m5.snaps.length sc5, .int .u64 m5.token.base.1, .int .u64 m5.token.base.2, .int .u64 m5.token.target.1, .int .u64 m5.token.target.2, .int .i64 m5.token.next, .int .i64 m5.token.all, .slice ia5 m5.token.image.length ic5], m5) (List.mem_of_getElem? (i := 14) rfl), HZ5.out⟩
      | 4, _ => exact ⟨m6, la6, lc6, sa6, sc6, ia6, ic6, 2, ⟨hkt.cell 40, hkt.cell 41, hkt.cell 42, hkt.cell 43, hkt.cell 44, hkt.cell 45, hkt.cell 46, hkt.cell 47, hkt.cell 48, hkt.cell 49⟩, hal (.agg #[.slice la6 m6.live.length lc6, .slice sa6 m6.snaps.length sc6, .int .u64 m6.token.base.1, .int .u64 m6.token.base.2, .int .u64 m6.token.target.1, .int .u64 m6.token.target.2, .int .i64 m6.token.next, .int .i64 m6.token.all, .slice ia6 m6.token.image.length ic6], m6) (List.mem_of_getElem? (i := 13) rfl), HZ6.out⟩
      | 5, _ => exact ⟨m7, la7, lc7, sa7, sc7, ia7, ic7, 2, ⟨hkt.cell 50, hkt.cell 51, hkt.cell 52, hkt.cell 53, hkt.cell 54, hkt.cell 55, hkt.cell 56, hkt.cell 57, hkt.cell 58, hkt.cell 59⟩, hal (.agg #[.slice la7 m7.live.length lc7, .slice sa7 m7.snaps.length sc7, .int .u64 m7.token.base.1, .int .u64 m7.token.base.2, .int .u64 m7.token.target.1, .int .u64 m7.token.target.2, .int .i64 m7.token.next, .int .i64 m7.token.all, .slice ia7 m7.token.image.length ic7], m7) (List.mem_of_getElem? (i := 12) rfl), HZ7.out⟩
      | 6, _ => exact ⟨m8, la8, lc8, sa8, sc8, ia8, ic8, 2, ⟨hkt.cell 60, hkt.cell 61, hkt.cell 62, hkt.cell 63, hkt.cell 64, hkt.cell 65, hkt.cell 66, hkt.cell 67, hkt.cell 68, hkt.cell 69⟩, hal (.agg #[.slice la8 m8.live.length lc8, .slice sa8 m8.snaps.length sc8, .int .u64 m8.token.base.1, .int .u64 m8.token.base.2, .int .u64 m8.token.target.1, .int .u64 m8.token.target.2, .int .i64 m8.token.next, .int .i64 m8.token.all, .slice ia8 m8.token.image.length ic8], m8) (List.mem_of_getElem? (i := 11) rfl), HZ8.out⟩
      | 7, _ => exact ⟨m9, la9, lc9, sa9, sc9, ia9, ic9, 2, ⟨hkt.cell 70, hkt.cell 71, hkt.cell 72, hkt.cell 73, hkt.cell 74, hkt.cell 75, hkt.cell 76, hkt.cell 77, hkt.cell 78, hkt.cell 79⟩, hal (.agg #[.slice la9 m9.live.length lc9, .slice sa9 m9.snaps.length sc9, .int .u64 m9.token.base.1, .int .u64 m9.token.base.2, .int .u64 m9.token.target.1, .int .u64 m9.token.target.2, .int .i64 m9.token.next, .int .i64 m9.token.all, .slice ia9 m9.token.image.length ic9], m9) (List.mem_of_getElem? (i := 10) rfl), HZ9.out⟩
      | 8, _ => exact ⟨m10, la10, lc10, sa10, sc10, ia10, ic10, 2, ⟨hkt.cell 80, hkt.cell 81, hkt.cell 82, hkt.cell 83, hkt.cell 84, hkt.cell 85, hkt.cell 86, hkt.cell 87, hkt.cell 88, hkt.cell 89⟩, hal (.agg #[.slice la10 m10.live.length lc10, .slice sa10 m10.snaps.length sc10, .int .u64 m10.token.base.1, .int .u64 m10.token.base.2, .int .u64 m10.token.target.1, .int .u64 m10.token.target.2, .int .i64 m10.token.next, .int .i64 m10.token.all, .slice ia10 m10.token.image.length ic10], m10) (List.mem_of_getElem? (i := 9) rfl), HZ10.out⟩
      | 9, _ => exact ⟨m11, la11, lc11, sa11, sc11, ia11, ic11, 2, ⟨hkt.cell 90, hkt.cell 91, hkt.cell 92, hkt.cell 93, hkt.cell 94, hkt.cell 95, hkt.cell 96, hkt.cell 97, hkt.cell 98, hkt.cell 99⟩, hal (.agg #[.slice la11 m11.live.length lc11, .slice sa11 m11.snaps.length sc11, .int .u64 m11.token.base.1, .int .u64 m11.token.base.2, .int .u64 m11.token.target.1, .int .u64 m11.token.target.2, .int .i64 m11.token.next, .int .i64 m11.token.all, .slice ia11 m11.token.image.length ic11], m11) (List.mem_of_getElem? (i := 8) rfl), HZ11.out⟩
      | 10, _ => exact ⟨m12, la12, lc12, sa12, sc12, ia12, ic12, 16, ⟨hkt.cell 100, hkt.cell 101, hkt.cell 102, hkt.cell 103, hkt.cell 104, hkt.cell 105, hkt.cell 106, hkt.cell 107, hkt.cell 108, hkt.cell 109⟩, hal (.agg #[.slice la12 m12.live.length lc12, .slice sa12 m12.snaps.length sc12, .int .u64 m12.token.base.1, .int .u64 m12.token.base.2, .int .u64 m12.token.target.1, .int .u64 m12.token.target.2, .int .i64 m12.token.next, .int .i64 m12.token.all, .slice ia12 m12.token.image.length ic12], m12) (List.mem_of_getElem? (i := 7) rfl), HZ12.out⟩
      | 11, _ => exact ⟨m13, la13, lc13, sa13, sc13, ia13, ic13, 2, ⟨hkt.cell 110, hkt.cell 111, hkt.cell 112, hkt.cell 113, hkt.cell 114, hkt.cell 115, hkt.cell 116, hkt.cell 117, hkt.cell 118, hkt.cell 119⟩, hal (.agg #[.slice la13 m13.live.length lc13, .slice sa13 m13.snaps.length sc13, .int .u64 m13.token.base.1, .int .u64 m13.token.base.2, .int .u64 m13.token.target.1, .int .u64 m13.token.target.2, .int .i64 m13.token.next, .int .i64 m13.token.all, .slice ia13 m13.token.image.length ic13], m13) (List.mem_of_getElem? (i := 6) rfl), HZ13.out⟩
      | 12, _ => exact ⟨m14, la14, lc14, sa14, sc14, ia14, ic14, 2, ⟨hkt.cell 120, hkt.cell 121, hkt.cell 122, hkt.cell 123, hkt.cell 124, hkt.cell 125, hkt.cell 126, hkt.cell 127, hkt.cell 128, hkt.cell 129⟩, hal (.agg #[.slice la14 m14.live.length lc14, .slice sa14 m14.snaps.length sc14, .int .u64 m14.token.base.1, .int .u64 m14.token.base.2, .int .u64 m14.token.target.1, .int .u64 m14.token.target.2, .int .i64 m14.token.next, .int .i64 m14.token.all, .slice ia14 m14.token.image.length ic14], m14) (List.mem_of_getElem? (i := 5) rfl), HZ14.out⟩
      | 13, _ => exact ⟨m15, la15, lc15, sa15, sc15, ia15, ic15, 0, ⟨hkt.cell 130, hkt.cell 131, hkt.cell 132, hkt.cell 133, hkt.cell 134, hkt.cell 135, hkt.cell 136, hkt.cell 137, hkt.cell 138, hkt.cell 139⟩, hal (.agg #[.slice la15 m15.live.length lc15, .slice sa15 m15.snaps.length sc15, .int .u64 m15.token.base.1, .int .u64 m15.token.base.2, .int .u64 m15.token.target.1, .int .u64 m15.token.target.2, .int .i64 m15.token.next, .int .i64 m15.token.all, .slice ia15 m15.token.image.length ic15], m15) (List.mem_of_getElem? (i := 4) rfl), HZ15.out⟩
      | 14, _ => exact ⟨m16, la16, lc16, sa16, sc16, ia16, ic16, 0, ⟨hkt.cell 140, hkt.cell 141, hkt.cell 142, hkt.cell 143, hkt.cell 144, hkt.cell 145, hkt.cell 146, hkt.cell 147, hkt.cell 148, hkt.cell 149⟩, hal (.agg #[.slice la16 m16.live.length lc16, .slice sa16 m16.snaps.length sc16, .int .u64 m16.token.base.1, .int .u64 m16.token.base.2, .int .u64 m16.token.target.1, .int .u64 m16.token.target.2, .int .i64 m16.token.next, .int .i64 m16.token.all, .slice ia16 m16.token.image.length ic16], m16) (List.mem_of_getElem? (i := 3) rfl), HZ16.out⟩
      | 15, _ => exact ⟨m17, la17, lc17, sa17, sc17, ia17, ic17, 0, ⟨hkt.cell 150, hkt.cell 151, hkt.cell 152, hkt.cell 153, hkt.cell 154, hkt.cell 155, hkt.cell 156, hkt.cell 157, hkt.cell 158, hkt.cell 159⟩, hal (.agg #[.slice la17 m17.live.length lc17, .slice sa17 m17.snaps.length sc17, .int .u64 m17.token.base.1, .int .u64 m17.token.base.2, .int .u64 m17.token.target.1, .int .u64 m17.token.target.2, .int .i64 m17.token.next, .int .i64 m17.token.all, .slice ia17 m17.token.image.length ic17], m17) (List.mem_of_getElem? (i := 2) rfl), HZ17.out⟩
      | 16, _ => exact ⟨m18, la18, lc18, sa18, sc18, ia18, ic18, 3, ⟨hkt.cell 160, hkt.cell 161, hkt.cell 162, hkt.cell 163, hkt.cell 164, hkt.cell 165, hkt.cell 166, hkt.cell 167, hkt.cell 168, hkt.cell 169⟩, hal (.agg #[.slice la18 m18.live.length lc18, .slice sa18 m18.snaps.length sc18, .int .u64 m18.token.base.1, .int .u64 m18.token.base.2, .int .u64 m18.token.target.1, .int .u64 m18.token.target.2, .int .i64 m18.token.next, .int .i64 m18.token.all, .slice ia18 m18.token.image.length ic18], m18) (List.mem_of_getElem? (i := 1) rfl), HZ18.out⟩
      | 17, _ => exact ⟨m19, la19, lc19, sa19, sc19, ia19, ic19, 2, ⟨hkt.cell 170, hkt.cell 171, hkt.cell 172, hkt.cell 173, hkt.cell 174, hkt.cell 175, hkt.cell 176, hkt.cell 177, hkt.cell 178, hkt.cell 179⟩, hal (.agg #[.slice la19 m19.live.length lc19, .slice sa19 m19.snaps.length sc19, .int .u64 m19.token.base.1, .int .u64 m19.token.base.2, .int .u64 m19.token.target.1, .int .u64 m19.token.target.2, .int .i64 m19.token.next, .int .i64 m19.token.all, .slice ia19 m19.token.image.length ic19], m19) (List.mem_of_getElem? (i := 0) rfl), HZ19.out⟩
      | n + 18, hk => exact absurd hk (by omega))
    replace HB := Lib.hid (HB.out.trans (hb.mono HB.out.size))
    replace HW := Lib.hid (HW.out.keep hb)
    clear hb hkt HAL HZ2 HZ3 HZ4 HZ5 HZ6 HZ7 HZ8 HZ9 HZ10 HZ11 HZ12 HZ13 HZ14 HZ15 HZ16 HZ17 HZ18 HZ19
    generalize wx.heap.size = gt at *
    generalize wx.alloc (Obj.cells #[.slice la2 m2.live.length lc2, .slice sa2 m2.snaps.length sc2, .int .u64 m2.token.base.1, .int .u64 m2.token.base.2, .int .u64 m2.token.target.1, .int .u64 m2.token.target.2, .int .i64 m2.token.next, .int .i64 m2.token.all, .slice ia2 m2.token.image.length ic2, .int .i64 16, .slice la3 m3.live.length lc3, .slice sa3 m3.snaps.length sc3, .int .u64 m3.token.base.1, .int .u64 m3.token.base.2, .int .u64 m3.token.target.1, .int .u64 m3.token.target.2, .int .i64 m3.token.next, .int .i64 m3.token.all, .slice ia3 m3.token.image.length ic3, .int .i64 2, .slice la4 m4.live.length lc4, .slice sa4 m4.snaps.length sc4, .int .u64 m4.token.base.1, .int .u64 m4.token.base.2, .int .u64 m4.token.target.1, .int .u64 m4.token.target.2, .int .i64 m4.token.next, .int .i64 m4.token.all, .slice ia4 m4.token.image.length ic4, .int .i64 2, .slice la5 m5.live.length lc5, .slice sa5 m5.snaps.length sc5, .int .u64 m5.token.base.1, .int .u64 m5.token.base.2, .int .u64 m5.token.target.1, .int .u64 m5.token.target.2, .int .i64 m5.token.next, .int .i64 m5.token.all, .slice ia5 m5.token.image.length ic5, .int .i64 16, .slice la6 m6.live.length lc6, .slice sa6 m6.snaps.length sc6, .int .u64 m6.token.base.1, .int .u64 m6.token.base.2, .int .u64 m6.token.target.1, .int .u64 m6.token.target.2, .int .i64 m6.token.next, .int .i64 m6.token.all, .slice ia6 m6.token.image.length ic6, .int .i64 2, .slice la7 m7.live.length lc7, .slice sa7 m7.snaps.length sc7, .int .u64 m7.token.base.1, .int .u64 m7.token.base.2, .int .u64 m7.token.target.1, .int .u64 m7.token.target.2, .int .i64 m7.token.next, .int .i64 m7.token.all, .slice ia7 m7.token.image.length ic7, .int .i64 2, .slice la8 m8.live.length lc8, .slice sa8 m8.snaps.length sc8, .int .u64 m8.token.base.1, .int .u64 m8.token.base.2, .int .u64 m8.token.target.1, .int .u64 m8.token.target.2, .int .i64 m8.token.next, .int .i64 m8.token.all, .slice ia8 m8.token.image.length ic8, .int .i64 2, .slice la9 m9.live.length lc9, .slice sa9 m9.snaps.length sc9, .int .u64 m9.token.base.1, .int .u64 m9.token.base.2, .int .u64 m9.token.target.1, .int .u64 m9.token.target.2, .int .i64 m9.token.next, .int .i64 m9.token.all, .slice ia9 m9.token.image.length ic9, .int .i64 2, .slice la10 m10.live.length lc10, .slice sa10 m10.snaps.length sc10, .int .u64 m10.token.base.1, .int .u64 m10.token.base.2, .int .u64 m10.token.target.1, .int .u64 m10.token.target.2, .int .i64 m10.token.next, .int .i64 m10.token.all, .slice ia10 m10.token.image.length ic10, .int .i64 2, .slice la11 m11.live.length lc11, .slice sa11 m11.snaps.length sc11, .int .u64 m11.token.base.1, .int .u64 m11.token.base.2, .int .u64 m11.token.target.1, .int .u64 m11.token.target.2, .int .i64 m11.token.next, .int .i64 m11.token.all, .slice ia11 m11.token.image.length ic11, .int .i64 2, .slice la12 m12.live.length lc12, .slice sa12 m12.snaps.length sc12, .int .u64 m12.token.base.1, .int .u64 m12.token.base.2, .int .u64 m12.token.target.1, .int .u64 m12.token.target.2, .int .i64 m12.token.next, .int .i64 m12.token.all, .slice ia12 m12.token.image.length ic12, .int .i64 16, .slice la13 m13.live.length lc13, .slice sa13 m13.snaps.length sc13, .int .u64 m13.token.base.1, .int .u64 m13.token.base.2, .int .u64 m13.token.target.1, .int .u64 m13.token.target.2, .int .i64 m13.token.next, .int .i64 m13.token.all, .slice ia13 m13.token.image.length ic13, .int .i64 2, .slice la14 m14.live.length lc14, .slice sa14 m14.snaps.length sc14, .int .u64 m14.token.base.1, .int .u64 m14.token.base.2, .int .u64 m14.token.target.1, .int .u64 m14.token.target.2, .int .i64 m14.token.next, .int .i64 m14.token.all, .slice ia14 m14.token.image.length ic14, .int .i64 2, .slice la15 m15.live.length lc15, .slice sa15 m15.snaps.length sc15, .int .u64 m15.token.base.1, .int .u64 m15.token.base.2, .int .u64 m15.token.target.1, .int .u64 m15.token.target.2, .int .i64 m15.token.next, .int .i64 m15.token.all, .slice ia15 m15.token.image.length ic15, .int .i64 0, .slice la16 m16.live.length lc16, .slice sa16 m16.snaps.length sc16, .int .u64 m16.token.base.1, .int .u64 m16.token.base.2, .int .u64 m16.token.target.1, .int .u64 m16.token.target.2, .int .i64 m16.token.next, .int .i64 m16.token.all, .slice ia16 m16.token.image.length ic16, .int .i64 0, .slice la17 m17.live.length lc17, .slice sa17 m17.snaps.length sc17, .int .u64 m17.token.base.1, .int .u64 m17.token.base.2, .int .u64 m17.token.target.1, .int .u64 m17.token.target.2, .int .i64 m17.token.next, .int .i64 m17.token.all, .slice ia17 m17.token.image.length ic17, .int .i64 0, .slice la18 m18.live.length lc18, .slice sa18 m18.snaps.length sc18, .int .u64 m18.token.base.1, .int .u64 m18.token.base.2, .int .u64 m18.token.target.1, .int .u64 m18.token.target.2, .int .i64 m18.token.next, .int .i64 m18.token.all, .slice ia18 m18.token.image.length ic18, .int .i64 3, .slice la19 m19.live.length lc19, .slice sa19 m19.snaps.length sc19, .int .u64 m19.token.base.1, .int .u64 m19.token.base.2, .int .u64 m19.token.target.1, .int .u64 m19.token.target.2, .int .i64 m19.token.next, .int .i64 m19.token.all, .slice ia19 m19.token.image.length ic19, .int .i64 2] 52) = wt at *
    go_wp2_with fail
    go_meet
    exact ⟨_, rfl, rfl, rfl, HB.out, HW.out, HRB.out⟩
  case rest =>
    obtain ⟨gt, rfl, rfl, rfl, hb, hw, hrb⟩ := hcut
    have HB := Lib.hid hb
    have HW := Lib.hid hw
    have HRB := Lib.hid hrb
    clear hb hw hrb
    obtain ⟨wt, rfl⟩ : ∃ wt : World, wt = wc := ⟨_, rfl⟩
    go_wp2_with fail
    go_loopw [158] (fun i wr => ∃ k : Nat, k ≤ 18 ∧ i = .int .i64 k ∧ Below wt.heap.size wt wr) (fun i _ => 18 - (intOf i).toNat)
    case atStart => exact ⟨0, Nat.zero_le _, rfl, Below.refl _ _⟩
    case round =>
      obtain ⟨k, hk, rfl, hb⟩ := hrel
      have HBR := Lib.hid hb
      clear hb
      by_cases hlt : k < 18
      · obtain ⟨mR, lR, kR, sR, tR, iR, jR, z, ⟨r0, r1, r2, r3, r4, r5, r6, r7, r8, r9⟩, hin, hz⟩ := (HRB.out k hlt).keep HBR.out
        have hbo := (Below.refl wr.heap.size wr).alloc (Nat.le_refl _) (Obj.cells #[.slice lR mR.live.length kR, .slice sR mR.snaps.length tR, .int .u64 mR.token.base.1, .int .u64 mR.token.base.2, .int .u64 mR.token.target.1, .int .u64 mR.token.target.2, .int .i64 mR.token.next, .int .i64 mR.token.all, .slice iR mR.token.image.length jR, .int .i64 z] 52)
        have HC := Lib.hid (fun w2 (hb : Below (wr.alloc (Obj.cells #[.slice lR mR.live.length kR, .slice sR mR.snaps.length tR, .int .u64 mR.token.base.1, .int .u64 mR.token.base.2, .int .u64 mR.token.target.1, .int .u64 mR.token.target.2, .int .i64 mR.token.next, .int .i64 mR.token.all, .slice iR mR.token.image.length jR, .int .i64 z] 52)).heap.size (wr.alloc (Obj.cells #[.slice lR mR.live.length kR, .slice sR mR.snaps.length tR, .int .u64 mR.token.base.1, .int .u64 mR.token.base.2, .int .u64 mR.token.target.1, .int .u64 mR.token.target.2, .int .i64 mR.token.next, .int .i64 mR.token.all, .slice iR mR.token.image.length jR, .int .i64 z] 52)) w2) => chk_lit w2 ((hin.keep hbo).keep hb) 2 400 z hz)
        have HKR := Lib.hid (Blk.new wr 52 #[.slice lR mR.live.length kR, .slice sR mR.snaps.length tR, .int .u64 mR.token.base.1, .int .u64 mR.token.base.2, .int .u64 mR.token.target.1, .int .u64 mR.token.target.2, .int .i64 mR.token.next, .int .i64 mR.token.all, .slice iR mR.token.image.length jR, .int .i64 z])
        have HBO := Lib.hid (HBR.out.trans (hbo.mono HBR.out.size))
        have HLT := Lib.hid hlt
        have i1 : (k : Int) < 18 := by omega
        have i0 : (0 : Int) ≤ (k : Int) := by omega
        clear hk hlt hin hz hbo
        go_wp2_with fail
        clear r0 r1 r2 r3 r4 r5 r6 r7 r8 r9 i1
        generalize wr.alloc (Obj.cells #[.slice lR mR.live.length kR, .slice sR mR.snaps.length tR, .int .u64 mR.token.base.1, .int .u64 mR.token.base.2, .int .u64 mR.token.target.1, .int .u64 mR.token.target.2, .int .i64 mR.token.next, .int .i64 mR.token.all, .slice iR mR.token.image.length jR, .int .i64 z] 52) = wc at *
        generalize wr.heap.size = gr at *
        refine wp_region_chain [2] (kv [(2, .is (.int .i64 z))]) (fun _ w => Below wc.heap.size wc w) (by kernel_rfl) (by kernel_rfl) (by kernel_rfl) (kv_inh _) (Below.drew (Below.refl _ _)) ?_
        intro ν hν
        have n2 : ν 2 = .int .i64 z := hν 2
        clear hν
        refine ch_plain 0 1 1 (by rfl) rfl (by kernel_rfl) (by kernel_rfl) ?_
        apply Exists.intro
        refine ⟨fun st w2 hlo hhi hJ => ?_, ?_⟩
        · clear hlo hhi hJ
          go_simp
          exact And.intro rfl rfl
        simp only [Act.put, List.setIfInBounds_toArray, List.set_cons_succ, List.set_cons_zero, Nat.reduceAdd]
        refine ch_plain 0 1 1 (by rfl) rfl (by kernel_rfl) (by kernel_rfl) ?_
        apply Exists.intro
        refine ⟨fun st w2 hlo hhi hJ => ?_, ?_⟩
        · replace hJ : Below wc.heap.size wc w2 := hJ
          have x0 := (HKR.out.keep hJ).cell 0
          have x1 := (HKR.out.keep hJ).cell 1
          have x2 := (HKR.out.keep hJ).cell 2
          have x3 := (HKR.out.keep hJ).cell 3
          have x4 := (HKR.out.keep hJ).cell 4
          have x5 := (HKR.out.keep hJ).cell 5
          have x6 := (HKR.out.keep hJ).cell 6
          have x7 := (HKR.out.keep hJ).cell 7
          have x8 := (HKR.out.keep hJ).cell 8
          simp at x0 x1 x2 x3 x4 x5 x6 x7 x8
          clear hlo hhi hJ
          go_simp
          exact And.intro rfl rfl
        simp only [Act.put, List.setIfInBounds_toArray, List.set_cons_succ, List.set_cons_zero, Nat.reduceAdd]
        refine ch_special 0 1 (by rfl) rfl (by decide) (by kernel_rfl) (fun w2 hJ => ?_) ?_
        · replace hJ : Below wc.heap.size wc w2 := hJ
          go_simp
          refine (HC.out w2 hJ).mono ?_
          rintro e w3 ⟨rfl, hb⟩
          exact ⟨_, rfl, rfl, hJ.trans (hb.mono hJ.size)⟩
        rw [n2]
        simp only [Act.put, List.setIfInBounds_toArray, List.set_cons_succ, List.set_cons_zero, Nat.reduceAdd]
        refine ch_plain 0 1 1 (by rfl) rfl (by kernel_rfl) (by kernel_rfl) ?_
        apply Exists.intro
        refine ⟨fun st w2 hlo hhi hJ => ?_, ?_⟩
        · clear hlo hhi hJ
          go_simp
          exact And.intro rfl rfl
        simp only [Act.put, List.setIfInBounds_toArray, List.set_cons_succ, List.set_cons_zero, Nat.reduceAdd]
        refine ch_plain 0 1 1 (by rfl) rfl (by kernel_rfl) (by kernel_rfl) ?_
        apply Exists.intro
        refine ⟨fun st w2 hlo hhi hJ => ?_, ?_⟩
        · replace hJ : Below wc.heap.size wc w2 := hJ
          have x9 := (HKR.out.keep hJ).cell 9
          simp at x9
          clear hlo hhi hJ
          go_simp
          exact And.intro rfl rfl
        simp only [Act.put, List.setIfInBounds_toArray, List.set_cons_succ, List.set_cons_zero, Nat.reduceAdd]
        refine ch_plain 0 1 1 (by rfl) rfl (by kernel_rfl) (by kernel_rfl) ?_
        apply Exists.intro
        refine ⟨fun st w2 hlo hhi hJ => ?_, ?_⟩
        · clear hlo hhi hJ
          go_simp
          exact And.intro rfl rfl
        simp only [Act.put, Nat.reduceAdd]
        refine ch_nil (fun w5 hJ => ?_)
        have HB5 := Lib.hid (show Below wc.heap.size wc w5 from hJ)
        clear hJ n2
        go_wp2
        rw [wrap_succ HLT.out (by decide)]
        exact ⟨⟨k + 1, HLT.out, rfl, HBO.out.trans (HB5.out.mono HBO.out.size)⟩, meas_succ HLT.out⟩
      · obtain rfl : k = 18 := by omega
        rw [show ((18 : Nat) : Int) = 18 from rfl]
        replace HB := Lib.hid (HB.out.trans (HBR.out.mono HB.out.size))
        replace HW := Lib.hid (HW.out.keep HBR.out)
        clear hk hlt HRB HBR
        obtain ⟨wx, rfl⟩ : ∃ wx : World, wx = wr := ⟨_, rfl⟩
        go_wp2_with fail
        have hb := (Below.refl wx.heap.size wx).alloc (Nat.le_refl _) (Obj.cells #[.string { data := #[] }, .string { data := #[0] }, .string { data := #[1, 1, 0, 0] }, .string { data := #[1, 1, 0, 0, 1, 2] }, .string { data := #[1, 1, 1, 192, 0, 0] }, .string { data := #[1, 9, 0, 0, 0, 0, 0, 0, 0, 0, 0, 0, 0] }, .string { data := #[1, 1, 1, 193, 1, 1, 1, 1, 1, 2, 1, 2, 1, 193, 0] }, .string { data := #[1, 1, 8, 255, 255, 255, 255, 255, 255, 255, 255, 0, 0] }] 9)
        have hks := Blk.new wx 9 #[.string { data := #[] }, .string { data := #[0] }, .string { data := #[1, 1, 0, 0] }, .string { data := #[1, 1, 0, 0, 1, 2] }, .string { data := #[1, 1, 1, 192, 0, 0] }, .string { data := #[1, 9, 0, 0, 0, 0, 0, 0, 0, 0, 0, 0, 0] }, .string { data := #[1, 1, 1, 193, 1, 1, 1, 1, 1, 2, 1, 2, 1, 193, 0] }, .string { data := #[1, 1, 8, 255, 255, 255, 255, 255, 255, 255, 255, 0, 0] }]
        have HRS := Lib.hid (show ∀ k, k < 8 → RowS (wx.alloc (Obj.cells #[.string { data := #[] }, .string { data := #[0] }, .string { data := #[1, 1, 0, 0] }, .string { data := #[1, 1, 0, 0, 1, 2] }, .string { data := #[1, 1, 1, 192, 0, 0] }, .string { data := #[1, 9, 0, 0, 0, 0, 0, 0, 0, 0, 0, 0, 0] }, .string { data := #[1, 1, 1, 193, 1, 1, 1, 1, 1, 2, 1, 2, 1, 193, 0] }, .string { data := #[1, 1, 8, 255, 255, 255, 255, 255, 255, 255, 255, 0, 0] }] 9)) wx.heap.size k from fun k hk => RowS.of hk (by
          match k, hk with
          | 0, _ => exact hks.cell 0
          | 1, _ => exact hks.cell 1
          | 2, _ => exact hks.cell 2
          | 3, _ => exact hks.cell 3
          | 4, _ => exact hks.cell 4
          | 5, _ => exact hks.cell 5
          | 6, _ => exact hks.cell 6
          | 7, _ => exact hks.cell 7))
        replace HB := Lib.hid (HB.out.trans (hb.mono HB.out.size))
        replace HW := Lib.hid (HW.out.keep hb)
        clear hb hks
        generalize wx.heap.size = gq at *
        generalize wx.alloc (Obj.cells #[.string { data := #[] }, .string { data := #[0] }, .string { data := #[1, 1, 0, 0] }, .string { data := #[1, 1, 0, 0, 1, 2] }, .string { data := #[1, 1, 1, 192, 0, 0] }, .string { data := #[1, 9, 0, 0, 0, 0, 0, 0, 0, 0, 0, 0, 0] }, .string { data := #[1, 1, 1, 193, 1, 1, 1, 1, 1, 2, 1, 2, 1, 193, 0] }, .string { data := #[1, 1, 8, 255, 255, 255, 255, 255, 255, 255, 255, 0, 0] }] 9) = wq at *
        go_loopw [174] (fun i wr => ∃ k : Nat, k ≤ 8 ∧ i = .int .i64 k ∧ Below wq.heap.size wq wr) (fun i _ => 8 - (intOf i).toNat)
        case atStart => exact ⟨0, Nat.zero_le _, rfl, Below.refl _ _⟩
        case round =>
          obtain ⟨k, hk, rfl, hb⟩ := hrel
          have HBR := Lib.hid hb
          clear hb
          by_cases hlt : k < 8
          · obtain ⟨t, hc, hd, hs⟩ := (HRS.out k hlt).keep HBR.out
            have HC := Lib.hid (fun w => dec_no2 t (Nat.le_trans hs (by decide)) hd w)
            have HLT := Lib.hid hlt
            have i1 : (k : Int) < 8 := by omega
            have i0 : (0 : Int) ≤ (k : Int) := by omega
            clear hk hlt hd hs
            go_wp2_with fail
            clear hc i1
            refine (HC.out _).mono ?_
            rintro e wz ⟨lb, kb, sb, tb, ib, jb, rfl, hb⟩
            have hb2 := (Below.refl wz.heap.size wz).alloc (Nat.le_refl _) (Obj.cells #[.slice lb 0 kb, .slice sb 0 tb, .int .u64 0, .int .u64 0, .int .u64 0, .int .u64 0, .int .i64 0, .int .i64 0, .slice ib 0 jb] 30)
            have HB2 := Lib.hid (HBR.out.trans ((hb.trans (hb2.mono hb.size)).mono HBR.out.size))
            clear hb hb2 HC
            go_wp2
            rw [wrap_succ HLT.out (by decide)]
            exact ⟨⟨k + 1, HLT.out, rfl, HB2.out⟩, meas_succ HLT.out⟩
          · obtain rfl : k = 8 := by omega
            rw [show ((8 : Nat) : Int) = 8 from rfl]
            replace HB := Lib.hid (HB.out.trans (HBR.out.mono HB.out.size))
            replace HW := Lib.hid (HW.out.keep HBR.out)
            clear hk hlt HRS HBR
            obtain ⟨wx, rfl⟩ : ∃ wx : World, wx = wr := ⟨_, rfl⟩
            go_wp2_with fail
            have hb := (Below.refl wx.heap.size wx).alloc (Nat.le_refl _) (Obj.cells #[.slice none 0 0, .slice none 0 0, .int .u64 0, .int .u64 0, .int .u64 0, .int .u64 0, .int .i64 0, .int .i64 0, .slice none 0 0] 30)
            have hkm := Blk.new wx 30 #[.slice none 0 0, .slice none 0 0, .int .u64 0, .int .u64 0, .int .u64 0, .int .u64 0, .int .i64 0, .int .i64 0, .slice none 0 0]
            generalize hgm : wx.heap.size = gm at *
            generalize wx.alloc (Obj.cells #[.slice none 0 0, .slice none 0 0, .int .u64 0, .int .u64 0, .int .u64 0, .int .u64 0, .int .i64 0, .int .i64 0, .slice none 0 0] 30) = wm at *
            have HGM := Lib.hid hgm
            have HKM := Lib.hid hkm
            have HBM := Lib.hid (show Below gm wx wm from hb)
            clear hb hkm hgm
            go_loopw [15] (fun i wr => ∃ (k : Nat) (la : Option Addr) (lc : Nat), k ≤ 8 ∧ i = .int .i64 k ∧ Below gm wx wr ∧ Blk wr gm 30 #[.slice la k lc, .slice none 0 0, .int .u64 0, .int .u64 0, .int .u64 0, .int .u64 0, .int .i64 0, .int .i64 0, .slice none 0 0] ∧ OwI wr (gm + 1) (.slice la k lc) (live8 k)) (fun i _ => 8 - (intOf i).toNat)
            case atStart => exact ⟨0, none, 0, Nat.zero_le _, rfl, HBM.out, HKM.out, OwI.nil_ _ _⟩
            case round =>
              obtain ⟨k, la, lc, hk, rfl, hb, hm, ho⟩ := hrel
              have HB3 := Lib.hid hb
              have HM3 := Lib.hid hm
              have HO3 := Lib.hid ho
              have x0 := hm.cell 0
              simp at x0
              clear hb hm ho
              by_cases hlt : k < 8
              · have HLT := Lib.hid hlt
                have i1 : (k : Int) < 8 := by omega
                have I8 := Lib.hid (show IntKind.i64.wrap (500 + (k : Int)) = 500 + (k : Int) from by rw [IntKind.wrap_i64]; omega)
                have i8 := I8.out
                have hA := app_int 22 (500 + (k : Int)) HO3.out (WalkArith.wf_i64 (by omega)) (by simp [live8]; omega) HM3.out.lt
                have HA := Lib.hid hA
                clear hk hlt hA
                go_wp2_with (at_builtin; refine wpList_append_run rfl _ _ 22 rfl _ _ rfl rfl _ HA.out ?_)
                refine Later.mk fun _ _ v' w' hp => ?_
                have hbp := hp.below HO3.out HM3.out.lt
                obtain ⟨la2, lc2, rfl⟩ := hp.1.slice_
                have hl : (live8 k ++ [500 + (k : Int)]).length = k + 1 := by simp [live8]
                rw [hl]
                have ho := hp.1
                rw [hl, ← live8_succ] at ho
                have hm := HM3.out.below hbp (Nat.lt_succ_self _)
                have y0 := hm.cell 0
                have yf := hm.frozen 0
                simp at y0
                have HB4 := Lib.hid (show Below gm wx (w'.setCell ⟨gm, 0, none⟩ (.slice la2 (k + 1) lc2)) from (HB3.out.trans (hbp.mono (Nat.le_succ _))).trans ((below_cell w' gm 0 (.slice la2 (k + 1) lc2))))
                have HM4 := Lib.hid (show Blk (w'.setCell ⟨gm, 0, none⟩ (.slice la2 (k + 1) lc2)) gm 30 #[.slice la2 (k + 1) lc2, .slice none 0 0, .int .u64 0, .int .u64 0, .int .u64 0, .int .u64 0, .int .i64 0, .int .i64 0, .slice none 0 0] from hm.set 0 (.slice la2 (k + 1) lc2))
                have HO4 := Lib.hid (ho.kpT (kp_cell w' gm 0 (.slice la2 (k + 1) lc2)) (fun b e => .inl (by omega)))
                clear hp hbp hl ho hm i1 i8 x0 HA HB3 HM3 HO3 I8
                go_wp2
                rw [wrap_succ HLT.out (by decide)]
                exact ⟨⟨k + 1, la2, lc2, HLT.out, rfl, HB4.out, HM4.out, HO4.out⟩, meas_succ HLT.out⟩
              · obtain rfl : k = 8 := by omega
                rw [show ((8 : Nat) : Int) = 8 from rfl]
                clear hk hlt x0 HBM HKM
                go_wp2_with fail
                have HL4 := Lib.hid HO3.out
                obtain ⟨wq, rfl⟩ : ∃ wq : World, wq = wr := ⟨_, rfl⟩
                go_loopw [16] (fun i wr => ∃ (k : Nat) (sa : Option Addr) (sc : Nat), k ≤ 20 ∧ i = .int .i64 k ∧ Below gm wx wr ∧ Blk wr gm 30 #[.slice la 8 lc, .slice sa k sc, .int .u64 0, .int .u64 0, .int .u64 0, .int .u64 0, .int .i64 0, .int .i64 0, .slice none 0 0] ∧ OwI wr (gm + 1) (.slice la 8 lc) (live8 8) ∧ OwE wr (gm + 1) (.slice sa k sc) (esN la lc k)) (fun i _ => 20 - (intOf i).toNat)
                case atStart => exact ⟨0, none, 0, Nat.zero_le _, rfl, HB3.out, HM3.out, HO3.out, OwE.nil_ _ _⟩
                case round =>
                  obtain ⟨k, sa, sc, hk, rfl, hb, hm, ho, hs⟩ := hrel
                  have HB5 := Lib.hid hb
                  have HM5 := Lib.hid hm
                  have HO5 := Lib.hid ho
                  have HS5 := Lib.hid hs
                  clear hb hm ho hs
                  by_cases hlt : k < 20
                  · have HLT := Lib.hid hlt
                    have i1 : (k : Int) < 20 := by omega
                    have I8 := Lib.hid (show IntKind.u64.wrap (k : Int) = (k : Int) from IntWalk.u64_in _ (by omega))
                    have I9 := Lib.hid (show IntKind.u64.wrap (9223372036854775808 + (k : Int)) = 9223372036854775808 + (k : Int) from IntWalk.u64_in _ (by omega))
                    clear hk hlt
                    go_wp2_with fail
                    clear i1
                    refine wp_region_chain [5, 9, 10, 12] (kv [(5, .is (.agg #[.int .u64 9223372036854775808, .int .u64 (9223372036854775808 + (k : Int))])), (9, .sl 1), (10, .sla (k + 1)), (12, .is undef)]) (fun l w2 => match l with | [] => Below gm wx w2 ∧ Blk w2 gm 30 #[.slice la 8 lc, .slice sa k sc, .int .u64 0, .int .u64 0, .int .u64 0, .int .u64 0, .int .i64 0, .int .i64 0, .slice none 0 0] ∧ OwI w2 (gm + 1) (.slice la 8 lc) (live8 8) ∧ OwE w2 (gm + 1) (.slice sa k sc) (esN la lc k) | [_] => Below gm wx w2 ∧ Blk w2 gm 30 #[.slice la 8 lc, .slice sa k sc, .int .u64 0, .int .u64 0, .int .u64 0, .int .u64 0, .int .i64 0, .int .i64 0, .slice none 0 0] ∧ OwI w2 (gm + 1) (.slice la 8 lc) (live8 8) ∧ OwE w2 (gm + 1) (.slice sa k sc) (esN la lc k) | [_, v] => (Below gm wx w2 ∧ Blk w2 gm 30 #[.slice la 8 lc, .slice sa k sc, .int .u64 0, .int .u64 0, .int .u64 0, .int .u64 0, .int .i64 0, .int .i64 0, .slice none 0 0] ∧ OwI w2 (gm + 1) (.slice la 8 lc) (live8 8) ∧ OwE w2 (gm + 1) (.slice sa k sc) (esN la lc k)) ∧ (∃ g, v = .slice (some ⟨g, 0, none⟩) 1 1 ∧ Blk w2 g 48 #[.int .u64 9223372036854775808, .int .u64 (9223372036854775808 + (k : Int)), .slice la 8 lc, .bool false]) | [_, _, v] => OwE w2 (gm + 1) (v) (esN la lc (k + 1)) ∧ OwI w2 (gm + 1) (.slice la 8 lc) (live8 8) ∧ Blk w2 gm 30 #[.slice la 8 lc, .slice sa k sc, .int .u64 0, .int .u64 0, .int .u64 0, .int .u64 0, .int .i64 0, .int .i64 0, .slice none 0 0] ∧ Below gm wx w2 | _ :: _ :: v :: _ => OwE w2 (gm + 1) (v) (esN la lc (k + 1)) ∧ OwI w2 (gm + 1) (.slice la 8 lc) (live8 8) ∧ Blk w2 gm 30 (#[.slice la 8 lc, v, .int .u64 0, .int .u64 0, .int .u64 0, .int .u64 0, .int .i64 0, .int .i64 0, .slice none 0 0]) ∧ Below gm wx w2) (by kernel_rfl) (by kernel_rfl) (by kernel_rfl) (kv_inh _) (by
                        have hd : Below wr.heap.size wr wr.drew := Below.drew (Below.refl _ _)
                        exact ⟨HB5.out.trans (hd.mono (Nat.le_of_lt HM5.out.lt)), HM5.out.keep hd, HO5.out.keep hd, own_kp (Kp.of_below hd) HS5.out fun _ _ h => h⟩) ?_
                    intro ν hν
                    have n5 : ν 5 = .agg #[.int .u64 9223372036854775808, .int .u64 (9223372036854775808 + (k : Int))] := hν 5
                    obtain ⟨g9, n9⟩ : ∃ g, ν 9 = .slice (some ⟨g, 0, none⟩) 1 1 := hν 9
                    obtain ⟨a10, c10, n10⟩ : ∃ a c, ν 10 = .slice a (k + 1) c := hν 10
                    have n12 : ν 12 = undef := hν 12
                    clear hν
                    refine ch_plain 0 4 6 (by rfl) rfl (by kernel_rfl) (by kernel_rfl) ?_
                    apply Exists.intro
                    refine ⟨fun st w2 hlo hhi hJ => ?_, ?_⟩
                    · clear hlo hhi hJ
                      go_simp
                      exact And.intro rfl rfl
                    simp only [Act.put, List.setIfInBounds_toArray, List.set_cons_succ, List.set_cons_zero, Nat.reduceAdd]
                    refine ch_plain 0 2 6 (by rfl) rfl (by kernel_rfl) (by kernel_rfl) ?_
                    apply Exists.intro
                    refine ⟨fun st w2 hlo hhi hJ => ?_, ?_⟩
                    · have hj : Below gm wx w2 ∧ Blk w2 gm 30 #[.slice la 8 lc, .slice sa k sc, .int .u64 0, .int .u64 0, .int .u64 0, .int .u64 0, .int .i64 0, .int .i64 0, .slice none 0 0] ∧ OwI w2 (gm + 1) (.slice la 8 lc) (live8 8) ∧ OwE w2 (gm + 1) (.slice sa k sc) (esN la lc k) := by
                        have q : st = 0 ∨ st = 1 ∨ st = 2 := by omega
                        rcases q with rfl | rfl | rfl
                        · exact hJ
                        · exact hJ
                        · have hj : (Below gm wx w2 ∧ Blk w2 gm 30 #[.slice la 8 lc, .slice sa k sc, .int .u64 0, .int .u64 0, .int .u64 0, .int .u64 0, .int .i64 0, .int .i64 0, .slice none 0 0] ∧ OwI w2 (gm + 1) (.slice la 8 lc) (live8 8) ∧ OwE w2 (gm + 1) (.slice sa k sc) (esN la lc k)) ∧ _ := hJ
                          exact hj.1
                      have x1 := hj.2.1.cell 1
                      simp at x1
                      clear hj
                      clear hlo hhi hJ
                      go_simp
                      exact And.intro rfl rfl
                    simp only [Act.put, List.setIfInBounds_toArray, List.set_cons_succ, List.set_cons_zero, Nat.reduceAdd]
                    refine ch_plain 0 4 6 (by rfl) rfl (by kernel_rfl) (by kernel_rfl) ?_
                    apply Exists.intro
                    refine ⟨fun st w2 hlo hhi hJ => ?_, ?_⟩
                    · clear hlo hhi hJ
                      go_simp
                      exact And.intro rfl rfl
                    simp only [Act.put, List.setIfInBounds_toArray, List.set_cons_succ, List.set_cons_zero, Nat.reduceAdd]
                    refine ch_plain 0 4 6 (by rfl) rfl (by kernel_rfl) (by kernel_rfl) ?_
                    apply Exists.intro
                    refine ⟨fun st w2 hlo hhi hJ => ?_, ?_⟩
                    · have i8 := I8.out
                      clear hlo hhi hJ
                      go_simp
                      exact And.intro rfl rfl
                    simp only [Act.put, List.setIfInBounds_toArray, List.set_cons_succ, List.set_cons_zero, Nat.reduceAdd]
                    refine ch_plain 0 4 6 (by rfl) rfl (by kernel_rfl) (by kernel_rfl) ?_
                    apply Exists.intro
                    refine ⟨fun st w2 hlo hhi hJ => ?_, ?_⟩
                    · have i9 := I9.out
                      clear hlo hhi hJ
                      go_simp
                      exact And.intro rfl rfl
                    simp only [Act.put, List.setIfInBounds_toArray, List.set_cons_succ, List.set_cons_zero, Nat.reduceAdd]
                    refine ch_special 0 6 (by rfl) rfl (by decide) (by kernel_rfl) (fun w2 hJ => ?_) ?_
                    · have hj : Below gm wx w2 ∧ Blk w2 gm 30 #[.slice la 8 lc, .slice sa k sc, .int .u64 0, .int .u64 0, .int .u64 0, .int .u64 0, .int .i64 0, .int .i64 0, .slice none 0 0] ∧ OwI w2 (gm + 1) (.slice la 8 lc) (live8 8) ∧ OwE w2 (gm + 1) (.slice sa k sc) (esN la lc k) := hJ
                      go_simp
                      refine (guid_any 9223372036854775808 (9223372036854775808 + (k : Int)) _).mono ?_
                      rintro e w3 ⟨rfl, hb⟩
                      exact ⟨_, rfl, rfl, hj.1.trans (hb.mono (Nat.le_of_lt hj.2.1.lt)), hj.2.1.keep hb, hj.2.2.1.keep hb, own_kp (Kp.of_below hb) hj.2.2.2 fun _ _ h => h⟩
                    rw [n5]
                    simp only [Act.put, List.setIfInBounds_toArray, List.set_cons_succ, List.set_cons_zero, Nat.reduceAdd]
                    refine ch_plain 0 4 6 (by rfl) rfl (by kernel_rfl) (by kernel_rfl) ?_
                    apply Exists.intro
                    refine ⟨fun st w2 hlo hhi hJ => ?_, ?_⟩
                    · clear hlo hhi hJ
                      go_simp
                      exact And.intro rfl rfl
                    simp only [Act.put, List.setIfInBounds_toArray, List.set_cons_succ, List.set_cons_zero, Nat.reduceAdd]
                    refine ch_plain 0 1 6 (by rfl) rfl (by kernel_rfl) (by kernel_rfl) ?_
                    apply Exists.intro
                    refine ⟨fun st w2 hlo hhi hJ => ?_, ?_⟩
                    · have hj : Below gm wx w2 ∧ Blk w2 gm 30 #[.slice la 8 lc, .slice sa k sc, .int .u64 0, .int .u64 0, .int .u64 0, .int .u64 0, .int .i64 0, .int .i64 0, .slice none 0 0] ∧ OwI w2 (gm + 1) (.slice la 8 lc) (live8 8) ∧ OwE w2 (gm + 1) (.slice sa k sc) (esN la lc k) := by
                        have q : st = 0 ∨ st = 1 := by omega
                        rcases q with rfl | rfl <;> exact hJ
                      have x0 := hj.2.1.cell 0
                      simp at x0
                      clear hj
                      clear hlo hhi hJ
                      go_simp
                      exact And.intro rfl rfl
                    simp only [Act.put, List.setIfInBounds_toArray, List.set_cons_succ, List.set_cons_zero, Nat.reduceAdd]
                    refine ch_plain 0 4 6 (by rfl) rfl (by kernel_rfl) (by kernel_rfl) ?_
                    apply Exists.intro
                    refine ⟨fun st w2 hlo hhi hJ => ?_, ?_⟩
                    · clear hlo hhi hJ
                      go_simp
                      exact And.intro rfl rfl
                    simp only [Act.put, List.setIfInBounds_toArray, List.set_cons_succ, List.set_cons_zero, Nat.reduceAdd]
                    refine ch_special 1 6 (by rfl) rfl (by decide) (by kernel_rfl) (fun w2 hJ => ?_) ?_
                    · have hj : Below gm wx w2 ∧ Blk w2 gm 30 #[.slice la 8 lc, .slice sa k sc, .int .u64 0, .int .u64 0, .int .u64 0, .int .u64 0, .int .i64 0, .int .i64 0, .slice none 0 0] ∧ OwI w2 (gm + 1) (.slice la 8 lc) (live8 8) ∧ OwE w2 (gm + 1) (.slice sa k sc) (esN la lc k) := hJ
                      go_simp
                      have hb := (Below.refl w2.heap.size w2).alloc (Nat.le_refl _) (Obj.cells #[.int .u64 9223372036854775808, .int .u64 (9223372036854775808 + (k : Int)), .slice la 8 lc, .bool false] 48)
                      exact ⟨⟨_, rfl⟩, ⟨hj.1.trans (hb.mono (Nat.le_of_lt hj.2.1.lt)), hj.2.1.keep hb, hj.2.2.1.keep hb, own_kp (Kp.of_below hb) hj.2.2.2 fun _ _ h => h⟩, _, rfl, Blk.new _ _ _⟩
                    rw [n9]
                    simp only [Act.put, List.setIfInBounds_toArray, List.set_cons_succ, List.set_cons_zero, Nat.reduceAdd]
                    refine ch_special 2 6 (by rfl) rfl (by decide) (by kernel_rfl) (fun w2 hJ => ?_) ?_
                    · have hj : (Below gm wx w2 ∧ Blk w2 gm 30 #[.slice la 8 lc, .slice sa k sc, .int .u64 0, .int .u64 0, .int .u64 0, .int .u64 0, .int .i64 0, .int .i64 0, .slice none 0 0] ∧ OwI w2 (gm + 1) (.slice la 8 lc) (live8 8) ∧ OwE w2 (gm + 1) (.slice sa k sc) (esN la lc k)) ∧ (∃ g, ν 9 = .slice (some ⟨g, 0, none⟩) 1 1 ∧ Blk w2 g 48 #[.int .u64 9223372036854775808, .int .u64 (9223372036854775808 + (k : Int)), .slice la 8 lc, .bool false]) := hJ
                      obtain ⟨⟨hb, hm, ho, hs⟩, hu⟩ := hj
                      rw [n9] at hu
                      obtain ⟨v', w', hr, hp, hg⟩ := app_se (e := (⟨bigG k, live8 8, false, la, lc⟩ : Se)) 23 hs hu (by rw [esN_len]; have := HLT.out; omega) hm.lt
                      rw [exec_append2 (.tmp 208) (.tmp 216) 23 rfl (.slice sa k sc) (.slice (some ⟨g9, 0, none⟩) 1 1) rfl rfl v' hr]
                      rw [← esN_succ] at hp
                      have hkg := Kp.of_grown hg
                      obtain ⟨xa, xc, rfl⟩ := own_slice hp
                      have hrb := hkg.below (B := gm + 1) (fun b hb => own_from hs hb) hm.lt
                      rw [esN_len] at hp ⊢
                      exact ⟨⟨xa, xc, rfl⟩, hp, ho.kp hkg (fun b hb e => own_apart ho.1 hs (by decide) hb e), hm.below hrb (Nat.lt_succ_self _), hb.trans (hrb.mono (Nat.le_succ _))⟩
                    rw [n10]
                    simp only [Act.put, List.setIfInBounds_toArray, List.set_cons_succ, List.set_cons_zero, Nat.reduceAdd]
                    refine ch_plain 0 4 6 (by rfl) rfl (by kernel_rfl) (by kernel_rfl) ?_
                    apply Exists.intro
                    refine ⟨fun st w2 hlo hhi hJ => ?_, ?_⟩
                    · clear hlo hhi hJ
                      go_simp
                      exact And.intro rfl rfl
                    simp only [Act.put, List.setIfInBounds_toArray, List.set_cons_succ, List.set_cons_zero, Nat.reduceAdd]
                    refine ch_special 3 6 (by rfl) rfl (by decide) (by kernel_rfl) (fun w2 hJ => ?_) ?_
                    · have hj : OwE w2 (gm + 1) (ν 10) (esN la lc (k + 1)) ∧ OwI w2 (gm + 1) (.slice la 8 lc) (live8 8) ∧ Blk w2 gm 30 #[.slice la 8 lc, .slice sa k sc, .int .u64 0, .int .u64 0, .int .u64 0, .int .u64 0, .int .i64 0, .int .i64 0, .slice none 0 0] ∧ Below gm wx w2 := hJ
                      have x1 := hj.2.2.1.cell 1
                      have f1 := hj.2.2.1.frozen 1
                      simp at x1
                      have HJ := Lib.hid hj
                      clear hj hJ
                      go_simp
                      refine ⟨rfl, ?_⟩
                      have hk := kp_cell w2 gm 1 (.slice a10 (k + 1) c10)
                      have hq : ∀ base b, b = gm → Oth w2 base b := fun base b e => by subst e; exact .inr ⟨_, _, HJ.out.2.2.1, by decide, by decide⟩
                      have h1 := own_kp hk HJ.out.1 (fun b hb e => own_ne HJ.out.1 HJ.out.2.2.1 (by decide) hb e)
                      have h3 := HJ.out.2.2.1.set 1 (.slice a10 (k + 1) c10)
                      have h4 := HJ.out.2.2.2.trans (below_cell w2 gm 1 (.slice a10 (k + 1) c10))
                      rw [n10] at h1
                      exact ⟨h1, HJ.out.2.1.kpT hk (hq _), h3, h4⟩
                    rw [n12]
                    simp only [Act.put, Nat.reduceAdd]
                    refine ch_nil (fun w9 hJ => ?_)
                    have hj : OwE w9 (gm + 1) (ν 10) (esN la lc (k + 1)) ∧ OwI w9 (gm + 1) (.slice la 8 lc) (live8 8) ∧ Blk w9 gm 30 (#[.slice la 8 lc, ν 10, .int .u64 0, .int .u64 0, .int .u64 0, .int .u64 0, .int .i64 0, .int .i64 0, .slice none 0 0]) ∧ Below gm wx w9 := hJ
                    rw [n10] at hj
                    have HJ9 := Lib.hid hj
                    clear hJ hj n5 n9 n10 n12 HB5 HM5 HO5 HS5
                    go_wp2
                    rw [wrap_succ HLT.out (by decide)]
                    exact ⟨⟨k + 1, a10, c10, HLT.out, rfl, HJ9.out.2.2.2, HJ9.out.2.2.1, HJ9.out.2.1, HJ9.out.1⟩, meas_succ HLT.out⟩
                  · obtain rfl : k = 20 := by omega
                    rw [show ((20 : Nat) : Int) = 20 from rfl]
                    clear hk hlt HB3 HM3 HO3 HL4
                    obtain ⟨gs, cap, hse, -⟩ := own_block_ HS5.out (by rw [esN_len]; decide)
                    rw [esN_len] at hse
                    simp only [Value.slice.injEq] at hse
                    obtain ⟨rfl, -, rfl⟩ := hse
                    have HIN := Lib.hid (most_in HO5.out.rd HS5.out)
                    have x0 := HM5.out.cell 0
                    have x1 := HM5.out.cell 1
                    have x2 := HM5.out.cell 2
                    have x3 := HM5.out.cell 3
                    have x4 := HM5.out.cell 4
                    have x5 := HM5.out.cell 5
                    have x6 := HM5.out.cell 6
                    have x7 := HM5.out.cell 7
                    have x8 := HM5.out.cell 8
                    simp at x0 x1 x2 x3 x4 x5 x6 x7 x8
                    go_wp2_with fail
                    clear x0 x1 x2 x3 x4 x5 x6 x7 x8
                    refine (enc_most _ HIN.out).mono ?_
                    rintro e wy ⟨sB, zB, rfl, hz, hb⟩
                    have HZB := Lib.hid hz
                    have HB6 := Lib.hid (HB5.out.trans (hb.mono (Nat.le_of_lt HM5.out.lt)))
                    have HM6 := Lib.hid (HM5.out.keep hb)
                    have HO6 := Lib.hid (HO5.out.keep hb)
                    have HS6 := Lib.hid (show OwE wy (gm + 1) (.slice (some ⟨gs, 0, none⟩) 20 sc) (esG la lc 0) from by rw [esG_zero]; exact own_kp (Kp.of_below hb) HS5.out fun _ _ h => h)
                    clear hz hb HIN HB5 HM5 HO5 HS5
                    go_wp2_with fail
                    go_loopw [19] (fun i wr => ∃ k : Nat, k ≤ 20 ∧ i = .int .i64 k ∧ Below gm wx wr ∧ Blk wr gm 30 #[.slice la 8 lc, .slice (some ⟨gs, 0, none⟩) 20 sc, .int .u64 0, .int .u64 0, .int .u64 0, .int .u64 0, .int .i64 0, .int .i64 0, .slice none 0 0] ∧ OwI wr (gm + 1) (.slice la 8 lc) (live8 8) ∧ OwE wr (gm + 1) (.slice (some ⟨gs, 0, none⟩) 20 sc) (esG la lc k)) (fun i _ => 20 - (intOf i).toNat)
                    case atStart => exact ⟨0, Nat.zero_le _, rfl, HB6.out, HM6.out, HO6.out, HS6.out⟩
                    case round =>
                      obtain ⟨k, hk, rfl, hb, hm, ho, hs⟩ := hrel
                      have HB7 := Lib.hid hb
                      have HM7 := Lib.hid hm
                      have HO7 := Lib.hid ho
                      have HS7 := Lib.hid hs
                      clear hb hm ho hs
                      by_cases hlt : k < 20
                      · have HLT := Lib.hid hlt
                        have i1 : (k : Int) < 20 := by omega
                        have I8 := Lib.hid (show IntKind.u64.wrap (k : Int) = (k : Int) from IntWalk.u64_in _ (by omega))
                        have I9 := Lib.hid (show IntKind.u64.wrap (100000 + (k : Int)) = 100000 + (k : Int) from IntWalk.u64_in _ (by omega))
                        clear hk hlt
                        go_wp2_with fail
                        clear i1
                        refine wp_region_chain [6, 9] (kv [(6, .is (.agg #[.int .u64 100000, .int .u64 (100000 + (k : Int))])), (9, .is undef)]) (fun l w9 => match l with | _ :: _ :: _ => ∃ w1, Below wr.heap.size wr w1 ∧ w9 = w1.setCells gs (k * 4) [.int .u64 100000, .int .u64 (100000 + (k : Int))] | _ => Below wr.heap.size wr w9) (by kernel_rfl) (by kernel_rfl) (by kernel_rfl) (kv_inh _) (Below.drew (Below.refl _ _)) ?_
                        intro ν hν
                        have n6 : ν 6 = .agg #[.int .u64 100000, .int .u64 (100000 + (k : Int))] := hν 6
                        have n9 : ν 9 = undef := hν 9
                        clear hν
                        refine ch_plain 0 2 6 (by rfl) rfl (by kernel_rfl) (by kernel_rfl) ?_
                        apply Exists.intro
                        refine ⟨fun st w2 hlo hhi hJ => ?_, ?_⟩
                        · clear hlo hhi hJ
                          go_simp
                          exact And.intro rfl rfl
                        simp only [Act.put, List.setIfInBounds_toArray, List.set_cons_succ, List.set_cons_zero, Nat.reduceAdd]
                        refine ch_plain 0 1 6 (by rfl) rfl (by kernel_rfl) (by kernel_rfl) ?_
                        apply Exists.intro
                        refine ⟨fun st w2 hlo hhi hJ => ?_, ?_⟩
                        · have hj : Below wr.heap.size wr w2 := by
                            have q : st = 0 ∨ st = 1 := by omega
                            rcases q with rfl | rfl <;> exact hJ
                          have x1 := (HM7.out.keep hj).cell 1
                          simp at x1
                          clear hj
                          clear hlo hhi hJ
                          go_simp
                          exact And.intro rfl rfl
                        simp only [Act.put, List.setIfInBounds_toArray, List.set_cons_succ, List.set_cons_zero, Nat.reduceAdd]
                        refine ch_plain 0 2 6 (by rfl) rfl (by kernel_rfl) (by kernel_rfl) ?_
                        apply Exists.intro
                        refine ⟨fun st w2 hlo hhi hJ => ?_, ?_⟩
                        · clear hlo hhi hJ
                          go_simp
                          exact And.intro rfl rfl
                        simp only [Act.put, List.setIfInBounds_toArray, List.set_cons_succ, List.set_cons_zero, Nat.reduceAdd]
                        refine ch_plain 0 2 6 (by rfl) rfl (by kernel_rfl) (by kernel_rfl) ?_
                        apply Exists.intro
                        refine ⟨fun st w2 hlo hhi hJ => ?_, ?_⟩
                        · clear hlo hhi hJ
                          go_simp
                          exact And.intro rfl rfl
                        simp only [Act.put, List.setIfInBounds_toArray, List.set_cons_succ, List.set_cons_zero, Nat.reduceAdd]
                        refine ch_plain 0 2 6 (by rfl) rfl (by kernel_rfl) (by kernel_rfl) ?_
                        apply Exists.intro
                        refine ⟨fun st w2 hlo hhi hJ => ?_, ?_⟩
                        · have i8 := I8.out
                          clear hlo hhi hJ
                          go_simp
                          exact And.intro rfl rfl
                        simp only [Act.put, List.setIfInBounds_toArray, List.set_cons_succ, List.set_cons_zero, Nat.reduceAdd]
                        refine ch_plain 0 2 6 (by rfl) rfl (by kernel_rfl) (by kernel_rfl) ?_
                        apply Exists.intro
                        refine ⟨fun st w2 hlo hhi hJ => ?_, ?_⟩
                        · have i9 := I9.out
                          clear hlo hhi hJ
                          go_simp
                          exact And.intro rfl rfl
                        simp only [Act.put, List.setIfInBounds_toArray, List.set_cons_succ, List.set_cons_zero, Nat.reduceAdd]
                        refine ch_special 0 6 (by rfl) rfl (by decide) (by kernel_rfl) (fun w2 hJ => ?_) ?_
                        · have hj : Below wr.heap.size wr w2 := hJ
                          go_simp
                          refine (guid_any 100000 (100000 + (k : Int)) _).mono ?_
                          rintro e w3 ⟨rfl, hb⟩
                          exact ⟨_, rfl, rfl, hj.trans (hb.mono hj.size)⟩
                        rw [n6]
                        simp only [Act.put, List.setIfInBounds_toArray, List.set_cons_succ, List.set_cons_zero, Nat.reduceAdd]
                        refine ch_plain 0 2 6 (by rfl) rfl (by kernel_rfl) (by kernel_rfl) ?_
                        apply Exists.intro
                        refine ⟨fun st w2 hlo hhi hJ => ?_, ?_⟩
                        · have hlt := HLT.out
                          have i1 : (k : Int) < 20 := by omega
                          have i0 : (0 : Int) ≤ (k : Int) := by omega
                          clear hlt
                          clear hlo hhi hJ
                          go_simp
                          exact And.intro rfl rfl
                        simp only [Act.put, List.setIfInBounds_toArray, List.set_cons_succ, List.set_cons_zero, Nat.reduceAdd]
                        refine ch_plain 0 2 6 (by rfl) rfl (by kernel_rfl) (by kernel_rfl) ?_
                        apply Exists.intro
                        refine ⟨fun st w2 hlo hhi hJ => ?_, ?_⟩
                        · clear hlo hhi hJ
                          go_simp
                          exact And.intro rfl rfl
                        simp only [Act.put, List.setIfInBounds_toArray, List.set_cons_succ, List.set_cons_zero, Nat.reduceAdd]
                        refine ch_special 1 6 (by rfl) rfl (by decide) (by kernel_rfl) (fun w2 hJ => ?_) ?_
                        · have hj : Below wr.heap.size wr w2 := hJ
                          rw [exec_store_mid 26 (.tmp 236) (.tmp 234) rfl gs (k * 4) #[.int .u64 100000, .int .u64 (100000 + (k : Int))] rfl rfl (OwE.there (own_kp (Kp.of_below hj) HS7.out fun _ _ h => h) k (by rw [esG_len]; exact HLT.out)) (by kernel_rfl) (gcells_one _ _)]
                          exact ⟨rfl, w2, hj, rfl⟩
                        rw [n9]
                        simp only [Act.put, Nat.reduceAdd]
                        refine ch_nil (fun w9 hJ => ?_)
                        obtain ⟨w2, hb, hw9⟩ : ∃ w1, Below wr.heap.size wr w1 ∧ w9 = w1.setCells gs (k * 4) [.int .u64 100000, .int .u64 (100000 + (k : Int))] := hJ
                        have hk : Kp (· = gs) w2 w9 := by rw [hw9]; exact kp_setCells gs _ _ _
                        have hs2 : OwE w2 (gm + 1) (.slice (some ⟨gs, 0, none⟩) 20 sc) (esG la lc k) := own_kp (Kp.of_below hb) HS7.out fun _ _ h => h
                        have hg2 : gm + 1 ≤ gs := own_from hs2 rfl
                        have hm2 := HM7.out.keep hb
                        have HJ9 := Lib.hid (show Below gm wx w9 ∧ Blk w9 gm 30 #[.slice la 8 lc, .slice (some ⟨gs, 0, none⟩) 20 sc, .int .u64 0, .int .u64 0, .int .u64 0, .int .u64 0, .int .i64 0, .int .i64 0, .slice none 0 0] ∧ OwI w9 (gm + 1) (.slice la 8 lc) (live8 8) ∧ OwE w9 (gm + 1) (.slice (some ⟨gs, 0, none⟩) 20 sc) (esG la lc (k + 1)) from
                          ⟨(HB7.out.trans (hb.mono (Nat.le_of_lt HM7.out.lt))).trans (hk.below (B := gm) (fun b e => by omega) (Nat.le_of_lt hm2.lt)), hk.blk hm2 (by omega), (HO7.out.keep hb).kp hk (fun b hb' e => own_apart (HO7.out.keep hb).1 hs2 (by decide) hb' (by rw [e]; rfl)), by
                            rw [hw9, ← esG_succ la lc k HLT.out]
                            exact hs2.guid k (by rw [esG_len]; exact HLT.out) 100000 (100000 + (k : Int))⟩)
                        clear n6 n9 hb hw9 hk hs2 hg2 hm2 HB7 HM7 HO7 HS7
                        go_wp2
                        rw [wrap_succ HLT.out (by decide)]
                        exact ⟨⟨k + 1, HLT.out, rfl, HJ9.out.1, HJ9.out.2.1, HJ9.out.2.2.1, HJ9.out.2.2.2⟩, meas_succ HLT.out⟩
                      · obtain rfl : k = 20 := by omega
                        rw [show ((20 : Nat) : Int) = 20 from rfl]
                        clear hk hlt HB6 HM6 HO6 HS6
                        have HIN := Lib.hid (fine_in HO7.out.rd HS7.out)
                        have x0 := HM7.out.cell 0
                        have x1 := HM7.out.cell 1
                        have x2 := HM7.out.cell 2
                        have x3 := HM7.out.cell 3
                        have x4 := HM7.out.cell 4
                        have x5 := HM7.out.cell 5
                        have x6 := HM7.out.cell 6
                        have x7 := HM7.out.cell 7
                        have x8 := HM7.out.cell 8
                        simp at x0 x1 x2 x3 x4 x5 x6 x7 x8
                        go_wp2_with fail
                        clear x0 x1 x2 x3 x4 x5 x6 x7 x8
                        refine (enc_fine _ HIN.out).mono ?_
                        rintro e wz ⟨sF, rfl, hsf, hb⟩
                        have hb2 : Below wx.heap.size wx wz := by rw [HGM.out]; exact HB7.out.trans (hb.mono (Nat.le_of_lt HM7.out.lt))
                        replace HB := Lib.hid (HB.out.trans (hb2.mono HB.out.size))
                        replace HW := Lib.hid (HW.out.keep hb2)
                        have HSF := Lib.hid hsf
                        clear hb hb2 hsf HIN HB7 HM7 HO7 HS7 HGM
                        obtain ⟨la3, lc3, sa3, sc3, ia3, ic3, hg2, hi2⟩ := HW.out
                        have x0 := hg2.cell 0
                        have x1 := hg2.cell 1
                        have x2 := hg2.cell 2
                        have x3 := hg2.cell 3
                        have x4 := hg2.cell 4
                        have x5 := hg2.cell 5
                        have x6 := hg2.cell 6
                        have x7 := hg2.cell 7
                        have x8 := hg2.cell 8
                        simp at x0 x1 x2 x3 x4 x5 x6 x7 x8
                        have HWI := Lib.hid hi2
                        clear hg2 hi2
                        go_wp2_with fail
                        clear x0 x1 x2 x3 x4 x5 x6 x7 x8
                        refine (short_whole _ HWI.out).mono ?_
                        rintro e wv ⟨pla, plc, psa, psc, pia, pic, rfl, hi, hb⟩
                        replace HB := Lib.hid (HB.out.trans (hb.mono HB.out.size))
                        replace HW := Lib.hid (HW.out.keep hb)
                        clear HWI hb
                        have hb2 : Below wv.heap.size wv (wv.alloc (Obj.cells #[.slice pla 2 plc, .slice psa 2 psc, .int .u64 2, .int .u64 1, .int .u64 2, .int .u64 2, .int .i64 0, .int .i64 2, .slice pia 2 pic] 30)) := (Below.refl wv.heap.size wv).alloc (Nat.le_refl _) (Obj.cells #[.slice pla 2 plc, .slice psa 2 psc, .int .u64 2, .int .u64 1, .int .u64 2, .int .u64 2, .int .i64 0, .int .i64 2, .slice pia 2 pic] 30)
                        have HOI := Lib.hid ((other_in hi).keep hb2)
                        have hwo := HW.out.keep hb2
                        obtain ⟨la4, lc4, sa4, sc4, ia4, ic4, hg2, hi2⟩ := hwo
                        have x0 := hg2.cell 0
                        have x1 := hg2.cell 1
                        have x2 := hg2.cell 2
                        have x3 := hg2.cell 3
                        have x4 := hg2.cell 4
                        have x5 := hg2.cell 5
                        have x6 := hg2.cell 6
                        have x7 := hg2.cell 7
                        have x8 := hg2.cell 8
                        simp at x0 x1 x2 x3 x4 x5 x6 x7 x8
                        have HWI := Lib.hid hi2
                        have HB8 := Lib.hid (HB.out.trans (hb2.mono HB.out.size))
                        have q1 := HSF.out.1
                        have hz := HZB.out
                        clear hb2 hi hg2 hi2 HB HW HZB HSF
                        rcases hz with rfl | rfl
                        all_goals
                          go_wp2_with fail
                          refine (same_other _ HOI.out HWI.out).mono ?_
                          rintro e wu ⟨rfl, hb⟩
                          replace HB8 := Lib.hid (HB8.out.trans (hb.mono HB8.out.size))
                          clear hb HOI HWI x0 x1 x2 x3 x4 x5 x6 x7 x8 q1
                          go_wp2_with fail
                          refine (works_any _).mono ?_
                          rintro e wt ⟨rfl, hb⟩
                          replace HB8 := Lib.hid (HB8.out.trans (hb.mono HB8.out.size))
                          clear hb
                          go_wp2
                          go_ret
                          exact ⟨rfl, HB8.out⟩
end Go.Proofs.Ytimgecflcackbaa
