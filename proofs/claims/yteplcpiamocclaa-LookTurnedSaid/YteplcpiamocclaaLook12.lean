/-
  LOOK's statements: names, node.
-/
import Derived.Test.YteplcpiamocclaaLook11
namespace Go.Proofs.Yteplcpiamocclaa
open Go.RowKit Reg Go.ChangeShapes

theorem app_guid {w : World} {base : Nat} {v : Value} {gs : List Gd} (ty : TypeId) (g : Gd) (ho : OwG w base v gs) (hg : wfG g) (hn : gs.length + 1 ≤ 2 ^ 40) (hbase : base ≤ w.heap.size) :
    ∃ v' w', (Builtin.append_ #[35, 35] ty #[v, .slice (some ⟨w.heap.size, 0, none⟩) 1 1]).run Try.prog (w.alloc (.cells #[.int .u64 g.1, .int .u64 g.2] 34)) = .ok v' w' ∧
      AppG (w.alloc (.cells #[.int .u64 g.1, .int .u64 g.2] 34)) base v (gs ++ [g]) v' w' :=
  app_guids ty (ho.keep ((Below.refl _ _).alloc (Nat.le_refl _) _)) (InG.litAt w [g] #[.int .u64 g.1, .int .u64 g.2] w.heap.size rfl rfl (by simp) (by simpa using hg)) (by simp; omega) (by simp; omega)
/-- guids by letters -/
def nmG (b : UInt8) : Gd := (1, (b.toNat : Int))
def namesG (s : ByteArray) : List Gd := s.data.toList.map nmG
theorem names_take (s : ByteArray) (k : Nat) (h : k < s.size) : (s.data.toList.take (k + 1)).map nmG = (s.data.toList.take k).map nmG ++ [(1, (s[k].toNat : Int))] := by
  have h' : k < s.data.toList.length := by simpa using h
  rw [List.take_add_one, List.getElem?_eq_getElem h']
  simp [nmG]
  rfl
theorem byte_wf (b : UInt8) : wfG (1, (b.toNat : Int)) := by
  have := b.toNat_lt
  refine ⟨show (Lit.int .u64 1).wf = true from by decide, ?_⟩
  simp [Lit.wf]
  show _ ∧ _
  simp only [show IntKind.u64.min = 0 from by decide, show IntKind.u64.max = 18446744073709551615 from by decide]
  omega
set_option maxRecDepth 100000 in
theorem names_any (s : ByteArray) (w : World) (hs : s.size ≤ 1000) :
    Calls Try.prog 25 #[.string s] w fun e w' => ∃ u, e = .returned u ∧ OwG w' w.heap.size u (namesG s) ∧ Below w.heap.size w w' := by
  have HS := Lib.hid hs
  have hlm : s.size ≤ 9223372036854775807 := by omega
  clear hs
  go_enter Try.func25, Try.ntmps25
  go_wp2_with fail
  go_loopw [3, 4] (fun u i wr => ∃ k : Nat, k ≤ s.size ∧ i = .int .i64 k ∧ Below w.heap.size w wr ∧ OwG wr w.heap.size u ((s.data.toList.take k).map nmG)) (fun _ i _ => s.size - (intOf i).toNat)
  case atStart => exact ⟨0, Nat.zero_le _, rfl, Below.refl _ _, OwG.nil_ _ _⟩
  case round =>
    obtain ⟨k, hk, rfl, hb, ho⟩ := hrel
    have HB := Lib.hid hb
    have HO := Lib.hid ho
    clear hb ho
    by_cases hlt : k < s.size
    · have hnt := names_take s k hlt
      have hln : ((s.data.toList.take k).map nmG).length ≤ 1000 := by have := HS.out; simp; omega
      have hwu : IntKind.u64.wrap (s[k].toNat : Int) = (s[k].toNat : Int) := IntWalk.u64_in _ (by have := s[k].toNat_lt; omega)
      have hap := app_guid (w := wr) 35 (1, IntKind.u64.wrap (s[k].toNat : Int)) HO.out (by rw [hwu]; exact byte_wf _) (by omega) HB.out.size
      have hnt' : (s.data.toList.take (k + 1)).map nmG = (s.data.toList.take k).map nmG ++ [(1, IntKind.u64.wrap (s[k].toNat : Int))] := by rw [hwu]; exact hnt
      rw [← hnt'] at hap
      have HA := Lib.hid hap
      have i1 : (k : Int) < (s.size : Int) := by omega
      have HLT := Lib.hid hlt
      clear hap hln hk hnt hnt' hwu
      simp only at HA
      go_wp2_with (at_builtin; (refine wpList_append_run rfl _ _ 35 rfl _ _ rfl rfl _ HA.out ?_))
      refine Later.mk fun _ _ v w3 hp => ?_
      have HB3 := Lib.hid ((HB.out.alloc HB.out.size _).trans (AppG.below hp (HO.out.keep ((Below.refl _ _).alloc (Nat.le_refl _) _)) (Nat.le_trans HB.out.size (by simp))))
      have HO3 := Lib.hid hp.1
      clear hp HA
      have i9 : (k : Int) < 9223372036854775807 := by omega
      go_wp2
      have hlt := HLT.out
      refine ⟨⟨k + 1, by omega, by go_num, HB3.out, by rw [List.map_take]; exact HO3.out⟩, by simp [intOf]; omega⟩
    · obtain rfl : k = s.size := by omega
      have i1 : ¬ ((s.size : Int) < (s.size : Int)) := by omega
      have hfin : (s.data.toList.take s.size).map nmG = namesG s := by
        unfold namesG
        rw [List.take_of_length_le (by simp)]
      rw [hfin] at HO
      have HB1 := Lib.hid HB.out
      clear hlt hk hfin
      go_wp2
      go_ret
      exact ⟨_, rfl, HO.out, HB1.out⟩
/-- a node as 'node' makes it -/
structure NodeOf (w : World) (a b : ByteArray) (x : El) : Prop where
  up : x.up = true
  prim : x.prim = false
  line : x.line = namesG a
  list : x.list = namesG b
  told : x.told = []
  ok : ElOK w x
theorem NodeOf.keep {w w' : World} {a b : ByteArray} {x : El} (h : NodeOf w a b x) (hb : Below w.heap.size w w') : NodeOf w' a b x := ⟨h.up, h.prim, h.line, h.list, h.told, h.ok.keep hb⟩
set_option maxRecDepth 100000 in
set_option maxHeartbeats 1000000 in
theorem node_any (a b : ByteArray) (w : World) (ha : a.size ≤ 1000) (hb : b.size ≤ 1000) :
    Calls Try.prog 24 #[.string a, .string b] w fun e w' => ∃ x : El, e = .returned x.enc ∧ NodeOf w' a b x ∧ Below w.heap.size w w' := by
  have hb0 := (Below.refl w.heap.size w).alloc (Nat.le_refl _) (Obj.cells el0.cells 40)
  have br := Blk.new w 40 el0.cells
  have h1 := names_any a (w.alloc (Obj.cells el0.cells 40)) ha
  have h2 := fun w1 => names_any b w1 hb
  dsimp only [El.cells, El.vl, El.vs, El.vt, El.vi, el0, List.length_nil] at hb0 br h1
  have HB0 := Lib.hid hb0
  have HBR := Lib.hid br
  have H1 := Lib.hid h1
  have H2 := Lib.hid h2
  clear hb0 br h1 h2 ha hb
  go_enter Try.func24, Try.ntmps24
  go_wp2_with fail
  refine H1.out.mono ?_
  rintro e w1 ⟨u1, rfl, ho1, hb1⟩
  obtain ⟨la, lc, rfl⟩ := ho1.rd.slice_
  have HB1 := Lib.hid (HB0.out.trans (hb1.mono HB0.out.size))
  have HBR1 := Lib.hid (HBR.out.keep hb1)
  have HSZ := Lib.hid (show w.heap.size + 1 ≤ w1.heap.size from (HBR.out.keep hb1).lt)
  have HO1 := Lib.hid (ho1.mono (show w.heap.size + 1 ≤ _ by simp))
  clear ho1 hb1 H1 HB0 HBR
  go_wp2_with fail
  refine (H2.out _).mono ?_
  rintro e w2 ⟨u2, rfl, ho2, hb2⟩
  obtain ⟨sa, sc, rfl⟩ := ho2.rd.slice_
  have HB2 := Lib.hid (HB1.out.trans (hb2.mono HB1.out.size))
  have hbr2 := HBR1.out.keep hb2
  have HO2 := Lib.hid (HO1.out.keep hb2)
  have HO3 := Lib.hid (ho2.mono (show w.heap.size + 1 ≤ _ from HSZ.out))
  clear ho2 hb2 H2 HB1 HBR1 HO1
  obtain ⟨qr, hqr⟩ : ∃ z, z = w.heap.size := ⟨_, rfl⟩
  rw [← hqr] at hbr2 HO2 HO3
  rw [← hqr]
  have HQ := Lib.hid (show w.heap.size ≤ qr by omega)
  clear hqr
  have z0 := hbr2.frozen 0
  have z1 := hbr2.frozen 1
  have z2 := hbr2.frozen 2
  have z3 := hbr2.frozen 3
  have z4 := hbr2.frozen 4
  have z5 := hbr2.frozen 5
  have z6 := hbr2.frozen 6
  have z7 := hbr2.frozen 7
  have z8 := hbr2.frozen 8
  have e0 := hbr2.cell 0
  have e1 := hbr2.cell 1
  have e2 := hbr2.cell 2
  have e3 := hbr2.cell 3
  have e4 := hbr2.cell 4
  have e5 := hbr2.cell 5
  have e6 := hbr2.cell 6
  have e7 := hbr2.cell 7
  have e8 := hbr2.cell 8
  simp at e0 e1 e2 e3 e4 e5 e6 e7 e8
  have HBF := Lib.hid (((((((((HB2.out.setCell (p := ⟨qr, 0, none⟩) HQ.out (.bool true)).setCell (p := ⟨qr, 1, none⟩) HQ.out (.bool false)).setCell (p := ⟨qr, 2, none⟩) HQ.out (.int .u64 1)).setCell (p := ⟨qr, 3, none⟩) HQ.out (.int .i64 0)).setCell (p := ⟨qr, 4, none⟩) HQ.out (.bool false)).setCell (p := ⟨qr, 5, none⟩) HQ.out (.slice la (namesG a).length lc)).setCell (p := ⟨qr, 6, none⟩) HQ.out (.slice sa (namesG b).length sc)).setCell (p := ⟨qr, 7, none⟩) HQ.out (.slice none 0 0)).setCell (p := ⟨qr, 8, none⟩) HQ.out (.slice none 0 0))
  have HF := Lib.hid (((((((((hbr2.set 0 (.bool true)).set 1 (.bool false)).set 2 (.int .u64 1)).set 3 (.int .i64 0)).set 4 (.bool false)).set 5 (.slice la (namesG a).length lc)).set 6 (.slice sa (namesG b).length sc)).set 7 (.slice none 0 0)).set 8 (.slice none 0 0))
  have hh : ∀ y, qr + 1 ≤ y → ((World.setCell (World.setCell (World.setCell (World.setCell (World.setCell (World.setCell (World.setCell (World.setCell (World.setCell w2 ⟨qr, 0, none⟩ (.bool true)) ⟨qr, 1, none⟩ (.bool false)) ⟨qr, 2, none⟩ (.int .u64 1)) ⟨qr, 3, none⟩ (.int .i64 0)) ⟨qr, 4, none⟩ (.bool false)) ⟨qr, 5, none⟩ (.slice la (namesG a).length lc)) ⟨qr, 6, none⟩ (.slice sa (namesG b).length sc)) ⟨qr, 7, none⟩ (.slice none 0 0)) ⟨qr, 8, none⟩ (.slice none 0 0))).heap[y]? = w2.heap[y]? := fun y hy => by
    have hne : y ≠ qr := by omega
    repeat rw [Below.heap_setCell _ _ _ _ hne]
  have HA1 := Lib.hid (HO2.out.above hh).rd
  have HA2 := Lib.hid (HO3.out.above hh).rd
  clear hbr2 hh
  go_wp2
  generalize hwf : (World.setCell (World.setCell (World.setCell (World.setCell (World.setCell (World.setCell (World.setCell (World.setCell (World.setCell w2 ⟨qr, 0, none⟩ (.bool true)) ⟨qr, 1, none⟩ (.bool false)) ⟨qr, 2, none⟩ (.int .u64 1)) ⟨qr, 3, none⟩ (.int .i64 0)) ⟨qr, 4, none⟩ (.bool false)) ⟨qr, 5, none⟩ (.slice la (namesG a).length lc)) ⟨qr, 6, none⟩ (.slice sa (namesG b).length sc)) ⟨qr, 7, none⟩ (.slice none 0 0)) ⟨qr, 8, none⟩ (.slice none 0 0)) = wf at *
  have f0 := HF.out.cell 0
  have f1 := HF.out.cell 1
  have f2 := HF.out.cell 2
  have f3 := HF.out.cell 3
  have f4 := HF.out.cell 4
  have f5 := HF.out.cell 5
  have f6 := HF.out.cell 6
  have f7 := HF.out.cell 7
  have f8 := HF.out.cell 8
  simp at f0 f1 f2 f3 f4 f5 f6 f7 f8
  refine bodyPost_ret (v := .agg #[.bool true, .bool false, .int .u64 1, .int .i64 0, .bool false, .slice la (namesG a).length lc, .slice sa (namesG b).length sc, .slice none 0 0, .slice none 0 0]) ?_ rfl ?_
  · simp [results, Try.f24, go_sem, f0, f1, f2, f3, f4, f5, f6, f7, f8]
  · refine ⟨⟨true, false, 1, 0, false, namesG a, namesG b, [], la, lc, sa, sc, none, 0, none, 0, 0⟩, rfl, ⟨rfl, rfl, rfl, rfl, rfl, HA1.out, HA2.out, InG.nil_ _⟩, HBF.out⟩
end Go.Proofs.Yteplcpiamocclaa
