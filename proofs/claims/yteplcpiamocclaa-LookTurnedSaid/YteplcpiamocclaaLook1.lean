/-
  LOOK: what is known; Index, Contains.
-/
import Derived.Test.YteplcpiamocclaaSeen
import Derived.Deep.LoopGhost
import Derived.Deep.CutRange
import Derived.Deep.CutBlock
import Derived.Deep.MidRow
namespace Go.Proofs.Yteplcpiamocclaa
open Go.RowKit Reg Go.ChangeShapes

theorem InG.slice_ {w : World} {v : Value} {gs : List Gd} (h : InG w v gs) : ∃ a c, v = .slice a gs.length c := by
  obtain ⟨a, c, e, _⟩ := h.open_
  exact ⟨a, c, e⟩
set_option maxRecDepth 100000 in
theorem known_any0 (v : Value) (es : List El) (w0 w : World) (hv : InS w0 v es) (hw : Below w0.heap.size w0 w) :
    Calls Try.prog 32 #[v] w fun e w' => ∃ u, e = .returned (.agg #[.int .u64 0, .int .i64 0, .bool false, u]) ∧ InG w0 u (kn es) ∧ Below w.heap.size w w' := by
  obtain ⟨a, c, rfl, hc, hm, hx⟩ := hv
  obtain ⟨n, hn⟩ : ∃ z, z = es.length := ⟨_, rfl⟩
  rw [← hn] at hx hc hm
  rw [← hn]
  have HW := Lib.hid hw
  have HX := Lib.hid hx
  have HM := Lib.hid hm
  have HN := Lib.hid hn
  clear hx hc hm hn hw
  go_enter Try.func32, Try.ntmps32
  have hb0 := (Below.refl w.heap.size w).alloc (Nat.le_refl _) (Obj.cells #[.int .u64 0, .int .i64 0, .bool false, .slice none 0 0] 37)
  have br := Blk.new w 37 #[.int .u64 0, .int .i64 0, .bool false, .slice none 0 0]
  have bo := Blk.new (w.alloc (Obj.cells #[.int .u64 0, .int .i64 0, .bool false, .slice none 0 0] 37)) 37 #[.int .u64 0, .int .i64 0, .bool false, .slice none 0 0]
  have hb1 := hb0.alloc hb0.size (Obj.cells #[.int .u64 0, .int .i64 0, .bool false, .slice none 0 0] 37)
  have br1 := br.keep ((Below.refl _ _).alloc (Nat.le_refl _) (Obj.cells #[.int .u64 0, .int .i64 0, .bool false, .slice none 0 0] 37))
  rw [World.size_alloc] at bo
  have HB1 := Lib.hid hb1
  have HBR := Lib.hid br1
  have HBO := Lib.hid bo
  clear hb0 br bo hb1 br1
  go_wp2_with fail
  generalize (w.alloc (Obj.cells #[.int .u64 0, .int .i64 0, .bool false, .slice none 0 0] 37)).alloc (Obj.cells #[.int .u64 0, .int .i64 0, .bool false, .slice none 0 0] 37) = w1 at *
  obtain ⟨qr, hqr⟩ : ∃ z, z = w.heap.size := ⟨_, rfl⟩
  obtain ⟨qo, hqo⟩ : ∃ z, z = w.heap.size + 1 := ⟨_, rfl⟩
  have HQ := Lib.hid (show w.heap.size ≤ qr ∧ w.heap.size ≤ qo ∧ qr ≠ qo by omega)
  rw [← hqo] at HBO
  rw [← hqr] at HBR
  rw [← hqo, ← hqr]
  clear hqr hqo
  go_loopw [8] (fun i wr => ∃ (k : Nat) (ov : Value), k ≤ n ∧ i = .int .i64 k ∧ Below w.heap.size w wr ∧ Blk wr qr 37 #[.int .u64 0, .int .i64 0, .bool false, .slice none 0 0] ∧ Blk wr qo 37 #[.int .u64 0, .int .i64 0, .bool false, ov] ∧ InG w0 ov (kn (es.take k))) (fun i _ => n - (intOf i).toNat)
  case atStart => exact ⟨0, _, Nat.zero_le _, rfl, HB1.out, HBR.out, HBO.out, InG.nil_ _⟩
  case round =>
    obtain ⟨k, ov, hk, rfl, hb, hbr, hbo, ho⟩ := hrel
    have HB := Lib.hid hb
    have HBR := Lib.hid hbr
    have HBO := Lib.hid hbo
    have HO := Lib.hid ho
    have hm := HM.out
    unfold maxLen at hm
    obtain ⟨oa, oc, rfl⟩ := ho.slice_
    have d3 := hbo.cell 3
    simp at d3
    by_cases hkn : k < n
    · obtain ⟨⟨g, off, rfl, hs⟩, hok⟩ := HX.out k hkn
      obtain ⟨x, hx⟩ : ∃ z, z = nth es k := ⟨_, rfl⟩
      have hsn := take_snoc (es := es) (k := k) (by have := HN.out; omega)
      have hs := (hs.keep (HW.out.trans (HB.out.mono HW.out.size)))
      change SeenAt wr g (off + k * 9) (nth es k) at hs
      change ElOK w0 (nth es k) at hok
      rw [← hx] at hs hok hsn
      obtain ⟨s0, s1, s2, s3, s4, s5, s6, s7, s8⟩ := hs
      dsimp only [El.vl, El.vs, El.vt, El.vi] at s5 s6 s7 s8
      have HOK := Lib.hid hok
      have HSN := Lib.hid hsn
      have HKN := Lib.hid hkn
      have i1 : (k : Int) < (n : Int) := by omega
      have I9 := Lib.hid (show (k : Int) < 9223372036854775807 by omega)
      clear hx hsn hok hb hbr hbo ho hkn hk hm
      have hks := kn_snoc (es.take k) x
      rw [← HSN.out] at hks
      obtain ⟨kz, hkz⟩ : ∃ z, z = kn (es.take k) := ⟨_, rfl⟩
      rw [← hkz] at hks d3 HBO HO
      have HKS := Lib.hid hks
      have hba := (Below.refl wr.heap.size wr).alloc (Nat.le_refl _) (Obj.cells x.cells 40)
      have HBR2 := Lib.hid (HBR.out.keep hba)
      have HBO2 := Lib.hid (HBO.out.keep hba)
      have HB2 := Lib.hid (HB.out.trans (hba.mono HB.out.size))
      by_cases hlt : kz.length < x.line.length
      · rw [if_pos hlt] at hks
        have i2 : (kz.length : Int) < (x.line.length : Int) := by omega
        have HKS := Lib.hid hks
        have hfz := HBO2.out.frozen 3
        have HBO3 := Lib.hid (HBO2.out.set 3 x.vl)

        have d3 := cell_later hba d3
        dsimp only [El.cells, El.vl, El.vs, El.vt, El.vi] at d3 hfz
        clear hlt hks hkz hba hs
        have i9 := I9.out
        go_wp2
        have hkn := HKN.out
        refine ⟨⟨k + 1, x.vl, by omega, by go_num, HB2.out.setCell HQ.out.2.1 _, HBR2.out.far (fun e => HQ.out.2.2 e) _, HBO3.out, by rw [HKS.out]; exact HOK.out.1⟩, by simp [intOf]; omega⟩
      · rw [if_neg hlt] at hks
        have i2 : ¬ ((kz.length : Int) < (x.line.length : Int)) := by omega
        have HKS := Lib.hid hks
        have d3 := cell_later hba d3
        dsimp only [El.cells, El.vl, El.vs, El.vt, El.vi] at d3
        clear hlt hks hkz hba hs
        have i9 := I9.out
        go_wp2
        have hkn := HKN.out
        refine ⟨⟨k + 1, _, by omega, by go_num, HB2.out, HBR2.out, HBO2.out, by rw [HKS.out]; exact HO.out⟩, by simp [intOf]; omega⟩
    · obtain rfl : k = n := by omega
      have i1 : ¬ ((k : Int) < (k : Int)) := by omega
      have hfz0 := hbr.frozen 0
      have hfz1 := hbr.frozen 1
      have hfz2 := hbr.frozen 2
      have hfz3 := hbr.frozen 3
      have d0 := hbo.cell 0
      have d1 := hbo.cell 1
      have d2 := hbo.cell 2
      have e0 := hbr.cell 0
      have e1 := hbr.cell 1
      have e2 := hbr.cell 2
      have e3 := hbr.cell 3
      simp at d0 d1 d2 e0 e1 e2 e3
      have HBF := Lib.hid (((((HB.out.setCell (a := w) (p := ⟨qr, 0, none⟩) HQ.out.1 (.int .u64 0)).setCell (p := ⟨qr, 1, none⟩) HQ.out.1 (.int .i64 0)).setCell (p := ⟨qr, 2, none⟩) HQ.out.1 (.bool false)).setCell (p := ⟨qr, 3, none⟩) HQ.out.1 (.slice oa (kn (es.take k)).length oc)))
      have htk : es.take k = es := by have := HN.out; rw [this]; exact List.take_length
      clear hkn hk hm hb hbr hbo ho
      have hbf := (((HBR.out.set 0 (.int .u64 0)).set 1 (.int .i64 0)).set 2 (.bool false)).set 3 (.slice oa (kn (es.take k)).length oc)
      rw [htk] at hbf HBF HO
      have HF := Lib.hid hbf
      clear hbf
      go_wp2
      generalize (((wr.setCell ⟨qr, 0, none⟩ (.int .u64 0)).setCell ⟨qr, 1, none⟩ (.int .i64 0)).setCell ⟨qr, 2, none⟩ (.bool false)).setCell ⟨qr, 3, none⟩ (.slice oa (kn es).length oc) = wf at *
      have f0 := HF.out.cell 0
      have f1 := HF.out.cell 1
      have f2 := HF.out.cell 2
      have f3 := HF.out.cell 3
      simp at f0 f1 f2 f3
      refine bodyPost_ret (v := .agg #[.int .u64 0, .int .i64 0, .bool false, .slice oa (kn es).length oc]) ?_ rfl ?_
      · simp [results, Try.f32, go_sem, f0, f1, f2, f3]
      · exact ⟨_, rfl, HO.out, HBF.out⟩
theorem known_any (v : Value) (es : List El) (w : World) (hv : InS w v es) :
    Calls Try.prog 32 #[v] w fun e w' => ∃ u, e = .returned (.agg #[.int .u64 0, .int .i64 0, .bool false, u]) ∧ InG w' u (kn es) ∧ Below w.heap.size w w' :=
  (known_any0 v es w w hv (Below.refl _ _)).mono fun _ _ ⟨u, he, hu, hb⟩ => ⟨u, he, hu.keep hb, hb⟩
end Go.Proofs.Yteplcpiamocclaa
