/-
  THE FURTHER ONE OF TWO LINES, the reference's way; two lines compared.
-/
import Derived.Test.YtfkgidljgbhccaaLineMerge
namespace Go.Proofs.Ytfkgidljgbhccaa
open Go.RowKit Reg

set_option maxRecDepth 100000 in
theorem further_any (v v' : Value) (b a : Ln) (w : World) (hv : InL w v b) (hv' : InL w v' a) :
    Calls Try.prog 27 #[v, v'] w fun e w' => e = .returned (.bool (further b a)) ∧ Below w.heap.size w w' := by
  obtain ⟨sl, rfl, hs, -, -⟩ := hv
  obtain ⟨sl', rfl, hs', -, -⟩ := hv'
  obtain ⟨p, c, rfl, -, -⟩ := hs.open_
  obtain ⟨p', c', rfl, -, -⟩ := hs'.open_
  clear hs hs'
  obtain ⟨r, hr⟩ : ∃ r, r = further b a := ⟨_, rfl⟩
  rw [← hr]
  unfold further at hr
  obtain ⟨E, B, L, l⟩ := b
  obtain ⟨E', B', L', l'⟩ := a
  simp only at hr ⊢
  generalize l.length = n at *
  generalize l'.length = n' at *
  have hE : (¬ E = E' ∧ r = decide (E' < E)) ∨ (E = E' ∧ ¬ (n : Int) = (n' : Int) ∧ r = decide ((n' : Int) < (n : Int))) ∨ (E = E' ∧ n = n' ∧ r = (L && !L')) := by
    by_cases h1 : E = E'
    · by_cases h2 : n = n'
      · right; right
        exact ⟨h1, h2, by rw [hr, if_neg (by simpa using h1), if_neg (by simpa using h2)]⟩
      · right; left
        refine ⟨h1, by omega, ?_⟩
        rw [hr, if_neg (by simpa using h1), if_pos h2]
        simp
    · exact .inl ⟨h1, by rw [hr, if_pos h1]⟩
  clear hr
  rcases hE with ⟨h1, rfl⟩ | ⟨rfl, h2, rfl⟩ | ⟨rfl, rfl, rfl⟩
  · go_enter Try.func27, Try.ntmps27
    go_wp2
    go_ret
    exact ⟨rfl, ((Below.refl _ _).alloc (Nat.le_refl _) _).alloc (by simp) _⟩
  · go_enter Try.func27, Try.ntmps27
    go_wp2
    go_ret
    exact ⟨by simp, ((Below.refl _ _).alloc (Nat.le_refl _) _).alloc (by simp) _⟩
  · cases L
    all_goals
      go_enter Try.func27, Try.ntmps27
      go_wp2
      go_ret
      exact ⟨rfl, ((Below.refl _ _).alloc (Nat.le_refl _) _).alloc (by simp) _⟩

set_option maxRecDepth 100000 in
theorem ownR_any (v : Value) (x : Ln) (w : World) (hv : InL w v x) (l1 : x.l.length ≤ 2 ^ 43) :
    Calls Try.prog 28 #[v] w fun e w' => ∃ u, e = .returned u ∧ OwL w' w.heap.size u x ∧ Below w.heap.size w w' := by
  obtain ⟨sl, rfl, hs, hE, hB⟩ := hv
  obtain ⟨p, c, rfl, -, -⟩ := hs.open_
  have hb0 := ((Below.refl w.heap.size w).alloc (Nat.le_refl _) (Obj.cells #[.int .u64 x.E, .int .i64 x.B, .bool x.L, .slice p x.l.length c] 25)).alloc (by simp) (Obj.cells #[.int .u64 0, .int .i64 0, .bool false, .slice none 0 0] 25)
  have b1 := (Blk.new w 25 #[.int .u64 x.E, .int .i64 x.B, .bool x.L, .slice p x.l.length c]).alloc (Obj.cells #[.int .u64 0, .int .i64 0, .bool false, .slice none 0 0] 25)
  have b3 := Blk.newAt (w := w.alloc (Obj.cells #[.int .u64 x.E, .int .i64 x.B, .bool x.L, .slice p x.l.length c] 25)) 25 #[.int .u64 0, .int .i64 0, .bool false, .slice none 0 0] (g := w.heap.size + 1) (by simp)
  obtain ⟨q2, hq2⟩ : ∃ q, q = w.heap.size + 1 := ⟨_, rfl⟩
  rw [← hq2] at b3
  have HQ := Lib.hid hq2
  have HS := Lib.hid hs
  have HB0 := Lib.hid hb0
  have HB1 := Lib.hid b1
  have HB3 := Lib.hid b3
  obtain ⟨n, hn⟩ : ∃ n, n = x.l.length := ⟨_, rfl⟩
  have HN := Lib.hid hn
  have hA := app_guids (w := (w.alloc (Obj.cells #[.int .u64 x.E, .int .i64 x.B, .bool x.L, .slice p x.l.length c] 25)).alloc (Obj.cells #[.int .u64 0, .int .i64 0, .bool false, .slice none 0 0] 25)) (base := w.heap.size + 1 + 1) 23 (OwG.nil_ _ _) (hs.keep hb0) (by simp; omega) (by simp)
  rw [List.nil_append] at hA
  rw [← hn] at HB0 HB1 HB3 HS hA
  rw [← hn]
  have HA := Lib.hid hA
  clear hs hb0 b1 b3 hq2 hn hA
  go_enter Try.func28, Try.ntmps28
  go_wp2_with (at_builtin; refine wpList_append_run rfl _ _ 23 rfl _ _ rfl rfl _ HA.out ?_)
  refine Later.mk fun w1 hw1 v' w5 hp => ?_
  subst hw1
  obtain ⟨ua, uc, rfl, -, -⟩ := hp.1.rd.open_
  rw [← HN.out] at hp ⊢
  have hbb : Below (w.heap.size + 1 + 1) ((w.alloc (Obj.cells #[.int .u64 x.E, .int .i64 x.B, .bool x.L, .slice p n c] 25)).alloc (Obj.cells #[.int .u64 0, .int .i64 0, .bool false, .slice none 0 0] 25)) w5 := hp.below (OwG.nil_ _ _) (by simp)
  have hO6 : ∀ w6, w6 = (w5.setCell ⟨w.heap.size, 3, none⟩ (.slice ua n uc)).setRow q2 #[.int .u64 x.E, .int .i64 x.B, .bool x.L, .slice ua n uc] → OwG w6 w.heap.size (.slice ua n uc) x.l := by
    rintro w6 rfl
    refine (hp.1.above fun b hbb => ?_).mono (by omega)
    have := HQ.out
    simp only [World.setRow, World.setCell, Array.getElem?_modify]
    rw [if_neg (by omega), if_neg (by omega)]
  have HO := Lib.hid hO6
  have H1 := Lib.hid (HB1.out.below hbb (by omega))
  have H3 := Lib.hid (HB3.out.below hbb (by have := HQ.out; omega))
  have HB := Lib.hid (HB0.out.trans (hbb.mono (by omega)))
  clear hp hbb hO6 HB0 HB1 HB3 HA
  have hf1 := H1.out.frozen 3
  have hold := H1.out.cell 3
  simp at hold
  have H1n := Lib.hid (H1.out.set 3 (.slice ua n uc))
  have H3n := Lib.hid (H3.out.far (p := ⟨w.heap.size, 3, none⟩) (by have := HQ.out; simp; omega) (.slice ua n uc))
  have HBn := Lib.hid (HB.out.setCell (p := ⟨w.heap.size, 3, none⟩) (Nat.le_refl _) (.slice ua n uc))
  have hq : w.heap.size + 1 = q2 := HQ.out.symm
  rw [hq]
  clear hq
  go_wp2_with (first | refine wpList_load_row rfl 25 _ rfl w.heap.size rfl 25 #[.int .u64 x.E, .int .i64 x.B, .bool x.L, .slice ua n uc] (0, 0) _ H1n.out Try.underlying25 rfl (by kernel_rfl) ?_ | refine wpList_store_then rfl 25 _ _ rfl q2 #[.int .u64 x.E, .int .i64 x.B, .bool x.L, .slice ua n uc] rfl rfl 25 _ H3n.out (by kernel_rfl) rfl (lineC_one _ _ _ _ _ _) ?_)
  refine Later.mk fun w6 hw6 => ?_
  have b6 : Blk w6 q2 25 #[.int .u64 x.E, .int .i64 x.B, .bool x.L, .slice ua n uc] := by rw [hw6]; exact H3n.out.row _
  have hb6 : Below w.heap.size w w6 := by rw [hw6]; exact Below.setRow HBn.out (by have := HQ.out; omega) _
  have B6 := Lib.hid b6
  have HB6 := Lib.hid hb6
  have HO6 := Lib.hid (HO.out w6 hw6)
  clear hw6 b6 hb6 hf1 hold HO H1n H3n HBn H1 H3 HB
  go_wp2
  refine bodyPost_ret (results_cell_row Try.results28 _ _ q2 25 _ (0, 0) _ rfl B6.out Try.underlying25 rfl (by kernel_rfl)) rfl ⟨_, rfl, ⟨_, rfl, HO6.out, hE, hB⟩, HB6.out⟩

set_option maxRecDepth 100000 in
set_option maxHeartbeats 1000000 in
theorem mergeR_any (v v' : Value) (x y : Ln) (w : World) (hv : InL w v x) (hv' : InL w v' y) (l1 : x.l.length ≤ 2 ^ 43) (l2 : y.l.length ≤ 2 ^ 43) :
    Calls Try.prog 12 #[v, v'] w fun e w' => ∃ u, e = .returned u ∧ OwL w' w.heap.size u (if further y x = true then y else x) ∧ Below w.heap.size w w' := by
  have hf := fun w1 hb => further_any v' v y x w1 (hv'.keep (w' := w1) hb) (hv.keep hb)
  have ho1 := fun w1 hb => ownR_any v x w1 (hv.keep (w' := w1) hb) l1
  have ho2 := fun w1 hb => ownR_any v' y w1 (hv'.keep (w' := w1) hb) l2
  obtain ⟨z, hz⟩ : ∃ z, z = (if further y x = true then y else x) := ⟨_, rfl⟩
  rw [← hz]
  have HZ := Lib.hid hz
  clear hz
  obtain ⟨sl, rfl, hs, hE, hB⟩ := hv
  obtain ⟨sl', rfl, hs', hE', hB'⟩ := hv'
  have HF := Lib.hid hf
  have HO1 := Lib.hid ho1
  have HO2 := Lib.hid ho2
  clear hf ho1 ho2 hs hs'
  go_enter Try.func12, Try.ntmps12
  go_wp2_with fail
  have hb1 := (((Below.refl w.heap.size w).alloc (Nat.le_refl _) (Obj.cells #[.int .u64 x.E, .int .i64 x.B, .bool x.L, sl] 25)).alloc (by simp) (Obj.cells #[.int .u64 y.E, .int .i64 y.B, .bool y.L, sl'] 25)).alloc (by simp; omega) (Obj.cells #[.int .u64 0, .int .i64 0, .bool false, .slice none 0 0] 25)
  have b1 := ((Blk.new w 25 #[.int .u64 x.E, .int .i64 x.B, .bool x.L, sl]).alloc (Obj.cells #[.int .u64 y.E, .int .i64 y.B, .bool y.L, sl'] 25)).alloc (Obj.cells #[.int .u64 0, .int .i64 0, .bool false, .slice none 0 0] 25)
  have b2 := (Blk.newAt (w := w.alloc (Obj.cells #[.int .u64 x.E, .int .i64 x.B, .bool x.L, sl] 25)) 25 #[.int .u64 y.E, .int .i64 y.B, .bool y.L, sl'] (g := w.heap.size + 1) (by simp)).alloc (Obj.cells #[.int .u64 0, .int .i64 0, .bool false, .slice none 0 0] 25)
  have b3 := Blk.newAt (w := (w.alloc (Obj.cells #[.int .u64 x.E, .int .i64 x.B, .bool x.L, sl] 25)).alloc (Obj.cells #[.int .u64 y.E, .int .i64 y.B, .bool y.L, sl'] 25)) 25 #[.int .u64 0, .int .i64 0, .bool false, .slice none 0 0] (g := w.heap.size + 1 + 1) (by simp)
  obtain ⟨q1, hq1⟩ : ∃ q, q = w.heap.size + 1 := ⟨_, rfl⟩
  obtain ⟨q2, hq2⟩ : ∃ q, q = w.heap.size + 1 + 1 := ⟨_, rfl⟩
  rw [← hq2] at b3
  rw [← hq1] at b2
  rw [← hq2, ← hq1]
  have HQ := Lib.hid (And.intro hq1 hq2)
  refine (HF.out _ hb1).mono ?_
  rintro e w3 ⟨rfl, hb⟩
  have H1 := Lib.hid (b1.keep hb)
  have H2 := Lib.hid (b2.keep hb)
  have H3 := Lib.hid (b3.keep hb)
  have HB := Lib.hid (hb1.trans (hb.mono hb1.size))
  clear b1 b2 b3 hb1 hb hq1 hq2
  cases hf : further y x with
  | true =>
    have hzx : y = z := by rw [HZ.out, if_pos hf]
    subst hzx
    clear hf
    go_wp2_with (first | refine wpList_load_row rfl 25 _ rfl q1 rfl 25 #[.int .u64 y.E, .int .i64 y.B, .bool y.L, sl'] (0, 0) _ H2.out Try.underlying25 rfl (by kernel_rfl) ?_)
    refine (HO2.out _ HB.out).mono ?_
    rintro e w5 ⟨u, rfl, hu, hb⟩
    have hu2 := hu
    obtain ⟨su, rfl, hsu, -, -⟩ := hu2
    obtain ⟨ua, uc, rfl, -, -⟩ := hsu.rd.open_
    have hlt3 := H3.out.lt
    have hO6 : ∀ w6, w6 = w5.setRow q2 #[.int .u64 y.E, .int .i64 y.B, .bool y.L, .slice ua y.l.length uc] → OwG w6 w.heap.size (.slice ua y.l.length uc) y.l := by
      rintro w6 rfl
      refine (hsu.above fun b hbb => ?_).mono HB.out.size
      simp only [World.setRow, Array.getElem?_modify]
      rw [if_neg (by omega)]
    have HO := Lib.hid hO6
    have H3 := Lib.hid (H3.out.keep hb)
    have HB := Lib.hid (HB.out.trans (hb.mono HB.out.size))
    clear hu hsu hlt3 hO6 hb
    go_wp2_with (first | refine wpList_store_then rfl 25 _ _ rfl q2 #[.int .u64 y.E, .int .i64 y.B, .bool y.L, .slice ua y.l.length uc] rfl rfl 25 _ H3.out (by kernel_rfl) rfl (lineC_one _ _ _ _ _ _) ?_)
    refine Later.mk fun w6 hw6 => ?_
    have b6 : Blk w6 q2 25 #[.int .u64 y.E, .int .i64 y.B, .bool y.L, .slice ua y.l.length uc] := by rw [hw6]; exact H3.out.row _
    have hb6 : Below w.heap.size w w6 := by rw [hw6]; exact Below.setRow HB.out (by have := HQ.out; omega) _
    have B6 := Lib.hid b6
    have HB6 := Lib.hid hb6
    have HO6 := Lib.hid (HO.out w6 hw6)
    clear hw6 b6 hb6 HO H3 HB
    go_wp2
    refine bodyPost_ret (results_cell_row Try.results12 _ _ q2 25 _ (0, 0) _ rfl B6.out Try.underlying25 rfl (by kernel_rfl)) rfl ⟨_, rfl, ⟨_, rfl, HO6.out, hE', hB'⟩, HB6.out⟩
  | false =>
    have hzx : x = z := by rw [HZ.out, if_neg (by rw [hf]; exact Bool.false_ne_true)]
    subst hzx
    clear hf
    go_wp2_with (first | refine wpList_load_row rfl 25 _ rfl w.heap.size rfl 25 #[.int .u64 x.E, .int .i64 x.B, .bool x.L, sl] (0, 0) _ H1.out Try.underlying25 rfl (by kernel_rfl) ?_)
    refine (HO1.out _ HB.out).mono ?_
    rintro e w5 ⟨u, rfl, hu, hb⟩
    have hu2 := hu
    obtain ⟨su, rfl, hsu, -, -⟩ := hu2
    obtain ⟨ua, uc, rfl, -, -⟩ := hsu.rd.open_
    have hlt3 := H3.out.lt
    have hO6 : ∀ w6, w6 = w5.setRow q2 #[.int .u64 x.E, .int .i64 x.B, .bool x.L, .slice ua x.l.length uc] → OwG w6 w.heap.size (.slice ua x.l.length uc) x.l := by
      rintro w6 rfl
      refine (hsu.above fun b hbb => ?_).mono HB.out.size
      simp only [World.setRow, Array.getElem?_modify]
      rw [if_neg (by omega)]
    have HO := Lib.hid hO6
    have H3 := Lib.hid (H3.out.keep hb)
    have HB := Lib.hid (HB.out.trans (hb.mono HB.out.size))
    clear hu hsu hlt3 hO6 hb
    go_wp2_with (first | refine wpList_store_then rfl 25 _ _ rfl q2 #[.int .u64 x.E, .int .i64 x.B, .bool x.L, .slice ua x.l.length uc] rfl rfl 25 _ H3.out (by kernel_rfl) rfl (lineC_one _ _ _ _ _ _) ?_)
    refine Later.mk fun w6 hw6 => ?_
    have b6 : Blk w6 q2 25 #[.int .u64 x.E, .int .i64 x.B, .bool x.L, .slice ua x.l.length uc] := by rw [hw6]; exact H3.out.row _
    have hb6 : Below w.heap.size w w6 := by rw [hw6]; exact Below.setRow HB.out (by have := HQ.out; omega) _
    have B6 := Lib.hid b6
    have HB6 := Lib.hid hb6
    have HO6 := Lib.hid (HO.out w6 hw6)
    clear hw6 b6 hb6 HO H3 HB
    go_wp2
    refine bodyPost_ret (results_cell_row Try.results12 _ _ q2 25 _ (0, 0) _ rfl B6.out Try.underlying25 rfl (by kernel_rfl)) rfl ⟨_, rfl, ⟨_, rfl, HO6.out, hE, hB⟩, HB6.out⟩
end Go.Proofs.Ytfkgidljgbhccaa
