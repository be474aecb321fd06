/-
  IN WHICH BLOCKS TWO IMAGES DIFFER, walked.
-/
import Derived.Test.YtmljeifooamlcaaImgWalks
namespace Go.Proofs.Ytmljeifooamlcaa
open Go.RowKit Reg

theorem diffR_any (v v' : Value) (zs zs' : List Int) (w : World) (hv : InI w v zs) (hv' : InI w v' zs') (h1 : zs.length ≤ 1000) (h1' : zs'.length ≤ 1000) :
    Calls Try.prog 15 #[v, v'] w fun e w' => ∃ u, e = .returned u ∧ OwI w' w.heap.size u (diffOf zs zs') ∧ Below w.heap.size w w' := by
  obtain ⟨a, c, rfl, _, _⟩ := hv.open_
  obtain ⟨a', c', rfl, _, _⟩ := hv'.open_
  unfold diffOf
  have hM : ∃ M, max zs.length zs'.length = M ∧ M ≤ 1000 := ⟨_, rfl, by omega⟩
  obtain ⟨M, hM, hM1⟩ := hM
  have HV := Lib.hid hv
  have HV' := Lib.hid hv'
  rw [hM]
  generalize hZ : (fun j => zs.getD j 0) = Z at *
  generalize hZ' : (fun j => zs'.getD j 0) = Z' at *
  have hp : ∀ (w1 : World) (k : Nat), Below w.heap.size w w1 → Calls Try.prog 22 #[.slice a zs.length c, .int .i64 (k : Int)] w1 fun e w' => e = .returned (.int .i64 (Z k)) ∧ w1 = w' := by
    intro w1 k hb
    subst hZ
    exact place_any _ zs k w1 (hv.keep hb)
  have hp' : ∀ (w1 : World) (k : Nat), Below w.heap.size w w1 → Calls Try.prog 22 #[.slice a' zs'.length c', .int .i64 (k : Int)] w1 fun e w' => e = .returned (.int .i64 (Z' k)) ∧ w1 = w' := by
    intro w1 k hb
    subst hZ'
    exact place_any _ zs' k w1 (hv'.keep hb)
  have hM2 : zs.length ≤ M ∧ zs'.length ≤ M ∧ (M = zs.length ∨ M = zs'.length) := by omega
  clear hv hv' hZ hZ' HV HV' h1 h1' hM
  generalize zs.length = n at *
  generalize zs'.length = n' at *
  have HP := Lib.hid hp
  have HP' := Lib.hid hp'
  have HM := Lib.hid hM2
  clear hp hp' hM2
  go_enter Try.func15, Try.ntmps15
  go_wp2
  go_loopw [5, 6] (fun v i wr => ∃ k : Nat, k ≤ M ∧ i = .int .i64 k ∧ Below w.heap.size w wr ∧ OwI wr w.heap.size v (diffTo Z Z' k)) (fun _ i _ => M - (intOf i).toNat)
  case atStart => exact ⟨0, Nat.zero_le _, rfl, Below.refl _ _, OwI.nil_ _ _⟩
  case round =>
    obtain ⟨k, hk, rfl, hb, ho⟩ := hrel
    have HB := Lib.hid hb
    have HO := Lib.hid ho
    clear hb ho
    have k1 : (k : Int) ≤ 1000 := by omega
    by_cases hkM : k < M
    · rcases Int.lt_or_le (n : Int) (n' : Int) with i3 | i3
      all_goals
        first | have i1 : (k : Int) < (n' : Int) := (by have := HM.out; omega) | have i1 : (k : Int) < (n : Int) := (by have := HM.out; omega)
        go_wp2_with fail
        refine (HP.out _ k HB.out).mono ?_
        rintro e w4 ⟨rfl, rfl⟩
        go_wp2_with fail
        refine (HP'.out _ k HB.out).mono ?_
        rintro e w4 ⟨rfl, rfl⟩
        by_cases hz : Z k = Z' k
        · have e1 := diffTo_eq Z Z' k hz
          have E1 := Lib.hid e1
          clear e1
          go_wp2
          refine ⟨⟨k + 1, by omega, by go_num, HB.out, by rw [E1.out]; exact HO.out⟩, by simp [intOf]; omega⟩
        · have e1 := diffTo_ne Z Z' k hz
          have hA := app_int 22 (k : Int) HO.out (WalkArith.wf_i64 (by omega)) (by have := diffTo_length Z Z' k; omega) HB.out.size
          rw [← e1] at hA
          have HA := Lib.hid hA
          clear hA e1
          go_wp2_with (at_builtin; refine wpList_append_run rfl _ _ 22 rfl _ _ rfl rfl _ HA.out ?_)
          refine Later.mk fun _ _ v' w' hp => ?_
          have HB1 := Lib.hid (HB.out.trans (hp.below HO.out HB.out.size))
          have HO1 := Lib.hid hp.1
          clear hp HA
          go_wp2
          refine ⟨⟨k + 1, by omega, by go_num, HB1.out, HO1.out⟩, by simp [intOf]; omega⟩
    · obtain rfl : k = M := by omega
      rcases Int.lt_or_le (n : Int) (n' : Int) with i3 | i3
      all_goals
        first | have i1 : (n' : Int) ≤ (k : Int) := (by have := HM.out; omega) | have i1 : (n : Int) ≤ (k : Int) := (by have := HM.out; omega)
        have i2 : (n' : Int) ≤ (k : Int) := by have := HM.out; omega
        have i4 : (n : Int) ≤ (k : Int) := by have := HM.out; omega
        go_wp2
        go_ret
        exact ⟨_, rfl, HO.out, HB.out⟩

/-- an image, or its beginning, in an array -/
def shortOf (zs : List Int) : List Value := (List.range 8).map fun j => .int .i64 (zs.getD j 0)
theorem shortOf_splice (zs : List Int) (h : zs.length ≤ 8) : splice (List.replicate 8 (Value.int .i64 0)) 0 (zs.map (.int .i64)) = shortOf zs := by
  match zs, h with
  | [], _ => rfl
  | [_], _ => rfl
  | [_, _], _ => rfl
  | [_, _, _], _ => rfl
  | [_, _, _, _], _ => rfl
  | [_, _, _, _, _], _ => rfl
  | [_, _, _, _, _, _], _ => rfl
  | [_, _, _, _, _, _, _], _ => rfl
  | [_, _, _, _, _, _, _, _], _ => rfl
  | _ :: _ :: _ :: _ :: _ :: _ :: _ :: _ :: _ :: _, h => simp at h
theorem shortOf_one (zs : List Int) : (shortOf zs).toArray.all (fun x => x.oneCell') = true := by
  simp [shortOf]
  intro x _
  rfl
theorem short_any (v : Value) (zs : List Int) (w : World) (hv : InI w v zs) (h8 : zs.length ≤ 8) :
    Calls Try.prog 20 #[v] w fun e w' => e = .returned (.agg (shortOf zs).toArray) ∧ Below w.heap.size w w' := by
  obtain ⟨a, c, rfl, _, hx⟩ := hv.open_
  have i1 : (zs.length : Int) ≤ 8 := by omega
  have hpos : ∀ w', Below w.heap.size w w' → 0 < (zs.map (Value.int .i64)).length → ∃ ad, a = some ad ∧ ∀ j v, (zs.map (Value.int .i64))[j]? = some v → w'.cell? (ad.add j) = some v := by
    intro w' hb h0
    rw [List.length_map] at h0
    obtain ⟨g, off, rfl, _⟩ := hx 0 h0
    refine ⟨_, rfl, fun j u hj => ?_⟩
    have hjl : j < zs.length := by
      have := (List.getElem?_eq_some_iff.1 hj).1
      simpa using this
    obtain ⟨g', off', e, hc⟩ := hx j hjl
    cases e
    rw [addr_add, cell_later hb hc, ← hj]
    simp [hjl]
  have hs := shortOf_splice zs h8
  have hone := ints_oneCell .i64 zs
  have hlen : (zs.map (Value.int .i64)).length = Nat.min zs.length 8 := by rw [List.length_map]; exact (Nat.min_eq_left h8).symm
  have hn : zs.length = zs.length := rfl
  generalize zs.map (Value.int .i64) = xs at *
  have HP := Lib.hid hpos
  have HS := Lib.hid hs
  have HO := Lib.hid hone
  have HL := Lib.hid hlen
  have hl8 : 0 + xs.length ≤ (List.replicate 8 (Value.int .i64 0)).length := by rw [hlen, List.length_replicate, Nat.zero_add]; exact Nat.min_le_right _ _
  have HL8 := Lib.hid hl8
  have H1 := Lib.hid (shortOf_one zs)
  clear hx hv hpos hs hone hlen h8 hn hl8
  generalize shortOf zs = ss at *
  generalize zs.length = n at *
  have hz : w.heap.size + 1 = (w.alloc (.cells #[.int .i64 0, .int .i64 0, .int .i64 0, .int .i64 0, .int .i64 0, .int .i64 0, .int .i64 0, .int .i64 0] 39)).heap.size := by simp
  have HZ := Lib.hid hz
  clear hz
  go_enter Try.func20, Try.ntmps20
  go_wp2_with ((with_reducible show wpList _ _ _ _ _ _); refine wpList_copy_splice (o := ⟨some 6, _, _, _, _, _⟩) rfl (.tmp 4) (.tmp 5) 22 22 rfl 3 Try.underlying22 (by kernel_rfl) _ _ _ _ _ _ rfl rfl (w.heap.size + 1) 0 (List.replicate 8 (Value.int .i64 0)) 39 (Blk.newAt _ _ (by simp)) xs HL.out (fun h0 => ⟨rfl, HP.out _ (((Below.refl _ _).alloc (Nat.le_refl _) _).alloc (by simp) _) h0⟩) HL8.out HO.out (w.heap.size + 1) _ ((Below.refl _ _).alloc (Nat.le_of_eq HZ.out) _) (Nat.le_refl _) ?_)
  intro w1 hg hb
  have hg2 : Blk w1 (w.heap.size + 1) 39 ss.toArray := by
    have := hg.out
    rw [← HS.out]
    exact this
  have hg1 : Blk w1 w.heap.size 39 #[.int .i64 0, .int .i64 0, .int .i64 0, .int .i64 0, .int .i64 0, .int .i64 0, .int .i64 0, .int .i64 0] := (Blk.new _ _ _).below hb (by omega)
  have hb1 : Below w.heap.size w w1 := ((Below.refl _ _).alloc (Nat.le_refl _) _).trans (hb.mono (by omega))
  have hss : (some 8 : Option Nat) = some ss.toArray.size := by
    rw [← HS.out, List.size_toArray, length_splice _ _ _ HL8.out, List.length_replicate]
  have HG1 := Lib.hid hg1
  have HG2 := Lib.hid hg2
  have HB1 := Lib.hid hb1
  have HSS := Lib.hid hss
  clear hg hg1 hg2 hb hb1 hss HZ
  clear HP HO HL HL8 HS
  generalize hLL : w.heap.size = L at *
  have HLL := Lib.hid hLL
  clear hLL
  have hi : (Try.prog.info? 39).map (·.size) = some ss.toArray.size := (by kernel_rfl : (Try.prog.info? 39).map (·.size) = some 8).trans HSS.out
  have HI := Lib.hid hi
  have hz8 : (#[Value.int .i64 0, .int .i64 0, .int .i64 0, .int .i64 0, .int .i64 0, .int .i64 0, .int .i64 0, .int .i64 0] : Array Value).size = ss.toArray.size := Option.some.inj HSS.out
  have HZ8 := Lib.hid hz8
  clear hz8
  have hg2' : w1.heap[L + 1]? = some (.cells ss.toArray 39 (0, 0)) := HG2.out
  have HG2' := Lib.hid hg2'
  clear hi hg2' HG2
  go_wp2_with (first | refine wpList_store_then rfl 39 _ _ rfl L ss.toArray rfl rfl 39 _ HG1.out HI.out HZ8.out H1.out ?_ | refine wpList_load_row rfl 39 _ rfl (L + 1) rfl 39 ss.toArray (0, 0) _ HG2'.out Try.underlying39 rfl HI.out ?_)
  refine Later.mk fun w2 hw2 => ?_
  have hg3 : w2.heap[L]? = some (.cells ss.toArray 39 (0, 0)) := by rw [hw2]; exact HG1.out.row _
  have hb3 : Below L w w2 := by rw [hw2]; exact Below.setRow HB1.out (Nat.le_refl _) _
  have hres := fun (tmps : Array Value) (h : tmps.getD 2 undef = .pointer (some ⟨L, 0, none⟩)) => results_cell_row (P := Try.prog) (fn := Try.f20) rfl tmps w2 L 39 ss.toArray (0, 0) _ h hg3 Try.underlying39 rfl HI.out
  have HB3 := Lib.hid hb3
  clear hw2 hg3 hb3
  go_wp2
  refine bodyPost_ret (hres _ rfl) rfl ⟨rfl, ?_⟩
  rw [HLL.out]
  exact HB3.out

theorem diffOf_same (zs zs' : List Int) (h : ∀ j, j < max zs.length zs'.length → zs.getD j 0 = zs'.getD j 0) : diffOf zs zs' = [] := by
  unfold diffOf diffTo
  rw [List.map_eq_nil_iff, List.filter_eq_nil_iff]
  intro j hj
  rw [List.mem_range] at hj
  simp only [bne_iff_ne, ne_eq, Decidable.not_not]
  exact h j hj
theorem shortOf_inj {zs zs' : List Int} (h : shortOf zs = shortOf zs') : ∀ j, j < 8 → zs.getD j 0 = zs'.getD j 0 := by
  intro j hj
  have := congrArg (fun l => l[j]?) h
  simpa [shortOf, hj] using this
end Go.Proofs.Ytmljeifooamlcaa
