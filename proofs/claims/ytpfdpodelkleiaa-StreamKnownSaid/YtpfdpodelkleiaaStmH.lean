/-
  STREAM's REFERENCE: Encode.
-/
import Derived.Test.YtpfdpodelkleiaaStmG
import Derived.Test.YtpfdpodelkleiaaStmD
namespace Go.Proofs.Ytpfdpodelkleiaa
open Go.RowKit Reg Go.ChangeShapes

def FT (_ : Nat) (_ : World) (_ : Value) : Prop := True
theorem FT.stable : Stable FT := fun _ _ _ _ _ _ => trivial
theorem encR_bad (w : World) (v : Value) (p : Prt) (hv : InPr w v p) (hno : ¬ okP p) : Calls Try.prog 16 #[v] w fun e w' => e = .returned (.tuple #[.string (encS p), .int .i64 (checkP p)]) ∧ Below w.heap.size w w' := by
  have h1 : checkP p = 2 := if_neg hno
  have h2 : encS p = ByteArray.empty := if_neg hno
  have hb0 := fun o => (Below.refl w.heap.size w).alloc (Nat.le_refl _) o
  have HCK := Lib.hid (fun o => checkR_any _ v p (hv.keep (hb0 o)))
  have HBO := Lib.hid hb0
  rw [h2]
  obtain ⟨sv, rfl, hc, -⟩ := hv
  obtain ⟨a, c, rfl, -⟩ := hc
  rw [h1] at HCK ⊢
  unfold prV at HCK ⊢
  clear hb0 h1 h2 hno
  go_enter Try.func16, Try.ntmps16
  go_wp2_with fail
  refine (HCK.out _).mono ?_
  rintro e w2 ⟨rfl, hb⟩
  have HB := Lib.hid ((HBO.out _).trans (hb.mono (HBO.out _).size))
  clear hb
  go_wp2
  go_ret2
  exact ⟨rfl, HB.out⟩
set_option maxRecDepth 100000 in
set_option maxHeartbeats 2000000 in
theorem encR_good (w : World) (v : Value) (p : Prt) (hv : InPr w v p) (hok : okP p) : Calls Try.prog 16 #[v] w fun e w' => e = .returned (.tuple #[.string (encS p), .int .i64 0]) ∧ Below w.heap.size w w' := by
  have h1 : checkP p = 0 := if_pos hok
  have h2 : encS p = strOf (Crc.sealed (encB p)) := if_pos hok
  have hb0 := (Below.refl w.heap.size w).alloc (Nat.le_refl _)
  have HIN := Lib.hid hv
  obtain ⟨sv, rfl, hc, hw⟩ := hv
  obtain ⟨a, c, rfl, hml, hx⟩ := hc
  have HCK := Lib.hid (fun w' (h : Below w.heap.size w w') => checkR_any _ _ p (HIN.out.keep h))
  rw [h1] at HCK
  have HE := Lib.hid h2
  have HX := Lib.hid hx
  have HOK := Lib.hid hok
  have HBO := Lib.hid hb0
  have hbx := Blk.new w 30 (prA p (.slice a p.cs.length c))
  have HBX := Lib.hid hbx
  have HNR := Lib.hid (fun x => numP_range hw hok x)
  have hcf : IntKind.u64.wrap p.f = p.f := IntWalk.u64_in _ (by have := hok.2.1; have := hok.2.2.1; omega)
  have hca : IntKind.u64.wrap p.a = p.a := IntWalk.u64_in _ (by have := hok.2.1; omega)
  have hcl : p.cs.length ≤ 8 := by have := hok.2.1; have := hok.2.2.1; have := hok.2.2.2.1; omega
  have hcn : IntKind.u64.wrap (p.cs.length : Int) = (p.cs.length : Int) := IntWalk.u64_in _ (by omega)
  unfold prA at HBX
  unfold prV at HCK ⊢
  clear hb0 h1 h2 hx hw hok hbx
  go_enter Try.func16, Try.ntmps16
  go_wp2_with fail
  refine (HCK.out _ (HBO.out _)).mono ?_
  rintro e w2 ⟨rfl, hb⟩
  have HB2 := Lib.hid ((HBO.out _).trans (hb.mono (HBO.out _).size))
  have hbx2 := HBX.out.keep hb
  have x0 := hbx2.cell 0
  have x1 := hbx2.cell 1
  have x2 := hbx2.cell 2
  have x3 := hbx2.cell 3
  have x4 := hbx2.cell 4
  have x5 := hbx2.cell 5
  have x6 := hbx2.cell 6
  simp only [List.getElem?_toArray, List.getElem?_cons_zero, List.getElem?_cons_succ] at x0 x1 x2 x3 x4 x5 x6
  have HBX2 := Lib.hid hbx2
  clear hb hbx2
  go_wp2_with fail
  have hnc : Blk (w2.alloc (Obj.cells (numC p) 22)) w2.heap.size 22 (numC p) := Blk.new _ _ _
  have hbl := HB2.out.alloc HB2.out.size (Obj.cells (numC p) 22)
  have hbx3 := HBX2.out.alloc (Obj.cells (numC p) 22)
  have HAT := Lib.hid (fun k (hk : k < 7) => numC_at p hk)
  obtain ⟨A, hA⟩ : ∃ A, A = numC p := ⟨_, rfl⟩
  rw [← hA] at hnc hbl hbx3 HAT
  unfold numC at hA
  rw [← hA]
  clear hA x0 x1 x2 x3 x4 x5 x6 HBX2
  generalize w2.alloc (Obj.cells A 22) = W0 at *
  generalize w2.heap.size = ql at *
  have HNC := Lib.hid hnc
  have HB0 := Lib.hid hbl
  have HBP := Lib.hid hbx3
  clear hnc hbl hbx3 hcf hca hcn
  go_loopw [6, 7] (fun s i wr => ∃ k : Nat, k ≤ 7 ∧ s = .string (strOf (numB p (List.range k))) ∧ i = .int .i64 k ∧ Below w.heap.size w wr ∧ Below W0.heap.size W0 wr) (fun _ i _ => 7 - (intOf i).toNat)
  case atStart => exact ⟨0, by omega, rfl, rfl, HB0.out, Below.refl _ _⟩
  case round =>
    obtain ⟨k, hk, rfl, rfl, hb, hb0⟩ := hrel
    have HB := Lib.hid hb
    have HW := Lib.hid hb0
    have HBK := Lib.hid (HBP.out.keep hb0)
    clear hb hb0
    by_cases hkn : k < 7
    · have c0 : wr.cell? ⟨ql, k, none⟩ = some (.int .u64 (numP p k)) := ((HNC.out.keep HW.out).cell k).trans (HAT.out k hkn)
      have hnr := HNR.out k
      have hle := numB_le p (List.range k)
      rw [List.length_range] at hle
      have hsn : numB p (List.range (k + 1)) = numB p (List.range k) ++ Wire.putNum (numP p k).toNat := by rw [List.range_succ, numB_snoc]
      obtain ⟨nn, hnn⟩ : ∃ nn, nn = (numP p k).toNat := ⟨_, rfl⟩
      have hnx : numP p k = (nn : Int) := by omega
      rw [← hnn] at hsn
      rw [hnx] at c0
      have HSN := Lib.hid hsn
      have hsz : (strOf (numB p (List.range k))).size + 100 ≤ maxLen := by rw [strOf_size]; unfold maxLen; omega
      have HPN := Lib.hid (fun w => refPutNum_any (strOf (numB p (List.range k))) nn w (by omega) hsz)
      have HKN := Lib.hid hkn
      have l1 : (k : Int) < 7 := by omega
      have I9 := Lib.hid (wrap_succ hkn (by unfold maxLen; omega))
      clear hnr hle hsn hnn hnx hsz hkn hk
      go_wp2_with fail
      refine (HPN.out _).mono ?_
      rintro e w9 ⟨rfl, hb⟩
      have HB9 := Lib.hid (And.intro (HB.out.trans (hb.mono HB.out.size)) (HW.out.trans (hb.mono HW.out.size)))
      clear hb
      go_wp2
      clear l1
      exact ⟨⟨k + 1, HKN.out, by rw [HSN.out]; rfl, rfl, HB9.out.1, HB9.out.2⟩, meas_succ HKN.out⟩
    · obtain rfl : k = 7 := by omega
      have x6 := HBK.out.cell 6
      simp at x6
      clear hk hkn
      go_wp2_with fail
      have HI := Lib.hid HBK.out
      clear x6
      have hxs := HX.out
      generalize hZ : (fun j => p.cs.getD j (0, ByteArray.empty)) = Z
      have hZj : ∀ j, p.cs.getD j (0, ByteArray.empty) = Z j := fun j => by rw [← hZ]
      obtain ⟨G, hG⟩ : ∃ G : Nat → List UInt8, ∀ k, G k = numB p (List.range 7) ++ (p.cs.take k).flatMap chgB := ⟨_, fun _ => rfl⟩
      have HG0 := Lib.hid (show G 0 = numB p (List.range 7) by rw [hG]; simp)
      have HGS := Lib.hid (fun k (hk : k < p.cs.length) => show G (k + 1) = G k ++ chgB (Z k) by
        rw [hG, hG, List.take_add_one, List.flatMap_append, ← hZj]
        simp [hk])
      have HGN := Lib.hid (show G p.cs.length = encB p by rw [hG, List.take_of_length_le (Nat.le_refl _)]; rfl)
      have HGL := Lib.hid (fun k (hk : k ≤ p.cs.length) => gB_le p hZj HOK.out hG hk)
      have HCR := Lib.hid (fun k (hk : k < p.cs.length) => cg_range p hZj HOK.out hk)
      simp only [hZj] at hxs
      have HXS := Lib.hid hxs
      generalize hpc : p.cs.length = n at *
      clear hxs hZ hZj hG
      generalize wr = W1 at *
      go_loopw [6, 8] (fun s i wr => ∃ k : Nat, k ≤ n ∧ s = .string (strOf (G k)) ∧ i = .int .i64 k ∧ Below w.heap.size w wr ∧ Below W1.heap.size W1 wr) (fun _ i _ => n - (intOf i).toNat)
      case atStart => exact ⟨0, Nat.zero_le _, by rw [HG0.out], rfl, HB.out, Below.refl _ _⟩
      case round =>
      obtain ⟨k, hk, rfl, rfl, hb, hb0⟩ := hrel
      have HBV := Lib.hid (And.intro hb hb0)
      have HPB := Lib.hid (HI.out.keep hb0)
      have y6 := HPB.out.cell 6
      simp at y6
      clear hb hb0
      by_cases hkn : k < n
      · obtain ⟨g, off, rfl, hc0, hc1⟩ := HXS.out k hkn
        have c0 := cell_later HBV.out.1 hc0
        have c1 := cell_later HBV.out.1 hc1
        have hcr := HCR.out k hkn
        have hgs := HGS.out k hkn
        have hgl := HGL.out k (Nat.le_of_lt hkn)
        generalize Z k = zk at *
        obtain ⟨xb, xd⟩ := zk
        unfold chgB at hgs
        dsimp only at c0 c1 hcr hgs
        obtain ⟨⟨r0, r1⟩, r2⟩ := hcr
        obtain ⟨xn, rfl⟩ : ∃ xn : Nat, xb = xn := ⟨xb.toNat, by omega⟩
        rw [Int.toNat_natCast] at hgs
        have i1 : (k : Int) < (n : Int) := by omega
        have HKN := Lib.hid hkn
        have HGK := Lib.hid hgs
        have hpn : xn < 256 ^ 8 := by omega
        have hs1 : (strOf (G k)).size + 100 ≤ maxLen := by rw [strOf_size]; unfold maxLen; omega
        have HPN := Lib.hid (fun w => refPutNum_any (strOf (G k)) xn w hpn hs1)
        have hpl := Wire.putNum_length xn
        have HPT := Lib.hid (fun w => refPutText_any (strOf ((strOf (G k)).data.toList ++ Wire.putNum xn)) xd w (by omega) (by rw [strOf_size, List.length_append]; show (G k).length + _ ≤ _; omega))
        have HCV := Lib.hid (show IntKind.u64.wrap (xn : Int) = (xn : Int) ∧ True from ⟨IntWalk.u64_in _ (by omega), trivial⟩)
        have HC0 := Lib.hid c0
        have HC1 := Lib.hid c1
        have I9 := Lib.hid (wrap_succ hkn (by unfold maxLen; omega))
        clear hc0 hc1 c0 c1 hgs hgl r0 r1 r2 hkn hk hpn hs1 hpl
        go_wp2_with fail
        refine wp_region_spec (fun i => i == 8 || i == 15) (kinds [(8, .is (.string (strOf ((strOf (G k)).data.toList ++ Wire.putNum xn)))), (15, .is (.string (strOf ((strOf ((strOf (G k)).data.toList ++ Wire.putNum xn)).data.toList ++ Wire.putText xd.data.toList))))]) (CF wr FT) (by kernel_rfl) (by kernel_rfl) (kinds_inh _) CF.start ?_
        intro ν hν
        have n8 : ν 8 = .string (strOf ((strOf (G k)).data.toList ++ Wire.putNum xn)) := hν 8
        have n15 : ν 15 = .string (strOf ((strOf ((strOf (G k)).data.toList ++ Wire.putNum xn)).data.toList ++ Wire.putText xd.data.toList)) := hν 15
        clear hν
        refine lex_plain (by rfl) rfl ?_
        apply Exists.intro
        refine ⟨fun σ w2 hA hD hC => ?_, ?_⟩
        · clear hA hD hC
          go_simp
          exact And.intro rfl rfl
        simp only [Act.put, List.setIfInBounds_toArray, List.set_cons_succ, List.set_cons_zero, Nat.reduceAdd]
        refine lex_plain (by rfl) rfl ?_
        apply Exists.intro
        refine ⟨fun σ w2 hA hD hC => ?_, ?_⟩
        · clear hA hD hC
          go_simp
          exact And.intro rfl rfl
        simp only [Act.put, List.setIfInBounds_toArray, List.set_cons_succ, List.set_cons_zero, Nat.reduceAdd]
        refine lex_plain (by rfl) rfl ?_
        apply Exists.intro
        refine ⟨fun σ w2 hA hD hC => ?_, ?_⟩
        · have hx := (HPB.out.keep hC.1).cell 6
          simp at hx
          clear hA hD hC
          go_simp
          exact And.intro rfl rfl
        simp only [Act.put, List.setIfInBounds_toArray, List.set_cons_succ, List.set_cons_zero, Nat.reduceAdd]
        refine lex_plain (by rfl) rfl ?_
        apply Exists.intro
        refine ⟨fun σ w2 hA hD hC => ?_, ?_⟩
        · clear hA hD hC
          go_simp
          exact And.intro rfl rfl
        simp only [Act.put, List.setIfInBounds_toArray, List.set_cons_succ, List.set_cons_zero, Nat.reduceAdd]
        refine lex_plain (by rfl) rfl ?_
        apply Exists.intro
        refine ⟨fun σ w2 hA hD hC => ?_, ?_⟩
        · clear hA hD hC
          go_simp
          exact And.intro rfl rfl
        simp only [Act.put, List.setIfInBounds_toArray, List.set_cons_succ, List.set_cons_zero, Nat.reduceAdd]
        refine lex_plain (by rfl) rfl ?_
        apply Exists.intro
        refine ⟨fun σ w2 hA hD hC => ?_, ?_⟩
        · clear hA hD hC
          go_simp
          exact And.intro rfl rfl
        simp only [Act.put, List.setIfInBounds_toArray, List.set_cons_succ, List.set_cons_zero, Nat.reduceAdd]
        refine lex_plain (by rfl) rfl ?_
        apply Exists.intro
        refine ⟨fun σ w2 hA hD hC => ?_, ?_⟩
        · have hx := cell_later hC.1 HC0.out
          clear hA hD hC
          go_simp
          exact And.intro rfl rfl
        simp only [Act.put, List.setIfInBounds_toArray, List.set_cons_succ, List.set_cons_zero, Nat.reduceAdd]
        refine lex_plain (by rfl) rfl ?_
        apply Exists.intro
        refine ⟨fun σ w2 hA hD hC => ?_, ?_⟩
        · have hx := HCV.out.1
          clear hA hD hC
          go_simp
          exact And.intro rfl rfl
        simp only [Act.put, List.setIfInBounds_toArray, List.set_cons_succ, List.set_cons_zero, Nat.reduceAdd]
        refine lex_special (by rfl) rfl (fun σ w2 hA hD hn hC => ?_) ?_
        · go_simp
          refine call_ok FT.stable hC ((HPN.out _).mono ?_)
          rintro e' w' ⟨rfl, hb⟩
          exact ⟨_, rfl, rfl, trivial, hb⟩
        rw [n8]
        simp only [Act.put, List.setIfInBounds_toArray, List.set_cons_succ, List.set_cons_zero, Nat.reduceAdd]
        refine lex_plain (by rfl) rfl ?_
        apply Exists.intro
        refine ⟨fun σ w2 hA hD hC => ?_, ?_⟩
        · clear hA hD hC
          go_simp
          exact And.intro rfl rfl
        simp only [Act.put, List.setIfInBounds_toArray, List.set_cons_succ, List.set_cons_zero, Nat.reduceAdd]
        refine lex_plain (by rfl) rfl ?_
        apply Exists.intro
        refine ⟨fun σ w2 hA hD hC => ?_, ?_⟩
        · have hx := (HPB.out.keep hC.1).cell 6
          simp at hx
          clear hA hD hC
          go_simp
          exact And.intro rfl rfl
        simp only [Act.put, List.setIfInBounds_toArray, List.set_cons_succ, List.set_cons_zero, Nat.reduceAdd]
        refine lex_plain (by rfl) rfl ?_
        apply Exists.intro
        refine ⟨fun σ w2 hA hD hC => ?_, ?_⟩
        · clear hA hD hC
          go_simp
          exact And.intro rfl rfl
        simp only [Act.put, List.setIfInBounds_toArray, List.set_cons_succ, List.set_cons_zero, Nat.reduceAdd]
        refine lex_plain (by rfl) rfl ?_
        apply Exists.intro
        refine ⟨fun σ w2 hA hD hC => ?_, ?_⟩
        · clear hA hD hC
          go_simp
          exact And.intro rfl rfl
        simp only [Act.put, List.setIfInBounds_toArray, List.set_cons_succ, List.set_cons_zero, Nat.reduceAdd]
        refine lex_plain (by rfl) rfl ?_
        apply Exists.intro
        refine ⟨fun σ w2 hA hD hC => ?_, ?_⟩
        · clear hA hD hC
          go_simp
          exact And.intro rfl rfl
        simp only [Act.put, List.setIfInBounds_toArray, List.set_cons_succ, List.set_cons_zero, Nat.reduceAdd]
        refine lex_plain (by rfl) rfl ?_
        apply Exists.intro
        refine ⟨fun σ w2 hA hD hC => ?_, ?_⟩
        · have hx := cell_later hC.1 HC1.out
          clear hA hD hC
          go_simp
          exact And.intro rfl rfl
        simp only [Act.put, List.setIfInBounds_toArray, List.set_cons_succ, List.set_cons_zero, Nat.reduceAdd]
        refine lex_special (by rfl) rfl (fun σ w2 hA hD hn hC => ?_) ?_
        · have e8 := got1 hA hD 8 rfl (by kernel_rfl)
          go_simp
          refine call_ok FT.stable hC ((HPT.out _).mono ?_)
          rintro e' w' ⟨rfl, hb⟩
          exact ⟨_, rfl, rfl, trivial, hb⟩
        rw [n15]
        simp only [Act.put, List.setIfInBounds_toArray, List.set_cons_succ, List.set_cons_zero, Nat.reduceAdd]
        refine lex_plain (by rfl) rfl ?_
        apply Exists.intro
        refine ⟨fun σ w2 hA hD hC => ?_, ?_⟩
        · clear hA hD hC
          go_simp
          exact And.intro rfl rfl
        simp only [Act.put, List.setIfInBounds_toArray, List.set_cons_succ, List.set_cons_zero, Nat.reduceAdd]
        refine lex_nil (fun σ w9 hA hall hC => ?_)
        have HF := Lib.hid hC.1
        clear hA hall hC n8 n15
        go_wp2
        clear i1
        exact ⟨⟨k + 1, HKN.out, by rw [HGK.out, ← List.append_assoc]; rfl, rfl, HBV.out.1.trans (HF.out.mono HBV.out.1.size), HBV.out.2.trans (HF.out.mono HBV.out.2.size)⟩, meas_succ HKN.out⟩
      · obtain rfl : k = n := by omega
        have i1 : ¬ ((k : Int) < (k : Int)) := by omega
        have hsl : (strOf (G k)).size + 4 ≤ maxLen := by rw [strOf_size]; have := HGL.out k (Nat.le_refl _); unfold maxLen; omega
        have HSL := Lib.hid (fun w => refSeal_any (strOf (G k)) w hsl)
        have HS := Lib.hid (show strOf (Crc.sealed (strOf (G k)).data.toList) = encS p by rw [HE.out, ← HGN.out]; rfl)
        clear hsl hk hkn
        go_wp2_with fail
        refine (HSL.out _).mono ?_
        rintro e w9 ⟨rfl, hb⟩
        have hbb := HBV.out.1.trans (hb.mono HBV.out.1.size)
        go_wp2
        go_ret2
        rw [HS.out]
        exact ⟨rfl, hbb⟩
theorem encR_any (w : World) (v : Value) (p : Prt) (hv : InPr w v p) : Calls Try.prog 16 #[v] w fun e w' => e = .returned (.tuple #[.string (encS p), .int .i64 (checkP p)]) ∧ Below w.heap.size w w' := by
  by_cases h : okP p
  · have e : checkP p = 0 := if_pos h
    rw [e]
    exact encR_good w v p hv h
  · exact encR_bad w v p hv h
end Go.Proofs.Ytpfdpodelkleiaa
