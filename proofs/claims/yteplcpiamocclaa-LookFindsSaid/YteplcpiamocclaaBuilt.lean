/-
  LOOK's statements: built (printed by wip/gen-built.py).
-/
import Derived.Test.YteplcpiamocclaaBuiltG
namespace Go.Proofs.Yteplcpiamocclaa
open Go.RowKit Reg Go.ChangeShapes

def kindsB (n s : Nat) (u : Value) : Prop := if s = 11 then ∃ a c, u = .slice a n c else kinds [(1, .is (.slice none 0 0)), (13, .is undef)] s u
theorem kindsB_inh (n s : Nat) : ∃ u, kindsB n s u := by
  unfold kindsB
  split
  · exact ⟨.slice none n 0, none, 0, rfl⟩
  · exact kinds_inh _ s
structure EB (w : World) (base : Nat) (la : Option Addr) (lc : Nat) (L : List Gd) (e : El) : Prop where
  la : e.la = la
  lc : e.lc = lc
  line : ∃ t, t ≤ L.length ∧ e.line = L.take t
  own : OwG w base e.vs e.list
  told : e.told = []
theorem EB.ok {w : World} {base : Nat} {la : Option Addr} {lc : Nat} {L : List Gd} {e : El} (h : EB w base la lc L e) (hL : InG w (.slice la L.length lc) L) : ElOK w e := by
  obtain ⟨t, ht, hl⟩ := h.line
  refine ⟨?_, h.own.rd, ?_⟩
  · have := hL.take ht
    unfold El.vl
    rw [h.la, h.lc, hl, List.length_take, Nat.min_eq_left ht]
    exact this
  · unfold El.vt
    rw [h.told]
    exact ⟨⟨_, _, rfl, .inl rfl⟩, by simp, by simp⟩
theorem EB.keep {w w' : World} {base : Nat} {la : Option Addr} {lc : Nat} {L : List Gd} {e : El} (h : EB w base la lc L e) (hb : Below w.heap.size w w') : EB w' base la lc L e := ⟨h.la, h.lc, h.line, h.own.keep hb, h.told⟩
theorem lit_u64 {z : Int} : (Lit.int .u64 z).wf = true ↔ 0 ≤ z ∧ z ≤ 18446744073709551615 := by
  simp [Lit.wf, show IntKind.u64.min = 0 from by decide, show IntKind.u64.max = 18446744073709551615 from by decide]
set_option maxRecDepth 100000 in
set_option maxHeartbeats 4000000 in
theorem built_any (n : Int) (v : Value) (xs : List Shp) (w : World) (hn : 0 ≤ n ∧ n < 256) (hv : InH w v xs) :
    Calls Try.prog 9 #[.int .u8 n, v] w fun e w' => ∃ u es, e = .returned u ∧ InS w' u es ∧ es.map El.strip = builtB (linG (n.toNat % 12)) xs (min xs.length 6) ∧ Below w.heap.size w w' := by
  obtain ⟨va, vc, rfl, hml, hxs⟩ := hv
  obtain ⟨N, hN⟩ : ∃ z, z = n.toNat % 12 := ⟨_, rfl⟩
  rw [← hN]
  have hmod : n.tmod 12 = (N : Int) := by rw [Int.tmod_eq_emod_of_nonneg hn.1]; omega
  have hn12 : N < 12 := by omega
  have HX := Lib.hid hxs
  have HML := Lib.hid hml
  have HN12 := Lib.hid hn12
  have hwN : IntKind.u64.wrap (N : Int) = (N : Int) := IntWalk.u64_in _ (by omega)
  have hwN8 : IntKind.u8.wrap (N : Int) = (N : Int) := by rw [IntKind.wrap_u8]; omega
  clear hxs hml hN hn hn12
  generalize hxl : xs.length = m at *
  have HXL := Lib.hid hxl
  clear hxl
  go_enter Try.func9, Try.ntmps9
  go_wp2_with fail
  go_loopw [5, 6] (fun u i wr => ∃ k : Nat, k ≤ N ∧ i = .int .u64 k ∧ Below w.heap.size w wr ∧ OwG wr w.heap.size u (linG k)) (fun _ i _ => N - (intOf i).toNat)
  case atStart => exact ⟨0, Nat.zero_le _, rfl, Below.refl _ _, OwG.nil_ _ _⟩
  case round =>
    obtain ⟨k, hk, rfl, hb, ho⟩ := hrel
    have HB := Lib.hid hb
    have HO := Lib.hid ho
    clear hb ho
    by_cases hlt : k < N
    · have hk12 : k < 12 := by have := HN12.out; omega
      have i1 : (k : Int) < (N : Int) := by omega
      have hg : ((IntKind.u64.wrap (1 + IntKind.u64.wrap ((k : Int) / 3)), 1 + (k : Int) % 3) : Gd) = linA k := by
        rw [IntWalk.u64_in ((k : Int) / 3) (by omega), IntWalk.u64_in (1 + (k : Int) / 3) (by omega)]
        unfold linA
        refine Prod.ext ?_ ?_ <;> simp <;> omega
      have hwf : wfG (linA k) := by
        unfold wfG linA
        simp only [lit_u64]
        omega
      have hap := app_guid (w := wr) 35 (IntKind.u64.wrap (1 + IntKind.u64.wrap ((k : Int) / 3)), 1 + (k : Int) % 3) HO.out (by rw [hg]; exact hwf) (by rw [linG_len]; omega) HB.out.size
      simp only at hap
      rw [hg, ← linG_succ] at hap
      have HA := Lib.hid hap
      have HLT := Lib.hid hlt
      have HK12 := Lib.hid hk12
      clear hk hlt hk12 hap hg hwf
      go_wp2_with (at_builtin; refine wpList_append_run rfl _ _ 35 rfl _ _ rfl rfl _ HA.out ?_)
      refine Later.mk fun _ _ u w3 hp => ?_
      have HB3 := Lib.hid ((HB.out.alloc HB.out.size _).trans (AppG.below hp (HO.out.keep ((Below.refl _ _).alloc (Nat.le_refl _) _)) (Nat.le_trans HB.out.size (by simp))))
      have HO3 := Lib.hid hp.1
      clear hp HA
      have hwk : IntKind.u64.wrap ((k : Int) + 1) = (k : Int) + 1 := IntWalk.u64_in _ (by have := HK12.out; omega)
      go_wp2
      have hlt := HLT.out
      refine ⟨⟨k + 1, by omega, by go_num, HB3.out, HO3.out⟩, by simp [intOf]; omega⟩
    · obtain rfl : k = N := by omega
      have i1 : ¬ ((k : Int) < (k : Int)) := by omega
      clear hlt hk
      obtain ⟨la, lc, rfl, hlc, -⟩ := HO.out.rd.open_
      rw [linG_len] at HO hlc
      rw [linG_len]
      have HLC := Lib.hid hlc
      have HK := Lib.hid HN12.out
      go_wp2_with fail
      clear hlc hmod hwN hwN8 HN12 i1
      go_loopw [7, 8] (fun u t w2 => ∃ (i : Nat) (es : List El), i ≤ m ∧ i ≤ 6 ∧ t = .int .i64 i ∧ Below w.heap.size w w2 ∧ OwG w2 w.heap.size (.slice la k lc) (linG k) ∧ OwS w2 w.heap.size u es ∧ (∀ e ∈ es, EB w2 w.heap.size la lc (linG k) e) ∧ es.map El.strip = builtB (linG k) xs i) (fun _ t _ => m - (intOf t).toNat)
      case atStart => exact ⟨0, [], Nat.zero_le _, Nat.zero_le _, rfl, HB.out, HO.out, OwS.nil_ _ _, (fun e he => by cases he), rfl⟩
      case round =>
        clear HB HO
        obtain ⟨i, es, him, hi6, rfl, hb, hol, hos, hes, hst⟩ := hrel
        have HB := Lib.hid hb
        have HOL := Lib.hid hol
        have HOS := Lib.hid hos
        have HES := Lib.hid hes
        have HST := Lib.hid hst
        clear hb hol hos hes hst
        by_cases h1 : i < m
        · by_cases h2 : i < 6
          · obtain ⟨⟨gx, ox, rfl, hsh⟩, hwf⟩ := HX.out i h1
            obtain ⟨x, hx⟩ : ∃ z, z = xs.getD i shp0 := ⟨_, rfl⟩
            rw [← hx] at hsh hwf
            obtain ⟨c0, c1, c2, c3, c4⟩ := hsh
            replace c0 := cell_later HB.out c0
            replace c1 := cell_later HB.out c1
            replace c2 := cell_later HB.out c2
            replace c3 := cell_later HB.out c3
            replace c4 := cell_later HB.out c4
            obtain ⟨xk, xh, xo, xu, xp⟩ := x
            obtain ⟨⟨k0, k1⟩, ⟨k2, k3⟩, k4, k5⟩ := hwf
            simp only at c0 c1 c2 c3 c4 k0 k1 k2 k3 k4 k5
            obtain ⟨yk, rfl⟩ : ∃ z : Nat, xk = z := ⟨xk.toNat, by omega⟩
            obtain ⟨yh, rfl⟩ : ∃ z : Nat, xh = z := ⟨xh.toNat, by omega⟩
            obtain ⟨yo, rfl⟩ : ∃ z : Nat, xo = z := ⟨xo.toNat, by omega⟩
            have i1 : (i : Int) < (m : Int) := by omega
            have i2 : (i : Int) < 6 := by omega
            have HI := Lib.hid (And.intro h1 h2)
            have HX1 := Lib.hid hx
            have hwk : IntKind.i64.wrap ((k : Int) + 1) = (k : Int) + 1 := IntWalk.i64_in _ (by have := HK.out; omega)
            have hw1 : wrap64 (yk : Int) = (yk : Int) := IntWalk.wrap64_in _ (by omega)
            obtain ⟨kk, hkk⟩ : ∃ z, z = yk % (k + 1) := ⟨_, rfl⟩
            obtain ⟨hh, hhh⟩ : ∃ z, z = yh % (k + 1) := ⟨_, rfl⟩
            have hk1 : (yk : Int).tmod ((k : Int) + 1) = (kk : Int) := by
              rw [Int.tmod_eq_emod_of_nonneg (by omega), hkk]
              exact (Int.natCast_emod _ _).symm
            have hh1 : (yh : Int).tmod ((k : Int) + 1) = (hh : Int) := by
              rw [Int.tmod_eq_emod_of_nonneg (by omega), hhh]
              exact (Int.natCast_emod _ _).symm
            have hkle : kk ≤ k := by have := Nat.mod_lt yk (show 0 < k + 1 by omega); omega
            have hhle : hh ≤ k := by have := Nat.mod_lt yh (show 0 < k + 1 by omega); omega
            have hkl : kk ≤ lc := by have := HLC.out; omega
            have hhl : hh ≤ lc := by have := HLC.out; omega
            have HKH := Lib.hid (And.intro hkk (And.intro hhh (And.intro hkle (And.intro hhle (And.intro hkl hhl)))))
            have HH1 := Lib.hid hh1
            have j1 : (kk : Int) ≤ (lc : Int) := by omega
            have j0 : (0 : Int) ≤ (kk : Int) := by omega
            clear hkk hhh hkle hhle hkl hhl hh1
            have HYK := Lib.hid (show yk < 256 ∧ yh < 256 ∧ yo < 256 by omega)
            have hba1 := (Below.refl wr.heap.size wr).alloc (Nat.le_refl _) (Obj.cells #[.int .u8 (yk : Int), .int .u8 (yh : Int), .int .u8 (yo : Int), .bool xu, .bool xp] 26)
            have hba2 := hba1.alloc hba1.size (Obj.cells #[.bool xu, .bool xp, .int .u64 0, .int .i64 0, .bool false, .slice la kk lc, .slice none 0 0, .slice none 0 0, .slice none 0 0] 40)
            have ba := (Blk.new wr 26 #[.int .u8 (yk : Int), .int .u8 (yh : Int), .int .u8 (yo : Int), .bool xu, .bool xp]).keep ((Below.refl _ _).alloc (Nat.le_refl _) (Obj.cells #[.bool xu, .bool xp, .int .u64 0, .int .i64 0, .bool false, .slice la kk lc, .slice none 0 0, .slice none 0 0, .slice none 0 0] 40))
            have bs := Blk.new (wr.alloc (Obj.cells #[.int .u8 (yk : Int), .int .u8 (yh : Int), .int .u8 (yo : Int), .bool xu, .bool xp] 26)) 40 #[.bool xu, .bool xp, .int .u64 0, .int .i64 0, .bool false, .slice la kk lc, .slice none 0 0, .slice none 0 0, .slice none 0 0]
            rw [World.size_alloc] at bs
            have HBW := Lib.hid hba2
            have HBA := Lib.hid ba
            have HBS := Lib.hid bs
            clear him hi6 h1 h2 hx k0 k1 k2 k3 k4 k5 hba1 hba2 ba bs
            go_wp2_with fail
            generalize (wr.alloc (Obj.cells #[.int .u8 (yk : Int), .int .u8 (yh : Int), .int .u8 (yo : Int), .bool xu, .bool xp] 26)).alloc (Obj.cells #[.bool xu, .bool xp, .int .u64 0, .int .i64 0, .bool false, .slice la kk lc, .slice none 0 0, .slice none 0 0, .slice none 0 0] 40) = w1 at *
            obtain ⟨qa, hqa⟩ : ∃ z, z = wr.heap.size := ⟨_, rfl⟩
            obtain ⟨qs, hqs⟩ : ∃ z, z = wr.heap.size + 1 := ⟨_, rfl⟩
            rw [← hqa] at HBA
            rw [← hqs] at HBS
            rw [← hqs, ← hqa]
            have HQS := Lib.hid (show wr.heap.size ≤ qs ∧ qa ≠ qs by omega)
            clear hqa hqs c0 c1 c2 c3 c4 hk1 j0 j1 hw1
            obtain ⟨L1, hL1⟩ : ∃ z, z = (linG k).take hh := ⟨_, rfl⟩
            have hlz : L1.length = hh := by have := HKH.out; rw [hL1, List.length_take, linG_len]; omega
            have hin : InG w1 (.slice la hh lc) L1 := by
              have := (HOL.out.rd.keep HBW.out).take (m := hh) (by rw [linG_len]; exact HKH.out.2.2.2.1)
              rw [hL1]
              exact this
            have HL1 := Lib.hid hL1
            have HLZ := Lib.hid hlz
            have HIN := Lib.hid hin
            have hh1 := HH1.out
            have hwh : wrap64 (yh : Int) = (yh : Int) := IntWalk.wrap64_in _ (by have := HYK.out; omega)
            have hwh2 : IntKind.i64.wrap (yh : Int) = (yh : Int) := IntWalk.i64_in _ (by have := HYK.out; omega)
            have j1 : (hh : Int) ≤ (lc : Int) := by have := HKH.out; omega
            have j0 : (0 : Int) ≤ (hh : Int) := by omega
            clear hL1 hlz hin
            refine wp_region_spec (fun i => i == 1 || i == 11 || i == 13) (kindsB hh) (GF w1 qs qa #[.int .u8 (yk : Int), .int .u8 (yh : Int), .int .u8 (yo : Int), .bool xu, .bool xp] (fun u => #[.bool xu, .bool xp, .int .u64 0, .int .i64 0, .bool false, .slice la kk lc, u, .slice none 0 0, .slice none 0 0]) L1) (by kernel_rfl) (by kernel_rfl) (kindsB_inh _) (GF.start HBS.out HBA.out) ?_
            intro ν hν
            have n1 : ν 1 = .slice none 0 0 := hν 1
            obtain ⟨a11, c11, n11⟩ : ∃ a c, ν 11 = .slice a hh c := hν 11
            have n13 : ν 13 = undef := hν 13
            clear hν
            refine lex_plain (by rfl) rfl ?_
            apply Exists.intro
            refine ⟨fun σ w2 hA hD hC => ?_, ?_⟩
            · clear hA hD hC
              go_simp
              exact And.intro rfl rfl
            simp only [Act.put, List.setIfInBounds_toArray, List.set_cons_succ, List.set_cons_zero, Nat.reduceAdd]
            refine lex_special (by rfl) rfl (fun σ w2 hA hD hn hC => ?_) ?_
            · have hz := (hC.var (hC.none13 (hC.none11 hn))).cell 6
              simp at hz
              go_simp
              exact hC.load rfl
            rw [n1]
            simp only [Act.put, List.setIfInBounds_toArray, List.set_cons_succ, List.set_cons_zero, Nat.reduceAdd]
            refine lex_plain (by rfl) rfl ?_
            apply Exists.intro
            refine ⟨fun σ w2 hA hD hC => ?_, ?_⟩
            · clear hA hD hC
              go_simp
              exact And.intro rfl rfl
            simp only [Act.put, List.setIfInBounds_toArray, List.set_cons_succ, List.set_cons_zero, Nat.reduceAdd]
            refine lex_plain (by rfl) rfl ?_
            apply Exists.intro
            refine ⟨fun σ w2 hA hD hC => ?_, ?_⟩
            · clear hA hD hC
              go_simp
              exact And.intro rfl rfl
            simp only [Act.put, List.setIfInBounds_toArray, List.set_cons_succ, List.set_cons_zero, Nat.reduceAdd]
            refine lex_plain (by rfl) rfl ?_
            apply Exists.intro
            refine ⟨fun σ w2 hA hD hC => ?_, ?_⟩
            · have hz := hC.bx.cell 1
              simp at hz
              clear hA hD hC
              go_simp
              exact And.intro rfl rfl
            simp only [Act.put, List.setIfInBounds_toArray, List.set_cons_succ, List.set_cons_zero, Nat.reduceAdd]
            refine lex_plain (by rfl) rfl ?_
            apply Exists.intro
            refine ⟨fun σ w2 hA hD hC => ?_, ?_⟩
            · clear hA hD hC
              go_simp
              exact And.intro rfl rfl
            simp only [Act.put, List.setIfInBounds_toArray, List.set_cons_succ, List.set_cons_zero, Nat.reduceAdd]
            refine lex_plain (by rfl) rfl ?_
            apply Exists.intro
            refine ⟨fun σ w2 hA hD hC => ?_, ?_⟩
            · clear hA hD hC
              go_simp
              exact And.intro rfl rfl
            simp only [Act.put, List.setIfInBounds_toArray, List.set_cons_succ, List.set_cons_zero, Nat.reduceAdd]
            refine lex_plain (by rfl) rfl ?_
            apply Exists.intro
            refine ⟨fun σ w2 hA hD hC => ?_, ?_⟩
            · clear hA hD hC
              go_simp
              exact And.intro rfl rfl
            simp only [Act.put, List.setIfInBounds_toArray, List.set_cons_succ, List.set_cons_zero, Nat.reduceAdd]
            refine lex_plain (by rfl) rfl ?_
            apply Exists.intro
            refine ⟨fun σ w2 hA hD hC => ?_, ?_⟩
            · clear hA hD hC
              go_simp
              exact And.intro rfl rfl
            simp only [Act.put, List.setIfInBounds_toArray, List.set_cons_succ, List.set_cons_zero, Nat.reduceAdd]
            refine lex_plain (by rfl) rfl ?_
            apply Exists.intro
            refine ⟨fun σ w2 hA hD hC => ?_, ?_⟩
            · clear hA hD hC
              go_simp
              exact And.intro rfl rfl
            simp only [Act.put, List.setIfInBounds_toArray, List.set_cons_succ, List.set_cons_zero, Nat.reduceAdd]
            refine lex_plain (by rfl) rfl ?_
            apply Exists.intro
            refine ⟨fun σ w2 hA hD hC => ?_, ?_⟩
            · clear hA hD hC
              go_simp
              exact And.intro rfl rfl
            simp only [Act.put, List.setIfInBounds_toArray, List.set_cons_succ, List.set_cons_zero, Nat.reduceAdd]
            refine lex_special (by rfl) rfl (fun σ w2 hA hD hn hC => ?_) ?_
            · have h1 := got1 hA hD 1 rfl (by kernel_rfl)
              obtain ⟨v', w', hr, hs⟩ := hC.app (p := kindsB hh 11) hn (by rw [h1]; simp) HIN.out (by have := HLZ.out; have := HK.out; have := HKH.out; omega) 35 (fun a c => ⟨a, c, by rw [HLZ.out]⟩)
              rw [exec_append (.tmp 60) (.tmp 69) 35 rfl _ _ rfl rfl _ hr]
              exact hs
            rw [n11]
            simp only [Act.put, List.setIfInBounds_toArray, List.set_cons_succ, List.set_cons_zero, Nat.reduceAdd]
            refine lex_plain (by rfl) rfl ?_
            apply Exists.intro
            refine ⟨fun σ w2 hA hD hC => ?_, ?_⟩
            · clear hA hD hC
              go_simp
              exact And.intro rfl rfl
            simp only [Act.put, List.setIfInBounds_toArray, List.set_cons_succ, List.set_cons_zero, Nat.reduceAdd]
            refine lex_special (by rfl) rfl (fun σ w2 hA hD hn hC => ?_) ?_
            · have h11 := got1 hA hD 11 rfl (by kernel_rfl)
              rw [n11] at h11
              have hz := hC.var hn
              have hf3 := hz.frozen 6
              have hc3 := hz.cell 6
              simp at hc3
              go_simp
              exact hC.store HBS.out.lt HQS.out.2 h11 hn 6 rfl rfl
            rw [n13]
            simp only [Act.put, Nat.reduceAdd]
            refine lex_nil (fun σ w9 hA hall hC => ?_)
            have s11 := hall 11 rfl (by decide)
            have s13 := hall 13 rfl (by decide)
            have hfin := hC.fin _ s11 (by rw [s13]; simp)
            have hown := hC.lst _ s11
            have hkp := hC.kp
            have hbx := hC.bx
            rw [n11] at hfin hown
            have hb9 := HBW.out.trans (hkp.below (B := wr.heap.size) (fun b hb => hb ▸ HQS.out.1) HBW.out.size)
            have HB9 := Lib.hid hb9
            have HBS9 := Lib.hid hfin
            have HBA9 := Lib.hid hbx
            have HOW9 := Lib.hid (hown.mono (show wr.heap.size ≤ _ from HBW.out.size))
            clear hA hall hC s11 s13 n1 n11 n13 hfin hown hkp hbx hb9 HBS HBA HBW HIN hh1 hwh hwh2 j1 j0 hwk
            clear i1 i2
            go_wp2_with fail
            generalize wr = wo at *
            go_loopw [11] (fun t w2 => ∃ (j : Nat) (lv : Value), j ≤ yo % 4 ∧ t = .int .i64 j ∧ Below wo.heap.size wo w2 ∧ Blk w2 qs 40 (#[.bool xu, .bool xp, .int .u64 0, .int .i64 0, .bool false, .slice la kk lc, lv, .slice none 0 0, .slice none 0 0]) ∧ Blk w2 qa 26 #[.int .u8 (yk : Int), .int .u8 (yh : Int), .int .u8 (yo : Int), .bool xu, .bool xp] ∧ OwG w2 wo.heap.size lv (L1 ++ ownG i j)) (fun t _ => 4 - (intOf t).toNat)
            case atStart => exact ⟨0, _, Nat.zero_le _, rfl, HB9.out, HBS9.out, HBA9.out, by simpa [ownG] using HOW9.out⟩
            case round =>
              clear HB9 HBS9 HBA9 HOW9
              obtain ⟨j, lv, hj, rfl, hb, hbs, hba, ho⟩ := hrel
              have HB2 := Lib.hid hb
              have HBS := Lib.hid hbs
              have HBA := Lib.hid hba
              have HO := Lib.hid ho
              have c2 := hba.cell 2
              have c6 := hbs.cell 6
              have hf6 := hbs.frozen 6
              simp at c2 c6
              have hmo : (yo : Int).tmod 4 = ((yo % 4 : Nat) : Int) := by rw [Int.tmod_eq_emod_of_nonneg (by omega)]; omega
              have hm4 : (yo : Int) % 4 = ((yo % 4 : Nat) : Int) := by omega
              obtain ⟨o4, ho4⟩ : ∃ z, z = yo % 4 := ⟨_, rfl⟩
              rw [← ho4] at hmo hj hm4
              have HO4 := Lib.hid ho4
              have H4 := Lib.hid (show o4 < 4 by omega)
              clear hb hbs hba ho ho4
              by_cases h3 : j < o4
              · have i3 : (j : Int) < (o4 : Int) := by omega
                have HJ := Lib.hid h3
                clear h3 hj
                have hgg : ((IntKind.u64.wrap (90 + IntKind.u64.wrap (i : Int)), (j : Int) + 1) : Gd) = ownA i j := by
                  have h6 := HI.out
                  rw [IntWalk.u64_in (i : Int) (by omega), IntWalk.u64_in (90 + (i : Int)) (by omega)]
                  unfold ownA
                  refine Prod.ext ?_ ?_ <;> simp
                have hwf : wfG (ownA i j) := by
                  have h6 := HI.out
                  have h7 := HJ.out
                  have h8 := H4.out
                  unfold wfG ownA
                  simp only [lit_u64]
                  omega
                have hlen : (L1 ++ ownG i j).length ≤ 1000 := by
                  have h6 := HJ.out
                  have h7 := H4.out
                  have h8 := HLZ.out
                  have h9 := HKH.out
                  have h10 := HK.out
                  rw [List.length_append, ownG_len]
                  omega
                have hap := app_guid (w := wr) 35 (IntKind.u64.wrap (90 + IntKind.u64.wrap (i : Int)), (j : Int) + 1) HO.out (by rw [hgg]; exact hwf) (by omega) HB2.out.size
                simp only at hap
                rw [hgg, List.append_assoc, ← ownG_succ] at hap
                have hsl := HO.out.rd.slice_
                obtain ⟨nl, hnl⟩ : ∃ z, z = (L1 ++ ownG i j).length := ⟨_, rfl⟩
                rw [← hnl] at hsl
                obtain ⟨va2, vc2, rfl⟩ := hsl
                have HA := Lib.hid hap
                have hh6 := HJ.out
                have hh7 := H4.out
                have hwj : IntKind.i64.wrap (j : Int) = (j : Int) := IntWalk.i64_in _ (by omega)
                clear hgg hwf hlen hap hnl hh6 hh7
                go_wp2_with (at_builtin; refine wpList_append_run rfl _ _ 35 rfl _ _ rfl rfl _ HA.out ?_)
                refine Later.mk fun _ _ u w3 hp => ?_
                have hbb := HB2.out.alloc HB2.out.size (Obj.cells #[.int .u64 (IntKind.u64.wrap (90 + IntKind.u64.wrap (i : Int))), .int .u64 ((j : Int) + 1)] 34)
                have hbl : Below wr.heap.size wr (wr.alloc (Obj.cells #[.int .u64 (IntKind.u64.wrap (90 + IntKind.u64.wrap (i : Int))), .int .u64 ((j : Int) + 1)] 34)) := (Below.refl _ _).alloc (Nat.le_refl _) _
                have ho1 := HO.out.keep hbl
                have hb3 := hbb.trans (AppG.below hp ho1 hbb.size)
                have hk3 := Kp.of_grown hp.2.1 (own_block ho1.1) hbb.size
                have hbs3 := hk3.blk (HBS.out.keep hbl) (fun e => own_ne ho1.1 (HBS.out.keep hbl) (by decide) e rfl)
                have hba3 := hk3.blk (HBA.out.keep hbl) (fun e => own_ne ho1.1 (HBA.out.keep hbl) (by decide) e rfl)
                have ho3 := hp.1
                have hsl := ho3.rd.slice_
                obtain ⟨nl3, hnl3⟩ : ∃ z, z = (L1 ++ ownG i (j + 1)).length := ⟨_, rfl⟩
                rw [← hnl3] at hsl
                obtain ⟨ua, uc, rfl⟩ := hsl
                have hf3 := hbs3.frozen 6
                have hc3 := hbs3.cell 6
                simp at hc3
                have HB4 := Lib.hid (hb3.setCell (p := ⟨qs, 6, none⟩) HQS.out.1 (.slice ua nl3 uc))
                have HBS4 := Lib.hid (hbs3.set 6 (.slice ua nl3 uc))
                have HBA4 := Lib.hid (hba3.far (p := ⟨qs, 6, none⟩) HQS.out.2 (.slice ua nl3 uc))
                have HO5 := Lib.hid (show OwG (w3.setCell ⟨qs, 6, none⟩ (.slice ua nl3 uc)) wo.heap.size (.slice ua nl3 uc) (L1 ++ ownG i (j + 1)) from ⟨own_kp (Kp.cell w3 qs 6 (.slice ua nl3 uc)) ho3.1 (fun g hg e => own_ne ho3.1 hbs3 (by decide) hg e), ho3.2⟩)
                have H9 := Lib.hid (show (j : Int) < 9223372036854775807 by have := HJ.out; have := H4.out; omega)
                clear hbb hbl ho1 hb3 hk3 hbs3 hba3 ho3 hnl3 hp HA c6 hf6 c2 hmo hm4 i3 hwj
                have i9 := H9.out
                go_wp2
                have hj3 := HJ.out
                have h44 := H4.out
                refine ⟨⟨j + 1, _, by rw [← HO4.out]; omega, by go_num, HB4.out, HBS4.out, HBA4.out, HO5.out⟩, by simp [intOf]; omega⟩
              · obtain rfl : j = o4 := by omega
                have i3 : ¬ ((j : Int) < (j : Int)) := by omega
                have hsl := HO.out.rd.slice_
                obtain ⟨nl, hnl⟩ : ∃ z, z = (L1 ++ ownG i j).length := ⟨_, rfl⟩
                rw [← hnl] at hsl
                obtain ⟨va2, vc2, rfl⟩ := hsl
                obtain ⟨E, hE⟩ : ∃ z : El, z = ⟨xu, xp, 0, 0, false, (linG k).take kk, L1 ++ ownG i j, [], la, lc, va2, vc2, none, 0, none, 0, 0⟩ := ⟨_, rfl⟩
                have hk2 := HKH.out.2.2.1
                have hec : E.cells = #[.bool xu, .bool xp, .int .u64 0, .int .i64 0, .bool false, .slice la kk lc, .slice va2 nl vc2, .slice none 0 0, .slice none 0 0] := by
                  rw [hE]
                  unfold El.cells El.vl El.vs El.vt El.vi
                  simp only [← hnl, List.length_take, linG_len, Nat.min_eq_left hk2, List.length_nil]
                have hEB : EB wr w.heap.size la lc (linG k) E := by
                  rw [hE]
                  refine ⟨rfl, rfl, ⟨kk, by rw [linG_len]; exact hk2, rfl⟩, ?_, rfl⟩
                  have := HO.out.mono HB.out.size
                  unfold El.vs
                  rw [← hnl]
                  exact this
                have hst : E.strip = nodeB (linG k) i (xs.getD i shp0) := by
                  rw [← HX1.out, hE]
                  unfold El.strip nodeB
                  have h6 := HKH.out
                  simp only [linG_len, Int.toNat_natCast, ← h6.1, ← h6.2.1, ← HL1.out, ← HO4.out]
                have hos : OwS wr w.heap.size u7 es := own_kp (A := fun _ => False) (.of_below HB2.out) HOS.out (fun _ _ h => h)
                have hel : es.length ≤ 6 := by
                  have := congrArg List.length HST.out
                  simp [builtB] at this
                  have h6 := HI.out
                  omega
                have hap := app_seen (w := wr) (e := E) 23 hos (by omega) (Nat.le_trans HB.out.size HB2.out.size)
                have hbl := (Below.refl wr.heap.size wr).alloc (Nat.le_refl _) (Obj.cells E.cells 40)
                have hos1 : OwS (wr.alloc (.cells E.cells 40)) w.heap.size u7 es := own_kp (A := fun _ => False) (.of_below hbl) hos (fun _ _ h => h)
                have HOS1 := Lib.hid hos1
                have HBL := Lib.hid hbl
                rw [hec] at hap HBL
                rw [hec] at HOS1
                have HA := Lib.hid hap
                have HEB := Lib.hid hEB
                have HSTE := Lib.hid hst
                have HOLR := Lib.hid (HOL.out.keep HB2.out)
                have HESR := Lib.hid (fun e (he : e ∈ es) => (HES.out e he).keep HB2.out)
                have HBR := Lib.hid (HB.out.trans (HB2.out.mono HB.out.size))
                have z0 := HBS.out.cell 0
                have z1 := HBS.out.cell 1
                have z2 := HBS.out.cell 2
                have z3 := HBS.out.cell 3
                have z4 := HBS.out.cell 4
                have z5 := HBS.out.cell 5
                have z6 := HBS.out.cell 6
                have z7 := HBS.out.cell 7
                have z8 := HBS.out.cell 8
                simp at z0 z1 z2 z3 z4 z5 z6 z7 z8
                clear h3 hj hap hEB hst hos hos1 hbl hec hE hnl c6 hf6 hel hk2 hmo
                go_wp2_with (at_builtin; refine wpList_append_run rfl _ _ 23 rfl _ _ rfl rfl _ HA.out ?_)
                refine Later.mk fun _ _ u w3 hp1 hp2 => ?_
                have hszw : w.heap.size ≤ wr.heap.size := HBR.out.size
                have hk3 := Kp.of_grown hp2 (own_block HOS1.out) (Nat.le_trans hszw HBL.out.size)
                have hol1 := HOLR.out.keep HBL.out
                have hol3 : OwG w3 w.heap.size (.slice la k lc) (linG k) := ⟨own_kp hk3 hol1.1 (fun g hg e => own_apart hol1.1 HOS1.out (by decide) hg e), hol1.2⟩
                have heb : ∀ e, EB wr w.heap.size la lc (linG k) e → EB w3 w.heap.size la lc (linG k) e := fun e he => by
                  have h1 := he.keep HBL.out
                  exact ⟨h1.la, h1.lc, h1.line, ⟨own_kp hk3 h1.own.1 (fun g hg e => own_apart h1.own.1 HOS1.out (by decide) hg e), h1.own.2⟩, h1.told⟩
                have HOL3 := Lib.hid hol3
                have HES3 := Lib.hid (show ∀ e ∈ es ++ [E], EB w3 w.heap.size la lc (linG k) e from fun e he => by
                  rcases List.mem_append.1 he with h | h
                  · exact heb e (HESR.out e h)
                  · obtain rfl : e = E := by simpa using h
                    exact heb e HEB.out)
                have HOS3 := Lib.hid hp1
                have HST3 := Lib.hid (show (es ++ [E]).map El.strip = builtB (linG k) xs (i + 1) from by rw [List.map_append, HST.out, builtB_succ, ← HSTE.out]; rfl)
                have HB3 := Lib.hid ((HBR.out.trans (HBL.out.mono hszw)).trans (below_grown hp2 (Nat.le_trans hszw HBL.out.size) (own_block HOS1.out)))
                clear hszw hk3 hol1 hol3 heb hp1 hp2 HA HEB HESR HOLR HBL z0 z1 z2 z3 z4 z5 z6 z7 z8 hm4 c2 i3
                have hwi : IntKind.i64.wrap ((i : Int) + 1) = (i : Int) + 1 := IntWalk.i64_in _ (by have := HI.out; omega)
                have i9 : (i : Int) < 9223372036854775807 := by have := HI.out; omega
                clear hwi
                go_wp2
                have h6 := HI.out
                refine ⟨⟨i + 1, es ++ [E], by omega, by omega, by go_num, HB3.out, HOL3.out, HOS3.out, HES3.out, HST3.out⟩, by simp [intOf]; omega⟩
          · have him' : i = min m 6 := by omega
            have hok : ∀ e ∈ es, ElOK wr e := fun e he => (HES.out e he).ok (by rw [linG_len]; exact HOL.out.rd)
            have hel : es.length ≤ 6 := by
              have := congrArg List.length HST.out
              simp [builtB] at this
              omega
            have HIN := Lib.hid (HOS.out.ins hok (by unfold maxLen; omega))
            have HST := Lib.hid HST.out
            rw [him'] at HST
            obtain ⟨oa, oc, ho⟩ := own_slice HOS.out
            subst ho
            have i1 : (i : Int) < (m : Int) := by omega
            have i2 : ¬ (i < 6) := h2
            have d2 : decide (i < 6) = false := decide_eq_false i2
            clear h2
            clear him' hok hel him hi6 h1
            go_wp2
            go_ret
            exact ⟨_, es, rfl, HIN.out, HST.out, HB.out⟩
        · have him' : i = min m 6 := by omega
          have hok : ∀ e ∈ es, ElOK wr e := fun e he => (HES.out e he).ok (by rw [linG_len]; exact HOL.out.rd)
          have hel : es.length ≤ 6 := by
            have := congrArg List.length HST.out
            simp [builtB] at this
            omega
          have HIN := Lib.hid (HOS.out.ins hok (by unfold maxLen; omega))
          have HST := Lib.hid HST.out
          rw [him'] at HST
          obtain ⟨oa, oc, ho⟩ := own_slice HOS.out
          subst ho
          have i1 : ¬ (i < m) := h1
          have d1 : decide (i < m) = false := decide_eq_false i1
          clear him' hok hel him hi6 h1
          go_wp2
          go_ret
          exact ⟨_, es, rfl, HIN.out, HST.out, HB.out⟩
end Go.Proofs.Yteplcpiamocclaa
