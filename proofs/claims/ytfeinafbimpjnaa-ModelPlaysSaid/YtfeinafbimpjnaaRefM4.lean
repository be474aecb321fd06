/-
  THE DOCUMENT'S MODEL: Commit, Write, Begin.
-/
import Derived.Test.YtfeinafbimpjnaaRefM3
namespace Go.Proofs.Ytfeinafbimpjnaa
open Go.RowKit Reg Go.WideShapes Go.ChangeShapes

def Rf.taken (R : Rf) (l : List Gd) : Bool := begB l R.com || begB R.com l
def Rf.commit (R : Rf) (l : List Gd) : Rf := if begB l R.com then R else if begB R.com l then { R with com := l } else R
def Rf.write (R : Rf) (e b : Int) (d : ByteArray) : Rf := if ix R.lk e < R.lk.length ∧ 0 ≤ b ∧ b < R.n ∧ d.size = 32 then { R with lt := R.lt.set (ix R.lk e) ((R.lt.getD (ix R.lk e) []).set b.toNat d) } else R
def Z0 : ByteArray := strOfNums (List.replicate 32 0)
def Rf.begin (R : Rf) (e : Int) (g : Gd) : Rf := if ix R.lk e < R.lk.length then R else { R with lk := R.lk ++ [e], lt := R.lt ++ [if R.has g = true then R.image g else List.replicate R.n.toNat Z0] }
set_option maxRecDepth 100000 in
theorem rcommit_any (v : Value) (l : List Gd) (w : World) (base q : Nat) (R : Rf) (sl si sc : Value) (lv iv : List Value) (h : RMx w base q R sl si sc lv iv) (hb : base ≤ w.heap.size) (hv : InG w v l) (hl : l.length ≤ 2 ^ 20) :
    Calls Try.prog 18 #[.pointer (some ⟨q, 0, none⟩), v] w fun e w' => e = .returned (.bool (R.taken l)) ∧ (∃ sc', RMx w' base q (R.commit l) sl si sc' lv iv ∧ ∀ g, sc'.ownBlock = some g → sc.ownBlock = some g ∨ w.heap.size ≤ g) ∧ Kr base w w' := by
  have hb1 := refBegins_any v sc l R.com w hv h.rc.rd
  have hb2 := fun w1 (hb : Below w.heap.size w w1) => refBegins_any sc v R.com l w1 (h.rc.rd.keep hb) (hv.keep hb)
  have hap := fun w1 (hb : Below w.heap.size w w1) => app_guids (w := w1) (base := w.heap.size) 29 (OwG.nil_ _ _) (hv.keep hb) (by simp; omega) hb.size
  simp only [List.nil_append] at hap
  obtain ⟨a, c, rfl, -, -⟩ := hv.open_
  obtain ⟨a3, d3, rfl, -, -⟩ := h.rc.rd.open_
  unfold Rf.commit Rf.taken
  have HB1 := Lib.hid hb1
  have HB2 := Lib.hid hb2
  have HAP := Lib.hid hap
  have HM := Lib.hid h
  have HBS := Lib.hid hb
  have c3 := h.obj.cell 3
  simp at c3
  clear hb1 hb2 hap hl hv h hb
  generalize begB l R.com = b1 at *
  generalize begB R.com l = b2 at *
  generalize R.com.length = nc at *
  go_enter Try.func18, Try.ntmps18
  go_wp2_with fail
  refine HB1.out.mono ?_
  rintro e w1 ⟨rfl, hb⟩
  have HB := Lib.hid hb
  clear hb HB1
  cases b1 with
  | true =>
    clear c3
    go_wp2
    go_ret
    exact ⟨rfl, ⟨_, HM.out.keep HB.out, fun g hg => .inl hg⟩, .of_below HB.out⟩
  | false =>
    have c3 := cell_later HB.out c3
    go_wp2_with fail
    refine (HB2.out _ HB.out).mono ?_
    rintro e w2 ⟨rfl, hb⟩
    have HB := Lib.hid (HB.out.trans (hb.mono HB.out.size))
    clear hb HB2 c3
    cases b2 with
    | false =>
      go_wp2
      go_ret
      exact ⟨rfl, ⟨_, HM.out.keep HB.out, fun g hg => .inl hg⟩, .of_below HB.out⟩
    | true =>
      have HA := Lib.hid (HAP.out _ HB.out)
      clear HAP
      go_wp2_with (at_builtin; refine wpList_append_run rfl _ _ 29 rfl _ _ rfl rfl _ HA.out ?_)
      refine Later.mk fun _ _ u w3 hp => ?_
      have hbb := HB.out.trans (hp.below (OwG.nil_ _ _) HB.out.size)
      have ho := hp.1
      obtain ⟨ua, uc, rfl, -, -⟩ := ho.rd.open_
      have hm3 := HM.out.keep hbb
      have f3 := hm3.obj.frozen 3
      have c3 := hm3.obj.cell 3
      simp at c3
      have hfin := hm3.com (ho.mono HBS.out)
      have HF := Lib.hid hfin
      have HK := Lib.hid ((Kr.of_below (base := base) hbb).trans hfin.2)
      have HG := Lib.hid (fun g (hg : (Value.slice ua l.length uc).ownBlock = some g) => ho.from_ hg)
      clear hp hbb ho hm3 hfin HA
      go_wp2
      go_ret
      exact ⟨rfl, ⟨_, HF.out.1, fun g hg => .inr (HG.out g hg)⟩, HK.out⟩
set_option maxRecDepth 100000 in
theorem rwrite_any (w : World) (base q : Nat) (R : Rf) (e b : Int) (d : ByteArray) (h : RM w base q R) (h80 : R.lk.length ≤ 1000) (hd : d.size ≤ maxLen) :
    Calls Try.prog 14 #[.pointer (some ⟨q, 0, none⟩), .int .u64 e, .int .i64 b, .string d] w fun e' w' => e' = .returned (.tuple #[]) ∧ RM w' base q (R.write e b d) ∧ Kr base w w' := by
  have hep := epoch_any w base q R e h h80
  have HEP := Lib.hid hep
  obtain ⟨R', hR'⟩ : ∃ z, z = R.write e b d := ⟨_, rfl⟩
  rw [← hR']
  unfold Rf.write at hR'
  have HM := Lib.hid h
  have HD := Lib.hid hd
  have H80 := Lib.hid h80
  clear hep h h80 hd
  by_cases hi : ix R.lk e < R.lk.length
  · have he : R.ep e = (ix R.lk e : Nat) := by unfold Rf.ep; rw [if_pos hi]
    rw [he] at HEP
    clear he
    generalize hix : ix R.lk e = i at *
    clear hix
    have i0 : (0 : Int) ≤ (i : Int) := by omega
    by_cases hb0 : 0 ≤ b
    · by_cases hbn : b < R.n
      · by_cases hds : d.size = 32
        · rw [if_pos ⟨hi, hb0, hbn, hds⟩] at hR'
          have HR' := Lib.hid hR'
          obtain ⟨k, rfl⟩ : ∃ k : Nat, b = k := ⟨b.toNat, by omega⟩
          rw [Int.toNat_natCast] at HR'
          have d32 : (d.size : Int) = 32 := by omega
          have HI := Lib.hid hi
          have HDS := Lib.hid hds
          have HBN := Lib.hid hbn
          clear hR' hb0 hds hbn hi
          obtain ⟨sl, si, sc, lv, iv, hx⟩ := HM.out
          have c0 := hx.obj.cell 0
          simp at c0
          have hbn := HBN.out
          have HX := Lib.hid hx
          clear hx
          go_enter Try.func14, Try.ntmps14
          go_wp2_with fail
          refine HEP.out.mono ?_
          rintro e' w1 ⟨rfl, hb⟩
          have hx := HX.out.keep hb
          have hn8 := hx.n.2
          have c0 := cell_later hb c0
          have HK := Lib.hid (Kr.of_below (base := base) hb)
          have c1 := hx.obj.cell 1
          simp at c1
          obtain ⟨la, lc, rfl, hol⟩ := hx.openL
          obtain ⟨gl, rfl, -, c2⟩ := hol i HI.out
          have hel := hx.el i HI.out
          have hbn2 := HBN.out
          obtain ⟨gb, cb, hv, -, -, hfz, hcb⟩ := hel.1.block (by have := hel.2; omega)
          rw [hel.2] at hv
          rw [hv] at c2
          have hcell := hcb k (by have := hel.2; omega)
          have hfrz := hfz k
          have hput := hx.put (b := k) HI.out hv HD.out
          rw [← HR'.out] at hput
          have hi := HI.out
          have h80 := H80.out
          have HPUT := Lib.hid (show RM _ base q R' ∧ _ from ⟨⟨_, _, _, _, _, hput.1⟩, hput.2⟩)
          have i1 : (i : Int) < (R.lk.length : Int) := by omega
          have i9 : (i : Int) < 9223372036854775807 := by omega
          obtain ⟨nn, hnn⟩ : ∃ z : Nat, z = R.n.toNat := ⟨_, rfl⟩
          rw [← hnn] at c2
          have k1 : (k : Int) < (nn : Int) := by omega
          clear hb hx hol hel hv hcb hfz hput hi h80 hbn2 HX HEP hn8 hnn
          clear hbn
          have hbn := HBN.out
          go_wp2
          go_end0
          exact ⟨rfl, HPUT.out.1, HK.out.trans HPUT.out.2⟩
        · rw [if_neg (fun e => hds e.2.2.2)] at hR'
          subst hR'
          have d32 : ((d.size : Int) == 32) = false := by simp; omega
          obtain ⟨sl, si, sc, lv, iv, hx⟩ := HM.out
          have c0 := hx.obj.cell 0
          simp at c0
          clear hi hds hx
          go_enter Try.func14, Try.ntmps14
          go_wp2_with fail
          refine HEP.out.mono ?_
          rintro e' w1 ⟨rfl, hb⟩
          have c0 := cell_later hb c0
          have HB := Lib.hid hb
          clear hb HEP
          go_wp2
          go_end0
          exact ⟨rfl, HM.out.keep HB.out, .of_below HB.out⟩
      · rw [if_neg (fun e => hbn e.2.2.1)] at hR'
        subst hR'
        have dn : decide (b < R'.n) = false := decide_eq_false hbn
        obtain ⟨sl, si, sc, lv, iv, hx⟩ := HM.out
        have c0 := hx.obj.cell 0
        simp at c0
        clear hi hx
        go_enter Try.func14, Try.ntmps14
        go_wp2_with fail
        refine HEP.out.mono ?_
        rintro e' w1 ⟨rfl, hb⟩
        have c0 := cell_later hb c0
        have HB := Lib.hid hb
        clear hb HEP
        go_wp2
        go_end0
        exact ⟨rfl, HM.out.keep HB.out, .of_below HB.out⟩
    · rw [if_neg (fun e => hb0 e.2.1)] at hR'
      subst hR'
      have dn : decide (0 ≤ b) = false := decide_eq_false hb0
      clear hi
      go_enter Try.func14, Try.ntmps14
      go_wp2_with fail
      refine HEP.out.mono ?_
      rintro e' w1 ⟨rfl, hb⟩
      have HB := Lib.hid hb
      clear hb HEP
      go_wp2
      go_end0
      exact ⟨rfl, HM.out.keep HB.out, .of_below HB.out⟩
  · rw [if_neg (fun e => hi e.1)] at hR'
    subst hR'
    have he : R'.ep e = -1 := by unfold Rf.ep; rw [if_neg hi]
    rw [he] at HEP
    clear he hi
    go_enter Try.func14, Try.ntmps14
    go_wp2_with fail
    refine HEP.out.mono ?_
    rintro e' w1 ⟨rfl, hb⟩
    have HB := Lib.hid hb
    clear hb HEP
    go_wp2
    go_end0
    exact ⟨rfl, HM.out.keep HB.out, .of_below HB.out⟩
end Go.Proofs.Ytfeinafbimpjnaa
