/-
  META: the laws' guid and one; works (printed by wip/gen-mett.py).
-/
import Derived.Test.YtimgecflcackbaaMetS
namespace Go.Proofs.Ytimgecflcackbaa
open Go.RowKit Reg Go.ChangeShapes

theorem InMt.open_ {w : World} {v : Value} {m : Mt} (h : InMt w v m) : ∃ la lc sa sc ia ic, v = .agg #[.slice la m.live.length lc, .slice sa m.snaps.length sc, .int .u64 m.token.base.1, .int .u64 m.token.base.2, .int .u64 m.token.target.1, .int .u64 m.token.target.2, .int .i64 m.token.next, .int .i64 m.token.all, .slice ia m.token.image.length ic] := by
  obtain ⟨lv, sv, iv, rfl, h1, h2, h3, -⟩ := h
  obtain ⟨la, lc, rfl, -, -⟩ := h1.open_
  obtain ⟨sa, sc, rfl, -, -⟩ := h2
  obtain ⟨ia, ic, rfl, -, -⟩ := h3.open_
  exact ⟨la, lc, sa, sc, ia, ic, rfl⟩
/-- a table in a block of its own -/
def MtG (w : World) (g : Nat) (m : Mt) : Prop := ∃ la lc sa sc ia ic, Blk w g 30 #[.slice la m.live.length lc, .slice sa m.snaps.length sc, .int .u64 m.token.base.1, .int .u64 m.token.base.2, .int .u64 m.token.target.1, .int .u64 m.token.target.2, .int .i64 m.token.next, .int .i64 m.token.all, .slice ia m.token.image.length ic] ∧ InMt w (.agg #[.slice la m.live.length lc, .slice sa m.snaps.length sc, .int .u64 m.token.base.1, .int .u64 m.token.base.2, .int .u64 m.token.target.1, .int .u64 m.token.target.2, .int .i64 m.token.next, .int .i64 m.token.all, .slice ia m.token.image.length ic]) m
theorem MtG.keep {w w' : World} {g : Nat} {m : Mt} (h : MtG w g m) (hb : Below w.heap.size w w') : MtG w' g m := by
  obtain ⟨la, lc, sa, sc, ia, ic, h1, h2⟩ := h
  exact ⟨la, lc, sa, sc, ia, ic, h1.keep hb, h2.keep hb⟩
theorem MtG.new {w : World} {m : Mt} {la sa ia : Option Addr} {lc sc ic : Nat} (h : InMt w (.agg #[.slice la m.live.length lc, .slice sa m.snaps.length sc, .int .u64 m.token.base.1, .int .u64 m.token.base.2, .int .u64 m.token.target.1, .int .u64 m.token.target.2, .int .i64 m.token.next, .int .i64 m.token.all, .slice ia m.token.image.length ic]) m) : MtG (w.alloc (.cells #[.slice la m.live.length lc, .slice sa m.snaps.length sc, .int .u64 m.token.base.1, .int .u64 m.token.base.2, .int .u64 m.token.target.1, .int .u64 m.token.target.2, .int .i64 m.token.next, .int .i64 m.token.all, .slice ia m.token.image.length ic] 30)) w.heap.size m :=
  ⟨la, lc, sa, sc, ia, ic, Blk.new _ _ _, h.keep ((Below.refl _ _).alloc (Nat.le_refl _) _)⟩
/-- a table is given back -/
def RetM (w : World) (m : Mt) (e : Ending) (w' : World) : Prop := ∃ la lc sa sc ia ic, e = .returned (.agg #[.slice la m.live.length lc, .slice sa m.snaps.length sc, .int .u64 m.token.base.1, .int .u64 m.token.base.2, .int .u64 m.token.target.1, .int .u64 m.token.target.2, .int .i64 m.token.next, .int .i64 m.token.all, .slice ia m.token.image.length ic]) ∧ InMt w' (.agg #[.slice la m.live.length lc, .slice sa m.snaps.length sc, .int .u64 m.token.base.1, .int .u64 m.token.base.2, .int .u64 m.token.target.1, .int .u64 m.token.target.2, .int .i64 m.token.next, .int .i64 m.token.all, .slice ia m.token.image.length ic]) m ∧ Below w.heap.size w w'
/-- a table is given back, and a number -/
def RetZ (w : World) (m : Mt) (z : Int) (e : Ending) (w' : World) : Prop := ∃ la lc sa sc ia ic, e = .returned (.tuple #[.agg #[.slice la m.live.length lc, .slice sa m.snaps.length sc, .int .u64 m.token.base.1, .int .u64 m.token.base.2, .int .u64 m.token.target.1, .int .u64 m.token.target.2, .int .i64 m.token.next, .int .i64 m.token.all, .slice ia m.token.image.length ic], .int .i64 z]) ∧ InMt w' (.agg #[.slice la m.live.length lc, .slice sa m.snaps.length sc, .int .u64 m.token.base.1, .int .u64 m.token.base.2, .int .u64 m.token.target.1, .int .u64 m.token.target.2, .int .i64 m.token.next, .int .i64 m.token.all, .slice ia m.token.image.length ic]) m ∧ Below w.heap.size w w'
theorem DecT.z {w w' : World} {m : Mt} {z : Int} {e : Ending} (h : DecT w m z e w') : RetZ w m z e w' := by
  obtain ⟨v, rfl, hv, hb⟩ := h
  have hin := hv.inm
  obtain ⟨la, lc, sa, sc, ia, ic, rfl⟩ := hin.open_
  exact ⟨la, lc, sa, sc, ia, ic, rfl, hin, hb⟩
theorem OwI.litAt (w : World) (zs : List Int) (cs : Array Value) (g : Nat) (hg : w.heap.size = g) (hc : cs = (zs.map (Value.int .i64)).toArray) (h1 : zs.length ≤ 1000) (hw : ∀ z ∈ zs, (Lit.int .i64 z).wf = true) :
    OwI (w.alloc (.cells cs 3)) g (.slice (some ⟨g, 0, none⟩) zs.length zs.length) zs := by
  subst hg hc
  have := own_new w w.heap.size 3 (zs.map (Value.int .i64)).toArray 1 zs.length (by simp) (Nat.le_refl _) (by unfold maxLen; omega)
  exact ⟨by simpa using this, by unfold maxLen; omega, hw⟩
theorem guid_any (a b : Int) (w : World) : Calls Try.prog 19 #[.int .u64 a, .int .u64 b] w fun e w' => e = .returned (.agg #[.int .u64 a, .int .u64 b]) ∧ Below w.heap.size w w' := by
  go_enter Try.func19, Try.ntmps19
  go_wp2
  refine bodyPost_ret (results_cell (ty := 26) (g := w.heap.size) (k := 4) rfl rfl (Blk.new _ _ _) Try.underlying26 rfl (by kernel_rfl)) rfl ⟨rfl, ?_⟩
  exact (Below.refl _ _).alloc (Nat.le_refl _) _
def oneM : Mt := ⟨[193], [⟨(1, 2), [193], false⟩], zeroT⟩
def oneB : ByteArray := ⟨#[1, 1, 1, 193, 1, 1, 1, 1, 1, 2, 0, 1, 193, 0]⟩
theorem one_encE : encE oneM = 0 := by decide +kernel
theorem one_encM : encM oneM = oneB := by decide +kernel
theorem one_read : readM 1024 capB capS oneB = oneM := by kernel_rfl
theorem one_dec : decM (readM 1024 capB capS oneB) oneB = oneM ∧ decZ (readM 1024 capB capS oneB) oneB = 0 := by
  rw [one_read]
  exact ⟨if_pos ⟨one_encE, one_encM⟩, if_pos ⟨one_encE, one_encM⟩⟩
theorem one_check : mtOf oneM 1 194 = 0 := by decide +kernel
theorem encw (w : World) {v : Value} (h : InMt w v oneM) : Calls Try.prog 13 #[v] w fun e w' => ∃ s, e = .returned (.tuple #[.string s, .int .i64 0]) ∧ s = oneB ∧ Below w.heap.size w w' := by
  have := enc_any w v oneM h
  rw [one_encE, one_encM] at this
  exact this.mono fun e w' ⟨he, hb⟩ => ⟨_, he, rfl, hb⟩
theorem decw (w : World) {s : ByteArray} (hs : s = oneB) : Calls Try.prog 17 #[.string s] w (RetZ w oneM 0) := by
  subst hs
  have h := dec_any w oneB (by decide)
  rw [one_dec.1, one_dec.2] at h
  exact h.mono fun _ _ h => h.z
theorem samew (w : World) {u v : Value} {m : Mt} (hu : InMt w u m) (hv : InMt w v m) : Calls Try.prog 15 #[u, v] w fun e w' => e = .returned (.bool true) ∧ Below w.heap.size w w' := by
  have := sameM_any w u v m m hu hv
  rwa [sameM_refl] at this
theorem checkw (w : World) {v : Value} (h : InMt w v oneM) : Calls Try.prog 10 #[v, .int .i64 1, .int .i64 194] w fun e w' => e = .returned (.int .i64 0) ∧ Below w.heap.size w w' := by
  have := checkM_any w v oneM 1 194 h
  rwa [one_check] at this
set_option maxRecDepth 100000 in
set_option maxHeartbeats 1000000 in
theorem one_any (w : World) : Calls Try.prog 45 #[] w (RetM w oneM) := by
  have hb0 := (Below.refl w.heap.size w).alloc (Nat.le_refl _) (Obj.cells #[.slice none 0 0, .slice none 0 0, .int .u64 0, .int .u64 0, .int .u64 0, .int .u64 0, .int .i64 0, .int .i64 0, .slice none 0 0] 30)
  have hz0 := Blk.new w 30 #[.slice none 0 0, .slice none 0 0, .int .u64 0, .int .u64 0, .int .u64 0, .int .u64 0, .int .i64 0, .int .i64 0, .slice none 0 0]
  have hl0 := OwI.litAt (w.alloc (Obj.cells #[.slice none 0 0, .slice none 0 0, .int .u64 0, .int .u64 0, .int .u64 0, .int .u64 0, .int .i64 0, .int .i64 0, .slice none 0 0] 30)) [193] #[.int .i64 193] (w.heap.size + 1) (by simp) rfl (by decide) (by decide)
  have hb1 := (Below.refl (w.heap.size + 1) (w.alloc (Obj.cells #[.slice none 0 0, .slice none 0 0, .int .u64 0, .int .u64 0, .int .u64 0, .int .u64 0, .int .i64 0, .int .i64 0, .slice none 0 0] 30))).alloc (by simp) (Obj.cells #[.int .i64 193] 3)
  go_enter Try.func45, Try.ntmps45
  go_wp2_with fail
  have HB := Lib.hid (hb0.alloc hb0.size (Obj.cells #[.int .i64 193] 3))
  have HZ := Lib.hid (hz0.alloc (Obj.cells #[.int .i64 193] 3))
  have HL := Lib.hid hl0
  clear hb0 hz0 hl0 hb1
  generalize (w.alloc (Obj.cells #[.slice none 0 0, .slice none 0 0, .int .u64 0, .int .u64 0, .int .u64 0, .int .u64 0, .int .i64 0, .int .i64 0, .slice none 0 0] 30)).alloc (Obj.cells #[.int .i64 193] 3) = w1 at *
  refine (guid_any 1 2 w1).mono ?_
  rintro e w2 ⟨rfl, hb⟩
  replace HB := Lib.hid (HB.out.trans (hb.mono HB.out.size))
  replace HZ := Lib.hid (HZ.out.keep hb)
  replace HL := Lib.hid (HL.out.keep hb)
  clear hb
  have hbx := ((Below.refl w2.heap.size w2).alloc (Nat.le_refl _) (Obj.cells #[.int .i64 193] 3)).alloc (by simp) (Obj.cells #[.int .u64 1, .int .u64 2, .slice (some ⟨w2.heap.size, 0, none⟩) 1 1, .bool false] 48)
  have hba := (Below.refl (w2.alloc (Obj.cells #[.int .i64 193] 3)).heap.size (w2.alloc (Obj.cells #[.int .i64 193] 3))).alloc (Nat.le_refl _) (Obj.cells #[.int .u64 1, .int .u64 2, .slice (some ⟨w2.heap.size, 0, none⟩) 1 1, .bool false] 48)
  have hl2 := OwI.litAt w2 [193] #[.int .i64 193] w2.heap.size rfl rfl (by decide) (by decide)
  have hsb := Blk.newAt (w := w2.alloc (Obj.cells #[.int .i64 193] 3)) 48 #[.int .u64 1, .int .u64 2, .slice (some ⟨w2.heap.size, 0, none⟩) 1 1, .bool false] (g := w2.heap.size + 1) (by simp)
  have HZ2 := Lib.hid (HZ.out.keep hbx)
  have HLV := Lib.hid (HL.out.keep hbx)
  have HL2 := Lib.hid (hl2.keep hba)
  have HSB := Lib.hid hsb
  have HB2 := Lib.hid (HB.out.trans (hbx.mono HB.out.size))
  have HG := Lib.hid HZ.out.lt
  clear hbx hba hl2 hsb HL HZ HB
  go_wp2_with (refine wpList_store_then rfl 30 _ _ rfl w.heap.size #[.slice (some ⟨w.heap.size + 1, 0, none⟩) 1 1, .slice (some ⟨w2.heap.size + 1, 0, none⟩) 1 1, .int .u64 0, .int .u64 0, .int .u64 0, .int .u64 0, .int .i64 0, .int .i64 0, .slice none 0 0] rfl rfl 30 _ HZ2.out meta_size rfl (mt_one _ _ _ _ _ _ _ _ _ _ _ _ _ _ _) ?_)
  generalize (w2.alloc (Obj.cells #[.int .i64 193] 3)).alloc (Obj.cells #[.int .u64 1, .int .u64 2, .slice (some ⟨w2.heap.size, 0, none⟩) 1 1, .bool false] 48) = w3 at *
  refine Later.mk fun w9 hw9 => ?_
  have H9 := Lib.hid (show Below w.heap.size w w9 ∧ Blk w9 w.heap.size 30 _ ∧ OwMt w9 w.heap.size (.agg #[.slice (some ⟨w.heap.size + 1, 0, none⟩) 1 1, .slice (some ⟨w2.heap.size + 1, 0, none⟩) 1 1, .int .u64 0, .int .u64 0, .int .u64 0, .int .u64 0, .int .i64 0, .int .i64 0, .slice none 0 0]) oneM by
    rw [hw9]
    have hkr := kp_row w3 w.heap.size #[.slice (some ⟨w.heap.size + 1, 0, none⟩) 1 1, .slice (some ⟨w2.heap.size + 1, 0, none⟩) 1 1, .int .u64 0, .int .u64 0, .int .u64 0, .int .u64 0, .int .i64 0, .int .i64 0, .slice none 0 0]
    have hoth : ∀ base b, b = w.heap.size → Oth w3 base b := fun base b hb => by subst hb; exact .inr ⟨_, _, HZ2.out, by decide, by decide⟩
    have hsn : OwSn w3 w.heap.size (.slice (some ⟨w2.heap.size + 1, 0, none⟩) 1 1) oneM.snaps := ⟨by decide, (by intro s hs; simp [oneM] at hs; rw [hs]; exact ⟨rfl, rfl⟩), [⟨(1, 2), [193], false, some ⟨w2.heap.size, 0, none⟩, 1⟩],
      ⟨rfl, .inr ⟨w2.heap.size + 1, 1, #[.int .u64 1, .int .u64 2, .slice (some ⟨w2.heap.size, 0, none⟩) 1 1, .bool false], rfl, by have := HG.out; omega, HSB.out, Nat.le_refl _, by unfold maxLen; omega, rfl, rfl⟩⟩, (by intro e he; rw [List.mem_singleton] at he; rw [he]; exact HL2.out.mono (Nat.le_of_lt HG.out)), rfl⟩
    exact ⟨Below.setRow HB2.out (Nat.le_refl _) _, HZ2.out.row _, _, _, _, rfl, (HLV.out.mono (by omega)).kpT hkr (hoth _), hsn.kpT hkr (hoth _), OwI.nil_ _ _, zeroT_wf⟩)
  clear hw9 HZ2 HLV HL2 HSB HB2
  go_wp2
  refine bodyPost_ret (results_cell (ty := 30) (g := w.heap.size) (k := 0) rfl rfl H9.out.2.1 Try.underlying30 rfl meta_size) rfl ⟨_, _, _, _, _, _, rfl, H9.out.2.2.inm, H9.out.1⟩
/-- the first of the chain is a table -/
def JM (w0 : World) (m : Mt) (l : List Value) (w : World) : Prop := Below w0.heap.size w0 w ∧ ∀ u, l[0]? = some u → InMt w u m
set_option maxRecDepth 100000 in
set_option maxHeartbeats 2000000 in
theorem works_any (w : World) : Calls Try.prog 12 #[] w fun e w' => e = .returned (.bool true) ∧ Below w.heap.size w w' := by
  go_enter Try.func12, Try.ntmps12
  go_wp2_with fail
  refine (one_any _).mono ?_
  rintro e w1 ⟨la, lc, sa, sc, ia, ic, rfl, hi, hb⟩
  have HB := Lib.hid hb
  have HI := Lib.hid hi
  clear hb hi
  go_wp2_with fail
  refine (encw _ HI.out).mono ?_
  rintro e w2 ⟨s, rfl, hs, hb⟩
  replace HB := Lib.hid (HB.out.trans (hb.mono HB.out.size))
  have HS := Lib.hid hs
  clear hb hs HI
  go_wp2_with fail
  refine (decw _ HS.out).mono ?_
  rintro e w3 ⟨la', lc', sa', sc', ia', ic', rfl, hi, hb⟩
  replace HB := Lib.hid (HB.out.trans (hb.mono HB.out.size))
  have hbx := (Below.refl w3.heap.size w3).alloc (Nat.le_refl _) (Obj.cells #[.slice la' oneM.live.length lc', .slice sa' oneM.snaps.length sc', .int .u64 oneM.token.base.1, .int .u64 oneM.token.base.2, .int .u64 oneM.token.target.1, .int .u64 oneM.token.target.2, .int .i64 oneM.token.next, .int .i64 oneM.token.all, .slice ia' oneM.token.image.length ic'] 30)
  have HX := Lib.hid (Blk.new w3 30 #[.slice la' oneM.live.length lc', .slice sa' oneM.snaps.length sc', .int .u64 oneM.token.base.1, .int .u64 oneM.token.base.2, .int .u64 oneM.token.target.1, .int .u64 oneM.token.target.2, .int .i64 oneM.token.next, .int .i64 oneM.token.all, .slice ia' oneM.token.image.length ic'])
  have HI := Lib.hid (hi.keep hbx)
  replace HB := Lib.hid (HB.out.trans (hbx.mono HB.out.size))
  clear hb hi hbx
  go_wp2_with fail
  generalize w3.alloc (Obj.cells #[.slice la' oneM.live.length lc', .slice sa' oneM.snaps.length sc', .int .u64 oneM.token.base.1, .int .u64 oneM.token.base.2, .int .u64 oneM.token.target.1, .int .u64 oneM.token.target.2, .int .i64 oneM.token.next, .int .i64 oneM.token.all, .slice ia' oneM.token.image.length ic'] 30) = w4 at *
  generalize w3.heap.size = g at *
  have e1 : (s.toList == ({ data := #[1, 1, 1, 193, 1, 1, 1, 1, 1, 2, 0, 1, 193, 0] } : ByteArray).toList) = true := by rw [HS.out]; exact same_str _
  have e2 : s.toList = ({ data := #[1, 1, 1, 193, 1, 1, 1, 1, 1, 2, 0, 1, 193, 0] } : ByteArray).toList := by rw [HS.out]; rfl
  refine wp_region_chain [12, 13, 17] (kv [(12, .ex (fun u => ∃ la lc sa sc ia ic, u = .agg #[.slice la oneM.live.length lc, .slice sa oneM.snaps.length sc, .int .u64 oneM.token.base.1, .int .u64 oneM.token.base.2, .int .u64 oneM.token.target.1, .int .u64 oneM.token.target.2, .int .i64 oneM.token.next, .int .i64 oneM.token.all, .slice ia oneM.token.image.length ic]) ⟨_, none, 0, none, 0, none, 0, rfl⟩), (13, .is (.bool true)), (17, .is (.int .i64 0))]) (JM w4 oneM) (by kernel_rfl) (by kernel_rfl) (by kernel_rfl) (kv_inh _) (⟨Below.drew (Below.refl _ _), fun u h => by simp at h⟩) ?_
  intro ν hν
  obtain ⟨lb, lx, sb, sx, ib, ix, n12⟩ : ∃ la lc sa sc ia ic, ν 12 = .agg #[.slice la oneM.live.length lc, .slice sa oneM.snaps.length sc, .int .u64 oneM.token.base.1, .int .u64 oneM.token.base.2, .int .u64 oneM.token.target.1, .int .u64 oneM.token.target.2, .int .i64 oneM.token.next, .int .i64 oneM.token.all, .slice ia oneM.token.image.length ic] := hν 12
  have n13 : ν 13 = .bool true := hν 13
  have n17 : ν 17 = .int .i64 0 := hν 17
  clear hν
  refine ch_plain 0 3 6 (by rfl) rfl (by kernel_rfl) (by kernel_rfl) ?_
  apply Exists.intro
  refine ⟨fun st w2 hlo hhi hJ => ?_, ?_⟩
  · clear hlo hhi hJ
    go_simp
    exact And.intro rfl rfl
  simp only [Act.put, List.setIfInBounds_toArray, List.set_cons_succ, List.set_cons_zero, Nat.reduceAdd]
  refine ch_plain 0 3 6 (by rfl) rfl (by kernel_rfl) (by kernel_rfl) ?_
  apply Exists.intro
  refine ⟨fun st w2 hlo hhi hJ => ?_, ?_⟩
  · clear hlo hhi hJ
    go_simp
    exact And.intro rfl rfl
  simp only [Act.put, List.setIfInBounds_toArray, List.set_cons_succ, List.set_cons_zero, Nat.reduceAdd]
  refine ch_plain 0 3 6 (by rfl) rfl (by kernel_rfl) (by kernel_rfl) ?_
  apply Exists.intro
  refine ⟨fun st w2 hlo hhi hJ => ?_, ?_⟩
  · clear hlo hhi hJ
    go_simp
    exact And.intro rfl rfl
  simp only [Act.put, List.setIfInBounds_toArray, List.set_cons_succ, List.set_cons_zero, Nat.reduceAdd]
  refine ch_plain 0 3 6 (by rfl) rfl (by kernel_rfl) (by kernel_rfl) ?_
  apply Exists.intro
  refine ⟨fun st w2 hlo hhi hJ => ?_, ?_⟩
  · clear hlo hhi hJ
    go_simp
    exact And.intro rfl rfl
  simp only [Act.put, List.setIfInBounds_toArray, List.set_cons_succ, List.set_cons_zero, Nat.reduceAdd]
  refine ch_plain 0 3 6 (by rfl) rfl (by kernel_rfl) (by kernel_rfl) ?_
  apply Exists.intro
  refine ⟨fun st w2 hlo hhi hJ => ?_, ?_⟩
  · clear hlo hhi hJ
    go_simp
    exact And.intro rfl rfl
  simp only [Act.put, List.setIfInBounds_toArray, List.set_cons_succ, List.set_cons_zero, Nat.reduceAdd]
  refine ch_plain 0 3 6 (by rfl) rfl (by kernel_rfl) (by kernel_rfl) ?_
  apply Exists.intro
  refine ⟨fun st w2 hlo hhi hJ => ?_, ?_⟩
  · clear hlo hhi hJ
    go_simp
    exact And.intro rfl rfl
  simp only [Act.put, List.setIfInBounds_toArray, List.set_cons_succ, List.set_cons_zero, Nat.reduceAdd]
  refine ch_plain 0 3 6 (by rfl) rfl (by kernel_rfl) (by kernel_rfl) ?_
  apply Exists.intro
  refine ⟨fun st w2 hlo hhi hJ => ?_, ?_⟩
  · clear hlo hhi hJ
    go_simp
    exact And.intro rfl rfl
  simp only [Act.put, List.setIfInBounds_toArray, List.set_cons_succ, List.set_cons_zero, Nat.reduceAdd]
  refine ch_plain 0 3 6 (by rfl) rfl (by kernel_rfl) (by kernel_rfl) ?_
  apply Exists.intro
  refine ⟨fun st w2 hlo hhi hJ => ?_, ?_⟩
  · clear hlo hhi hJ
    go_simp
    exact And.intro rfl rfl
  simp only [Act.put, List.setIfInBounds_toArray, List.set_cons_succ, List.set_cons_zero, Nat.reduceAdd]
  refine ch_plain 0 3 6 (by rfl) rfl (by kernel_rfl) (by kernel_rfl) ?_
  apply Exists.intro
  refine ⟨fun st w2 hlo hhi hJ => ?_, ?_⟩
  · clear hlo hhi hJ
    go_simp
    exact And.intro rfl rfl
  simp only [Act.put, List.setIfInBounds_toArray, List.set_cons_succ, List.set_cons_zero, Nat.reduceAdd]
  refine ch_plain 0 3 6 (by rfl) rfl (by kernel_rfl) (by kernel_rfl) ?_
  apply Exists.intro
  refine ⟨fun st w2 hlo hhi hJ => ?_, ?_⟩
  · clear hlo hhi hJ
    go_simp
    exact And.intro rfl rfl
  simp only [Act.put, List.setIfInBounds_toArray, List.set_cons_succ, List.set_cons_zero, Nat.reduceAdd]
  refine ch_plain 0 3 6 (by rfl) rfl (by kernel_rfl) (by kernel_rfl) ?_
  apply Exists.intro
  refine ⟨fun st w2 hlo hhi hJ => ?_, ?_⟩
  · clear hlo hhi hJ
    go_simp
    exact And.intro rfl rfl
  simp only [Act.put, List.setIfInBounds_toArray, List.set_cons_succ, List.set_cons_zero, Nat.reduceAdd]
  refine ch_plain 0 3 6 (by rfl) rfl (by kernel_rfl) (by kernel_rfl) ?_
  apply Exists.intro
  refine ⟨fun st w2 hlo hhi hJ => ?_, ?_⟩
  · have hZ := hJ.1
    have y0 := (HX.out.keep hZ).cell 0
    have y1 := (HX.out.keep hZ).cell 1
    have y2 := (HX.out.keep hZ).cell 2
    have y3 := (HX.out.keep hZ).cell 3
    have y4 := (HX.out.keep hZ).cell 4
    have y5 := (HX.out.keep hZ).cell 5
    have y6 := (HX.out.keep hZ).cell 6
    have y7 := (HX.out.keep hZ).cell 7
    have y8 := (HX.out.keep hZ).cell 8
    simp at y0 y1 y2 y3 y4 y5 y6 y7 y8
    clear hZ
    clear hlo hhi hJ
    go_simp
    exact And.intro rfl rfl
  simp only [Act.put, List.setIfInBounds_toArray, List.set_cons_succ, List.set_cons_zero, Nat.reduceAdd]
  refine ch_special 0 6 (by rfl) rfl (by decide) (by kernel_rfl) (fun w2 hJ => ?_) ?_
  · have hj : JM w4 oneM [] w2 := hJ
    go_simp
    refine (one_any _).mono ?_
    rintro e w5 ⟨la, lc, sa, sc, ia, ic, rfl, hi, hb⟩
    exact ⟨_, rfl, ⟨_, _, _, _, _, _, rfl⟩, hj.1.trans (hb.mono hj.1.size), fun u hu => by obtain rfl := Option.some.inj hu; exact hi⟩
  rw [n12]
  simp only [Act.put, List.setIfInBounds_toArray, List.set_cons_succ, List.set_cons_zero, Nat.reduceAdd]
  refine ch_special 1 6 (by rfl) rfl (by decide) (by kernel_rfl) (fun w2 hJ => ?_) ?_
  · have hj : JM w4 oneM [ν 12] w2 := hJ
    rw [n12] at hj
    have hin := hj.2 _ rfl
    go_simp
    refine (samew _ (HI.out.keep hj.1) hin).mono ?_
    rintro e w5 ⟨rfl, hb⟩
    exact ⟨_, rfl, rfl, hj.1.trans (hb.mono hj.1.size), fun u hu => by obtain rfl := Option.some.inj hu; exact hin.keep hb⟩
  rw [n13]
  simp only [Act.put, List.setIfInBounds_toArray, List.set_cons_succ, List.set_cons_zero, Nat.reduceAdd]
  refine ch_plain 0 3 6 (by rfl) rfl (by kernel_rfl) (by kernel_rfl) ?_
  apply Exists.intro
  refine ⟨fun st w2 hlo hhi hJ => ?_, ?_⟩
  · clear hlo hhi hJ
    go_simp
    exact And.intro rfl rfl
  simp only [Act.put, List.setIfInBounds_toArray, List.set_cons_succ, List.set_cons_zero, Nat.reduceAdd]
  refine ch_plain 0 3 6 (by rfl) rfl (by kernel_rfl) (by kernel_rfl) ?_
  apply Exists.intro
  refine ⟨fun st w2 hlo hhi hJ => ?_, ?_⟩
  · clear hlo hhi hJ
    go_simp
    exact And.intro rfl rfl
  simp only [Act.put, List.setIfInBounds_toArray, List.set_cons_succ, List.set_cons_zero, Nat.reduceAdd]
  refine ch_plain 0 3 6 (by rfl) rfl (by kernel_rfl) (by kernel_rfl) ?_
  apply Exists.intro
  refine ⟨fun st w2 hlo hhi hJ => ?_, ?_⟩
  · have hZ := hJ.1
    have y0 := (HX.out.keep hZ).cell 0
    have y1 := (HX.out.keep hZ).cell 1
    have y2 := (HX.out.keep hZ).cell 2
    have y3 := (HX.out.keep hZ).cell 3
    have y4 := (HX.out.keep hZ).cell 4
    have y5 := (HX.out.keep hZ).cell 5
    have y6 := (HX.out.keep hZ).cell 6
    have y7 := (HX.out.keep hZ).cell 7
    have y8 := (HX.out.keep hZ).cell 8
    simp at y0 y1 y2 y3 y4 y5 y6 y7 y8
    clear hZ
    clear hlo hhi hJ
    go_simp
    exact And.intro rfl rfl
  simp only [Act.put, List.setIfInBounds_toArray, List.set_cons_succ, List.set_cons_zero, Nat.reduceAdd]
  refine ch_special 2 6 (by rfl) rfl (by decide) (by kernel_rfl) (fun w2 hJ => ?_) ?_
  · have hj : JM w4 oneM [ν 12, ν 13] w2 := hJ
    rw [n12] at hj
    have hin := hj.2 _ rfl
    go_simp
    refine (checkw _ (HI.out.keep hj.1)).mono ?_
    rintro e w5 ⟨rfl, hb⟩
    exact ⟨_, rfl, rfl, hj.1.trans (hb.mono hj.1.size), fun u hu => by obtain rfl := Option.some.inj hu; exact hin.keep hb⟩
  rw [n17]
  simp only [Act.put, List.setIfInBounds_toArray, List.set_cons_succ, List.set_cons_zero, Nat.reduceAdd]
  refine ch_plain 0 3 6 (by rfl) rfl (by kernel_rfl) (by kernel_rfl) ?_
  apply Exists.intro
  refine ⟨fun st w2 hlo hhi hJ => ?_, ?_⟩
  · clear hlo hhi hJ
    go_simp
    exact And.intro rfl rfl
  simp only [Act.put, List.setIfInBounds_toArray, List.set_cons_succ, List.set_cons_zero, Nat.reduceAdd]
  refine ch_plain 0 3 6 (by rfl) rfl (by kernel_rfl) (by kernel_rfl) ?_
  apply Exists.intro
  refine ⟨fun st w2 hlo hhi hJ => ?_, ?_⟩
  · clear hlo hhi hJ
    go_simp
    exact And.intro rfl rfl
  simp only [Act.put, List.setIfInBounds_toArray, List.set_cons_succ, List.set_cons_zero, Nat.reduceAdd]
  refine ch_plain 0 3 6 (by rfl) rfl (by kernel_rfl) (by kernel_rfl) ?_
  apply Exists.intro
  refine ⟨fun st w2 hlo hhi hJ => ?_, ?_⟩
  · clear hlo hhi hJ
    go_simp
    exact And.intro rfl rfl
  simp only [Act.put, Nat.reduceAdd]
  refine ch_nil (fun w5 hJ => ?_)
  clear n12 n13 n17
  have HB9 := Lib.hid (HB.out.trans ((show Below w4.heap.size w4 w5 from hJ.1).mono HB.out.size))
  clear hJ
  go_wp2
  go_ret
  exact ⟨rfl, HB9.out⟩
end Go.Proofs.Ytimgecflcackbaa
