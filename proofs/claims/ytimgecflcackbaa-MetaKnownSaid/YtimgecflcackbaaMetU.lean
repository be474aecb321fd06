/-
  META: short (printed by wip/gen-metu.py).
-/
import Derived.Test.YtimgecflcackbaaMetT
namespace Go.Proofs.Ytimgecflcackbaa
open Go.RowKit Reg Go.ChangeShapes

theorem InI.take {w : World} {a : Option Addr} {n c k : Nat} {zs : List Int} (h : InI w (.slice a n c) zs) (hk : k ≤ n) : InI w (.slice a k c) (zs.take k) := by
  obtain ⟨h1, h2, h3⟩ := h
  have hn : zs.length = n := by
    rcases h1 with ⟨a', c', e, h0, -⟩ | ⟨-, -, ⟨e, h0⟩ | ⟨g, off, c', e, -, -⟩⟩
    · simp only [Value.slice.injEq] at e; omega
    · simp only [Value.slice.injEq] at e; omega
    · simp only [Value.slice.injEq] at e; omega
  have hl : (zs.take k).length = k := by rw [List.length_take]; omega
  refine ⟨?_, by rw [hl]; omega, fun z hz => h3 z (List.mem_of_mem_take hz)⟩
  rw [hl]
  rcases Nat.eq_zero_or_pos k with rfl | hp
  · exact .inl ⟨a, c, rfl, rfl, rfl⟩
  · rcases h1 with ⟨a', c', e, h0, -⟩ | ⟨-, hl1, ⟨e, h0⟩ | ⟨g, off, c', e, hc, hx⟩⟩
    · simp only [Value.slice.injEq] at e; omega
    · simp only [Value.slice.injEq] at e; omega
    · simp only [Value.slice.injEq] at e
      obtain ⟨rfl, -, rfl⟩ := e
      refine .inr ⟨hp, by rw [List.length_map, hl]; omega, .inr ⟨g, off, c, rfl, by omega, fun j u hu => ?_⟩⟩
      rw [List.map_take, List.getElem?_take] at hu
      split at hu
      · exact hx j u hu
      · cases hu
set_option maxRecDepth 100000 in
theorem cut12_any (v : Value) (zs : List Int) (w : World) (hv : InI w v zs) :
    Calls Try.prog 39 #[v] w fun e w' => ∃ u, e = .returned u ∧ OwI w' w.heap.size u (zs.take 12) ∧ Below w.heap.size w w' := by
  obtain ⟨a, c, rfl, hroom, -⟩ := hv.open_
  have hb0 := (Below.refl w.heap.size w).alloc (Nat.le_refl _) (Obj.cells #[] 3)
  have hemp : OwI (w.alloc (.cells #[] 3)) w.heap.size (.slice (some ⟨w.heap.size, 0, none⟩) 0 0) [] := OwI.litAt w [] #[] w.heap.size rfl rfl (by decide) (by decide)
  by_cases h : zs.length ≤ 12
  · have htk : zs.take 12 = zs := List.take_of_length_le h
    rw [htk]
    have hA := app_ints 22 hemp (hv.keep hb0) (by simp; omega) hb0.size
    rw [List.nil_append] at hA
    have HA := Lib.hid hA
    have HE := Lib.hid hemp
    have HB0 := Lib.hid hb0
    obtain ⟨n, hn⟩ : ∃ z, z = zs.length := ⟨_, rfl⟩
    rw [← hn] at h hroom HA
    rw [← hn]
    have i1 : ¬ (12 : Int) < (n : Int) := by omega
    have i3 : n ≤ c := by omega
    have i4 : (if 12 < n then (12 : Int) else (n : Int)) = (n : Int) := by rw [if_neg (by omega)]
    have i5 : min (n : Int) 12 = (n : Int) := by omega
    clear h hroom htk hA hemp hb0 hn hv
    go_enter Try.func39, Try.ntmps39
    go_wp2_with (at_builtin; refine wpList_append_run rfl _ _ 22 rfl _ _ rfl rfl _ HA.out ?_)
    refine Later.mk fun _ _ u w3 hp => ?_
    have HO := Lib.hid (show OwI w3 w.heap.size u zs from hp.1)
    have HB := Lib.hid (HB0.out.trans (AppI.below hp HE.out HB0.out.size))
    clear hp HA HE HB0 i1 i3 i4 i5
    go_wp2
    go_ret
    exact ⟨_, rfl, HO.out, HB.out⟩
  · have htl : (zs.take 12).length = 12 := by rw [List.length_take]; omega
    have htk : InI w (.slice a 12 c) (zs.take 12) := hv.take (by omega)
    have hA := app_ints 22 hemp (htk.keep hb0) (by rw [htl]; simp) hb0.size
    rw [List.nil_append] at hA
    have HA := Lib.hid hA
    have HE := Lib.hid hemp
    have HB0 := Lib.hid hb0
    obtain ⟨n, hn⟩ : ∃ z, z = zs.length := ⟨_, rfl⟩
    rw [← hn] at h hroom
    rw [← hn]
    have i1 : (12 : Int) < (n : Int) := by omega
    have i3 : 12 ≤ c := by omega
    have i4 : (if 12 < n then (12 : Int) else (n : Int)) = 12 := by rw [if_pos (by omega)]
    have i5 : min (n : Int) 12 = 12 := by omega
    clear h hroom htk hA hemp hb0 hn hv htl
    go_enter Try.func39, Try.ntmps39
    go_wp2_with (at_builtin; refine wpList_append_run rfl _ _ 22 rfl _ _ rfl rfl _ HA.out ?_)
    refine Later.mk fun _ _ u w3 hp => ?_
    have HO := Lib.hid (show OwI w3 w.heap.size u (zs.take 12) from hp.1)
    have HB := Lib.hid (HB0.out.trans (AppI.below hp HE.out HB0.out.size))
    clear hp HA HE HB0 i1 i3 i4 i5
    go_wp2
    go_ret
    exact ⟨_, rfl, HO.out, HB.out⟩
def cutS (s : Sn) : Sn := ⟨s.guid, s.image.take 12, s.hidden⟩
def shortM (m : Mt) : Mt := ⟨m.live.take 12, (m.snaps.take 30).map cutS, ⟨m.token.base, m.token.target, m.token.next, m.token.all, m.token.image.take 12⟩⟩
def LdB (w0 : World) (x : Option Value) (w : World) : Prop := ∀ u, x = some u → ∃ g, u = .pointer (some ⟨g, 0, none⟩) ∧ w0.heap.size ≤ g ∧ Blk w g 30 #[.slice none 0 0, .slice none 0 0, .int .u64 0, .int .u64 0, .int .u64 0, .int .u64 0, .int .i64 0, .int .i64 0, .slice none 0 0]
theorem LdB.keep {w0 w w' : World} {x : Option Value} (h : LdB w0 x w) (hb : Below w.heap.size w w') : LdB w0 x w' := fun u hu => by
  obtain ⟨g, h1, h2, h3⟩ := h u hu
  exact ⟨g, h1, h2, h3.keep hb⟩
def JSr (w0 : World) (zs : List Int) (c : Value → Array Value) : List Value → Option Value → World → Prop
  | [], x, w => LdB w0 x w
  | [u], x, w => LdB w0 x w ∧ OwI w w0.heap.size u zs
  | [u, _], x, w => OwI w w0.heap.size u zs ∧ ∃ g, x = some (.pointer (some ⟨g, 0, none⟩)) ∧ w0.heap.size ≤ g ∧ Blk w g 30 (c u)
  | _, _, _ => False
def JS (w0 : World) (zs : List Int) (c : Value → Array Value) (l : List Value) (x : Option Value) (w : World) : Prop := Below w0.heap.size w0 w ∧ JSr w0 zs c l x w
set_option maxRecDepth 100000 in
set_option maxHeartbeats 4000000 in
theorem short_any (w : World) (v : Value) (m : Mt) (hv : InMt w v m) : Calls Try.prog 9 #[v] w fun e w' => ∃ u, e = .returned u ∧ OwMt w' w.heap.size u (shortM m) ∧ Below w.heap.size w w' := by
  obtain ⟨lv, sv, iv, rfl, hl, hs, hi, htw⟩ := hv
  have HL := Lib.hid hl
  have HI := Lib.hid hi
  have HTW := Lib.hid htw
  obtain ⟨la, lc, rfl, -, -⟩ := hl.open_
  obtain ⟨sa, sc, rfl, hsm, hsx⟩ := hs
  obtain ⟨ia, ic, rfl, -, -⟩ := hi.open_
  unfold mtV
  have HSX := Lib.hid hsx
  have hb0 := ((Below.refl w.heap.size w).alloc (Nat.le_refl _) (Obj.cells #[.slice la m.live.length lc, .slice sa m.snaps.length sc, .int .u64 m.token.base.1, .int .u64 m.token.base.2, .int .u64 m.token.target.1, .int .u64 m.token.target.2, .int .i64 m.token.next, .int .i64 m.token.all, .slice ia m.token.image.length ic] 30)).alloc (by simp) (Obj.cells #[.slice none 0 0, .slice none 0 0, .int .u64 0, .int .u64 0, .int .u64 0, .int .u64 0, .int .i64 0, .int .i64 0, .slice none 0 0] 30)
  have HB := Lib.hid hb0
  have HP := Lib.hid ((Blk.new w 30 #[.slice la m.live.length lc, .slice sa m.snaps.length sc, .int .u64 m.token.base.1, .int .u64 m.token.base.2, .int .u64 m.token.target.1, .int .u64 m.token.target.2, .int .i64 m.token.next, .int .i64 m.token.all, .slice ia m.token.image.length ic]).alloc (Obj.cells #[.slice none 0 0, .slice none 0 0, .int .u64 0, .int .u64 0, .int .u64 0, .int .u64 0, .int .i64 0, .int .i64 0, .slice none 0 0] 30))
  have HZ := Lib.hid (Blk.newAt (w := w.alloc (Obj.cells #[.slice la m.live.length lc, .slice sa m.snaps.length sc, .int .u64 m.token.base.1, .int .u64 m.token.base.2, .int .u64 m.token.target.1, .int .u64 m.token.target.2, .int .i64 m.token.next, .int .i64 m.token.all, .slice ia m.token.image.length ic] 30)) 30 #[.slice none 0 0, .slice none 0 0, .int .u64 0, .int .u64 0, .int .u64 0, .int .u64 0, .int .i64 0, .int .i64 0, .slice none 0 0] (g := w.heap.size + 1) (by simp))
  have HLK := Lib.hid (HL.out.keep hb0)
  have HIK := Lib.hid (HI.out.keep hb0)
  clear hl hi htw hsx hb0 HL HI
  obtain ⟨LT, hLT⟩ : ∃ z, z = m.live.take 12 := ⟨_, rfl⟩
  obtain ⟨IT, hIT⟩ : ∃ z, z = m.token.image.take 12 := ⟨_, rfl⟩
  have HLC := Lib.hid (fun w2 (h : InI w2 (.slice la m.live.length lc) m.live) => cut12_any _ m.live w2 h)
  have HIC := Lib.hid (fun w2 (h : InI w2 (.slice ia m.token.image.length ic) m.token.image) => cut12_any _ m.token.image w2 h)
  rw [← hLT] at HLC
  rw [← hIT] at HIC
  have HSH := Lib.hid (show shortM m = ⟨LT, (m.snaps.take 30).map cutS, ⟨m.token.base, m.token.target, m.token.next, m.token.all, IT⟩⟩ by rw [hLT, hIT]; rfl)
  clear hLT hIT
  go_enter Try.func9, Try.ntmps9
  go_wp2_with fail
  generalize (w.alloc (Obj.cells #[.slice la m.live.length lc, .slice sa m.snaps.length sc, .int .u64 m.token.base.1, .int .u64 m.token.base.2, .int .u64 m.token.target.1, .int .u64 m.token.target.2, .int .i64 m.token.next, .int .i64 m.token.all, .slice ia m.token.image.length ic] 30)).alloc (Obj.cells #[.slice none 0 0, .slice none 0 0, .int .u64 0, .int .u64 0, .int .u64 0, .int .u64 0, .int .i64 0, .int .i64 0, .slice none 0 0] 30) = w1 at *
  have HSZ := Lib.hid HZ.out.lt
  refine wp_region_chainF [3, 8] 7 (kv [(3, .sla LT.length), (7, .ex (fun u => ∃ g, u = .pointer (some ⟨g, 0, none⟩)) ⟨_, 0, rfl⟩), (8, .is undef)]) (JS w1 LT (fun u => #[u, .slice none 0 0, .int .u64 m.token.base.1, .int .u64 m.token.base.2, .int .u64 m.token.target.1, .int .u64 m.token.target.2, .int .i64 m.token.next, .int .i64 m.token.all, .slice ia m.token.image.length ic])) (by kernel_rfl) (by kernel_rfl) (by kernel_rfl) (kv_inh _) (⟨Below.drew (Below.refl _ _), fun u hu => by cases hu⟩) ?_
  intro ν hν
  obtain ⟨a3, c3, n3⟩ : ∃ a c, ν 3 = .slice a LT.length c := hν 3
  obtain ⟨g7, n7⟩ : ∃ g, ν 7 = .pointer (some ⟨g, 0, none⟩) := hν 7
  have n8 : ν 8 = undef := hν 8
  clear hν
  refine chf_plain 0 2 6 (by rfl) rfl (by kernel_rfl) (by kernel_rfl) ?_
  apply Exists.intro
  refine ⟨fun st x w2 hlo hhi hx hJ => ?_, ?_⟩
  · clear hlo hhi hx hJ
    go_simp
    exact And.intro rfl rfl
  simp only [Act.put, List.setIfInBounds_toArray, List.set_cons_succ, List.set_cons_zero, Nat.reduceAdd]
  refine chf_plain 0 2 6 (by rfl) rfl (by kernel_rfl) (by kernel_rfl) ?_
  apply Exists.intro
  refine ⟨fun st x w2 hlo hhi hx hJ => ?_, ?_⟩
  · clear hlo hhi hx hJ
    go_simp
    exact And.intro rfl rfl
  simp only [Act.put, List.setIfInBounds_toArray, List.set_cons_succ, List.set_cons_zero, Nat.reduceAdd]
  refine chf_plain 0 2 6 (by rfl) rfl (by kernel_rfl) (by kernel_rfl) ?_
  apply Exists.intro
  refine ⟨fun st x w2 hlo hhi hx hJ => ?_, ?_⟩
  · have hZ := hJ.1
    have y0 := (HP.out.keep hZ).cell 0
    simp at y0
    clear hZ
    clear hlo hhi hx hJ
    go_simp
    exact And.intro rfl rfl
  simp only [Act.put, List.setIfInBounds_toArray, List.set_cons_succ, List.set_cons_zero, Nat.reduceAdd]
  refine chf_special 0 6 false (by rfl) rfl (by decide) (by kernel_rfl) (by kernel_rfl) (fun x w2 hx hdep hJ => ?_) ?_
  · have hj : JS w1 LT (fun u => #[u, .slice none 0 0, .int .u64 m.token.base.1, .int .u64 m.token.base.2, .int .u64 m.token.target.1, .int .u64 m.token.target.2, .int .i64 m.token.next, .int .i64 m.token.all, .slice ia m.token.image.length ic]) [] x w2 := hJ
    clear hx hdep
    go_simp
    refine (HLC.out w2 (HLK.out.keep hj.1)).mono ?_
    rintro e w3 ⟨u, rfl, ho, hb⟩
    obtain ⟨a, c, rfl⟩ := ho.slice_
    exact ⟨_, rfl, ⟨_, _, rfl⟩, hj.1.trans (hb.mono hj.1.size), LdB.keep hj.2 hb, ho.mono hj.1.size⟩
  rw [n3]
  simp only [Act.put, List.setIfInBounds_toArray, List.set_cons_succ, List.set_cons_zero, Nat.reduceAdd]
  refine chf_plain 0 2 6 (by rfl) rfl (by kernel_rfl) (by kernel_rfl) ?_
  apply Exists.intro
  refine ⟨fun st x w2 hlo hhi hx hJ => ?_, ?_⟩
  · clear hlo hhi hx hJ
    go_simp
    exact And.intro rfl rfl
  simp only [Act.put, List.setIfInBounds_toArray, List.set_cons_succ, List.set_cons_zero, Nat.reduceAdd]
  refine chf_plain 0 2 6 (by rfl) rfl (by kernel_rfl) (by kernel_rfl) ?_
  apply Exists.intro
  refine ⟨fun st x w2 hlo hhi hx hJ => ?_, ?_⟩
  · have hZ := hJ.1
    have y2 := (HP.out.keep hZ).cell 2
    have y3 := (HP.out.keep hZ).cell 3
    have y4 := (HP.out.keep hZ).cell 4
    have y5 := (HP.out.keep hZ).cell 5
    have y6 := (HP.out.keep hZ).cell 6
    have y7 := (HP.out.keep hZ).cell 7
    have y8 := (HP.out.keep hZ).cell 8
    simp at y2 y3 y4 y5 y6 y7 y8
    clear hZ
    clear hlo hhi hx hJ
    go_simp
    exact And.intro rfl rfl
  simp only [Act.put, List.setIfInBounds_toArray, List.set_cons_succ, List.set_cons_zero, Nat.reduceAdd]
  refine chf_plain 0 2 6 (by rfl) rfl (by kernel_rfl) (by kernel_rfl) ?_
  apply Exists.intro
  refine ⟨fun st x w2 hlo hhi hx hJ => ?_, ?_⟩
  · clear hlo hhi hx hJ
    go_simp
    exact And.intro rfl rfl
  simp only [Act.put, List.setIfInBounds_toArray, List.set_cons_succ, List.set_cons_zero, Nat.reduceAdd]
  refine chf_free 0 1 6 (by rfl) (by decide) rfl (by kernel_rfl) (by kernel_rfl) (fun st w2 hlo hhi hJ => ?_) ?_
  · go_simp
    have hbb := (Below.refl w2.heap.size w2).alloc (Nat.le_refl _) (Obj.cells #[.slice none 0 0, .slice none 0 0, .int .u64 0, .int .u64 0, .int .u64 0, .int .u64 0, .int .i64 0, .int .i64 0, .slice none 0 0] 30)
    have hsz := hJ.1.size
    have hld : LdB w1 (some (.pointer (some ⟨w2.heap.size, 0, none⟩))) (w2.alloc (Obj.cells #[.slice none 0 0, .slice none 0 0, .int .u64 0, .int .u64 0, .int .u64 0, .int .u64 0, .int .i64 0, .int .i64 0, .slice none 0 0] 30)) := fun u hu => by
      obtain rfl := Option.some.inj hu
      exact ⟨_, rfl, hsz, Blk.new _ _ _⟩
    refine ⟨⟨_, rfl⟩, hJ.1.alloc hsz _, ?_⟩
    obtain rfl | rfl : st = 0 ∨ st = 1 := by omega
    · exact hld
    · have hj : JSr w1 LT (fun u => #[u, .slice none 0 0, .int .u64 m.token.base.1, .int .u64 m.token.base.2, .int .u64 m.token.target.1, .int .u64 m.token.target.2, .int .i64 m.token.next, .int .i64 m.token.all, .slice ia m.token.image.length ic]) [ν 3] none w2 := hJ.2
      rw [n3] at hj
      exact ⟨hld, hj.2.keep hbb⟩
  rw [n7]
  simp only [Act.put, List.setIfInBounds_toArray, List.set_cons_succ, List.set_cons_zero, Nat.reduceAdd]
  refine chf_special 1 6 true (by rfl) rfl (by decide) (by kernel_rfl) (by kernel_rfl) (fun x w2 hx hdep hJ => ?_) ?_
  · have hj : JS w1 LT (fun u => #[u, .slice none 0 0, .int .u64 m.token.base.1, .int .u64 m.token.base.2, .int .u64 m.token.target.1, .int .u64 m.token.target.2, .int .i64 m.token.next, .int .i64 m.token.all, .slice ia m.token.image.length ic]) [ν 3] x w2 := hJ
    have hxx := hdep rfl
    rw [n3] at hj
    rw [n7] at hxx
    obtain ⟨h6, hl, ho⟩ := hj
    obtain ⟨g, h3, h4, h5⟩ := hl _ hxx
    obtain rfl : g7 = g := by simpa using h3
    clear hx hdep
    rw [exec_store 30 (.tmp 4) (.tmp 13) rfl g7 #[.slice a3 LT.length c3, .slice none 0 0, .int .u64 m.token.base.1, .int .u64 m.token.base.2, .int .u64 m.token.target.1, .int .u64 m.token.target.2, .int .i64 m.token.next, .int .i64 m.token.all, .slice ia m.token.image.length ic] rfl rfl 30 _ h5 meta_size rfl (mt_one _ _ _ _ _ _ _ _ _ _ _ _ _ _ _)]
    have hkr := kp_row w2 g7 #[.slice a3 LT.length c3, .slice none 0 0, .int .u64 m.token.base.1, .int .u64 m.token.base.2, .int .u64 m.token.target.1, .int .u64 m.token.target.2, .int .i64 m.token.next, .int .i64 m.token.all, .slice ia m.token.image.length ic]
    refine ⟨rfl, ?_⟩
    show JS w1 LT (fun u => #[u, .slice none 0 0, .int .u64 m.token.base.1, .int .u64 m.token.base.2, .int .u64 m.token.target.1, .int .u64 m.token.target.2, .int .i64 m.token.next, .int .i64 m.token.all, .slice ia m.token.image.length ic]) [ν 3, undef] x _
    rw [n3]
    exact ⟨Below.setRow h6 h4 _, ho.kpT hkr (fun b e => by subst e; exact .inr ⟨_, _, h5, by decide, by decide⟩), g7, hxx, h4, h5.row _⟩
  rw [n8]
  simp only [Act.put, Nat.reduceAdd]
  refine chf_nil (fun w5 hJ => ?_)
  have hj : JS w1 LT (fun u => #[u, .slice none 0 0, .int .u64 m.token.base.1, .int .u64 m.token.base.2, .int .u64 m.token.target.1, .int .u64 m.token.target.2, .int .i64 m.token.next, .int .i64 m.token.all, .slice ia m.token.image.length ic]) [ν 3, ν 8] (some (.pointer (some ⟨g7, 0, none⟩))) w5 := hJ
  rw [n3, n8] at hj
  obtain ⟨hbw, hol, g, hge, hg1, hgb⟩ := hj
  obtain rfl : g7 = g := by simpa using hge
  have HB2 := Lib.hid (HB.out.trans (hbw.mono HB.out.size))
  have HP2 := Lib.hid (HP.out.keep hbw)
  have HZ2 := Lib.hid (HZ.out.keep hbw)
  have HI2 := Lib.hid (HIK.out.keep hbw)
  have HL2 := Lib.hid (hol.mono (base' := w.heap.size) HB.out.size)
  have HM2 := Lib.hid hgb
  have HG := Lib.hid (show w.heap.size + 1 < g7 from Nat.lt_of_lt_of_le HSZ.out hg1)
  clear hJ hge hbw hol hgb hg1 n3 n7 n8 HB HP HZ HIK HLK HSZ
  have x8 := HP2.out.cell 8
  simp at x8
  go_wp2_with fail
  refine (HIC.out w5 HI2.out).mono ?_
  rintro e w6 ⟨iu, rfl, ho, hb⟩
  obtain ⟨ja, jc, rfl⟩ := ho.slice_
  have hx := HM2.out.keep hb
  have x8' := hx.cell 8
  have f8 := hx.frozen 8
  simp at x8'
  have hk := kp_cell w6 g7 8 (.slice ja IT.length jc)
  have hmx := hx.set 8 (.slice ja IT.length jc)
  have hoth : ∀ base b, b = g7 → Oth w6 base b := fun base b e => by subst e; exact .inr ⟨_, _, hx, by decide, by decide⟩
  have HM7 := Lib.hid (show Blk _ g7 30 #[.slice a3 LT.length c3, .slice none 0 0, .int .u64 m.token.base.1, .int .u64 m.token.base.2, .int .u64 m.token.target.1, .int .u64 m.token.target.2, .int .i64 m.token.next, .int .i64 m.token.all, .slice ja IT.length jc] from hmx)
  have HB7 := Lib.hid ((HB2.out.trans (hb.mono HB2.out.size)).trans (hk.below (fun b e => by have := HG.out; omega) (by have := HB2.out.size; have := hb.size; omega)))
  have HP7 := Lib.hid (hk.blk (HP2.out.keep hb) (by have := HG.out; omega))
  have HZ7 := Lib.hid (hk.blk (HZ2.out.keep hb) (by have := HG.out; omega))
  have HL7 := Lib.hid ((HL2.out.keep hb).kpT hk (hoth _))
  have HI7 := Lib.hid ((ho.mono (base' := w.heap.size) HB2.out.size).kpT hk (hoth _))
  clear ho hb hx hk hmx hoth HB2 HP2 HZ2 HI2 HL2 HM2 x8
  go_wp2_with fail
  generalize w6.setCell ⟨g7, 8, none⟩ (.slice ja IT.length jc) = w7 at *
  clear x8' f8
  go_loopw [5] (fun t wr => ∃ (k : Nat) (u : Value) (es : List Se), k ≤ m.snaps.length ∧ k ≤ 30 ∧ t = .int .i64 k ∧ Below w.heap.size w wr ∧ Blk wr w.heap.size 30 #[.slice la m.live.length lc, .slice sa m.snaps.length sc, .int .u64 m.token.base.1, .int .u64 m.token.base.2, .int .u64 m.token.target.1, .int .u64 m.token.target.2, .int .i64 m.token.next, .int .i64 m.token.all, .slice ia m.token.image.length ic] ∧ Blk wr (w.heap.size + 1) 30 #[.slice none 0 0, .slice none 0 0, .int .u64 0, .int .u64 0, .int .u64 0, .int .u64 0, .int .i64 0, .int .i64 0, .slice none 0 0] ∧ Blk wr g7 30 #[.slice a3 LT.length c3, u, .int .u64 m.token.base.1, .int .u64 m.token.base.2, .int .u64 m.token.target.1, .int .u64 m.token.target.2, .int .i64 m.token.next, .int .i64 m.token.all, .slice ja IT.length jc] ∧ OwI wr w.heap.size (.slice a3 LT.length c3) LT ∧ OwI wr w.heap.size (.slice ja IT.length jc) IT ∧ OwE wr w.heap.size u es ∧ (∀ e ∈ es, EO wr w.heap.size e) ∧ es.map Se.sn = (m.snaps.take k).map cutS) (fun t _ => m.snaps.length - (intOf t).toNat)
  case atStart => exact ⟨0, .slice none 0 0, [], Nat.zero_le _, by omega, rfl, HB7.out, HP7.out, HZ7.out, HM7.out, HL7.out, HI7.out, OwE.nil_ _ _, (fun e he => by cases he), rfl⟩
  case round =>
    obtain ⟨k, u, es, hk, hk30, rfl, hb, hp, hz, hm, hl, hi, ho, hes, hmap⟩ := hrel
    clear HB7 HP7 HZ7 HM7 HL7 HI7
    have HB := Lib.hid hb
    have HP := Lib.hid hp
    have HZ := Lib.hid hz
    have HM := Lib.hid hm
    have HL := Lib.hid hl
    have HI := Lib.hid hi
    have HO := Lib.hid ho
    have HES := Lib.hid hes
    have HMAP := Lib.hid hmap
    have HLEN := Lib.hid (show es.length = k by have := congrArg List.length hmap; rw [List.length_map, List.length_map, List.length_take] at this; omega)
    obtain ⟨ua, uc, rfl⟩ := own_slice ho
    have x1 := hp.cell 1
    simp at x1
    clear hb hp hz hm hl hi ho hes hmap
    have hcase : (k < m.snaps.length ∧ k < 30) ∨ (k < m.snaps.length ∧ k = 30) ∨ k = m.snaps.length := by omega
    rcases hcase with ⟨hkm, h30⟩ | hend
    · obtain ⟨sg, so, si, rfl, c0, c1, c2, hsi, c3, hsw⟩ := HSX.out k hkm
      have htk1 : m.snaps.take (k + 1) = m.snaps.take k ++ [m.snaps.getD k snap0] := by rw [List.take_add_one]; simp [List.getD, hkm]
      have HT1 := Lib.hid htk1
      replace c0 := cell_later HB.out c0
      replace c1 := cell_later HB.out c1
      replace c2 := cell_later HB.out c2
      replace c3 := cell_later HB.out c3
      have HSI := Lib.hid (hsi.keep HB.out)
      obtain ⟨ia', ci', rfl, -, -⟩ := hsi.open_
      have l1 : (k : Int) < (m.snaps.length : Int) := by omega
      have l2 : (k : Int) < (30 : Int) := by omega
      have l0 : k < m.snaps.length := hkm
      have HKM := Lib.hid (And.intro hkm h30)
      have I9 := Lib.hid (show wrap64 ((k : Int) + 1) = (k : Int) + 1 from IntWalk.wrap64_in _ (by omega))
      clear hsi hkm h30 hk30 hk htk1
      generalize m.snaps.getD k snap0 = sn at *
      obtain ⟨⟨ge, gc⟩, zs, hd⟩ := sn
      dsimp only at *
      go_wp2_with fail
      have hbx := (Below.refl wr.heap.size wr).alloc (Nat.le_refl _) (Obj.cells #[.int .u64 ge, .int .u64 gc, .slice ia' zs.length ci', .bool hd] 48)
      have HX := Lib.hid (Blk.new wr 48 #[.int .u64 ge, .int .u64 gc, .slice ia' zs.length ci', .bool hd])
      have HSI2 := Lib.hid (HSI.out.keep hbx)
      have HK2 := Lib.hid hbx
      have HOL := Lib.hid (show ∀ g, (Value.slice ua es.length uc).ownBlock = some g → g < wr.heap.size from fun g hg => own_in HO.out hg)
      have HWL := Lib.hid (And.intro HB.out.size HM.out.lt)
      generalize wr.alloc (Obj.cells #[.int .u64 ge, .int .u64 gc, .slice ia' zs.length ci', .bool hd] 48) = w8 at *
      generalize hgx : wr.heap.size = g at *
      have HGW := Lib.hid hgx
      clear hgx
      clear hbx x1 c0 c1 c2 c3 l1 l2 l0 HSI
      obtain ⟨ZT, hZT⟩ : ∃ z, z = zs.take 12 := ⟨_, rfl⟩
      have hcz := cut12_any _ zs w8 HSI2.out
      rw [← hZT] at hcz
      have HZT := Lib.hid hZT
      clear hZT
      refine hcz.mono ?_
      rintro e w9 ⟨iu, rfl, ho, hb⟩
      obtain ⟨va, vc, rfl⟩ := ho.slice_
      have hx := HX.out.keep hb
      have x2 := hx.cell 2
      have f2 := hx.frozen 2
      simp at x2
      have hk := kp_cell w9 g 2 (.slice va ZT.length vc)
      have hx10 := hx.set 2 (.slice va ZT.length vc)
      have HX10 := Lib.hid (show Blk _ g 48 #[.int .u64 ge, .int .u64 gc, .slice va ZT.length vc, .bool hd] from hx10)
      have hbg : Below g wr w9 := HK2.out.trans (hb.mono (Nat.le_of_lt HX.out.lt))
      have hbc : Below g wr (w9.setCell ⟨g, 2, none⟩ (.slice va ZT.length vc)) := hbg.trans (below_cell w9 g 2 (.slice va ZT.length vc))
      have hkw : Kp (fun b => g ≤ b) wr (w9.setCell ⟨g, 2, none⟩ (.slice va ZT.length vc)) := ⟨hbc.mono (Nat.zero_le _), fun b _ hn => hbc.block b (by omega)⟩
      have hsz9 : (w9.setCell ⟨g, 2, none⟩ (.slice va ZT.length vc)).heap.size = w9.heap.size := by simp [World.setCell]
      have hlt := HWL.out
      have hgg := HG.out
      have hal := (Below.refl (w9.setCell ⟨g, 2, none⟩ (.slice va ZT.length vc)).heap.size (w9.setCell ⟨g, 2, none⟩ (.slice va ZT.length vc))).alloc (Nat.le_refl _) (Obj.cells #[.int .u64 ge, .int .u64 gc, .slice va ZT.length vc, .bool hd] 48)
      have hm10 := HM.out.below hbc hlt.2
      have m1 := hm10.cell 1
      have s0 := HX10.out.cell 0
      have s1 := HX10.out.cell 1
      have s2 := HX10.out.cell 2
      have s3 := HX10.out.cell 3
      simp at m1 s0 s1 s2 s3
      have hnb : ∀ {ty : TypeId} {mm nn : Nat} {v : Value} {xs : List Value}, wr.ownsRow w.heap.size ty mm v nn xs → ∀ b, v.ownBlock = some b → ¬ g ≤ b := fun h b hb hn => by have h1 := own_in h hb; have h2 := HGW.out; omega
      have HM11 := Lib.hid (hm10.keep hal)
      have HP11 := Lib.hid ((HP.out.below hbc (by omega)).keep hal)
      have HZ11 := Lib.hid ((HZ.out.below hbc (by omega)).keep hal)
      have HL11 := Lib.hid (OwI.keep (HL.out.kp hkw (hnb HL.out.1)) hal)
      have HI11 := Lib.hid (OwI.keep (HI.out.kp hkw (hnb HI.out.1)) hal)
      have HO11 := Lib.hid (show OwE _ w.heap.size _ es from own_kp (Kp.of_below (A := fun _ => False) hal) (own_kp hkw HO.out (hnb HO.out)) (fun _ _ h => h))
      have HES11 := Lib.hid (fun e (he : e ∈ es) => show EO _ w.heap.size e from OwI.keep (OwI.kp (HES.out e he) hkw (hnb (HES.out e he).1)) hal)
      have HB11 := Lib.hid (HB.out.trans ((hbc.mono hlt.1).trans (hal.mono (by have := hbc.size; have := HB.out.size; omega))))
      have HE11 := Lib.hid (show EO _ w.heap.size ⟨(ge, gc), ZT, hd, va, vc⟩ from OwI.keep ((ho.mono (by have := HX.out.lt; omega)).kp hk (fun b hb' e => by have h1 := own_from ho.1 hb'; have h2 := HX.out.lt; omega)) hal)
      have hA := app_se (e := ⟨(ge, gc), ZT, hd, va, vc⟩) 23 HO11.out ⟨w9.heap.size, rfl, Blk.newAt 48 _ hsz9⟩ (by have h1 := HLEN.out; have h2 := HKM.out.2; omega) HB11.out.size
      have HA := Lib.hid hA
      clear ho hb hx hk hx10 hbg hbc hkw hsz9 hlt hgg hal hm10 hnb hA HX HK2 HSI2 HM HP HZ HL HI HO HES HB HX10 HOL HWL
      go_wp2_with (at_builtin; refine wpList_append_run rfl _ _ 23 rfl _ _ rfl rfl _ HA.out ?_)
      generalize (w9.setCell ⟨g, 2, none⟩ (.slice va ZT.length vc)).alloc (Obj.cells #[.int .u64 ge, .int .u64 gc, .slice va ZT.length vc, .bool hd] 48) = w11 at *
      refine Later.mk fun _ _ v' w' hp hgr => ?_
      clear HA m1 s0 s1 s2 s3 x2 f2
      obtain ⟨xa, xc, rfl⟩ := own_slice hp
      obtain ⟨ln, hln⟩ : ∃ z, z = (es ++ [(⟨(ge, gc), ZT, hd, va, vc⟩ : Se)]).length := ⟨_, rfl⟩
      rw [← hln] at hp ⊢
      clear hln
      have hkg := Kp.of_grown hgr
      have hmb := hkg.blk HM11.out (fun e => own_ne HO11.out HM11.out (by decide) e rfl)
      have x1 := hmb.cell 1
      have f1 := hmb.frozen 1
      simp at x1
      have hkm := kp_cell w' g7 1 (.slice xa ln xc)
      have hoth : ∀ base b, b = g7 → Oth w' base b := fun base b e => by subst e; exact .inr ⟨_, _, hmb, by decide, by decide⟩
      have hgg := HG.out
      have hgb : ∀ b, (Value.slice ua es.length uc).ownBlock = some b → w.heap.size ≤ b := fun b hb => own_from HO11.out hb
      have R1 := Lib.hid (show Below w.heap.size w (w'.setCell ⟨g7, 1, none⟩ (.slice xa ln xc)) from (HB11.out.trans (hkg.below hgb HB11.out.size)).trans (hkm.below (fun b e => by omega) (by have h1 := HB11.out.size; have h2 := hkg.size; omega)))
      have R2 := Lib.hid (hkm.blk (hkg.blk HP11.out (fun e => own_ne HO11.out HP11.out (by decide) e rfl)) (by omega))
      have R3 := Lib.hid (hkm.blk (hkg.blk HZ11.out (fun e => own_ne HO11.out HZ11.out (by decide) e rfl)) (by omega))
      have R4 := Lib.hid (show Blk _ g7 30 #[.slice a3 LT.length c3, .slice xa ln xc, .int .u64 m.token.base.1, .int .u64 m.token.base.2, .int .u64 m.token.target.1, .int .u64 m.token.target.2, .int .i64 m.token.next, .int .i64 m.token.all, .slice ja IT.length jc] from hmb.set 1 (.slice xa ln xc))
      have R5 := Lib.hid ((HL11.out.kp hkg (fun b hb e => own_apart HL11.out.1 HO11.out (by decide) hb e)).kpT hkm (hoth _))
      have R6 := Lib.hid ((HI11.out.kp hkg (fun b hb e => own_apart HI11.out.1 HO11.out (by decide) hb e)).kpT hkm (hoth _))
      have R7 := Lib.hid (show OwE (w'.setCell ⟨g7, 1, none⟩ (.slice xa ln xc)) w.heap.size (.slice xa ln xc) _ from own_kp hkm hp (fun b hb e => own_ne hp hmb (by decide) hb e))
      have R8 := Lib.hid (show ∀ e ∈ es ++ [(⟨(ge, gc), ZT, hd, va, vc⟩ : Se)], EO (w'.setCell ⟨g7, 1, none⟩ (.slice xa ln xc)) w.heap.size e from fun e he => by
        have h1 : EO w' w.heap.size e := by
          rcases List.mem_append.1 he with he | he
          · exact (HES11.out e he).kp_row HO11.out hkg
          · rw [List.mem_singleton] at he
            rw [he]
            exact HE11.out.kp_row HO11.out hkg
        exact OwI.kpT h1 hkm (hoth _))
      have R9 := Lib.hid (show (es ++ [(⟨(ge, gc), ZT, hd, va, vc⟩ : Se)]).map Se.sn = (m.snaps.take (k + 1)).map cutS by rw [HT1.out, List.map_append, List.map_append, HMAP.out, HZT.out]; rfl)
      clear hp hgr hkg hmb hkm hoth hgg hgb HM11 HP11 HZ11 HL11 HI11 HO11 HES11 HB11 HE11 HMAP HT1 HZT
      go_wp2
      rw [I9.out]
      clear I9
      exact ⟨⟨k + 1, _, _, HKM.out.1, HKM.out.2, by simp, R1.out, R2.out, R3.out, R4.out, R5.out, R6.out, R7.out, R8.out, R9.out⟩, meas_succ HKM.out.1⟩
    · have hend2 : (m.snaps.length : Int) ≤ (k : Int) ∨ ((k : Int) < (m.snaps.length : Int) ∧ (30 : Int) ≤ (k : Int)) := by omega
      have htk : m.snaps.take k = m.snaps.take 30 := by
        rcases hend with ⟨h1, h2⟩ | h2
        · rw [h2]
        · rw [List.take_of_length_le (by omega), List.take_of_length_le (by omega)]
      have HTK := Lib.hid htk
      clear hend htk hk
      rcases hend2 with l1 | ⟨l1, l2⟩
      all_goals
        have z0 := HM.out.cell 0
        have z1 := HM.out.cell 1
        have z2 := HM.out.cell 2
        have z3 := HM.out.cell 3
        have z4 := HM.out.cell 4
        have z5 := HM.out.cell 5
        have z6 := HM.out.cell 6
        have z7 := HM.out.cell 7
        have z8 := HM.out.cell 8
        simp at z0 z1 z2 z3 z4 z5 z6 z7 z8
        go_wp2_with (refine wpList_store_then rfl 30 _ _ rfl (w.heap.size + 1) #[.slice a3 LT.length c3, .slice ua es.length uc, .int .u64 m.token.base.1, .int .u64 m.token.base.2, .int .u64 m.token.target.1, .int .u64 m.token.target.2, .int .i64 m.token.next, .int .i64 m.token.all, .slice ja IT.length jc] rfl rfl 30 _ HZ.out meta_size rfl (mt_one _ _ _ _ _ _ _ _ _ _ _ _ _ _ _) ?_)
        refine Later.mk fun w20 hw20 => ?_
        have H9 := Lib.hid (show Below w.heap.size w w20 ∧ Blk w20 (w.heap.size + 1) 30 #[.slice a3 LT.length c3, .slice ua es.length uc, .int .u64 m.token.base.1, .int .u64 m.token.base.2, .int .u64 m.token.target.1, .int .u64 m.token.target.2, .int .i64 m.token.next, .int .i64 m.token.all, .slice ja IT.length jc] ∧ OwMt w20 w.heap.size (.agg #[.slice a3 LT.length c3, .slice ua es.length uc, .int .u64 m.token.base.1, .int .u64 m.token.base.2, .int .u64 m.token.target.1, .int .u64 m.token.target.2, .int .i64 m.token.next, .int .i64 m.token.all, .slice ja IT.length jc]) (shortM m) by
          rw [hw20]
          have hkr := kp_row wr (w.heap.size + 1) #[.slice a3 LT.length c3, .slice ua es.length uc, .int .u64 m.token.base.1, .int .u64 m.token.base.2, .int .u64 m.token.target.1, .int .u64 m.token.target.2, .int .i64 m.token.next, .int .i64 m.token.all, .slice ja IT.length jc]
          have hoth : ∀ base b, b = w.heap.size + 1 → Oth wr base b := fun base b hb => by subst hb; exact .inr ⟨_, _, HZ.out, by decide, by decide⟩
          have hsn : OwSn wr w.heap.size (.slice ua es.length uc) ((m.snaps.take 30).map cutS) := by
            refine ⟨?_, ?_, es, HO.out, HES.out, HMAP.out.trans (by rw [HTK.out])⟩
            · rw [List.length_map, List.length_take]; omega
            · intro s hs
              obtain ⟨s', hs', rfl⟩ := List.mem_map.1 hs
              obtain ⟨j, hj, rfl⟩ := List.mem_iff_getElem.1 (List.mem_of_mem_take hs')
              obtain ⟨_, _, _, _, _, _, _, _, _, hw⟩ := HSX.out j hj
              simpa [hj, cutS] using hw
          rw [HSH.out]
          exact ⟨Below.setRow HB.out (by omega) _, HZ.out.row _, _, _, _, rfl, HL.out.kpT hkr (hoth _), hsn.kpT hkr (hoth _), HI.out.kpT hkr (hoth _), ⟨HTW.out.base, HTW.out.target, HTW.out.next, HTW.out.all⟩⟩)
        clear hw20 z0 z1 z2 z3 z4 z5 z6 z7 z8 x1 HB HZ HM HL HI HO HES HMAP HP
        go_wp2
        refine bodyPost_ret (results_cell (ty := 30) (g := w.heap.size + 1) (k := 2) rfl rfl H9.out.2.1 Try.underlying30 rfl meta_size) rfl ⟨_, rfl, H9.out.2.2, H9.out.1⟩
end Go.Proofs.Ytimgecflcackbaa
