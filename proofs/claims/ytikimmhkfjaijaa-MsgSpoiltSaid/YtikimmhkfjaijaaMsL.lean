/-
  MESSAGES: all fields of a kind, by a table of functions (printed by wip/gen-msgk.py).
-/
import Derived.Test.YtikimmhkfjaijaaMsK
import Derived.MapKept
namespace Go.Proofs.Ytikimmhkfjaijaa
open Go.RowKit Reg Go.ChangeShapes

section
variable {W : World} {fb mb : Nat} {Z : Nat → Prop} {B : Nat} {S S' : Sf} {m m' : Ms} {w w' : World}
/-- what is asked of a message whose fields are gone through -/
structure OkIn (rd : Bool) (m : Ms) : Prop where
  T : 1 ≤ m.K ∧ m.K ≤ 4 → u64 m.T
  P : m.K = 1 ∨ m.K = 3 → in8 m.P ∧ u64 m.PT
  es : m.K = 3 → (∀ e ∈ m.es, in8 e.K) ∧ m.es.length ≤ 8192 ∧ in8 m.C
  M : m.K = 4 → in8 m.M
  S : m.K = 3 ∨ m.K = 4 → 0 ≤ m.S ∧ m.S ≤ 9223372036854775807
  l : 5 ≤ m.K ∧ m.K ≤ 7 → u64 m.l.E ∧ in8 m.l.B ∧ m.l.l.length ≤ 8192
  pu : m.K = 5 → in8 m.n ∧ wfG m.la ∧ wfG m.ta ∧ in8 m.N
  rd : rd = true → m.es = [] ∧ m.l.l = [] ∧ m.p.cs = []
theorem push_set {α : Type} (a : Array α) (x y : α) : (a.push x).setIfInBounds a.size y = a.push y := by
  apply Array.ext'
  simp
def tabE (k : Nat) : Array MapEntry := (([.func (.func 37) #[] #[], .func (.func 38) #[] #[], .func (.func 39) #[] #[], .func (.func 40) #[] #[], .func (.func 41) #[] #[], .func (.func 42) #[] #[], .func (.func 43) #[] #[]].zipIdx.map fun (x : Value × Nat) => ({ key := .int .i64 ((x.2 : Int) + 1), val := x.1, born := x.2 } : MapEntry)).take k).toArray
def tabO (k : Nat) : Obj := .map (tabE k) k
theorem put_run (w : World) (k : Nat) (z : Int) (v : Value) (h : Instr.findNow (.int .i64) (.int .i64 z) (tabE k).toList 0 = some none) (he : (tabE k).push { key := .int .i64 z, val := v, born := k } = tabE (k + 1)) :
    (Instr.mapUpdate 88 (.map (some w.heap.size)) (.int .i64 z) v).run Try.prog (w.alloc (tabO k)) = .ok () (w.alloc (tabO (k + 1))) := by
  have hb : (w.alloc (tabO k)).heap[w.heap.size]? = some (.map (tabE k) k) := heap_alloc_new w _
  unfold Instr.mapUpdate
  simp only [Sem.run_bind, run_underlying Try.underlying88, Result.andThen_ok, MapKept.run_getObj_map hb, MapKept.run_checkKey Try.underlying3 (show MapKept.IsKey (.int .i64) (.int .i64 z) from rfl), MapKept.run_findKey Try.underlying3 h, MapKept.run_setObj_map _ hb, he]
  congr 1
  simp only [World.alloc, World.mk.injEq, and_true]
  exact push_set _ _ _
theorem look_run (w : World) (z : Int) (v : Value) (i : Nat) (h : Instr.findNow (.int .i64) (.int .i64 z) (tabE 7).toList 0 = some (some (i, v))) :
    (Instr.lookup 88 (.map (some w.heap.size)) (.int .i64 z) true).run Try.prog (w.alloc (tabO 7)) = .ok (.tuple #[v, .bool true]) (w.alloc (tabO 7)) := by
  have hb : (w.alloc (tabO 7)).heap[w.heap.size]? = some (.map (tabE 7) 7) := heap_alloc_new w _
  unfold Instr.lookup
  simp only [Sem.run_bind, run_underlying Try.underlying88, Result.andThen_ok, MapKept.run_getObj_map hb, MapKept.run_checkKey Try.underlying3 (show MapKept.IsKey (.int .i64) (.int .i64 z) from rfl), MapKept.run_findKey Try.underlying3 h, Sem.run_pure]
  rfl
theorem fun_info : (Try.prog.info? 86).map (fun i => i.zero) = some (some (.nilFunc)) := by kernel_rfl
theorem fun_zero (w : World) : (zeroValue 86).run Try.prog w = .ok .nilFunc w := by
  have h := fun_info
  cases hi : Try.prog.info? 86 with
  | none => rw [hi] at h; cases h
  | some i =>
    rw [hi] at h
    simp only [Option.map_some, Option.some.injEq] at h
    simp [zeroValue, typeInfo, hi, h]
theorem miss_run (w : World) (z : Int) (h : Instr.findNow (.int .i64) (.int .i64 z) (tabE 7).toList 0 = some none) :
    ∃ v, (Instr.lookup 88 (.map (some w.heap.size)) (.int .i64 z) true).run Try.prog (w.alloc (tabO 7)) = .ok (.tuple #[v, .bool false]) (w.alloc (tabO 7)) := by
  have hb : (w.alloc (tabO 7)).heap[w.heap.size]? = some (.map (tabE 7) 7) := heap_alloc_new w _
  have hv := fun_zero (w.alloc (tabO 7))
  refine ⟨.nilFunc, ?_⟩
  unfold Instr.lookup
  simp only [Sem.run_bind, run_underlying Try.underlying88, Result.andThen_ok, MapKept.run_getObj_map hb, MapKept.run_checkKey Try.underlying3 (show MapKept.IsKey (.int .i64) (.int .i64 z) from rfl), MapKept.run_findKey Try.underlying3 h, Sem.run_pure, hv]
  rfl
set_option maxRecDepth 100000 in
set_option maxHeartbeats 1000000 in
theorem all_1 (h : FS W fb mb Z B S m w) (hok : OkIn S.m.isRd m) (hk : m.K = 1) (hB : B ≤ 100) :
    Calls Try.prog 23 #[.pointer (some ⟨fb, 0, none⟩)] w fun e w' => e = .returned (.tuple #[]) ∧ FS W fb mb Z (B + 500000) (allF S m).1 (allF S m).2 w' := by
  have hal : allF S m = askF S m := by
    unfold allF
    rw [if_pos hk]
  rw [hal]
  have hb := (Below.refl w.heap.size w).alloc (Nat.le_refl _) (tabO 7)
  have hg := h.grow hb
  have H := Lib.hid (ask_any hg (hok.T (by omega)) (hok.P (by omega)).1 (hok.P (by omega)).2 (by omega))
  have c0 := hg.slots
  have c1 : (w.alloc (tabO 7)).cell? ⟨mb, 0, none⟩ = some (.int .i64 1) := by rw [← hk]; exact (hg.cellAt fun _ _ _ => rfl).1
  have p0 := put_run w 0 1 (.func (.func 37) #[] #[]) rfl rfl
  have p1 := put_run w 1 2 (.func (.func 38) #[] #[]) rfl rfl
  have p2 := put_run w 2 3 (.func (.func 39) #[] #[]) rfl rfl
  have p3 := put_run w 3 4 (.func (.func 40) #[] #[]) rfl rfl
  have p4 := put_run w 4 5 (.func (.func 41) #[] #[]) rfl rfl
  have p5 := put_run w 5 6 (.func (.func 42) #[] #[]) rfl rfl
  have p6 := put_run w 6 7 (.func (.func 43) #[] #[]) rfl rfl
  have pl := look_run w 1 (.func (.func 37) #[] #[]) 0 rfl
  have hmm : ∀ t, (Instr.makeMap t none).run Try.prog w = .ok (.map (some w.heap.size)) (w.alloc (tabO 0)) := fun t => run_makeMap t w
  clear h hok hk hB hal hb hg
  generalize tabO 0 = o0 at *
  generalize tabO 1 = o1 at *
  generalize tabO 2 = o2 at *
  generalize tabO 3 = o3 at *
  generalize tabO 4 = o4 at *
  generalize tabO 5 = o5 at *
  generalize tabO 6 = o6 at *
  generalize tabO 7 = o7 at *
  go_enter Try.func23, Try.ntmps23
  go_wp2_with fail
  refine H.out.mono ?_
  rintro e w1 ⟨rfl, h1⟩
  have G1 := Lib.hid h1
  clear h1 c0 c1 p0 p1 p2 p3 p4 p5 p6 pl hmm
  go_wp2
  refine bodyPost_end (results_none rfl _ _ _) rfl ?_
  exact ⟨rfl, G1.out.mono (B' := B + 500000) (by omega)⟩
set_option maxRecDepth 100000 in
set_option maxHeartbeats 1000000 in
theorem all_2 (h : FS W fb mb Z B S m w) (hok : OkIn S.m.isRd m) (hk : m.K = 2) (hB : B ≤ 100) :
    Calls Try.prog 23 #[.pointer (some ⟨fb, 0, none⟩)] w fun e w' => e = .returned (.tuple #[]) ∧ FS W fb mb Z (B + 500000) (allF S m).1 (allF S m).2 w' := by
  have hal : allF S m = voteF S m := by
    unfold allF
    rw [if_neg (by omega), if_pos hk]
  rw [hal]
  have hb := (Below.refl w.heap.size w).alloc (Nat.le_refl _) (tabO 7)
  have hg := h.grow hb
  have H := Lib.hid (vote_any hg (hok.T (by omega)) (by omega))
  have c0 := hg.slots
  have c1 : (w.alloc (tabO 7)).cell? ⟨mb, 0, none⟩ = some (.int .i64 2) := by rw [← hk]; exact (hg.cellAt fun _ _ _ => rfl).1
  have p0 := put_run w 0 1 (.func (.func 37) #[] #[]) rfl rfl
  have p1 := put_run w 1 2 (.func (.func 38) #[] #[]) rfl rfl
  have p2 := put_run w 2 3 (.func (.func 39) #[] #[]) rfl rfl
  have p3 := put_run w 3 4 (.func (.func 40) #[] #[]) rfl rfl
  have p4 := put_run w 4 5 (.func (.func 41) #[] #[]) rfl rfl
  have p5 := put_run w 5 6 (.func (.func 42) #[] #[]) rfl rfl
  have p6 := put_run w 6 7 (.func (.func 43) #[] #[]) rfl rfl
  have pl := look_run w 2 (.func (.func 38) #[] #[]) 1 rfl
  have hmm : ∀ t, (Instr.makeMap t none).run Try.prog w = .ok (.map (some w.heap.size)) (w.alloc (tabO 0)) := fun t => run_makeMap t w
  clear h hok hk hB hal hb hg
  generalize tabO 0 = o0 at *
  generalize tabO 1 = o1 at *
  generalize tabO 2 = o2 at *
  generalize tabO 3 = o3 at *
  generalize tabO 4 = o4 at *
  generalize tabO 5 = o5 at *
  generalize tabO 6 = o6 at *
  generalize tabO 7 = o7 at *
  go_enter Try.func23, Try.ntmps23
  go_wp2_with fail
  refine H.out.mono ?_
  rintro e w1 ⟨rfl, h1⟩
  have G1 := Lib.hid h1
  clear h1 c0 c1 p0 p1 p2 p3 p4 p5 p6 pl hmm
  go_wp2
  refine bodyPost_end (results_none rfl _ _ _) rfl ?_
  exact ⟨rfl, G1.out.mono (B' := B + 500000) (by omega)⟩
set_option maxRecDepth 100000 in
set_option maxHeartbeats 1000000 in
theorem all_3 (h : FS W fb mb Z B S m w) (hok : OkIn S.m.isRd m) (hk : m.K = 3) (hB : B ≤ 100) :
    Calls Try.prog 23 #[.pointer (some ⟨fb, 0, none⟩)] w fun e w' => e = .returned (.tuple #[]) ∧ FS W fb mb Z (B + 500000) (allF S m).1 (allF S m).2 w' := by
  have hal : allF S m = appendsF S m := by
    unfold allF
    rw [if_neg (by omega), if_neg (by omega), if_pos hk]
  rw [hal]
  have hb := (Below.refl w.heap.size w).alloc (Nat.le_refl _) (tabO 7)
  have hg := h.grow hb
  have H := Lib.hid (appends_any hg (hok.T (by omega)) (hok.P (by omega)).1 (hok.P (by omega)).2 (hok.es (by omega)).1 (hok.es (by omega)).2.1 (hok.es (by omega)).2.2 (hok.S (by omega)) (fun hr => (hok.rd hr).2) (by omega))
  have c0 := hg.slots
  have c1 : (w.alloc (tabO 7)).cell? ⟨mb, 0, none⟩ = some (.int .i64 3) := by rw [← hk]; exact (hg.cellAt fun _ _ _ => rfl).1
  have p0 := put_run w 0 1 (.func (.func 37) #[] #[]) rfl rfl
  have p1 := put_run w 1 2 (.func (.func 38) #[] #[]) rfl rfl
  have p2 := put_run w 2 3 (.func (.func 39) #[] #[]) rfl rfl
  have p3 := put_run w 3 4 (.func (.func 40) #[] #[]) rfl rfl
  have p4 := put_run w 4 5 (.func (.func 41) #[] #[]) rfl rfl
  have p5 := put_run w 5 6 (.func (.func 42) #[] #[]) rfl rfl
  have p6 := put_run w 6 7 (.func (.func 43) #[] #[]) rfl rfl
  have pl := look_run w 3 (.func (.func 39) #[] #[]) 2 rfl
  have hmm : ∀ t, (Instr.makeMap t none).run Try.prog w = .ok (.map (some w.heap.size)) (w.alloc (tabO 0)) := fun t => run_makeMap t w
  clear h hok hk hB hal hb hg
  generalize tabO 0 = o0 at *
  generalize tabO 1 = o1 at *
  generalize tabO 2 = o2 at *
  generalize tabO 3 = o3 at *
  generalize tabO 4 = o4 at *
  generalize tabO 5 = o5 at *
  generalize tabO 6 = o6 at *
  generalize tabO 7 = o7 at *
  go_enter Try.func23, Try.ntmps23
  go_wp2_with fail
  refine H.out.mono ?_
  rintro e w1 ⟨rfl, h1⟩
  have G1 := Lib.hid h1
  clear h1 c0 c1 p0 p1 p2 p3 p4 p5 p6 pl hmm
  go_wp2
  refine bodyPost_end (results_none rfl _ _ _) rfl ?_
  exact ⟨rfl, G1.out.mono (B' := B + 500000) (by omega)⟩
set_option maxRecDepth 100000 in
set_option maxHeartbeats 1000000 in
theorem all_4 (h : FS W fb mb Z B S m w) (hok : OkIn S.m.isRd m) (hk : m.K = 4) (hB : B ≤ 100) :
    Calls Try.prog 23 #[.pointer (some ⟨fb, 0, none⟩)] w fun e w' => e = .returned (.tuple #[]) ∧ FS W fb mb Z (B + 500000) (allF S m).1 (allF S m).2 w' := by
  have hal : allF S m = appendedF S m := by
    unfold allF
    rw [if_neg (by omega), if_neg (by omega), if_neg (by omega), if_pos hk]
  rw [hal]
  have hb := (Below.refl w.heap.size w).alloc (Nat.le_refl _) (tabO 7)
  have hg := h.grow hb
  have H := Lib.hid (appended_any hg (hok.T (by omega)) (hok.M (by omega)) (hok.S (by omega)) (by omega))
  have c0 := hg.slots
  have c1 : (w.alloc (tabO 7)).cell? ⟨mb, 0, none⟩ = some (.int .i64 4) := by rw [← hk]; exact (hg.cellAt fun _ _ _ => rfl).1
  have p0 := put_run w 0 1 (.func (.func 37) #[] #[]) rfl rfl
  have p1 := put_run w 1 2 (.func (.func 38) #[] #[]) rfl rfl
  have p2 := put_run w 2 3 (.func (.func 39) #[] #[]) rfl rfl
  have p3 := put_run w 3 4 (.func (.func 40) #[] #[]) rfl rfl
  have p4 := put_run w 4 5 (.func (.func 41) #[] #[]) rfl rfl
  have p5 := put_run w 5 6 (.func (.func 42) #[] #[]) rfl rfl
  have p6 := put_run w 6 7 (.func (.func 43) #[] #[]) rfl rfl
  have pl := look_run w 4 (.func (.func 40) #[] #[]) 3 rfl
  have hmm : ∀ t, (Instr.makeMap t none).run Try.prog w = .ok (.map (some w.heap.size)) (w.alloc (tabO 0)) := fun t => run_makeMap t w
  clear h hok hk hB hal hb hg
  generalize tabO 0 = o0 at *
  generalize tabO 1 = o1 at *
  generalize tabO 2 = o2 at *
  generalize tabO 3 = o3 at *
  generalize tabO 4 = o4 at *
  generalize tabO 5 = o5 at *
  generalize tabO 6 = o6 at *
  generalize tabO 7 = o7 at *
  go_enter Try.func23, Try.ntmps23
  go_wp2_with fail
  refine H.out.mono ?_
  rintro e w1 ⟨rfl, h1⟩
  have G1 := Lib.hid h1
  clear h1 c0 c1 p0 p1 p2 p3 p4 p5 p6 pl hmm
  go_wp2
  refine bodyPost_end (results_none rfl _ _ _) rfl ?_
  exact ⟨rfl, G1.out.mono (B' := B + 500000) (by omega)⟩
set_option maxRecDepth 100000 in
set_option maxHeartbeats 1000000 in
theorem all_5 (h : FS W fb mb Z B S m w) (hok : OkIn S.m.isRd m) (hk : m.K = 5) (hB : B ≤ 100) :
    Calls Try.prog 23 #[.pointer (some ⟨fb, 0, none⟩)] w fun e w' => e = .returned (.tuple #[]) ∧ FS W fb mb Z (B + 500000) (allF S m).1 (allF S m).2 w' := by
  have hal : allF S m = pullF S m := by
    unfold allF
    rw [if_neg (by omega), if_neg (by omega), if_neg (by omega), if_neg (by omega), if_pos hk]
  rw [hal]
  have hb := (Below.refl w.heap.size w).alloc (Nat.le_refl _) (tabO 7)
  have hg := h.grow hb
  have H := Lib.hid (pull_any hg (hok.l (by omega)).1 (hok.l (by omega)).2.1 (hok.l (by omega)).2.2 (hok.pu (by omega)).1 (hok.pu (by omega)).2.1 (hok.pu (by omega)).2.2.1 (hok.pu (by omega)).2.2.2 (fun hr => ⟨(hok.rd hr).1, (hok.rd hr).2.2⟩) (by omega))
  have c0 := hg.slots
  have c1 : (w.alloc (tabO 7)).cell? ⟨mb, 0, none⟩ = some (.int .i64 5) := by rw [← hk]; exact (hg.cellAt fun _ _ _ => rfl).1
  have p0 := put_run w 0 1 (.func (.func 37) #[] #[]) rfl rfl
  have p1 := put_run w 1 2 (.func (.func 38) #[] #[]) rfl rfl
  have p2 := put_run w 2 3 (.func (.func 39) #[] #[]) rfl rfl
  have p3 := put_run w 3 4 (.func (.func 40) #[] #[]) rfl rfl
  have p4 := put_run w 4 5 (.func (.func 41) #[] #[]) rfl rfl
  have p5 := put_run w 5 6 (.func (.func 42) #[] #[]) rfl rfl
  have p6 := put_run w 6 7 (.func (.func 43) #[] #[]) rfl rfl
  have pl := look_run w 5 (.func (.func 41) #[] #[]) 4 rfl
  have hmm : ∀ t, (Instr.makeMap t none).run Try.prog w = .ok (.map (some w.heap.size)) (w.alloc (tabO 0)) := fun t => run_makeMap t w
  clear h hok hk hB hal hb hg
  generalize tabO 0 = o0 at *
  generalize tabO 1 = o1 at *
  generalize tabO 2 = o2 at *
  generalize tabO 3 = o3 at *
  generalize tabO 4 = o4 at *
  generalize tabO 5 = o5 at *
  generalize tabO 6 = o6 at *
  generalize tabO 7 = o7 at *
  go_enter Try.func23, Try.ntmps23
  go_wp2_with fail
  refine H.out.mono ?_
  rintro e w1 ⟨rfl, h1⟩
  have G1 := Lib.hid h1
  clear h1 c0 c1 p0 p1 p2 p3 p4 p5 p6 pl hmm
  go_wp2
  refine bodyPost_end (results_none rfl _ _ _) rfl ?_
  exact ⟨rfl, G1.out.mono (B' := B + 500000) (by omega)⟩
set_option maxRecDepth 100000 in
set_option maxHeartbeats 1000000 in
theorem all_6 (h : FS W fb mb Z B S m w) (hok : OkIn S.m.isRd m) (hk : m.K = 6) (hB : B ≤ 100) :
    Calls Try.prog 23 #[.pointer (some ⟨fb, 0, none⟩)] w fun e w' => e = .returned (.tuple #[]) ∧ FS W fb mb Z (B + 500000) (allF S m).1 (allF S m).2 w' := by
  have hal : allF S m = partedF S m := by
    unfold allF
    rw [if_neg (by omega), if_neg (by omega), if_neg (by omega), if_neg (by omega), if_neg (by omega), if_pos hk]
  rw [hal]
  have hb := (Below.refl w.heap.size w).alloc (Nat.le_refl _) (tabO 7)
  have hg := h.grow hb
  have H := Lib.hid (parted_any hg (hok.l (by omega)).1 (hok.l (by omega)).2.1 (hok.l (by omega)).2.2 (fun hr => ⟨(hok.rd hr).1, (hok.rd hr).2.2⟩) (by omega))
  have c0 := hg.slots
  have c1 : (w.alloc (tabO 7)).cell? ⟨mb, 0, none⟩ = some (.int .i64 6) := by rw [← hk]; exact (hg.cellAt fun _ _ _ => rfl).1
  have p0 := put_run w 0 1 (.func (.func 37) #[] #[]) rfl rfl
  have p1 := put_run w 1 2 (.func (.func 38) #[] #[]) rfl rfl
  have p2 := put_run w 2 3 (.func (.func 39) #[] #[]) rfl rfl
  have p3 := put_run w 3 4 (.func (.func 40) #[] #[]) rfl rfl
  have p4 := put_run w 4 5 (.func (.func 41) #[] #[]) rfl rfl
  have p5 := put_run w 5 6 (.func (.func 42) #[] #[]) rfl rfl
  have p6 := put_run w 6 7 (.func (.func 43) #[] #[]) rfl rfl
  have pl := look_run w 6 (.func (.func 42) #[] #[]) 5 rfl
  have hmm : ∀ t, (Instr.makeMap t none).run Try.prog w = .ok (.map (some w.heap.size)) (w.alloc (tabO 0)) := fun t => run_makeMap t w
  clear h hok hk hB hal hb hg
  generalize tabO 0 = o0 at *
  generalize tabO 1 = o1 at *
  generalize tabO 2 = o2 at *
  generalize tabO 3 = o3 at *
  generalize tabO 4 = o4 at *
  generalize tabO 5 = o5 at *
  generalize tabO 6 = o6 at *
  generalize tabO 7 = o7 at *
  go_enter Try.func23, Try.ntmps23
  go_wp2_with fail
  refine H.out.mono ?_
  rintro e w1 ⟨rfl, h1⟩
  have G1 := Lib.hid h1
  clear h1 c0 c1 p0 p1 p2 p3 p4 p5 p6 pl hmm
  go_wp2
  refine bodyPost_end (results_none rfl _ _ _) rfl ?_
  exact ⟨rfl, G1.out.mono (B' := B + 500000) (by omega)⟩
set_option maxRecDepth 100000 in
set_option maxHeartbeats 1000000 in
theorem all_7 (h : FS W fb mb Z B S m w) (hok : OkIn S.m.isRd m) (hk : m.K = 7) (hB : B ≤ 100) :
    Calls Try.prog 23 #[.pointer (some ⟨fb, 0, none⟩)] w fun e w' => e = .returned (.tuple #[]) ∧ FS W fb mb Z (B + 500000) (allF S m).1 (allF S m).2 w' := by
  have hal : allF S m = lineF S m := by
    unfold allF
    rw [if_neg (by omega), if_neg (by omega), if_neg (by omega), if_neg (by omega), if_neg (by omega), if_neg (by omega), if_pos hk]
  rw [hal]
  have hb := (Below.refl w.heap.size w).alloc (Nat.le_refl _) (tabO 7)
  have hg := h.grow hb
  have H := Lib.hid (line_any hg (hok.l (by omega)).1 (hok.l (by omega)).2.1 (hok.l (by omega)).2.2 (fun hr => ⟨(hok.rd hr).1, (hok.rd hr).2.2⟩) (by omega))
  have c0 := hg.slots
  have c1 : (w.alloc (tabO 7)).cell? ⟨mb, 0, none⟩ = some (.int .i64 7) := by rw [← hk]; exact (hg.cellAt fun _ _ _ => rfl).1
  have p0 := put_run w 0 1 (.func (.func 37) #[] #[]) rfl rfl
  have p1 := put_run w 1 2 (.func (.func 38) #[] #[]) rfl rfl
  have p2 := put_run w 2 3 (.func (.func 39) #[] #[]) rfl rfl
  have p3 := put_run w 3 4 (.func (.func 40) #[] #[]) rfl rfl
  have p4 := put_run w 4 5 (.func (.func 41) #[] #[]) rfl rfl
  have p5 := put_run w 5 6 (.func (.func 42) #[] #[]) rfl rfl
  have p6 := put_run w 6 7 (.func (.func 43) #[] #[]) rfl rfl
  have pl := look_run w 7 (.func (.func 43) #[] #[]) 6 rfl
  have hmm : ∀ t, (Instr.makeMap t none).run Try.prog w = .ok (.map (some w.heap.size)) (w.alloc (tabO 0)) := fun t => run_makeMap t w
  clear h hok hk hB hal hb hg
  generalize tabO 0 = o0 at *
  generalize tabO 1 = o1 at *
  generalize tabO 2 = o2 at *
  generalize tabO 3 = o3 at *
  generalize tabO 4 = o4 at *
  generalize tabO 5 = o5 at *
  generalize tabO 6 = o6 at *
  generalize tabO 7 = o7 at *
  go_enter Try.func23, Try.ntmps23
  go_wp2_with fail
  refine H.out.mono ?_
  rintro e w1 ⟨rfl, h1⟩
  have G1 := Lib.hid h1
  clear h1 c0 c1 p0 p1 p2 p3 p4 p5 p6 pl hmm
  go_wp2
  refine bodyPost_end (results_none rfl _ _ _) rfl ?_
  exact ⟨rfl, G1.out.mono (B' := B + 500000) (by omega)⟩
set_option maxRecDepth 100000 in
set_option maxHeartbeats 1000000 in
theorem all_no (h : FS W fb mb Z B S m w) (hk : m.K < 1 ∨ 7 < m.K) :
    Calls Try.prog 23 #[.pointer (some ⟨fb, 0, none⟩)] w fun e w' => e = .returned (.tuple #[]) ∧ FS W fb mb Z (B + 500000) (allF S m).1 (allF S m).2 w' := by
  have hal : allF S m = (⟨S.m, true⟩, m) := by
    unfold allF
    rw [if_neg (by omega), if_neg (by omega), if_neg (by omega), if_neg (by omega), if_neg (by omega), if_neg (by omega), if_neg (by omega)]
  rw [hal]
  have hb := (Below.refl w.heap.size w).alloc (Nat.le_refl _) (tabO 7)
  have hg := h.grow hb
  have H := Lib.hid (hg.badTo true)
  have c0 := hg.slots
  have c1 : (w.alloc (tabO 7)).cell? ⟨mb, 0, none⟩ = some (.int .i64 m.K) := (hg.cellAt fun _ _ _ => rfl).1
  have c3 := hg.fd.1.cell 3
  simp at c3
  have f3 := hg.fd.1.frozen 3
  have p0 := put_run w 0 1 (.func (.func 37) #[] #[]) rfl rfl
  have p1 := put_run w 1 2 (.func (.func 38) #[] #[]) rfl rfl
  have p2 := put_run w 2 3 (.func (.func 39) #[] #[]) rfl rfl
  have p3 := put_run w 3 4 (.func (.func 40) #[] #[]) rfl rfl
  have p4 := put_run w 4 5 (.func (.func 41) #[] #[]) rfl rfl
  have p5 := put_run w 5 6 (.func (.func 42) #[] #[]) rfl rfl
  have p6 := put_run w 6 7 (.func (.func 43) #[] #[]) rfl rfl
  have hfind : Instr.findNow (.int .i64) (.int .i64 m.K) (tabE 7).toList 0 = some none := by
    simp [tabE, Instr.findNow, Instr.sameNow, show (m.K == 1) = false from beq_eq_false_iff_ne.2 (by omega), show (m.K == 2) = false from beq_eq_false_iff_ne.2 (by omega), show (m.K == 3) = false from beq_eq_false_iff_ne.2 (by omega), show (m.K == 4) = false from beq_eq_false_iff_ne.2 (by omega), show (m.K == 5) = false from beq_eq_false_iff_ne.2 (by omega), show (m.K == 6) = false from beq_eq_false_iff_ne.2 (by omega), show (m.K == 7) = false from beq_eq_false_iff_ne.2 (by omega)]
  obtain ⟨v0, pl⟩ := miss_run w m.K hfind
  have hmm : ∀ t, (Instr.makeMap t none).run Try.prog w = .ok (.map (some w.heap.size)) (w.alloc (tabO 0)) := fun t => run_makeMap t w
  clear h hk hal hb hg hfind
  generalize m.K = z at *
  generalize tabO 0 = o0 at *
  generalize tabO 1 = o1 at *
  generalize tabO 2 = o2 at *
  generalize tabO 3 = o3 at *
  generalize tabO 4 = o4 at *
  generalize tabO 5 = o5 at *
  generalize tabO 6 = o6 at *
  generalize tabO 7 = o7 at *
  go_enter Try.func23, Try.ntmps23
  go_wp2
  refine bodyPost_ret (results_none rfl _ _ _) rfl ?_
  exact ⟨rfl, H.out.mono (B' := B + 500000) (by omega)⟩
theorem all_any (h : FS W fb mb Z B S m w) (hok : OkIn S.m.isRd m) (hB : B ≤ 100) :
    Calls Try.prog 23 #[.pointer (some ⟨fb, 0, none⟩)] w fun e w' => e = .returned (.tuple #[]) ∧ FS W fb mb Z (B + 500000) (allF S m).1 (allF S m).2 w' := by
  have hc : m.K = 1 ∨ m.K = 2 ∨ m.K = 3 ∨ m.K = 4 ∨ m.K = 5 ∨ m.K = 6 ∨ m.K = 7 ∨ (m.K < 1 ∨ 7 < m.K) := by omega
  rcases hc with hk | hk | hk | hk | hk | hk | hk | hk
  · exact all_1 h hok hk hB
  · exact all_2 h hok hk hB
  · exact all_3 h hok hk hB
  · exact all_4 h hok hk hB
  · exact all_5 h hok hk hB
  · exact all_6 h hok hk hB
  · exact all_7 h hok hk hB
  · exact all_no h hk
end
end Go.Proofs.Ytikimmhkfjaijaa
