/-
  MAPS THAT A CALL MAKES AND OTHERS READ: keyed by numbers and by guids, elements whole arrays; what turns of memory.
-/
import Derived.Test.YtfeinafbimpjnaaGuids
import Derived.Maps.Keyed
import Derived.Maps.Own
import Derived.DeepKeys4
namespace Go.Proofs.Ytfeinafbimpjnaa
open Go.RowKit Go.WideShapes Go.ChangeShapes

/-- only the blocks A have turned, of those that were there -/
def Kp (A : Nat → Prop) (w w' : World) : Prop := Below 0 w w' ∧ ∀ b, b < w.heap.size → ¬ A b → w'.heap[b]? = w.heap[b]?
section
variable {A : Nat → Prop} {w w' w'' : World} {B : Nat}
theorem Kp.refl (A : Nat → Prop) (w : World) : Kp A w w := ⟨Below.refl _ _, fun _ _ _ => rfl⟩
theorem Kp.size (h : Kp A w w') : w.heap.size ≤ w'.heap.size := h.1.size
theorem Kp.trans (h : Kp A w w') (h' : Kp A w' w'') : Kp A w w'' := ⟨h.1.trans h'.1, fun b hb hA => (h'.2 b (Nat.lt_of_lt_of_le hb h.size) hA).trans (h.2 b hb hA)⟩
theorem Kp.of_below (h : Below w.heap.size w w') : Kp A w w' := ⟨h.mono (Nat.zero_le _), fun b hb _ => h.block b hb⟩
theorem Kp.below (h : Kp A w w') (hA : ∀ b, A b → B ≤ b) (hB : B ≤ w.heap.size) : Below B w w' :=
  ⟨h.1.os, h.1.tape, h.1.output, h.size, fun b hb => h.2 b (by omega) fun ha => by have := hA b ha; omega⟩
theorem Kp.blk {g : Nat} {t : TypeId} {cs : Array Value} (h : Kp A w w') (hb : Blk w g t cs) (hA : ¬ A g) : Blk w' g t cs := (h.2 g hb.lt hA).trans hb
theorem Kp.own {base : Nat} {v : Value} {gs : List Gd} (h : Kp A w w') (ho : OwG w base v gs) (hA : ∀ g t cs, A g → w.heap[g]? = some (.cells cs t (0, 0)) → t ≠ 34) : OwG w' base v gs := by
  refine ⟨⟨ho.1.1, ?_⟩, ho.2⟩
  rcases ho.1.2 with hn | ⟨g, cap, cur, rfl, hg, hh, rest⟩
  · exact .inl hn
  · exact .inr ⟨g, cap, cur, rfl, hg, (h.2 g (lt_of_block hh) fun ha => hA g _ _ ha hh rfl).trans hh, rest⟩
end

/-- block b holds the map f, keys of type k -/
def Mp (w : World) (b : Nat) (k : TypeId) (f : Value → Option Value) : Prop :=
  ∃ es clock, w.heap[b]? = some (.map es clock) ∧ (∀ x ∈ es.toList, ∃ l, keyOf Try.prog k x.key = some l) ∧ es.toList.Pairwise (fun x y => x.key ≠ y.key) ∧
    ∀ key val, f key = some val ↔ ∃ x ∈ es.toList, x.key = key ∧ x.val = val
open Classical in
noncomputable def putF (f : Value → Option Value) (key val : Value) : Value → Option Value := fun x => if x = key then some val else f x
theorem putF_same (f : Value → Option Value) (key val : Value) : putF f key val key = some val := by unfold putF; rw [if_pos rfl]
theorem putF_other (f : Value → Option Value) {key x : Value} (val : Value) (h : x ≠ key) : putF f key val x = f x := by unfold putF; rw [if_neg h]
section
variable {w w' : World} {b : Nat} {k t e : TypeId} {f : Value → Option Value}
theorem Mp.lt (h : Mp w b k f) : b < w.heap.size := by
  obtain ⟨es, clock, hb, _⟩ := h
  exact (Array.getElem?_eq_some_iff.1 hb).1
theorem Mp.of_heap (h : Mp w b k f) (hb : w'.heap[b]? = w.heap[b]?) : Mp w' b k f := by
  obtain ⟨es, clock, h0, h1⟩ := h
  exact ⟨es, clock, hb.trans h0, h1⟩
theorem Mp.keep (h : Mp w b k f) (hb : Below w.heap.size w w') : Mp w' b k f := h.of_heap (hb.block b h.lt)
theorem Mp.made (w : World) (k : TypeId) : Mp (w.alloc (.map #[] 0)) w.heap.size k (fun _ => none) :=
  ⟨#[], 0, (MapKept.heap_alloc w _).1, by simp, by simp, by simp⟩
theorem Mp.not_cells (h : Mp w b k f) {cs : Array Value} {ty : TypeId} {fr : Nat × Nat} (hc : w.heap[b]? = some (.cells cs ty fr)) : False := by
  obtain ⟨es, clock, h0, _⟩ := h
  rw [h0] at hc
  cases hc
theorem Mp.look (h : Mp w b k f) (K : Maps.Keyed Try.prog k) (ht : Try.prog.underlying t = some (.map k e)) {z : Value} (hz : (zeroValue e).run Try.prog w = .ok z w) {key : Value} {kl : Lit} (hkey : keyOf Try.prog k key = some kl) (c : Bool) :
    (Instr.lookup t (.map (some b)) key c).run Try.prog w = .ok (if c then .tuple #[(f key).getD z, .bool (f key).isSome] else (f key).getD z) w := by
  obtain ⟨es, clock, hb, hk, _, hf⟩ := h
  rcases K.find w hkey es.toList hk with ⟨h1, h2⟩ | ⟨j, e0, h1, h2, h3⟩
  · have hn : f key = none := by
      cases hv : f key with
      | none => rfl
      | some v =>
        obtain ⟨x, hx, e1, _⟩ := (hf key v).1 hv
        exact absurd e1 (h2 x hx)
    rw [hn]
    simp [Instr.lookup, run_underlying ht, MapKept.run_getObj_map hb, K.check w _ hkey, h1, hz, Result.andThen]
  · have hn : f key = some e0.val := (hf key e0.val).2 ⟨e0, List.mem_of_getElem? h2, h3, rfl⟩
    rw [hn]
    simp [Instr.lookup, run_underlying ht, MapKept.run_getObj_map hb, K.check w _ hkey, h1, Result.andThen]
theorem Mp.update (h : Mp w b k f) (K : Maps.Keyed Try.prog k) (ht : Try.prog.underlying t = some (.map k e)) {key : Value} {kl : Lit} (hkey : keyOf Try.prog k key = some kl) (val : Value) :
    ∃ w', (Instr.mapUpdate t (.map (some b)) key val).run Try.prog w = .ok () w' ∧ Mp w' b k (putF f key val) ∧ Kp (· = b) w w' := by
  obtain ⟨es, clock, hb, hk, hd, hf⟩ := h
  have hbl := (Array.getElem?_eq_some_iff.1 hb).1
  have hkp : ∀ o : Obj, Kp (· = b) w { w with heap := w.heap.setIfInBounds b o } := fun o => ⟨⟨rfl, rfl, rfl, by simp, fun i hi => by omega⟩, fun i _ hne => by
    show (w.heap.setIfInBounds b o)[i]? = _
    rw [Array.getElem?_setIfInBounds_ne (fun e => hne e.symm)]⟩
  have hat : ∀ o : Obj, ({ w with heap := w.heap.setIfInBounds b o } : World).heap[b]? = some o := fun o => by simp [hbl]
  rcases K.find w hkey es.toList hk with ⟨h1, h2⟩ | ⟨j, e0, h1, h2, h3⟩
  · refine ⟨{ w with heap := w.heap.setIfInBounds b (.map (es.push ⟨key, val, clock⟩) (clock + 1)) }, ?_, ⟨_, _, hat _, ?_, ?_, ?_⟩, hkp _⟩
    · simp [Instr.mapUpdate, run_underlying ht, MapKept.run_getObj_map hb, K.check w false hkey, h1, MapKept.run_setObj_map _ hb, Result.andThen]
    · intro x hx
      simp only [Array.toList_push, List.mem_append, List.mem_singleton] at hx
      rcases hx with hx | rfl
      · exact hk x hx
      · exact ⟨kl, hkey⟩
    · rw [Array.toList_push, List.pairwise_append]
      refine ⟨hd, List.pairwise_singleton _ _, fun x hx y hy => ?_⟩
      rw [List.mem_singleton] at hy
      subst hy
      exact h2 x hx
    · intro q v
      rw [Array.toList_push]
      by_cases hq : q = key
      · subst hq
        rw [putF_same]
        constructor
        · intro hv
          exact ⟨⟨q, val, clock⟩, by simp, rfl, Option.some.inj hv⟩
        · rintro ⟨x, hx, e1, rfl⟩
          rcases List.mem_append.1 hx with hx | hx
          · exact absurd e1 (h2 x hx)
          · rw [List.mem_singleton] at hx
            subst hx
            rfl
      · rw [putF_other _ _ hq, hf]
        constructor
        · rintro ⟨x, hx, e1, e2⟩
          exact ⟨x, List.mem_append_left _ hx, e1, e2⟩
        · rintro ⟨x, hx, e1, e2⟩
          rcases List.mem_append.1 hx with hx | hx
          · exact ⟨x, hx, e1, e2⟩
          · rw [List.mem_singleton] at hx
            subst hx
            exact absurd e1.symm hq
  · have hj : es[j]? = some e0 := by simpa using h2
    have hjl : j < es.toList.length := (List.getElem?_eq_some_iff.1 h2).1
    have hget : es.toList[j] = e0 := (List.getElem?_eq_some_iff.1 h2).2
    have hlist : (es.modify j (fun e' => { e' with key := key, val := val })).toList = es.toList.set j { e0 with key := key, val := val } := by rw [Array.toList_modify, ChangeMaps.modify_eq_set _ _ _ _ h2]
    have who : ∀ x ∈ es.toList.set j { e0 with key := key, val := val }, x = { e0 with key := key, val := val } ∨ (x ∈ es.toList ∧ x.key ≠ key) := by
      intro x hx
      obtain ⟨i, hi, rfl⟩ := List.getElem_of_mem hx
      rw [List.getElem_set]
      split
      · exact .inl rfl
      · rename_i hne
        have hi' : i < es.toList.length := by simpa using hi
        have hkj : es.toList[j].key = key := by rw [hget]; exact h3
        refine .inr ⟨List.getElem_mem _, fun e1 => ?_⟩
        rcases Nat.lt_or_ge i j with q | q
        · exact List.pairwise_iff_getElem.1 hd i j hi' hjl q (e1.trans hkj.symm)
        · exact List.pairwise_iff_getElem.1 hd j i hjl hi' (by omega) (hkj.trans e1.symm)
    have hmem : ({ e0 with key := key, val := val } : MapEntry) ∈ es.toList.set j { e0 with key := key, val := val } := List.mem_iff_getElem.2 ⟨j, by simpa using hjl, by simp⟩
    have hback : ∀ x ∈ es.toList, x.key ≠ key → x ∈ es.toList.set j { e0 with key := key, val := val } := by
      intro x hx hne
      obtain ⟨i, hi, rfl⟩ := List.getElem_of_mem hx
      have hij : j ≠ i := fun e => by
        subst e
        exact hne (by rw [hget]; exact h3)
      exact List.mem_iff_getElem.2 ⟨i, by simpa using hi, by rw [List.getElem_set_ne hij]⟩
    refine ⟨{ w with heap := w.heap.setIfInBounds b (.map (es.modify j (fun e' => { e' with key := key, val := val })) clock) }, ?_, ⟨_, _, hat _, ?_, ?_, ?_⟩, hkp _⟩
    · simp [Instr.mapUpdate, run_underlying ht, MapKept.run_getObj_map hb, K.check w false hkey, h1, hj, h3, K.stays w hkey, MapKept.run_setObj_map _ hb, Result.andThen]
    · rw [hlist]
      intro x hx
      rcases who x hx with rfl | ⟨hx, _⟩
      · exact ⟨kl, hkey⟩
      · exact hk x hx
    · rw [hlist]
      have e : (es.toList.set j { e0 with key := key, val := val }).map (·.key) = es.toList.map (·.key) := by
        rw [List.map_set]
        apply List.ext_getElem (by simp)
        intro i hi1 hi2
        rw [List.getElem_set]
        split
        · rename_i hij
          subst hij
          rw [List.getElem_map, hget]
          exact h3.symm
        · rfl
      have hd2 := (List.pairwise_map (f := fun x : MapEntry => x.key) (R := fun (x y : Value) => x ≠ y)).2 hd
      rw [← e] at hd2
      exact (List.pairwise_map (f := fun x : MapEntry => x.key) (R := fun (x y : Value) => x ≠ y)).1 hd2
    · rw [hlist]
      intro q v
      by_cases hq : q = key
      · subst hq
        rw [putF_same]
        constructor
        · intro hv
          exact ⟨_, hmem, rfl, Option.some.inj hv⟩
        · rintro ⟨x, hx, e1, rfl⟩
          rcases who x hx with rfl | ⟨_, hne⟩
          · rfl
          · exact absurd e1 hne
      · rw [putF_other _ _ hq, hf]
        constructor
        · rintro ⟨x, hx, e1, e2⟩
          exact ⟨x, hback x hx (by rw [e1]; exact hq), e1, e2⟩
        · rintro ⟨x, hx, e1, e2⟩
          rcases who x hx with rfl | ⟨hx, _⟩
          · exact absurd e1.symm hq
          · exact ⟨x, hx, e1, e2⟩
end
theorem key_u64 : Maps.Keyed Try.prog 32 := Maps.int_keyed Try.underlying32
theorem laid_out : laidOutB Try.prog = true := by kernel_rfl
theorem key_guid : Maps.Keyed Try.prog 34 := Maps.Keyed.of_law (deep_law_laid (m := 2) laid_out (by omega) (of_decide_eq_true (by kernel_rfl)) (by kernel_rfl) (by kernel_rfl))
theorem keyOf_u64 {a : Int} (h : (Lit.int .u64 a).wf = true) : ∃ l, keyOf Try.prog 32 (.int .u64 a) = some l := by
  refine ⟨.int .u64 a, ?_⟩
  have hu : Try.prog.underlying 32 = some (.int .u64) := Try.underlying32
  simp [keyOf, mapKey, hu, h]
theorem lits_u64 (d : Nat) {a : Int} (h : (Lit.int .u64 a).wf = true) : Try.prog.keyLits (d + 1) 32 [.int .u64 a] = some [.int .u64 a] := by
  have hu : Try.prog.underlying 32 = some (.int .u64) := Try.underlying32
  unfold Program.keyLits
  rw [hu]
  simp [h]
theorem guid_names : (Try.prog.fieldsOf 34).toList.map (fun f => (f.name != "_", f.type, f.offset)) = [(true, 32, 0), (true, 32, 1)] := by kernel_rfl
theorem keyOf_guid {g : Gd} (h : wfG g) : ∃ l, keyOf Try.prog 34 (aggG g) = some l := by
  have hu : Try.prog.underlying 34 = some (.struct (Try.prog.fieldsOf 34)) := by kernel_rfl
  have hkt : Try.prog.keyType 34 = true := by kernel_rfl
  have hc : Try.prog.cellsOf 34 = 2 := by kernel_rfl
  have hc1 : Try.prog.cellsOf 32 = 1 := by kernel_rfl
  have hf := guid_names
  have hpos : 0 < Try.prog.types.size := of_decide_eq_true (by kernel_rfl)
  obtain ⟨d, hd⟩ : ∃ d, Try.prog.types.size = d + 1 := ⟨Try.prog.types.size - 1, by omega⟩
  generalize hfs : Try.prog.fieldsOf 34 = fs at hu hf
  obtain ⟨f0, f1, hl⟩ : ∃ f0 f1, fs.toList = [f0, f1] := by
    have hl := congrArg List.length hf
    rw [List.length_map] at hl
    match fs.toList, hl with
    | [a, b], _ => exact ⟨a, b, rfl⟩
  rw [hl] at hf
  simp only [List.map_cons, List.map_nil, List.cons.injEq, Prod.mk.injEq, and_true] at hf
  obtain ⟨⟨n0, t0, o0⟩, n1, t1, o1⟩ := hf
  have e0 := lits_u64 d h.1
  have e1 := lits_u64 d h.2
  have hall : fs.all (fun f => f.name != "_") = true := by rw [← Array.all_toList, hl]; simp only [List.all_cons, List.all_nil, n0, n1]; rfl
  have hlits : Try.prog.keyLits (d + 1 + 1) 34 [.int .u64 g.1, .int .u64 g.2] = some [.int .u64 g.1, .int .u64 g.2] := by
    unfold Program.keyLits
    rw [hu]
    simp only [List.length_cons, List.length_nil, hc, hall, and_self, if_true, hl, List.mapM_cons, List.mapM_nil, t0, o0, t1, o1, hc1, List.drop_zero, List.take_succ_cons, List.take_zero, List.drop_succ_cons, e0, e1]
    rfl
  refine ⟨.string (keyBytes [.int .u64 g.1, .int .u64 g.2]), ?_⟩
  unfold keyOf aggG
  rw [hu]
  have hform : Value.formed Try.prog 34 (.agg #[.int .u64 g.1, .int .u64 g.2]) = true := by
    simp only [Value.formed, hu, hc]
    rfl
  simp only [hkt, hform, Bool.and_self, if_true, hd, Value.cells, hlits, Option.map_some]
end Go.Proofs.Ytfeinafbimpjnaa
