/-
  SLICES THAT ARE READ, SLICES THAT THE CALL OWNS, append.
-/
import Derived.Test.YtikimmhkfjaijaaStr
namespace Go.Proofs.Ytikimmhkfjaijaa
open Go.RowKit

/-- The slice v has n elements, of 'size' cells each: the cells xs. -/
def Rd (w : World) (size : Nat) (v : Value) (n : Nat) (xs : List Value) : Prop :=
  xs.length = n * size ∧ ((v = .slice none 0 0 ∧ n = 0) ∨ ∃ g off c, v = .slice (some ⟨g, off, none⟩) n c ∧ n ≤ c ∧ ∀ j u, xs[j]? = some u → w.cell? ⟨g, off + j, none⟩ = some u)
theorem addr_add (g off j : Nat) : (⟨g, off, none⟩ : Addr).add j = ⟨g, off + j, none⟩ := by
  unfold Addr.add
  by_cases h : j = 0 <;> simp [h]

section
variable {w w' : World} {size : Nat} {v : Value} {n : Nat} {xs : List Value}
theorem Rd.nil_ : Rd w size (.slice none 0 0) 0 [] := ⟨by simp, .inl ⟨rfl, rfl⟩⟩
theorem Rd.keep (h : Rd w size v n xs) (hb : Below w.heap.size w w') : Rd w' size v n xs := by
  refine ⟨h.1, ?_⟩
  rcases h.2 with h | ⟨g, off, c, rfl, hc, hx⟩
  · exact .inl h
  · exact .inr ⟨g, off, c, rfl, hc, fun j u hu => cell_later hb (hx j u hu)⟩
/-- another block has changed -/
theorem Rd.grown {row : Option Nat} (h : Rd w size v n xs) (hg : w.grownBy w' row) (hr : n = 0 ∨ v.ownBlock = none ∨ v.ownBlock ≠ row) : Rd w' size v n xs := by
  refine ⟨h.1, ?_⟩
  rcases h.2 with h2 | ⟨g, off, c, rfl, hc, hx⟩
  · exact .inl h2
  · refine .inr ⟨g, off, c, rfl, hc, fun j u hu => ?_⟩
    have h1 := hx j u hu
    have hlt : g < w.heap.size := by
      rcases Nat.lt_or_ge g w.heap.size with q | q
      · exact q
      · simp [World.cell?, Array.getElem?_eq_none q] at h1
    rw [World.cell?_of_block (w := w)]
    · exact h1
    · refine hg.block g hlt ?_
      rcases hr with hr | hr | hr
      · subst hr
        have := h.1
        have hj : j < xs.length := by
          rcases Nat.lt_or_ge j xs.length with q | q
          · exact q
          · rw [List.getElem?_eq_none q] at hu; cases hu
        omega
      · simp [Value.ownBlock] at hr
      · simpa [Value.ownBlock] using hr
theorem Rd.of_own {base : Nat} {e : TypeId} (h : w.ownsRow base e size v n xs) : Rd w size v n xs := by
  refine ⟨h.1, ?_⟩
  rcases h.2 with h2 | ⟨g, cap, cur, rfl, _, hh, hn, hm, hcs, hx⟩
  · exact .inl h2
  · refine .inr ⟨g, 0, cap, rfl, hn, fun j u hu => ?_⟩
    have := h.cells (g := g) rfl j u hu
    rwa [addr_add] at this
theorem Rd.of_blk {g : Nat} {e : TypeId} {cs : Array Value} (h : Blk w g e cs) (hn : cs.size = n * size) (c : Nat) (hc : n ≤ c) : Rd w size (.slice (some ⟨g, 0, none⟩) n c) n cs.toList := by
  refine ⟨by simpa using hn, .inr ⟨g, 0, c, rfl, hc, fun j u hu => ?_⟩⟩
  rw [Nat.zero_add, h.cell]
  simpa using hu
/-- a piece of it -/
theorem Rd.cut {g off c k : Nat} {xs : List Value} (h : Rd w 1 (.slice (some ⟨g, off, none⟩) n c) n xs) (hk : k ≤ n) (c' : Nat) (hc' : n - k ≤ c') :
    Rd w 1 (.slice (some ⟨g, off + k, none⟩) (n - k) c') (n - k) (xs.drop k) := by
  refine ⟨by rw [List.length_drop, h.1]; omega, .inr ⟨g, off + k, c', rfl, hc', fun j u hu => ?_⟩⟩
  rcases h.2 with ⟨h2, _⟩ | ⟨g', off', c'', h2, _, hx⟩
  · cases h2
  · cases h2
    rw [Nat.add_assoc]
    exact hx _ u (by rw [← hu, List.getElem?_drop])
theorem Rd.take {g off c k : Nat} {xs : List Value} (h : Rd w 1 (.slice (some ⟨g, off, none⟩) n c) n xs) (hk : k ≤ n) (c' : Nat) (hc' : k ≤ c') :
    Rd w 1 (.slice (some ⟨g, off, none⟩) k c') k (xs.take k) := by
  refine ⟨by rw [List.length_take, h.1]; omega, .inr ⟨g, off, c', rfl, hc', fun j u hu => ?_⟩⟩
  rcases h.2 with ⟨h2, _⟩ | ⟨g', off', c'', h2, _, hx⟩
  · cases h2
  · cases h2
    have hj : j < k := by
      rcases Nat.lt_or_ge j k with q | q
      · exact q
      · rw [List.getElem?_eq_none (by rw [List.length_take]; omega)] at hu; cases hu
    exact hx _ u (by rw [← hu, List.getElem?_take_of_lt hj])
/-- no elements: whatever the address -/
theorem Rd.empty (w : World) (size : Nat) (g off c : Nat) : Rd w size (.slice (some ⟨g, off, none⟩) 0 c) 0 [] := ⟨by simp, .inr ⟨g, off, c, rfl, Nat.zero_le _, fun j u h => by simp at h⟩⟩
end

/-! ### Bytes -/
def vb (b : UInt8) : Value := .int .u8 (b.toNat : Int)
def RdB (w : World) (v : Value) (l : List UInt8) : Prop := Rd w 1 v l.length (l.map vb)
theorem str_of_rd {P : Program} {w : World} {v : Value} {l : List UInt8} (src dst e : TypeId) (hs : P.underlying src = some (.slice e)) (he : P.underlying e = some (.int .u8)) (hd : P.underlying dst = some .string) (h : RdB w v l) :
    (convert src dst v).run P w = .ok (.string (strOf l)) w := by
  rcases h.2 with ⟨rfl, hn⟩ | ⟨g, off, c, rfl, hc, hx⟩
  · have : l = [] := by simpa using hn
    subst this
    exact run_convert_bytes_nil w src e hs he 0 0 dst hd
  · exact run_convert_bytes_back w src dst e ⟨g, off, none⟩ c l hs he hd (fun j hj => by
      rw [addr_add]
      exact hx j _ (by simp [vb, hj]))
theorem RdB.keep {w w' : World} {v : Value} {l : List UInt8} (h : RdB w v l) (hb : Below w.heap.size w w') : RdB w' v l := Rd.keep h hb

/-! ### append -/
/-- A builtin append whose run is known: what stands behind it is asked of letters. -/
theorem wpList_append_run {P : Program} {w : World} {ops : Array Oper} {rest : List Oper} {o : Oper} {a : Act} {Q : Exit → Act → World → Prop} (hgd : o.guard = none) (s x : Operand) (t : TypeId)
    (ho : o.op = .call { callee := .builtin .append, args := #[s, x], argTypes := #[t, t] }) (v u : Value) (hs : a.eval s = v) (hx : a.eval x = u) (Post : Value → World → Prop)
    (hrun : ∃ v' w', (Builtin.append_ #[t, t] o.type #[v, u]).run P w = .ok v' w' ∧ Post v' w')
    (h : Later w fun _ => ∀ v' w', Post v' w' → wpList P ops Q rest (a.put o.dst v') w') : wpList P ops Q (o :: rest) a w := by
  obtain ⟨v', w', hr, hp⟩ := hrun
  refine wpList_plain hgd fun K hK => ?_
  unfold Oper.wp execOp
  simp only [ho, resolve, invoke, builtin, Sem.run_bind, Sem.run_pure, Result.andThen_ok, List.map_toArray, List.map_cons, List.map_nil, hs, hx, hr]
  exact hK _ _ (h v' w' hp)
/-- what an append onto an owned row leaves -/
def Appended (w : World) (base : Nat) (e : TypeId) (size : Nat) (v : Value) (n : Nat) (xs : List Value) (v' : Value) (w' : World) : Prop :=
  w'.ownsRow base e size v' n xs ∧ w.grownBy w' v.ownBlock ∧ (v'.ownBlock = v.ownBlock ∨ v'.ownBlock = some w.heap.size)
theorem grownBy_refl (w : World) (row : Option Nat) : w.grownBy w row := ⟨rfl, rfl, rfl, Nat.le_refl _, fun _ _ _ => rfl⟩
theorem app_own {P : Program} (w : World) (base : Nat) (t ty e : TypeId) (i : TypeInfo) (z : Value) (size bytes : Nat) (ht : P.underlying t = some (.slice e)) (hi : P.info? e = some i) (hz : i.zero = some z)
    (hsize : i.size = size) (hby : i.bytes = bytes) (hzs : z.cells.size = size) (hsz : 0 < size) {v : Value} {n : Nat} {xs : List Value} (hown : w.ownsRow base e size v n xs)
    {u : Value} {m : Nat} {ys : List Value} (hsrc : Rd w size u m ys) (h1 : ∀ y ∈ ys, y.oneCell' = true) (h63 : n + m ≤ maxLen) (hbytes : (n + m) * bytes ≤ 140737488355328) (hbase : base ≤ w.heap.size) :
    ∃ v' w', (Builtin.append_ #[t, t] ty #[v, u]).run P w = .ok v' w' ∧ Appended w base e size v (n + m) (xs ++ ys) v' w' := by
  rcases hsrc.2 with ⟨rfl, rfl⟩ | ⟨g, off, c, rfl, hc, hx⟩
  · refine ⟨v, w, run_append_owned_none w base t ty e i size ht hi v n xs hown, ?_, grownBy_refl _ _, .inl rfl⟩
    have : ys = [] := by simpa using hsrc.1
    subst this
    simpa using hown
  · obtain ⟨v', w', hr, h2, h3, _, h5⟩ := run_append_own_at (P := P) w base t ty e i z size bytes ht hi hz hsize hby hzs hsz v n xs hown ⟨g, off, none⟩ m c ys hsrc.1 (fun j u hu => by rw [addr_add]; exact hx j u hu) h1 h63 hbytes hbase
    exact ⟨v', w', hr, h2, h3, h5⟩
theorem own_new (w : World) (base : Nat) (e : TypeId) (cs : Array Value) (size n : Nat) (hn : cs.size = n * size) (hb : base ≤ w.heap.size) (hm : n ≤ maxLen) : (w.alloc (.cells cs e)).ownsRow base e size (.slice (some ⟨w.heap.size, 0, none⟩) n n) n cs.toList :=
  ⟨by simpa using hn, .inr ⟨w.heap.size, n, cs, rfl, hb, heap_alloc_new w _, Nat.le_refl _, hm, hn, List.take_of_length_le (by simp; omega)⟩⟩
theorem own_nil (w : World) (base : Nat) (e : TypeId) (size : Nat) : w.ownsRow base e size (.slice none 0 0) 0 [] := ⟨by simp, .inl ⟨rfl, rfl⟩⟩
theorem below_grown {w w' : World} {row : Option Nat} {base : Nat} (hg : w.grownBy w' row) (hb : base ≤ w.heap.size) (hr : ∀ k, row = some k → base ≤ k) : Below base w w' := (Below.refl _ _).grown hg hb hr
theorem own_block {w : World} {base : Nat} {e : TypeId} {size : Nat} {v : Value} {n : Nat} {xs : List Value} (h : w.ownsRow base e size v n xs) : ∀ k, v.ownBlock = some k → base ≤ k := fun k hk => (h.lt k hk).1
theorem Appended.below {w w' : World} {base : Nat} {e : TypeId} {size : Nat} {v : Value} {n m : Nat} {xs ys : List Value} {v' : Value} (h : Appended w base e size v m ys v' w') (ho : w.ownsRow base e size v n xs) (hb : base ≤ w.heap.size) : Below base w w' :=
  below_grown h.2.1 hb (own_block ho)
end Go.Proofs.Ytikimmhkfjaijaa
