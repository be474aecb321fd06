/-
  META: how tokens, rows of snapshots and tables lie in memory (read only).
-/
import Derived.Test.YtimgecflcackbaaMetB
namespace Go.Proofs.Ytimgecflcackbaa
open Go.RowKit Reg

def tkV (t : Tk) (iv : Value) : Value := .agg #[.int .u64 t.base.1, .int .u64 t.base.2, .int .u64 t.target.1, .int .u64 t.target.2, .int .i64 t.next, .int .i64 t.all, iv]
structure wfTk (t : Tk) : Prop where
  base : wfG t.base
  target : wfG t.target
  next : (Lit.int .i64 t.next).wf = true
  all : (Lit.int .i64 t.all).wf = true
/-- v is read as the token t -/
def InTk (w : World) (v : Value) (t : Tk) : Prop := ∃ iv, v = tkV t iv ∧ InI w iv t.image ∧ wfTk t
theorem InTk.keep {w w' : World} {v : Value} {t : Tk} (h : InTk w v t) (hb : Below w.heap.size w w') : InTk w' v t := by
  obtain ⟨iv, h1, h2, h3⟩ := h
  exact ⟨iv, h1, h2.keep hb, h3⟩
def snap0 : Sn := ⟨(0, 0), [], false⟩
/-- v is read as the row l of snapshots: four cells each -/
def InS (w : World) (v : Value) (l : List Sn) : Prop :=
  ∃ a c, v = .slice a l.length c ∧ l.length ≤ maxLen ∧ ∀ j, j < l.length → ∃ g off iv, a = some ⟨g, off, none⟩ ∧
    w.cell? ⟨g, off + j * 4, none⟩ = some (.int .u64 (l.getD j snap0).guid.1) ∧
    w.cell? ⟨g, off + j * 4 + 1, none⟩ = some (.int .u64 (l.getD j snap0).guid.2) ∧
    w.cell? ⟨g, off + j * 4 + 2, none⟩ = some iv ∧ InI w iv (l.getD j snap0).image ∧
    w.cell? ⟨g, off + j * 4 + 3, none⟩ = some (.bool (l.getD j snap0).hidden) ∧ wfG (l.getD j snap0).guid
theorem InS.keep {w w' : World} {v : Value} {l : List Sn} (h : InS w v l) (hb : Below w.heap.size w w') : InS w' v l := by
  obtain ⟨a, c, rfl, hm, hx⟩ := h
  refine ⟨a, c, rfl, hm, fun j hj => ?_⟩
  obtain ⟨g, off, iv, rfl, h1, h2, h3, h4, h5, h6⟩ := hx j hj
  exact ⟨g, off, iv, rfl, cell_later hb h1, cell_later hb h2, cell_later hb h3, h4.keep hb, cell_later hb h5, h6⟩
theorem InS.nil_ (w : World) (a : Option Addr) (c : Nat) : InS w (.slice a 0 c) [] := ⟨a, c, rfl, Nat.zero_le _, fun j hj => by simp at hj⟩
def mtV (m : Mt) (lv sv iv : Value) : Value :=
  .agg #[lv, sv, .int .u64 m.token.base.1, .int .u64 m.token.base.2, .int .u64 m.token.target.1, .int .u64 m.token.target.2, .int .i64 m.token.next, .int .i64 m.token.all, iv]
/-- v is read as the table m -/
def InMt (w : World) (v : Value) (m : Mt) : Prop :=
  ∃ lv sv iv, v = mtV m lv sv iv ∧ InI w lv m.live ∧ InS w sv m.snaps ∧ InI w iv m.token.image ∧ wfTk m.token
theorem InMt.keep {w w' : World} {v : Value} {m : Mt} (h : InMt w v m) (hb : Below w.heap.size w w') : InMt w' v m := by
  obtain ⟨lv, sv, iv, h1, h2, h3, h4, h5⟩ := h
  exact ⟨lv, sv, iv, h1, h2.keep hb, h3.keep hb, h4.keep hb, h5⟩
theorem snOf_cons (s : Sn) (l : List Sn) (last : Gd) (blocks n : Int) : snOf (s :: l) last blocks n = if upG last s.guid = false then (2, last) else if chkOf s.image blocks n ≠ 0 then (chkOf s.image blocks n, last) else snOf l s.guid blocks n := rfl
theorem snOf_step {l : List Sn} {k : Nat} (h : k < l.length) (last : Gd) (blocks n : Int) : snOf (l.drop k) last blocks n = if upG last (l.getD k snap0).guid = false then (2, last) else if chkOf (l.getD k snap0).image blocks n ≠ 0 then (chkOf (l.getD k snap0).image blocks n, last) else snOf (l.drop (k + 1)) (l.getD k snap0).guid blocks n := by
  rw [List.drop_eq_getElem_cons h, snOf_cons]
  simp [List.getD, List.getElem?_eq_getElem h]
end Go.Proofs.Ytimgecflcackbaa
