/-
  Chains after so many rounds: plain facts.
-/
import Derived.Test.YtjeebpklinpmfaaChR
namespace Go.Proofs.Ytjeebpklinpmfaa
open Go.RowKit Reg Go.WideShapes Go.ChangeShapes

/-- behind i rounds, each a snapshot -/
def aB (G : Nat → Gd) (rs : List (List Pt)) : Nat → Ch
  | 0 => Ch.new 8
  | i + 1 => (roundC (aB G rs i) (rs.getD i [])).snap (G i)
theorem last_of {C D : Ch} (h1 : C.n = D.n) (h2 : C.snaps = D.snaps) : C.last = D.last := by
  unfold Ch.last
  rw [h1, h2]
theorem next_of {C : Ch} {g : Gd} (h1 : upG C.last.g g = true) (h2 : C.snaps.length < 20) : C.next g = 0 := by
  unfold Ch.next
  rw [if_pos h1, if_neg (by omega)]
structure Ris (G : Nat → Gd) : Prop where
  zero : upG (0, 0) (G 0) = true
  succ : ∀ i, upG (G i) (G (i + 1)) = true
theorem aB_props {G : Nat → Gd} (hG : Ris G) (rs : List (List Pt)) : ∀ i, i ≤ 15 → (aB G rs i).n = 8 ∧ (aB G rs i).snaps.length = i ∧ (i = 0 → (aB G rs i).live = zeroVo 8 ∧ (aB G rs i).last.g = (0, 0)) ∧
    (∀ j, i = j + 1 → (aB G rs i).last = ⟨(aB G rs i).live, G j, false⟩) ∧ upG (aB G rs i).last.g (G i) = true := by
  intro i
  induction i with
  | zero => exact fun _ => ⟨rfl, rfl, fun _ => ⟨rfl, rfl⟩, fun j h => by omega, hG.zero⟩
  | succ i ih =>
    intro hi
    obtain ⟨h1, h2, -, -, h5⟩ := ih (by omega)
    obtain ⟨r1, r2⟩ := round_n (aB G rs i) (rs.getD i [])
    have hl := last_of r1 r2
    have hnx : (roundC (aB G rs i) (rs.getD i [])).next (G i) = 0 := next_of (by rw [hl]; exact h5) (by rw [r2]; omega)
    have e : aB G rs (i + 1) = (roundC (aB G rs i) (rs.getD i [])).put ⟨(roundC (aB G rs i) (rs.getD i [])).live, G i, false⟩ := by
      show (roundC (aB G rs i) (rs.getD i [])).snap (G i) = _
      unfold Ch.snap
      rw [if_pos hnx]
    have hlast : (aB G rs (i + 1)).last = ⟨(aB G rs (i + 1)).live, G i, false⟩ := by
      rw [e]
      unfold Ch.put Ch.last
      simp
    refine ⟨?_, ?_, fun h => by omega, fun j hj => ?_, ?_⟩
    · rw [e]; exact r1.trans h1
    · rw [e]
      show ((roundC (aB G rs i) (rs.getD i [])).snaps ++ [_]).length = i + 1
      rw [List.length_append, r2, h2]
      rfl
    · obtain rfl : i = j := by omega
      exact hlast
    · rw [hlast]; exact hG.succ i
theorem aB_next {G : Nat → Gd} (hG : Ris G) (rs : List (List Pt)) {i : Nat} (hi : i ≤ 15) : (roundC (aB G rs i) (rs.getD i [])).next (G i) = 0 := by
  obtain ⟨-, h2, -, -, h5⟩ := aB_props hG rs i hi
  obtain ⟨r1, r2⟩ := round_n (aB G rs i) (rs.getD i [])
  exact next_of (by rw [last_of r1 r2]; exact h5) (by rw [r2]; omega)
theorem aB_succ {G : Nat → Gd} (hG : Ris G) (rs : List (List Pt)) {i : Nat} (hi : i ≤ 15) : (aB G rs (i + 1)).snaps = (aB G rs i).snaps ++ [⟨(roundC (aB G rs i) (rs.getD i [])).live, G i, false⟩] := by
  show ((roundC (aB G rs i) (rs.getD i [])).snap (G i)).snaps = _
  unfold Ch.snap
  rw [if_pos (aB_next hG rs hi)]
  show (roundC (aB G rs i) (rs.getD i [])).snaps ++ [_] = _
  rw [(round_n (aB G rs i) (rs.getD i [])).2]
theorem aB_take {G : Nat → Gd} (hG : Ris G) (rs : List (List Pt)) {i : Nat} : ∀ d, i + d ≤ 15 → (aB G rs (i + d)).snaps.take i = (aB G rs i).snaps
  | 0, h => by
    have := (aB_props hG rs i (by omega)).2.1
    exact List.take_of_length_le (Nat.le_of_eq this)
  | d + 1, h => by
    have h1 := (aB_props hG rs (i + d) (by omega)).2.1
    rw [show i + (d + 1) = (i + d) + 1 from rfl, aB_succ hG rs (by omega), List.take_append_of_le_length (by omega)]
    exact aB_take hG rs d (by omega)
theorem aB_roll {G : Nat → Gd} (hG : Ris G) (rs : List (List Pt)) {m s : Nat} (hs : s ≤ m) (hm : m ≤ 15) : (aB G rs m).rollE (s : Int) = 0 ∧ (aB G rs m).roll (s : Int) = aB G rs s := by
  obtain ⟨m1, m2, -⟩ := aB_props hG rs m hm
  obtain ⟨s1, s2, s3, s4, -⟩ := aB_props hG rs s (by omega)
  have hn : ¬ ((s : Int) < 0 ∨ ((aB G rs m).snaps.length : Int) < (s : Int)) := by omega
  have ht : (aB G rs m).snaps.take s = (aB G rs s).snaps := by
    obtain ⟨d, rfl⟩ : ∃ d, m = s + d := ⟨m - s, by omega⟩
    exact aB_take hG rs d hm
  have hc : ((aB G rs m).cut s).last = (aB G rs s).last := last_of (m1.trans s1.symm) ht
  have hl : (aB G rs s).last.vol = (aB G rs s).live := by
    cases s with
    | zero => rfl
    | succ j => rw [s4 j rfl]
  refine ⟨by unfold Ch.rollE; rw [if_neg hn], ?_⟩
  unfold Ch.roll
  rw [if_neg hn]
  show ({ (aB G rs m).cut s with live := ((aB G rs m).cut s).last.vol } : Ch) = _
  rw [hc, hl]
  unfold Ch.cut
  rw [ht]
  simp only [m1]
  rw [← s1]
/-- rounds that come in -/
def InPP (w : World) (v : Value) (rs : List (List Pt)) : Prop :=
  ∃ a c, v = .slice a rs.length c ∧ rs.length ≤ maxLen ∧ ∀ j, j < rs.length → ∃ g off u, a = some ⟨g, off, none⟩ ∧ w.cell? ⟨g, off + j, none⟩ = some u ∧ InP w u (rs.getD j [])
theorem wf_small {n : Nat} (h : n ≤ 1000) : (Lit.int .u64 (n : Int)).wf = true := by
  simp [Lit.wf, IntKind.min, IntKind.max, IntKind.signed, IntKind.bits]
  omega
def gB (i : Nat) : Gd := (2, (i : Int))
theorem gB_ris : Ris gB := ⟨by decide, fun i => by
  unfold upG gB
  exact decide_eq_true (.inr ⟨rfl, by simp only; omega⟩)⟩
theorem aB_99 (rs : List (List Pt)) {s : Nat} (hs : s ≤ 15) : (aB gB rs s).next (2, 99) = 0 := by
  obtain ⟨s1, s2, s3, s4, -⟩ := aB_props gB_ris rs s hs
  refine next_of ?_ (by omega)
  cases s with
  | zero => rw [(s3 rfl).2]; decide
  | succ j =>
    rw [s4 j rfl]
    unfold upG gB
    exact decide_eq_true (.inr ⟨rfl, by simp only; omega⟩)
theorem run_equalIn_chg_fields : (Try.prog.fieldsOf 48).toList.map (fun f => (decide (f.name = "_"), f.type, f.offset)) = [(false, 3, 0), (false, 9, 1)] := by kernel_rfl
theorem run_neq_chg (x x' : Int) (s s' : ByteArray) (w : World) : (binOp .neq 48 (.agg #[.int .i64 x, .string s]) (.agg #[.int .i64 x', .string s'])).run Try.prog w = .ok (.bool (!(x == x' && s.toList == s'.toList))) w := by
  have key : ∀ d, (Op.equalIn (d + 2) 48 (.agg #[.int .i64 x, .string s]) (.agg #[.int .i64 x', .string s'])).run Try.prog w = .ok (x == x' && s.toList == s'.toList) w := by
    intro d
    rw [run_equalIn_struct (P := Try.prog) w (d + 1) 48 #[.int .i64 x, .string s] #[.int .i64 x', .string s'] (by kernel_rfl) (by kernel_rfl)]
    have hf := run_equalIn_chg_fields
    generalize (Try.prog.fieldsOf 48).toList = fs at hf
    obtain ⟨f0, f1, rfl⟩ : ∃ f0 f1, fs = [f0, f1] := by
      have hl := congrArg List.length hf
      rw [List.length_map] at hl
      cases fs with
      | nil => simp at hl
      | cons f0 fs => cases fs with
        | nil => simp at hl
        | cons f1 fs => cases fs with
          | nil => exact ⟨f0, f1, rfl⟩
          | cons f2 fs => simp at hl
    simp only [List.map_cons, List.map_nil, List.cons.injEq, Prod.mk.injEq, decide_eq_false_iff_not, and_true] at hf
    obtain ⟨⟨n0, t0, o0⟩, n1, t1, o1⟩ := hf
    have hk0 : Try.prog.plainKey 3 = true := by kernel_rfl
    have hk1 : Try.prog.plainKey 9 = true := by kernel_rfl
    have p0 : ∀ (a : Int) (b : ByteArray), (part 3 #[Value.int .i64 a, .string b] 0).run Try.prog w = .ok (.int .i64 a) w := fun a b => run_part_plain w hk0 rfl
    have p1 : ∀ (a : Int) (b : ByteArray), (part 9 #[Value.int .i64 a, .string b] 1).run Try.prog w = .ok (.string b) w := fun a b => run_part_plain w hk1 rfl
    have e0 := run_equalIn_int (P := Try.prog) w d 3 .i64 .i64 x x' Try.underlying3
    have e1 := run_equalIn_string (P := Try.prog) w d 9 s s' Try.underlying9
    unfold Op.eqFields
    rw [if_pos n0]
    simp only [Sem.run_bind, t0, o0, p0, Result.andThen_ok, e0]
    cases h0 : x == x' with
    | false => rfl
    | true =>
      simp only [Bool.not_true, Bool.false_eq_true, if_false, Bool.true_and]
      unfold Op.eqFields
      rw [if_pos n1]
      simp only [Sem.run_bind, t1, o1, p1, Result.andThen_ok, e1]
      cases h1 : s.toList == s'.toList with
      | false => rfl
      | true => rfl
  simp only [binOp]
  simp [Op.equal, Op.maxDepth, key 9998]
theorem run_neq_same (x : Int) (s : ByteArray) (w : World) : (binOp .neq 48 (.agg #[.int .i64 x, .string s]) (.agg #[.int .i64 x, .string s])).run Try.prog w = .ok (.bool false) w := by
  rw [run_neq_chg]
  simp
end Go.Proofs.Ytjeebpklinpmfaa
