/-
  MESSAGES: what going through all fields keeps, plainly (printed by wip/gen-msgn.py).
-/
import Derived.Test.YtikimmhkfjaijaaMsM
namespace Go.Proofs.Ytikimmhkfjaijaa
open Go.RowKit Reg Go.ChangeShapes

/-! ### another reader's block -/
def rnM (r : Nat) : Md → Md
  | .lay s => .lay s
  | .rd _ st => .rd r st
def rn (r : Nat) (S : Sf) : Sf := ⟨rnM r S.m, S.bad⟩
theorem numF_rn (r : Nat) (m : Md) (n : Nat) : numF (rnM r m) n = (rnM r (numF m n).1, (numF m n).2) := by cases m <;> rfl
theorem rn_isRd (r : Nat) (S : Sf) : (rn r S).m.isRd = S.m.isRd := by
  obtain ⟨m, b⟩ := S
  cases m <;> rfl
theorem rnM_isRd (r : Nat) (m : Md) : (rnM r m).isRd = m.isRd := by cases m <;> rfl
theorem intF_rn (r : Nat) (S : Sf) (x : Int) : intF (rn r S) x = (rn r (intF S x).1, (intF S x).2) := by
  unfold intF rn
  simp only [numF_rn]
theorem numS_rn (r : Nat) (S : Sf) (x : Int) : numS (rn r S) x = (rn r (numS S x).1, (numS S x).2) := by
  unfold numS rn
  simp only [numF_rn]
theorem stF_rn (r : Nat) (S : Sf) (x : Int) : stF (rn r S) x = (rn r (stF S x).1, (stF S x).2) := by
  unfold stF rn
  simp only [numF_rn]
theorem yesF_rn (r : Nat) (S : Sf) (b : Bool) : yesF (rn r S) b = (rn r (yesF S b).1, (yesF S b).2) := by
  unfold yesF
  simp only [intF_rn]
  rfl
theorem gdF_rn (r : Nat) (S : Sf) (a b : Nat) : gdF (rn r S) a b = (rn r (gdF S a b).1, (gdF S a b).2) := by
  unfold gdF rn
  simp only [numF_rn]
theorem gdS_rn (r : Nat) (S : Sf) (g : Gd) : gdS (rn r S) g = (rn r (gdS S g).1, (gdS S g).2) := by
  unfold gdS
  simp only [gdF_rn]
theorem enS_rn (r : Nat) (S : Sf) (e : En) : enS (rn r S) e = (rn r (enS S e).1, (enS S e).2) := by
  unfold enS
  simp only [numS_rn, intF_rn, gdS_rn]
theorem gLp_rn (r : Nat) (S : Sf) (l : List Gd) : ∀ k, gLp (rn r S) l k = (rn r (gLp S l k).1, (gLp S l k).2)
  | 0 => rfl
  | k + 1 => by
    unfold gLp
    rw [gLp_rn r S l k]
    simp only [gdS_rn]
theorem eLp_rn (r : Nat) (S : Sf) (l : List En) : ∀ k, eLp (rn r S) l k = (rn r (eLp S l k).1, (eLp S l k).2)
  | 0 => rfl
  | k + 1 => by
    unfold eLp
    rw [eLp_rn r S l k]
    simp only [enS_rn]
theorem freshF_rn (r : Nat) (S : Sf) (k : Nat) : freshF (rn r S) k = freshF S k := by
  unfold freshF
  rw [rn_isRd, intF_rn]
  rfl
theorem szN_rn (r : Nat) (S : Sf) (k : Nat) : szN (rn r S) k = szN S k := by
  unfold szN
  rw [intF_rn]
theorem szG_rn (r : Nat) (S : Sf) (l : List Gd) : szG (rn r S) l = szG S l := by
  unfold szG
  rw [freshF_rn, szN_rn]
theorem szE_rn (r : Nat) (S : Sf) (l : List En) : szE (rn r S) l = szE S l := by
  unfold szE
  rw [freshF_rn, szN_rn]
theorem lineF_rn (r : Nat) (S : Sf) (m : Ms) : lineF (rn r S) m = (rn r (lineF S m).1, (lineF S m).2) := by
  unfold lineF
  simp only [numS_rn, intF_rn, yesF_rn, szG_rn, gLp_rn]
theorem entF_rn (r : Nat) (S : Sf) (m : Ms) : entF (rn r S) m = (rn r (entF S m).1, (entF S m).2) := by
  unfold entF
  simp only [intF_rn, szE_rn, eLp_rn]
theorem partF_rn (r : Nat) (S : Sf) (m : Ms) : partF (rn r S) m = (rn r (partF S m).1, (partF S m).2) := by
  obtain ⟨md, b⟩ := S
  cases md <;> rfl
def rq (r : Nat) (q : Sf × Ms) : Sf × Ms := (rn r q.1, q.2)
theorem iT_rn (r : Nat) (q : Sf × Ms) : iT (rq r q) = rq r (iT q) := by
  unfold iT rq
  simp only [numS_rn]
theorem iP_rn (r : Nat) (q : Sf × Ms) : iP (rq r q) = rq r (iP q) := by
  unfold iP rq
  simp only [intF_rn]
theorem iPT_rn (r : Nat) (q : Sf × Ms) : iPT (rq r q) = rq r (iPT q) := by
  unfold iPT rq
  simp only [numS_rn]
theorem iY_rn (r : Nat) (q : Sf × Ms) : iY (rq r q) = rq r (iY q) := by
  unfold iY rq
  simp only [yesF_rn]
theorem iC_rn (r : Nat) (q : Sf × Ms) : iC (rq r q) = rq r (iC q) := by
  unfold iC rq
  simp only [intF_rn]
theorem iM_rn (r : Nat) (q : Sf × Ms) : iM (rq r q) = rq r (iM q) := by
  unfold iM rq
  simp only [intF_rn]
theorem iL_rn (r : Nat) (q : Sf × Ms) : iL (rq r q) = rq r (iL q) := by
  unfold iL rq
  simp only [intF_rn]
theorem iN_rn (r : Nat) (q : Sf × Ms) : iN (rq r q) = rq r (iN q) := by
  unfold iN rq
  simp only [intF_rn]
theorem iS_rn (r : Nat) (q : Sf × Ms) : iS (rq r q) = rq r (iS q) := by
  unfold iS rq
  simp only [stF_rn]
theorem iLa_rn (r : Nat) (q : Sf × Ms) : iLa (rq r q) = rq r (iLa q) := by
  unfold iLa rq
  simp only [gdS_rn]
theorem iTa_rn (r : Nat) (q : Sf × Ms) : iTa (rq r q) = rq r (iTa q) := by
  unfold iTa rq
  simp only [gdS_rn]
theorem iK_rn (r : Nat) (q : Sf × Ms) : iK (rq r q) = rq r (iK q) := by
  unfold iK rq
  simp only [intF_rn]
theorem rq_eq (r : Nat) (S : Sf) (m : Ms) : (rn r S, m) = rq r (S, m) := rfl
theorem askF_rn (r : Nat) (S : Sf) (m : Ms) : askF (rn r S) m = rq r (askF S m) := by
  unfold askF
  rw [rq_eq, iT_rn, iP_rn, iPT_rn]
theorem voteF_rn (r : Nat) (S : Sf) (m : Ms) : voteF (rn r S) m = rq r (voteF S m) := by
  unfold voteF
  rw [rq_eq, iT_rn, iY_rn]
theorem lineF_rq (r : Nat) (S : Sf) (m : Ms) : lineF (rn r S) m = rq r (lineF S m) := lineF_rn r S m
theorem entF_rq (r : Nat) (q : Sf × Ms) : entF (rq r q).1 (rq r q).2 = rq r (entF q.1 q.2) := entF_rn r q.1 q.2
theorem partF_rq (r : Nat) (q : Sf × Ms) : partF (rq r q).1 (rq r q).2 = rq r (partF q.1 q.2) := partF_rn r q.1 q.2
theorem allF_rn (r : Nat) (S : Sf) (m : Ms) : allF (rn r S) m = rq r (allF S m) := by
  unfold allF
  split; · exact askF_rn r S m
  split; · exact voteF_rn r S m
  split; · unfold appendsF; rw [askF_rn, entF_rq, iC_rn, iS_rn]
  split; · unfold appendedF; rw [voteF_rn, iM_rn, iS_rn]
  split; · unfold pullF; rw [lineF_rq, iL_rn, iLa_rn, iTa_rn, iN_rn]
  split; · unfold partedF; rw [lineF_rq, partF_rq]
  split; · exact lineF_rq r S m
  rfl
/-! ### of the same kind -/
theorem alike_yes (S : Sf) (b : Bool) : Alike S (yesF S b).1 := alike_num S (b01 b) _
theorem gLp_alike (S : Sf) (l : List Gd) : ∀ k, Alike S (gLp S l k).1
  | 0 => Alike.refl S
  | k + 1 => (gLp_alike S l k).trans (alike_gd _ _)
theorem enS_alike (S : Sf) (e : En) : Alike S (enS S e).1 := (alike_num S _ S.bad).trans ((alike_num _ _ _).trans (alike_gd _ _))
theorem eLp_alike (S : Sf) (l : List En) : ∀ k, Alike S (eLp S l k).1
  | 0 => Alike.refl S
  | k + 1 => (eLp_alike S l k).trans (enS_alike _ _)
theorem lineF_alike (S : Sf) (m : Ms) : Alike S (lineF S m).1 := (alike_num S _ S.bad).trans ((alike_num _ _ _).trans ((alike_yes _ _).trans ((alike_num _ _ _).trans (gLp_alike _ _ _))))
theorem entF_alike (S : Sf) (m : Ms) : Alike S (entF S m).1 := (alike_num S _ _).trans (eLp_alike _ _ _)
theorem partF_alike (S : Sf) (m : Ms) : Alike S (partF S m).1 := by
  obtain ⟨md, b⟩ := S
  cases md <;> exact ⟨rfl, rfl, rfl⟩
theorem iT_alike (q : Sf × Ms) : Alike q.1 (iT q).1 := alike_num _ _ _
theorem iP_alike (q : Sf × Ms) : Alike q.1 (iP q).1 := alike_num _ _ _
theorem iPT_alike (q : Sf × Ms) : Alike q.1 (iPT q).1 := alike_num _ _ _
theorem iY_alike (q : Sf × Ms) : Alike q.1 (iY q).1 := alike_yes _ _
theorem iC_alike (q : Sf × Ms) : Alike q.1 (iC q).1 := alike_num _ _ _
theorem iM_alike (q : Sf × Ms) : Alike q.1 (iM q).1 := alike_num _ _ _
theorem iL_alike (q : Sf × Ms) : Alike q.1 (iL q).1 := alike_num _ _ _
theorem iN_alike (q : Sf × Ms) : Alike q.1 (iN q).1 := alike_num _ _ _
theorem iS_alike (q : Sf × Ms) : Alike q.1 (iS q).1 := alike_num _ _ _
theorem iLa_alike (q : Sf × Ms) : Alike q.1 (iLa q).1 := alike_gd _ _
theorem iTa_alike (q : Sf × Ms) : Alike q.1 (iTa q).1 := alike_gd _ _
theorem iK_alike (q : Sf × Ms) : Alike q.1 (iK q).1 := alike_num _ _ _
theorem askF_alike (S : Sf) (m : Ms) : Alike S (askF S m).1 := (iT_alike (S, m)).trans ((iP_alike _).trans (iPT_alike _))
theorem voteF_alike (S : Sf) (m : Ms) : Alike S (voteF S m).1 := (iT_alike (S, m)).trans (iY_alike _)
theorem allF_alike (S : Sf) (m : Ms) : Alike S (allF S m).1 := by
  unfold allF
  split; · exact askF_alike S m
  split; · exact voteF_alike S m
  split; · exact (askF_alike S m).trans ((entF_alike _ _).trans ((iC_alike _).trans (iS_alike _)))
  split; · exact (voteF_alike S m).trans ((iM_alike _).trans (iS_alike _))
  split; · exact (lineF_alike S m).trans ((iL_alike _).trans ((iLa_alike _).trans ((iTa_alike _).trans (iN_alike _))))
  split; · exact (lineF_alike S m).trans (partF_alike _ _)
  split; · exact lineF_alike S m
  exact ⟨rfl, rfl, rfl⟩
/-! ### numbers stay of their kinds -/
theorem u64_num {S : Sf} {x : Int} (h : u64 x) : u64 (numS S x).2 := by
  obtain ⟨n, rfl, hn⟩ := u64_nat h
  exact nat_u64 (numF_lt _ _ hn)
theorem i64_int (S : Sf) (x : Int) : i64 (intF S x).2 := RowKit.wrap64_wf _
theorem i64_st (S : Sf) (x : Int) : i64 (stF S x).2 := RowKit.wrap64_wf _
theorem wfM.K_ {m : Ms} (h : wfM m) {v : Int} (hv : i64 v) : wfM (p_K m v) := ⟨hv, h.T, h.P, h.PT, h.C, h.M, h.S, h.E, h.B, h.n, h.la, h.ta, h.N, h.p⟩
theorem wfM.T_ {m : Ms} (h : wfM m) {v : Int} (hv : u64 v) : wfM (p_T m v) := ⟨h.K, hv, h.P, h.PT, h.C, h.M, h.S, h.E, h.B, h.n, h.la, h.ta, h.N, h.p⟩
theorem wfM.P_ {m : Ms} (h : wfM m) {v : Int} (hv : i64 v) : wfM (p_P m v) := ⟨h.K, h.T, hv, h.PT, h.C, h.M, h.S, h.E, h.B, h.n, h.la, h.ta, h.N, h.p⟩
theorem wfM.PT_ {m : Ms} (h : wfM m) {v : Int} (hv : u64 v) : wfM (p_PT m v) := ⟨h.K, h.T, h.P, hv, h.C, h.M, h.S, h.E, h.B, h.n, h.la, h.ta, h.N, h.p⟩
theorem wfM.C_ {m : Ms} (h : wfM m) {v : Int} (hv : i64 v) : wfM (p_C m v) := ⟨h.K, h.T, h.P, h.PT, hv, h.M, h.S, h.E, h.B, h.n, h.la, h.ta, h.N, h.p⟩
theorem wfM.M_ {m : Ms} (h : wfM m) {v : Int} (hv : i64 v) : wfM (p_M m v) := ⟨h.K, h.T, h.P, h.PT, h.C, hv, h.S, h.E, h.B, h.n, h.la, h.ta, h.N, h.p⟩
theorem wfM.S_ {m : Ms} (h : wfM m) {v : Int} (hv : i64 v) : wfM (p_S m v) := ⟨h.K, h.T, h.P, h.PT, h.C, h.M, hv, h.E, h.B, h.n, h.la, h.ta, h.N, h.p⟩
theorem wfM.n_ {m : Ms} (h : wfM m) {v : Int} (hv : i64 v) : wfM (p_n m v) := ⟨h.K, h.T, h.P, h.PT, h.C, h.M, h.S, h.E, h.B, hv, h.la, h.ta, h.N, h.p⟩
theorem wfM.la_ {m : Ms} (h : wfM m) {v : Gd} (hv : wfG v) : wfM (p_la m v) := ⟨h.K, h.T, h.P, h.PT, h.C, h.M, h.S, h.E, h.B, h.n, hv, h.ta, h.N, h.p⟩
theorem wfM.ta_ {m : Ms} (h : wfM m) {v : Gd} (hv : wfG v) : wfM (p_ta m v) := ⟨h.K, h.T, h.P, h.PT, h.C, h.M, h.S, h.E, h.B, h.n, h.la, hv, h.N, h.p⟩
theorem wfM.N_ {m : Ms} (h : wfM m) {v : Int} (hv : i64 v) : wfM (p_N m v) := ⟨h.K, h.T, h.P, h.PT, h.C, h.M, h.S, h.E, h.B, h.n, h.la, h.ta, hv, h.p⟩
theorem wfM.p_ {m : Ms} (h : wfM m) {v : Prt} (hv : wfPr v) : wfM (p_p m v) := ⟨h.K, h.T, h.P, h.PT, h.C, h.M, h.S, h.E, h.B, h.n, h.la, h.ta, h.N, hv⟩
theorem wfM.l_ {m : Ms} (h : wfM m) {v : Ln} (hv : u64 v.E ∧ i64 v.B) : wfM (p_l m v) := ⟨h.K, h.T, h.P, h.PT, h.C, h.M, h.S, hv.1, hv.2, h.n, h.la, h.ta, h.N, h.p⟩
theorem wfM.Y_ {m : Ms} (h : wfM m) (v : Bool) : wfM (p_Y m v) := ⟨h.K, h.T, h.P, h.PT, h.C, h.M, h.S, h.E, h.B, h.n, h.la, h.ta, h.N, h.p⟩
theorem wfM.es_ {m : Ms} (h : wfM m) (v : List En) : wfM (p_es m v) := ⟨h.K, h.T, h.P, h.PT, h.C, h.M, h.S, h.E, h.B, h.n, h.la, h.ta, h.N, h.p⟩
theorem iT_wf {q : Sf × Ms} (h : wfM q.2) : wfM (iT q).2 := h.T_ (u64_num h.T)
theorem iP_wf {q : Sf × Ms} (h : wfM q.2) : wfM (iP q).2 := h.P_ (i64_int _ _)
theorem iPT_wf {q : Sf × Ms} (h : wfM q.2) : wfM (iPT q).2 := h.PT_ (u64_num h.PT)
theorem iY_wf {q : Sf × Ms} (h : wfM q.2) : wfM (iY q).2 := h.Y_ _
theorem iC_wf {q : Sf × Ms} (h : wfM q.2) : wfM (iC q).2 := h.C_ (i64_int _ _)
theorem iM_wf {q : Sf × Ms} (h : wfM q.2) : wfM (iM q).2 := h.M_ (i64_int _ _)
theorem iL_wf {q : Sf × Ms} (h : wfM q.2) : wfM (iL q).2 := h.n_ (i64_int _ _)
theorem iN_wf {q : Sf × Ms} (h : wfM q.2) : wfM (iN q).2 := h.N_ (i64_int _ _)
theorem iS_wf {q : Sf × Ms} (h : wfM q.2) : wfM (iS q).2 := h.S_ (i64_st _ _)
theorem iLa_wf {q : Sf × Ms} (h : wfM q.2) : wfM (iLa q).2 := h.la_ (gdS_wf h.la)
theorem iTa_wf {q : Sf × Ms} (h : wfM q.2) : wfM (iTa q).2 := h.ta_ (gdS_wf h.ta)
theorem iK_wf {q : Sf × Ms} (h : wfM q.2) : wfM (iK q).2 := h.K_ (i64_int _ _)
theorem lineF_wf {q : Sf × Ms} (h : wfM q.2) : wfM (lineF q.1 q.2).2 := by
  have e : (lineF q.1 q.2).2 = p_l q.2 (lineF q.1 q.2).2.l := rfl
  rw [e]
  exact h.l_ ⟨u64_num h.E, i64_int _ _⟩
theorem entF_wf {q : Sf × Ms} (h : wfM q.2) : wfM (entF q.1 q.2).2 := by rw [entF_2]; exact h.es_ _
theorem decP_wf (s : ByteArray) : wfPr (decP 9 2 s) := by
  unfold decP
  split
  · exact read_wf 9 2 _ (by decide)
  · exact zero_wf
theorem partF_wf {q : Sf × Ms} (h : wfM q.2) : wfM (partF q.1 q.2).2 := by
  obtain ⟨⟨md, b⟩, m⟩ := q
  cases md with
  | lay s => exact h
  | rd r st => exact wfM.p_ (m := m) h (decP_wf _)
theorem askF_wf {q : Sf × Ms} (h : wfM q.2) : wfM (askF q.1 q.2).2 := iPT_wf (iP_wf (iT_wf (q := (q.1, q.2)) h))
theorem voteF_wf {q : Sf × Ms} (h : wfM q.2) : wfM (voteF q.1 q.2).2 := iY_wf (iT_wf (q := (q.1, q.2)) h)
theorem allF_wf {q : Sf × Ms} (h : wfM q.2) : wfM (allF q.1 q.2).2 := by
  unfold allF
  split; · exact askF_wf h
  split; · exact voteF_wf h
  split; · exact iS_wf (iC_wf (entF_wf (askF_wf h)))
  split; · exact iS_wf (iM_wf (voteF_wf h))
  split; · exact iN_wf (iTa_wf (iLa_wf (iL_wf (lineF_wf h))))
  split; · exact partF_wf (lineF_wf h)
  split; · exact lineF_wf h
  exact h
/-! ### reading, plainly -/
def zeroM : Ms := ⟨0, 0, 0, 0, [], 0, false, 0, 0, ⟨0, 0, false, []⟩, 0, (0, 0), (0, 0), 0, zeroP⟩
theorem zeroM_wf : wfM zeroM := ⟨rfl, rfl, rfl, rfl, rfl, rfl, rfl, rfl, rfl, rfl, ⟨rfl, rfl⟩, ⟨rfl, rfl⟩, rfl, zero_wf⟩
def rdF (r : Nat) (l : List UInt8) : Sf × Ms := allF (iK (⟨.rd r (some l), false⟩, zeroM)).1 (iK (⟨.rd r (some l), false⟩, zeroM)).2
theorem rdF_rn (r : Nat) (l : List UInt8) : rdF r l = rq r (rdF 0 l) := by
  unfold rdF
  have e : (⟨.rd r (some l), false⟩, zeroM) = rq r (⟨.rd 0 (some l), false⟩, zeroM) := rfl
  rw [e, iK_rn]
  generalize iK (⟨.rd 0 (some l), false⟩, zeroM) = X
  exact allF_rn r X.1 X.2
def Md.left : Md → Wire.St
  | .lay _ => none
  | .rd _ st => st
def sndM (q : Sf × Ms) : Ms := q.2
def okQ (q : Sf × Ms) : Bool := !q.1.bad && endB q.1.m.left
def readM (l : List UInt8) : Ms := sndM (rdF 0 l)
def readOk (l : List UInt8) : Bool := okQ (rdF 0 l)
theorem readM_of {l : List UInt8} {X : Sf × Ms} (h : rdF 0 l = X) : readM l = X.2 := by
  rw [← show sndM X = X.2 from rfl, ← h]
  rfl
theorem readOk_of {l : List UInt8} {X : Sf × Ms} (h : rdF 0 l = X) : readOk l = (!X.1.bad && endB X.1.m.left) := by
  rw [← show okQ X = (!X.1.bad && endB X.1.m.left) from rfl, ← h]
  rfl
theorem rdF_of {r : Nat} {l : List UInt8} {X : Sf × Ms} (h : iK (⟨.rd r (some l), false⟩, zeroM) = X) : rdF r l = allF X.1 X.2 := by
  rw [← h]
  rfl
theorem readM_wf (l : List UInt8) : wfM (readM l) := by
  have h : wfM (iK (⟨.rd 0 (some l), false⟩, zeroM)).2 := iK_wf (q := (⟨.rd 0 (some l), false⟩, zeroM)) zeroM_wf
  obtain ⟨X, hX⟩ : ∃ X, iK (⟨.rd 0 (some l), false⟩, zeroM) = X := ⟨_, rfl⟩
  rw [hX] at h
  rw [readM_of (rdF_of hX)]
  exact allF_wf h
end Go.Proofs.Ytikimmhkfjaijaa
