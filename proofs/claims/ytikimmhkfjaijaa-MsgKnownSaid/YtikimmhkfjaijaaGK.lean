/-
  MESSAGES: MsKa, MsKb, MsX, in one text (merged by wip/merge.py).
-/
import Derived.Test.YtikimmhkfjaijaaGE
import Derived.Great.FillDense
import Derived.Great.BuildSlice
namespace Go.Proofs.Ytikimmhkfjaijaa
open Go.RowKit Reg Go.ChangeShapes

def wfB (m : Ms) : Bool := (Lit.int .i64 m.K).wf && ((Lit.int .u64 m.T).wf && ((Lit.int .i64 m.P).wf && ((Lit.int .u64 m.PT).wf && ((Lit.int .i64 m.C).wf && ((Lit.int .i64 m.M).wf && ((Lit.int .i64 m.S).wf && ((Lit.int .u64 m.l.E).wf && ((Lit.int .i64 m.l.B).wf && ((Lit.int .i64 m.n).wf && ((Lit.int .i64 m.N).wf &&
  (((Lit.int .u64 m.la.1).wf && (Lit.int .u64 m.la.2).wf) && (((Lit.int .u64 m.ta.1).wf && (Lit.int .u64 m.ta.2).wf) && (((Lit.int .u64 m.p.b.1).wf && (Lit.int .u64 m.p.b.2).wf) && (((Lit.int .u64 m.p.t.1).wf && (Lit.int .u64 m.p.t.2).wf) && ((Lit.int .i64 m.p.f).wf && ((Lit.int .i64 m.p.a).wf &&
  ((m.es.all fun e => (Lit.int .u64 e.T).wf && ((Lit.int .i64 e.K).wf && ((Lit.int .u64 e.g.1).wf && (Lit.int .u64 e.g.2).wf))) && (m.l.l.all fun g => (Lit.int .u64 g.1).wf && (Lit.int .u64 g.2).wf))))))))))))))))))
theorem wfB_of {m : Ms} (h : wfB m = true) : wfM m ∧ (∀ e ∈ m.es, wfE e) ∧ ∀ g ∈ m.l.l, wfG g := by
  unfold wfB at h
  simp only [Bool.and_eq_true, List.all_eq_true] at h
  obtain ⟨h1, h2, h3, h4, h5, h6, h7, h8, h9, h10, h11, ⟨h12, h13⟩, ⟨h14, h15⟩, ⟨h16, h17⟩, ⟨h18, h19⟩, h20, h21, h22, h23⟩ := h
  exact ⟨⟨h1, h2, h3, h4, h5, h6, h7, h8, h9, h10, ⟨h12, h13⟩, ⟨h14, h15⟩, h11, ⟨⟨h16, h17⟩, ⟨h18, h19⟩, h20, h21⟩⟩, fun e he => ⟨(h22 e he).1, (h22 e he).2.1, (h22 e he).2.2⟩, fun g hg => h23 g hg⟩
def mokB (m : Ms) : Bool := wfB m && (mayM m && sameM (ownM m) m)
def mnoB (m : Ms) : Bool := wfB m && !(mayM m && sameM (ownM m) m)
def gm0 : Ms := ⟨1, 1, 0, 0, [], 0, false, 0, 0, ⟨0, 0, false, []⟩, 0, (0, 0), (0, 0), 0, zeroP⟩
def gm1 : Ms := ⟨1, 18446744073709551615, 300, 1, [], 0, false, 0, 0, ⟨0, 0, false, []⟩, 0, (0, 0), (0, 0), 0, zeroP⟩
def gm2 : Ms := ⟨2, 1, 0, 0, [], 0, true, 0, 0, ⟨0, 0, false, []⟩, 0, (0, 0), (0, 0), 0, zeroP⟩
def gm3 : Ms := ⟨2, 9, 0, 0, [], 0, false, 0, 0, ⟨0, 0, false, []⟩, 0, (0, 0), (0, 0), 0, zeroP⟩
def gm4 : Ms := ⟨3, 2, 1, 2, [⟨2, 1, (0, 0)⟩], 300, false, 0, 9223372036854775807, ⟨0, 0, false, []⟩, 0, (0, 0), (0, 0), 0, zeroP⟩
def gm5 : Ms := ⟨3, 1, 0, 0, [], 0, false, 0, 0, ⟨0, 0, false, []⟩, 0, (0, 0), (0, 0), 0, zeroP⟩
def gm6 : Ms := ⟨4, 1, 0, 0, [], 0, true, 300, 5, ⟨0, 0, false, []⟩, 0, (0, 0), (0, 0), 0, zeroP⟩
def gm7 : Ms := ⟨5, 0, 0, 0, [], 0, false, 0, 0, ⟨0, 0, false, []⟩, 0, (0, 0), (0, 0), 0, zeroP⟩
def gm8 : Ms := ⟨5, 0, 0, 0, [], 0, false, 0, 0, ⟨1, 1, true, [(1, 1)]⟩, 20, (1, 1), (1, 2), 8, zeroP⟩
def gm9 : Ms := ⟨5, 0, 0, 0, [], 0, false, 0, 0, ⟨0, 0, false, []⟩, 0, (0, 0), (1, 1), 1, zeroP⟩
def gm10 : Ms := ⟨6, 0, 0, 0, [], 0, false, 0, 0, ⟨1, 1, true, [(1, 1)]⟩, 0, (0, 0), (0, 0), 0, ⟨(0, 0), (1, 1), 0, 0, []⟩⟩
def gm11 : Ms := ⟨7, 0, 0, 0, [], 0, false, 0, 0, ⟨1, 1, true, [(1, 1)]⟩, 0, (0, 0), (0, 0), 0, zeroP⟩
def gm12 : Ms := ⟨7, 0, 0, 0, [], 0, false, 0, 0, ⟨0, 0, false, []⟩, 0, (0, 0), (0, 0), 0, zeroP⟩
def bm0 : Ms := ⟨0, 0, 0, 0, [], 0, false, 0, 0, ⟨0, 0, false, []⟩, 0, (0, 0), (0, 0), 0, zeroP⟩
def bm1 : Ms := ⟨8, 0, 0, 0, [], 0, false, 0, 0, ⟨0, 0, false, []⟩, 0, (0, 0), (0, 0), 0, zeroP⟩
def bm2 : Ms := ⟨(-1), 0, 0, 0, [], 0, false, 0, 0, ⟨0, 0, false, []⟩, 0, (0, 0), (0, 0), 0, zeroP⟩
def bm3 : Ms := ⟨1, 0, 0, 0, [], 0, false, 0, 0, ⟨0, 0, false, []⟩, 0, (0, 0), (0, 0), 0, zeroP⟩
def bm4 : Ms := ⟨1, 1, 1, 0, [], 0, false, 0, 0, ⟨0, 0, false, []⟩, 0, (0, 0), (0, 0), 0, zeroP⟩
def bm5 : Ms := ⟨1, 1, 0, 1, [], 0, false, 0, 0, ⟨0, 0, false, []⟩, 0, (0, 0), (0, 0), 0, zeroP⟩
def bm6 : Ms := ⟨1, 1, 301, 1, [], 0, false, 0, 0, ⟨0, 0, false, []⟩, 0, (0, 0), (0, 0), 0, zeroP⟩
def bm7 : Ms := ⟨1, 1, (-1), 1, [], 0, false, 0, 0, ⟨0, 0, false, []⟩, 0, (0, 0), (0, 0), 0, zeroP⟩
def bm8 : Ms := ⟨1, 1, 0, 0, [], 0, true, 0, 0, ⟨0, 0, false, []⟩, 0, (0, 0), (0, 0), 0, zeroP⟩
def bm9 : Ms := ⟨1, 1, 0, 0, [], 0, false, 0, 1, ⟨0, 0, false, []⟩, 0, (0, 0), (0, 0), 0, zeroP⟩
def bm10 : Ms := ⟨2, 1, 0, 0, [], 0, false, 1, 0, ⟨0, 0, false, []⟩, 0, (0, 0), (0, 0), 0, zeroP⟩
def bm11 : Ms := ⟨2, 1, 0, 0, [], 0, false, 0, 0, ⟨1, 1, true, [(1, 1)]⟩, 0, (0, 0), (0, 0), 0, zeroP⟩
def bm12 : Ms := ⟨3, 1, 0, 0, [⟨2, 1, (0, 0)⟩], 0, false, 0, 0, ⟨0, 0, false, []⟩, 0, (0, 0), (0, 0), 0, zeroP⟩
def bm13 : Ms := ⟨3, 3, 1, 3, [⟨2, 1, (0, 0)⟩], 0, false, 0, 0, ⟨0, 0, false, []⟩, 0, (0, 0), (0, 0), 0, zeroP⟩
def bm14 : Ms := ⟨3, 2, 300, 1, [⟨2, 1, (0, 0)⟩], 0, false, 0, 0, ⟨0, 0, false, []⟩, 0, (0, 0), (0, 0), 0, zeroP⟩
def bm15 : Ms := ⟨3, 2, 0, 0, (List.replicate 9 en0), 0, false, 0, 0, ⟨0, 0, false, []⟩, 0, (0, 0), (0, 0), 0, zeroP⟩
def bm16 : Ms := ⟨3, 2, 0, 0, [⟨2, 0, (0, 0)⟩], 0, false, 0, 0, ⟨0, 0, false, []⟩, 0, (0, 0), (0, 0), 0, zeroP⟩
def bm17 : Ms := ⟨3, 1, 0, 0, [], 0, false, 0, (-1), ⟨0, 0, false, []⟩, 0, (0, 0), (0, 0), 0, zeroP⟩
def bm18 : Ms := ⟨3, 1, 0, 0, [], 301, false, 0, 0, ⟨0, 0, false, []⟩, 0, (0, 0), (0, 0), 0, zeroP⟩
def bm19 : Ms := ⟨3, 1, 0, 0, [], 0, false, 1, 0, ⟨0, 0, false, []⟩, 0, (0, 0), (0, 0), 0, zeroP⟩
def bm20 : Ms := ⟨4, 1, 0, 0, [], 0, false, 301, 0, ⟨0, 0, false, []⟩, 0, (0, 0), (0, 0), 0, zeroP⟩
def bm21 : Ms := ⟨4, 1, 0, 0, [], 1, false, 0, 0, ⟨0, 0, false, []⟩, 0, (0, 0), (0, 0), 0, zeroP⟩
def bm22 : Ms := ⟨4, 1, 0, 0, [], 0, false, 0, (-1), ⟨0, 0, false, []⟩, 0, (0, 0), (0, 0), 0, zeroP⟩
def bm23 : Ms := ⟨5, 0, 0, 0, [], 0, false, 0, 0, ⟨0, 0, false, []⟩, 1, (0, 0), (0, 0), 0, zeroP⟩
def bm24 : Ms := ⟨5, 0, 0, 0, [], 0, false, 0, 0, ⟨0, 0, false, []⟩, 0, (1, 1), (0, 0), 0, zeroP⟩
def bm25 : Ms := ⟨5, 0, 0, 0, [], 0, false, 0, 0, ⟨0, 0, false, []⟩, 21, (1, 1), (0, 0), 0, zeroP⟩
def bm26 : Ms := ⟨5, 0, 0, 0, [], 0, false, 0, 0, ⟨0, 0, false, []⟩, (-1), (1, 1), (0, 0), 0, zeroP⟩
def bm27 : Ms := ⟨5, 0, 0, 0, [], 0, false, 0, 0, ⟨0, 0, false, []⟩, 0, (0, 0), (0, 0), 1, zeroP⟩
def bm28 : Ms := ⟨5, 0, 0, 0, [], 0, false, 0, 0, ⟨0, 0, false, []⟩, 0, (0, 0), (1, 1), 0, zeroP⟩
def bm29 : Ms := ⟨5, 0, 0, 0, [], 0, false, 0, 0, ⟨0, 0, false, []⟩, 0, (0, 0), (1, 1), 9, zeroP⟩
def bm30 : Ms := ⟨5, 0, 0, 0, [], 0, false, 0, 0, ⟨0, 0, false, []⟩, 1, (1, 1), (1, 1), 1, zeroP⟩
def bm31 : Ms := ⟨5, 0, 0, 0, [], 0, false, 0, 0, ⟨0, 1, false, []⟩, 0, (0, 0), (0, 0), 0, zeroP⟩
def bm32 : Ms := ⟨5, 1, 0, 0, [], 0, false, 0, 0, ⟨0, 0, false, []⟩, 0, (0, 0), (0, 0), 0, zeroP⟩
def bm33 : Ms := ⟨6, 0, 0, 0, [], 0, false, 0, 0, ⟨0, 0, false, []⟩, 0, (0, 0), (0, 0), 0, zeroP⟩
def bm34 : Ms := ⟨6, 0, 0, 0, [], 0, false, 0, 0, ⟨0, 0, false, []⟩, 0, (0, 0), (0, 0), 0, ⟨(0, 0), (1, 1), 0, 1, []⟩⟩
def bm35 : Ms := ⟨6, 0, 0, 0, [], 0, false, 0, 0, ⟨0, 0, false, []⟩, 1, (1, 1), (0, 0), 0, ⟨(0, 0), (1, 1), 0, 0, []⟩⟩
def bm36 : Ms := ⟨7, 0, 0, 0, [], 0, false, 0, 0, ⟨0, 0, false, []⟩, 0, (0, 0), (0, 0), 0, ⟨(0, 0), (1, 1), 0, 0, []⟩⟩
def bm37 : Ms := ⟨7, 0, 0, 0, [], 0, false, 0, 0, ⟨0, 0, false, [(1, 1)]⟩, 0, (0, 0), (0, 0), 0, zeroP⟩
def bm38 : Ms := ⟨7, 0, 0, 0, [], 0, false, 0, 0, ⟨0, 0, false, []⟩, 0, (0, 0), (0, 0), 1, zeroP⟩
def goodMs : List Ms := [gm0, gm1, gm2, gm3, gm4, gm5, gm6, gm7, gm8, gm9, gm10, gm11, gm12]
def badMs : List Ms := [bm0, bm1, bm2, bm3, bm4, bm5, bm6, bm7, bm8, bm9, bm10, bm11, bm12, bm13, bm14, bm15, bm16, bm17, bm18, bm19, bm20, bm21, bm22, bm23, bm24, bm25, bm26, bm27, bm28, bm29, bm30, bm31, bm32, bm33, bm34, bm35, bm36, bm37, bm38]
theorem good_all : (goodMs.all mokB) = true := by decide +kernel
theorem bad_all : (badMs.all mnoB) = true := by decide +kernel
theorem ok_facts {m : Ms} (h : mokB m = true) : MsOk m ∧ checkM m = 0 ∧ decM (encM m) = m ∧ decZ (encM m) = 0 := by
  unfold mokB at h
  rw [Bool.and_eq_true, Bool.and_eq_true, sameM_iff] at h
  obtain ⟨h1, h2, h3⟩ := h
  obtain ⟨w1, w2, w3⟩ := wfB_of h1
  have hm : MsOk m := ⟨h2, w1, w2, w3⟩
  have hc := (checkB_ok hm).2 h3
  obtain ⟨g1, g2, -⟩ := enc_dec hm hc
  exact ⟨hm, by unfold checkM; rw [if_pos hc], g2, by unfold decZ; rw [if_pos g1]⟩
theorem dec_none : decM ByteArray.empty = zeroM ∧ decZ ByteArray.empty = 4 := by
  have h : decOkM ByteArray.empty = false := by decide +kernel
  unfold decM decZ
  rw [h]
  exact ⟨rfl, rfl⟩
theorem no_facts {m : Ms} (h : mnoB m = true) : wfM m ∧ checkM m = 2 ∧ encM m = ByteArray.empty := by
  unfold mnoB at h
  rw [Bool.and_eq_true, Bool.not_eq_true'] at h
  obtain ⟨h1, h2⟩ := h
  obtain ⟨w1, w2, w3⟩ := wfB_of h1
  have hc : checkB m = false := by
    cases hq : checkB m with
    | false => rfl
    | true =>
      exfalso
      have hmay := checkB_may hq
      have hm : MsOk m := ⟨hmay, w1, w2, w3⟩
      rw [hmay, Bool.true_and, sameM_iff.2 ((checkB_ok hm).1 hq)] at h2
      cases h2
  refine ⟨w1, ?_, ?_⟩
  · unfold checkM; rw [hc]; rfl
  · unfold encM; rw [hc]; rfl
/-! ### raw texts -/
def raw0 : List UInt8 := []
def raw1 : List UInt8 := [0]
def raw2 : List UInt8 := [1, 2, 1, 1, 1, 2]
def raw3 : List UInt8 := [1, 2, 1, 1, 1, 1, 0]
def raw4 : List UInt8 := [1, 7, 0, 0, 1, 2, 0]
def raw5 : List UInt8 := [1, 7, 0, 0, 0]
def raw6 : List UInt8 := [1, 6, 0, 0, 0, 0, 0]
def raw7 : List UInt8 := [1, 3, 1, 1, 0, 0, 0, 0, 8, 255, 255, 255, 255, 255, 255, 255, 255]
def raw8 : List UInt8 := [4, 1, 0, 0, 2, 1, 1, 1, 1]
def raws : List (List UInt8) := [raw0, raw1, raw2, raw3, raw4, raw5, raw6, raw7, raw8]
theorem raw_all : (raws.all fun l => !(readOk l && checkB (readM l)) && !Crc.opens l) = true := by decide +kernel
theorem raw_facts {l : List UInt8} (h : (!(readOk l && checkB (readM l)) && !Crc.opens l) = true) : decZ (strOf (Crc.sealed l)) = 4 ∧ decZ (strOf l) = 4 := by
  rw [Bool.and_eq_true, Bool.not_eq_true', Bool.not_eq_true'] at h
  obtain ⟨h1, h2⟩ := h
  constructor
  · unfold decZ
    rw [decOk_sealed, h1, if_neg (by decide)]
  · unfold decZ decOkM
    rw [strOf_list, h2, Bool.false_and, if_neg (by decide)]
/-! ### unlike ones -/
theorem same_facts : sameM gm8 (p_N gm8 7) = false ∧ sameM gm8 (p_la gm8 (1, 9)) = false ∧ sameM gm4 gm5 = false ∧ sameM gm10 gm11 = false ∧ sameM zeroM zeroM = true := by decide +kernel
end Go.Proofs.Ytikimmhkfjaijaa
namespace Go.Proofs.Ytikimmhkfjaijaa
open Go.RowKit Reg Go.ChangeShapes

/-- the k-th row of block g is the message m -/
def RowM (w : World) (g k : Nat) (m : Ms) : Prop := ∃ ua : Array Value, ua.size = 26 ∧ w.rangeAt g (k * 26) ua.toList ∧ InMs w (.agg ua) m
theorem RowM.keep {w w' : World} {g k : Nat} {m : Ms} (h : RowM w g k m) (hb : Below w.heap.size w w') : RowM w' g k m := by
  obtain ⟨ua, h1, h2, h3⟩ := h
  exact ⟨ua, h1, fun j u hj => cell_later hb (h2 j u hj), h3.keep hb⟩
def AllMs (w : World) : List Value → List Ms → Prop
  | [], [] => True
  | u :: us, m :: ms => InMs w u m ∧ AllMs w us ms
  | _, _ => False
theorem AllMs.at_ {w : World} : ∀ {us : List Value} {ms : List Ms}, AllMs w us ms → ∀ (k : Nat) (m : Ms), ms[k]? = some m → ∃ ua : Array Value, us[k]? = some (Value.agg ua) ∧ ua.size = 26 ∧ InMs w (.agg ua) m
  | [], [], _, k, m, hk => by simp at hk
  | u :: us, m0 :: ms, h, 0, m, hk => by
    obtain rfl : m0 = m := by simpa using hk
    obtain ⟨se, sl, sc, rfl, h1⟩ := h.1
    exact ⟨_, rfl, rfl, ⟨se, sl, sc, rfl, h1⟩⟩
  | u :: us, m0 :: ms, h, k + 1, m, hk => by
    obtain ⟨ua, h1, h2⟩ := AllMs.at_ h.2 k m (by simpa using hk)
    exact ⟨ua, by simpa using h1, h2⟩
  | [], _ :: _, h, _, _, _ => h.elim
  | _ :: _, [], h, _, _, _ => h.elim
theorem AllMs.sizes {w : World} : ∀ {us : List Value} {ms : List Ms}, AllMs w us ms → ∀ v ∈ us, v.cells.size = 26
  | [], [], _, v, hv => by cases hv
  | u :: us, m :: ms, h, v, hv => by
    rcases List.mem_cons.1 hv with rfl | hv
    · obtain ⟨se, sl, sc, rfl, -⟩ := h.1
      rfl
    · exact AllMs.sizes h.2 v hv
  | [], _ :: _, h, _, _ => h.elim
  | _ :: _, [], h, _, _ => h.elim
theorem msg_info : (Try.prog.info? 33).map (fun i => (i.zero, i.size)) = some (some (.agg #[.int .i64 0, .int .u64 0, .int .i64 0, .int .u64 0, .slice none 0 0, .int .i64 0, .bool false, .int .i64 0, .int .i64 0, .int .u64 0, .int .i64 0, .bool false, .slice none 0 0, .int .i64 0, .int .u64 0, .int .u64 0, .int .u64 0, .int .u64 0, .int .i64 0, .int .u64 0, .int .u64 0, .int .u64 0, .int .u64 0, .int .i64 0, .int .i64 0, .slice none 0 0]), 26) := by kernel_rfl
/-- a literal of messages -/
theorem rows_lit (w : World) (us : List Value) (ms : List Ms) (n : Nat) (hn : us.length = n) (hp : 0 < n) (hs : n ≤ 1000) (hall : AllMs w us ms) :
    ∃ cells, (Instr.buildSlice 52 n ((us.zipIdx 0).map fun x => (x.2, x.1)).toArray).run Try.prog w = .ok (.slice (some ⟨w.heap.size, 0, none⟩) n n) (w.alloc (.cells cells 33)) ∧
      ∀ (k : Nat) (m : Ms), ms[k]? = some m → RowM (w.alloc (.cells cells 33)) w.heap.size k m := by
  obtain ⟨ie, hie, hz0, hz1⟩ : ∃ ie, Try.prog.info? 33 = some ie ∧ ie.zero = some (.agg #[.int .i64 0, .int .u64 0, .int .i64 0, .int .u64 0, .slice none 0 0, .int .i64 0, .bool false, .int .i64 0, .int .i64 0, .int .u64 0, .int .i64 0, .bool false, .slice none 0 0, .int .i64 0, .int .u64 0, .int .u64 0, .int .u64 0, .int .u64 0, .int .i64 0, .int .u64 0, .int .u64 0, .int .u64 0, .int .u64 0, .int .i64 0, .int .i64 0, .slice none 0 0]) ∧ ie.size = 26 := by
    have h := msg_info
    cases hq : Try.prog.info? 33 with
    | none => rw [hq] at h; cases h
    | some ie =>
      rw [hq] at h
      simp only [Option.map_some, Option.some.injEq, Prod.mk.injEq] at h
      exact ⟨ie, rfl, h.1, h.2⟩
  obtain ⟨r, hr, hsz, hk⟩ := Great.fill_dense (s := 26) (by decide) us 0 ((Array.range (n * ie.size)).map ((Value.agg #[.int .i64 0, .int .u64 0, .int .i64 0, .int .u64 0, .slice none 0 0, .int .i64 0, .bool false, .int .i64 0, .int .i64 0, .int .u64 0, .int .i64 0, .bool false, .slice none 0 0, .int .i64 0, .int .u64 0, .int .u64 0, .int .u64 0, .int .u64 0, .int .i64 0, .int .u64 0, .int .u64 0, .int .u64 0, .int .u64 0, .int .i64 0, .int .i64 0, .slice none 0 0]).cells[· % (Value.agg #[.int .i64 0, .int .u64 0, .int .i64 0, .int .u64 0, .slice none 0 0, .int .i64 0, .bool false, .int .i64 0, .int .i64 0, .int .u64 0, .int .i64 0, .bool false, .slice none 0 0, .int .i64 0, .int .u64 0, .int .u64 0, .int .u64 0, .int .u64 0, .int .i64 0, .int .u64 0, .int .u64 0, .int .u64 0, .int .u64 0, .int .i64 0, .int .i64 0, .slice none 0 0]).cells.size]!))
    (fun v hv => hall.sizes v hv) (by rw [Array.size_map, Array.size_range, hz1, hn, Nat.zero_add]; exact Nat.le_refl _)
  refine ⟨r, run_buildSlice w 52 33 n _ r ie _ Try.underlying52 hie hz0 (by rw [hz1]; omega) (by rw [hz1]; omega) (by rw [hz1] at hr ⊢; exact hr), fun k m hm => ?_⟩
  obtain ⟨ua, h1, h2, h3⟩ := hall.at_ k m hm
  have hlt : k < us.length := by
    rcases Nat.lt_or_ge k us.length with q | q
    · exact q
    · rw [List.getElem?_eq_none q] at h1; cases h1
  have hblk : Blk (w.alloc (.cells r 33)) w.heap.size 33 r := Blk.new _ _ _
  refine ⟨ua, h2, fun j u hj => ?_, h3.keep ((Below.refl _ _).alloc (Nat.le_refl _) _)⟩
  have hj26 : j < 26 := by
    rcases Nat.lt_or_ge j ua.toList.length with q | q
    · rw [Array.length_toList, h2] at q; exact q
    · rw [List.getElem?_eq_none q] at hj; cases hj
  rw [hblk.cell, hk (k * 26 + j), if_pos ⟨by omega, by omega⟩]
  have e1 : (k * 26 + j) / 26 - 0 = k := by omega
  have e2 : (k * 26 + j) % 26 = j := by omega
  rw [e1, e2, h1]
  show ua[j]? = some u
  rw [← hj, Array.getElem?_toList]
/-- a literal of one entry; a row of zero entries -/
theorem ine_lit (w : World) (e : En) (cs : Array Value) (hc : cs = (enL e).toArray) (he : wfE e) : InE (w.alloc (.cells cs 50)) (.slice (some ⟨w.heap.size, 0, none⟩) 1 1) [e] := by
  subst hc
  have hb := Blk.new w 50 (enL e).toArray
  refine ⟨_, _, rfl, .inr (Nat.le_refl _), by unfold maxLen; simp, fun x hx => by rw [List.mem_singleton.1 hx]; exact he, fun j hj => ⟨w.heap.size, 0, rfl, fun i hi => ?_, hb.frozen _⟩⟩
  obtain rfl : j = 0 := by simpa using hj
  rw [hb.cell]
  simp
theorem ine_zero (w : World) (n : Nat) (cs : Array Value) (hc : cs = ((List.range n).flatMap fun _ => enL en0).toArray) (hn : n ≤ 1000) : InE (w.alloc (.cells cs 50)) (.slice (some ⟨w.heap.size, 0, none⟩) n n) (List.replicate n en0) := by
  subst hc
  have hb := Blk.new w 50 ((List.range n).flatMap fun _ => enL en0).toArray
  have hl : (List.replicate n en0).length = n := List.length_replicate
  rw [show InE (w.alloc (.cells ((List.range n).flatMap fun _ => enL en0).toArray 50)) (.slice (some ⟨w.heap.size, 0, none⟩) n n) (List.replicate n en0) = InE (w.alloc (.cells ((List.range n).flatMap fun _ => enL en0).toArray 50)) (.slice (some ⟨w.heap.size, 0, none⟩) (List.replicate n en0).length n) (List.replicate n en0) from by rw [hl]]
  refine ⟨_, _, rfl, .inr (by rw [hl]; exact Nat.le_refl _), by rw [hl]; unfold maxLen; omega, fun x hx => by rw [(List.mem_replicate.1 hx).2]; exact ⟨rfl, rfl, rfl, rfl⟩, fun j hj => ⟨w.heap.size, 0, rfl, fun i hi => ?_, hb.frozen _⟩⟩
  rw [hl] at hj
  have hlen : ∀ m, ((List.range m).flatMap fun _ => enL en0).length = m * 4 := by
    intro m
    induction m with
    | zero => rfl
    | succ m ih =>
      rw [List.range_succ, List.flatMap_append, List.length_append, ih]
      simp [enL]
      omega
  have key : ∀ m j, j < m → ((List.range m).flatMap fun _ => enL en0)[j * 4 + i]? = (enL en0)[i]? := by
    intro m
    induction m with
    | zero => intro j hj; omega
    | succ m ih =>
      intro j hj
      have hlen := hlen m
      rw [List.range_succ, List.flatMap_append]
      by_cases q : j < m
      · rw [List.getElem?_append_left (by omega), ih j q]
      · obtain rfl : j = m := by omega
        rw [List.getElem?_append_right (by omega), hlen, show j * 4 + i - j * 4 = i from by omega]
        simp
  rw [hb.cell, List.getElem?_toArray, Nat.zero_add, key n j hj, List.getD_eq_getElem?_getD, List.getElem?_replicate, if_pos hj]
  rfl
/-! ### what the special operations of a region give -/
inductive FM where
  | none_
  | e (es : List En)
  | g (gs : List Gd)
  | r (ms : List Ms)
def FM.ok : FM → World → Value → Prop
  | .none_, _, _ => True
  | .e es, w, u => InE w u es
  | .g gs, w, u => InG w u gs
  | .r ms, w, u => ∃ g n, u = .slice (some ⟨g, 0, none⟩) n n ∧ ∀ (k : Nat) (m : Ms), ms[k]? = some m → RowM w g k m
def FMof (l : List (Nat × FM)) (s : Nat) (w : World) (u : Value) : Prop := ((l.lookup s).getD .none_).ok w u
theorem FM.stable (l : List (Nat × FM)) : Stable (FMof l) := by
  intro s w w' u h hb
  unfold FMof at h ⊢
  generalize (l.lookup s).getD .none_ = f at *
  cases f with
  | none_ => trivial
  | e es => exact InE.keep h hb
  | g gs => exact InG.keep h hb
  | r ms =>
    obtain ⟨g, n, h1, h2⟩ := h
    exact ⟨g, n, h1, fun k m hm => (h2 k m hm).keep hb⟩
section
variable {ops : Array Oper} {md : Region.Mode} {i s m : Nat}
theorem dq_at (n : Nat) (h : directB ops md i s = true) : depB ops md (n + 1) i s = true := by
  unfold directB at h
  cases ho : ops[i]? with
  | none => rw [ho] at h; cases h
  | some o =>
    rw [ho] at h
    simp only [Array.any_eq_true, Bool.and_eq_true] at h
    obtain ⟨k, hk, hb, he⟩ := h
    simp only [depB, ho, Array.any_eq_true, Bool.and_eq_true, Bool.or_eq_true]
    exact ⟨k, hk, hb, .inl he⟩
theorem dq_step (n : Nat) (h1 : directB ops md i m = true) (h3 : depB ops md (n + 1) m s = true) : depB ops md (n + 2) i s = true := by
  unfold directB at h1
  cases ho : ops[i]? with
  | none => rw [ho] at h1; cases h1
  | some o =>
    rw [ho] at h1
    simp only [Array.any_eq_true, Bool.and_eq_true] at h1
    obtain ⟨k, hk, hb, he⟩ := h1
    rw [depB, ho]
    simp only [Array.any_eq_true, Bool.and_eq_true, Bool.or_eq_true]
    refine ⟨k, hk, hb, .inr ?_⟩
    have : o.after[k].on = m := by simpa using he
    rw [this]
    exact h3
theorem gq2 {σ : Nat → Option Value} {ν : Nat → Value} {sp : Nat → Bool} (hA : Agree σ ν) (hD : Deps ops md sp i σ) (s m : Nat) (hs : sp s = true) (h1 : directB ops md i m = true) (h2 : directB ops md m s = true) (hz : 2 ≤ ops.size) : σ s = some (ν s) := by
  obtain ⟨n, hn⟩ : ∃ n, ops.size = n + 2 := ⟨ops.size - 2, by omega⟩
  exact got hA hD s hs (by rw [hn]; exact dq_step n h1 (dq_at n h2))
theorem gq3 {σ : Nat → Option Value} {ν : Nat → Value} {sp : Nat → Bool} (hA : Agree σ ν) (hD : Deps ops md sp i σ) (s m m2 : Nat) (hs : sp s = true) (h1 : directB ops md i m = true) (h2 : directB ops md m m2 = true) (h3 : directB ops md m2 s = true) (hz : 3 ≤ ops.size) : σ s = some (ν s) := by
  obtain ⟨n, hn⟩ : ∃ n, ops.size = n + 3 := ⟨ops.size - 3, by omega⟩
  exact got hA hD s hs (by rw [hn]; exact dq_step (n + 1) h1 (dq_step n h2 (dq_at n h3)))
end
end Go.Proofs.Ytikimmhkfjaijaa
namespace Go.Proofs.Ytikimmhkfjaijaa
open Go.RowKit Reg Go.ChangeShapes

theorem InMs.ok {w : World} {v : Value} {m : Ms} (h : InMs w v m) (hm : mayM m = true) : MsOk m := by
  obtain ⟨se, sl, sc, -, ⟨-, -, -, -, -, h1, -⟩, ⟨-, -, h2⟩, -, h3⟩ := h
  exact ⟨hm, h3, h1, h2⟩
theorem nB_le (x : Int) : (nB x).length ≤ 9 := putNum_le _
theorem gdB_le (g : Gd) : (gdB g).length ≤ 18 := by
  have h1 := nB_le g.1
  have h2 := nB_le g.2
  unfold gdB
  rw [List.length_append]
  omega
theorem enB_le (e : En) : (enB e).length ≤ 36 := by
  have h1 := nB_le e.T
  have h2 := nB_le e.K
  have h3 := gdB_le e.g
  unfold enB
  simp only [List.length_append]
  omega
theorem flat_le {α : Type} (f : α → List UInt8) (b : Nat) (h : ∀ x, (f x).length ≤ b) : ∀ l : List α, (l.flatMap f).length ≤ b * l.length
  | [] => by simp
  | x :: l => by
    have h1 := flat_le f b h l
    have h2 := h x
    rw [List.flatMap_cons, List.length_append, List.length_cons, Nat.mul_succ]
    omega
theorem lineB_le (l : Ln) : (lineB l).length ≤ 36 + 18 * l.l.length := by
  have h1 := nB_le l.E
  have h2 := nB_le l.B
  have h3 := putNum_le (b01 l.L)
  have h4 := nB_le (l.l.length : Nat)
  have h5 := flat_le gdB 18 gdB_le l.l
  unfold lineB
  simp only [List.length_append]
  omega
theorem bytes_le {m : Ms} (hm : MsOk m) : (bytesM m).length ≤ 8000 := by
  have hK := mayM_K hm.may
  have k0 := nB_le m.K
  have hb : (bodyB m).length ≤ 7000 := by
    have kT := nB_le m.T
    have kP := nB_le m.P
    have kPT := nB_le m.PT
    have kY := putNum_le (b01 m.Y)
    have kC := nB_le m.C
    have kS := nB_le m.S
    have kM := nB_le m.M
    have kn := nB_le m.n
    have kN := nB_le m.N
    have kla := gdB_le m.la
    have kta := gdB_le m.ta
    have kl := lineB_le m.l
    have kle := nB_le (m.es.length : Nat)
    have kes := flat_le enB 36 enB_le m.es
    have kp : (partB m.p).length ≤ 200 := by
      have h1 := encS_le m.p
      have h2 : (encS m.p).data.toList.length = (encS m.p).size := Array.length_toList
      have h3 := putNum_le (encS m.p).data.toList.length
      unfold partB Wire.putText
      rw [List.length_append]
      omega
    have hA : m.K ≤ 4 → m.es.length ≤ 8 := fun h => (mayM_a hm.may h).len
    have hL : 4 < m.K → m.l.l.length ≤ 20 := fun h => (checkL_ok (mayM_l hm.may h)).1
    unfold bodyB askB voteB appsB appdB pullL partL entsB askB voteB
    by_cases h1 : m.K = 1
    · rw [if_pos h1]; simp only [List.length_append]; omega
    by_cases h2 : m.K = 2
    · rw [if_neg h1, if_pos h2]; simp only [List.length_append]; omega
    by_cases h3 : m.K = 3
    · have := hA (by omega)
      rw [if_neg h1, if_neg h2, if_pos h3]; simp only [List.length_append]; omega
    by_cases h4 : m.K = 4
    · rw [if_neg h1, if_neg h2, if_neg h3, if_pos h4]; simp only [List.length_append]; omega
    have := hL (by omega)
    by_cases h5 : m.K = 5
    · rw [if_neg h1, if_neg h2, if_neg h3, if_neg h4, if_pos h5]; simp only [List.length_append]; omega
    by_cases h6 : m.K = 6
    · rw [if_neg h1, if_neg h2, if_neg h3, if_neg h4, if_neg h5, if_pos h6]; simp only [List.length_append]; omega
    · rw [if_neg h1, if_neg h2, if_neg h3, if_neg h4, if_neg h5, if_neg h6]; omega
  unfold bytesM
  rw [List.length_append]
  omega
theorem enc_size {m : Ms} (hm : MsOk m) (h : checkB m = true) : (encM m).size = (bytesM m).length + 4 := by
  rw [(enc_dec hm h).2.2, size_strOf, Crc.length_sealed]
set_option maxRecDepth 100000 in
set_option maxHeartbeats 8000000 in
theorem law_MsgBack (v : Value) (m : Ms) (s : ByteArray) (w : World) (hv : InMs w v m) (_ : True) (hs : s.size ≤ reachBytes) : Calls Try.prog 3 #[v, .string s] w fun e w' => e = .returned (.bool true) ∧ Below w.heap.size w w' := by
  have HENC := Lib.hid (fun w2 (h : Below w.heap.size w w2) => mencode_any w2 v m (hv.keep h))
  have HCHK := Lib.hid (fun w2 (h : Below w.heap.size w w2) => mcheck_any w2 v m (hv.keep h))
  have HSAME := Lib.hid (fun w2 (h : Below w.heap.size w w2) (u : Value) (h2 : InMs w2 u m) => msame_any w2 v u m m (hv.keep h) h2)
  have hself : sameM m m = true := sameM_iff.2 rfl
  rw [hself] at HSAME
  have hszero : sameM zeroM zeroM = true := sameM_iff.2 rfl
  have HSZ0 := Lib.hid (fun w2 (u : Value) (h2 : InMs w2 u zeroM) => msame_any w2 u (.agg (msV zeroM)) zeroM zeroM h2 (lit_in w2 rfl rfl rfl zeroM_wf))
  rw [hszero] at HSZ0
  have HDS := Lib.hid (fun w2 => mdecode_any w2 s (Nat.le_trans hs (by decide)))
  have HW := Lib.hid works_any
  have hok := fun hm => hv.ok hm
  obtain ⟨ma, a1, a2, a3, c1, c2, c3, rfl, hone, hsz, hma, -, -, -, -⟩ := ms_cells hv
  have HMA := Lib.hid (Blk.new w 33 ma)
  have HB := Lib.hid ((Below.refl w.heap.size w).alloc (Nat.le_refl _) (Obj.cells ma 33))
  have HSZ := Lib.hid hsz
  unfold DecM at HDS
  -- what Decode says of s
  have HS2 : Hid ((∃ X, decM s = X ∧ decZ s = 0 ∧ encM X = s ∧ checkM X = 0) ∨ (decM s = zeroM ∧ decZ s = 4)) := Lib.hid (by
    cases h : decOkM s with
    | true =>
      obtain ⟨g1, g2, g3⟩ := dec_enc2 h
      exact .inl ⟨_, rfl, by unfold decZ; rw [if_pos h], g3, by unfold checkM; rw [if_pos g2]⟩
    | false => exact .inr ⟨by unfold decM; rw [if_neg (by rw [h]; decide)], by unfold decZ; rw [if_neg (by rw [h]; decide)]⟩)
  have HM2 : Hid ((∃ E, encM m = E ∧ checkM m = 0 ∧ decM E = m ∧ decZ E = 0 ∧ E.size ≤ 8192) ∨ (encM m = ByteArray.empty ∧ checkM m = 2)) := Lib.hid (by
    cases h : checkB m with
    | true =>
      have hmo := hok (checkB_may h)
      obtain ⟨g1, g2, g3⟩ := enc_dec hmo h
      exact .inl ⟨_, rfl, by unfold checkM; rw [if_pos h], g2, by unfold decZ; rw [if_pos g1], by rw [enc_size hmo h]; have := bytes_le hmo; omega⟩
    | false => exact .inr ⟨by unfold encM; rw [if_neg (by rw [h]; decide)], by unfold checkM; rw [if_neg (by rw [h]; decide)]⟩)
  have hss : (s.toList == s.toList) = true := by simp
  clear hv hs hok hone hsz hma hself hszero
  go_enter Try.func3, Try.ntmps3
  go_wp2_with fail
  refine (HW.out _).mono ?_
  rintro e w1 ⟨rfl, hb⟩
  replace HMA := Lib.hid (HMA.out.keep hb)
  replace HB := Lib.hid (HB.out.trans (hb.mono HB.out.size))
  clear hb
  go_wp2_with (first | refine wpList_wanted_run (by rfl) (.agg ma) (exec_load_blk 33 _ rfl w.heap.size rfl _ HMA.out Try.underlying33 rfl HSZ.out) ?_)
  refine (HENC.out _ HB.out).mono ?_
  rintro e w2 ⟨rfl, hb⟩
  replace HMA := Lib.hid (HMA.out.keep hb)
  replace HB := Lib.hid (HB.out.trans (hb.mono HB.out.size))
  clear hb HENC
  rcases HM2.out with ⟨E, e1, e2, e3, e4, e5⟩ | ⟨e1, e2⟩
  · have HDE := Lib.hid (fun w2 => mdecode_any w2 E (Nat.le_trans e5 (by decide)))
    unfold DecM at HDE
    rw [e3, e4] at HDE
    rw [e1, e2]
    have i5 : ¬ (8192 : Int) < (E.size : Int) := by omega
    clear e1 e2 e3 e4 e5 HM2
    go_wp2_with fail
    refine (HDE.out _).mono ?_
    rintro e w3 ⟨u, rfl, hu, hb⟩
    obtain ⟨ua, b1, b2, b3, d1, d2, d3, rfl, uone, usz, uma, -, -, -, -⟩ := ms_cells hu
    have UONE := Lib.hid uone
    have USZ := Lib.hid usz
    have USZ2 : Hid (zeroA.size = ua.size) := Lib.hid (by rw [uma]; rfl)
    replace HB := Lib.hid (HB.out.trans (hb.mono HB.out.size))
    replace HMA := Lib.hid (HMA.out.keep hb)
    have HU := Lib.hid hu
    clear hb hu uone usz uma
    have HZ := Lib.hid (Blk.new w3 33 zeroA)
    go_wp2_with (first | refine wpList_store_then rfl 33 _ _ rfl w3.heap.size ua rfl rfl 33 _ HZ.out USZ.out USZ2.out UONE.out ?_)
    refine Later.mk fun w4 hw4 => ?_
    have hal : Below w3.heap.size w3 w4 := by
      rw [hw4]
      exact Below.setRow ((Below.refl w3.heap.size w3).alloc (Nat.le_refl _) (Obj.cells zeroA 33)) (Nat.le_refl _) _
    have HUA : Hid (Blk w4 w3.heap.size 33 ua) := Lib.hid (by rw [hw4]; exact HZ.out.row _)
    replace HU := Lib.hid (HU.out.keep hal)
    replace HB := Lib.hid (HB.out.trans (hal.mono HB.out.size))
    replace HMA := Lib.hid (HMA.out.keep hal)
    clear hal hw4 HZ
    go_wp2_with (first | refine wpList_wanted_run (by rfl) (.agg ua) (exec_load_blk 33 _ rfl w3.heap.size rfl _ HUA.out Try.underlying33 rfl USZ.out) ?_ | refine wpList_wanted_run (by rfl) (.agg ma) (exec_load_blk 33 _ rfl w.heap.size rfl _ HMA.out Try.underlying33 rfl HSZ.out) ?_)
    refine (HSAME.out _ HB.out _ HU.out).mono ?_
    rintro e w5 ⟨rfl, hb⟩
    replace HB := Lib.hid (HB.out.trans (hb.mono HB.out.size))
    clear hb HMA HUA HU HSAME HDE
    go_wp2_with fail
    refine (HDS.out _).mono ?_
    rintro e w6 ⟨y, rfl, hy, hb⟩
    obtain ⟨ya, b1, b2, b3, d1, d2, d3, rfl, uone, usz, uma, -, -, -, -⟩ := ms_cells hy
    have YONE := Lib.hid uone
    have YSZ := Lib.hid usz
    have YSZ2 : Hid (zeroA.size = ya.size) := Lib.hid (by rw [uma]; rfl)
    replace HB := Lib.hid (HB.out.trans (hb.mono HB.out.size))
    have HY := Lib.hid hy
    clear hb hy uone usz uma
    have HZ := Lib.hid (Blk.new w6 33 zeroA)
    go_wp2_with (first | refine wpList_store_then rfl 33 _ _ rfl w6.heap.size ya rfl rfl 33 _ HZ.out YSZ.out YSZ2.out YONE.out ?_)
    refine Later.mk fun w7 hw4 => ?_
    have hal : Below w6.heap.size w6 w7 := by
      rw [hw4]
      exact Below.setRow ((Below.refl w6.heap.size w6).alloc (Nat.le_refl _) (Obj.cells zeroA 33)) (Nat.le_refl _) _
    have HYA : Hid (Blk w7 w6.heap.size 33 ya) := Lib.hid (by rw [hw4]; exact HZ.out.row _)
    replace HY := Lib.hid (HY.out.keep hal)
    replace HB := Lib.hid (HB.out.trans (hal.mono HB.out.size))
    clear hal hw4 HZ
    rcases HS2.out with ⟨X, e1, e2, e3, e4⟩ | ⟨e1, e2⟩
    · rw [e1] at HY
      have HEY := Lib.hid (fun w8 (h : InMs w8 (.agg ya) X) => mencode_any w8 (.agg ya) X h)
      rw [e3, e4] at HEY
      rw [e2]
      clear e1 e2 e3 e4 HS2
      go_wp2_with (first | refine wpList_wanted_run (by rfl) (.agg ya) (exec_load_blk 33 _ rfl w6.heap.size rfl _ HYA.out Try.underlying33 rfl YSZ.out) ?_)
      refine (HEY.out _ HY.out).mono ?_
      rintro e w8 ⟨rfl, hb⟩
      replace HB := Lib.hid (HB.out.trans (hb.mono HB.out.size))
      clear hb HY HYA
      go_wp2
      go_ret
      exact ⟨rfl, HB.out⟩
    · rw [e1] at HY
      rw [e2]
      clear e1 e2 HS2
      go_wp2_with (first | refine wpList_wanted_run (by rfl) (.agg ya) (exec_load_blk 33 _ rfl w6.heap.size rfl _ HYA.out Try.underlying33 rfl YSZ.out) ?_)
      refine (HSZ0.out _ _ HY.out).mono ?_
      rintro e w8 ⟨rfl, hb⟩
      replace HB := Lib.hid (HB.out.trans (hb.mono HB.out.size))
      clear hb HY HYA
      go_wp2
      go_ret
      exact ⟨rfl, HB.out⟩
  · rw [e1, e2]
    have e2' := e2
    rw [e2] at HCHK
    clear e1 e2 e2' HM2
    go_wp2_with (first | refine wpList_wanted_run (by rfl) (.agg ma) (exec_load_blk 33 _ rfl w.heap.size rfl _ HMA.out Try.underlying33 rfl HSZ.out) ?_)
    refine (HCHK.out _ HB.out).mono ?_
    rintro e w5 ⟨rfl, hb⟩
    replace HB := Lib.hid (HB.out.trans (hb.mono HB.out.size))
    clear hb HMA HSAME HCHK
    go_wp2_with fail
    refine (HDS.out _).mono ?_
    rintro e w6 ⟨y, rfl, hy, hb⟩
    obtain ⟨ya, b1, b2, b3, d1, d2, d3, rfl, uone, usz, uma, -, -, -, -⟩ := ms_cells hy
    have YONE := Lib.hid uone
    have YSZ := Lib.hid usz
    have YSZ2 : Hid (zeroA.size = ya.size) := Lib.hid (by rw [uma]; rfl)
    replace HB := Lib.hid (HB.out.trans (hb.mono HB.out.size))
    have HY := Lib.hid hy
    clear hb hy uone usz uma
    have HZ := Lib.hid (Blk.new w6 33 zeroA)
    go_wp2_with (first | refine wpList_store_then rfl 33 _ _ rfl w6.heap.size ya rfl rfl 33 _ HZ.out YSZ.out YSZ2.out YONE.out ?_)
    refine Later.mk fun w7 hw4 => ?_
    have hal : Below w6.heap.size w6 w7 := by
      rw [hw4]
      exact Below.setRow ((Below.refl w6.heap.size w6).alloc (Nat.le_refl _) (Obj.cells zeroA 33)) (Nat.le_refl _) _
    have HYA : Hid (Blk w7 w6.heap.size 33 ya) := Lib.hid (by rw [hw4]; exact HZ.out.row _)
    replace HY := Lib.hid (HY.out.keep hal)
    replace HB := Lib.hid (HB.out.trans (hal.mono HB.out.size))
    clear hal hw4 HZ
    rcases HS2.out with ⟨X, e1, e2, e3, e4⟩ | ⟨e1, e2⟩
    · rw [e1] at HY
      have HEY := Lib.hid (fun w8 (h : InMs w8 (.agg ya) X) => mencode_any w8 (.agg ya) X h)
      rw [e3, e4] at HEY
      rw [e2]
      clear e1 e2 e3 e4 HS2
      go_wp2_with (first | refine wpList_wanted_run (by rfl) (.agg ya) (exec_load_blk 33 _ rfl w6.heap.size rfl _ HYA.out Try.underlying33 rfl YSZ.out) ?_)
      refine (HEY.out _ HY.out).mono ?_
      rintro e w8 ⟨rfl, hb⟩
      replace HB := Lib.hid (HB.out.trans (hb.mono HB.out.size))
      clear hb HY HYA
      go_wp2
      go_ret
      exact ⟨rfl, HB.out⟩
    · rw [e1] at HY
      rw [e2]
      clear e1 e2 HS2
      go_wp2_with (first | refine wpList_wanted_run (by rfl) (.agg ya) (exec_load_blk 33 _ rfl w6.heap.size rfl _ HYA.out Try.underlying33 rfl YSZ.out) ?_)
      refine (HSZ0.out _ _ HY.out).mono ?_
      rintro e w8 ⟨rfl, hb⟩
      replace HB := Lib.hid (HB.out.trans (hb.mono HB.out.size))
      clear hb HY HYA
      go_wp2
      go_ret
      exact ⟨rfl, HB.out⟩
end Go.Proofs.Ytikimmhkfjaijaa
