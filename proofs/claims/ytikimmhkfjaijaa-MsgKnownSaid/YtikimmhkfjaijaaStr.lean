/-
  TEXTS AND BYTES: '[]byte(s)', 'string(b)', what two texts' equality is.
-/
import Derived.Test.YtikimmhkfjaijaaMem
import Derived.WalkSpells
import Derived.WalkLawsBesides
namespace Go.Proofs.Ytikimmhkfjaijaa
open Go.RowKit

def strOf (l : List UInt8) : ByteArray := ⟨l.toArray⟩
theorem strOf_list (l : List UInt8) : (strOf l).data.toList = l := by simp [strOf]
theorem strOf_data (s : ByteArray) : strOf s.data.toList = s := by simp [strOf]
theorem size_strOf (l : List UInt8) : (strOf l).size = l.length := by simp [strOf, ByteArray.size]
theorem len_data (s : ByteArray) : s.data.toList.length = s.size := rfl
theorem eq_strOf {s : ByteArray} {l : List UInt8} (h : s.data.toList = l) : strOf l = s := by rw [← h, strOf_data]
theorem strOf_append (s : ByteArray) (l : List UInt8) : s ++ strOf l = strOf (s.data.toList ++ l) := by
  apply ByteArray.ext
  simp [strOf]
theorem extract_list (s : ByteArray) (k : Nat) : (s.extract 0 k).data.toList = s.data.toList.take k := by simp
theorem extract_strOf (s : ByteArray) (k : Nat) : s.extract 0 k = strOf (s.data.toList.take k) := by
  rw [← strOf_data (s.extract 0 k), extract_list]
theorem extract_from (s : ByteArray) (k : Nat) : (s.extract k s.size).data.toList = s.data.toList.drop k := by
  rw [ByteArray.data_extract, Array.toList_extract, List.extract_eq_take_drop, ← len_data]
  exact List.take_of_length_le (by rw [List.length_drop]; omega)
theorem str_eq (a b : ByteArray) : (a.toList == b.toList) = decide (a.data.toList = b.data.toList) := by
  rw [Go.ByteArray.toList_eq, Go.ByteArray.toList_eq, Bool.eq_iff_iff, decide_eq_true_iff, beq_iff_eq]
theorem same_str (a : ByteArray) : (a.toList == a.toList) = true := by simp
theorem ret_int {k : IntKind} {a b : Int} (h : a = b) : Ending.returned (.int k a) = .returned (.int k b) := by rw [h]
theorem ret_str {a b : ByteArray} (h : a = b) : Ending.returned (.string a) = .returned (.string b) := by rw [h]

theorem wf_u8 {c : Int} (h : (Lit.int .u8 c).wf = true) : 0 ≤ c ∧ c < 256 := by
  simp [Lit.wf] at h
  have e1 : IntKind.u8.min = 0 := by decide
  have e2 : IntKind.u8.max = 255 := by decide
  rw [e1, e2] at h
  omega
section
variable {P : Program}
theorem add_zero_addr (g j : Nat) : (⟨g, 0, none⟩ : Addr).add j = ⟨g, j, none⟩ := by
  unfold Addr.add
  by_cases h : j = 0 <;> simp [h]
/-- '[]byte(s)' -/
theorem bytes_of (w : World) (src dst e : TypeId) (s : ByteArray) (hs : P.underlying src = some .string) (hd : P.underlying dst = some (.slice e)) (he : P.underlying e = some (.int .u8)) :
    ∃ cap w', (convert src dst (.string s)).run P w = .ok (.slice (some ⟨w.heap.size, 0, none⟩) s.size cap) w' ∧ s.size ≤ cap ∧ w'.heap.size = w.heap.size + 1 ∧ Below w.heap.size w w' ∧
      (∀ j (hj : j < s.size), w'.cell? ⟨w.heap.size, j, none⟩ = some (.int .u8 (s[j].toNat : Int))) ∧ (∀ j, j < s.size → w'.frozen? ⟨w.heap.size, j, none⟩ = false) := by
  refine ⟨_, _, run_bytes_of_string w src dst e s hs hd he, grownCap_ge _ _ _ _, by simp, ((Below.refl _ _).drew).alloc (Nat.le_refl _) _, ?_, ?_⟩
  · intro j hj
    have h1 := World.cell?_alloc_mark w.drew (bytesRow s (grownCap w s.size 0 e)) e ((bytesRow s (grownCap w s.size 0 e)).size, (bytesRow s (grownCap w s.size 0 e)).size + 1) j
    rw [show w.drew.heap.size = w.heap.size from rfl] at h1
    rw [h1, bytesRow_at s _ j hj]
    rfl
  · intro j hj
    have hl : s.size ≤ (bytesRow s (grownCap w s.size 0 e)).size := by
      unfold bytesRow
      rw [Array.size_append, Array.size_map]
      exact Nat.le_add_right _ _
    show (World.frozen? _ _) = false
    unfold World.frozen?
    have h1 := heap_alloc_new w.drew (.cells (bytesRow s (grownCap w s.size 0 e)) e ((bytesRow s (grownCap w s.size 0 e)).size, (bytesRow s (grownCap w s.size 0 e)).size + 1))
    rw [show w.drew.heap.size = w.heap.size from rfl] at h1
    simp only [h1]
    simp
    omega
/-- .. its bytes given as a list -/
theorem bytes_of_list (w : World) (src dst e : TypeId) (s : ByteArray) (l : List UInt8) (hl : s.data.toList = l) (hs : P.underlying src = some .string) (hd : P.underlying dst = some (.slice e)) (he : P.underlying e = some (.int .u8)) :
    ∃ cap w', (convert src dst (.string s)).run P w = .ok (.slice (some ⟨w.heap.size, 0, none⟩) l.length cap) w' ∧ l.length ≤ cap ∧ w'.heap.size = w.heap.size + 1 ∧ Below w.heap.size w w' ∧
      (∀ j (hj : j < l.length), w'.cell? ⟨w.heap.size, j, none⟩ = some (.int .u8 (l[j].toNat : Int))) ∧ (∀ j, j < l.length → w'.frozen? ⟨w.heap.size, j, none⟩ = false) := by
  subst hl
  exact bytes_of w src dst e s hs hd he
/-- 'string(b)' -/
theorem str_of (w : World) (src dst e : TypeId) (g n cap : Nat) (l : List UInt8) (hs : P.underlying src = some (.slice e)) (he : P.underlying e = some (.int .u8)) (hd : P.underlying dst = some .string) (hn : l.length = n)
    (hc : ∀ j (hj : j < l.length), w.cell? ⟨g, j, none⟩ = some (.int .u8 (l[j].toNat : Int))) :
    (convert src dst (.slice (some ⟨g, 0, none⟩) n cap)).run P w = .ok (.string (strOf l)) w := by
  subst hn
  exact run_convert_bytes_back w src dst e ⟨g, 0, none⟩ cap l hs he hd (fun j hj => by rw [add_zero_addr]; exact hc j hj)
end
end Go.Proofs.Ytikimmhkfjaijaa
