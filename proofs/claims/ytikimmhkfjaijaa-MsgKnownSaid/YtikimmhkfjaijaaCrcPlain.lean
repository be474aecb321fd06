/-
  THE SUM OF BYTES IN PLAIN LEAN: bit by bit, by nibbles, and what follows: it is one of bits; it tells single bytes apart. No program in sight.
-/
import Derived.Below
namespace Go.Proofs.Ytikimmhkfjaijaa
namespace Crc

/-- one bit -/
def bit (x : BitVec 32) : BitVec 32 := if x.getLsbD 0 then (x >>> 1) ^^^ 0xedb88320#32 else x >>> 1
def bit4 (x : BitVec 32) : BitVec 32 := bit (bit (bit (bit x)))
def tab (i : Nat) : BitVec 32 := bit4 (BitVec.ofNat 32 i)
def idx (x : BitVec 32) (b : BitVec 8) : Nat := ((x.setWidth 8 ^^^ b) &&& 15#8).toNat
def half (x : BitVec 32) (b : BitVec 8) : BitVec 32 := (x >>> 4) ^^^ tab (idx x b)
def step (x : BitVec 32) (b : BitVec 8) : BitVec 32 := bit4 (bit4 (x ^^^ b.setWidth 32))
def st (x : BitVec 32) (l : List UInt8) : BitVec 32 := l.foldl (fun x b => step x b.toBitVec) x
def ones : BitVec 32 := 0xffffffff#32
def sum (l : List UInt8) : BitVec 32 := st ones l ^^^ ones
def four (n : BitVec 32) : List UInt8 := [⟨(n >>> 24).setWidth 8⟩, ⟨(n >>> 16).setWidth 8⟩, ⟨(n >>> 8).setWidth 8⟩, ⟨n.setWidth 8⟩]
def sealed (l : List UInt8) : List UInt8 := l ++ four (sum l)
/-- is it one that was sealed? -/
def opens (l : List UInt8) : Bool := decide (4 ≤ l.length) && decide (sealed (l.take (l.length - 4)) = l)

theorem bit_xor (x y : BitVec 32) : bit (x ^^^ y) = bit x ^^^ bit y := by
  unfold bit
  rw [BitVec.getLsbD_xor, BitVec.ushiftRight_xor_distrib]
  cases x.getLsbD 0 <;> cases y.getLsbD 0 <;> simp
  · ac_rfl
  · ac_rfl
  · rw [show x >>> 1 ^^^ 3988292384#32 ^^^ (y >>> 1 ^^^ 3988292384#32) = (x >>> 1 ^^^ y >>> 1) ^^^ (3988292384#32 ^^^ 3988292384#32) from by ac_rfl]
    simp
theorem bit4_xor (x y : BitVec 32) : bit4 (x ^^^ y) = bit4 x ^^^ bit4 y := by simp only [bit4, bit_xor]
theorem bit_zero : bit 0#32 = 0#32 := by decide
theorem bit_inj0 (x : BitVec 32) (h : bit x = 0#32) : x = 0#32 := by
  unfold bit at h
  by_cases hb : x.getLsbD 0 = true
  · rw [if_pos hb] at h
    have h2 : (x >>> 1 ^^^ 0xedb88320#32).getLsbD 31 = (0#32).getLsbD 31 := by rw [h]
    simp at h2
  · rw [if_neg hb] at h
    apply BitVec.eq_of_getLsbD_eq
    intro i hi
    match i with
    | 0 => simpa using hb
    | i + 1 =>
      have h2 : (x >>> 1).getLsbD i = (0#32).getLsbD i := by rw [h]
      simpa [Nat.add_comm] using h2
theorem bit_inj {x y : BitVec 32} (h : bit x = bit y) : x = y := by
  have h1 : bit (x ^^^ y) = 0#32 := by rw [bit_xor, h]; simp
  have h2 := bit_inj0 _ h1
  exact BitVec.xor_eq_zero_iff.1 h2
theorem bit4_inj {x y : BitVec 32} (h : bit4 x = bit4 y) : x = y := bit_inj (bit_inj (bit_inj (bit_inj h)))

theorem bit_even (x : BitVec 32) (h : x.getLsbD 0 = false) : bit x = x >>> 1 := by unfold bit; rw [if_neg (by rw [h]; decide)]
theorem bit4_even (x : BitVec 32) (h : ∀ i, i < 4 → x.getLsbD i = false) : bit4 x = x >>> 4 := by
  unfold bit4
  rw [bit_even x (h 0 (by omega)), bit_even (x >>> 1) (by rw [BitVec.getLsbD_ushiftRight]; exact h 1 (by omega)), bit_even (x >>> 1 >>> 1) (by rw [BitVec.getLsbD_ushiftRight, BitVec.getLsbD_ushiftRight]; exact h 2 (by omega)), bit_even (x >>> 1 >>> 1 >>> 1) (by rw [BitVec.getLsbD_ushiftRight, BitVec.getLsbD_ushiftRight, BitVec.getLsbD_ushiftRight]; exact h 3 (by omega))]
  simp [← BitVec.shiftRight_add]
theorem low4 : ∀ i, i < 32 → (0xfffffff0#32).getLsbD i = decide (4 ≤ i) := by decide
theorem low4' : ∀ i, i < 32 → (15#32).getLsbD i = decide (i < 4) := by decide
theorem bit4_split (x : BitVec 32) : bit4 x = (x >>> 4) ^^^ tab (x.toNat % 16) := by
  have e : x = (x &&& 0xfffffff0#32) ^^^ (x &&& 15#32) := by
    apply BitVec.eq_of_getLsbD_eq
    intro i hi
    simp only [BitVec.getLsbD_xor, BitVec.getLsbD_and, low4 i hi, low4' i hi]
    by_cases h : i < 4
    · rw [decide_eq_true h, decide_eq_false (by omega : ¬ 4 ≤ i)]; simp
    · rw [decide_eq_false h, decide_eq_true (by omega : 4 ≤ i)]; simp
  have e1 : bit4 (x &&& 0xfffffff0#32) = x >>> 4 := by
    rw [bit4_even _ (fun i hi => by rw [BitVec.getLsbD_and, low4 i (by omega), decide_eq_false (by omega)]; simp)]
    apply BitVec.eq_of_getLsbD_eq
    intro i hi
    simp only [BitVec.getLsbD_ushiftRight, BitVec.getLsbD_and]
    by_cases h : 4 + i < 32
    · rw [low4 _ h]; simp
    · rw [BitVec.getLsbD_of_ge x _ (by omega)]; simp
  have e2 : x &&& 15#32 = BitVec.ofNat 32 (x.toNat % 16) := by
    apply BitVec.eq_of_toNat_eq
    rw [BitVec.toNat_and, show (15#32).toNat = 2 ^ 4 - 1 from rfl, Nat.and_two_pow_sub_one_eq_mod, BitVec.toNat_ofNat]
    omega
  rw [show bit4 x = bit4 ((x &&& 0xfffffff0#32) ^^^ (x &&& 15#32)) from by rw [← e], bit4_xor, e1, e2]
  rfl
theorem idx_eq (x : BitVec 32) (b : BitVec 8) : idx x b = (x ^^^ b.setWidth 32).toNat % 16 := by
  unfold idx
  rw [BitVec.toNat_and, show (15#8).toNat = 2 ^ 4 - 1 from rfl, Nat.and_two_pow_sub_one_eq_mod]
  rw [BitVec.toNat_xor, BitVec.toNat_xor, BitVec.toNat_setWidth, BitVec.toNat_setWidth]
  rw [show (16 : Nat) = 2 ^ 4 from rfl, Nat.xor_mod_two_pow, Nat.xor_mod_two_pow]
  congr 1
  · omega
  · have := b.isLt
    omega
theorem idx_lt (x : BitVec 32) (b : BitVec 8) : idx x b < 16 := by rw [idx_eq]; omega
theorem bit4_half (x : BitVec 32) (b : BitVec 8) : bit4 (x ^^^ b.setWidth 32) = half x b ^^^ (b.setWidth 32 >>> 4) := by
  rw [bit4_split, ← idx_eq, BitVec.ushiftRight_xor_distrib, half]
  ac_rfl
theorem nib_zero (b : BitVec 8) : ((b >>> 4).setWidth 32 : BitVec 32) >>> 4 = 0#32 := by
  apply BitVec.eq_of_toNat_eq
  have := b.isLt
  simp [BitVec.toNat_setWidth, Nat.shiftRight_eq_div_pow]
  omega
theorem nib_comm (b : BitVec 8) : (b.setWidth 32 : BitVec 32) >>> 4 = (b >>> 4).setWidth 32 := by
  apply BitVec.eq_of_toNat_eq
  have := b.isLt
  simp [BitVec.toNat_setWidth, Nat.shiftRight_eq_div_pow]
/-- THE NIBBLES' WAY IS THE BITS' WAY. -/
theorem half_half (x : BitVec 32) (b : BitVec 8) : half (half x b) (b >>> 4) = step x b := by
  unfold step
  rw [bit4_half, nib_comm, bit4_half, nib_zero]
  simp

theorem step_xor (x y : BitVec 32) (a b : BitVec 8) : step (x ^^^ y) (a ^^^ b) = step x a ^^^ step y b := by
  unfold step
  rw [← bit4_xor, ← bit4_xor]
  congr 2
  rw [BitVec.setWidth_xor]
  ac_rfl
theorem step_inj {x y : BitVec 32} {b : BitVec 8} (h : step x b = step y b) : x = y := by
  have := bit4_inj (bit4_inj h)
  simpa using this
theorem step_byte {x : BitVec 32} {a b : BitVec 8} (h : step x a = step x b) : a = b := by
  have h1 := bit4_inj (bit4_inj h)
  have h2 : a.setWidth 32 = b.setWidth 32 := by simpa using h1
  apply BitVec.eq_of_toNat_eq
  have h3 := congrArg BitVec.toNat h2
  have := a.isLt
  have := b.isLt
  simp only [BitVec.toNat_setWidth] at h3
  omega
theorem st_append (x : BitVec 32) (l m : List UInt8) : st x (l ++ m) = st (st x l) m := by simp [st]
theorem st_cons (x : BitVec 32) (b : UInt8) (l : List UInt8) : st x (b :: l) = st (step x b.toBitVec) l := rfl
theorem st_snoc (x : BitVec 32) (b : UInt8) (l : List UInt8) : st x (l ++ [b]) = step (st x l) b.toBitVec := by simp [st]
theorem st_inj (l : List UInt8) : ∀ {x y : BitVec 32}, st x l = st y l → x = y := by
  induction l with
  | nil => exact fun h => h
  | cons b l ih => exact fun h => step_inj (ih h)
theorem sum_inj_at (l m : List UInt8) {a b : UInt8} (h : sum (l ++ a :: m) = sum (l ++ b :: m)) : a = b := by
  unfold sum at h
  have h1 : st ones (l ++ a :: m) = st ones (l ++ b :: m) := by
    have := congrArg (· ^^^ ones) h
    simpa [BitVec.xor_assoc] using this
  rw [st_append, st_append, st_cons, st_cons] at h1
  have h2 := step_byte (st_inj m h1)
  cases a; cases b; simpa using h2

theorem length_four (n : BitVec 32) : (four n).length = 4 := rfl
theorem length_sealed (l : List UInt8) : (sealed l).length = l.length + 4 := by simp [sealed, length_four]
theorem opens_sealed (l : List UInt8) : opens (sealed l) = true := by
  have h : (sealed l).take ((sealed l).length - 4) = l := by rw [length_sealed]; simp [sealed]
  unfold opens
  rw [h]
  simp [length_sealed]

/-- a byte that is another one -/
theorem opens_other (l : List UInt8) (k : Nat) (hk : k < (sealed l).length) (c : UInt8) (hc : c ≠ (sealed l)[k]) : opens ((sealed l).set k c) = false := by
  have hl := length_sealed l
  unfold opens
  rw [Bool.and_eq_false_iff]
  right
  rw [decide_eq_false_iff_not]
  simp only [List.length_set]
  intro h
  by_cases hkl : k < l.length
  · -- in the text
    have h1 : ((sealed l).set k c).take ((sealed l).length - 4) = l.set k c := by
      rw [hl]; simp only [sealed]
      rw [List.set_append_left _ _ hkl]
      simp
    rw [h1] at h
    have h2 : four (sum (l.set k c)) = four (sum l) := by
      have h3 := congrArg (List.drop l.length) h
      simp only [sealed] at h3
      rw [List.set_append_left _ _ hkl] at h3
      rw [List.drop_append_of_le_length (by simp), List.drop_append_of_le_length (by simp)] at h3
      simpa using h3
    have h4 : sum (l.set k c) = sum l := by
      generalize sum (l.set k c) = x at h2
      generalize sum l = y at h2
      simp only [four, List.cons.injEq, UInt8.ofBitVec.injEq] at h2
      obtain ⟨e1, e2, e3, e4, _⟩ := h2
      apply BitVec.eq_of_getLsbD_eq
      intro i hi
      rcases Nat.lt_or_ge i 8 with q | q
      · have := congrArg (BitVec.getLsbD · i) e4
        simpa [BitVec.getLsbD_setWidth, q] using this
      rcases Nat.lt_or_ge i 16 with q2 | q2
      · have := congrArg (BitVec.getLsbD · (i - 8)) e3
        simpa [BitVec.getLsbD_setWidth, show i - 8 < 8 from by omega, show 8 + (i - 8) = i from by omega] using this
      rcases Nat.lt_or_ge i 24 with q3 | q3
      · have := congrArg (BitVec.getLsbD · (i - 16)) e2
        simpa [BitVec.getLsbD_setWidth, show i - 16 < 8 from by omega, show 16 + (i - 16) = i from by omega] using this
      · have := congrArg (BitVec.getLsbD · (i - 24)) e1
        simpa [BitVec.getLsbD_setWidth, show i - 24 < 8 from by omega, show 24 + (i - 24) = i from by omega] using this
    have e : l = l.take k ++ l[k] :: l.drop (k + 1) := by rw [List.getElem_cons_drop, List.take_append_drop]
    have e' : l.set k c = l.take k ++ c :: l.drop (k + 1) := by rw [List.set_eq_take_append_cons_drop]; simp [hkl]
    rw [e'] at h4
    have h5 : sum (l.take k ++ c :: l.drop (k + 1)) = sum (l.take k ++ l[k] :: l.drop (k + 1)) := by rw [← e]; exact h4
    have h6 := sum_inj_at _ _ h5
    apply hc
    rw [h6]
    simp [sealed, List.getElem_append_left, hkl]
  · -- in the sum
    have h1 : ((sealed l).set k c).take ((sealed l).length - 4) = l := by
      rw [hl, List.take_set_of_le (by omega)]
      simp [sealed]
    rw [h1] at h
    apply hc
    have h2 : (sealed l)[k] = ((sealed l).set k c)[k]'(by simpa using hk) := by
      congr 1
    rw [h2]
    simp

theorem st_xor3 : ∀ (n : Nat) (a b c : List UInt8), a.length = n → b.length = n → c.length = n → ∀ x y z : BitVec 32,
    st (x ^^^ y ^^^ z) (List.zipWith (· ^^^ ·) (List.zipWith (· ^^^ ·) a b) c) = st x a ^^^ st y b ^^^ st z c := by
  intro n
  induction n with
  | zero =>
    intro a b c ha hb hc x y z
    rw [List.length_eq_zero_iff] at ha hb hc
    subst ha; subst hb; subst hc
    rfl
  | succ n ih =>
    intro a b c ha hb hc x y z
    match a, b, c, ha, hb, hc with
    | p :: a, q :: b, r :: c, ha, hb, hc =>
      simp only [List.zipWith_cons_cons, st_cons]
      rw [← ih a b c (by simpa using ha) (by simpa using hb) (by simpa using hc)]
      congr 1
      rw [← step_xor, ← step_xor]
      rfl
/-- THE SUM IS ONE OF BITS. -/
theorem sum_xor3 (a b c : List UInt8) (hab : a.length = b.length) (hac : a.length = c.length) :
    sum (List.zipWith (· ^^^ ·) (List.zipWith (· ^^^ ·) a b) c) = sum a ^^^ sum b ^^^ sum c := by
  have h := st_xor3 a.length a b c rfl hab.symm hac.symm ones ones ones
  unfold sum
  rw [show ones ^^^ ones ^^^ ones = ones from by decide] at h
  rw [h, show st ones a ^^^ ones ^^^ (st ones b ^^^ ones) ^^^ (st ones c ^^^ ones) = (st ones a ^^^ st ones b ^^^ st ones c) ^^^ (ones ^^^ ones ^^^ ones) from by ac_rfl]
  rw [show ones ^^^ ones ^^^ ones = ones from by decide]
theorem sum_one (a b : UInt8) : (sum [a] = sum [b]) ↔ a = b := ⟨fun h => sum_inj_at [] [] h, fun h => by rw [h]⟩

end Crc
end Go.Proofs.Ytikimmhkfjaijaa
