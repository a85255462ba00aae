/- Numbers as strings of bits; codes written and read. -/
import Derived.Test.YtpnlcnilhlcfpaaBMath
set_option linter.unusedVariables false
namespace Go.Proofs.Ytpnlcnilhlcfpaa
namespace M

theorem snocInd {P : List Bool → Prop} (h0 : P []) (h1 : ∀ s b, P s → P (s ++ [b])) (s : List Bool) : P s := by
  have : ∀ r : List Bool, P r.reverse := by
    intro r
    induction r with
    | nil => exact h0
    | cons b r ih => rw [List.reverse_cons]; exact h1 _ _ ih
  simpa using this s.reverse
/-- The number that a string of bits is, its first bit the highest. -/
def numOf (s : List Bool) : Nat := s.foldl (fun n b => 2 * n + b.toNat) 0
theorem numOf_snoc (s : List Bool) (b : Bool) : numOf (s ++ [b]) = 2 * numOf s + b.toNat := by
  unfold numOf; rw [List.foldl_append]; rfl
theorem numOf_lt (s : List Bool) : numOf s < 2 ^ s.length := by
  induction s using snocInd with
  | h0 => simp [numOf]
  | h1 s b ih =>
    rw [numOf_snoc, List.length_append, Nat.pow_add]
    have := Bool.toNat_lt b
    simp only [List.length_cons, List.length_nil]
    omega

/-- The first j of the k low bits of n, the most significant one first. -/
def bitsUpto (n k j : Nat) : List Bool := (List.range j).map fun i => n.testBit (k - 1 - i)
theorem bitsUpto_succ (n k j : Nat) : bitsUpto n k (j + 1) = bitsUpto n k j ++ [n.testBit (k - 1 - j)] := by
  unfold bitsUpto; rw [List.range_succ, List.map_append]; rfl
theorem bitsUpto_length (n k j : Nat) : (bitsUpto n k j).length = j := by simp [bitsUpto]
/-- A number of k bits. -/
def bitsOf (n k : Nat) : List Bool := bitsUpto n k k
theorem bitsOf_length (n k : Nat) : (bitsOf n k).length = k := bitsUpto_length n k k
theorem numOf_bitsUpto (n k j : Nat) (h : j ≤ k) : numOf (bitsUpto n k j) = n / 2 ^ (k - j) % 2 ^ j := by
  induction j with
  | zero => simp [bitsUpto, numOf, Nat.mod_one]
  | succ j ih =>
    rw [bitsUpto_succ, numOf_snoc, ih (by omega), Nat.toNat_testBit]
    have e : k - j = (k - 1 - j) + 1 := by omega
    have e2 : k - (j + 1) = k - 1 - j := by omega
    rw [e, e2, Nat.pow_succ, Nat.pow_succ, ← Nat.div_div_eq_div_mul, Nat.mul_comm (2 ^ j) 2, Nat.mod_mul]
    omega
theorem numOf_bitsOf (n k : Nat) : numOf (bitsOf n k) = n % 2 ^ k := by
  unfold bitsOf; rw [numOf_bitsUpto n k k (Nat.le_refl _)]; simp
theorem numOf_bitsOf_lt {n k : Nat} (h : n < 2 ^ k) : numOf (bitsOf n k) = n := by rw [numOf_bitsOf, Nat.mod_eq_of_lt h]
/-- A string of bits is that of its number. -/
theorem bitsUpto_prefix (n k j : Nat) (b : Bool) (h : j ≤ k) : bitsUpto (2 * n + b.toNat) (k + 1) j = bitsUpto n k j := by
  unfold bitsUpto
  apply List.map_congr_left
  intro i hi
  rw [List.mem_range] at hi
  rw [show k + 1 - 1 - i = (k - 1 - i) + 1 from by omega, Nat.testBit_succ]
  congr 1
  have := Bool.toNat_lt b
  omega
theorem bitsOf_numOf (s : List Bool) : bitsOf (numOf s) s.length = s := by
  induction s using snocInd with
  | h0 => rfl
  | h1 s b ih =>
    rw [numOf_snoc, List.length_append]
    show bitsUpto _ (s.length + 1) (s.length + 1) = _
    rw [bitsUpto_succ, bitsUpto_prefix _ _ _ _ (Nat.le_refl _)]
    unfold bitsOf at ih
    rw [ih]
    congr 2
    rw [show s.length + 1 - 1 - s.length = 0 from by omega, Nat.testBit_zero]
    cases b <;> simp
theorem bitsOf_zero (k : Nat) : bitsOf 0 k = List.replicate k false := by
  unfold bitsOf bitsUpto
  rw [List.eq_replicate_iff]
  simp
theorem bitsOf_one : bitsOf 1 1 = [true] := rfl
/-- A number is its high bits and its low bits. -/
theorem bitsOf_split (n a b : Nat) : bitsOf (n / 2 ^ b) a ++ bitsOf (n % 2 ^ b) b = bitsOf n (a + b) := by
  apply List.ext_getElem
  · simp [bitsOf_length]
  · intro i h1 h2
    rw [bitsOf_length] at h2
    by_cases h : i < a
    · rw [List.getElem_append_left (by rw [bitsOf_length]; exact h)]
      simp only [bitsOf, bitsUpto, List.getElem_map, List.getElem_range]
      rw [← Nat.shiftRight_eq_div_pow, Nat.testBit_shiftRight]
      congr 1; omega
    · rw [List.getElem_append_right (by rw [bitsOf_length]; omega)]
      simp only [bitsOf, bitsUpto, List.getElem_map, List.getElem_range, List.length_map, List.length_range]
      rw [Nat.testBit_mod_two_pow]
      have e : b - 1 - (i - a) = a + b - 1 - i := by omega
      rw [e]
      simp
      omega

/-- The code of order k of n. -/
def codeBits (n k : Nat) : List Bool := bitsOf 0 (cq n k) ++ ([true] ++ bitsOf (cr n k) (cq n k + k))
theorem codeBits_length (n k : Nat) : (codeBits n k).length = 2 * cq n k + k + 1 := by
  unfold codeBits; simp only [List.length_append, bitsOf_length, List.length_cons, List.length_nil]; omega

/-- How many bits 0 a string begins with. -/
def zeros : List Bool → Nat
  | false :: s => zeros s + 1
  | _ => 0
theorem zeros_le (s : List Bool) : zeros s ≤ s.length := by
  induction s with
  | nil => simp [zeros]
  | cons b s ih => cases b <;> simp [zeros]; exact ih
theorem zeros_rep (q : Nat) (s : List Bool) : zeros (List.replicate q false ++ s) = q + zeros s := by
  induction q with
  | zero => simp
  | succ q ih => rw [List.replicate_succ, List.cons_append, zeros, ih]; omega
theorem zeros_spec (s : List Bool) (h : zeros s < s.length) : s = List.replicate (zeros s) false ++ (true :: s.drop (zeros s + 1)) := by
  induction s with
  | nil => simp at h
  | cons b s ih =>
    cases b
    · simp only [zeros, List.length_cons] at h
      simp only [zeros, List.replicate_succ, List.cons_append, List.drop_succ_cons]
      rw [← ih (by omega)]
    · simp [zeros]
theorem zeros_getD (s : List Bool) (i : Nat) (h : i < zeros s) : s.getD i true = false := by
  induction s generalizing i with
  | nil => simp [zeros] at h
  | cons b s ih =>
    cases b
    · simp only [zeros] at h
      cases i with
      | zero => rfl
      | succ i => simpa using ih i (by omega)
    · simp [zeros] at h
theorem zeros_one (s : List Bool) (h : zeros s < s.length) : s.getD (zeros s) false = true := by
  have e := zeros_spec s h
  have : (s.getD (zeros s) false) = (List.replicate (zeros s) false ++ (true :: s.drop (zeros s + 1))).getD (zeros s) false := by rw [← e]
  rw [this]
  simp [List.getD_eq_getElem?_getD]

/-- The numbers of the errors. -/
def short : Nat := 180
def form : Nat := 181
/-- What a reader of a code of order k finds at the head of s: the error's number, the number, what is behind it. -/
def codeA (k : Nat) (s : List Bool) : Nat × Nat × List Bool :=
  if 64 < zeros s + k then (form, 0, s) else
  if zeros s = s.length then (short, 0, s) else
  if (s.drop (zeros s + 1)).length < zeros s + k then (short, 0, s) else
  if zeros s + k = 64 ∧ 2 ^ k ≤ numOf ((s.drop (zeros s + 1)).take (zeros s + k)) then (form, 0, s) else
  (0, numOf ((s.drop (zeros s + 1)).take (zeros s + k)) + 2 ^ (zeros s + k) - 2 ^ k, s.drop (2 * zeros s + k + 1))

theorem zeros_code (n k : Nat) (t : List Bool) : zeros (codeBits n k ++ t) = cq n k := by
  unfold codeBits
  rw [bitsOf_zero, List.append_assoc, zeros_rep]
  simp [zeros]
theorem drop_code (n k : Nat) (t : List Bool) : (codeBits n k ++ t).drop (cq n k + 1) = bitsOf (cr n k) (cq n k + k) ++ t := by
  unfold codeBits
  rw [← List.append_assoc, List.append_assoc (_ ++ _) _ t, List.drop_append_of_le_length (by simp [bitsOf_length]), List.drop_eq_nil_of_le (by simp [bitsOf_length])]
  rfl

/-- A code is read as its number. -/
theorem codeA_code (n k : Nat) (t : List Bool) (h : n < 2 ^ 64) (hk : k ≤ 30) : codeA k (codeBits n k ++ t) = (0, n, t) := by
  obtain ⟨c1, c2, c3, c4⟩ := cq_bd n k h hk
  have hlt := cr_lt n k h hk
  unfold codeA
  rw [zeros_code, drop_code]
  have hl : (codeBits n k ++ t).length = 2 * cq n k + k + 1 + t.length := by rw [List.length_append, codeBits_length]
  rw [if_neg (by omega), if_neg (by omega), if_neg (by rw [List.length_append, bitsOf_length]; omega)]
  rw [List.take_append_of_le_length (by rw [bitsOf_length]; exact Nat.le_refl _), List.take_of_length_le (by rw [bitsOf_length]; exact Nat.le_refl _), numOf_bitsOf_lt hlt]
  have hcr : cr n k = n + 2 ^ k - 2 ^ (cq n k + k) := rfl
  rw [if_neg (by
    rintro ⟨e, h2⟩
    rw [e] at hcr
    have hp : 0 < 2 ^ k := Nat.pow_pos (by decide)
    omega)]
  have e2 : cr n k + 2 ^ (cq n k + k) - 2 ^ k = n := by omega
  rw [e2, List.drop_append_of_le_length (by rw [codeBits_length]; omega), List.drop_eq_nil_of_le (by rw [codeBits_length]; omega)]
  rfl

/-- What is read as a code is the code of the number that was read. -/
theorem codeA_ok (k : Nat) (s t : List Bool) (v : Nat) (hk : k ≤ 30) (h : codeA k s = (0, v, t)) : v < 2 ^ 64 ∧ s = codeBits v k ++ t := by
  unfold codeA at h
  have f0 : form ≠ 0 := by decide
  have s0 : short ≠ 0 := by decide
  by_cases h1 : 64 < zeros s + k
  · rw [if_pos h1] at h; exact absurd (congrArg Prod.fst h) f0
  rw [if_neg h1] at h
  by_cases h2 : zeros s = s.length
  · rw [if_pos h2] at h; exact absurd (congrArg Prod.fst h) s0
  rw [if_neg h2] at h
  by_cases h3 : (s.drop (zeros s + 1)).length < zeros s + k
  · rw [if_pos h3] at h; exact absurd (congrArg Prod.fst h) s0
  rw [if_neg h3] at h
  have hz := zeros_le s
  have hsp := zeros_spec s (by omega)
  obtain ⟨q, hq⟩ : ∃ q, q = zeros s := ⟨_, rfl⟩
  rw [← hq] at h h1 h2 h3 hz hsp
  obtain ⟨r, hr⟩ : ∃ r, r = s.drop (q + 1) := ⟨_, rfl⟩
  rw [← hr] at h h3 hsp
  obtain ⟨x, hx⟩ : ∃ x, x = numOf (r.take (q + k)) := ⟨_, rfl⟩
  rw [← hx] at h
  by_cases h4 : q + k = 64 ∧ 2 ^ k ≤ x
  · rw [if_pos h4] at h; exact absurd (congrArg Prod.fst h) f0
  rw [if_neg h4] at h
  have hv : x + 2 ^ (q + k) - 2 ^ k = v := congrArg (fun p : Nat × Nat × List Bool => p.2.1) h
  have ht : s.drop (2 * q + k + 1) = t := congrArg (fun p : Nat × Nat × List Bool => p.2.2) h
  have hlen : (r.take (q + k)).length = q + k := by rw [List.length_take]; omega
  have hxlt : x < 2 ^ (q + k) := by rw [hx]; have := numOf_lt (r.take (q + k)); rw [hlen] at this; exact this
  have hkq : 2 ^ k ≤ 2 ^ (q + k) := Nat.pow_le_pow_right (by decide) (by omega)
  have hps : 2 ^ (q + k + 1) = 2 * 2 ^ (q + k) := by rw [Nat.pow_succ, Nat.mul_comm]
  have hb : blen (v + 2 ^ k) = q + k + 1 := blen_eq (by omega) (by omega)
  have hcq : cq v k = q := by unfold cq; omega
  have hcr : cr v k = x := by unfold cr; rw [hcq]; omega
  refine ⟨?_, ?_⟩
  · rcases Nat.lt_or_ge (q + k) 64 with h5 | h5
    · have : 2 ^ (q + k + 1) ≤ 2 ^ 64 := Nat.pow_le_pow_right (by decide) (by omega)
      have hp : 0 < 2 ^ k := Nat.pow_pos (by decide)
      omega
    · have e : q + k = 64 := by omega
      have : ¬ 2 ^ k ≤ x := fun hh => h4 ⟨e, hh⟩
      rw [e] at hv
      omega
  · unfold codeBits
    rw [hcq, hcr, bitsOf_zero]
    have e1 : bitsOf x (q + k) = r.take (q + k) := by rw [hx]; have := bitsOf_numOf (r.take (q + k)); rw [hlen] at this; exact this
    have e2 : t = r.drop (q + k) := by rw [hr, List.drop_drop, ← ht]; congr 1; omega
    rw [e1, e2, List.append_assoc, List.append_assoc, List.take_append_drop]
    exact hsp

/-- The signed numbers as codes' numbers, both as words of 64 bits. -/
def zig (n : Nat) : Nat := if n < 2 ^ 63 then 2 * n else 2 * (2 ^ 64 - n) - 1
def zag (v : Nat) : Nat := if v % 2 = 0 then v / 2 else 2 ^ 64 - 1 - v / 2
theorem zig_lt {n : Nat} (h : n < 2 ^ 64) : zig n < 2 ^ 64 := by unfold zig; split <;> omega
theorem zag_lt {v : Nat} (h : v < 2 ^ 64) : zag v < 2 ^ 64 := by unfold zag; split <;> omega
theorem zag_zig {n : Nat} (h : n < 2 ^ 64) : zag (zig n) = n := by
  unfold zig
  split
  · unfold zag; rw [if_pos (by omega)]; omega
  · unfold zag; rw [if_neg (by omega)]; omega
theorem zig_zag {v : Nat} (h : v < 2 ^ 64) : zig (zag v) = v := by
  unfold zag
  split
  · unfold zig; rw [if_pos (by omega)]; omega
  · unfold zig; rw [if_neg (by omega)]; omega

theorem cq_mono {n m k : Nat} (h : n ≤ m) : cq n k ≤ cq m k := by
  have := blen_mono (n := n + 2 ^ k) (m := m + 2 ^ k) (by omega)
  unfold cq; omega
theorem blen_succ_le (n : Nat) : blen (n + 1) ≤ blen n + 1 := by
  rcases Nat.eq_zero_or_pos n with h | h
  · subst h; decide
  · apply blen_le
    have := (blen_bd h).2.1
    rw [Nat.pow_succ]; omega
theorem cq_succ (n k : Nat) : cq (n + 1) k ≤ cq n k + 1 := by
  have := blen_succ_le (n + 2 ^ k)
  have e : n + 1 + 2 ^ k = n + 2 ^ k + 1 := by omega
  unfold cq; rw [e]; omega
/-- A number and its complement have codes of nearly the same length. -/
theorem zig_not {n : Nat} (h : n < 2 ^ 64) : zig (2 ^ 64 - 1 - n) = zig n + 1 ∨ zig n = zig (2 ^ 64 - 1 - n) + 1 := by
  unfold zig
  by_cases h1 : n < 2 ^ 63
  · rw [if_pos h1, if_neg (by omega)]; omega
  · rw [if_neg h1, if_pos (by omega)]; omega
end M
end Go.Proofs.Ytpnlcnilhlcfpaa
