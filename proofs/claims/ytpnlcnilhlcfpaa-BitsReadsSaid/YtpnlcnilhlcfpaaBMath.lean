/- Plain arithmetic of codes: lengths of numbers, the parts of a code, bits and bytes. -/
import Init
set_option linter.unusedVariables false
namespace Go.Proofs.Ytpnlcnilhlcfpaa
namespace M

/-- The number of bits of a number. -/
def blen (n : Nat) : Nat := if n = 0 then 0 else n.log2 + 1
theorem blen_zero : blen 0 = 0 := rfl
theorem blen_bd {n : Nat} (h : 0 < n) : 2 ^ (blen n - 1) ≤ n ∧ n < 2 ^ blen n ∧ 1 ≤ blen n := by
  unfold blen
  rw [if_neg (by omega)]
  refine ⟨?_, ?_, by omega⟩
  · rw [Nat.add_sub_cancel]; exact Nat.log2_self_le (by omega)
  · exact Nat.lt_log2_self
theorem blen_eq {n k : Nat} (h1 : 2 ^ k ≤ n) (h2 : n < 2 ^ (k + 1)) : blen n = k + 1 := by
  have hn : 0 < n := Nat.lt_of_lt_of_le (Nat.pow_pos (by decide)) h1
  obtain ⟨a, b, c⟩ := blen_bd hn
  have e1 : ¬ blen n < k + 1 := fun h => by
    have : 2 ^ blen n ≤ 2 ^ k := Nat.pow_le_pow_right (by decide) (by omega)
    omega
  have e2 : ¬ k + 1 < blen n := fun h => by
    have : 2 ^ (k + 1) ≤ 2 ^ (blen n - 1) := Nat.pow_le_pow_right (by decide) (by omega)
    omega
  omega
theorem blen_half {n : Nat} (h : 0 < n) : blen n = blen (n / 2) + 1 := by
  rcases Nat.lt_or_ge 1 n with h1 | h1
  · obtain ⟨a, b, c⟩ := blen_bd (n := n / 2) (by omega)
    have e : blen (n / 2) = (blen (n / 2) - 1) + 1 := by omega
    have p1 : 2 ^ blen (n / 2) = 2 * 2 ^ (blen (n / 2) - 1) := by rw [e, Nat.pow_succ]; simp [Nat.mul_comm]
    have p2 : 2 ^ (blen (n / 2) + 1) = 2 * 2 ^ blen (n / 2) := by rw [Nat.pow_succ, Nat.mul_comm]
    exact blen_eq (by omega) (by omega)
  · have : n = 1 := by omega
    subst this; rfl
theorem blen_le {n k : Nat} (h : n < 2 ^ k) : blen n ≤ k := by
  rcases Nat.eq_zero_or_pos n with h0 | h0
  · subst h0; simp [blen_zero]
  · obtain ⟨a, b, c⟩ := blen_bd h0
    have : ¬ k < blen n := fun hk => by
      have : 2 ^ k ≤ 2 ^ (blen n - 1) := Nat.pow_le_pow_right (by decide) (by omega)
      omega
    omega
theorem blen_mono {n m : Nat} (h : n ≤ m) : blen n ≤ blen m := by
  rcases Nat.eq_zero_or_pos n with h0 | h0
  · subst h0; simp [blen_zero]
  · exact blen_le (Nat.lt_of_le_of_lt h (blen_bd (by omega)).2.1)

/-- How many zeros the code of order k of n begins with. -/
def cq (n k : Nat) : Nat := blen (n + 2 ^ k) - 1 - k
/-- The number that follows the one. -/
def cr (n k : Nat) : Nat := n + 2 ^ k - 2 ^ (cq n k + k)
theorem cq_bd (n k : Nat) (h : n < 2 ^ 64) (hk : k ≤ 30) : cq n k + k + 1 = blen (n + 2 ^ k) ∧ cq n k + k ≤ 64 ∧ 2 ^ (cq n k + k) ≤ n + 2 ^ k ∧ n + 2 ^ k < 2 ^ (cq n k + k + 1) := by
  have hp : 0 < 2 ^ k := Nat.pow_pos (by decide)
  obtain ⟨a, b, c⟩ := blen_bd (n := n + 2 ^ k) (by omega)
  have h1 : k < blen (n + 2 ^ k) := by
    rcases Nat.lt_or_ge k (blen (n + 2 ^ k)) with h | h
    · exact h
    · have : 2 ^ blen (n + 2 ^ k) ≤ 2 ^ k := Nat.pow_le_pow_right (by decide) h
      omega
  have h2 : 2 ^ k ≤ 2 ^ 30 := Nat.pow_le_pow_right (by decide) hk
  have h3 : blen (n + 2 ^ k) ≤ 65 := blen_le (by omega)
  have e : cq n k + k + 1 = blen (n + 2 ^ k) := by unfold cq; omega
  refine ⟨e, by omega, ?_, by rw [e]; exact b⟩
  rw [show cq n k + k = blen (n + 2 ^ k) - 1 from by omega]; exact a
theorem cr_lt (n k : Nat) (h : n < 2 ^ 64) (hk : k ≤ 30) : cr n k < 2 ^ (cq n k + k) := by
  obtain ⟨_, _, a, b⟩ := cq_bd n k h hk
  rw [Nat.pow_succ] at b
  unfold cr
  omega
end M
end Go.Proofs.Ytpnlcnilhlcfpaa
