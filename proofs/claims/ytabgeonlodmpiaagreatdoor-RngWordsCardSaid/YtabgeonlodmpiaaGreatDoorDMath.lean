/- Plain arithmetic of long division by two digits of 32 bits, and of a division by a reciprocal. -/
namespace Go.Proofs.YtabgeonlodmpiaaGreatDoor
namespace Dv

theorem split_y (q a b : Nat) : q * (a * 4294967296 + b) = q * a * 4294967296 + q * b := by rw [Nat.mul_add, Nat.mul_assoc]
/-- The test of a guessed digit. -/
theorem over_iff {u y a b d q r : Nat} (hy : y = a * 4294967296 + b) (hu : u = q * a + r) : 4294967296 * r + d < q * b ↔ u * 4294967296 + d < q * y := by
  have e : q * y = q * a * 4294967296 + q * b := by rw [hy, split_y]
  rw [e, hu]
  generalize q * a = X
  generalize q * b = Z
  omega
theorem big_over {u y d q : Nat} (hu : u < y) (hd : d < 4294967296) (hq : 4294967296 ≤ q) : u * 4294967296 + d < q * y := by
  have h1 : 4294967296 * y ≤ q * y := Nat.mul_le_mul_right _ hq
  omega
theorem start_up {u y a b d : Nat} (hy : y = a * 4294967296 + b) (ha : 0 < a) (hd : d < 4294967296) : u * 4294967296 + d < (u / a + 1) * y := by
  have h1 : u < (u / a + 1) * a := by rw [Nat.mul_comm]; exact Nat.lt_mul_div_succ u ha
  rw [hy, split_y]
  generalize (u / a + 1) * a = X at *
  generalize (u / a + 1) * b = Z
  omega
theorem start_le {u y a b : Nat} (hy : y = a * 4294967296 + b) (hu : u < y) (ha : 2147483648 ≤ a) (hb : b < 4294967296) : u / a ≤ 4294967297 := by
  apply Nat.le_of_lt_succ
  rw [Nat.div_lt_iff_lt_mul (by omega)]
  omega
/-- Behind the loop. -/
theorem under {u y a b d q r : Nat} (hy : y = a * 4294967296 + b) (hu : u = q * a + r) (hb : b < 4294967296) (hq : q ≤ 4294967296) (hr : 4294967296 ≤ r) : q * y ≤ u * 4294967296 + d := by
  have e : q * y = q * a * 4294967296 + q * b := by rw [hy, split_y]
  have h : q * b ≤ 4294967296 * 4294967295 := Nat.mul_le_mul hq (by omega)
  rw [e, hu]
  generalize q * a = X
  generalize q * b = Z at *
  omega
theorem step_down {u a q r : Nat} (hu : u = q * a + r) (hq : 0 < q) : u = (q - 1) * a + (r + a) := by
  obtain ⟨p, rfl⟩ : ∃ p, q = p + 1 := ⟨q - 1, by omega⟩
  rw [hu, Nat.add_mul, Nat.add_sub_cancel]; omega
theorem digit {A y q : Nat} (h1 : q * y ≤ A) (h2 : A < (q + 1) * y) : A / y = q := Nat.div_eq_of_lt_le h1 h2
theorem left_over (A y : Nat) : A - A / y * y = A % y := by rw [Nat.mul_comm]; exact (Nat.mod_eq_sub_mul_div ..).symm
theorem two' (A l0 y : Nat) (hy : 0 < y) : (A * 4294967296 + l0) / y = A / y * 4294967296 + (A % y * 4294967296 + l0) / y ∧ (A * 4294967296 + l0) % y = (A % y * 4294967296 + l0) % y := by
  have e : A * 4294967296 + l0 = (A % y * 4294967296 + l0) + y * (A / y * 4294967296) := by
    have h1 := Nat.div_add_mod A y
    have h2 : y * (A / y * 4294967296) = y * (A / y) * 4294967296 := by rw [Nat.mul_assoc]
    rw [h2]
    obtain ⟨X, hX⟩ : ∃ X, X = y * (A / y) := ⟨_, rfl⟩
    obtain ⟨Y, hY⟩ : ∃ Y, Y = A % y := ⟨_, rfl⟩
    rw [← hX, ← hY] at h1
    rw [← hX, ← hY]
    omega
  rw [e, Nat.add_mul_div_left _ _ hy, Nat.add_mul_mod_self_left]
  exact ⟨Nat.add_comm _ _, rfl⟩
theorem two (h l1 l0 y : Nat) (hy : 0 < y) :
    ((h * 4294967296 + l1) * 4294967296 + l0) / y = (h * 4294967296 + l1) / y * 4294967296 + ((h * 4294967296 + l1) % y * 4294967296 + l0) / y ∧
    ((h * 4294967296 + l1) * 4294967296 + l0) % y = ((h * 4294967296 + l1) % y * 4294967296 + l0) % y := two' _ _ _ hy

theorem recip_aux (d S m t c P Q X Y : Nat) (hP : P = c * S) (hc : c + d + 1 = 18446744073709551616) (hQ : Q = m * d * S) (hX : X = d * t) (hY : Y = d * S)
    (m1 : m * d ≤ c * 18446744073709551616 + 18446744073709551615) (m2 : c * 18446744073709551616 + 18446744073709551616 ≤ m * d + d)
    (t1 : t * 18446744073709551616 ≤ m * S) (t2 : m * S < t * 18446744073709551616 + 18446744073709551616) (hd0 : 0 < d) :
    X + Y ≤ S * 18446744073709551616 ∧ S * 18446744073709551616 < X + Y + d + S := by
  have a1 : m * d * S ≤ (c * 18446744073709551616 + 18446744073709551615) * S := Nat.mul_le_mul_right _ m1
  have a2 : (c * 18446744073709551616 + 18446744073709551616) * S ≤ (m * d + d) * S := Nat.mul_le_mul_right _ m2
  have b1 : d * (t * 18446744073709551616) ≤ d * (m * S) := Nat.mul_le_mul_left _ t1
  have b2 : d * (m * S) < d * (t * 18446744073709551616 + 18446744073709551616) := Nat.mul_lt_mul_of_pos_left t2 hd0
  rw [Nat.add_mul, Nat.mul_right_comm c] at a1 a2
  rw [Nat.add_mul (m * d)] at a2
  have e1 : d * (m * S) = m * d * S := by rw [← Nat.mul_assoc, Nat.mul_comm d m]
  have e2 : d * (t * 18446744073709551616) = d * t * 18446744073709551616 := (Nat.mul_assoc ..).symm
  rw [Nat.mul_add] at b2
  rw [e1, e2] at b1 b2
  have hcS : (c + d + 1) * S = 18446744073709551616 * S := by rw [hc]
  rw [Nat.add_mul, Nat.add_mul, Nat.one_mul] at hcS
  have hYS : Y ≤ 18446744073709551616 * S := by rw [hY]; exact Nat.mul_le_mul_right _ (by omega)
  rw [← hP] at hcS a1 a2
  rw [← hQ] at a1 a2 b1 b2
  rw [← hX] at b1 b2
  rw [← hY] at hcS a2
  clear hP hQ hX hY m1 m2 t1 t2 e1
  omega
/-- The division of 2^64 by n, by a reciprocal: d = n * S is normal; m the reciprocal; t the upper word of m * S. -/
theorem recip {S d m t : Nat} (h2 : d < 18446744073709551616) (hd0 : 0 < d)
    (hm : ((18446744073709551615 - d) * 18446744073709551616 + 18446744073709551615) / d = m) (ht : m * S / 18446744073709551616 = t) :
    d * t + d * S ≤ S * 18446744073709551616 ∧ S * 18446744073709551616 < d * t + d * S + d + S := by
  obtain ⟨c, hc⟩ : ∃ c, c = 18446744073709551615 - d := ⟨_, rfl⟩
  rw [← hc] at hm
  have m1 : m * d ≤ c * 18446744073709551616 + 18446744073709551615 := by rw [← hm]; exact Nat.div_mul_le_self _ _
  have m2 : c * 18446744073709551616 + 18446744073709551615 < d * (m + 1) := by rw [← hm]; exact Nat.lt_mul_div_succ _ hd0
  have t1 : t * 18446744073709551616 ≤ m * S := by rw [← ht]; exact Nat.div_mul_le_self _ _
  have t2 : m * S < 18446744073709551616 * (t + 1) := by rw [← ht]; exact Nat.lt_mul_div_succ _ (by decide)
  rw [Nat.mul_add, Nat.mul_one] at m2 t2
  rw [Nat.mul_comm d m] at m2
  rw [Nat.mul_comm _ t] at t2
  exact recip_aux d S m t c _ _ _ _ rfl (by omega) rfl rfl rfl m1 m2 t1 t2 hd0
theorem recip_lt {d m : Nat} (h1 : 9223372036854775808 ≤ d) (h2 : d < 18446744073709551616)
    (hm : ((18446744073709551615 - d) * 18446744073709551616 + 18446744073709551615) / d = m) : m < 18446744073709551616 := by
  obtain ⟨c, hc⟩ : ∃ c, c = 18446744073709551615 - d := ⟨_, rfl⟩
  rw [← hc] at hm
  have m1 : m * d ≤ c * 18446744073709551616 + 18446744073709551615 := by rw [← hm]; exact Nat.div_mul_le_self _ _
  refine Nat.lt_of_not_le fun h => ?_
  have := Nat.mul_le_mul_right d h
  omega
theorem quot {n S d q : Nat} (hd : n * S = d) (hS : 0 < S) (h1 : d * q ≤ S * 18446744073709551616) (h2 : S * 18446744073709551616 < d * (q + 1)) : 18446744073709551616 / n = q := by
  subst hd
  apply Nat.div_eq_of_lt_le
  · have e : n * S * q = q * n * S := by rw [Nat.mul_right_comm, Nat.mul_comm n q]
    rw [e, Nat.mul_comm S] at h1
    exact Nat.le_of_mul_le_mul_right h1 hS
  · have e : n * S * (q + 1) = (q + 1) * n * S := by rw [Nat.mul_right_comm, Nat.mul_comm n (q + 1)]
    rw [e, Nat.mul_comm S] at h2
    exact Nat.lt_of_mul_lt_mul_right h2
/-- The guess g of the quotient of 2^64 by n is right, or less by one. -/
theorem guess_ok {n S d g P : Nat} (hd : n * S = d) (hS : 2 ≤ S) (h3 : 2 * S ≤ d) (hP : P = d * g) (r1 : P ≤ S * 18446744073709551616) (r2 : S * 18446744073709551616 < P + d + S) :
    (S * 18446744073709551616 - P < d → 18446744073709551616 / n = g) ∧ (d ≤ S * 18446744073709551616 - P → 18446744073709551616 / n = g + 1) ∧ S * 18446744073709551616 - P < d + S := by
  have e1 : d * (g + 1) = P + d := by rw [Nat.mul_add, hP, Nat.mul_one]
  have e2 : d * (g + 1 + 1) = P + d + d := by rw [Nat.mul_add, e1, Nat.mul_one]
  refine ⟨fun h => quot hd (by omega) (by rw [← hP]; exact r1) (by rw [e1]; omega), fun h => quot hd (by omega) (by rw [e1]; omega) (by rw [e2]; omega), by omega⟩
end Dv
end Go.Proofs.YtabgeonlodmpiaaGreatDoor
