/- The plain arithmetic of SplitMix64 streams: the output function and the step are one-to-one; among n words one at least is accepted for n. No condition. -/
import Init
namespace Go.Proofs.YtabgeonlodmpiaaGreatDoor
namespace M

def g : BitVec 64 := 0x9e3779b97f4a7c15#64
def gi : BitVec 64 := 0xf1de83e19937733d#64
def c1 : BitVec 64 := 0xbf58476d1ce4e5b9#64
def c1i : BitVec 64 := 0x96de1b173f119089#64
def c2 : BitVec 64 := 0x94d049bb133111eb#64
def c2i : BitVec 64 := 0x319642b2d24d8ec3#64

theorem g_inv : g * gi = 1#64 := by decide
theorem c1_inv : c1 * c1i = 1#64 := by decide
theorem c2_inv : c2 * c2i = 1#64 := by decide

def mix (z : BitVec 64) : BitVec 64 :=
  let a := (z ^^^ (z >>> 30)) * c1
  let b := (a ^^^ (a >>> 27)) * c2
  b ^^^ (b >>> 31)

theorem mul_inj {c ci : BitVec 64} (h : c * ci = 1#64) {x y : BitVec 64} (e : x * c = y * c) : x = y := by
  have := congrArg (· * ci) e
  simpa [BitVec.mul_assoc, h] using this

theorem xs_back (k : Nat) (h : 64 ≤ k + k + k) (z : BitVec 64) : (z ^^^ (z >>> k)) ^^^ ((z ^^^ (z >>> k)) >>> k) ^^^ ((z ^^^ (z >>> k)) >>> (k + k)) = z := by
  apply BitVec.eq_of_getLsbD_eq
  intro i hi
  have e0 : z.getLsbD (k + (k + k + i)) = false := BitVec.getLsbD_of_ge _ _ (by omega)
  simp only [BitVec.getLsbD_xor, BitVec.getLsbD_ushiftRight]
  rw [show k + (k + i) = k + k + i from by omega, e0]
  cases z.getLsbD i <;> cases z.getLsbD (k + i) <;> cases z.getLsbD (k + k + i) <;> rfl

theorem xs_inj (k : Nat) (h : 64 ≤ k + k + k) {x y : BitVec 64} (e : x ^^^ (x >>> k) = y ^^^ (y >>> k)) : x = y := by
  rw [← xs_back k h x, ← xs_back k h y, e]

theorem mix_inj {x y : BitVec 64} (e : mix x = mix y) : x = y :=
  xs_inj 30 (by omega) (mul_inj c1_inv (xs_inj 27 (by omega) (mul_inj c2_inv (xs_inj 31 (by omega) e))))

theorem mix_zero : mix 0#64 = 0#64 := by decide

/-- The word with an index. -/
def word (s k : BitVec 64) : BitVec 64 := mix (s + (k + 1#64) * g)

theorem add_inj_left {a x y : BitVec 64} (e : a + x = a + y) : x = y := by
  have := congrArg (fun t => t - a) e
  simpa [BitVec.add_comm a, BitVec.add_sub_cancel] using this
theorem add_inj_right {a x y : BitVec 64} (e : x + a = y + a) : x = y := by
  rw [BitVec.add_comm x, BitVec.add_comm y] at e; exact add_inj_left e

theorem word_inj_k {s k l : BitVec 64} (e : word s k = word s l) : k = l :=
  add_inj_right (mul_inj g_inv (add_inj_left (mix_inj e)))
theorem word_inj_s {s t k : BitVec 64} (e : word s k = word t k) : s = t := add_inj_right (mix_inj e)

/-- A draw from a later index is a draw of the stream whose state was moved. -/
theorem word_move (s k d : BitVec 64) : word (s + d * g) (k - d) = word s k := by
  unfold word
  congr 1
  have e : k + 1#64 = (k - d + 1#64) + d := by
    rw [BitVec.add_assoc, BitVec.add_comm 1#64 d, ← BitVec.add_assoc, BitVec.sub_add_cancel]
  rw [e, BitVec.add_mul (x := k - d + 1#64), BitVec.add_assoc, BitVec.add_comm (d * g)]

/-- How many words are not accepted for n (n = 0 stands for 2^64). -/
def rej (n : Nat) : Nat := if n = 0 then 0 else (18446744073709551616 - n) % n
/-- A word is accepted for n. -/
def acc (n w : Nat) : Bool := n == 0 || decide (w ≤ 18446744073709551615 - rej n)
/-- What an accepted word stands for. -/
def rem (n w : Nat) : Nat := if n = 0 then w else w % n

theorem rej_lt (n : Nat) (h : 0 < n) : rej n < n := by unfold rej; rw [if_neg (by omega)]; exact Nat.mod_lt _ h

/-- Pigeons: no list of different numbers below r is longer than r. -/
theorem pigeon : ∀ (r : Nat) (l : List Nat), l.Nodup → (∀ x ∈ l, x < r) → l.length ≤ r
  | 0, l, _, h => by cases l with
    | nil => simp
    | cons a l => exact absurd (h a (by simp)) (by omega)
  | r + 1, l, hn, h => by
    have h1 := pigeon r (l.filter (· ≠ r)) (hn.filter _) (by
      intro x hx
      simp only [List.mem_filter, decide_eq_true_eq, ne_eq] at hx
      have := h x hx.1; omega)
    have h2 : l.length ≤ (l.filter (· ≠ r)).length + 1 := by
      clear h1 h
      induction l with
      | nil => simp
      | cons a l ih =>
        rw [List.nodup_cons] at hn
        by_cases e : a = r
        · subst e
          have e2 : l.filter (· ≠ a) = l := by
            rw [List.filter_eq_self]
            intro x hx
            have : x ≠ a := fun e => hn.1 (e ▸ hx)
            simpa using this
          have e3 : (a :: l).filter (· ≠ a) = l.filter (· ≠ a) := by simp
          rw [e3, e2]; simp
        · have e3 : (a :: l).filter (· ≠ r) = a :: l.filter (· ≠ r) := by simp [e]
          rw [e3]; have := ih hn.2; simp only [List.length_cons]; omega
    omega

theorem ofNat_inj {i j : Nat} (hi : i < 18446744073709551616) (hj : j < 18446744073709551616) (e : BitVec.ofNat 64 i = BitVec.ofNat 64 j) : i = j := by
  have := congrArg BitVec.toNat e
  simp only [BitVec.toNat_ofNat] at this
  omega

/-- Among the n words from an index on one at least is accepted for n. -/
theorem some_acc (s k : BitVec 64) (n : Nat) (h0 : 0 < n) (h1 : n ≤ 18446744073709551616) : ∃ j, j < n ∧ acc n (word s (k + BitVec.ofNat 64 j)).toNat = true := by
  apply Classical.byContradiction
  intro hno
  have hall : ∀ j, j < n → 18446744073709551615 - rej n < (word s (k + BitVec.ofNat 64 j)).toNat := by
    intro j hj
    have : ¬ acc n (word s (k + BitVec.ofNat 64 j)).toNat = true := fun h => hno ⟨j, hj, h⟩
    simp only [acc, Bool.or_eq_true, beq_iff_eq, decide_eq_true_eq, not_or] at this
    omega
  have hr := rej_lt n h0
  have hp := pigeon (rej n) ((List.range n).map fun j => 18446744073709551615 - (word s (k + BitVec.ofNat 64 j)).toNat) (by
    rw [List.nodup_iff_pairwise_ne, List.pairwise_map]
    have hnd : (List.range n).Nodup := List.nodup_range
    refine List.Pairwise.imp_of_mem ?_ (List.nodup_iff_pairwise_ne.1 hnd)
    intro a b ha hb hab e
    simp only [List.mem_range] at ha hb
    have b1 := hall a ha
    have b2 := hall b hb
    have t1 := (word s (k + BitVec.ofNat 64 a)).isLt
    have t2 := (word s (k + BitVec.ofNat 64 b)).isLt
    apply hab
    apply ofNat_inj (by omega) (by omega)
    apply add_inj_left (a := k)
    apply word_inj_k (s := s)
    apply BitVec.eq_of_toNat_eq
    omega) (by
    intro x hx
    simp only [List.mem_map, List.mem_range] at hx
    obtain ⟨j, hj, rfl⟩ := hx
    have b1 := hall j hj
    have t1 := (word s (k + BitVec.ofNat 64 j)).isLt
    omega)
  simp at hp
  omega

/-- A word is accepted for n if and only if its block is complete. -/
theorem rej_eq (n : Nat) (h : 1 ≤ n) (h2 : n ≤ 18446744073709551616) : rej n = 18446744073709551616 % n := by
  unfold rej
  rw [if_neg (by omega)]
  have : 18446744073709551616 = (18446744073709551616 - n) + n := by omega
  conv => rhs; rw [this]
  rw [Nat.add_mod_right]
theorem acc_iff (n x : Nat) (h : 1 ≤ n) (h2 : n ≤ 18446744073709551616) : acc n x = true ↔ x / n < 18446744073709551616 / n := by
  have hd := Nat.div_add_mod 18446744073709551616 n
  have hr := Nat.mod_lt 18446744073709551616 (show 0 < n by omega)
  rw [Nat.div_lt_iff_lt_mul (by omega), Nat.mul_comm]
  unfold acc
  rw [rej_eq n h h2]
  generalize n * (18446744073709551616 / n) = P at hd ⊢
  simp only [Bool.or_eq_true, beq_iff_eq, decide_eq_true_eq]
  omega
theorem block_iff (n x : Nat) (h : 1 ≤ n) (h2 : n ≤ 18446744073709551616) : acc n x = true ↔ x / n * n + n ≤ 18446744073709551616 := by
  rw [acc_iff n x h h2, ← Nat.succ_le_iff, Nat.le_div_iff_mul_le (by omega), Nat.succ_mul]
theorem acc_block (n x y : Nat) (h : 1 ≤ n) (h2 : n ≤ 18446744073709551616) (e : x / n = y / n) : acc n x = acc n y := by
  rw [Bool.eq_iff_iff, acc_iff n x h h2, acc_iff n y h h2, e]
theorem begin_div (n x : Nat) (h : 1 ≤ n) : (x / n * n) / n = x / n := Nat.mul_div_cancel _ (by omega)
theorem end_div (n x : Nat) (h : 1 ≤ n) : (x / n * n + (n - 1)) / n = x / n := by
  rw [Nat.add_comm, Nat.add_mul_div_right _ _ (by omega), Nat.div_eq_of_lt (by omega)]; omega
theorem begin_mod (n x : Nat) : (x / n * n) % n = 0 := Nat.mul_mod_left _ _
theorem end_mod (n x : Nat) (h : 1 ≤ n) : (x / n * n + (n - 1)) % n = n - 1 := by
  rw [Nat.add_comm, Nat.add_mul_mod_self_right, Nat.mod_eq_of_lt (by omega)]

end M
end Go.Proofs.YtabgeonlodmpiaaGreatDoor
