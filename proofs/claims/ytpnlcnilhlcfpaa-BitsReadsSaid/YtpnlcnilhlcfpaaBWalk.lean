/- The walks of size, code and Cost of package bits. -/
import Derived.Test.YtpnlcnilhlcfpaaChecked
import Derived.WalkKit
import Derived.WalkSpells
import Derived.WalkLawsBesides
import Derived.Lib.Hide
import Derived.Deep.QuietTactic
import Derived.BigQuiet
import Derived.Deep.LoopGhost
import Derived.Deep.DeepCutAuto
import Derived.Test.YtpnlcnilhlcfpaaBMath
import Derived.Test.YtpnlcnilhlcfpaaBv
import Derived.Test.YtpnlcnilhlcfpaaAid
set_option linter.unusedVariables false
namespace Go.Proofs.Ytpnlcnilhlcfpaa
open Go.RowKit

theorem ret2_congr {a b a' b' : Value} (h : a = a') (h' : b = b') : Ending.returned (.tuple #[a, b]) = .returned (.tuple #[a', b']) := by rw [h, h']

theorem size_over (n : Int) (w : World) : Calls Try.prog 58 #[.int .u64 n, .bool true] w fun e w' => e = .returned (.int .i64 65) ∧ w = w' := by
  go_enter Try.func58, Try.ntmps58
  go_wp2_with fail
  go_ret
  exact ⟨rfl, rfl⟩

theorem size_calls (n : Nat) (w : World) (h : n < 18446744073709551616) : Calls Try.prog 58 #[.int .u64 (n : Int), .bool false] w fun e w' => e = .returned (.int .i64 (M.blen n : Nat)) ∧ w = w' := by
  have hb : M.blen n ≤ 64 := M.blen_le (by simpa using h)
  obtain ⟨b, hbn⟩ : ∃ b, b = M.blen n := ⟨_, rfl⟩
  rw [← hbn] at hb ⊢
  have HB := Lib.hid hbn; clear hbn
  go_enter Try.func58, Try.ntmps58
  go_wp2_with fail
  go_loopg [0, 5] (n + 1) (fun g v k wr => ∃ m : Nat, g = m + 1 ∧ m < 18446744073709551616 ∧ v = .int .u64 (m : Int) ∧ k = .int .i64 ((b : Int) - (M.blen m : Nat)) ∧ M.blen m ≤ b ∧ wr = w)
  case atStart => exact ⟨n, rfl, h, rfl, by rw [HB.out]; simp, by rw [HB.out]; exact Nat.le_refl _, rfl⟩
  case round =>
    obtain ⟨m, hg, hm, rfl, rfl, hle, rfl⟩ := hrel
    have Hg := Lib.hid hg; clear hg
    obtain ⟨c, hc⟩ : ∃ c, c = M.blen m := ⟨_, rfl⟩
    rw [← hc] at hle ⊢
    have HC := Lib.hid hc; clear hc
    by_cases hpos : 0 < m
    · go_wp2_with fail
      go_roundg (m / 2 + 1)
      case measure => have := Hg.out; omega
      case rel =>
        have e := M.blen_half hpos
        have e2 := HC.out
        exact ⟨m / 2, rfl, by omega, by simp, by congr 1; omega, by omega, rfl⟩
    · have hm0 : m = 0 := by omega
      subst hm0
      have hc0 : c = 0 := HC.out
      subst hc0
      go_wp2_with fail
      go_ret
      exact ⟨by simp, rfl⟩

theorem pow_lo {k : Nat} (hk : k ≤ 30) : 1 ≤ 2 ^ k ∧ 2 ^ k ≤ 1073741824 := by
  have h1 : 0 < 2 ^ k := Nat.pow_pos (by decide)
  have h2 : 2 ^ k ≤ 2 ^ 30 := Nat.pow_le_pow_right (by decide) hk
  omega

theorem size_at (z r : Int) (b : Bool) (w : World) (h : (b = true ∧ r = 65) ∨ (b = false ∧ 0 ≤ z ∧ z ≤ 18446744073709551615 ∧ r = (M.blen z.toNat : Nat))) :
    Calls Try.prog 58 #[.int .u64 z, .bool b] w fun e w' => e = .returned (.int .i64 r) ∧ w = w' := by
  rcases h with ⟨rfl, rfl⟩ | ⟨rfl, h0, h1, rfl⟩
  · exact size_over z w
  · obtain ⟨n, rfl⟩ := Int.eq_ofNat_of_zero_le h0
    exact size_calls n w (by omega)
theorem wrap_pow {k : Nat} (hk : k ≤ 63) : IntKind.u64.wrap ((2 : Int) ^ k) = ((2 ^ k : Nat) : Int) := by
  have h2 : 2 ^ k ≤ 2 ^ 63 := Nat.pow_le_pow_right (by decide) hk
  rw [show ((2 : Int) ^ k) = ((2 ^ k : Nat) : Int) from (Int.natCast_pow 2 k).symm]
  generalize 2 ^ k = P at h2
  exact Bv.wrap_in (by omega) (by omega)

set_option maxHeartbeats 400000 in
theorem code_calls (n k : Nat) (w : World) (h : n < 18446744073709551616) (hk : k ≤ 30) :
    Calls Try.prog 45 #[.int .u64 (n : Int), .int .i64 (k : Int)] w fun e w' => e = .returned (.tuple #[.int .i64 (M.cq n k : Nat), .int .u64 (M.cr n k : Nat)]) ∧ ∃ m, w' = w.drewN m := by
  obtain ⟨p1, p2⟩ := pow_lo hk
  obtain ⟨c1, c2, c3, c4⟩ := M.cq_bd n k (by simpa using h) hk
  have hcr : M.cr n k = n + 2 ^ k - 2 ^ (M.cq n k + k) := rfl
  have hw := wrap_pow (k := k) (by omega)
  obtain ⟨T, hT⟩ : ∃ T, T = 2 ^ k := ⟨_, rfl⟩
  rw [← hT] at p1 p2 c1 c3 c4 hcr hw
  have HT := Lib.hid hT
  obtain ⟨q, hq⟩ : ∃ q, q = M.cq n k := ⟨_, rfl⟩
  obtain ⟨r, hr⟩ : ∃ r, r = M.cr n k := ⟨_, rfl⟩
  rw [← hq] at c1 c2 c3 c4 hcr ⊢
  rw [← hr] at hcr ⊢
  clear hT hq hr
  by_cases hS : n + T < 18446744073709551616
  · have hL : M.blen (n + T) ≤ 64 := M.blen_le (by simpa using hS)
    have hw2 := wrap_pow (k := q + k) (by omega)
    obtain ⟨V, hV⟩ : ∃ V, V = 2 ^ (q + k) := ⟨_, rfl⟩
    rw [← hV] at c3 hcr hw2
    have HC := Lib.hid (And.intro c1 (And.intro hcr hV))
    have hqk : (q : Int) + k ≤ 63 := by omega
    have hne : ((q : Int) + k == 64) = false := by rw [beq_eq_false_iff_ne]; omega
    have hc := size_at ((n : Int) + T) ((q : Int) + k + 1) false w (Or.inr ⟨rfl, by omega, by omega, by rw [show ((n : Int) + T).toNat = n + T from by omega]; omega⟩)
    have HS := Lib.hid hc
    have hVT : V ≤ n + T := c3
    clear c1 c2 c3 c4 hcr hV hL hc
    go_enter Try.func45, Try.ntmps45
    go_wp2_with fail
    rw [show decide ((n : Int) + (T : Int) < (n : Int)) = false from decide_eq_false (by omega)]
    refine HS.out.mono ?_
    rintro e w' ⟨rfl, rfl⟩
    go_wp2_with fail
    have hwq : IntKind.i64.wrap ((q : Int) + (k : Int)) = (q : Int) + (k : Int) := IntWalk.i64_in _ (by omega)
    have h0q : (0 : Int) ≤ (q : Int) + (k : Int) := by omega
    have htn : ((q : Int) + (k : Int)).toNat = q + k := by omega
    go_quiet (fail)
    clear hwq htn
    go_wp2
    go_ret2
    refine ⟨ret2_congr rfl (congrArg (Value.int .u64) ?_), nq, rfl⟩
    have := HC.out.2.1
    omega
  · have e64 : q + k = 64 := by
      have : 2 ^ 64 < 2 ^ (q + k + 1) := by
        have e : (18446744073709551616 : Nat) = 2 ^ 64 := rfl
        omega
      rcases Nat.lt_or_ge (q + k) 64 with h1 | h1
      · have : 2 ^ (q + k + 1) ≤ 2 ^ 64 := Nat.pow_le_pow_right (by decide) (by omega)
        omega
      · omega
    rw [e64] at hcr
    have hr2 : (r : Int) = (n : Int) + T - 18446744073709551616 := by
      have e : (18446744073709551616 : Nat) = 2 ^ 64 := rfl
      omega
    have hs : IntKind.u64.wrap ((n : Int) + (T : Int)) = (r : Int) := by rw [IntKind.wrap_u64]; omega
    have hdc : decide (r < n) = true := decide_eq_true (by omega)
    have hc := size_at (r : Int) 65 true w (Or.inl ⟨rfl, rfl⟩)
    have HS := Lib.hid (And.intro hc hdc)
    have hq64 : (q : Int) = 64 - (k : Int) := by omega
    rw [hq64]
    have k30 : (k : Int) ≤ 30 := by omega
    have hrb : (r : Int) ≤ 18446744073709551615 := by omega
    clear c1 c2 c3 c4 hcr hc hdc hr2 e64 hq64 hS
    go_enter Try.func45, Try.ntmps45
    go_wp2_with fail
    rw [HS.out.2]
    refine HS.out.1.mono ?_
    rintro e w' ⟨rfl, rfl⟩
    go_wp2_with fail
    go_ret2
    exact ⟨rfl, 0, rfl⟩

theorem Cost_no (n k : Int) (w : World) (h : k < 0 ∨ 30 < k) : Calls Try.prog 31 #[.int .u64 n, .int .i64 k] w fun e w' => e = .returned (.tuple #[.int .i64 0, .int .i64 2]) ∧ w = w' := by
  by_cases h0 : k < 0
  · go_enter Try.func31, Try.ntmps31
    go_wp2_with fail
    go_ret2
    exact ⟨rfl, rfl⟩
  · have h1 : 30 < k := by omega
    go_enter Try.func31, Try.ntmps31
    go_wp2_with fail
    go_ret2
    exact ⟨rfl, rfl⟩

/-- The number of bits of a code. -/
def costN (n k : Nat) : Nat := 2 * M.cq n k + k + 1

theorem Cost_calls (n k : Nat) (w : World) (h : n < 18446744073709551616) (hk : k ≤ 30) :
    Calls Try.prog 31 #[.int .u64 (n : Int), .int .i64 (k : Int)] w fun e w' => e = .returned (.tuple #[.int .i64 (costN n k : Nat), .int .i64 0]) ∧ ∃ m, w' = w.drewN m := by
  obtain ⟨c1, c2, c3, c4⟩ := M.cq_bd n k (by simpa using h) hk
  have hc := code_calls n k w h hk
  unfold costN
  generalize M.cq n k = q at *
  have HC := Lib.hid hc
  have d1 : decide ((k : Int) < 0) = false := by simp
  have d2 : decide ((30 : Int) < (k : Int)) = false := by simp; omega
  clear c1 c3 c4 hc
  go_enter Try.func31, Try.ntmps31
  go_wp2_with fail
  refine HC.out.mono ?_
  rintro e w' ⟨rfl, m, rfl⟩
  go_wp2_with fail
  go_ret2
  refine ⟨ret2_congr (congrArg (Value.int .i64) ?_) rfl, m, rfl⟩
  omega
end Go.Proofs.Ytpnlcnilhlcfpaa
