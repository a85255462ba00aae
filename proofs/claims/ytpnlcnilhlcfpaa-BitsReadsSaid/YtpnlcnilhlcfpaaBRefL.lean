/- marchesref18: Get, GetCode, Unsigned in one contract each. -/
import Derived.Test.YtpnlcnilhlcfpaaBRefK
import Derived.Test.YtpnlcnilhlcfpaaBItemR
set_option linter.unusedVariables false
namespace Go.Proofs.Ytpnlcnilhlcfpaa
open Go.RowKit
open M (numOf numOf_lt zeros zeros_le zeros_getD zeros_one codeA zag)

theorem Get18_to (A : Option Addr) (n cap k bad : Nat) (s : List Bool) (w : World) (h : RefR w A n cap s) (hb : bad ≠ 0 → s = []) (hk : k ≤ 64) :
    Calls Try.prog 20 #[rR A n cap bad, .int .i64 (k : Nat)] w fun r w' => ∃ A' n' cap', r = .returned (.tuple #[rR A' n' cap' (getA k s bad).2.2.2, .int .u64 ((getA k s bad).1 : Nat), .int .i64 ((getA k s bad).2.1 : Nat)]) ∧ (∀ w0, RefR w0 A n cap s → RefR w0 A' n' cap' (getA k s bad).2.2.1) ∧ Below w.heap.size w w' := by
  unfold getA
  by_cases h0 : bad = 0
  · subst h0
    rw [if_neg (by simp)]
    by_cases hl : s.length < k
    · rw [if_pos hl]
      refine (Get18_short A n cap k w (by omega) (by omega) (by have := h.len; omega)).mono ?_
      rintro e w' ⟨rfl, hb⟩
      exact ⟨none, 0, 0, rfl, fun w0 _ => RefR.none w0, hb⟩
    · rw [if_neg hl]
      refine (Get18_ok A n cap k s w h hk (by omega)).mono ?_
      rintro e w' ⟨rfl, h1, h2⟩
      exact ⟨_, _, _, rfl, fun w0 h0 => h0.cut (by omega), h2⟩
  · rw [if_pos h0]
    refine (Get18_bad A n cap bad k w (by omega) (by omega) h0).mono ?_
    rintro e w' ⟨rfl, h2⟩
    have := hb h0
    subst this
    exact ⟨A, n, cap, rfl, fun w0 h0 => h0, h2⟩
theorem GetCode18_to (A : Option Addr) (n cap k bad : Nat) (s : List Bool) (w : World) (h : RefR w A n cap s) (hb : bad ≠ 0 → s = []) (hk : k ≤ 30) :
    Calls Try.prog 21 #[rR A n cap bad, .int .i64 (k : Nat)] w fun r w' => ∃ A' n' cap', r = .returned (.tuple #[rR A' n' cap' (getC k s bad).2.2.2, .int .u64 ((getC k s bad).1 : Nat), .int .i64 ((getC k s bad).2.1 : Nat)]) ∧ (∀ w0, RefR w0 A n cap s → RefR w0 A' n' cap' (getC k s bad).2.2.1) ∧ Below w.heap.size w w' := by
  unfold getC
  by_cases h0 : bad = 0
  · subst h0
    rw [if_neg (by simp)]
    have hz := zeros_le s
    by_cases h1 : 64 < zeros s + k
    · have e : codeA k s = (M.form, 0, s) := by unfold codeA; rw [if_pos h1]
      rw [e, if_neg (show ¬ M.form = 0 by decide)]
      refine (GetCode18_err A n cap k 181 s w h hk (Or.inl ⟨h1, rfl⟩)).mono ?_
      rintro e w' ⟨rfl, hb⟩
      exact ⟨none, 0, 0, rfl, fun w0 _ => RefR.none w0, hb⟩
    by_cases h2 : zeros s = s.length ∨ s.length < 2 * zeros s + k + 1
    · have e : codeA k s = (M.short, 0, s) := by
        unfold codeA
        rw [if_neg h1]
        by_cases h3 : zeros s = s.length
        · rw [if_pos h3]
        · rw [if_neg h3, if_pos (by rw [List.length_drop]; omega)]
      rw [e, if_neg (show ¬ M.short = 0 by decide)]
      refine (GetCode18_err A n cap k 180 s w h hk (Or.inr ⟨by omega, rfl, h2⟩)).mono ?_
      rintro e w' ⟨rfl, hb⟩
      exact ⟨none, 0, 0, rfl, fun w0 _ => RefR.none w0, hb⟩
    have e : codeA k s = if zeros s + k = 64 ∧ 2 ^ k ≤ numOf ((s.drop (zeros s + 1)).take (zeros s + k)) then (M.form, 0, s) else (0, numOf ((s.drop (zeros s + 1)).take (zeros s + k)) + 2 ^ (zeros s + k) - 2 ^ k, s.drop (2 * zeros s + k + 1)) := by
      unfold codeA
      rw [if_neg h1, if_neg (by omega), if_neg (by rw [List.length_drop]; omega)]
    obtain ⟨N, eN⟩ : ∃ N, numOf ((s.drop (zeros s + 1)).take (zeros s + k)) = N := ⟨_, rfl⟩
    have hN : N < 2 ^ (zeros s + k) := by
      rw [← eN]
      have := numOf_lt ((s.drop (zeros s + 1)).take (zeros s + k))
      rw [List.length_take, List.length_drop, Nat.min_eq_left (by omega)] at this
      exact this
    have hp : 2 ^ k ≤ 2 ^ (zeros s + k) := Nat.pow_le_pow_right (by decide) (by omega)
    have hiff : (zeros s + k = 64 ∧ 2 ^ k ≤ N) ↔ 18446744073709551616 ≤ N + 2 ^ (zeros s + k) - 2 ^ k := by
      constructor
      · rintro ⟨e64, hle⟩
        rw [e64, show (2 : Nat) ^ 64 = 18446744073709551616 from rfl]
        omega
      · intro hle
        have h64 : zeros s + k = 64 := by
          refine Nat.le_antisymm (by omega) (Nat.le_of_not_lt fun hlt => ?_)
          have : 2 ^ (zeros s + k) ≤ 2 ^ 63 := Nat.pow_le_pow_right (by decide) (by omega)
          have q63 : (2 : Nat) ^ 63 = 9223372036854775808 := rfl
          have hp4 : 0 < 2 ^ k := Nat.two_pow_pos k
          omega
        refine ⟨h64, ?_⟩
        rw [h64, show (2 : Nat) ^ 64 = 18446744073709551616 from rfl] at hle
        omega
    rw [eN] at e
    refine (GetCode18_run A n cap k (zeros s + k) (2 * zeros s + k + 1) s w h hk rfl (by omega) rfl (by omega) N eN.symm).mono ?_
    rintro r w' ⟨hr, h3, h4⟩
    rcases hr with ⟨hbig, rfl⟩ | ⟨hsm, rfl⟩
    · have e2 : codeA k s = (M.form, 0, s) := by rw [e, if_pos (hiff.2 hbig)]
      rw [e2, if_neg (show ¬ M.form = 0 by decide)]
      exact ⟨none, 0, 0, rfl, fun w0 _ => RefR.none w0, h4⟩
    · have e2 : codeA k s = (0, N + 2 ^ (zeros s + k) - 2 ^ k, s.drop (2 * zeros s + k + 1)) := by rw [e, if_neg (fun hh => by have := hiff.1 hh; omega)]
      rw [e2, if_pos rfl]
      exact ⟨_, _, _, rfl, fun w0 h0 => h0.cut (by omega), h4⟩
  · rw [if_pos h0]
    refine (GetCode18_bad A n cap bad k w (by omega) (by omega) h0).mono ?_
    rintro e w' ⟨rfl, h2⟩
    have := hb h0
    subst this
    exact ⟨A, n, cap, rfl, fun w0 h0 => h0, h2⟩
theorem Unsigned_ok (V : Nat) (hV : V < 18446744073709551616) (w : World) :
    Calls Try.prog 22 #[.int .u64 (V : Nat)] w fun e w' => e = .returned (.int .i64 (sOf (zag V))) ∧ w = w' := by
  by_cases h : V % 2 = 0
  · have k1 : ((V : Int) % 2 == 0) = true := by rw [beq_iff_eq]; omega
    have k2 : (V % 2 == 0) = true := by rw [beq_iff_eq]; exact h
    have e : (V : Int) / 2 = sOf (zag V) := by
      unfold sOf zag
      rw [if_pos h, if_pos (by omega)]
      omega
    have HE := Lib.hid e; clear e
    go_enter Try.func22, Try.ntmps22
    go_wp2_with fail
    go_ret
    exact ⟨congrArg (fun z : Int => Ending.returned (.int .i64 z)) HE.out, rfl⟩
  · have k1 : ((V : Int) % 2 == 0) = false := by rw [beq_eq_false_iff_ne]; omega
    have k2 : (V % 2 == 0) = false := by rw [beq_eq_false_iff_ne]; exact h
    have e : -((V : Int) / 2) - 1 = sOf (zag V) := by
      unfold sOf zag
      rw [if_neg h, if_neg (by omega)]
      omega
    have HE := Lib.hid e; clear e
    go_enter Try.func22, Try.ntmps22
    go_wp2_with fail
    go_ret
    exact ⟨congrArg (fun z : Int => Ending.returned (.int .i64 z)) HE.out, rfl⟩
end Go.Proofs.Ytpnlcnilhlcfpaa
