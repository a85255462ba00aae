/- RngFair. -/
import Derived.Test.YtcljjpdggbkjfaaAwake
import Derived.Deep.DeepCutAuto
namespace Go.Proofs.Ytcljjpdggbkjfaa
open Go.RowKit

theorem foldV_ok {x n : Int} (h : foldOk x n = true) (n0 : 1 ≤ n) (x0 : 0 ≤ x) : foldV x n = x % n := by
  unfold foldV M.rem
  rw [h, if_pos rfl, if_neg (by omega), Int.natCast_emod]
  congr 1 <;> omega
theorem foldV_no {x n : Int} (h : foldOk x n = false) : foldV x n = 0 := by unfold foldV; rw [h]; rfl

/-- What the theorem says of a word and a number, as the walk asks it. -/
theorem fair_plain (x n : Int) (x0 : 0 ≤ x) (x1 : x ≤ 18446744073709551615) (n0 : 1 ≤ n) (n1 : n ≤ 9223372036854775807) :
    ∃ b : Int, x / n * n = b ∧ 0 ≤ b ∧ b ≤ x ∧ x - b = x % n ∧ x - b < n ∧ foldOk b n = foldOk x n ∧ foldV b n = 0 ∧
      ((foldOk x n = true ∧ b + (n - 1) ≤ 18446744073709551615 ∧ foldV x n = x - b ∧ foldOk (b + n - 1) n = true ∧ foldV (b + n - 1) n = n - 1) ∨
       (foldOk x n = false ∧ 18446744073709551615 < b + (n - 1) ∧ foldV x n = 0)) := by
  obtain ⟨X, rfl⟩ := Int.eq_ofNat_of_zero_le x0
  obtain ⟨N, rfl⟩ := Int.eq_ofNat_of_zero_le (show 0 ≤ n by omega)
  have hN : 1 ≤ N := by omega
  have hN2 : N ≤ 18446744073709551616 := by omega
  have hd := Nat.div_add_mod X N
  have hm := Nat.mod_lt X (show 0 < N by omega)
  rw [Nat.mul_comm] at hd
  refine ⟨((X / N * N : Nat) : Int), by rw [Int.natCast_mul, Int.natCast_ediv], by omega, by omega, by omega, by omega, ?_, ?_, ?_⟩
  · unfold foldOk
    rw [Int.toNat_natCast, Int.toNat_natCast, Int.toNat_natCast]
    exact M.acc_block N _ _ hN hN2 (M.begin_div N X hN)
  · cases h : foldOk ((X / N * N : Nat) : Int) N with
    | false => exact foldV_no h
    | true => rw [foldV_ok h (by omega) (by omega), ← Int.natCast_emod, M.begin_mod]; rfl
  · have hb := M.block_iff N X hN hN2
    have ho : foldOk (X : Int) N = M.acc N X := by unfold foldOk; rw [Int.toNat_natCast, Int.toNat_natCast]
    cases h : foldOk (X : Int) N with
    | true =>
      have hb2 := hb.1 (by rw [← ho, h])
      have e : ((X / N * N : Nat) : Int) + (N : Int) - 1 = ((X / N * N + (N - 1) : Nat) : Int) := by omega
      have hl : foldOk (((X / N * N : Nat) : Int) + (N : Int) - 1) N = true := by
        rw [e]
        unfold foldOk
        rw [Int.toNat_natCast, Int.toNat_natCast, M.acc_block N _ X hN hN2 (M.end_div N X hN), ← ho, h]
      refine Or.inl ⟨rfl, by omega, ?_, hl, ?_⟩
      · rw [foldV_ok h (by omega) (by omega)]; omega
      · rw [foldV_ok hl (by omega) (by omega), e, ← Int.natCast_emod, M.end_mod N X hN]; omega
    | false =>
      refine Or.inr ⟨rfl, ?_, foldV_no h⟩
      have : ¬ X / N * N + N ≤ 18446744073709551616 := by
        intro hc
        have := hb.2 hc
        rw [← ho, h] at this
        exact absurd this (by decide)
      omega

theorem wrap_end {b M : Int} (h : 1 ≤ b + M) (h2 : b + M ≤ 18446744073709551616) : IntKind.u64.wrap (IntKind.u64.wrap (b + M) - 1) = b + M - 1 := by
  rw [IntKind.wrap_u64, IntKind.wrap_u64]; omega

set_option maxRecDepth 100000 in
set_option maxHeartbeats 1000000 in
theorem fair_walk (x n : Int) (w : World) (x0 : 0 ≤ x) (x1 : x ≤ 18446744073709551615) (n0 : -9223372036854775808 ≤ n) (n1 : n ≤ 9223372036854775807) :
    Calls Try.prog 3 #[.int .u64 x, .int .i64 n] w fun e w' => e = .returned (.bool true) ∧ Below w.heap.size w w' := by
  go_enter Try.func3, Try.ntmps3
  go_upto_if 15 with fail
  go_cut [1] (fun v wx => ∃ N : Int, v = .int .i64 N ∧ -1 ≤ N ∧ N ≤ 9223372036854775807 ∧ wx = w)
  case first =>
    by_cases h : n < 1
    · go_wp2_with fail
      go_meet
      (refine ⟨_, rfl, ?_, ?_, rfl⟩ <;> omega)
    · go_wp2_with fail
      go_meet
      (refine ⟨_, rfl, ?_, ?_, rfl⟩ <;> omega)
  case rest =>
    obtain ⟨N, rfl, hN0, hN1, rfl⟩ := hcut
    go_upto_region 3 with fail
    go_cut [1] (fun v wy => ∃ M : Int, v = .int .i64 M ∧ 1 ≤ M ∧ M ≤ 9223372036854775807 ∧ wy = wc)
    case first =>
      go_wp2_with fail
      all_goals go_meet
      all_goals (refine ⟨_, rfl, ?_, ?_, rfl⟩ <;> omega)
    case rest =>
      clear hN0 hN1
      obtain ⟨M, rfl, hM0, hM1, rfl⟩ := hcut
      obtain ⟨b, hb, b0, bx, hm, hlt, hbo, hbv, hcase⟩ := fair_plain x M x0 x1 hM0 hM1
      have hwb : IntKind.u64.wrap b = b := Bv.wrap_in b0 (by omega)
      rcases hcase with ⟨h1, h2, h3, h4, h5⟩ | ⟨h1, h2, h3⟩
      · have c1 := fold_at x M (x - b) true wc x0 x1 hM0 hM1 h3 h1
        have c2 := fold_at b M 0 true wc b0 (by omega) hM0 hM1 hbv (hbo.trans h1)
        have c3 := fold_at (b + M - 1) M (M - 1) true wc (by omega) (by omega) hM0 hM1 h5 h4
        have H := Lib.hid (And.intro c1 (And.intro c2 c3))
        have HA := Lib.hid (awake_calls wc)
        clear c1 c2 c3 h1 h3 h4 h5 hbo hbv hm
        go_wp2_with fail
        refine H.out.1.mono ?_
        rintro e w' ⟨rfl, rfl⟩
        go_wp2_with fail
        refine H.out.2.1.mono ?_
        rintro e w' ⟨rfl, rfl⟩
        go_wp2_with fail
        rw [wrap_end (b := b) (M := M) (by omega) (by omega)]
        refine H.out.2.2.mono ?_
        rintro e w' ⟨rfl, rfl⟩
        go_wp2_with fail
        refine HA.out.mono ?_
        rintro e w' ⟨rfl, hb⟩
        go_wp2_with fail
        go_ret
        exact ⟨rfl, ‹_›⟩
      · have c1 := fold_at x M 0 false wc x0 x1 hM0 hM1 h3 h1
        have c2 := fold_at b M 0 false wc b0 (by omega) hM0 hM1 hbv (hbo.trans h1)
        have hm2 : M ≤ 18446744073709551615 - x ∨ 18446744073709551615 - x < M := by omega
        have hm3 : 18446744073709551615 - x < M := by omega
        have H := Lib.hid (And.intro c1 c2)
        have HA := Lib.hid (awake_calls wc)
        clear c1 c2 h1 h3 hbo hbv hm hm2
        go_wp2_with fail
        refine H.out.1.mono ?_
        rintro e w' ⟨rfl, rfl⟩
        go_wp2_with fail
        refine H.out.2.mono ?_
        rintro e w' ⟨rfl, rfl⟩
        go_wp2_with fail
        refine HA.out.mono ?_
        rintro e w' ⟨rfl, hb⟩
        go_wp2_with fail
        go_ret
        exact ⟨rfl, ‹_›⟩
end Go.Proofs.Ytcljjpdggbkjfaa
