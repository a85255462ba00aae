/- Pick, fit. -/
import Derived.Test.YtdekcilfkelhlaaAItemP
set_option linter.unusedVariables false
namespace Go.Proofs.Ytdekcilfkelhlaa
open Go.RowKit

theorem Pick_ok (k n : Int) (w : World) (n1 : 1 ≤ n) (n2 : n ≤ 1000000) (k0 : -9223372036854775808 ≤ k) (k1 : k ≤ 9223372036854775807) :
    Calls Try.prog 58 #[.int .i64 k, .int .i64 n] w fun e w' => e = .returned (.int .i64 (k % n)) ∧ w = w' := by
  have hlt := Int.emod_lt_of_pos k (show 0 < n by omega)
  have hge := Int.emod_nonneg k (show n ≠ 0 by omega)
  by_cases h : 0 ≤ k
  · go_enter Try.func58, Try.ntmps58
    go_wp2_with fail
    all_goals first | (exfalso; omega) | skip
    go_ret
    exact ⟨rfl, rfl⟩
  · obtain ⟨c, hc⟩ : ∃ c, c = (-k).tmod n := ⟨_, rfl⟩
    have e1 : k.tmod n = -c := by rw [hc, Int.neg_tmod, Int.neg_neg]
    have e2 : c = (-k) % n := by rw [hc, Int.tmod_eq_emod_of_nonneg (by omega)]
    have c1 := Int.emod_lt_of_pos (-k) (show 0 < n by omega)
    have c0 := Int.emod_nonneg (-k) (show n ≠ 0 by omega)
    rw [← e2] at c1 c0
    have e3 : k % n = if c = 0 then 0 else n - c := by
      have h1 : k = n * -((-k) / n) + (-c) := by
        have := Int.mul_ediv_add_emod (-k) n
        rw [← e2] at this
        rw [Int.mul_neg]; omega
      have h2 : k % n = (-c) % n := by
        conv => lhs; rw [h1, Int.add_comm, Int.add_mul_emod_self_left]
      rw [h2]
      split
      · rename_i h0; rw [h0]; simp
      · have : (-c) % n = (-c + n) % n := by rw [Int.add_emod_right]
        rw [this, Int.emod_eq_of_lt (by omega) (by omega)]; omega
    have H := Lib.hid e3
    clear e2 hc hlt hge e3
    go_enter Try.func58, Try.ntmps58
    go_wp2_with fail
    · go_ret
      rw [H.out, if_neg (by omega)]
      exact ⟨ret_congr (congrArg (Value.int .i64) (by omega)), rfl⟩
    · go_ret
      rw [H.out, if_pos (by omega)]
      exact ⟨ret_congr (congrArg (Value.int .i64) (by omega)), rfl⟩

theorem index8_ok (i : Nat) (hi : i < 5) (w : World) : (Instr.index 96 (.agg #[.int .i64 1, .int .i64 2, .int .i64 3, .int .i64 17, .int .i64 256]) (.int .u8 (i : Nat))).run Try.prog w = .ok (.int .i64 (ksz (6 + i) : Nat)) w := by
  have x0 : (Instr.index 96 (.agg #[.int .i64 1, .int .i64 2, .int .i64 3, .int .i64 17, .int .i64 256]) (.int .u8 0)).run Try.prog w = .ok (.int .i64 1) w := by kernel_rfl
  have x1 : (Instr.index 96 (.agg #[.int .i64 1, .int .i64 2, .int .i64 3, .int .i64 17, .int .i64 256]) (.int .u8 1)).run Try.prog w = .ok (.int .i64 2) w := by kernel_rfl
  have x2 : (Instr.index 96 (.agg #[.int .i64 1, .int .i64 2, .int .i64 3, .int .i64 17, .int .i64 256]) (.int .u8 2)).run Try.prog w = .ok (.int .i64 3) w := by kernel_rfl
  have x3 : (Instr.index 96 (.agg #[.int .i64 1, .int .i64 2, .int .i64 3, .int .i64 17, .int .i64 256]) (.int .u8 3)).run Try.prog w = .ok (.int .i64 17) w := by kernel_rfl
  have x4 : (Instr.index 96 (.agg #[.int .i64 1, .int .i64 2, .int .i64 3, .int .i64 17, .int .i64 256]) (.int .u8 4)).run Try.prog w = .ok (.int .i64 256) w := by kernel_rfl
  have : i = 0 ∨ i = 1 ∨ i = 2 ∨ i = 3 ∨ i = 4 := by omega
  rcases this with rfl | rfl | rfl | rfl | rfl
  · exact x0
  · exact x1
  · exact x2
  · exact x3
  · exact x4
/-- The symbol of an item that is made to fit. -/
def fitS (kind m : Nat) (s : Int) : Int := if kind % 4 = 3 then s else s % (ksz (6 + m % 5) : Nat)
theorem fit_bd (kind m : Nat) (s : Int) (s0 : -9223372036854775808 ≤ s) (s1 : s ≤ 9223372036854775807) : (kind % 4 ≠ 3 → 0 ≤ fitS kind m s ∧ fitS kind m s < ksz (6 + m % 5)) ∧ -9223372036854775808 ≤ fitS kind m s ∧ fitS kind m s ≤ 9223372036854775807 := by
  have hb := ksz_bd (6 + m % 5)
  have h1 := Int.emod_nonneg s (show ((ksz (6 + m % 5) : Nat) : Int) ≠ 0 by omega)
  have h2 := Int.emod_lt_of_pos s (show (0 : Int) < ((ksz (6 + m % 5) : Nat) : Int) by omega)
  unfold fitS
  split
  · rename_i hk; exact ⟨fun h => absurd hk h, s0, s1⟩
  · exact ⟨fun _ => ⟨h1, h2⟩, by omega, by omega⟩
theorem fit_same (kind m : Nat) (s : Int) (h : kind % 4 ≠ 3 → 0 ≤ s ∧ s < ksz (6 + m % 5)) : fitS kind m s = s := by
  unfold fitS
  split
  · rfl
  · rename_i hk
    have := h hk
    exact Int.emod_eq_of_lt this.1 this.2
set_option maxRecDepth 100000 in
set_option maxHeartbeats 6000000 in
theorem fit_int (kind m : Nat) (s : Int) (w : World) (h1 : kind < 256) (h2 : m < 256) (hk : kind % 4 = 3) :
    Calls Try.prog 31 #[itemV kind m s] w fun e w' => e = .returned (itemV kind m s) ∧ Below w.heap.size w w' := by
  unfold itemV
  have hk' : (((kind : Int) % 4) != 3) = false := by rw [bne_eq_false_iff_eq]; omega
  go_enter Try.func31, Try.ntmps31
  go_wp2_with fail
  refine bodyPost_ret (v := .agg #[.int .u8 (kind : Int), .int .u8 (m : Int), .int .i64 s]) (by simp [results, Try.results31, go_sem]) rfl ⟨rfl, ?_⟩
  exact (((Below.refl _ _).alloc (Nat.le_refl _) _).alloc (by simp) _)
set_option maxRecDepth 100000 in
set_option maxHeartbeats 6000000 in
theorem fit_sym (kind m n : Nat) (s r : Int) (w : World) (h1 : kind < 256) (h2 : m < 256) (s0 : -9223372036854775808 ≤ s) (s1 : s ≤ 9223372036854775807) (hk : kind % 4 ≠ 3) (hn : n = ksz (6 + m % 5)) (hr : s % (n : Int) = r) :
    Calls Try.prog 31 #[itemV kind m s] w fun e w' => e = .returned (itemV kind m r) ∧ Below w.heap.size w w' := by
  unfold itemV
  have hk' : (((kind : Int) % 4) != 3) = true := by rw [bne_iff_ne]; omega
  have hb := ksz_bd (6 + m % 5)
  rw [← hn] at hb
  have hp := fun w => Pick_ok s (n : Int) w (by omega) (by omega) s0 s1
  rw [hr] at hp
  obtain ⟨q, eq⟩ : ∃ q, q = m % 5 := ⟨_, rfl⟩
  have hq : q < 5 := by omega
  have ht : (m : Int).tmod 5 = (q : Nat) := by rw [Int.tmod_eq_emod_of_nonneg (by omega)]; omega
  have ht2 : (m : Int) % 5 = (q : Nat) := by omega
  have hix := index8_ok q hq
  rw [eq, ← hn, ← eq] at hix
  have H := Lib.hid hp
  clear hp hr hb hn eq
  go_enter Try.func31, Try.ntmps31
  go_wp2_with fail
  go_region_with (first
    | ((refine (H.out _).mono ?_)
       (rintro e w' ⟨rfl, rfl⟩))
    | ((refine (sizes_ok _).mono ?_)
       (rintro e w' ⟨rfl, rfl⟩)))
  all_goals
    go_wp2_with fail
    refine bodyPost_ret (v := .agg #[.int .u8 (kind : Int), .int .u8 (m : Int), .int .i64 r]) (by simp [results, Try.results31, go_sem]) rfl ⟨rfl, ?_⟩
    exact ((((Below.refl _ _).alloc (Nat.le_refl _) _).alloc (by simp) _).alloc (by simp; omega) _).drew
theorem fit_ok (kind m : Nat) (s : Int) (w : World) (h1 : kind < 256) (h2 : m < 256) (s0 : -9223372036854775808 ≤ s) (s1 : s ≤ 9223372036854775807) :
    Calls Try.prog 31 #[itemV kind m s] w fun e w' => e = .returned (itemV kind m (fitS kind m s)) ∧ Below w.heap.size w w' := by
  by_cases hk : kind % 4 = 3
  · have : fitS kind m s = s := if_pos hk
    rw [this]
    exact fit_int kind m s w h1 h2 hk
  · have : fitS kind m s = s % (ksz (6 + m % 5) : Nat) := if_neg hk
    rw [this]
    exact fit_sym kind m _ s _ w h1 h2 s0 s1 hk rfl rfl
end Go.Proofs.Ytdekcilfkelhlaa
