/- The reference's Fold is the program's. -/
import Derived.Test.YtabgeonlodmpiaaGreatDoorDRef
import Derived.Test.YtabgeonlodmpiaaGreatDoorDNew
import Derived.Test.YtabgeonlodmpiaaGreatDoorMore
set_option linter.unusedVariables false
namespace Go.Proofs.YtabgeonlodmpiaaGreatDoor
open Go.RowKit

theorem neg_mod_all (n : Nat) (h : 1 ≤ n) (h2 : n ≤ 18446744073709551616) : (18446744073709551616 - n) % n = 18446744073709551616 % n := by
  have e : 18446744073709551616 = (18446744073709551616 - n) + n := by omega
  have := Nat.add_mod_right (18446744073709551616 - n) n
  rw [← e] at this
  exact this.symm
theorem acc_iff (x n : Nat) (h : 1 ≤ n) (h2 : n < 9223372036854775808) (hx : x < 18446744073709551616) : M.acc n x = decide (x < 18446744073709551616 / n * n) := by
  have e := Nat.div_add_mod' 18446744073709551616 n
  have hl := Nat.mod_lt 18446744073709551616 (show 0 < n by omega)
  unfold M.acc M.rej
  rw [if_neg (by omega), neg_mod_all n h (by omega)]
  have e0 : (n == 0) = false := by simp; omega
  rw [e0, Bool.false_or]
  apply decide_eq_decide.2
  obtain ⟨r, hr⟩ : ∃ r, r = 18446744073709551616 % n := ⟨_, rfl⟩
  obtain ⟨q, hq⟩ : ∃ q, q = 18446744073709551616 / n * n := ⟨_, rfl⟩
  rw [← hr] at e hl ⊢
  rw [← hq] at e ⊢
  omega
theorem rfold_no (x n : Int) (w : World) (h : n < 1) :
    Calls Tryz.prog 9 #[.int .u64 x, .int .i64 n] w fun e w' => e = .returned (.tuple #[.int .i64 0, .bool false]) ∧ Below w.heap.size w w' := by
  go_enter Tryz.func9, Tryz.ntmps9
  go_wp2_with fail
  go_ret2
  exact ⟨rfl, Below.refl _ _⟩
set_option maxRecDepth 100000 in
theorem rfold_calls (x n : Int) (w : World) (h0 : 0 ≤ x) (h1 : x ≤ 18446744073709551615) (n0 : 1 ≤ n) (n1 : n ≤ 9223372036854775807) :
    Calls Tryz.prog 9 #[.int .u64 x, .int .i64 n] w fun e w' => e = .returned (.tuple #[.int .i64 (foldV x n), .bool (foldOk x n)]) ∧ Below w.heap.size w w' := by
  obtain ⟨a, rfl⟩ : ∃ a : Nat, x = (a : Int) := ⟨x.toNat, by omega⟩
  obtain ⟨k, rfl⟩ : ∃ k : Nat, n = (k : Int) := ⟨n.toNat, by omega⟩
  have eo : foldOk (a : Int) (k : Int) = decide (a < 18446744073709551616 / k * k) := acc_iff a k (by omega) (by omega) (by omega)
  have N := NewInt_n w k (by omega) (by omega)
  obtain ⟨w1, e1⟩ : ∃ w1, w1 = (w.alloc (.cells #[.int .u64 (k : Nat)] 62)).alloc (.cells #[.bool false, .slice (some ⟨w.heap.size, 0, none⟩) 1 1] 57) := ⟨_, rfl⟩
  rw [← e1] at N
  have s0 : (w.alloc (.cells #[.int .u64 (k : Nat)] 62)).heap.size = w.heap.size + 1 := by simp
  have s1 : w1.heap.size = w.heap.size + 2 := by rw [e1]; simp
  have b1 : Below w.heap.size w w1 := by rw [e1]; exact ((Below.refl _ _).alloc (Nat.le_refl _) _).alloc (by simp) _
  have hN : InN w1 (w.heap.size + 1) k := by
    refine ⟨w.heap.size, by omega, ?_, ?_⟩
    · rw [e1]; exact (Below.heap_alloc _ _ _ (by simp)).trans (heap_alloc_new w _)
    · unfold IntAt
      rw [e1, ← s0]; exact heap_alloc_new _ _
  have A := accepted_ok w1 (w.heap.size + 1) a k hN (by omega) (by omega) (by omega)
  have kn : ¬ (k : Int) < 1 := by omega
  by_cases hlt : a < 18446744073709551616 / k * k
  · have eo2 : foldOk (a : Int) (k : Int) = true := by rw [eo]; exact decide_eq_true hlt
    have ev : foldV (a : Int) (k : Int) = ((a % k : Nat) : Int) := by
      unfold foldV M.rem
      rw [if_pos eo2, if_neg (by omega)]
      rfl
    have hm : a % k < 9223372036854775808 := by have := Nat.mod_lt a (show 0 < k by omega); omega
    have A := A.mono (fun e w' h => (show ∃ m, e = .returned (.tuple #[.pointer (some ⟨m, 0, none⟩), .bool true]) ∧ Hid (NumAt w' w1.heap.size m (a % k) ∧ Below w1.heap.size w1 w') from by
      obtain ⟨h1, h2⟩ := h
      rcases h1 with ⟨-, m, rfl, h3⟩ | ⟨h3, -⟩
      · exact ⟨m, rfl, Lib.hid ⟨h3, h2⟩⟩
      · omega))
    have HB := Lib.hid (And.intro b1 (And.intro s1 (And.intro eo2 (And.intro ev hm))))
    clear eo hlt eo2 ev hm e1 s0 s1 b1 hN h0 h1 n0 n1
    go_enter Tryz.func9, Tryz.ntmps9
    go_wp2_with fail
    refine N.mono ?_
    rintro e w2 ⟨rfl, rfl⟩
    go_wp2_with fail
    refine A.mono ?_
    rintro e w3 ⟨m, rfl, HN⟩
    have I := int_Int64 w3 w2.heap.size m (a % k) HN.out.1 HB.out.2.2.2.2
    go_wp2_with fail
    refine I.mono ?_
    rintro e w4 ⟨rfl, rfl⟩
    go_wp2_with fail
    go_ret2
    obtain ⟨b1, s1, eo2, ev, hm⟩ := HB.out
    rw [eo2, ev]
    exact ⟨rfl, b1.trans (HN.out.2.mono (by omega))⟩
  · have eo2 : foldOk (a : Int) (k : Int) = false := by rw [eo]; exact decide_eq_false hlt
    have ev : foldV (a : Int) (k : Int) = 0 := by unfold foldV; rw [eo2]; rfl
    have A := A.mono (fun e w' h => (show e = .returned (.tuple #[.pointer none, .bool false]) ∧ Hid (Below w1.heap.size w1 w') from by
      obtain ⟨h1, h2⟩ := h
      rcases h1 with ⟨h3, -⟩ | ⟨-, rfl⟩
      · omega
      · exact ⟨rfl, Lib.hid h2⟩))
    have HB := Lib.hid (And.intro b1 (And.intro s1 (And.intro eo2 ev)))
    clear eo hlt eo2 ev e1 s0 s1 b1 hN h0 h1 n0 n1
    go_enter Tryz.func9, Tryz.ntmps9
    go_wp2_with fail
    refine N.mono ?_
    rintro e w2 ⟨rfl, rfl⟩
    go_wp2_with fail
    refine A.mono ?_
    rintro e w3 ⟨rfl, HN⟩
    go_wp2_with fail
    go_ret2
    obtain ⟨b1, s1, eo2, ev⟩ := HB.out
    rw [eo2, ev]
    exact ⟨rfl, b1.trans (HN.out.mono (by omega))⟩
end Go.Proofs.YtabgeonlodmpiaaGreatDoor
