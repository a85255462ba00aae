/- Items read. -/
import Derived.Test.YtpnlcnilhlcfpaaBAwake
set_option linter.unusedVariables false
namespace Go.Proofs.Ytpnlcnilhlcfpaa
open Go.RowKit
open M (bitsOf bitsOf_length codeBits codeBits_length zig zag numOf zeros codeA)

def itemV (kind n k : Nat) : Value := .agg #[.int .u8 (kind : Int), .int .u64 (n : Int), .int .i64 (k : Int)]
theorem Fr.after_alloc {F G : List Nat} {w w' : World} {o : Obj} (h : Fr F (w.alloc o) G w') : Fr F w G w' :=
  (Fr.of_below ((Below.refl _ _).alloc (Nat.le_refl _) _) F).trans h

theorem mod3 {kind : Nat} (c : Nat) : (((kind : Int) % 3 == (c : Int)) = (kind % 3 == c)) := by
  rw [Bool.eq_iff_iff]; simp only [beq_iff_eq]; omega

/-- What read does. -/
def readA (kind k : Nat) (s : List Bool) (bad : Nat) : Nat × Nat × List Bool × Nat :=
  if kind % 3 = 0 then getA k s bad else if kind % 3 = 1 then getC k s bad else (zag (getC k s bad).1, (getC k s bad).2)
theorem wrap_sOf {u : Nat} (h : u < 18446744073709551616) : IntKind.u64.wrap (sOf u) = (u : Int) := by rw [IntKind.wrap_u64]; unfold sOf; split <;> omega
theorem Fr.of_only_alloc {b : Nat} {w w' : World} {o : Obj} (h : Only b (w.alloc o) w') : Fr [b] w [b] w' := (Fr.of_only h).after_alloc

theorem RAt.alloc {w : World} {br : Nat} {F : List Nat} {s : List Bool} {bad : Nat} (h : ROk w br F s bad) (o : Obj) : ROk (w.alloc o) br F s bad :=
  h.below ((Below.refl w.heap.size w).alloc (Nat.le_refl _) o)

set_option maxHeartbeats 400000 in
theorem read_ok (br : Nat) (F : List Nat) (s : List Bool) (bad : Nat) (kind k : Nat) (n : Int) (w : World) (h : ROk w br F s bad) (h0 : kind % 3 = 0 → k ≤ 64) (h3 : kind % 3 ≠ 0 → k ≤ 30) (hk : kind < 256) :
    Calls Try.prog 9 #[.pointer (some ⟨br, 0, none⟩), .agg #[.int .u8 (kind : Int), .int .u64 n, .int .i64 (k : Int)]] w fun e w' =>
      e = .returned (.tuple #[.int .u64 ((readA kind k s bad).1 : Nat), .int .i64 ((readA kind k s bad).2.1 : Nat)]) ∧ ROk w' br F (readA kind k s bad).2.2.1 (readA kind k s bad).2.2.2 ∧ Fr [br] w [br] w' := by
  have hr := fun o => RAt.alloc h o
  unfold readA
  by_cases hk0 : kind % 3 = 0
  · rw [if_pos hk0]
    have hc := fun o => Get_ok br F s bad k (w.alloc o) (hr o) (h0 hk0)
    have e0 : ((kind : Int) % 3 == 0) = true := by rw [beq_iff_eq]; omega
    have e1 : (kind % 3 == 0) = true := by rw [beq_iff_eq]; exact hk0
    generalize getA k s bad = r at *
    obtain ⟨V, E, t, b⟩ := r
    simp only at hc ⊢
    have H := Lib.hid hc
    clear hc h hr h0 h3 hk0
    go_enter Try.func9, Try.ntmps9
    go_wp2_with fail
    refine (H.out _).mono ?_
    rintro e w' ⟨rfl, h1, h2⟩
    have HQ := Lib.hid (And.intro h1 h2); clear h1 h2
    go_wp2_with fail
    go_ret2
    exact ⟨rfl, HQ.out.1, Fr.of_only_alloc HQ.out.2⟩
  · rw [if_neg hk0]
    have e0 : ((kind : Int) % 3 == 0) = false := by rw [beq_eq_false_iff_ne]; omega
    have e0' : (kind % 3 == 0) = false := by rw [beq_eq_false_iff_ne]; exact hk0
    by_cases hk1 : kind % 3 = 1
    · rw [if_pos hk1]
      have hc := fun o => GetCode_ok br F s bad k (w.alloc o) (hr o) (h3 hk0)
      have e1 : ((kind : Int) % 3 == 1) = true := by rw [beq_iff_eq]; omega
      have e1' : (kind % 3 == 1) = true := by rw [beq_iff_eq]; exact hk1
      generalize getC k s bad = r at *
      obtain ⟨V, E, t, b⟩ := r
      simp only at hc ⊢
      have H := Lib.hid hc
      clear hc h hr h0 h3 hk0 hk1
      go_enter Try.func9, Try.ntmps9
      go_wp2_with fail
      refine (H.out _).mono ?_
      rintro e w' ⟨rfl, h1, h2⟩
      have HQ := Lib.hid (And.intro h1 h2); clear h1 h2
      go_wp2_with fail
      go_ret2
      exact ⟨rfl, HQ.out.1, Fr.of_only_alloc HQ.out.2⟩
    · rw [if_neg hk1]
      have hc := fun o => GetSigned_ok br F s bad k (w.alloc o) (hr o) (h3 hk0)
      have hV := getC_lt k s bad (h3 hk0)
      have e1 : ((kind : Int) % 3 == 1) = false := by rw [beq_eq_false_iff_ne]; omega
      have e1' : (kind % 3 == 1) = false := by rw [beq_eq_false_iff_ne]; exact hk1
      generalize getC k s bad = r at *
      obtain ⟨V, E, t, b⟩ := r
      simp only at hc hV ⊢
      have hz := wrap_sOf (u := zag V) (by have := M.zag_lt (v := V) (by simpa using hV); simpa using this)
      generalize sOf (zag V) = Z at *
      have H := Lib.hid (And.intro hc hz)
      clear hc hz h hr h0 h3 hk0 hk1
      go_enter Try.func9, Try.ntmps9
      go_wp2_with fail
      refine (H.out.1 _).mono ?_
      rintro e w' ⟨rfl, h1, h2⟩
      have HQ := Lib.hid (And.intro h1 h2); clear h1 h2
      go_wp2_with fail
      go_ret2
      exact ⟨ret2_congr (congrArg (Value.int .u64) H.out.2) rfl, HQ.out.1, Fr.of_only_alloc HQ.out.2⟩

theorem GetSigned_arg (br : Nat) (F : List Nat) (s : List Bool) (bad : Nat) (k : Int) (w : World) (h : ROk w br F s bad) (hk : k < 0 ∨ 30 < k) :
    Calls Try.prog 19 #[.pointer (some ⟨br, 0, none⟩), .int .i64 k] w fun e w' => e = .returned (.tuple #[.int .i64 0, .int .i64 2]) ∧ w = w' := by
  have H := Lib.hid (GetCode_arg br F s bad k w h hk)
  clear h hk
  go_enter Try.func19, Try.ntmps19
  go_wp2_with fail
  refine H.out.mono ?_
  rintro e w' ⟨rfl, rfl⟩
  go_wp2_with fail
  go_ret2
  exact ⟨ret2_congr (congrArg (Value.int .i64) (by decide +kernel)) rfl, rfl⟩

theorem read_arg0 (br : Nat) (F : List Nat) (s : List Bool) (bad : Nat) (k n : Int) (w : World) (h : ROk w br F s bad) (hk : k < 0 ∨ 64 < k) :
    Calls Try.prog 9 #[.pointer (some ⟨br, 0, none⟩), .agg #[.int .u8 0, .int .u64 n, .int .i64 k]] w fun e w' => e = .returned (.tuple #[.int .u64 0, .int .i64 2]) ∧ Below w.heap.size w w' := by
  have H := Lib.hid (fun o => Get_arg br F s bad k (w.alloc o) (RAt.alloc h o) hk)
  clear h hk
  go_enter Try.func9, Try.ntmps9
  go_wp2_with fail
  refine (H.out _).mono ?_
  rintro e w' ⟨rfl, rfl⟩
  go_wp2_with fail
  go_ret2
  exact ⟨rfl, (Below.refl _ _).alloc (Nat.le_refl _) _⟩
theorem read_arg1 (br : Nat) (F : List Nat) (s : List Bool) (bad : Nat) (k n : Int) (w : World) (h : ROk w br F s bad) (hk : k < 0 ∨ 30 < k) :
    Calls Try.prog 9 #[.pointer (some ⟨br, 0, none⟩), .agg #[.int .u8 1, .int .u64 n, .int .i64 k]] w fun e w' => e = .returned (.tuple #[.int .u64 0, .int .i64 2]) ∧ Below w.heap.size w w' := by
  have H := Lib.hid (fun o => GetCode_arg br F s bad k (w.alloc o) (RAt.alloc h o) hk)
  clear h hk
  go_enter Try.func9, Try.ntmps9
  go_wp2_with fail
  refine (H.out _).mono ?_
  rintro e w' ⟨rfl, rfl⟩
  go_wp2_with fail
  go_ret2
  exact ⟨rfl, (Below.refl _ _).alloc (Nat.le_refl _) _⟩
theorem read_arg2 (br : Nat) (F : List Nat) (s : List Bool) (bad : Nat) (k n : Int) (w : World) (h : ROk w br F s bad) (hk : k < 0 ∨ 30 < k) :
    Calls Try.prog 9 #[.pointer (some ⟨br, 0, none⟩), .agg #[.int .u8 2, .int .u64 n, .int .i64 k]] w fun e w' => e = .returned (.tuple #[.int .u64 0, .int .i64 2]) ∧ Below w.heap.size w w' := by
  have H := Lib.hid (fun o => GetSigned_arg br F s bad k (w.alloc o) (RAt.alloc h o) hk)
  clear h hk
  go_enter Try.func9, Try.ntmps9
  go_wp2_with fail
  refine (H.out _).mono ?_
  rintro e w' ⟨rfl, rfl⟩
  go_wp2_with fail
  go_ret2
  exact ⟨rfl, (Below.refl _ _).alloc (Nat.le_refl _) _⟩
end Go.Proofs.Ytpnlcnilhlcfpaa
