/- PutSigned. -/
import Derived.Test.YtpnlcnilhlcfpaaBWriter
set_option linter.unusedVariables false
namespace Go.Proofs.Ytpnlcnilhlcfpaa
open Go.RowKit
open M (bitsOf bitsOf_length codeBits codeBits_length zig zag)

/-- An int as a word of 64 bits. -/
def wordOf (n : Int) : Nat := (n % 18446744073709551616).toNat
theorem wordOf_lt (n : Int) : wordOf n < 18446744073709551616 := by unfold wordOf; omega
theorem xor_ones (x : Nat) (h : x < 18446744073709551616) : x ^^^ 18446744073709551615 = 18446744073709551615 - x := by
  have := congrArg BitVec.toNat (BitVec.xor_allOnes (x := BitVec.ofNat 64 x))
  rw [BitVec.toNat_xor, BitVec.toNat_not, BitVec.toNat_ofNat, BitVec.toNat_allOnes, Nat.mod_eq_of_lt (by simpa using h)] at this
  simpa using this
theorem zig_word (n : Int) (n0 : -9223372036854775808 ≤ n) (n1 : n ≤ 9223372036854775807) :
    bits BinOp.xor IntKind.u64 (IntKind.u64.wrap (IntKind.u64.wrap n * 2)) (IntKind.u64.wrap (n / 9223372036854775808)) = ((zig (wordOf n) : Nat) : Int) := by
  unfold wordOf zig
  by_cases h : n < 0
  · have e1 : IntKind.u64.wrap (n / 9223372036854775808) = ((18446744073709551615 : Nat) : Int) := by rw [IntKind.wrap_u64]; omega
    have e2 : IntKind.u64.wrap (IntKind.u64.wrap n * 2) = (((2 * n + 18446744073709551616).toNat : Nat) : Int) := by rw [IntKind.wrap_u64, IntKind.wrap_u64]; omega
    rw [e1, e2, u64_xor_nat _ _ (by omega) (by omega), xor_ones _ (by omega), if_neg (by omega)]
    omega
  · have e1 : IntKind.u64.wrap (n / 9223372036854775808) = ((0 : Nat) : Int) := by rw [IntKind.wrap_u64]; omega
    have e2 : IntKind.u64.wrap (IntKind.u64.wrap n * 2) = (((2 * n).toNat : Nat) : Int) := by rw [IntKind.wrap_u64, IntKind.wrap_u64]; omega
    rw [e1, e2, u64_xor_nat _ _ (by omega) (by omega), Nat.xor_zero, if_pos (by omega)]
    omega

theorem zig_word0 (n : Int) (n0 : 0 ≤ n) (n1 : n ≤ 9223372036854775807) : bits BinOp.xor IntKind.u64 (n * 2) (n / 9223372036854775808) = ((zig (wordOf n) : Nat) : Int) := by
  rw [← zig_word n (by omega) n1]
  congr 1 <;> (simp only [IntKind.wrap_u64]; omega)

theorem PutCode_at (B bw : Nat) (F : List Nat) (l : List Bool) (n k : Int) (N K : Nat) (w : World) (h : WOk w B bw F l) (hB : B ≤ w.heap.size) (hn : n = N) (hk : k = K) (hK : K ≤ 30) (hN : N < 18446744073709551616) (hl : l.length + costN N K ≤ 1048576) :
    Calls Try.prog 26 #[.pointer (some ⟨bw, 0, none⟩), .int .u64 n, .int .i64 k] w fun e w' => e = .returned (.int .i64 0) ∧ ∃ F', WOk w' B bw F' (l ++ codeBits N K) ∧ Fr F w F' w' := by
  subst hn hk; exact PutCode_ok B bw F l N K w h hB hK hN hl

theorem PutSigned_ok (B bw : Nat) (F : List Nat) (l : List Bool) (n : Int) (k : Nat) (w : World) (n0 : -9223372036854775808 ≤ n) (n1 : n ≤ 9223372036854775807) (h : WOk w B bw F l) (hB : B ≤ w.heap.size) (hk : k ≤ 30) (hl : l.length + costN (zig (wordOf n)) k ≤ 1048576) :
    Calls Try.prog 30 #[.pointer (some ⟨bw, 0, none⟩), .int .i64 n, .int .i64 (k : Int)] w fun e w' => e = .returned (.int .i64 0) ∧ ∃ F', WOk w' B bw F' (l ++ codeBits (zig (wordOf n)) k) ∧ Fr F w F' w' := by
  have hz : zig (wordOf n) < 18446744073709551616 := by have := M.zig_lt (n := wordOf n) (by simpa using wordOf_lt n); simpa using this
  have hc := PutCode_at B bw F l _ (k : Int) (zig (wordOf n)) k w h hB (zig_word n n0 n1) rfl hk hz hl
  have hd := fun hh => PutCode_at B bw F l _ (k : Int) (zig (wordOf n)) k w h hB (zig_word0 n hh n1) rfl hk hz hl
  have H := Lib.hid (And.intro hc hd)
  clear h hB hl hz hc hd
  by_cases h : n < 0
  · go_enter Try.func30, Try.ntmps30
    go_wp2_with fail
    refine H.out.1.mono ?_
    rintro e w' ⟨rfl, hq⟩
    have HQ := Lib.hid hq; clear hq
    go_wp2_with fail
    go_ret
    exact ⟨rfl, HQ.out⟩
  · go_enter Try.func30, Try.ntmps30
    go_wp2_with fail
    refine (H.out.2 (by omega)).mono ?_
    rintro e w' ⟨rfl, hq⟩
    have HQ := Lib.hid hq; clear hq
    go_wp2_with fail
    go_ret
    exact ⟨rfl, HQ.out⟩
end Go.Proofs.Ytpnlcnilhlcfpaa
