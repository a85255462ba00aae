/- math/bits: Len64, LeadingZeros, Mul; math/big: nlz. -/
import Derived.Test.YtabgeonlodmpiaaGreatDoorBOps
import Derived.Lib.BitFns
import Derived.Lib.ItoaNum
import Derived.Lib.Walk
import Derived.Deep.Light
import Derived.Lib.Mul64
import Derived.Laws.Bits64b
set_option linter.unusedVariables false
namespace Go.Proofs.YtabgeonlodmpiaaGreatDoor
open Go.RowKit

theorem wrap_add (k a b : Nat) (hk : k ≤ 56) (ha : a ≤ 8) (hb : b = k + a) : wrap64 ((k : Int) + wrap64 (a : Int)) = (b : Int) := by unfold wrap64; omega
theorem wrap_wrap (a : Nat) (ha : a ≤ 8) : wrap64 (wrap64 (a : Int)) = (a : Int) := by unfold wrap64; omega
theorem wrap_one (a : Nat) (ha : a ≤ 8) : wrap64 (a : Int) = (a : Int) := by unfold wrap64; omega
theorem len8_get (y : Int) (h : y.toNat < Lib.len8tab.size) : ((Lib.len8tab[y.toNat]'h).toNat : Int) = Lib.len8 y := by
  unfold Lib.len8
  rw [getElem?_pos Lib.len8tab y.toNat h]
  rfl
theorem len8_size : (Lib.len8tab.size : Int) = 256 := by
  have : Lib.len8tab.size = 256 := by decide +kernel
  omega
set_option maxHeartbeats 32000000 in
set_option maxRecDepth 1000000 in
theorem Len64_ok (x : Int) (w : World) (h0 : 0 ≤ x) (h1 : x ≤ 18446744073709551615) :
    Calls Tryz.prog 150 #[.int .u64 x] w fun e w' => e = .returned (.int .i64 (Lib.bitLen x.toNat)) ∧ w' = w := by
  go_enter Tryz.func150, Tryz.ntmps150
  go_wp2
  all_goals first
    | (go_ret; refine ⟨congrArg Ending.returned (congrArg (Value.int IntKind.i64) ?_), rfl⟩; go_light)
    | (exfalso
       go_light
       have hs := len8_size
       omega)
  all_goals first
    | (rw [len8_get (x / 4294967296 / 65536 / 256) _, Lib.len8_of (x / 4294967296 / 65536 / 256) (by omega) (by omega)]
       have e : (x / 4294967296 / 65536 / 256).toNat = x.toNat / 72057594037927936 := by omega
       have l := Lib.bitLen_le8' (x / 4294967296 / 65536 / 256) (by omega) (by omega)
       have s := Lib.bitLen_shift56 x.toNat (by omega) (by omega)
       rw [e] at l ⊢
       exact wrap_add 56 _ _ (by decide) l s)
    | (rw [len8_get (x / 4294967296 / 65536) _, Lib.len8_of (x / 4294967296 / 65536) (by omega) (by omega)]
       have e : (x / 4294967296 / 65536).toNat = x.toNat / 281474976710656 := by omega
       have l := Lib.bitLen_le8' (x / 4294967296 / 65536) (by omega) (by omega)
       have s := Lib.bitLen_shift48 x.toNat (by omega) (by omega)
       rw [e] at l ⊢
       exact wrap_add 48 _ _ (by decide) l s)
    | (rw [len8_get (x / 4294967296 / 256) _, Lib.len8_of (x / 4294967296 / 256) (by omega) (by omega)]
       have e : (x / 4294967296 / 256).toNat = x.toNat / 1099511627776 := by omega
       have l := Lib.bitLen_le8' (x / 4294967296 / 256) (by omega) (by omega)
       have s := Lib.bitLen_shift40 x.toNat (by omega) (by omega)
       rw [e] at l ⊢
       exact wrap_add 40 _ _ (by decide) l s)
    | (rw [len8_get (x / 4294967296) _, Lib.len8_of (x / 4294967296) (by omega) (by omega)]
       have e : (x / 4294967296).toNat = x.toNat / 4294967296 := by omega
       have l := Lib.bitLen_le8' (x / 4294967296) (by omega) (by omega)
       have s := Lib.bitLen_shift32 x.toNat (by omega) (by omega)
       rw [e] at l ⊢
       exact wrap_add 32 _ _ (by decide) l s)
    | (rw [len8_get (x / 65536 / 256) _, Lib.len8_of (x / 65536 / 256) (by omega) (by omega)]
       have e : (x / 65536 / 256).toNat = x.toNat / 16777216 := by omega
       have l := Lib.bitLen_le8' (x / 65536 / 256) (by omega) (by omega)
       have s := Lib.bitLen_shift24 x.toNat (by omega) (by omega)
       rw [e] at l ⊢
       exact wrap_add 24 _ _ (by decide) l s)
    | (rw [len8_get (x / 65536) _, Lib.len8_of (x / 65536) (by omega) (by omega)]
       have e : (x / 65536).toNat = x.toNat / 65536 := by omega
       have l := Lib.bitLen_le8' (x / 65536) (by omega) (by omega)
       have s := Lib.bitLen_shift16 x.toNat (by omega) (by omega)
       rw [e] at l ⊢
       exact wrap_add 16 _ _ (by decide) l s)
    | (rw [len8_get (x / 256) _, Lib.len8_of (x / 256) (by omega) (by omega)]
       have e : (x / 256).toNat = x.toNat / 256 := by omega
       have l := Lib.bitLen_le8' (x / 256) (by omega) (by omega)
       have s := Lib.bitLen_shift8 x.toNat (by omega) (by omega)
       rw [e] at l ⊢
       exact wrap_add 8 _ _ (by decide) l s)
    | (rw [len8_get x _, Lib.len8_of x (by omega) (by omega)]
       have l := Lib.bitLen_le8' x (by omega) (by omega)
       first | exact wrap_wrap _ l | exact wrap_add 0 _ _ (by decide) l (by omega) | exact wrap_one _ l)

/-- How many zeros lead a number that is not 0. -/
theorem lead {y s : Nat} (h1 : 9223372036854775808 ≤ y * 2 ^ s) (h2 : y * 2 ^ s < 18446744073709551616) : Lib.bitLen y + s = 64 := by
  have hy : y ≠ 0 := by rintro rfl; omega
  have hp : 0 < 2 ^ s := Nat.two_pow_pos s
  have hy2 : y < 18446744073709551616 := Nat.lt_of_le_of_lt (Nat.le_mul_of_pos_right y hp) h2
  obtain ⟨a, b, c⟩ := Lib.bitLenAux_bounds 64 y hy2 hy
  have e : Lib.bitLen y = Lib.bitLenAux 64 y := rfl
  rw [e]
  obtain ⟨L, eL⟩ : ∃ L, L = Lib.bitLenAux 64 y := ⟨_, rfl⟩
  rw [← eL] at a b c ⊢
  clear eL e
  have c2 : y * 2 ^ s < 2 ^ (L + s) := by rw [Nat.pow_add]; exact Nat.mul_lt_mul_of_pos_right c hp
  have b2 : 2 ^ (L - 1 + s) ≤ y * 2 ^ s := by rw [Nat.pow_add]; exact Nat.mul_le_mul_right _ b
  have l1 : 63 < L + s := by
    refine Nat.lt_of_not_le fun h => ?_
    have : 2 ^ (L + s) ≤ 2 ^ 63 := Nat.pow_le_pow_right (by decide) h
    have e : (2 : Nat) ^ 63 = 9223372036854775808 := by decide
    omega
  have l2 : L - 1 + s < 64 := by
    refine Nat.lt_of_not_le fun h => ?_
    have : 2 ^ 64 ≤ 2 ^ (L - 1 + s) := Nat.pow_le_pow_right (by decide) h
    have e : (2 : Nat) ^ 64 = 18446744073709551616 := by decide
    omega
  omega
theorem lead_lt {y s : Nat} (h1 : 9223372036854775808 ≤ y * 2 ^ s) (h2 : y * 2 ^ s < 18446744073709551616) : y < 18446744073709551616 ∧ s ≤ 63 := by
  have hy : y ≠ 0 := by rintro rfl; omega
  have hp : 0 < 2 ^ s := Nat.two_pow_pos s
  have hy2 : y < 18446744073709551616 := Nat.lt_of_le_of_lt (Nat.le_mul_of_pos_right y hp) h2
  have a := lead h1 h2
  obtain ⟨b, -, -⟩ := Lib.bitLenAux_bounds 64 y hy2 hy
  have e : Lib.bitLen y = Lib.bitLenAux 64 y := rfl
  omega
theorem LeadingZeros64_ok (y s : Nat) (w : World) (h1 : 9223372036854775808 ≤ y * 2 ^ s) (h2 : y * 2 ^ s < 18446744073709551616) :
    Calls Tryz.prog 148 #[.int .u64 (y : Nat)] w fun e w' => e = .returned (.int .i64 (s : Nat)) ∧ w' = w := by
  have hl := lead h1 h2
  have hlt := lead_lt h1 h2
  have L := Len64_ok (y : Nat) w (by omega) (by omega)
  rw [show ((y : Int)).toNat = y from by omega] at L
  obtain ⟨b, hb⟩ : ∃ b, b = Lib.bitLen y := ⟨_, rfl⟩
  rw [← hb] at L hl
  have e : (64 : Int) - (b : Int) = (s : Nat) := by omega
  clear hb h1 h2
  go_enter Tryz.func148, Tryz.ntmps148
  go_wp2_with (go_at_call 150; refine L.mono ?_; rintro e w' ⟨rfl, rfl⟩)
  go_ret
  exact ⟨rfl, rfl⟩
theorem LeadingZeros_ok (y s : Nat) (w : World) (h1 : 9223372036854775808 ≤ y * 2 ^ s) (h2 : y * 2 ^ s < 18446744073709551616) :
    Calls Tryz.prog 118 #[.int .u64 (y : Nat)] w fun e w' => e = .returned (.int .i64 (s : Nat)) ∧ w' = w := by
  have hl := lead h1 h2
  have hlt := lead_lt h1 h2
  have L := Len64_ok (y : Nat) w (by omega) (by omega)
  rw [show ((y : Int)).toNat = y from by omega] at L
  obtain ⟨b, hb⟩ : ∃ b, b = Lib.bitLen y := ⟨_, rfl⟩
  rw [← hb] at L hl
  have e : (64 : Int) - (b : Int) = (s : Nat) := by omega
  clear hb h1 h2
  have LL : Calls Tryz.prog 136 #[.int .u64 (y : Nat)] w fun e w' => e = .returned (.int .i64 (b : Nat)) ∧ w' = w := by
    clear e hlt hl
    go_enter Tryz.func136, Tryz.ntmps136
    go_wp2_with (go_at_call 150; refine L.mono ?_; rintro e w' ⟨rfl, rfl⟩)
    go_ret
    exact ⟨rfl, rfl⟩
  go_enter Tryz.func118, Tryz.ntmps118
  go_wp2_with (go_at_call 136; refine LL.mono ?_; rintro e w' ⟨rfl, rfl⟩)
  go_ret
  exact ⟨rfl, rfl⟩
theorem nlz_ok (y s : Nat) (w : World) (h1 : 9223372036854775808 ≤ y * 2 ^ s) (h2 : y * 2 ^ s < 18446744073709551616) :
    Calls Tryz.prog 93 #[.int .u64 (y : Nat)] w fun e w' => e = .returned (.int .u64 (s : Nat)) ∧ w' = w := by
  have L := LeadingZeros_ok y s w h1 h2
  have hlt := lead_lt h1 h2
  have e : ((s : Int)) % 18446744073709551616 = (s : Nat) := by omega
  clear h1 h2
  go_enter Tryz.func93, Tryz.ntmps93
  go_wp2_with (go_at_call 118; refine L.mono ?_; rintro e w' ⟨rfl, rfl⟩)
  go_ret
  exact ⟨rfl, rfl⟩

namespace Mu
theorem maskN (a : Nat) (ha : a < 18446744073709551616) : bits .and .u64 (a : Int) 4294967295 = ((a % 4294967296 : Nat) : Int) := by
  have h := bits_and_u64_nat a 4294967295 ha (by omega)
  have e : a &&& 4294967295 = a % 4294967296 := Nat.and_two_pow_sub_one_eq_mod a 32
  rw [e] at h
  exact h
theorem divN (a : Nat) : (a : Int) / 4294967296 = ((a / 4294967296 : Nat) : Int) := by omega
theorem mulN (a b : Nat) : (a : Int) * (b : Int) = ((a * b : Nat) : Int) := (Int.natCast_mul a b).symm
theorem addN (a b : Nat) : (a : Int) + (b : Int) = ((a + b : Nat) : Int) := (Int.natCast_add a b).symm
theorem wrapN (a : Nat) (ha : a < 18446744073709551616) : IntKind.u64.wrap (a : Int) = (a : Int) := by rw [IntKind.wrap_u64]; omega
theorem wrapM (a : Nat) : IntKind.u64.wrap (a : Int) = ((a % 18446744073709551616 : Nat) : Int) := by rw [IntKind.wrap_u64]; omega
end Mu
set_option maxHeartbeats 1000000 in
theorem Mul64_ok (x y : Nat) (hx : x < 18446744073709551616) (hy : y < 18446744073709551616) (w : World) :
    Calls Tryz.prog 102 #[.int .u64 (x : Nat), .int .u64 (y : Nat)] w fun e w' => e = .returned (.tuple #[.int .u64 ((x * y / 18446744073709551616 : Nat) : Int), .int .u64 ((x * y % 18446744073709551616 : Nat) : Int)]) ∧ w' = w := by
  obtain ⟨bd, bt, bw, hhi⟩ := Lib.mul64_hi x y hx hy
  have ba := Lib.half_mul_le (a := x / 4294967296) (b := y / 4294967296) (by omega) (by omega)
  have bb := Lib.half_mul_le (a := x / 4294967296) (b := y % 4294967296) (by omega) (by omega)
  have bc := Lib.half_mul_le (a := x % 4294967296) (b := y / 4294967296) (by omega) (by omega)
  have ba' : x / 4294967296 * (y / 4294967296) < 18446744073709551616 := by omega
  have bb' : x / 4294967296 * (y % 4294967296) < 18446744073709551616 := by omega
  have bc' : x % 4294967296 * (y / 4294967296) < 18446744073709551616 := by omega
  have bh1 : x / 4294967296 * (y / 4294967296) + (x / 4294967296 * (y % 4294967296) + x % 4294967296 * (y % 4294967296) / 4294967296) / 4294967296 < 18446744073709551616 := by omega
  have bh : x / 4294967296 * (y / 4294967296) + (x / 4294967296 * (y % 4294967296) + x % 4294967296 * (y % 4294967296) / 4294967296) / 4294967296 + ((x / 4294967296 * (y % 4294967296) + x % 4294967296 * (y % 4294967296) / 4294967296) % 4294967296 + x % 4294967296 * (y / 4294967296)) / 4294967296 < 18446744073709551616 := by omega
  go_enter Tryz.func102, Tryz.ntmps102
  go_wp2
  simp only [Mu.maskN x hx, Mu.maskN y hy, Mu.divN, Mu.mulN, Mu.addN, Mu.wrapN _ bd, Mu.wrapN _ bb', Mu.wrapN _ bt, Mu.maskN _ bt, Mu.wrapN _ bc', Mu.wrapN _ bw, Mu.wrapN _ ba', Mu.wrapN _ bh1, Mu.wrapN _ bh, Mu.wrapM (x * y)]
  rw [hhi]
  go_ret2
  exact ⟨rfl, rfl⟩
theorem Mul_ok (x y hi lo : Nat) (hx : x < 18446744073709551616) (hy : y < 18446744073709551616) (e1 : x * y / 18446744073709551616 = hi) (e2 : x * y % 18446744073709551616 = lo) (w : World) :
    Calls Tryz.prog 80 #[.int .u64 (x : Nat), .int .u64 (y : Nat)] w fun e w' => e = .returned (.tuple #[.int .u64 (hi : Nat), .int .u64 (lo : Nat)]) ∧ w' = w := by
  have M := Mul64_ok x y hx hy w
  rw [e1, e2] at M
  clear e1 e2 hx hy
  go_enter Tryz.func80, Tryz.ntmps80
  go_wp2_with (go_at_call 102; refine M.mono ?_; rintro e w' ⟨rfl, rfl⟩)
  go_ret2
  exact ⟨rfl, rfl⟩
end Go.Proofs.YtabgeonlodmpiaaGreatDoor
