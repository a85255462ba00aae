/- rng.New; the reference's Mix, New, Word. -/
import Derived.Test.YtabgeonlodmpiaaGreatDoorWalk
set_option linter.unusedVariables false
namespace Go.Proofs.YtabgeonlodmpiaaGreatDoor
open Go.RowKit

def mixIn (x w : Int) : Int := mixI (IntKind.u64.wrap (bits .xor .u64 x w + 11400714819323198485))
theorem mixI_lo (z : Int) : 0 ≤ mixI z := by unfold mixI; omega
theorem mixI_hi (z : Int) : mixI z ≤ 18446744073709551615 := by unfold mixI; have := (M.mix (BitVec.ofInt 64 z)).isLt; omega
theorem mixIn_lo (x w : Int) : 0 ≤ mixIn x w := mixI_lo _
theorem mixIn_hi (x w : Int) : mixIn x w ≤ 18446744073709551615 := mixI_hi _
def newI (seed tick entity key : Int) : Int := mixIn (mixIn (mixIn (mixI (IntKind.u64.wrap (seed + 11400714819323198485))) (IntKind.u64.wrap tick)) (IntKind.u64.wrap entity)) key
def stage (seed tick entity key : Int) : Nat → Int
  | 0 => mixI (IntKind.u64.wrap (seed + 11400714819323198485))
  | 1 => mixIn (mixI (IntKind.u64.wrap (seed + 11400714819323198485))) (IntKind.u64.wrap tick)
  | 2 => mixIn (mixIn (mixI (IntKind.u64.wrap (seed + 11400714819323198485))) (IntKind.u64.wrap tick)) (IntKind.u64.wrap entity)
  | _ => newI seed tick entity key

set_option maxHeartbeats 400000 in
theorem New_calls (seed tick entity key : Int) (w : World) (s0 : 0 ≤ seed) (s1 : seed ≤ 18446744073709551615) (k0 : 0 ≤ key) (k1 : key ≤ 18446744073709551615) :
    Calls Tryz.prog 4 #[.int .u64 seed, .int .i64 tick, .int .i64 entity, .int .u64 key] w fun e w' => e = .returned (.int .u64 (newI seed tick entity key)) ∧ Below w.heap.size w w' := by
  obtain ⟨t, ht⟩ : ∃ t, t = IntKind.u64.wrap tick := ⟨_, rfl⟩
  obtain ⟨u, hu⟩ : ∃ u, u = IntKind.u64.wrap entity := ⟨_, rfl⟩
  have mx := fun (z : Int) (w : World) => mix_calls (IntKind.u64.wrap z) w (Bv.wrap_lo _) (Bv.wrap_hi _)
  have HT := Lib.hid (And.intro ht (And.intro hu mx))
  have bt : Below w.heap.size w (w.alloc (.cells #[.int .u64 (IntKind.u64.wrap tick), .int .u64 (IntKind.u64.wrap entity), .int .u64 key] 22)) := (Below.refl _ _).alloc (Nat.le_refl _) _
  have HB := Lib.hid bt
  clear ht hu mx bt
  go_enter Tryz.func4, Tryz.ntmps4
  go_wp2_with (go_at_call 11; refine (HT.out.2.2 _ _).mono ?_; rintro e w' ⟨rfl, rfl⟩)
  go_loopg [9, 22] 3 (fun gh x i wr => ∃ j : Nat, gh = 3 - j ∧ j ≤ 3 ∧ i = .int .i64 j ∧ x = .int .u64 (stage seed tick entity key j) ∧ wr = w.alloc (.cells #[.int .u64 (IntKind.u64.wrap tick), .int .u64 (IntKind.u64.wrap entity), .int .u64 key] 22))
  case atStart => exact ⟨0, rfl, by omega, rfl, rfl, rfl⟩
  case round =>
    obtain ⟨j, hgh, hj, rfl, rfl, rfl⟩ := hrel
    have Hgh := Lib.hid hgh; clear hgh
    rcases (show j = 0 ∨ j = 1 ∨ j = 2 ∨ j = 3 from by omega) with rfl | rfl | rfl | rfl
    · go_wp2_with (go_at_call 11; refine (HT.out.2.2 _ _).mono ?_; rintro e w' ⟨rfl, rfl⟩)
      go_roundg 2
      case measure => have := Hgh.out; omega
      case rel => exact ⟨1, rfl, by omega, by go_num, rfl, rfl⟩
    · go_wp2_with (go_at_call 11; refine (HT.out.2.2 _ _).mono ?_; rintro e w' ⟨rfl, rfl⟩)
      go_roundg 1
      case measure => have := Hgh.out; omega
      case rel => exact ⟨2, rfl, by omega, by go_num, rfl, rfl⟩
    · go_wp2_with (go_at_call 11; refine (HT.out.2.2 _ _).mono ?_; rintro e w' ⟨rfl, rfl⟩)
      go_roundg 0
      case measure => have := Hgh.out; omega
      case rel => exact ⟨3, rfl, by omega, by go_num, rfl, rfl⟩
    · go_wp2_with fail
      go_ret
      exact ⟨rfl, HB.out⟩

theorem rmix_calls (z : Int) (w : World) (h0 : 0 ≤ z) (h1 : z ≤ 18446744073709551615) :
    Calls Tryz.prog 12 #[.int .u64 z] w fun e w' => e = .returned (.int .u64 (mixI z)) ∧ w = w' := by
  go_enter Tryz.func12, Tryz.ntmps12
  go_wp2
  go_ret
  refine ⟨ret_congr ?_, rfl⟩
  refine congrArg (Value.int .u64) ?_
  obtain ⟨b, rfl⟩ : ∃ b : BitVec 64, z = (b.toNat : Int) := ⟨BitVec.ofInt 64 z, (Bv.toNat_ofInt h0 h1).symm⟩
  have e30 := fun a : BitVec 64 => Bv.div_eq a 30
  have e27 := fun a : BitVec 64 => Bv.div_eq a 27
  have e31 := fun a : BitVec 64 => Bv.div_eq a 31
  have m1 := fun a : BitVec 64 => Bv.mul_eq a M.c1
  have m2 := fun a : BitVec 64 => Bv.mul_eq a M.c2
  simp only [show ((2 ^ 30 : Nat) : Int) = 1073741824 from rfl] at e30
  simp only [show ((2 ^ 27 : Nat) : Int) = 134217728 from rfl] at e27
  simp only [show ((2 ^ 31 : Nat) : Int) = 2147483648 from rfl] at e31
  simp only [show (M.c1.toNat : Int) = 13787848793156543929 from rfl] at m1
  simp only [show (M.c2.toNat : Int) = 10723151780598845931 from rfl] at m2
  simp only [e30, Bv.xor_eq, m1, e27, m2, e31]
  unfold mixI
  rw [Bv.ofInt_toNat]
  rfl

theorem rword_calls (s k : Int) (w : World) :
    Calls Tryz.prog 7 #[.int .u64 s, .int .i64 k] w fun e w' => e = .returned (.int .u64 (wordI s k)) ∧ w = w' := by
  go_enter Tryz.func7, Tryz.ntmps7
  go_wp2_with (go_at_call 12; refine (rmix_calls _ _ (Bv.wrap_lo _) (Bv.wrap_hi _)).mono ?_; rintro e w' ⟨rfl, rfl⟩)
  go_ret
  refine ⟨ret_congr ?_, rfl⟩
  refine congrArg (Value.int .u64) ?_
  unfold mixI wordI M.word
  have eg : BitVec.ofInt 64 11400714819323198485 = M.g := rfl
  have e1 : BitVec.ofInt 64 1 = 1#64 := rfl
  simp only [Bv.ofInt_wrap, BitVec.ofInt_add, BitVec.ofInt_mul, eg, e1]

theorem rnew_calls (seed tick entity key : Int) (w : World) (s0 : 0 ≤ seed) (s1 : seed ≤ 18446744073709551615) (k0 : 0 ≤ key) (k1 : key ≤ 18446744073709551615) :
    Calls Tryz.prog 5 #[.int .u64 seed, .int .i64 tick, .int .i64 entity, .int .u64 key] w fun e w' => e = .returned (.int .u64 (newI seed tick entity key)) ∧ w = w' := by
  go_enter Tryz.func5, Tryz.ntmps5
  go_wp2_with (go_at_call 12; refine (rmix_calls _ _ (Bv.wrap_lo _) (Bv.wrap_hi _)).mono ?_; rintro e w' ⟨rfl, rfl⟩)
  go_ret
  exact ⟨rfl, rfl⟩
end Go.Proofs.YtabgeonlodmpiaaGreatDoor
