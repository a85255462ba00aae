/- math/big: a word shifted left; the twins. -/
import Derived.Test.YtabgeonlodmpiaaGreatDoorBInt
import Derived.Test.YtabgeonlodmpiaaGreatDoorBv
import Derived.Laws.Twins
set_option linter.unusedVariables false
namespace Go.Proofs.YtabgeonlodmpiaaGreatDoor
open Go.RowKit

theorem addVV_enters (args : Array Value) (w : World) : (callFunc 74 args).run Tryz.prog w = .ok (.enter 30 args) w :=
  run_callFunc_twin (twin := "math/big.addVV_g") Tryz.func74 (by kernel_rfl) (by kernel_rfl) (by kernel_rfl) (by kernel_rfl) Tryz.func30 (by kernel_rfl) (by kernel_rfl) (by kernel_rfl) args w
theorem subVV_enters (args : Array Value) (w : World) : (callFunc 77 args).run Tryz.prog w = .ok (.enter 31 args) w :=
  run_callFunc_twin (twin := "math/big.subVV_g") Tryz.func77 (by kernel_rfl) (by kernel_rfl) (by kernel_rfl) (by kernel_rfl) Tryz.func31 (by kernel_rfl) (by kernel_rfl) (by kernel_rfl) args w
theorem lshVU_enters (args : Array Value) (w : World) : (callFunc 52 args).run Tryz.prog w = .ok (.enter 32 args) w :=
  run_callFunc_twin (twin := "math/big.lshVU_g") Tryz.func52 (by kernel_rfl) (by kernel_rfl) (by kernel_rfl) (by kernel_rfl) Tryz.func32 (by kernel_rfl) (by kernel_rfl) (by kernel_rfl) args w

theorem and63 (s : Nat) (h : s < 64) : bits .and .u64 (s : Int) 63 = (s : Nat) := by
  have e1 : (BitVec.ofInt 64 (s : Int)) = BitVec.ofNat 64 s := BitVec.ofInt_natCast _ _
  show IntKind.u64.wrap ((BitVec.ofInt 64 (s : Int) &&& BitVec.ofInt 64 63).toNat : Int) = _
  rw [e1, BitVec.toNat_and]
  have e2 : (BitVec.ofInt 64 63).toNat = 2 ^ 6 - 1 := by decide
  rw [e2, BitVec.toNat_ofNat, Nat.and_two_pow_sub_one_eq_mod, IntKind.wrap_u64]
  omega
theorem lshVU1 (Az Ax : Addr) (cz cx x s v : Nat) (w : World)
    (hx : w.cell? Ax = some (.int .u64 (x : Nat))) (hz : ∃ u, w.cell? Az = some u) (hf : w.frozen? Az = false)
    (h1 : 1 ≤ s) (h2 : s < 64) (hv : x * 2 ^ s = v) (hv2 : v < 18446744073709551616) (hcz : 1 ≤ cz) (hcx : 1 ≤ cx) :
    Calls Tryz.prog 32 #[.slice (some Az) 1 cz, .slice (some Ax) 1 cx, .int .u64 (s : Nat)] w fun e w' => e = .returned (.int .u64 0) ∧ w' = w.setCell Az (.int .u64 (v : Nat)) := by
  obtain ⟨u, hz⟩ := hz
  have k0 : ((s : Int) == 0) = false := decide_eq_false (by omega)
  have k1 := and63 s h2
  have k2 := and63 (64 - s) (by omega)
  have k3 : ((64 - s : Nat) : Int) = 64 - (s : Int) := by omega
  rw [k3] at k2
  have k4 : (x : Int) / 2 ^ (64 - s) = 0 := by
    refine Int.ediv_eq_zero_of_lt (by omega) ?_
    have e : (2 : Nat) ^ s * 2 ^ (64 - s) = 18446744073709551616 := by rw [← Nat.pow_add]; rw [show s + (64 - s) = 64 from by omega]
    have : x < 2 ^ (64 - s) := by
      refine Nat.lt_of_not_le fun hle => ?_
      have h3 : 2 ^ (64 - s) * 2 ^ s ≤ x * 2 ^ s := Nat.mul_le_mul_right _ hle
      rw [Nat.mul_comm, e, hv] at h3
      omega
    have h4 : ((x : Nat) : Int) < ((2 ^ (64 - s) : Nat) : Int) := by omega
    simpa using h4
  have H := Lib.hid (And.intro hv hv2); clear hv hv2 k3
  go_enter Tryz.func32, Tryz.ntmps32
  go_wp2_with fail
  go_loopg [8] 0 (fun gh i wr => i = .int .i64 0 ∧ w = wr)
  case atStart => exact ⟨rfl, rfl⟩
  case round =>
    obtain ⟨rfl, rfl⟩ := hrel
    go_wp2_with fail
    go_ret
    refine ⟨rfl, ?_⟩
    have e : IntKind.u64.wrap ((x : Int) * 2 ^ s) = (v : Nat) := by
      have e2 : (x : Int) * 2 ^ s = (v : Nat) := by rw [← H.out.1]; simp
      rw [e2, IntKind.wrap_u64]
      have := H.out.2
      omega
    rw [e]
end Go.Proofs.YtabgeonlodmpiaaGreatDoor
