/- math/bits: sums and differences of words. -/
import Derived.Test.YtabgeonlodmpiaaGreatDoorAid
import Derived.Test.YtabgeonlodmpiaaGreatDoorProg
import Derived.Laws.Externs
set_option linter.unusedVariables false
namespace Go.Proofs.YtabgeonlodmpiaaGreatDoor
open Go.RowKit

theorem sum_ex (x y c : Nat) : ∃ s t : Nat, (x + y + c) % 18446744073709551616 = s ∧ (x + y + c) / 18446744073709551616 = t := ⟨_, _, rfl, rfl⟩
def bor (x y : Nat) : Nat := if x < y then 1 else 0

theorem add64_run (x y c s t : Nat) (hc : c ≤ 1) (hs : (x + y + c) % 18446744073709551616 = s) (ht : (x + y + c) / 18446744073709551616 = t) (w : World) :
    (callFunc 98 #[.int .u64 (x : Nat), .int .u64 (y : Nat), .int .u64 (c : Nat)]).run Tryz.prog w = .ok (.value (.tuple #[.int .u64 (s : Nat), .int .u64 (t : Nat)])) w := by
  rw [run_callFunc_extern (e := add64Entry) Tryz.func98 (by kernel_rfl) (by kernel_rfl) (by kernel_rfl) (by kernel_rfl)]
  rw [run_add64 (x : Nat) (y : Nat) (c : Nat) (by omega) (by omega) (by omega) (by omega)]
  show Result.ok _ _ = _
  have e1 : ((x : Int) + y + c) % 18446744073709551616 = (s : Nat) := by omega
  have e2 : ((x : Int) + y + c) / 18446744073709551616 = (t : Nat) := by omega
  rw [e1, e2]
def sub64Entry : Array Value → Sem Value := fun args => do
  let (x, y, b) ← Extern.MathBitsCarry.three "Sub64" args
  pure (Extern.MathBitsCarry.pair ((x + Extern.MathBitsCarry.m64 - y - b) % Extern.MathBitsCarry.m64) (if x < y + b then 1 else 0))
theorem run_sub64 {P : Program} (x y k : Nat) (hk : k ≤ 1) (w : World) :
    (sub64Entry #[.int .u64 (x : Nat), .int .u64 (y : Nat), .int .u64 (k : Nat)]).run P w =
      .ok (Extern.MathBitsCarry.pair ((x + Extern.MathBitsCarry.m64 - y - k) % Extern.MathBitsCarry.m64) (if x < y + k then 1 else 0)) w := by
  have : k = 0 ∨ k = 1 := by omega
  rcases this with rfl | rfl <;> rfl
theorem sub64_run (x y c s t : Nat) (hc : c ≤ 1) (hs : (x + 18446744073709551616 - y - c) % 18446744073709551616 = s) (ht : bor x (y + c) = t) (w : World) :
    (callFunc 100 #[.int .u64 (x : Nat), .int .u64 (y : Nat), .int .u64 (c : Nat)]).run Tryz.prog w = .ok (.value (.tuple #[.int .u64 (s : Nat), .int .u64 (t : Nat)])) w := by
  rw [run_callFunc_extern (e := sub64Entry) Tryz.func100 (by kernel_rfl) (by kernel_rfl) (by kernel_rfl) (by kernel_rfl)]
  rw [run_sub64 x y c hc]
  subst hs; subst ht
  rfl
set_option maxRecDepth 100000 in
theorem Add_ok (x y c s t : Nat) (hc : c ≤ 1) (hs : (x + y + c) % 18446744073709551616 = s) (ht : (x + y + c) / 18446744073709551616 = t) (w : World) :
    Calls Tryz.prog 76 #[.int .u64 (x : Nat), .int .u64 (y : Nat), .int .u64 (c : Nat)] w fun e w' => e = .returned (.tuple #[.int .u64 (s : Nat), .int .u64 (t : Nat)]) ∧ w = w' := by
  have H := add64_run x y c s t hc hs ht w
  clear hs ht
  go_enter Tryz.func76, Tryz.ntmps76
  go_wp2_with (simp only [H])
  go_ret2
  exact ⟨rfl, rfl⟩
set_option maxRecDepth 100000 in
theorem Sub_ok (x y c s t : Nat) (hc : c ≤ 1) (hs : (x + 18446744073709551616 - y - c) % 18446744073709551616 = s) (ht : bor x (y + c) = t) (w : World) :
    Calls Tryz.prog 79 #[.int .u64 (x : Nat), .int .u64 (y : Nat), .int .u64 (c : Nat)] w fun e w' => e = .returned (.tuple #[.int .u64 (s : Nat), .int .u64 (t : Nat)]) ∧ w = w' := by
  have H := sub64_run x y c s t hc hs ht w
  clear hs ht
  go_enter Tryz.func79, Tryz.ntmps79
  go_wp2_with (simp only [H])
  go_ret2
  exact ⟨rfl, rfl⟩
end Go.Proofs.YtabgeonlodmpiaaGreatDoor
