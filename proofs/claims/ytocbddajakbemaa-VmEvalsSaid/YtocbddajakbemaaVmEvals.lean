/- vm: VmEvals' walk. -/
import Derived.Test.YtocbddajakbemaaMU
set_option linter.unusedVariables false
namespace Go.Proofs.Ytocbddajakbemaa
open Go.RowKit

set_option maxRecDepth 100000 in
theorem vmEvals_walk (op : Nat) (h256 : op < 256) (a b : Int) (h0 : -9223372036854775808 ≤ a) (h1 : a ≤ 9223372036854775807) (w : World) :
    Calls Try.prog 3 #[.int .u8 (op : Int), .int .i64 a, .int .i64 b] w fun e w' => e = .returned (.bool true) ∧ Below w.heap.size w w' := by
  have E := evals_ok op h256 a b h0 h1 w
  have A := fun W => awake_ok W
  clear h256 h0 h1
  go_enter Try.func3, Try.ntmps3
  go_wp2_with (first
    | (go_at_call 7; refine E.mono ?_; rintro e w1 ⟨rfl, rfl⟩)
    | (go_at_call 8; refine (A _).mono ?_; rintro e w2 ⟨rfl, hb⟩; have H := Lib.hid hb; clear hb))
  go_ret
  exact ⟨rfl, H.out⟩
end Go.Proofs.Ytocbddajakbemaa
