/- What the walk is told of arguments: slices of integers, slices of structs of integers, structs of integers. -/
import Derived.Test.YtocbddajakbemaaGreatChecked
import Derived.WalkKit
import Derived.ProofKit
import Derived.OpenShut
import Derived.ShutString
import Derived.ChangeOld
import Derived.Below
import Derived.Deep.Slices
import Derived.Deep.Fields
import Derived.ChangeSame
import Derived.Lib.SmallJoins
set_option linter.unusedVariables false
set_option linter.unusedSimpArgs false
set_option linter.unusedSimpArgs false
namespace Go.Proofs.YtocbddajakbemaaGreat
open Go.ChangeShapes Go.WideShapes Go.ChangeAt Go.RowKit Go.Deep Go.Joins
def IsRow (k : IntKind) (w : World) (a : Option Addr) (len cap : Nat) (zs : List Int) : Prop :=
  (a = none ∧ len = 0 ∧ cap = 0 ∧ zs = []) ∨
  ∃ x, a = some x ∧ len ≤ cap ∧ cap ≤ maxLen ∧ zs.length = cap ∧ (∀ i, i < zs.length → w.cell? (x.add i) = some (.int k (zs.getD i 0))) ∧ ∀ n ∈ zs, (Lit.int k n).wf = true
section
variable {H : Type} {enc : TypeId × Value → H} {P : Program} {w : World}
def numV : Value → Int
  | .int _ n => n
  | _ => 0
end
theorem IsRow.bytes {w : World} {a : Option Addr} {len cap : Nat} {zs : List Int} (h : IsRow .u8 w a len cap zs) :
    ∃ f : Nat → Nat, (∀ i, f i < 256) ∧ len ≤ cap ∧ cap ≤ 9223372036854775807 ∧ (a = none → len = 0 ∧ cap = 0) ∧ (∀ i, i < len → ∃ ad, a = some ad ∧ w.cell? (ad.add i) = some (.int .u8 ((f i : Nat) : Int))) := by
  rcases h with ⟨rfl, rfl, rfl, rfl⟩ | ⟨x, rfl, h1, h2, h3, h4, h5⟩
  · exact ⟨fun _ => 0, by simp, by simp, by simp, fun _ => ⟨rfl, rfl⟩, fun i hi => by omega⟩
  · have hb : ∀ i, 0 ≤ zs.getD i 0 ∧ zs.getD i 0 ≤ 255 := by
      intro i
      by_cases hi : i < zs.length
      · have := bounds_u8 (h5 (zs.getD i 0) (by rw [List.getD_eq_getElem?_getD, List.getElem?_eq_getElem hi]; simp))
        omega
      · rw [List.getD_eq_getElem?_getD, List.getElem?_eq_none (by omega)]; simp
    refine ⟨fun i => (zs.getD i 0).toNat, fun i => ?_, h1, by simpa [maxLen] using h2, fun e => absurd e (by simp), fun i hi => ⟨x, rfl, ?_⟩⟩
    · have := hb i
      show (zs.getD i 0).toNat < 256
      omega
    · rw [h4 i (by omega)]
      have := hb i
      show some (Value.int .u8 (zs.getD i 0)) = some (Value.int .u8 ((zs.getD i 0).toNat : Int))
      rw [Int.toNat_of_nonneg this.1]
end Go.Proofs.YtocbddajakbemaaGreat
