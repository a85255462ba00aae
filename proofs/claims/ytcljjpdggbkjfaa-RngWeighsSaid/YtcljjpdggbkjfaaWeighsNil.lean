/- RngWeighs where no weight comes in. -/
import Derived.Test.YtcljjpdggbkjfaaWeighs
set_option linter.unusedVariables false
namespace Go.Proofs.Ytcljjpdggbkjfaa
open Go.RowKit

set_option maxRecDepth 100000 in
set_option maxHeartbeats 1000000 in
theorem weighs_empty (s k : Int) (ad : Addr) (cap : Nat) (t : Int) (w : World) (hcm : cap ≤ 9223372036854775807) :
    Calls Try.prog 6 #[.int .u64 s, .int .i64 k, .slice (some ad) 0 cap, .int .u8 t] w fun e w' => e = .returned (.bool true) ∧ Below w.heap.size w w' := by
  go_enter Try.func6, Try.ntmps6
  go_wp2_with fail
  go_loopg [10, 11, 12, 46] 0 (fun gh v u sm i wr => v = .slice none 0 0 ∧ u = .slice none 0 0 ∧ sm = .int .i64 0 ∧ i = .int .i64 0 ∧ wr = w)
  case atStart => exact ⟨rfl, rfl, rfl, rfl, rfl⟩
  case round =>
    obtain ⟨rfl, rfl, rfl, rfl, rfl⟩ := hrel
    go_wp2_with fail
    refine (Weigh_zero none 0 [] s k _ (fun j hj => by simp at hj) (by decide) (fun j hj => by simp at hj) rfl).mono ?_
    rintro e w2 ⟨rfl, hb⟩
    have HB2 := Lib.hid hb; clear hb
    go_wp2_with fail
    refine (awake_calls _).mono ?_
    rintro e w9 ⟨rfl, hb⟩
    have HB9 := Lib.hid (then_ HB2.out hb); clear hb HB2
    go_wp2_with fail
    go_ret
    exact ⟨rfl, HB9.out⟩

set_option maxRecDepth 100000 in
set_option maxHeartbeats 1000000 in
theorem weighs_nil (s k t : Int) (w : World) :
    Calls Try.prog 6 #[.int .u64 s, .int .i64 k, .slice none 0 0, .int .u8 t] w fun e w' => e = .returned (.bool true) ∧ Below w.heap.size w w' := by
  go_enter Try.func6, Try.ntmps6
  go_wp2_with fail
  go_loopg [10, 11, 12, 46] 0 (fun gh v u sm i wr => v = .slice none 0 0 ∧ u = .slice none 0 0 ∧ sm = .int .i64 0 ∧ i = .int .i64 0 ∧ wr = w)
  case atStart => exact ⟨rfl, rfl, rfl, rfl, rfl⟩
  case round =>
    obtain ⟨rfl, rfl, rfl, rfl, rfl⟩ := hrel
    go_wp2_with fail
    refine (Weigh_zero none 0 [] s k _ (fun j hj => by simp at hj) (by decide) (fun j hj => by simp at hj) rfl).mono ?_
    rintro e w2 ⟨rfl, hb⟩
    have HB2 := Lib.hid hb; clear hb
    go_wp2_with fail
    refine (awake_calls _).mono ?_
    rintro e w9 ⟨rfl, hb⟩
    have HB9 := Lib.hid (then_ HB2.out hb); clear hb HB2
    go_wp2_with fail
    go_ret
    exact ⟨rfl, HB9.out⟩

/-- All inputs. -/
theorem weighs_all (s k : Int) (A : Option Addr) (len cap : Nat) (zs : List Int) (t : Int) (w : World) (k0 : -9223372036854775808 ≤ k) (k1 : k ≤ 9223372036854775807) (t0 : 0 ≤ t) (t1 : t ≤ 255)
    (h : (A = none ∧ len = 0 ∧ cap = 0 ∧ zs = []) ∨ ∃ x : Addr, A = some x ∧ len ≤ cap ∧ cap ≤ 9223372036854775807 ∧ zs.length = cap ∧ (∀ i, i < zs.length → w.cell? (x.add i) = some (.int .u16 (zs.getD i 0))) ∧ ∀ i : Nat, 0 ≤ zs[i]?.getD 0 ∧ zs[i]?.getD 0 ≤ 65535) :
    Calls Try.prog 6 #[.int .u64 s, .int .i64 k, .slice A len cap, .int .u8 t] w fun e w' => e = .returned (.bool true) ∧ Below w.heap.size w w' := by
  rcases h with ⟨rfl, rfl, rfl, rfl⟩ | ⟨x, rfl, hlc, hcm, hz, hc, hb⟩
  · exact weighs_nil s k t w
  · rcases Nat.eq_zero_or_pos len with h0 | h0
    · subst h0; exact weighs_empty s k x cap t w hcm
    · refine weighs_walk s k x len cap (zs.take (min len 50)) t (min len 50) w k0 k1 t0 t1 hlc hcm ?_ (Nat.min_le_left _ _) (Nat.min_le_right _ _) (by rw [List.length_take]; omega) ?_ (by omega)
      · split <;> omega
      · intro j hj
        rw [List.length_take] at hj
        have e : (zs.take (min len 50)).getD j 0 = zs.getD j 0 := by
          rw [List.getD_eq_getElem?_getD, List.getD_eq_getElem?_getD, List.getElem?_take, if_pos (by omega)]
        rw [e]
        refine ⟨hc j (by omega), ?_⟩
        rw [List.getD_eq_getElem?_getD]
        exact hb j
end Go.Proofs.Ytcljjpdggbkjfaa
