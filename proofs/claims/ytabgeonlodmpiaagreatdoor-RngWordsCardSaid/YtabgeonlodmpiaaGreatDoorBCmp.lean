/- math/big: nat.cmp. -/
import Derived.Test.YtabgeonlodmpiaaGreatDoorBNum
set_option linter.unusedVariables false
namespace Go.Proofs.YtabgeonlodmpiaaGreatDoor
open Go.RowKit

def cmpI (x y : Nat) : Int := if x < y then -1 else if y < x then 1 else 0
theorem cmpI_nonneg (x y : Nat) : (0 ≤ cmpI x y) ↔ y ≤ x := by
  unfold cmpI
  by_cases h : x < y
  · rw [if_pos h]; omega
  · rw [if_neg h]; split <;> omega
theorem drewN2 (w : World) (a b : Nat) : (w.drewN a).drewN b = w.drewN (a + b) := by simp [World.drewN, Nat.add_assoc]
/-- A number of more words is the greater one. -/
theorem cmp_more (A C : Option Addr) (n m ca cc : Nat) (w : World) (h : m < n) :
    Calls Tryz.prog 45 #[.slice A n ca, .slice C m cc] w fun e w' => e = .returned (.int .i64 1) ∧ w = w' := by
  have k0 : ((n : Int) != m) = true := by rw [bne_iff_ne]; omega
  have k1 : decide ((n : Int) < m) = false := decide_eq_false (by omega)
  have k2 : decide ((n : Int) > m) = true := decide_eq_true (by omega)
  have k3 : decide ((m : Int) < n) = true := decide_eq_true (by omega)
  go_enter Tryz.func45, Tryz.ntmps45
  go_wp2_with fail
  go_ret
  exact ⟨rfl, rfl⟩
set_option maxRecDepth 100000 in
theorem cmp_same (b c n ca cc x y : Nat) (w : World) (h1 : 1 ≤ n) (h2 : n ≤ 2)
    (hx : w.cell? ⟨b, 0, none⟩ = some (.int .u64 (x : Nat))) (hy : w.cell? ⟨c, 0, none⟩ = some (.int .u64 (y : Nat)))
    (hh : n = 2 → w.cell? ⟨b, 1, none⟩ = some (.int .u64 1) ∧ w.cell? ⟨c, 1, none⟩ = some (.int .u64 1)) :
    Calls Tryz.prog 45 #[.slice (some ⟨b, 0, none⟩) n ca, .slice (some ⟨c, 0, none⟩) n cc] w fun e w' => e = .returned (.int .i64 (cmpI x y)) ∧ ∃ m, w' = w.drewN m := by
  have k0 : ((n : Int) != n) = false := by rw [bne_eq_false_iff_eq]
  have k1 : ((n : Int) == 0) = false := decide_eq_false (by omega)
  have i0 : wrap64 ((n : Int) - 1) = ((n - 1 : Nat) : Int) := by unfold wrap64; omega
  have HN := Lib.hid (And.intro h1 (And.intro h2 hh)); clear h1 h2 hh
  go_enter Tryz.func45, Tryz.ntmps45
  go_wp2_with fail
  go_loopg [7] (n - 1) (fun gh i wr => (gh = 0 ∧ i = .int .i64 0 ∨ gh = 1 ∧ n = 2 ∧ i = .int .i64 1) ∧ ∃ m, w.drewN m = wr)
  case atStart =>
    refine ⟨?_, 0, rfl⟩
    rw [i0]
    have := HN.out
    rcases Nat.lt_or_ge n 2 with h | h
    · have : n = 1 := by omega
      subst this; exact Or.inl ⟨rfl, rfl⟩
    · have : n = 2 := by omega
      subst this; exact Or.inr ⟨rfl, rfl, rfl⟩
  case round =>
    obtain ⟨hr, m, rfl⟩ := hrel
    rcases hr with ⟨hgh, rfl⟩ | ⟨hgh, hn2, rfl⟩
    · clear hgh
      have z1 : (0 : Int) < (n : Int) := by have := HN.out.1; omega
      have z0 : (0 : Int) ≤ 0 := by decide
      rcases Nat.lt_trichotomy x y with h | h | h
      · have d1 : decide (x < y) = true := decide_eq_true (by omega)
        have er : cmpI x y = -1 := by unfold cmpI; rw [if_pos h]
        have HQ := Lib.hid (And.intro h er); clear h er
        go_wp2_with fail
        go_quiet (fail)
        go_wp2_with fail
        go_quiet (fail)
        go_wp2_with fail
        go_ret
        exact ⟨by rw [HQ.out.2]; rfl, _, by rw [drewN2, drewN2]⟩
      · have d1 : decide (x < y) = false := decide_eq_false (by omega)
        have d2 : decide (y < x) = false := decide_eq_false (by omega)
        have er : cmpI x y = 0 := by unfold cmpI; rw [if_neg (by omega), if_neg (by omega)]
        have HQ := Lib.hid (And.intro h er); clear h er
        go_wp2_with fail
        go_quiet (fail)
        go_wp2_with fail
        go_quiet (fail)
        go_wp2_with fail
        go_quiet (fail)
        go_wp2_with fail
        go_ret
        exact ⟨by rw [HQ.out.2]; rfl, _, by rw [drewN2, drewN2, drewN2]⟩
      · have d1 : decide (x < y) = false := decide_eq_false (by omega)
        have d2 : decide (y < x) = true := decide_eq_true (by omega)
        have er : cmpI x y = 1 := by unfold cmpI; rw [if_neg (by omega), if_pos h]
        have HQ := Lib.hid (And.intro h er); clear h er
        go_wp2_with fail
        go_quiet (fail)
        go_wp2_with fail
        go_quiet (fail)
        go_wp2_with fail
        go_quiet (fail)
        go_wp2_with fail
        go_ret
        exact ⟨by rw [HQ.out.2]; rfl, _, by rw [drewN2, drewN2, drewN2]⟩
    · have hh := HN.out.2.2 hn2
      obtain ⟨g1, g2⟩ := hh
      have z1 : (1 : Int) < (n : Int) := by omega
      have z0 : (0 : Int) ≤ 1 := by decide
      have Hgh := Lib.hid (And.intro hgh hn2); clear hgh hn2
      go_wp2_with fail
      go_quiet (fail)
      go_wp2_with fail
      go_roundg 0
      case measure => have := Hgh.out; omega
      case rel => exact ⟨Or.inl ⟨rfl, rfl⟩, _, rfl⟩
end Go.Proofs.YtabgeonlodmpiaaGreatDoor
