/- math/big: Int.Sub, Cmp. -/
import Derived.Test.YtpnlcnilhlcfpaaBOps2
set_option linter.unusedVariables false
namespace Go.Proofs.Ytpnlcnilhlcfpaa
open Go.RowKit

theorem quiet_of_draws2 {P : Program} {f : FuncId} {args : Array Value} {w : World} {a n : Nat} {v : Value}
    (h : Calls P f args (w.drewN (a + n)) fun e w' => e = .returned v ∧ ∃ m, w' = (w.drewN (a + n)).drewN m) : Calls P f args (w.drewN (a + n)) fun e w'' => e = .returned v ∧ ∃ m, w'' = w.drewN (a + m) :=
  h.mono fun _ _ ⟨he, m, hm⟩ => ⟨he, n + m, by rw [hm, drewN2, Nat.add_assoc]⟩
set_option maxRecDepth 100000 in
set_option maxHeartbeats 1600000 in
theorem int_sub (w : World) (B g g2 x y : Nat) (hz : NumAt w B g x) (hy : NumAt w B g2 y)
    (hx2 : x < 36893488147419103232) (hy0 : 0 < y) (hy1 : y < 18446744073709551616) (hle : y ≤ x) (hBw : B ≤ w.heap.size) :
    Calls Try.prog 41 #[.pointer (some ⟨g, 0, none⟩), .pointer (some ⟨g, 0, none⟩), .pointer (some ⟨g2, 0, none⟩)] w fun e w' => e = .returned (.pointer (some ⟨g, 0, none⟩)) ∧ NumAt w' B g (x - y) ∧ Below B w w' := by
  obtain ⟨hB, Az, nz, cz, hi, hs⟩ := hz
  obtain ⟨hB2, A2, n2, c2, hi2, hs2⟩ := hy
  have z0 : w.cell? ⟨g, 0, none⟩ = some (.bool false) := (cell_of_block hi 0).trans rfl
  have y0 : w.cell? ⟨g2, 0, none⟩ = some (.bool false) := (cell_of_block hi2 0).trans rfl
  have z1 : w.cell? ⟨g, 1, none⟩ = some (.slice Az nz cz) := (cell_of_block hi 1).trans rfl
  have x1 : w.cell? ⟨g2, 1, none⟩ = some (.slice A2 n2 c2) := (cell_of_block hi2 1).trans rfl
  have CM := fun m => cmp_any (w.drewN m) B B x y Az nz cz hs A2 n2 c2 hs2 hx2 hy0 (by omega)
  have kc : decide (0 ≤ cmpI x y) = true := decide_eq_true ((cmpI_nonneg x y).2 hle)
  have LL := fun m => (sub_any (w.drewN m) B B x y Az nz cz hs A2 n2 c2 hs2 hy0 hy1 hle hx2).mono (fun e w2 h => (show ∃ A' n c, e = .returned (.slice A' n c) ∧ w2.cell? ⟨g, 1, none⟩ = some (.slice Az nz cz) ∧ w2.frozen? ⟨g, 1, none⟩ = false ∧
      (w2.setCell ⟨g, 1, none⟩ (.slice A' n c)).cell? ⟨g, 1, none⟩ = some (.slice A' n c) ∧ (w2.setCell ⟨g, 1, none⟩ (.slice A' n c)).cell? ⟨g, 0, none⟩ = some (.bool false) ∧ (w2.setCell ⟨g, 1, none⟩ (.slice A' n c)).frozen? ⟨g, 0, none⟩ = false ∧
      Hid (NumAt ((w2.setCell ⟨g, 1, none⟩ (.slice A' n c)).setCell ⟨g, 0, none⟩ (.bool false)) B g (x - y) ∧ Below B w ((w2.setCell ⟨g, 1, none⟩ (.slice A' n c)).setCell ⟨g, 0, none⟩ (.bool false))) from by
    obtain ⟨A', n, c, rfl, r1, r2⟩ := h
    exact ⟨A', n, c, rfl, bin_post (W := w.drewN m) hi hB ⟨rfl, rfl, rfl, rfl⟩ r1 r2⟩))
  clear hi hs hi2 hs2 hx2 hBw hB hB2 hy0 hy1 hle
  generalize cmpI x y = cc at CM kc
  go_enter Try.func41, Try.ntmps41
  go_wp2_with fail
  go_quiet (fail)
  have LL1 := fun m => LL (nq + m); clear LL
  go_wp2_with fail
  go_quiet ((go_at_call 56; exact quiet_of_draws2 (CM _)))
  go_wp2_with fail
  rw [drewN2]
  have L : Calls _ _ _ (World.drewN w (_ + nq + 1)) _ := LL1 (nq + 1); clear LL1
  go_region_with ((refine L.mono ?_; rintro e w2 ⟨A', n, c, rfl, y1, y2, y3, y4, y5, y6⟩))
  all_goals (cases hk : decide (0 < n))
  all_goals (go_wp2_with fail; go_ret; exact ⟨rfl, y6.out.1, y6.out.2⟩)
end Go.Proofs.Ytpnlcnilhlcfpaa
