/- math/big: Int.Add, Sub, Cmp. -/
import Derived.Test.YtpnlcnilhlcfpaaBOps
set_option linter.unusedVariables false
namespace Go.Proofs.Ytpnlcnilhlcfpaa
open Go.RowKit

/-- What a call on words has left, for the Int that takes them. -/
theorem bin_post {w W w2 : World} {B g v nz cz : Nat} {Az : Option Addr} (hz : IntAt w g (.slice Az nz cz)) (hB : B ≤ g) (hW : W.heap = w.heap ∧ W.os = w.os ∧ W.tape = w.tape ∧ W.output = w.output) {A' : Option Addr} {n c : Nat} (r1 : NumS w2 B A' n c v) (r2 : Fm B W w2) :
    w2.cell? ⟨g, 1, none⟩ = some (.slice Az nz cz) ∧ w2.frozen? ⟨g, 1, none⟩ = false ∧
      (w2.setCell ⟨g, 1, none⟩ (.slice A' n c)).cell? ⟨g, 1, none⟩ = some (.slice A' n c) ∧ (w2.setCell ⟨g, 1, none⟩ (.slice A' n c)).cell? ⟨g, 0, none⟩ = some (.bool false) ∧ (w2.setCell ⟨g, 1, none⟩ (.slice A' n c)).frozen? ⟨g, 0, none⟩ = false ∧
      Hid (NumAt ((w2.setCell ⟨g, 1, none⟩ (.slice A' n c)).setCell ⟨g, 0, none⟩ (.bool false)) B g v ∧ Below B w ((w2.setCell ⟨g, 1, none⟩ (.slice A' n c)).setCell ⟨g, 0, none⟩ (.bool false))) := by
  have hz' : IntAt W g (.slice Az nz cz) := by unfold IntAt; rw [hW.1]; exact hz
  have hz2 : IntAt w2 g (.slice Az nz cz) := r2.ints _ _ hz'
  have S := int_stored hz2 hB r1
  have hb : Below B w W := ⟨hW.2.1, hW.2.2.1, hW.2.2.2, by rw [hW.1]; exact Nat.le_refl _, fun k _ => by rw [hW.1]⟩
  exact ⟨(cell_of_block hz2 1).trans rfl, free_of_block hz2 1, (cell_of_block S.1 1).trans rfl, (cell_of_block S.1 0).trans rfl, free_of_block S.1 0, Lib.hid ⟨S.2.1, hb.trans (r2.below.trans S.2.2)⟩⟩
set_option maxRecDepth 100000 in
set_option maxHeartbeats 1600000 in
theorem int_add (w : World) (B g g2 x y : Nat) (hz : NumAt w B g x) (hy : NumAt w B g2 y) (hne : ∀ A n c A2 n2 c2, IntAt w g (.slice A n c) → IntAt w g2 (.slice A2 n2 c2) → A ≠ A2 ∨ A = none)
    (hx2 : x < 18446744073709551616) (hc : x + y < 18446744073709551616 ∨ y = 18446744073709551616) (hBw : B ≤ w.heap.size) :
    Calls Try.prog 39 #[.pointer (some ⟨g, 0, none⟩), .pointer (some ⟨g, 0, none⟩), .pointer (some ⟨g2, 0, none⟩)] w fun e w' => e = .returned (.pointer (some ⟨g, 0, none⟩)) ∧ NumAt w' B g (x + y) ∧ Below B w w' := by
  obtain ⟨hB, Az, nz, cz, hi, hs⟩ := hz
  obtain ⟨hB2, A2, n2, c2, hi2, hs2⟩ := hy
  have hne' := hne _ _ _ _ _ _ hi hi2
  have z0 : w.cell? ⟨g, 0, none⟩ = some (.bool false) := (cell_of_block hi 0).trans rfl
  have y0 : w.cell? ⟨g2, 0, none⟩ = some (.bool false) := (cell_of_block hi2 0).trans rfl
  have z1 : w.cell? ⟨g, 1, none⟩ = some (.slice Az nz cz) := (cell_of_block hi 1).trans rfl
  have x1 : w.cell? ⟨g2, 1, none⟩ = some (.slice A2 n2 c2) := (cell_of_block hi2 1).trans rfl
  have LL := fun m => (add_any (w.drewN m) B x y Az nz cz hs hBw A2 n2 c2 hs2 hx2 hc hne').mono (fun e w2 h => (show ∃ A' n c, e = .returned (.slice A' n c) ∧ w2.cell? ⟨g, 1, none⟩ = some (.slice Az nz cz) ∧ w2.frozen? ⟨g, 1, none⟩ = false ∧
      (w2.setCell ⟨g, 1, none⟩ (.slice A' n c)).cell? ⟨g, 1, none⟩ = some (.slice A' n c) ∧ (w2.setCell ⟨g, 1, none⟩ (.slice A' n c)).cell? ⟨g, 0, none⟩ = some (.bool false) ∧ (w2.setCell ⟨g, 1, none⟩ (.slice A' n c)).frozen? ⟨g, 0, none⟩ = false ∧
      Hid (NumAt ((w2.setCell ⟨g, 1, none⟩ (.slice A' n c)).setCell ⟨g, 0, none⟩ (.bool false)) B g (x + y) ∧ Below B w ((w2.setCell ⟨g, 1, none⟩ (.slice A' n c)).setCell ⟨g, 0, none⟩ (.bool false))) from by
    obtain ⟨A', n, c, rfl, r1, r2⟩ := h
    exact ⟨A', n, c, rfl, bin_post (W := w.drewN m) hi hB ⟨rfl, rfl, rfl, rfl⟩ r1 r2⟩))
  clear hi hs hi2 hs2 hne hne' hx2 hc hBw hB hB2
  go_enter Try.func39, Try.ntmps39
  go_wp2_with fail
  go_quiet (fail)
  go_wp2_with fail
  have L := LL (nq + 1); clear LL
  go_region_with ((refine L.mono ?_; rintro e w2 ⟨A', n, c, rfl, y1, y2, y3, y4, y5, y6⟩))
  all_goals (cases hk : decide (0 < n))
  all_goals (go_wp2_with fail; go_ret; exact ⟨rfl, y6.out.1, y6.out.2⟩)
end Go.Proofs.Ytpnlcnilhlcfpaa
