/- math/big: Int.Lsh, Add, Sub, Cmp on numbers in memory. -/
import Derived.Test.YtabgeonlodmpiaaGreatDoorBCmp2
import Derived.Deep.RegionHeld3
set_option linter.unusedVariables false
namespace Go.Proofs.YtabgeonlodmpiaaGreatDoor
open Go.RowKit

/-- An Int that is not negative, with its words, from block B on. -/
def NumAt (w : World) (B g v : Nat) : Prop := B ≤ g ∧ ∃ A n cap, IntAt w g (.slice A n cap) ∧ NumS w B A n cap v
theorem SLc.move {w w' : World} {B : Nat} {A : Option Addr} {cap : Nat} (h : SLc w B A cap) (k : ∀ b cs, WB w b cs → WB w' b cs) : SLc w' B A cap := by
  rcases h with h | ⟨h', cs, e, hB, hb, hs⟩
  · exact Or.inl h
  · exact Or.inr ⟨h', cs, e, hB, k _ _ hb, hs⟩
theorem NumS.move {w w' : World} {B : Nat} {A : Option Addr} {n cap v : Nat} (h : NumS w B A n cap v) (k : ∀ b cs, WB w b cs → WB w' b cs) : NumS w' B A n cap v := by
  refine ⟨h.1.move k, h.2.1, h.2.2.1, fun j x e => ?_⟩
  obtain ⟨h', rfl, hc⟩ := h.2.2.2 j x e
  refine ⟨h', rfl, ?_⟩
  rcases h.1 with ⟨e, _⟩ | ⟨h2, cs, e, _, hb, _⟩
  · cases e
  · cases e
    exact ((cell_of_block (k _ _ hb) j).trans (cell_of_block hb j).symm).trans hc
theorem IntAt.lt {w : World} {g : Nat} {S : Value} (h : IntAt w g S) : g < w.heap.size := lt_of_block h
/-- A store into an Int leaves words as they are. -/
theorem words_store {w : World} {g : Nat} {c : Array Value} (hg : w.heap[g]? = some (Obj.cells c 57 (0, 0))) (i : Nat) (u : Value) : ∀ b cs, WB w b cs → WB (w.setCell ⟨g, i, none⟩ u) b cs := fun b cs hb => by
  have hne : b ≠ g := by
    rintro rfl
    unfold WB at hb; rw [hb] at hg; cases hg
  exact (Below.heap_setCell _ _ _ _ hne).trans hb
/-- What the two stores of an Int make. -/
theorem int_stored {w : World} {B g v : Nat} {S : Value} {A : Option Addr} {n cap : Nat} (hg : IntAt w g S) (hB : B ≤ g) (h : NumS w B A n cap v) :
    IntAt (w.setCell ⟨g, 1, none⟩ (.slice A n cap)) g (.slice A n cap) ∧ NumAt ((w.setCell ⟨g, 1, none⟩ (.slice A n cap)).setCell ⟨g, 0, none⟩ (.bool false)) B g v ∧ Below B w ((w.setCell ⟨g, 1, none⟩ (.slice A n cap)).setCell ⟨g, 0, none⟩ (.bool false)) := by
  have h1 := block_setCell hg 1 (.slice A n cap)
  have h2 := block_setCell h1 0 (.bool false)
  exact ⟨h1, ⟨hB, A, n, cap, h2, (h.move (words_store hg 1 _)).move (words_store h1 0 _)⟩, ((Below.refl B w).setCell hB _).setCell hB _⟩
theorem NumAt.kept {w w' : World} {B g v : Nat} (h : NumAt w B g v) (k : Below w.heap.size w w') : NumAt w' B g v := by
  obtain ⟨hB, A, n, cap, h1, h2⟩ := h
  exact ⟨hB, A, n, cap, (k.block g h1.lt).trans h1, h2.kept k⟩
theorem NumAt.drewN {w : World} {B g v : Nat} (h : NumAt w B g v) (n : Nat) : NumAt (w.drewN n) B g v := h

set_option maxRecDepth 100000 in
set_option maxHeartbeats 1600000 in
theorem int_lsh (w : World) (B g g2 v s nz cz nx cx : Nat) (Az Ax : Option Addr) (hz : IntAt w g (.slice Az nz cz)) (hx : IntAt w g2 (.slice Ax nx cx)) (hB : B ≤ g)
    (L : Calls Tryz.prog 39 #[.slice Az nz cz, .slice Ax nx cx, .int .u64 (s : Nat)] w.drew fun e w' => ∃ A' n c, e = .returned (.slice A' n c) ∧ NumS w' B A' n c v ∧ Fm B w.drew w') :
    Calls Tryz.prog 24 #[.pointer (some ⟨g, 0, none⟩), .pointer (some ⟨g2, 0, none⟩), .int .u64 (s : Nat)] w fun e w' => e = .returned (.pointer (some ⟨g, 0, none⟩)) ∧ NumAt w' B g v ∧ Below B w w' := by
  have z1 : w.cell? ⟨g, 1, none⟩ = some (.slice Az nz cz) := (cell_of_block hz 1).trans rfl
  have x1 : w.cell? ⟨g2, 1, none⟩ = some (.slice Ax nx cx) := (cell_of_block hx 1).trans rfl
  have H := Lib.hid (And.intro hz (And.intro hx hB)); clear hz hx hB
  have L := L.mono (fun e w2 h => (show ∃ A' n c, e = .returned (.slice A' n c) ∧ w2.cell? ⟨g, 1, none⟩ = some (.slice Az nz cz) ∧ w2.frozen? ⟨g, 1, none⟩ = false ∧
      (w2.setCell ⟨g, 1, none⟩ (.slice A' n c)).cell? ⟨g2, 0, none⟩ = some (.bool false) ∧ (w2.setCell ⟨g, 1, none⟩ (.slice A' n c)).cell? ⟨g, 0, none⟩ = some (.bool false) ∧ (w2.setCell ⟨g, 1, none⟩ (.slice A' n c)).frozen? ⟨g, 0, none⟩ = false ∧
      Hid (NumAt ((w2.setCell ⟨g, 1, none⟩ (.slice A' n c)).setCell ⟨g, 0, none⟩ (.bool false)) B g v ∧ Below B w ((w2.setCell ⟨g, 1, none⟩ (.slice A' n c)).setCell ⟨g, 0, none⟩ (.bool false))) from by
    obtain ⟨A', n, c, rfl, r1, r2⟩ := h
    obtain ⟨hz, hx, hB⟩ := H.out
    have hz2 : IntAt w2 g (.slice Az nz cz) := r2.ints _ _ hz
    have hx2 : IntAt w2 g2 (.slice Ax nx cx) := r2.ints _ _ hx
    have S := int_stored hz2 hB r1
    refine ⟨A', n, c, rfl, (cell_of_block hz2 1).trans rfl, free_of_block hz2 1, ?_, (cell_of_block S.1 0).trans rfl, free_of_block S.1 0, Lib.hid ⟨S.2.1, (Below.refl B w).drew.trans (r2.below.trans S.2.2)⟩⟩
    by_cases e : g2 = g
    · subst e; exact (cell_of_block S.1 0).trans rfl
    · exact ((cell_of_block ((Below.heap_setCell _ _ _ _ e).trans hx2) 0)).trans rfl))
  go_enter Tryz.func24, Tryz.ntmps24
  go_wp2_with fail
  go_region_with ((refine L.mono ?_; rintro e w2 ⟨A', n, c, rfl, y1, y2, y3, y4, y5, y6⟩))
  all_goals (go_wp2_with fail; go_ret; exact ⟨rfl, y6.out.1, y6.out.2⟩)
end Go.Proofs.YtabgeonlodmpiaaGreatDoor
