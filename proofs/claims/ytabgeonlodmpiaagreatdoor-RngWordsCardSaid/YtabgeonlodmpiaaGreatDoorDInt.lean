/- math/big: Int.QuoRem, Div, Mod, Mul, SetUint64, Int64 on numbers that are not negative. -/
import Derived.Test.YtabgeonlodmpiaaGreatDoorDMul
import Derived.Test.YtabgeonlodmpiaaGreatDoorRegG
import Derived.RegionTactic
set_option linter.unusedVariables false
namespace Go.Proofs.YtabgeonlodmpiaaGreatDoor
open Go.RowKit

/-- Of the blocks that were none has turned but g. -/
structure Kb (g : Nat) (w w' : World) : Prop where
  os : w'.os = w.os
  tape : w'.tape = w.tape
  output : w'.output = w.output
  size : w.heap.size ≤ w'.heap.size
  block : ∀ b, b < w.heap.size → b ≠ g → w'.heap[b]? = w.heap[b]?
theorem Kb.refl (g : Nat) (w : World) : Kb g w w := ⟨rfl, rfl, rfl, Nat.le_refl _, fun _ _ _ => rfl⟩
theorem Kb.below {g B : Nat} {w w' : World} (h : Kb g w w') (hB : B ≤ g) (hw : B ≤ w.heap.size) : Below B w w' := ⟨h.os, h.tape, h.output, h.size, fun k hk => h.block k (by omega) (by omega)⟩
theorem Kb.of {g : Nat} {w w' : World} (h : Below w.heap.size w w') : Kb g w w' := ⟨h.os, h.tape, h.output, h.size, fun k hk _ => h.block k hk⟩
theorem Kb.trans {g : Nat} {a b c : World} (h : Kb g a b) (k : Kb g b c) : Kb g a c :=
  ⟨k.os.trans h.os, k.tape.trans h.tape, k.output.trans h.output, Nat.le_trans h.size k.size, fun i hi hne => (k.block i (Nat.lt_of_lt_of_le hi h.size) hne).trans (h.block i hi hne)⟩
theorem Kb.set {g i : Nat} {a b : World} (h : Kb g a b) (u : Value) : Kb g a (b.setCell ⟨g, i, none⟩ u) :=
  ⟨h.os, h.tape, h.output, by simpa [World.setCell] using h.size, fun k hk hne => (Below.heap_setCell _ _ _ _ hne).trans (h.block k hk hne)⟩
/-- A store into a block that is new. -/
theorem Kb.setNew {g i j : Nat} {a b : World} (h : Kb g a b) (hj : a.heap.size ≤ j) (u : Value) : Kb g a (b.setCell ⟨j, i, none⟩ u) :=
  ⟨h.os, h.tape, h.output, by simpa [World.setCell] using h.size, fun k hk hne => (Below.heap_setCell _ _ _ _ (by show k ≠ j; omega)).trans (h.block k hk hne)⟩
theorem IntAt.kb {g k : Nat} {w w' : World} {S : Value} (h : IntAt w k S) (b : Kb g w w') (hne : k ≠ g) : IntAt w' k S := (b.block k h.lt hne).trans h
theorem NumAt.kb {g k B v : Nat} {w w' : World} {S : Value} (h : NumAt w B k v) (hg : IntAt w g S) (b : Kb g w w') (hne : k ≠ g) : NumAt w' B k v := by
  obtain ⟨hB, A, n, c, h1, h2⟩ := h
  refine ⟨hB, A, n, c, h1.kb b hne, h2.oth (X := none) (fun b' cs hb _ => (b.block b' hb.lt ?_).trans hb) (fun b _ => by simp)⟩
  rintro rfl
  unfold WB at hb; unfold IntAt at hg
  rw [hb] at hg; cases hg

/-- The two stores of a division's slices, and of its signs. -/
theorem quo_stored {w : World} {B g gr q r nq cq nr cr : Nat} {S S' : Value} {Aq Ar : Option Addr} (hg : IntAt w g S) (hr : IntAt w gr S') (hne : g ≠ gr) (hB : B ≤ g) (hBr : B ≤ gr) (h1 : NumS w B Aq nq cq q) (h2 : NumS w B Ar nr cr r) :
    ∃ w2 w3 w4, w2 = w.setCell ⟨g, 1, none⟩ (.slice Aq nq cq) ∧ w3 = w2.setCell ⟨gr, 1, none⟩ (.slice Ar nr cr) ∧ w4 = w3.setCell ⟨g, 0, none⟩ (.bool false) ∧
      IntAt w2 g (.slice Aq nq cq) ∧ IntAt w2 gr S' ∧ IntAt w3 g (.slice Aq nq cq) ∧ IntAt w3 gr (.slice Ar nr cr) ∧ IntAt w4 gr (.slice Ar nr cr) ∧
      (∀ k T, IntAt w k T → ∃ T', IntAt w3 k T') ∧
      NumAt (w4.setCell ⟨gr, 0, none⟩ (.bool false)) B g q ∧ NumAt (w4.setCell ⟨gr, 0, none⟩ (.bool false)) B gr r := by
  have a1 := block_setCell hg 1 (.slice Aq nq cq)
  have a2 : IntAt (w.setCell ⟨g, 1, none⟩ (.slice Aq nq cq)) gr S' := (Below.heap_setCell _ _ _ _ (fun e => hne e.symm)).trans hr
  have b2 := block_setCell a2 1 (.slice Ar nr cr)
  have b1 : IntAt ((w.setCell ⟨g, 1, none⟩ (.slice Aq nq cq)).setCell ⟨gr, 1, none⟩ (.slice Ar nr cr)) g (.slice Aq nq cq) := (Below.heap_setCell _ _ _ _ hne).trans a1
  have c1 := block_setCell b1 0 (.bool false)
  have c2 : IntAt (((w.setCell ⟨g, 1, none⟩ (.slice Aq nq cq)).setCell ⟨gr, 1, none⟩ (.slice Ar nr cr)).setCell ⟨g, 0, none⟩ (.bool false)) gr (.slice Ar nr cr) := (Below.heap_setCell _ _ _ _ (fun e => hne e.symm)).trans b2
  have d2 := block_setCell c2 0 (.bool false)
  have d1 : IntAt ((((w.setCell ⟨g, 1, none⟩ (.slice Aq nq cq)).setCell ⟨gr, 1, none⟩ (.slice Ar nr cr)).setCell ⟨g, 0, none⟩ (.bool false)).setCell ⟨gr, 0, none⟩ (.bool false)) g (.slice Aq nq cq) := (Below.heap_setCell _ _ _ _ hne).trans c1
  have mv := fun (b : Nat) cs (hb : WB w b cs) => words_store c2 0 (.bool false) b cs (words_store b1 0 (.bool false) b cs (words_store a2 1 (.slice Ar nr cr) b cs (words_store hg 1 (.slice Aq nq cq) b cs hb)))
  refine ⟨_, _, _, rfl, rfl, rfl, a1, a2, b1, b2, c2, fun k T hk => ?_, ⟨hB, _, _, _, d1, h1.move mv⟩, ⟨hBr, _, _, _, d2, h2.move mv⟩⟩
  by_cases e1 : k = gr
  · subst e1; exact ⟨_, b2⟩
  · by_cases e2 : k = g
    · subst e2; exact ⟨_, b1⟩
    · exact ⟨T, (Below.heap_setCell _ _ _ _ e1).trans ((Below.heap_setCell _ _ _ _ e2).trans hk)⟩

set_option maxRecDepth 100000 in
set_option maxHeartbeats 40000000 in
theorem int_quorem (w : World) (B Bu Bv g gr gx gy x n lu cu lv cv l2 c2 : Nat) (Au Av A2 : Option Addr) (hz : IntAt w g (.slice none 0 0)) (hr : IntAt w gr (.slice A2 l2 c2)) (hxa : IntAt w gx (.slice Au lu cu)) (hya : IntAt w gy (.slice Av lv cv))
    (hu : NumS w Bu Au lu cu x) (hx : x ≤ 18446744073709551616) (hv : NumS w Bv Av lv cv n) (hn : 1 ≤ n) (hn2 : n < 9223372036854775808) (h2 : SLc w B A2 c2) (hl : l2 ≤ c2) (hB : B ≤ w.heap.size) (hBg : B ≤ g) (hBr : B ≤ gr) (hne : g ≠ gr) :
    Calls Tryz.prog 41 #[.pointer (some ⟨g, 0, none⟩), .pointer (some ⟨gx, 0, none⟩), .pointer (some ⟨gy, 0, none⟩), .pointer (some ⟨gr, 0, none⟩)] w fun e w' =>
      ∃ r, e = .returned (.tuple #[.pointer (some ⟨g, 0, none⟩), .pointer (some ⟨gr, 0, none⟩)]) ∧ NumAt w' B g (x / n) ∧ NumAt w' B gr r ∧ (x < 18446744073709551616 → r = x % n) ∧ Below B w w' := by
  have D := (div_ok w.drew B Bu Bv x n lu cu lv cv l2 c2 Au Av A2 hu hx hv hn hn2 h2 hl hB).mono (fun e w1 h => (show ∃ Aq nq cq Ar nr cr, e = .returned (.tuple #[.slice Aq nq cq, .slice Ar nr cr]) ∧ ∃ w2 w3 w4, Hid (w2 = w1.setCell ⟨g, 1, none⟩ (.slice Aq nq cq) ∧ w3 = w2.setCell ⟨gr, 1, none⟩ (.slice Ar nr cr) ∧ w4 = w3.setCell ⟨g, 0, none⟩ (.bool false)) ∧
      w1.cell? ⟨g, 1, none⟩ = some (.slice none 0 0) ∧ w1.frozen? ⟨g, 1, none⟩ = false ∧ w2.cell? ⟨gr, 1, none⟩ = some (.slice A2 l2 c2) ∧ w2.frozen? ⟨gr, 1, none⟩ = false ∧
      w3.cell? ⟨g, 1, none⟩ = some (.slice Aq nq cq) ∧ w3.cell? ⟨gr, 1, none⟩ = some (.slice Ar nr cr) ∧ w3.cell? ⟨gx, 0, none⟩ = some (.bool false) ∧ w3.cell? ⟨gy, 0, none⟩ = some (.bool false) ∧
      w3.cell? ⟨g, 0, none⟩ = some (.bool false) ∧ w3.frozen? ⟨g, 0, none⟩ = false ∧ w4.cell? ⟨gr, 0, none⟩ = some (.bool false) ∧ w4.frozen? ⟨gr, 0, none⟩ = false ∧
      Hid (∃ r, NumAt (w4.setCell ⟨gr, 0, none⟩ (.bool false)) B g (x / n) ∧ NumAt (w4.setCell ⟨gr, 0, none⟩ (.bool false)) B gr r ∧ (x < 18446744073709551616 → r = x % n) ∧ Below B w (w4.setCell ⟨gr, 0, none⟩ (.bool false))) from by
    obtain ⟨Aq, nq, cq, Ar, nr, cr, r, rfl, r1, r2, r3, r4, r5⟩ := h
    have hz1 : IntAt w1 g (.slice none 0 0) := r5.ints _ _ hz
    have hr1 : IntAt w1 gr (.slice A2 l2 c2) := r5.ints _ _ hr
    have hx1 : IntAt w1 gx (.slice Au lu cu) := r5.ints _ _ hxa
    have hy1 : IntAt w1 gy (.slice Av lv cv) := r5.ints _ _ hya
    obtain ⟨w2, w3, w4, e2, e3, e4, a1, a2, b1, b2, c2', hk, n1, n2⟩ := quo_stored hz1 hr1 hne hBg hBr r1 r2
    obtain ⟨Tx, hTx⟩ := hk _ _ hx1
    obtain ⟨Ty, hTy⟩ := hk _ _ hy1
    refine ⟨Aq, nq, cq, Ar, nr, cr, rfl, w2, w3, w4, Lib.hid ⟨e2, e3, e4⟩, (cell_of_block hz1 1).trans rfl, free_of_block hz1 1, (cell_of_block a2 1).trans rfl, free_of_block a2 1, (cell_of_block b1 1).trans rfl, (cell_of_block b2 1).trans rfl,
      (cell_of_block hTx 0).trans rfl, (cell_of_block hTy 0).trans rfl, (cell_of_block b1 0).trans rfl, free_of_block b1 0, (cell_of_block c2' 0).trans rfl, free_of_block c2' 0, Lib.hid ⟨r, n1, n2, r4, ?_⟩⟩
    rw [e4, e3, e2]
    exact (Below.refl B w).drew.trans (Below.setCell (Below.setCell (Below.setCell (Below.setCell r5.below hBg _) hBr _) hBg _) hBr _)))
  have z1 : w.cell? ⟨g, 1, none⟩ = some (.slice none 0 0) := (cell_of_block hz 1).trans rfl
  have q1 : w.cell? ⟨gr, 1, none⟩ = some (.slice A2 l2 c2) := (cell_of_block hr 1).trans rfl
  have x1 : w.cell? ⟨gx, 1, none⟩ = some (.slice Au lu cu) := (cell_of_block hxa 1).trans rfl
  have y1 : w.cell? ⟨gy, 1, none⟩ = some (.slice Av lv cv) := (cell_of_block hya 1).trans rfl
  clear hz hr hxa hya hu hx hv hn hn2 h2 hl hB hBg hBr hne
  go_enter Tryz.func41, Tryz.ntmps41
  go_wp2_with fail
  have HC : (w.drew.cell? ⟨g, 1, none⟩ = some (.slice none 0 0) ∧ w.drew.cell? ⟨gr, 1, none⟩ = some (.slice A2 l2 c2) ∧ w.drew.cell? ⟨gx, 1, none⟩ = some (.slice Au lu cu) ∧ w.drew.cell? ⟨gy, 1, none⟩ = some (.slice Av lv cv)) := ⟨z1, q1, x1, y1⟩
  refine wp_region_G (fun W => W.cell? ⟨g, 1, none⟩ = some (.slice none 0 0) ∧ W.cell? ⟨gr, 1, none⟩ = some (.slice A2 l2 c2) ∧ W.cell? ⟨gx, 1, none⟩ = some (.slice Au lu cu) ∧ W.cell? ⟨gy, 1, none⟩ = some (.slice Av lv cv)) 18 (by kernel_rfl) ?_
  change wpAnyG _ _ _ _ _ _ _ _ _ (World.drew _)
  refine wpAnyG_take0 (i := 0) (v := ?_) rfl (by kernel_rfl) (by kernel_rfl) (by kernel_rfl) (by decide) (fun _ _ _ h => h) (Or.inl ⟨by kernel_rfl, ?_⟩) ?_ ?_; rotate_left; focus (intro W hW; clear hW; go_simp; try with_reducible rfl)
  focus exact HC
  refine wpAnyG_take0 (i := 1) (v := ?_) rfl (by kernel_rfl) (by kernel_rfl) (by kernel_rfl) (by decide) (fun _ _ _ h => h) (Or.inl ⟨by kernel_rfl, ?_⟩) ?_ ?_; rotate_left; focus (intro W hW; clear hW; go_simp; try with_reducible rfl)
  focus exact HC
  refine wpAnyG_take0 (i := 2) (v := ?_) rfl (by kernel_rfl) (by kernel_rfl) (by kernel_rfl) (by decide) (fun _ _ _ h => h) (Or.inl ⟨by kernel_rfl, ?_⟩) ?_ ?_; rotate_left; focus (intro W hW; clear hW; go_simp; try with_reducible rfl)
  focus exact HC
  refine wpAnyG_take0 (i := 3) (v := ?_) rfl (by kernel_rfl) (by kernel_rfl) (by kernel_rfl) (by decide) (fun _ _ _ h => h) (Or.inl ⟨by kernel_rfl, ?_⟩) ?_ ?_; rotate_left; focus (intro W hW; clear hW; go_simp; try with_reducible rfl)
  focus exact HC
  refine wpAnyG_take0 (i := 4) (v := ?_) rfl (by kernel_rfl) (by kernel_rfl) (by kernel_rfl) (by decide) (fun _ _ _ h => h) (Or.inl ⟨by kernel_rfl, ?_⟩) ?_ ?_; rotate_left; focus (intro W hW; clear hW; go_simp; try with_reducible rfl)
  focus exact HC
  refine wpAnyG_take (i := 5) (v := ?_) 6 rfl (by kernel_rfl) (by kernel_rfl) (by kernel_rfl) (by kernel_rfl) (by kernel_rfl) (by decide) (fun _ _ _ h => h) (Or.inl ⟨by kernel_rfl, ?_⟩) ?_ ?_; rotate_left; focus (intro W hW; obtain ⟨hC0, hC1, hC2, hC3⟩ := hW; go_simp; try with_reducible rfl)
  focus exact HC
  refine wpAnyG_take0 (i := 6) (v := ?_) rfl (by kernel_rfl) (by kernel_rfl) (by kernel_rfl) (by decide) (fun _ _ _ h => h) (Or.inl ⟨by kernel_rfl, ?_⟩) ?_ ?_; rotate_left; focus (intro W hW; clear hW; go_simp; try with_reducible rfl)
  focus exact HC
  refine wpAnyG_take0 (i := 7) (v := ?_) rfl (by kernel_rfl) (by kernel_rfl) (by kernel_rfl) (by decide) (fun _ _ _ h => h) (Or.inl ⟨by kernel_rfl, ?_⟩) ?_ ?_; rotate_left; focus (intro W hW; clear hW; go_simp; try with_reducible rfl)
  focus exact HC
  refine wpAnyG_take0 (i := 8) (v := ?_) rfl (by kernel_rfl) (by kernel_rfl) (by kernel_rfl) (by decide) (fun _ _ _ h => h) (Or.inl ⟨by kernel_rfl, ?_⟩) ?_ ?_; rotate_left; focus (intro W hW; clear hW; go_simp; try with_reducible rfl)
  focus exact HC
  refine wpAnyG_take (i := 9) (v := ?_) 6 rfl (by kernel_rfl) (by kernel_rfl) (by kernel_rfl) (by kernel_rfl) (by kernel_rfl) (by decide) (fun _ _ _ h => h) (Or.inl ⟨by kernel_rfl, ?_⟩) ?_ ?_; rotate_left; focus (intro W hW; obtain ⟨hC0, hC1, hC2, hC3⟩ := hW; go_simp; try with_reducible rfl)
  focus exact HC
  refine wpAnyG_take0 (i := 10) (v := ?_) rfl (by kernel_rfl) (by kernel_rfl) (by kernel_rfl) (by decide) (fun _ _ _ h => h) (Or.inl ⟨by kernel_rfl, ?_⟩) ?_ ?_; rotate_left; focus (intro W hW; clear hW; go_simp; try with_reducible rfl)
  focus exact HC
  refine wpAnyG_take0 (i := 11) (v := ?_) rfl (by kernel_rfl) (by kernel_rfl) (by kernel_rfl) (by decide) (fun _ _ _ h => h) (Or.inl ⟨by kernel_rfl, ?_⟩) ?_ ?_; rotate_left; focus (intro W hW; clear hW; go_simp; try with_reducible rfl)
  focus exact HC
  refine wpAnyG_take0 (i := 12) (v := ?_) rfl (by kernel_rfl) (by kernel_rfl) (by kernel_rfl) (by decide) (fun _ _ _ h => h) (Or.inl ⟨by kernel_rfl, ?_⟩) ?_ ?_; rotate_left; focus (intro W hW; clear hW; go_simp; try with_reducible rfl)
  focus exact HC
  refine wpAnyG_take (i := 13) (v := ?_) 6 rfl (by kernel_rfl) (by kernel_rfl) (by kernel_rfl) (by kernel_rfl) (by kernel_rfl) (by decide) (fun _ _ _ h => h) (Or.inl ⟨by kernel_rfl, ?_⟩) ?_ ?_; rotate_left; focus (intro W hW; obtain ⟨hC0, hC1, hC2, hC3⟩ := hW; go_simp; try with_reducible rfl)
  focus exact HC
  refine wpAnyG_take0 (i := 14) (v := ?_) rfl (by kernel_rfl) (by kernel_rfl) (by kernel_rfl) (by decide) (fun _ _ _ h => h) (Or.inl ⟨by kernel_rfl, ?_⟩) ?_ ?_; rotate_left; focus (intro W hW; clear hW; go_simp; try with_reducible rfl)
  focus exact HC
  refine wpAnyG_take0 (i := 15) (v := ?_) rfl (by kernel_rfl) (by kernel_rfl) (by kernel_rfl) (by decide) (fun _ _ _ h => h) (Or.inl ⟨by kernel_rfl, ?_⟩) ?_ ?_; rotate_left; focus (intro W hW; clear hW; go_simp; try with_reducible rfl)
  focus exact HC
  refine wpAnyG_take0 (i := 16) (v := ?_) rfl (by kernel_rfl) (by kernel_rfl) (by kernel_rfl) (by decide) (fun _ _ _ h => h) (Or.inl ⟨by kernel_rfl, ?_⟩) ?_ ?_; rotate_left; focus (intro W hW; clear hW; go_simp; try with_reducible rfl)
  focus exact HC
  refine wpAnyG_take (i := 17) (v := ?_) 6 rfl (by kernel_rfl) (by kernel_rfl) (by kernel_rfl) (by kernel_rfl) (by kernel_rfl) (by decide) (fun _ _ _ h => h) (Or.inl ⟨by kernel_rfl, ?_⟩) ?_ ?_; rotate_left; focus (intro W hW; obtain ⟨hC0, hC1, hC2, hC3⟩ := hW; go_simp; try with_reducible rfl)
  focus exact HC
  refine wpAnyG_c (by kernel_rfl) ?_ (by kernel_rfl)
  refine wpOp_step rfl (fun K hK => ?_)
  go_simp
  refine D.mono ?_
  rintro e w1 ⟨Aq, nq, cq, Ar, nr, cr, rfl, w2, w3, w4, HE, s1, s2, s3, s4, s5, s6, s7, s8, s9, s10, s11, s12, HN⟩
  obtain ⟨e2, e3, e4⟩ := HE.out
  rw [e2] at s3 s4
  refine hK _ _ ?_; clear hK K
  refine wpAny_take (i := 19) (v := ?_) rfl (by kernel_rfl) (by kernel_rfl) (by kernel_rfl) (fun _ _ _ h => h) (Or.inl ⟨by kernel_rfl, ?_⟩) ?_; rotate_left; focus (intro W; go_simp; try with_reducible rfl)
  refine wpAny_take (i := 20) (v := ?_) rfl (by kernel_rfl) (by kernel_rfl) (by kernel_rfl) (fun _ _ _ h => h) (Or.inl ⟨by kernel_rfl, ?_⟩) ?_; rotate_left; focus (intro W; go_simp; try with_reducible rfl)
  refine wpAny_take (i := 21) (v := ?_) rfl (by kernel_rfl) (by kernel_rfl) (by kernel_rfl) (fun _ _ _ h => h) (Or.inl ⟨by kernel_rfl, ?_⟩) ?_; rotate_left; focus (intro W; go_simp; try with_reducible rfl)
  refine wpAny_take (i := 22) (v := ?_) rfl (by kernel_rfl) (by kernel_rfl) (by kernel_rfl) (fun _ _ _ h => h) (Or.inl ⟨by kernel_rfl, ?_⟩) ?_; rotate_left; focus (intro W; go_simp; try with_reducible rfl)
  refine wpAny_take (i := 23) (v := ?_) rfl (by kernel_rfl) (by kernel_rfl) (by kernel_rfl) (fun _ _ _ h => h) (Or.inl ⟨by kernel_rfl, ?_⟩) ?_; rotate_left; focus (intro W; go_simp; try with_reducible rfl)
  refine wpAny_ready (rs := [24]) (by kernel_rfl) (by simp) ?_
  refine AllReady.cons rfl (fun K hK => ?_) AllReady.nil
  go_simp
  refine hK _ _ ?_; clear hK K
  refine wpAny_take (i := 25) (v := ?_) rfl (by kernel_rfl) (by kernel_rfl) (by kernel_rfl) (fun _ _ _ h => h) (Or.inl ⟨by kernel_rfl, ?_⟩) ?_; rotate_left; focus (intro W; go_simp; try with_reducible rfl)
  refine wpAny_take (i := 26) (v := ?_) rfl (by kernel_rfl) (by kernel_rfl) (by kernel_rfl) (fun _ _ _ h => h) (Or.inl ⟨by kernel_rfl, ?_⟩) ?_; rotate_left; focus (intro W; go_simp; try with_reducible rfl)
  refine wpAny_ready (rs := [27]) (by kernel_rfl) (by simp) ?_
  refine AllReady.cons rfl (fun K hK => ?_) AllReady.nil
  go_simp
  refine hK _ _ ?_; clear hK K
  refine wpAny_done (by kernel_rfl) ?_ _
  rw [← e2, ← e3]
  have HE3 := Lib.hid (And.intro e2 (And.intro e3 e4))
  clear HE e2 e3 s1 s2 s3 s4 z1 q1 x1 y1 HC D
  have HC : (w3.drew.cell? ⟨g, 1, none⟩ = some (.slice Aq nq cq) ∧ w3.drew.cell? ⟨gr, 1, none⟩ = some (.slice Ar nr cr) ∧ w3.drew.cell? ⟨gx, 0, none⟩ = some (.bool false) ∧ w3.drew.cell? ⟨gy, 0, none⟩ = some (.bool false)) := ⟨s5, s6, s7, s8⟩
  have t9 : w3.drew.cell? ⟨g, 0, none⟩ = some (.bool false) := s9
  have t10 : w3.drew.frozen? ⟨g, 0, none⟩ = false := s10
  have t11 : (w3.setCell ⟨g, 0, none⟩ (.bool false)).drew.cell? ⟨gr, 0, none⟩ = some (.bool false) := by rw [e4] at s11; exact s11
  have t12 : (w3.setCell ⟨g, 0, none⟩ (.bool false)).drew.frozen? ⟨gr, 0, none⟩ = false := by rw [e4] at s12; exact s12
  have HN2 := Lib.hid (show ∃ r, NumAt ((w3.drew.setCell ⟨g, 0, none⟩ (.bool false)).setCell ⟨gr, 0, none⟩ (.bool false)) B g (x / n) ∧ NumAt ((w3.drew.setCell ⟨g, 0, none⟩ (.bool false)).setCell ⟨gr, 0, none⟩ (.bool false)) B gr r ∧ (x < 18446744073709551616 → r = x % n) ∧ Below B w ((w3.drew.setCell ⟨g, 0, none⟩ (.bool false)).setCell ⟨gr, 0, none⟩ (.bool false)) from by
    obtain ⟨r, a, b, c, d⟩ := HN.out
    rw [e4] at a b d
    exact ⟨r, a, b, c, d.drew⟩)
  clear s5 s6 s7 s8 s9 s10 s11 s12 e4 HN HE3
  go_upto_region 2 with fail
  refine wp_region_G (fun W => W.cell? ⟨g, 1, none⟩ = some (.slice Aq nq cq) ∧ W.cell? ⟨gr, 1, none⟩ = some (.slice Ar nr cr) ∧ W.cell? ⟨gx, 0, none⟩ = some (.bool false) ∧ W.cell? ⟨gy, 0, none⟩ = some (.bool false)) 33 (by kernel_rfl) ?_
  change wpAnyG _ _ _ _ _ _ _ _ _ (World.drew _)
  rcases Nat.eq_zero_or_pos nq with rfl | hq <;> rcases Nat.eq_zero_or_pos nr with rfl | hr
  · skip
    refine wpAnyG_take0 (i := 0) (v := ?_) rfl (by kernel_rfl) (by kernel_rfl) (by kernel_rfl) (by decide) (fun _ _ _ h => h) (Or.inl ⟨by kernel_rfl, ?_⟩) ?_ ?_; rotate_left; focus (intro W hW; clear hW; go_simp; try with_reducible rfl)
    focus exact HC
    refine wpAnyG_take0 (i := 1) (v := ?_) rfl (by kernel_rfl) (by kernel_rfl) (by kernel_rfl) (by decide) (fun _ _ _ h => h) (Or.inl ⟨by kernel_rfl, ?_⟩) ?_ ?_; rotate_left; focus (intro W hW; clear hW; go_simp; try with_reducible rfl)
    focus exact HC
    refine wpAnyG_take0 (i := 2) (v := ?_) rfl (by kernel_rfl) (by kernel_rfl) (by kernel_rfl) (by decide) (fun _ _ _ h => h) (Or.inl ⟨by kernel_rfl, ?_⟩) ?_ ?_; rotate_left; focus (intro W hW; clear hW; go_simp; try with_reducible rfl)
    focus exact HC
    refine wpAnyG_take0 (i := 3) (v := ?_) rfl (by kernel_rfl) (by kernel_rfl) (by kernel_rfl) (by decide) (fun _ _ _ h => h) (Or.inl ⟨by kernel_rfl, ?_⟩) ?_ ?_; rotate_left; focus (intro W hW; clear hW; go_simp; try with_reducible rfl)
    focus exact HC
    refine wpAnyG_take0 (i := 4) (v := ?_) rfl (by kernel_rfl) (by kernel_rfl) (by kernel_rfl) (by decide) (fun _ _ _ h => h) (Or.inl ⟨by kernel_rfl, ?_⟩) ?_ ?_; rotate_left; focus (intro W hW; clear hW; go_simp; try with_reducible rfl)
    focus exact HC
    refine wpAnyG_take (i := 5) (v := ?_) 8 rfl (by kernel_rfl) (by kernel_rfl) (by kernel_rfl) (by kernel_rfl) (by kernel_rfl) (by decide) (fun _ _ _ h => h) (Or.inl ⟨by kernel_rfl, ?_⟩) ?_ ?_; rotate_left; focus (intro W hW; obtain ⟨hC0, hC1, hC2, hC3⟩ := hW; go_simp; try with_reducible rfl)
    focus exact HC
    refine wpAnyG_take0 (i := 6) (v := ?_) rfl (by kernel_rfl) (by kernel_rfl) (by kernel_rfl) (by decide) (fun _ _ _ h => h) (Or.inl ⟨by kernel_rfl, ?_⟩) ?_ ?_; rotate_left; focus (intro W hW; clear hW; go_simp; try with_reducible rfl)
    focus exact HC
    refine wpAnyG_take0 (i := 7) (v := ?_) rfl (by kernel_rfl) (by kernel_rfl) (by kernel_rfl) (by decide) (fun _ _ _ h => h) (Or.inl ⟨by kernel_rfl, ?_⟩) ?_ ?_; rotate_left; focus (intro W hW; clear hW; go_simp; try with_reducible rfl)
    focus exact HC
    refine wpAnyG_take0 (i := 8) (v := ?_) rfl (by kernel_rfl) (by kernel_rfl) (by kernel_rfl) (by decide) (fun _ _ _ h => h) (Or.inl ⟨by kernel_rfl, ?_⟩) ?_ ?_; rotate_left; focus (intro W hW; clear hW; go_simp; try with_reducible rfl)
    focus exact HC
    refine wpAnyG_take0 (i := 9) (v := undef) rfl (by kernel_rfl) (by kernel_rfl) (by kernel_rfl) (by decide) (fun _ _ _ h => h) (Or.inr ⟨by kernel_rfl, rfl⟩) ?_ ?_
    focus exact HC
    refine wpAnyG_take0 (i := 10) (v := undef) rfl (by kernel_rfl) (by kernel_rfl) (by kernel_rfl) (by decide) (fun _ _ _ h => h) (Or.inr ⟨by kernel_rfl, rfl⟩) ?_ ?_
    focus exact HC
    refine wpAnyG_take0 (i := 11) (v := undef) rfl (by kernel_rfl) (by kernel_rfl) (by kernel_rfl) (by decide) (fun _ _ _ h => h) (Or.inr ⟨by kernel_rfl, rfl⟩) ?_ ?_
    focus exact HC
    refine wpAnyG_take (i := 12) (v := undef) 8 rfl (by kernel_rfl) (by kernel_rfl) (by kernel_rfl) (by kernel_rfl) (by kernel_rfl) (by decide) (fun _ _ _ h => h) (Or.inr ⟨by kernel_rfl, rfl⟩) ?_ ?_
    focus exact HC
    refine wpAnyG_take0 (i := 13) (v := undef) rfl (by kernel_rfl) (by kernel_rfl) (by kernel_rfl) (by decide) (fun _ _ _ h => h) (Or.inr ⟨by kernel_rfl, rfl⟩) ?_ ?_
    focus exact HC
    refine wpAnyG_take0 (i := 14) (v := undef) rfl (by kernel_rfl) (by kernel_rfl) (by kernel_rfl) (by decide) (fun _ _ _ h => h) (Or.inr ⟨by kernel_rfl, rfl⟩) ?_ ?_
    focus exact HC
    refine wpAnyG_take0 (i := 15) (v := undef) rfl (by kernel_rfl) (by kernel_rfl) (by kernel_rfl) (by decide) (fun _ _ _ h => h) (Or.inr ⟨by kernel_rfl, rfl⟩) ?_ ?_
    focus exact HC
    refine wpAnyG_take (i := 16) (v := undef) 8 rfl (by kernel_rfl) (by kernel_rfl) (by kernel_rfl) (by kernel_rfl) (by kernel_rfl) (by decide) (fun _ _ _ h => h) (Or.inr ⟨by kernel_rfl, rfl⟩) ?_ ?_
    focus exact HC
    refine wpAnyG_take0 (i := 17) (v := undef) rfl (by kernel_rfl) (by kernel_rfl) (by kernel_rfl) (by decide) (fun _ _ _ h => h) (Or.inr ⟨by kernel_rfl, rfl⟩) ?_ ?_
    focus exact HC
    refine wpAnyG_take0 (i := 18) (v := ?_) rfl (by kernel_rfl) (by kernel_rfl) (by kernel_rfl) (by decide) (fun _ _ _ h => h) (Or.inl ⟨by kernel_rfl, ?_⟩) ?_ ?_; rotate_left; focus (intro W hW; clear hW; go_simp; try with_reducible rfl)
    focus exact HC
    refine wpAnyG_take0 (i := 19) (v := ?_) rfl (by kernel_rfl) (by kernel_rfl) (by kernel_rfl) (by decide) (fun _ _ _ h => h) (Or.inl ⟨by kernel_rfl, ?_⟩) ?_ ?_; rotate_left; focus (intro W hW; clear hW; go_simp; try with_reducible rfl)
    focus exact HC
    refine wpAnyG_take0 (i := 20) (v := ?_) rfl (by kernel_rfl) (by kernel_rfl) (by kernel_rfl) (by decide) (fun _ _ _ h => h) (Or.inl ⟨by kernel_rfl, ?_⟩) ?_ ?_; rotate_left; focus (intro W hW; clear hW; go_simp; try with_reducible rfl)
    focus exact HC
    refine wpAnyG_take0 (i := 21) (v := ?_) rfl (by kernel_rfl) (by kernel_rfl) (by kernel_rfl) (by decide) (fun _ _ _ h => h) (Or.inl ⟨by kernel_rfl, ?_⟩) ?_ ?_; rotate_left; focus (intro W hW; clear hW; go_simp; try with_reducible rfl)
    focus exact HC
    refine wpAnyG_take (i := 22) (v := ?_) 8 rfl (by kernel_rfl) (by kernel_rfl) (by kernel_rfl) (by kernel_rfl) (by kernel_rfl) (by decide) (fun _ _ _ h => h) (Or.inl ⟨by kernel_rfl, ?_⟩) ?_ ?_; rotate_left; focus (intro W hW; obtain ⟨hC0, hC1, hC2, hC3⟩ := hW; go_simp; try with_reducible rfl)
    focus exact HC
    refine wpAnyG_take0 (i := 23) (v := ?_) rfl (by kernel_rfl) (by kernel_rfl) (by kernel_rfl) (by decide) (fun _ _ _ h => h) (Or.inl ⟨by kernel_rfl, ?_⟩) ?_ ?_; rotate_left; focus (intro W hW; clear hW; go_simp; try with_reducible rfl)
    focus exact HC
    refine wpAnyG_take0 (i := 24) (v := ?_) rfl (by kernel_rfl) (by kernel_rfl) (by kernel_rfl) (by decide) (fun _ _ _ h => h) (Or.inl ⟨by kernel_rfl, ?_⟩) ?_ ?_; rotate_left; focus (intro W hW; clear hW; go_simp; try with_reducible rfl)
    focus exact HC
    refine wpAnyG_take0 (i := 25) (v := ?_) rfl (by kernel_rfl) (by kernel_rfl) (by kernel_rfl) (by decide) (fun _ _ _ h => h) (Or.inl ⟨by kernel_rfl, ?_⟩) ?_ ?_; rotate_left; focus (intro W hW; clear hW; go_simp; try with_reducible rfl)
    focus exact HC
    refine wpAnyG_take0 (i := 26) (v := undef) rfl (by kernel_rfl) (by kernel_rfl) (by kernel_rfl) (by decide) (fun _ _ _ h => h) (Or.inr ⟨by kernel_rfl, rfl⟩) ?_ ?_
    focus exact HC
    refine wpAnyG_take0 (i := 27) (v := undef) rfl (by kernel_rfl) (by kernel_rfl) (by kernel_rfl) (by decide) (fun _ _ _ h => h) (Or.inr ⟨by kernel_rfl, rfl⟩) ?_ ?_
    focus exact HC
    refine wpAnyG_take0 (i := 28) (v := undef) rfl (by kernel_rfl) (by kernel_rfl) (by kernel_rfl) (by decide) (fun _ _ _ h => h) (Or.inr ⟨by kernel_rfl, rfl⟩) ?_ ?_
    focus exact HC
    refine wpAnyG_take (i := 29) (v := undef) 8 rfl (by kernel_rfl) (by kernel_rfl) (by kernel_rfl) (by kernel_rfl) (by kernel_rfl) (by decide) (fun _ _ _ h => h) (Or.inr ⟨by kernel_rfl, rfl⟩) ?_ ?_
    focus exact HC
    refine wpAnyG_take0 (i := 30) (v := ?_) rfl (by kernel_rfl) (by kernel_rfl) (by kernel_rfl) (by decide) (fun _ _ _ h => h) (Or.inl ⟨by kernel_rfl, ?_⟩) ?_ ?_; rotate_left; focus (intro W hW; clear hW; go_simp; try with_reducible rfl)
    focus exact HC
    refine wpAnyG_take0 (i := 31) (v := ?_) rfl (by kernel_rfl) (by kernel_rfl) (by kernel_rfl) (by decide) (fun _ _ _ h => h) (Or.inl ⟨by kernel_rfl, ?_⟩) ?_ ?_; rotate_left; focus (intro W hW; clear hW; go_simp; try with_reducible rfl)
    focus exact HC
    refine wpAnyG_take0 (i := 32) (v := ?_) rfl (by kernel_rfl) (by kernel_rfl) (by kernel_rfl) (by decide) (fun _ _ _ h => h) (Or.inl ⟨by kernel_rfl, ?_⟩) ?_ ?_; rotate_left; focus (intro W hW; clear hW; go_simp; try with_reducible rfl)
    focus exact HC
    refine wpAnyG_c (by kernel_rfl) ?_ (by kernel_rfl)
    refine wpOp_step rfl (fun K hK => ?_)
    go_simp
    refine hK _ _ ?_; clear hK K
    refine wpAny_take (i := 34) (v := ?_) rfl (by kernel_rfl) (by kernel_rfl) (by kernel_rfl) (fun _ _ _ h => h) (Or.inl ⟨by kernel_rfl, ?_⟩) ?_; rotate_left; focus (intro W; go_simp; try with_reducible rfl)
    refine wpAny_take (i := 35) (v := ?_) rfl (by kernel_rfl) (by kernel_rfl) (by kernel_rfl) (fun _ _ _ h => h) (Or.inl ⟨by kernel_rfl, ?_⟩) ?_; rotate_left; focus (intro W; go_simp; try with_reducible rfl)
    refine wpAny_ready (rs := [36]) (by kernel_rfl) (by simp) ?_
    refine AllReady.cons rfl (fun K hK => ?_) AllReady.nil
    go_simp
    refine hK _ _ ?_; clear hK K
    refine wpAny_done (by kernel_rfl) ?_ _
    go_wp2_with fail
    go_ret2
    obtain ⟨r, h⟩ := HN2.out
    exact ⟨r, rfl, h⟩
  · skip
    have kr : decide (0 < nr) = true := decide_eq_true hr
    refine wpAnyG_take0 (i := 0) (v := ?_) rfl (by kernel_rfl) (by kernel_rfl) (by kernel_rfl) (by decide) (fun _ _ _ h => h) (Or.inl ⟨by kernel_rfl, ?_⟩) ?_ ?_; rotate_left; focus (intro W hW; clear hW; go_simp; try with_reducible rfl)
    focus exact HC
    refine wpAnyG_take0 (i := 1) (v := ?_) rfl (by kernel_rfl) (by kernel_rfl) (by kernel_rfl) (by decide) (fun _ _ _ h => h) (Or.inl ⟨by kernel_rfl, ?_⟩) ?_ ?_; rotate_left; focus (intro W hW; clear hW; go_simp; try with_reducible rfl)
    focus exact HC
    refine wpAnyG_take0 (i := 2) (v := ?_) rfl (by kernel_rfl) (by kernel_rfl) (by kernel_rfl) (by decide) (fun _ _ _ h => h) (Or.inl ⟨by kernel_rfl, ?_⟩) ?_ ?_; rotate_left; focus (intro W hW; clear hW; go_simp; try with_reducible rfl)
    focus exact HC
    refine wpAnyG_take0 (i := 3) (v := ?_) rfl (by kernel_rfl) (by kernel_rfl) (by kernel_rfl) (by decide) (fun _ _ _ h => h) (Or.inl ⟨by kernel_rfl, ?_⟩) ?_ ?_; rotate_left; focus (intro W hW; clear hW; go_simp; try with_reducible rfl)
    focus exact HC
    refine wpAnyG_take0 (i := 4) (v := ?_) rfl (by kernel_rfl) (by kernel_rfl) (by kernel_rfl) (by decide) (fun _ _ _ h => h) (Or.inl ⟨by kernel_rfl, ?_⟩) ?_ ?_; rotate_left; focus (intro W hW; clear hW; go_simp; try with_reducible rfl)
    focus exact HC
    refine wpAnyG_take (i := 5) (v := ?_) 8 rfl (by kernel_rfl) (by kernel_rfl) (by kernel_rfl) (by kernel_rfl) (by kernel_rfl) (by decide) (fun _ _ _ h => h) (Or.inl ⟨by kernel_rfl, ?_⟩) ?_ ?_; rotate_left; focus (intro W hW; obtain ⟨hC0, hC1, hC2, hC3⟩ := hW; go_simp; try with_reducible rfl)
    focus exact HC
    refine wpAnyG_take0 (i := 6) (v := ?_) rfl (by kernel_rfl) (by kernel_rfl) (by kernel_rfl) (by decide) (fun _ _ _ h => h) (Or.inl ⟨by kernel_rfl, ?_⟩) ?_ ?_; rotate_left; focus (intro W hW; clear hW; go_simp; try with_reducible rfl)
    focus exact HC
    refine wpAnyG_take0 (i := 7) (v := ?_) rfl (by kernel_rfl) (by kernel_rfl) (by kernel_rfl) (by decide) (fun _ _ _ h => h) (Or.inl ⟨by kernel_rfl, ?_⟩) ?_ ?_; rotate_left; focus (intro W hW; clear hW; go_simp; try with_reducible rfl)
    focus exact HC
    refine wpAnyG_take0 (i := 8) (v := ?_) rfl (by kernel_rfl) (by kernel_rfl) (by kernel_rfl) (by decide) (fun _ _ _ h => h) (Or.inl ⟨by kernel_rfl, ?_⟩) ?_ ?_; rotate_left; focus (intro W hW; clear hW; go_simp; try with_reducible rfl)
    focus exact HC
    refine wpAnyG_take0 (i := 9) (v := undef) rfl (by kernel_rfl) (by kernel_rfl) (by kernel_rfl) (by decide) (fun _ _ _ h => h) (Or.inr ⟨by kernel_rfl, rfl⟩) ?_ ?_
    focus exact HC
    refine wpAnyG_take0 (i := 10) (v := undef) rfl (by kernel_rfl) (by kernel_rfl) (by kernel_rfl) (by decide) (fun _ _ _ h => h) (Or.inr ⟨by kernel_rfl, rfl⟩) ?_ ?_
    focus exact HC
    refine wpAnyG_take0 (i := 11) (v := undef) rfl (by kernel_rfl) (by kernel_rfl) (by kernel_rfl) (by decide) (fun _ _ _ h => h) (Or.inr ⟨by kernel_rfl, rfl⟩) ?_ ?_
    focus exact HC
    refine wpAnyG_take (i := 12) (v := undef) 8 rfl (by kernel_rfl) (by kernel_rfl) (by kernel_rfl) (by kernel_rfl) (by kernel_rfl) (by decide) (fun _ _ _ h => h) (Or.inr ⟨by kernel_rfl, rfl⟩) ?_ ?_
    focus exact HC
    refine wpAnyG_take0 (i := 13) (v := undef) rfl (by kernel_rfl) (by kernel_rfl) (by kernel_rfl) (by decide) (fun _ _ _ h => h) (Or.inr ⟨by kernel_rfl, rfl⟩) ?_ ?_
    focus exact HC
    refine wpAnyG_take0 (i := 14) (v := undef) rfl (by kernel_rfl) (by kernel_rfl) (by kernel_rfl) (by decide) (fun _ _ _ h => h) (Or.inr ⟨by kernel_rfl, rfl⟩) ?_ ?_
    focus exact HC
    refine wpAnyG_take0 (i := 15) (v := undef) rfl (by kernel_rfl) (by kernel_rfl) (by kernel_rfl) (by decide) (fun _ _ _ h => h) (Or.inr ⟨by kernel_rfl, rfl⟩) ?_ ?_
    focus exact HC
    refine wpAnyG_take (i := 16) (v := undef) 8 rfl (by kernel_rfl) (by kernel_rfl) (by kernel_rfl) (by kernel_rfl) (by kernel_rfl) (by decide) (fun _ _ _ h => h) (Or.inr ⟨by kernel_rfl, rfl⟩) ?_ ?_
    focus exact HC
    refine wpAnyG_take0 (i := 17) (v := undef) rfl (by kernel_rfl) (by kernel_rfl) (by kernel_rfl) (by decide) (fun _ _ _ h => h) (Or.inr ⟨by kernel_rfl, rfl⟩) ?_ ?_
    focus exact HC
    refine wpAnyG_take0 (i := 18) (v := ?_) rfl (by kernel_rfl) (by kernel_rfl) (by kernel_rfl) (by decide) (fun _ _ _ h => h) (Or.inl ⟨by kernel_rfl, ?_⟩) ?_ ?_; rotate_left; focus (intro W hW; clear hW; go_simp; try with_reducible rfl)
    focus exact HC
    refine wpAnyG_take0 (i := 19) (v := ?_) rfl (by kernel_rfl) (by kernel_rfl) (by kernel_rfl) (by decide) (fun _ _ _ h => h) (Or.inl ⟨by kernel_rfl, ?_⟩) ?_ ?_; rotate_left; focus (intro W hW; clear hW; go_simp; try with_reducible rfl)
    focus exact HC
    refine wpAnyG_take0 (i := 20) (v := ?_) rfl (by kernel_rfl) (by kernel_rfl) (by kernel_rfl) (by decide) (fun _ _ _ h => h) (Or.inl ⟨by kernel_rfl, ?_⟩) ?_ ?_; rotate_left; focus (intro W hW; clear hW; go_simp; try with_reducible rfl)
    focus exact HC
    refine wpAnyG_take0 (i := 21) (v := ?_) rfl (by kernel_rfl) (by kernel_rfl) (by kernel_rfl) (by decide) (fun _ _ _ h => h) (Or.inl ⟨by kernel_rfl, ?_⟩) ?_ ?_; rotate_left; focus (intro W hW; clear hW; go_simp; try with_reducible rfl)
    focus exact HC
    refine wpAnyG_take (i := 22) (v := ?_) 8 rfl (by kernel_rfl) (by kernel_rfl) (by kernel_rfl) (by kernel_rfl) (by kernel_rfl) (by decide) (fun _ _ _ h => h) (Or.inl ⟨by kernel_rfl, ?_⟩) ?_ ?_; rotate_left; focus (intro W hW; obtain ⟨hC0, hC1, hC2, hC3⟩ := hW; go_simp; try with_reducible rfl)
    focus exact HC
    refine wpAnyG_take0 (i := 23) (v := ?_) rfl (by kernel_rfl) (by kernel_rfl) (by kernel_rfl) (by decide) (fun _ _ _ h => h) (Or.inl ⟨by kernel_rfl, ?_⟩) ?_ ?_; rotate_left; focus (intro W hW; clear hW; go_simp; try with_reducible rfl)
    focus exact HC
    refine wpAnyG_take0 (i := 24) (v := ?_) rfl (by kernel_rfl) (by kernel_rfl) (by kernel_rfl) (by decide) (fun _ _ _ h => h) (Or.inl ⟨by kernel_rfl, ?_⟩) ?_ ?_; rotate_left; focus (intro W hW; clear hW; go_simp; try with_reducible rfl)
    focus exact HC
    refine wpAnyG_take0 (i := 25) (v := ?_) rfl (by kernel_rfl) (by kernel_rfl) (by kernel_rfl) (by decide) (fun _ _ _ h => h) (Or.inl ⟨by kernel_rfl, ?_⟩) ?_ ?_; rotate_left; focus (intro W hW; clear hW; go_simp; try with_reducible rfl)
    focus exact HC
    refine wpAnyG_take0 (i := 26) (v := ?_) rfl (by kernel_rfl) (by kernel_rfl) (by kernel_rfl) (by decide) (fun _ _ _ h => h) (Or.inl ⟨by kernel_rfl, ?_⟩) ?_ ?_; rotate_left; focus (intro W hW; clear hW; go_simp; try with_reducible rfl)
    focus exact HC
    refine wpAnyG_take0 (i := 27) (v := ?_) rfl (by kernel_rfl) (by kernel_rfl) (by kernel_rfl) (by decide) (fun _ _ _ h => h) (Or.inl ⟨by kernel_rfl, ?_⟩) ?_ ?_; rotate_left; focus (intro W hW; clear hW; go_simp; try with_reducible rfl)
    focus exact HC
    refine wpAnyG_take0 (i := 28) (v := ?_) rfl (by kernel_rfl) (by kernel_rfl) (by kernel_rfl) (by decide) (fun _ _ _ h => h) (Or.inl ⟨by kernel_rfl, ?_⟩) ?_ ?_; rotate_left; focus (intro W hW; clear hW; go_simp; try with_reducible rfl)
    focus exact HC
    refine wpAnyG_take (i := 29) (v := ?_) 8 rfl (by kernel_rfl) (by kernel_rfl) (by kernel_rfl) (by kernel_rfl) (by kernel_rfl) (by decide) (fun _ _ _ h => h) (Or.inl ⟨by kernel_rfl, ?_⟩) ?_ ?_; rotate_left; focus (intro W hW; obtain ⟨hC0, hC1, hC2, hC3⟩ := hW; go_simp; try with_reducible rfl)
    focus exact HC
    refine wpAnyG_take0 (i := 30) (v := ?_) rfl (by kernel_rfl) (by kernel_rfl) (by kernel_rfl) (by decide) (fun _ _ _ h => h) (Or.inl ⟨by kernel_rfl, ?_⟩) ?_ ?_; rotate_left; focus (intro W hW; clear hW; go_simp; try with_reducible rfl)
    focus exact HC
    refine wpAnyG_take0 (i := 31) (v := ?_) rfl (by kernel_rfl) (by kernel_rfl) (by kernel_rfl) (by decide) (fun _ _ _ h => h) (Or.inl ⟨by kernel_rfl, ?_⟩) ?_ ?_; rotate_left; focus (intro W hW; clear hW; go_simp; try with_reducible rfl)
    focus exact HC
    refine wpAnyG_take0 (i := 32) (v := ?_) rfl (by kernel_rfl) (by kernel_rfl) (by kernel_rfl) (by decide) (fun _ _ _ h => h) (Or.inl ⟨by kernel_rfl, ?_⟩) ?_ ?_; rotate_left; focus (intro W hW; clear hW; go_simp; try with_reducible rfl)
    focus exact HC
    refine wpAnyG_c (by kernel_rfl) ?_ (by kernel_rfl)
    refine wpOp_step rfl (fun K hK => ?_)
    go_simp
    refine hK _ _ ?_; clear hK K
    refine wpAny_take (i := 34) (v := ?_) rfl (by kernel_rfl) (by kernel_rfl) (by kernel_rfl) (fun _ _ _ h => h) (Or.inl ⟨by kernel_rfl, ?_⟩) ?_; rotate_left; focus (intro W; go_simp; try with_reducible rfl)
    refine wpAny_take (i := 35) (v := ?_) rfl (by kernel_rfl) (by kernel_rfl) (by kernel_rfl) (fun _ _ _ h => h) (Or.inl ⟨by kernel_rfl, ?_⟩) ?_; rotate_left; focus (intro W; go_simp; try with_reducible rfl)
    refine wpAny_ready (rs := [36]) (by kernel_rfl) (by simp) ?_
    refine AllReady.cons rfl (fun K hK => ?_) AllReady.nil
    go_simp
    refine hK _ _ ?_; clear hK K
    refine wpAny_done (by kernel_rfl) ?_ _
    go_wp2_with fail
    go_ret2
    obtain ⟨r, h⟩ := HN2.out
    exact ⟨r, rfl, h⟩
  · skip
    have kq : decide (0 < nq) = true := decide_eq_true hq
    refine wpAnyG_take0 (i := 0) (v := ?_) rfl (by kernel_rfl) (by kernel_rfl) (by kernel_rfl) (by decide) (fun _ _ _ h => h) (Or.inl ⟨by kernel_rfl, ?_⟩) ?_ ?_; rotate_left; focus (intro W hW; clear hW; go_simp; try with_reducible rfl)
    focus exact HC
    refine wpAnyG_take0 (i := 1) (v := ?_) rfl (by kernel_rfl) (by kernel_rfl) (by kernel_rfl) (by decide) (fun _ _ _ h => h) (Or.inl ⟨by kernel_rfl, ?_⟩) ?_ ?_; rotate_left; focus (intro W hW; clear hW; go_simp; try with_reducible rfl)
    focus exact HC
    refine wpAnyG_take0 (i := 2) (v := ?_) rfl (by kernel_rfl) (by kernel_rfl) (by kernel_rfl) (by decide) (fun _ _ _ h => h) (Or.inl ⟨by kernel_rfl, ?_⟩) ?_ ?_; rotate_left; focus (intro W hW; clear hW; go_simp; try with_reducible rfl)
    focus exact HC
    refine wpAnyG_take0 (i := 3) (v := ?_) rfl (by kernel_rfl) (by kernel_rfl) (by kernel_rfl) (by decide) (fun _ _ _ h => h) (Or.inl ⟨by kernel_rfl, ?_⟩) ?_ ?_; rotate_left; focus (intro W hW; clear hW; go_simp; try with_reducible rfl)
    focus exact HC
    refine wpAnyG_take0 (i := 4) (v := ?_) rfl (by kernel_rfl) (by kernel_rfl) (by kernel_rfl) (by decide) (fun _ _ _ h => h) (Or.inl ⟨by kernel_rfl, ?_⟩) ?_ ?_; rotate_left; focus (intro W hW; clear hW; go_simp; try with_reducible rfl)
    focus exact HC
    refine wpAnyG_take (i := 5) (v := ?_) 8 rfl (by kernel_rfl) (by kernel_rfl) (by kernel_rfl) (by kernel_rfl) (by kernel_rfl) (by decide) (fun _ _ _ h => h) (Or.inl ⟨by kernel_rfl, ?_⟩) ?_ ?_; rotate_left; focus (intro W hW; obtain ⟨hC0, hC1, hC2, hC3⟩ := hW; go_simp; try with_reducible rfl)
    focus exact HC
    refine wpAnyG_take0 (i := 6) (v := ?_) rfl (by kernel_rfl) (by kernel_rfl) (by kernel_rfl) (by decide) (fun _ _ _ h => h) (Or.inl ⟨by kernel_rfl, ?_⟩) ?_ ?_; rotate_left; focus (intro W hW; clear hW; go_simp; try with_reducible rfl)
    focus exact HC
    refine wpAnyG_take0 (i := 7) (v := ?_) rfl (by kernel_rfl) (by kernel_rfl) (by kernel_rfl) (by decide) (fun _ _ _ h => h) (Or.inl ⟨by kernel_rfl, ?_⟩) ?_ ?_; rotate_left; focus (intro W hW; clear hW; go_simp; try with_reducible rfl)
    focus exact HC
    refine wpAnyG_take0 (i := 8) (v := ?_) rfl (by kernel_rfl) (by kernel_rfl) (by kernel_rfl) (by decide) (fun _ _ _ h => h) (Or.inl ⟨by kernel_rfl, ?_⟩) ?_ ?_; rotate_left; focus (intro W hW; clear hW; go_simp; try with_reducible rfl)
    focus exact HC
    refine wpAnyG_take0 (i := 9) (v := ?_) rfl (by kernel_rfl) (by kernel_rfl) (by kernel_rfl) (by decide) (fun _ _ _ h => h) (Or.inl ⟨by kernel_rfl, ?_⟩) ?_ ?_; rotate_left; focus (intro W hW; clear hW; go_simp; try with_reducible rfl)
    focus exact HC
    refine wpAnyG_take0 (i := 10) (v := ?_) rfl (by kernel_rfl) (by kernel_rfl) (by kernel_rfl) (by decide) (fun _ _ _ h => h) (Or.inl ⟨by kernel_rfl, ?_⟩) ?_ ?_; rotate_left; focus (intro W hW; clear hW; go_simp; try with_reducible rfl)
    focus exact HC
    refine wpAnyG_take0 (i := 11) (v := ?_) rfl (by kernel_rfl) (by kernel_rfl) (by kernel_rfl) (by decide) (fun _ _ _ h => h) (Or.inl ⟨by kernel_rfl, ?_⟩) ?_ ?_; rotate_left; focus (intro W hW; clear hW; go_simp; try with_reducible rfl)
    focus exact HC
    refine wpAnyG_take (i := 12) (v := ?_) 8 rfl (by kernel_rfl) (by kernel_rfl) (by kernel_rfl) (by kernel_rfl) (by kernel_rfl) (by decide) (fun _ _ _ h => h) (Or.inl ⟨by kernel_rfl, ?_⟩) ?_ ?_; rotate_left; focus (intro W hW; obtain ⟨hC0, hC1, hC2, hC3⟩ := hW; go_simp; try with_reducible rfl)
    focus exact HC
    refine wpAnyG_take0 (i := 13) (v := ?_) rfl (by kernel_rfl) (by kernel_rfl) (by kernel_rfl) (by decide) (fun _ _ _ h => h) (Or.inl ⟨by kernel_rfl, ?_⟩) ?_ ?_; rotate_left; focus (intro W hW; clear hW; go_simp; try with_reducible rfl)
    focus exact HC
    refine wpAnyG_take0 (i := 14) (v := ?_) rfl (by kernel_rfl) (by kernel_rfl) (by kernel_rfl) (by decide) (fun _ _ _ h => h) (Or.inl ⟨by kernel_rfl, ?_⟩) ?_ ?_; rotate_left; focus (intro W hW; clear hW; go_simp; try with_reducible rfl)
    focus exact HC
    refine wpAnyG_take0 (i := 15) (v := ?_) rfl (by kernel_rfl) (by kernel_rfl) (by kernel_rfl) (by decide) (fun _ _ _ h => h) (Or.inl ⟨by kernel_rfl, ?_⟩) ?_ ?_; rotate_left; focus (intro W hW; clear hW; go_simp; try with_reducible rfl)
    focus exact HC
    refine wpAnyG_take (i := 16) (v := ?_) 8 rfl (by kernel_rfl) (by kernel_rfl) (by kernel_rfl) (by kernel_rfl) (by kernel_rfl) (by decide) (fun _ _ _ h => h) (Or.inl ⟨by kernel_rfl, ?_⟩) ?_ ?_; rotate_left; focus (intro W hW; obtain ⟨hC0, hC1, hC2, hC3⟩ := hW; go_simp; try with_reducible rfl)
    focus exact HC
    refine wpAnyG_take0 (i := 17) (v := ?_) rfl (by kernel_rfl) (by kernel_rfl) (by kernel_rfl) (by decide) (fun _ _ _ h => h) (Or.inl ⟨by kernel_rfl, ?_⟩) ?_ ?_; rotate_left; focus (intro W hW; clear hW; go_simp; try with_reducible rfl)
    focus exact HC
    refine wpAnyG_take0 (i := 18) (v := ?_) rfl (by kernel_rfl) (by kernel_rfl) (by kernel_rfl) (by decide) (fun _ _ _ h => h) (Or.inl ⟨by kernel_rfl, ?_⟩) ?_ ?_; rotate_left; focus (intro W hW; clear hW; go_simp; try with_reducible rfl)
    focus exact HC
    refine wpAnyG_take0 (i := 19) (v := ?_) rfl (by kernel_rfl) (by kernel_rfl) (by kernel_rfl) (by decide) (fun _ _ _ h => h) (Or.inl ⟨by kernel_rfl, ?_⟩) ?_ ?_; rotate_left; focus (intro W hW; clear hW; go_simp; try with_reducible rfl)
    focus exact HC
    refine wpAnyG_take0 (i := 20) (v := ?_) rfl (by kernel_rfl) (by kernel_rfl) (by kernel_rfl) (by decide) (fun _ _ _ h => h) (Or.inl ⟨by kernel_rfl, ?_⟩) ?_ ?_; rotate_left; focus (intro W hW; clear hW; go_simp; try with_reducible rfl)
    focus exact HC
    refine wpAnyG_take0 (i := 21) (v := ?_) rfl (by kernel_rfl) (by kernel_rfl) (by kernel_rfl) (by decide) (fun _ _ _ h => h) (Or.inl ⟨by kernel_rfl, ?_⟩) ?_ ?_; rotate_left; focus (intro W hW; clear hW; go_simp; try with_reducible rfl)
    focus exact HC
    refine wpAnyG_take (i := 22) (v := ?_) 8 rfl (by kernel_rfl) (by kernel_rfl) (by kernel_rfl) (by kernel_rfl) (by kernel_rfl) (by decide) (fun _ _ _ h => h) (Or.inl ⟨by kernel_rfl, ?_⟩) ?_ ?_; rotate_left; focus (intro W hW; obtain ⟨hC0, hC1, hC2, hC3⟩ := hW; go_simp; try with_reducible rfl)
    focus exact HC
    refine wpAnyG_take0 (i := 23) (v := ?_) rfl (by kernel_rfl) (by kernel_rfl) (by kernel_rfl) (by decide) (fun _ _ _ h => h) (Or.inl ⟨by kernel_rfl, ?_⟩) ?_ ?_; rotate_left; focus (intro W hW; clear hW; go_simp; try with_reducible rfl)
    focus exact HC
    refine wpAnyG_take0 (i := 24) (v := ?_) rfl (by kernel_rfl) (by kernel_rfl) (by kernel_rfl) (by decide) (fun _ _ _ h => h) (Or.inl ⟨by kernel_rfl, ?_⟩) ?_ ?_; rotate_left; focus (intro W hW; clear hW; go_simp; try with_reducible rfl)
    focus exact HC
    refine wpAnyG_take0 (i := 25) (v := ?_) rfl (by kernel_rfl) (by kernel_rfl) (by kernel_rfl) (by decide) (fun _ _ _ h => h) (Or.inl ⟨by kernel_rfl, ?_⟩) ?_ ?_; rotate_left; focus (intro W hW; clear hW; go_simp; try with_reducible rfl)
    focus exact HC
    refine wpAnyG_take0 (i := 26) (v := undef) rfl (by kernel_rfl) (by kernel_rfl) (by kernel_rfl) (by decide) (fun _ _ _ h => h) (Or.inr ⟨by kernel_rfl, rfl⟩) ?_ ?_
    focus exact HC
    refine wpAnyG_take0 (i := 27) (v := undef) rfl (by kernel_rfl) (by kernel_rfl) (by kernel_rfl) (by decide) (fun _ _ _ h => h) (Or.inr ⟨by kernel_rfl, rfl⟩) ?_ ?_
    focus exact HC
    refine wpAnyG_take0 (i := 28) (v := undef) rfl (by kernel_rfl) (by kernel_rfl) (by kernel_rfl) (by decide) (fun _ _ _ h => h) (Or.inr ⟨by kernel_rfl, rfl⟩) ?_ ?_
    focus exact HC
    refine wpAnyG_take (i := 29) (v := undef) 8 rfl (by kernel_rfl) (by kernel_rfl) (by kernel_rfl) (by kernel_rfl) (by kernel_rfl) (by decide) (fun _ _ _ h => h) (Or.inr ⟨by kernel_rfl, rfl⟩) ?_ ?_
    focus exact HC
    refine wpAnyG_take0 (i := 30) (v := ?_) rfl (by kernel_rfl) (by kernel_rfl) (by kernel_rfl) (by decide) (fun _ _ _ h => h) (Or.inl ⟨by kernel_rfl, ?_⟩) ?_ ?_; rotate_left; focus (intro W hW; clear hW; go_simp; try with_reducible rfl)
    focus exact HC
    refine wpAnyG_take0 (i := 31) (v := ?_) rfl (by kernel_rfl) (by kernel_rfl) (by kernel_rfl) (by decide) (fun _ _ _ h => h) (Or.inl ⟨by kernel_rfl, ?_⟩) ?_ ?_; rotate_left; focus (intro W hW; clear hW; go_simp; try with_reducible rfl)
    focus exact HC
    refine wpAnyG_take0 (i := 32) (v := ?_) rfl (by kernel_rfl) (by kernel_rfl) (by kernel_rfl) (by decide) (fun _ _ _ h => h) (Or.inl ⟨by kernel_rfl, ?_⟩) ?_ ?_; rotate_left; focus (intro W hW; clear hW; go_simp; try with_reducible rfl)
    focus exact HC
    refine wpAnyG_c (by kernel_rfl) ?_ (by kernel_rfl)
    refine wpOp_step rfl (fun K hK => ?_)
    go_simp
    refine hK _ _ ?_; clear hK K
    refine wpAny_take (i := 34) (v := ?_) rfl (by kernel_rfl) (by kernel_rfl) (by kernel_rfl) (fun _ _ _ h => h) (Or.inl ⟨by kernel_rfl, ?_⟩) ?_; rotate_left; focus (intro W; go_simp; try with_reducible rfl)
    refine wpAny_take (i := 35) (v := ?_) rfl (by kernel_rfl) (by kernel_rfl) (by kernel_rfl) (fun _ _ _ h => h) (Or.inl ⟨by kernel_rfl, ?_⟩) ?_; rotate_left; focus (intro W; go_simp; try with_reducible rfl)
    refine wpAny_ready (rs := [36]) (by kernel_rfl) (by simp) ?_
    refine AllReady.cons rfl (fun K hK => ?_) AllReady.nil
    go_simp
    refine hK _ _ ?_; clear hK K
    refine wpAny_done (by kernel_rfl) ?_ _
    go_wp2_with fail
    go_ret2
    obtain ⟨r, h⟩ := HN2.out
    exact ⟨r, rfl, h⟩
  · skip
    have kq : decide (0 < nq) = true := decide_eq_true hq
    have kr : decide (0 < nr) = true := decide_eq_true hr
    refine wpAnyG_take0 (i := 0) (v := ?_) rfl (by kernel_rfl) (by kernel_rfl) (by kernel_rfl) (by decide) (fun _ _ _ h => h) (Or.inl ⟨by kernel_rfl, ?_⟩) ?_ ?_; rotate_left; focus (intro W hW; clear hW; go_simp; try with_reducible rfl)
    focus exact HC
    refine wpAnyG_take0 (i := 1) (v := ?_) rfl (by kernel_rfl) (by kernel_rfl) (by kernel_rfl) (by decide) (fun _ _ _ h => h) (Or.inl ⟨by kernel_rfl, ?_⟩) ?_ ?_; rotate_left; focus (intro W hW; clear hW; go_simp; try with_reducible rfl)
    focus exact HC
    refine wpAnyG_take0 (i := 2) (v := ?_) rfl (by kernel_rfl) (by kernel_rfl) (by kernel_rfl) (by decide) (fun _ _ _ h => h) (Or.inl ⟨by kernel_rfl, ?_⟩) ?_ ?_; rotate_left; focus (intro W hW; clear hW; go_simp; try with_reducible rfl)
    focus exact HC
    refine wpAnyG_take0 (i := 3) (v := ?_) rfl (by kernel_rfl) (by kernel_rfl) (by kernel_rfl) (by decide) (fun _ _ _ h => h) (Or.inl ⟨by kernel_rfl, ?_⟩) ?_ ?_; rotate_left; focus (intro W hW; clear hW; go_simp; try with_reducible rfl)
    focus exact HC
    refine wpAnyG_take0 (i := 4) (v := ?_) rfl (by kernel_rfl) (by kernel_rfl) (by kernel_rfl) (by decide) (fun _ _ _ h => h) (Or.inl ⟨by kernel_rfl, ?_⟩) ?_ ?_; rotate_left; focus (intro W hW; clear hW; go_simp; try with_reducible rfl)
    focus exact HC
    refine wpAnyG_take (i := 5) (v := ?_) 8 rfl (by kernel_rfl) (by kernel_rfl) (by kernel_rfl) (by kernel_rfl) (by kernel_rfl) (by decide) (fun _ _ _ h => h) (Or.inl ⟨by kernel_rfl, ?_⟩) ?_ ?_; rotate_left; focus (intro W hW; obtain ⟨hC0, hC1, hC2, hC3⟩ := hW; go_simp; try with_reducible rfl)
    focus exact HC
    refine wpAnyG_take0 (i := 6) (v := ?_) rfl (by kernel_rfl) (by kernel_rfl) (by kernel_rfl) (by decide) (fun _ _ _ h => h) (Or.inl ⟨by kernel_rfl, ?_⟩) ?_ ?_; rotate_left; focus (intro W hW; clear hW; go_simp; try with_reducible rfl)
    focus exact HC
    refine wpAnyG_take0 (i := 7) (v := ?_) rfl (by kernel_rfl) (by kernel_rfl) (by kernel_rfl) (by decide) (fun _ _ _ h => h) (Or.inl ⟨by kernel_rfl, ?_⟩) ?_ ?_; rotate_left; focus (intro W hW; clear hW; go_simp; try with_reducible rfl)
    focus exact HC
    refine wpAnyG_take0 (i := 8) (v := ?_) rfl (by kernel_rfl) (by kernel_rfl) (by kernel_rfl) (by decide) (fun _ _ _ h => h) (Or.inl ⟨by kernel_rfl, ?_⟩) ?_ ?_; rotate_left; focus (intro W hW; clear hW; go_simp; try with_reducible rfl)
    focus exact HC
    refine wpAnyG_take0 (i := 9) (v := ?_) rfl (by kernel_rfl) (by kernel_rfl) (by kernel_rfl) (by decide) (fun _ _ _ h => h) (Or.inl ⟨by kernel_rfl, ?_⟩) ?_ ?_; rotate_left; focus (intro W hW; clear hW; go_simp; try with_reducible rfl)
    focus exact HC
    refine wpAnyG_take0 (i := 10) (v := ?_) rfl (by kernel_rfl) (by kernel_rfl) (by kernel_rfl) (by decide) (fun _ _ _ h => h) (Or.inl ⟨by kernel_rfl, ?_⟩) ?_ ?_; rotate_left; focus (intro W hW; clear hW; go_simp; try with_reducible rfl)
    focus exact HC
    refine wpAnyG_take0 (i := 11) (v := ?_) rfl (by kernel_rfl) (by kernel_rfl) (by kernel_rfl) (by decide) (fun _ _ _ h => h) (Or.inl ⟨by kernel_rfl, ?_⟩) ?_ ?_; rotate_left; focus (intro W hW; clear hW; go_simp; try with_reducible rfl)
    focus exact HC
    refine wpAnyG_take (i := 12) (v := ?_) 8 rfl (by kernel_rfl) (by kernel_rfl) (by kernel_rfl) (by kernel_rfl) (by kernel_rfl) (by decide) (fun _ _ _ h => h) (Or.inl ⟨by kernel_rfl, ?_⟩) ?_ ?_; rotate_left; focus (intro W hW; obtain ⟨hC0, hC1, hC2, hC3⟩ := hW; go_simp; try with_reducible rfl)
    focus exact HC
    refine wpAnyG_take0 (i := 13) (v := ?_) rfl (by kernel_rfl) (by kernel_rfl) (by kernel_rfl) (by decide) (fun _ _ _ h => h) (Or.inl ⟨by kernel_rfl, ?_⟩) ?_ ?_; rotate_left; focus (intro W hW; clear hW; go_simp; try with_reducible rfl)
    focus exact HC
    refine wpAnyG_take0 (i := 14) (v := ?_) rfl (by kernel_rfl) (by kernel_rfl) (by kernel_rfl) (by decide) (fun _ _ _ h => h) (Or.inl ⟨by kernel_rfl, ?_⟩) ?_ ?_; rotate_left; focus (intro W hW; clear hW; go_simp; try with_reducible rfl)
    focus exact HC
    refine wpAnyG_take0 (i := 15) (v := ?_) rfl (by kernel_rfl) (by kernel_rfl) (by kernel_rfl) (by decide) (fun _ _ _ h => h) (Or.inl ⟨by kernel_rfl, ?_⟩) ?_ ?_; rotate_left; focus (intro W hW; clear hW; go_simp; try with_reducible rfl)
    focus exact HC
    refine wpAnyG_take (i := 16) (v := ?_) 8 rfl (by kernel_rfl) (by kernel_rfl) (by kernel_rfl) (by kernel_rfl) (by kernel_rfl) (by decide) (fun _ _ _ h => h) (Or.inl ⟨by kernel_rfl, ?_⟩) ?_ ?_; rotate_left; focus (intro W hW; obtain ⟨hC0, hC1, hC2, hC3⟩ := hW; go_simp; try with_reducible rfl)
    focus exact HC
    refine wpAnyG_take0 (i := 17) (v := ?_) rfl (by kernel_rfl) (by kernel_rfl) (by kernel_rfl) (by decide) (fun _ _ _ h => h) (Or.inl ⟨by kernel_rfl, ?_⟩) ?_ ?_; rotate_left; focus (intro W hW; clear hW; go_simp; try with_reducible rfl)
    focus exact HC
    refine wpAnyG_take0 (i := 18) (v := ?_) rfl (by kernel_rfl) (by kernel_rfl) (by kernel_rfl) (by decide) (fun _ _ _ h => h) (Or.inl ⟨by kernel_rfl, ?_⟩) ?_ ?_; rotate_left; focus (intro W hW; clear hW; go_simp; try with_reducible rfl)
    focus exact HC
    refine wpAnyG_take0 (i := 19) (v := ?_) rfl (by kernel_rfl) (by kernel_rfl) (by kernel_rfl) (by decide) (fun _ _ _ h => h) (Or.inl ⟨by kernel_rfl, ?_⟩) ?_ ?_; rotate_left; focus (intro W hW; clear hW; go_simp; try with_reducible rfl)
    focus exact HC
    refine wpAnyG_take0 (i := 20) (v := ?_) rfl (by kernel_rfl) (by kernel_rfl) (by kernel_rfl) (by decide) (fun _ _ _ h => h) (Or.inl ⟨by kernel_rfl, ?_⟩) ?_ ?_; rotate_left; focus (intro W hW; clear hW; go_simp; try with_reducible rfl)
    focus exact HC
    refine wpAnyG_take0 (i := 21) (v := ?_) rfl (by kernel_rfl) (by kernel_rfl) (by kernel_rfl) (by decide) (fun _ _ _ h => h) (Or.inl ⟨by kernel_rfl, ?_⟩) ?_ ?_; rotate_left; focus (intro W hW; clear hW; go_simp; try with_reducible rfl)
    focus exact HC
    refine wpAnyG_take (i := 22) (v := ?_) 8 rfl (by kernel_rfl) (by kernel_rfl) (by kernel_rfl) (by kernel_rfl) (by kernel_rfl) (by decide) (fun _ _ _ h => h) (Or.inl ⟨by kernel_rfl, ?_⟩) ?_ ?_; rotate_left; focus (intro W hW; obtain ⟨hC0, hC1, hC2, hC3⟩ := hW; go_simp; try with_reducible rfl)
    focus exact HC
    refine wpAnyG_take0 (i := 23) (v := ?_) rfl (by kernel_rfl) (by kernel_rfl) (by kernel_rfl) (by decide) (fun _ _ _ h => h) (Or.inl ⟨by kernel_rfl, ?_⟩) ?_ ?_; rotate_left; focus (intro W hW; clear hW; go_simp; try with_reducible rfl)
    focus exact HC
    refine wpAnyG_take0 (i := 24) (v := ?_) rfl (by kernel_rfl) (by kernel_rfl) (by kernel_rfl) (by decide) (fun _ _ _ h => h) (Or.inl ⟨by kernel_rfl, ?_⟩) ?_ ?_; rotate_left; focus (intro W hW; clear hW; go_simp; try with_reducible rfl)
    focus exact HC
    refine wpAnyG_take0 (i := 25) (v := ?_) rfl (by kernel_rfl) (by kernel_rfl) (by kernel_rfl) (by decide) (fun _ _ _ h => h) (Or.inl ⟨by kernel_rfl, ?_⟩) ?_ ?_; rotate_left; focus (intro W hW; clear hW; go_simp; try with_reducible rfl)
    focus exact HC
    refine wpAnyG_take0 (i := 26) (v := ?_) rfl (by kernel_rfl) (by kernel_rfl) (by kernel_rfl) (by decide) (fun _ _ _ h => h) (Or.inl ⟨by kernel_rfl, ?_⟩) ?_ ?_; rotate_left; focus (intro W hW; clear hW; go_simp; try with_reducible rfl)
    focus exact HC
    refine wpAnyG_take0 (i := 27) (v := ?_) rfl (by kernel_rfl) (by kernel_rfl) (by kernel_rfl) (by decide) (fun _ _ _ h => h) (Or.inl ⟨by kernel_rfl, ?_⟩) ?_ ?_; rotate_left; focus (intro W hW; clear hW; go_simp; try with_reducible rfl)
    focus exact HC
    refine wpAnyG_take0 (i := 28) (v := ?_) rfl (by kernel_rfl) (by kernel_rfl) (by kernel_rfl) (by decide) (fun _ _ _ h => h) (Or.inl ⟨by kernel_rfl, ?_⟩) ?_ ?_; rotate_left; focus (intro W hW; clear hW; go_simp; try with_reducible rfl)
    focus exact HC
    refine wpAnyG_take (i := 29) (v := ?_) 8 rfl (by kernel_rfl) (by kernel_rfl) (by kernel_rfl) (by kernel_rfl) (by kernel_rfl) (by decide) (fun _ _ _ h => h) (Or.inl ⟨by kernel_rfl, ?_⟩) ?_ ?_; rotate_left; focus (intro W hW; obtain ⟨hC0, hC1, hC2, hC3⟩ := hW; go_simp; try with_reducible rfl)
    focus exact HC
    refine wpAnyG_take0 (i := 30) (v := ?_) rfl (by kernel_rfl) (by kernel_rfl) (by kernel_rfl) (by decide) (fun _ _ _ h => h) (Or.inl ⟨by kernel_rfl, ?_⟩) ?_ ?_; rotate_left; focus (intro W hW; clear hW; go_simp; try with_reducible rfl)
    focus exact HC
    refine wpAnyG_take0 (i := 31) (v := ?_) rfl (by kernel_rfl) (by kernel_rfl) (by kernel_rfl) (by decide) (fun _ _ _ h => h) (Or.inl ⟨by kernel_rfl, ?_⟩) ?_ ?_; rotate_left; focus (intro W hW; clear hW; go_simp; try with_reducible rfl)
    focus exact HC
    refine wpAnyG_take0 (i := 32) (v := ?_) rfl (by kernel_rfl) (by kernel_rfl) (by kernel_rfl) (by decide) (fun _ _ _ h => h) (Or.inl ⟨by kernel_rfl, ?_⟩) ?_ ?_; rotate_left; focus (intro W hW; clear hW; go_simp; try with_reducible rfl)
    focus exact HC
    refine wpAnyG_c (by kernel_rfl) ?_ (by kernel_rfl)
    refine wpOp_step rfl (fun K hK => ?_)
    go_simp
    refine hK _ _ ?_; clear hK K
    refine wpAny_take (i := 34) (v := ?_) rfl (by kernel_rfl) (by kernel_rfl) (by kernel_rfl) (fun _ _ _ h => h) (Or.inl ⟨by kernel_rfl, ?_⟩) ?_; rotate_left; focus (intro W; go_simp; try with_reducible rfl)
    refine wpAny_take (i := 35) (v := ?_) rfl (by kernel_rfl) (by kernel_rfl) (by kernel_rfl) (fun _ _ _ h => h) (Or.inl ⟨by kernel_rfl, ?_⟩) ?_; rotate_left; focus (intro W; go_simp; try with_reducible rfl)
    refine wpAny_ready (rs := [36]) (by kernel_rfl) (by simp) ?_
    refine AllReady.cons rfl (fun K hK => ?_) AllReady.nil
    go_simp
    refine hK _ _ ?_; clear hK K
    refine wpAny_done (by kernel_rfl) ?_ _
    go_wp2_with fail
    go_ret2
    obtain ⟨r, h⟩ := HN2.out
    exact ⟨r, rfl, h⟩
end Go.Proofs.YtabgeonlodmpiaaGreatDoor
