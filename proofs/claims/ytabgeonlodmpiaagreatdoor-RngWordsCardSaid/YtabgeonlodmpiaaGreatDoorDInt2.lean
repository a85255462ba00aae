/- math/big: Int.Mul, SetUint64, Int64, Div. -/
import Derived.Test.YtabgeonlodmpiaaGreatDoorDInt
import Derived.LaidEqlPtr
set_option linter.unusedVariables false
namespace Go.Proofs.YtabgeonlodmpiaaGreatDoor
open Go.RowKit

theorem Kb.drew {g : Nat} {a b : World} (h : Kb g a b) : Kb g a b.drew := ⟨h.os, h.tape, h.output, h.size, h.block⟩
theorem Kb.drewN {g : Nat} {a b : World} (h : Kb g a b) (n : Nat) : Kb g a (b.drewN n) := ⟨h.os, h.tape, h.output, h.size, h.block⟩
theorem NumS.pos {w : World} {B v n cap : Nat} {A : Option Addr} (h : NumS w B A n cap v) (hv : 0 < v) : 0 < n := by
  obtain ⟨-, -, e, -⟩ := h
  rw [e]; unfold words; rw [if_neg (by omega)]; split <;> simp
theorem info57 : ∃ j, Tryz.prog.info? 57 = some j ∧ j.size ≠ 0 := by
  have h : (Tryz.prog.info? 57).map (fun i => i.size) = some 2 := by kernel_rfl
  rcases e : Tryz.prog.info? 57 with _ | j
  · rw [e] at h; cases h
  · rw [e] at h; exact ⟨j, rfl, by simp at h; omega⟩
theorem int_eql (w : World) {g g2 : Nat} {S S2 : Value} (hi : IntAt w g S) (hi2 : IntAt w g2 S2) (hne : g ≠ g2) :
    (binOp .eql 36 (.pointer (some ⟨g, 0, none⟩)) (.pointer (some ⟨g2, 0, none⟩))).run Tryz.prog w = .ok (.bool false) w := by
  obtain ⟨j, hj, hj1⟩ := info57
  exact run_eql_ptr_other (P := Tryz.prog) w Tryz.underlying36 hj hj1 (fun e => hne (congrArg Addr.block e)) hi hi2
set_option maxRecDepth 100000 in
set_option maxHeartbeats 40000000 in
theorem int_mul (w : World) (B Bx By g gx gy x y p lx cx ly cy : Nat) (Ax Ay : Option Addr) (hz : IntAt w g (.slice none 0 0)) (hxa : IntAt w gx (.slice Ax lx cx)) (hya : IntAt w gy (.slice Ay ly cy))
    (hx : NumS w Bx Ax lx cx x) (hy : NumS w By Ay ly cy y) (hx0 : 0 < x) (hy0 : 0 < y) (hy2 : y < 9223372036854775808) (hp : x * y = p) (hp2 : p ≤ 18446744073709551616) (hB : B ≤ g) (hBw : B ≤ w.heap.size) (hxy : gx ≠ gy) :
    Calls Tryz.prog 40 #[.pointer (some ⟨g, 0, none⟩), .pointer none, .pointer (some ⟨gx, 0, none⟩), .pointer (some ⟨gy, 0, none⟩)] w fun e w' => e = .returned (.tuple #[]) ∧ NumAt w' B g p ∧ Kb g w w' := by
  have hq := int_eql w hxa hya hxy
  have hp0 : 0 < p := by rw [← hp]; exact Nat.mul_pos hx0 hy0
  have D := (mul_ok w.drew Bx By x y p lx cx ly cy Ax Ay hx hy hx0 hy0 hy2 hp hp2).mono (fun e w1 h => (show ∃ A n c, e = .returned (.slice A n c) ∧ ∃ w2, Hid (w2 = w1.setCell ⟨g, 1, none⟩ (.slice A n c)) ∧ w1.cell? ⟨g, 1, none⟩ = some (.slice none 0 0) ∧ w1.frozen? ⟨g, 1, none⟩ = false ∧
      w2.cell? ⟨g, 1, none⟩ = some (.slice A n c) ∧ w2.cell? ⟨gx, 0, none⟩ = some (.bool false) ∧ w2.cell? ⟨gy, 0, none⟩ = some (.bool false) ∧ w2.cell? ⟨g, 0, none⟩ = some (.bool false) ∧ w2.frozen? ⟨g, 0, none⟩ = false ∧ decide (0 < n) = true ∧
      Hid (NumAt (w2.drew.setCell ⟨g, 0, none⟩ (.bool false)) B g p ∧ Kb g w (w2.drew.setCell ⟨g, 0, none⟩ (.bool false))) from by
    obtain ⟨A, n, c, rfl, r1, r2⟩ := h
    have hsz : w.drew.heap.size = w.heap.size := rfl
    have hz1 : IntAt w1 g (.slice none 0 0) := (r2.block g hz.lt).trans hz
    have hx1 : IntAt w1 gx (.slice Ax lx cx) := (r2.block gx hxa.lt).trans hxa
    have hy1 : IntAt w1 gy (.slice Ay ly cy) := (r2.block gy hya.lt).trans hya
    obtain ⟨S1, S2, S3⟩ := int_stored hz1 hB (r1.down hBw)
    have kk : ∀ k T, IntAt w1 k T → ∃ T', IntAt (w1.setCell ⟨g, 1, none⟩ (.slice A n c)) k T' := fun k T hk => by
      by_cases e : k = g
      · subst e; exact ⟨_, S1⟩
      · exact ⟨T, (Below.heap_setCell _ _ _ _ e).trans hk⟩
    obtain ⟨Tx, hTx⟩ := kk _ _ hx1
    obtain ⟨Ty, hTy⟩ := kk _ _ hy1
    refine ⟨A, n, c, rfl, _, Lib.hid rfl, (cell_of_block hz1 1).trans rfl, free_of_block hz1 1, (cell_of_block S1 1).trans rfl, (cell_of_block hTx 0).trans rfl, (cell_of_block hTy 0).trans rfl, (cell_of_block S1 0).trans rfl, free_of_block S1 0, decide_eq_true (r1.pos hp0), Lib.hid ⟨S2, ?_⟩⟩
    have k1 : Kb g w w1 := ⟨r2.os, r2.tape, r2.output, r2.size, fun k hk _ => r2.block k hk⟩
    exact (k1.set _).drew.set _))
  have z1 : w.cell? ⟨g, 1, none⟩ = some (.slice none 0 0) := (cell_of_block hz 1).trans rfl
  have x1 : w.cell? ⟨gx, 1, none⟩ = some (.slice Ax lx cx) := (cell_of_block hxa 1).trans rfl
  have y1 : w.cell? ⟨gy, 1, none⟩ = some (.slice Ay ly cy) := (cell_of_block hya 1).trans rfl
  clear hz hxa hya hx hy hx0 hy0 hy2 hp hp2 hB hBw hxy hp0
  go_enter Tryz.func40, Tryz.ntmps40
  go_upto_region 3 with fail
  have HC : (w.drew.cell? ⟨g, 1, none⟩ = some (.slice none 0 0) ∧ w.drew.cell? ⟨gx, 1, none⟩ = some (.slice Ax lx cx) ∧ w.drew.cell? ⟨gy, 1, none⟩ = some (.slice Ay ly cy)) := ⟨z1, x1, y1⟩
  refine wp_region_G (fun W => W.cell? ⟨g, 1, none⟩ = some (.slice none 0 0) ∧ W.cell? ⟨gx, 1, none⟩ = some (.slice Ax lx cx) ∧ W.cell? ⟨gy, 1, none⟩ = some (.slice Ay ly cy)) 14 (by kernel_rfl) ?_
  change wpAnyG _ _ _ _ _ _ _ _ _ (World.drew _)
  refine wpAnyG_take0 (i := 0) (v := ?_) rfl (by kernel_rfl) (by kernel_rfl) (by kernel_rfl) (by decide) (fun _ _ _ h => h) (Or.inl ⟨by kernel_rfl, ?_⟩) ?_ ?_; rotate_left; focus (intro W hW; clear hW; go_simp; try with_reducible rfl)
  focus exact HC
  refine wpAnyG_take0 (i := 1) (v := ?_) rfl (by kernel_rfl) (by kernel_rfl) (by kernel_rfl) (by decide) (fun _ _ _ h => h) (Or.inl ⟨by kernel_rfl, ?_⟩) ?_ ?_; rotate_left; focus (intro W hW; clear hW; go_simp; try with_reducible rfl)
  focus exact HC
  refine wpAnyG_take0 (i := 2) (v := ?_) rfl (by kernel_rfl) (by kernel_rfl) (by kernel_rfl) (by decide) (fun _ _ _ h => h) (Or.inl ⟨by kernel_rfl, ?_⟩) ?_ ?_; rotate_left; focus (intro W hW; clear hW; go_simp; try with_reducible rfl)
  focus exact HC
  refine wpAnyG_take0 (i := 3) (v := ?_) rfl (by kernel_rfl) (by kernel_rfl) (by kernel_rfl) (by decide) (fun _ _ _ h => h) (Or.inl ⟨by kernel_rfl, ?_⟩) ?_ ?_; rotate_left; focus (intro W hW; clear hW; go_simp; try with_reducible rfl)
  focus exact HC
  refine wpAnyG_take (i := 4) (v := ?_) 6 rfl (by kernel_rfl) (by kernel_rfl) (by kernel_rfl) (by kernel_rfl) (by kernel_rfl) (by decide) (fun _ _ _ h => h) (Or.inl ⟨by kernel_rfl, ?_⟩) ?_ ?_; rotate_left; focus (intro W hW; obtain ⟨hC0, hC1, hC2⟩ := hW; go_simp; try with_reducible rfl)
  focus exact HC
  refine wpAnyG_take0 (i := 5) (v := ?_) rfl (by kernel_rfl) (by kernel_rfl) (by kernel_rfl) (by decide) (fun _ _ _ h => h) (Or.inl ⟨by kernel_rfl, ?_⟩) ?_ ?_; rotate_left; focus (intro W hW; clear hW; go_simp; try with_reducible rfl)
  focus exact HC
  refine wpAnyG_take0 (i := 6) (v := ?_) rfl (by kernel_rfl) (by kernel_rfl) (by kernel_rfl) (by decide) (fun _ _ _ h => h) (Or.inl ⟨by kernel_rfl, ?_⟩) ?_ ?_; rotate_left; focus (intro W hW; clear hW; go_simp; try with_reducible rfl)
  focus exact HC
  refine wpAnyG_take0 (i := 7) (v := ?_) rfl (by kernel_rfl) (by kernel_rfl) (by kernel_rfl) (by decide) (fun _ _ _ h => h) (Or.inl ⟨by kernel_rfl, ?_⟩) ?_ ?_; rotate_left; focus (intro W hW; clear hW; go_simp; try with_reducible rfl)
  focus exact HC
  refine wpAnyG_take0 (i := 8) (v := ?_) rfl (by kernel_rfl) (by kernel_rfl) (by kernel_rfl) (by decide) (fun _ _ _ h => h) (Or.inl ⟨by kernel_rfl, ?_⟩) ?_ ?_; rotate_left; focus (intro W hW; clear hW; go_simp; try with_reducible rfl)
  focus exact HC
  refine wpAnyG_take (i := 9) (v := ?_) 6 rfl (by kernel_rfl) (by kernel_rfl) (by kernel_rfl) (by kernel_rfl) (by kernel_rfl) (by decide) (fun _ _ _ h => h) (Or.inl ⟨by kernel_rfl, ?_⟩) ?_ ?_; rotate_left; focus (intro W hW; obtain ⟨hC0, hC1, hC2⟩ := hW; go_simp; try with_reducible rfl)
  focus exact HC
  refine wpAnyG_take0 (i := 10) (v := ?_) rfl (by kernel_rfl) (by kernel_rfl) (by kernel_rfl) (by decide) (fun _ _ _ h => h) (Or.inl ⟨by kernel_rfl, ?_⟩) ?_ ?_; rotate_left; focus (intro W hW; clear hW; go_simp; try with_reducible rfl)
  focus exact HC
  refine wpAnyG_take0 (i := 11) (v := ?_) rfl (by kernel_rfl) (by kernel_rfl) (by kernel_rfl) (by decide) (fun _ _ _ h => h) (Or.inl ⟨by kernel_rfl, ?_⟩) ?_ ?_; rotate_left; focus (intro W hW; clear hW; go_simp; try with_reducible rfl)
  focus exact HC
  refine wpAnyG_take0 (i := 12) (v := ?_) rfl (by kernel_rfl) (by kernel_rfl) (by kernel_rfl) (by decide) (fun _ _ _ h => h) (Or.inl ⟨by kernel_rfl, ?_⟩) ?_ ?_; rotate_left; focus (intro W hW; clear hW; go_simp; try with_reducible rfl)
  focus exact HC
  refine wpAnyG_take (i := 13) (v := ?_) 6 rfl (by kernel_rfl) (by kernel_rfl) (by kernel_rfl) (by kernel_rfl) (by kernel_rfl) (by decide) (fun _ _ _ h => h) (Or.inl ⟨by kernel_rfl, ?_⟩) ?_ ?_; rotate_left; focus (intro W hW; obtain ⟨hC0, hC1, hC2⟩ := hW; go_simp; try with_reducible rfl)
  focus exact HC
  refine wpAnyG_c (by kernel_rfl) ?_ (by kernel_rfl)
  refine wpOp_step rfl (fun K hK => ?_)
  go_simp
  refine D.mono ?_
  rintro e w1 ⟨A, n, cn, rfl, w2, HE, s1, s2, s5, s7, s8, s9, s10, kn, HN⟩
  have e2 := HE.out
  refine hK _ _ ?_; clear hK K
  refine wpAny_take (i := 15) (v := ?_) rfl (by kernel_rfl) (by kernel_rfl) (by kernel_rfl) (fun _ _ _ h => h) (Or.inl ⟨by kernel_rfl, ?_⟩) ?_; rotate_left; focus (intro W; go_simp; try with_reducible rfl)
  refine wpAny_take (i := 16) (v := ?_) rfl (by kernel_rfl) (by kernel_rfl) (by kernel_rfl) (fun _ _ _ h => h) (Or.inl ⟨by kernel_rfl, ?_⟩) ?_; rotate_left; focus (intro W; go_simp; try with_reducible rfl)
  refine wpAny_ready (rs := [17]) (by kernel_rfl) (by simp) ?_
  refine AllReady.cons rfl (fun K hK => ?_) AllReady.nil
  go_simp
  refine hK _ _ ?_; clear hK K
  refine wpAny_done (by kernel_rfl) ?_ _
  rw [← e2]
  clear HE e2 s1 s2 z1 x1 y1 HC D hq
  have HC : (w2.drew.cell? ⟨g, 1, none⟩ = some (.slice A n cn) ∧ w2.drew.cell? ⟨gx, 0, none⟩ = some (.bool false) ∧ w2.drew.cell? ⟨gy, 0, none⟩ = some (.bool false)) := ⟨s5, s7, s8⟩
  have t9 : w2.drew.cell? ⟨g, 0, none⟩ = some (.bool false) := s9
  have t10 : w2.drew.frozen? ⟨g, 0, none⟩ = false := s10
  clear s5 s7 s8 s9 s10
  go_upto_region 4 with fail
  refine wp_region_G (fun W => W.cell? ⟨g, 1, none⟩ = some (.slice A n cn) ∧ W.cell? ⟨gx, 0, none⟩ = some (.bool false) ∧ W.cell? ⟨gy, 0, none⟩ = some (.bool false)) 20 (by kernel_rfl) ?_
  change wpAnyG _ _ _ _ _ _ _ _ _ (World.drew _)
  refine wpAnyG_take0 (i := 0) (v := ?_) rfl (by kernel_rfl) (by kernel_rfl) (by kernel_rfl) (by decide) (fun _ _ _ h => h) (Or.inl ⟨by kernel_rfl, ?_⟩) ?_ ?_; rotate_left; focus (intro W hW; clear hW; go_simp; try with_reducible rfl)
  focus exact HC
  refine wpAnyG_take0 (i := 1) (v := ?_) rfl (by kernel_rfl) (by kernel_rfl) (by kernel_rfl) (by decide) (fun _ _ _ h => h) (Or.inl ⟨by kernel_rfl, ?_⟩) ?_ ?_; rotate_left; focus (intro W hW; clear hW; go_simp; try with_reducible rfl)
  focus exact HC
  refine wpAnyG_take0 (i := 2) (v := ?_) rfl (by kernel_rfl) (by kernel_rfl) (by kernel_rfl) (by decide) (fun _ _ _ h => h) (Or.inl ⟨by kernel_rfl, ?_⟩) ?_ ?_; rotate_left; focus (intro W hW; clear hW; go_simp; try with_reducible rfl)
  focus exact HC
  refine wpAnyG_take0 (i := 3) (v := ?_) rfl (by kernel_rfl) (by kernel_rfl) (by kernel_rfl) (by decide) (fun _ _ _ h => h) (Or.inl ⟨by kernel_rfl, ?_⟩) ?_ ?_; rotate_left; focus (intro W hW; clear hW; go_simp; try with_reducible rfl)
  focus exact HC
  refine wpAnyG_take (i := 4) (v := ?_) 8 rfl (by kernel_rfl) (by kernel_rfl) (by kernel_rfl) (by kernel_rfl) (by kernel_rfl) (by decide) (fun _ _ _ h => h) (Or.inl ⟨by kernel_rfl, ?_⟩) ?_ ?_; rotate_left; focus (intro W hW; obtain ⟨hC0, hC1, hC2⟩ := hW; go_simp; try with_reducible rfl)
  focus exact HC
  refine wpAnyG_take0 (i := 5) (v := ?_) rfl (by kernel_rfl) (by kernel_rfl) (by kernel_rfl) (by decide) (fun _ _ _ h => h) (Or.inl ⟨by kernel_rfl, ?_⟩) ?_ ?_; rotate_left; focus (intro W hW; clear hW; go_simp; try with_reducible rfl)
  focus exact HC
  refine wpAnyG_take0 (i := 6) (v := ?_) rfl (by kernel_rfl) (by kernel_rfl) (by kernel_rfl) (by decide) (fun _ _ _ h => h) (Or.inl ⟨by kernel_rfl, ?_⟩) ?_ ?_; rotate_left; focus (intro W hW; clear hW; go_simp; try with_reducible rfl)
  focus exact HC
  refine wpAnyG_take0 (i := 7) (v := ?_) rfl (by kernel_rfl) (by kernel_rfl) (by kernel_rfl) (by decide) (fun _ _ _ h => h) (Or.inl ⟨by kernel_rfl, ?_⟩) ?_ ?_; rotate_left; focus (intro W hW; clear hW; go_simp; try with_reducible rfl)
  focus exact HC
  refine wpAnyG_take0 (i := 8) (v := ?_) rfl (by kernel_rfl) (by kernel_rfl) (by kernel_rfl) (by decide) (fun _ _ _ h => h) (Or.inl ⟨by kernel_rfl, ?_⟩) ?_ ?_; rotate_left; focus (intro W hW; clear hW; go_simp; try with_reducible rfl)
  focus exact HC
  refine wpAnyG_take0 (i := 9) (v := ?_) rfl (by kernel_rfl) (by kernel_rfl) (by kernel_rfl) (by decide) (fun _ _ _ h => h) (Or.inl ⟨by kernel_rfl, ?_⟩) ?_ ?_; rotate_left; focus (intro W hW; clear hW; go_simp; try with_reducible rfl)
  focus exact HC
  refine wpAnyG_take0 (i := 10) (v := ?_) rfl (by kernel_rfl) (by kernel_rfl) (by kernel_rfl) (by decide) (fun _ _ _ h => h) (Or.inl ⟨by kernel_rfl, ?_⟩) ?_ ?_; rotate_left; focus (intro W hW; clear hW; go_simp; try with_reducible rfl)
  focus exact HC
  refine wpAnyG_take (i := 11) (v := ?_) 8 rfl (by kernel_rfl) (by kernel_rfl) (by kernel_rfl) (by kernel_rfl) (by kernel_rfl) (by decide) (fun _ _ _ h => h) (Or.inl ⟨by kernel_rfl, ?_⟩) ?_ ?_; rotate_left; focus (intro W hW; obtain ⟨hC0, hC1, hC2⟩ := hW; go_simp; try with_reducible rfl)
  focus exact HC
  refine wpAnyG_take0 (i := 12) (v := ?_) rfl (by kernel_rfl) (by kernel_rfl) (by kernel_rfl) (by decide) (fun _ _ _ h => h) (Or.inl ⟨by kernel_rfl, ?_⟩) ?_ ?_; rotate_left; focus (intro W hW; clear hW; go_simp; try with_reducible rfl)
  focus exact HC
  refine wpAnyG_take0 (i := 13) (v := ?_) rfl (by kernel_rfl) (by kernel_rfl) (by kernel_rfl) (by decide) (fun _ _ _ h => h) (Or.inl ⟨by kernel_rfl, ?_⟩) ?_ ?_; rotate_left; focus (intro W hW; clear hW; go_simp; try with_reducible rfl)
  focus exact HC
  refine wpAnyG_take0 (i := 14) (v := ?_) rfl (by kernel_rfl) (by kernel_rfl) (by kernel_rfl) (by decide) (fun _ _ _ h => h) (Or.inl ⟨by kernel_rfl, ?_⟩) ?_ ?_; rotate_left; focus (intro W hW; clear hW; go_simp; try with_reducible rfl)
  focus exact HC
  refine wpAnyG_take (i := 15) (v := ?_) 8 rfl (by kernel_rfl) (by kernel_rfl) (by kernel_rfl) (by kernel_rfl) (by kernel_rfl) (by decide) (fun _ _ _ h => h) (Or.inl ⟨by kernel_rfl, ?_⟩) ?_ ?_; rotate_left; focus (intro W hW; obtain ⟨hC0, hC1, hC2⟩ := hW; go_simp; try with_reducible rfl)
  focus exact HC
  refine wpAnyG_take0 (i := 16) (v := ?_) rfl (by kernel_rfl) (by kernel_rfl) (by kernel_rfl) (by decide) (fun _ _ _ h => h) (Or.inl ⟨by kernel_rfl, ?_⟩) ?_ ?_; rotate_left; focus (intro W hW; clear hW; go_simp; try with_reducible rfl)
  focus exact HC
  refine wpAnyG_take0 (i := 17) (v := ?_) rfl (by kernel_rfl) (by kernel_rfl) (by kernel_rfl) (by decide) (fun _ _ _ h => h) (Or.inl ⟨by kernel_rfl, ?_⟩) ?_ ?_; rotate_left; focus (intro W hW; clear hW; go_simp; try with_reducible rfl)
  focus exact HC
  refine wpAnyG_take0 (i := 18) (v := ?_) rfl (by kernel_rfl) (by kernel_rfl) (by kernel_rfl) (by decide) (fun _ _ _ h => h) (Or.inl ⟨by kernel_rfl, ?_⟩) ?_ ?_; rotate_left; focus (intro W hW; clear hW; go_simp; try with_reducible rfl)
  focus exact HC
  refine wpAnyG_take0 (i := 19) (v := ?_) rfl (by kernel_rfl) (by kernel_rfl) (by kernel_rfl) (by decide) (fun _ _ _ h => h) (Or.inl ⟨by kernel_rfl, ?_⟩) ?_ ?_; rotate_left; focus (intro W hW; clear hW; go_simp; try with_reducible rfl)
  focus exact HC
  refine wpAnyG_c (by kernel_rfl) ?_ (by kernel_rfl)
  refine wpOp_step rfl (fun K hK => ?_)
  go_simp
  refine hK _ _ ?_; clear hK K
  refine wpAny_done (by kernel_rfl) ?_ _
  go_wp2_with fail
  first | (go_end0; exact ⟨rfl, HN.out.1, HN.out.2⟩) | (refine bodyPost_ret (results_none rfl _ _ _) rfl ?_; exact ⟨rfl, HN.out.1, HN.out.2⟩)
theorem int_Mul (w : World) (B Bx By g gx gy x y p lx cx ly cy : Nat) (Ax Ay : Option Addr) (hz : IntAt w g (.slice none 0 0)) (hxa : IntAt w gx (.slice Ax lx cx)) (hya : IntAt w gy (.slice Ay ly cy))
    (hx : NumS w Bx Ax lx cx x) (hy : NumS w By Ay ly cy y) (hx0 : 0 < x) (hy0 : 0 < y) (hy2 : y < 9223372036854775808) (hp : x * y = p) (hp2 : p ≤ 18446744073709551616) (hB : B ≤ g) (hBw : B ≤ w.heap.size) (hxy : gx ≠ gy) :
    Calls Tryz.prog 25 #[.pointer (some ⟨g, 0, none⟩), .pointer (some ⟨gx, 0, none⟩), .pointer (some ⟨gy, 0, none⟩)] w fun e w' => e = .returned (.pointer (some ⟨g, 0, none⟩)) ∧ NumAt w' B g p ∧ Kb g w w' := by
  have M := int_mul w B Bx By g gx gy x y p lx cx ly cy Ax Ay hz hxa hya hx hy hx0 hy0 hy2 hp hp2 hB hBw hxy
  clear hz hxa hya hx hy hx0 hy0 hy2 hp hp2 hB hBw hxy
  go_enter Tryz.func25, Tryz.ntmps25
  go_wp2_with fail
  refine M.mono ?_
  rintro e w1 ⟨rfl, r1, r2⟩
  have HR := Lib.hid (And.intro r1 r2); clear r1 r2
  go_wp2_with fail
  go_ret
  exact ⟨rfl, HR.out⟩
theorem setUint64_ok (w : World) (B v l cap : Nat) (A : Option Addr) (h : SLc w B A cap) (hl : l ≤ cap) (hB : B ≤ w.heap.size) (hv : v < 18446744073709551616) :
    Calls Tryz.prog 44 #[.slice A l cap, .int .u64 (v : Nat)] w fun e w' => ∃ A' n c, e = .returned (.slice A' n c) ∧ NumS w' B A' n c v ∧ Fm B w w' ∧ Oth w w' A ∧ (A' = A ∨ ∃ b, A' = some ⟨b, 0, none⟩ ∧ w.heap.size ≤ b) := by
  have S := setWord_ok w B v l cap A h hl hB hv
  clear h hl hB hv
  go_enter Tryz.func44, Tryz.ntmps44
  go_wp2_with fail
  refine S.mono ?_
  rintro e w1 ⟨A', n, c, rfl, r⟩
  have HR := Lib.hid r; clear r
  go_wp2_with fail
  go_ret
  exact ⟨_, _, _, rfl, HR.out⟩
set_option maxRecDepth 100000 in
set_option maxHeartbeats 4000000 in
theorem int_SetUint64 (w : World) (B g v : Nat) (hz : IntAt w g (.slice none 0 0)) (hv : v < 18446744073709551616) (hB : B ≤ g) (hBw : B ≤ w.heap.size) :
    Calls Tryz.prog 27 #[.pointer (some ⟨g, 0, none⟩), .int .u64 (v : Nat)] w fun e w' => e = .returned (.pointer (some ⟨g, 0, none⟩)) ∧ NumAt w' B g v ∧ Kb g w w' := by
  have D := fun m => (setUint64_ok (w.drewN m) w.heap.size v 0 0 none (Or.inl ⟨rfl, rfl⟩) (Nat.le_refl _) (Nat.le_refl _) hv).mono (fun e w1 h => (show ∃ A n c, e = .returned (.slice A n c) ∧ w1.cell? ⟨g, 1, none⟩ = some (.slice none 0 0) ∧ w1.frozen? ⟨g, 1, none⟩ = false ∧
      (w1.setCell ⟨g, 1, none⟩ (.slice A n c)).cell? ⟨g, 0, none⟩ = some (.bool false) ∧ (w1.setCell ⟨g, 1, none⟩ (.slice A n c)).frozen? ⟨g, 0, none⟩ = false ∧
      Hid (NumAt ((w1.setCell ⟨g, 1, none⟩ (.slice A n c)).setCell ⟨g, 0, none⟩ (.bool false)) B g v ∧ Kb g w ((w1.setCell ⟨g, 1, none⟩ (.slice A n c)).setCell ⟨g, 0, none⟩ (.bool false))) from by
    obtain ⟨A, n, c, rfl, r1, r2, -⟩ := h
    have hz1 : IntAt w1 g (.slice none 0 0) := r2.ints _ _ hz
    obtain ⟨S1, S2, S3⟩ := int_stored hz1 hB (r1.down hBw)
    have k1 : Kb g w w1 := ⟨r2.below.os, r2.below.tape, r2.below.output, r2.below.size, fun k hk _ => r2.below.block k hk⟩
    exact ⟨A, n, c, rfl, (cell_of_block hz1 1).trans rfl, free_of_block hz1 1, (cell_of_block S1 0).trans rfl, free_of_block S1 0, Lib.hid ⟨S2, (k1.set _).set _⟩⟩))
  have D0 := D 0
  have z1 : w.cell? ⟨g, 1, none⟩ = some (.slice none 0 0) := (cell_of_block hz 1).trans rfl
  clear hz hv hB hBw D
  go_enter Tryz.func27, Tryz.ntmps27
  go_wp2_with fail
  refine D0.mono ?_
  rintro e w1 ⟨A, n, c, rfl, s1, s2, s3, s4, HN⟩
  go_wp2_with fail
  go_ret
  exact ⟨rfl, HN.out⟩
theorem low64_num (w : World) (B v n cap : Nat) (A : Option Addr) (h : NumS w B A n cap v) (hv : v < 18446744073709551616) :
    Calls Tryz.prog 36 #[.slice A n cap] w fun e w' => e = .returned (.int .u64 (v : Nat)) ∧ w = w' := by
  by_cases h0 : v = 0
  · subst h0
    obtain ⟨rfl, hs⟩ := h.nought
    exact low64_0 A cap (by have := hs.le; omega) w
  · obtain ⟨rfl, b, cs, rfl, hB2, hb, hc, h1, h8, e⟩ := h.one (by omega) hv
    exact low64_1 b cap v cs (by omega) h1 w hb e
theorem int_Int64 (w : World) (B g v : Nat) (hz : NumAt w B g v) (hv : v < 9223372036854775808) :
    Calls Tryz.prog 16 #[.pointer (some ⟨g, 0, none⟩)] w fun e w' => e = .returned (.int .i64 (v : Nat)) ∧ w' = w := by
  obtain ⟨hB, A, n, c, hi, hs⟩ := hz
  have L := low64_num w B v n c A hs (by omega)
  have c1 : w.cell? ⟨g, 1, none⟩ = some (.slice A n c) := (cell_of_block hi 1).trans rfl
  have c0 : w.cell? ⟨g, 0, none⟩ = some (.bool false) := (cell_of_block hi 0).trans rfl
  have k : wrap64 (v : Int) = (v : Nat) := by unfold wrap64; omega
  clear hi hs hv hB
  go_enter Tryz.func16, Tryz.ntmps16
  go_wp2_with fail
  refine L.mono ?_
  rintro e w1 ⟨rfl, rfl⟩
  go_wp2_with fail
  go_ret
  exact ⟨congrArg Ending.returned (congrArg (Value.int .i64) k), rfl⟩
set_option maxRecDepth 100000 in
theorem int_Div (w : World) (B Bu Bv g gx gy x n lu cu lv cv : Nat) (Au Av : Option Addr) (hz : IntAt w g (.slice none 0 0)) (hxa : IntAt w gx (.slice Au lu cu)) (hya : IntAt w gy (.slice Av lv cv))
    (hu : NumS w Bu Au lu cu x) (hx : x ≤ 18446744073709551616) (hv : NumS w Bv Av lv cv n) (hn : 1 ≤ n) (hn2 : n < 9223372036854775808) (hB : B ≤ g) (hBw : B ≤ w.heap.size) :
    Calls Tryz.prog 26 #[.pointer (some ⟨g, 0, none⟩), .pointer (some ⟨gx, 0, none⟩), .pointer (some ⟨gy, 0, none⟩)] w fun e w' => e = .returned (.pointer (some ⟨g, 0, none⟩)) ∧ NumAt w' B g (x / n) ∧ Below B w w' := by
  have y0 : w.cell? ⟨gy, 0, none⟩ = some (.bool false) := (cell_of_block hya 0).trans rfl
  obtain ⟨w0, e0⟩ : ∃ w0, w0 = w.alloc (.cells #[.bool false, .slice none 0 0] 57) := ⟨_, rfl⟩
  obtain ⟨gr, er⟩ : ∃ gr, gr = w.heap.size := ⟨_, rfl⟩
  have hr : IntAt w0 gr (.slice none 0 0) := by rw [e0, er]; exact heap_alloc_new w _
  have up : ∀ k, k < w.heap.size → w0.heap[k]? = w.heap[k]? := fun k hk => by rw [e0]; exact Below.heap_alloc _ _ _ hk
  have hz0 : IntAt w0 g (.slice none 0 0) := (up g hz.lt).trans hz
  have hx0 : IntAt w0 gx (.slice Au lu cu) := (up gx hxa.lt).trans hxa
  have hy0 : IntAt w0 gy (.slice Av lv cv) := (up gy hya.lt).trans hya
  have hbl : Below w.heap.size w w0 := by rw [e0]; exact (Below.refl _ _).alloc (Nat.le_refl _) _
  have hs0 : w.heap.size ≤ w0.heap.size := hbl.size
  have Q := int_quorem w0 B Bu Bv g gr gx gy x n lu cu lv cv 0 0 Au Av none hz0 hr hx0 hy0 (hu.kept hbl) hx (hv.kept hbl) hn hn2 (Or.inl ⟨rfl, rfl⟩) (Nat.le_refl _) (by omega) hB (by omega) (by have := hz.lt; omega)
  have Q := Q.mono (fun e w1 h => (show e = .returned (.tuple #[.pointer (some ⟨g, 0, none⟩), .pointer (some ⟨gr, 0, none⟩)]) ∧ w1.cell? ⟨gr, 0, none⟩ = some (.bool false) ∧ Hid (NumAt w1 B g (x / n) ∧ Below B w0 w1) from by
    obtain ⟨r, rfl, r1, r2, r3, r4⟩ := h
    obtain ⟨-, A, l, c, hi, -⟩ := r2
    exact ⟨rfl, (cell_of_block hi 0).trans rfl, Lib.hid ⟨r1, r4⟩⟩))
  have HB := Lib.hid (hbl.mono hBw)
  rw [er] at Q
  clear hz hxa hya hu hx hv hn hn2 hB hBw hr up hz0 hx0 hy0 hbl hs0 er
  have HE := Lib.hid e0; clear e0
  go_enter Tryz.func26, Tryz.ntmps26
  go_upto_region 3 with fail
  rw [← HE.out]
  go_wp2_with fail
  refine Q.mono ?_
  rintro e w1 ⟨rfl, s1, HN⟩
  go_wp2_with fail
  go_ret
  exact ⟨rfl, HN.out.1, HB.out.trans HN.out.2⟩
end Go.Proofs.YtabgeonlodmpiaaGreatDoor
