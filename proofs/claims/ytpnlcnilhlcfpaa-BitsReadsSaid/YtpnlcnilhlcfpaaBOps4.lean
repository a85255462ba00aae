/- math/big: Int.Cmp, Uint64; the reference's power and number. -/
import Derived.Test.YtpnlcnilhlcfpaaBOps3
set_option linter.unusedVariables false
namespace Go.Proofs.Ytpnlcnilhlcfpaa
open Go.RowKit

set_option maxRecDepth 100000 in
theorem int_cmp (w : World) (B g g2 x y : Nat) (hz : NumAt w B g x) (hy : NumAt w B g2 y) (hne : g ≠ g2)
    (hx2 : x < 36893488147419103232) (hy0 : 0 < y) (hy1 : y ≤ 18446744073709551616) :
    Calls Try.prog 42 #[.pointer (some ⟨g, 0, none⟩), .pointer (some ⟨g2, 0, none⟩)] w fun e w' => e = .returned (.int .i64 (cmpI x y)) ∧ ∃ m, w' = w.drewN m := by
  obtain ⟨hB, Az, nz, cz, hi, hs⟩ := hz
  obtain ⟨hB2, A2, n2, c2, hi2, hs2⟩ := hy
  have z0 : w.cell? ⟨g, 0, none⟩ = some (.bool false) := (cell_of_block hi 0).trans rfl
  have y0 : w.cell? ⟨g2, 0, none⟩ = some (.bool false) := (cell_of_block hi2 0).trans rfl
  have z1 : w.cell? ⟨g, 1, none⟩ = some (.slice Az nz cz) := (cell_of_block hi 1).trans rfl
  have x1 : w.cell? ⟨g2, 1, none⟩ = some (.slice A2 n2 c2) := (cell_of_block hi2 1).trans rfl
  have CM := fun m => cmp_any (w.drewN m) B B x y Az nz cz hs A2 n2 c2 hs2 hx2 hy0 hy1
  obtain ⟨j, hj, hj1⟩ : ∃ j, Try.prog.info? 84 = some j ∧ j.size ≠ 0 := by
    have h : (Try.prog.info? 84).map (fun i => i.size) = some 2 := by kernel_rfl
    rcases e : Try.prog.info? 84 with _ | j
    · rw [e] at h; cases h
    · rw [e] at h; exact ⟨j, rfl, by simp at h; omega⟩
  have hq : (binOp .eql 67 (.pointer (some ⟨g, 0, none⟩)) (.pointer (some ⟨g2, 0, none⟩))).run Try.prog w = .ok (.bool false) w :=
    run_eql_ptr_other (P := Try.prog) w Try.underlying67 hj hj1 (fun e => hne (congrArg Addr.block e)) hi hi2
  clear hi hs hi2 hs2 hx2 hB hB2 hy0 hy1 hj hj1
  generalize cmpI x y = cc at CM
  go_enter Try.func42, Try.ntmps42
  go_wp2_with fail
  go_quiet (fail)
  go_wp2_with fail
  go_quiet ((go_at_call 56; exact quiet_of_draws2 (CM _)))
  go_wp2_with fail
  go_ret
  exact ⟨rfl, _, rfl⟩
theorem int_uint64 (w : World) (B g x : Nat) (hz : NumAt w B g x) (hx : x < 18446744073709551616) :
    Calls Try.prog 38 #[.pointer (some ⟨g, 0, none⟩)] w fun e w' => e = .returned (.int .u64 (x : Nat)) ∧ w = w' := by
  obtain ⟨hB, A, n, c, hi, hs⟩ := hz
  by_cases h0 : x = 0
  · subst h0
    obtain ⟨rfl, h⟩ := hs.nought
    exact Uint64_0 g c A (by have := h.le; omega) w hi
  · obtain ⟨rfl, b, cs, rfl, hB2, hb, hc, h1, h8, e⟩ := hs.one (by omega) hx
    exact Uint64_1 g b c x cs (by omega) h1 w hi hb e
theorem NumS.mono {w : World} {B B' : Nat} {A : Option Addr} {n cap v : Nat} (h : NumS w B' A n cap v) (hB : B ≤ B') : NumS w B A n cap v := by
  refine ⟨?_, h.2⟩
  rcases h.1 with h | ⟨b, cs, e, h1, h2⟩
  · exact Or.inl h
  · exact Or.inr ⟨b, cs, e, by omega, h2⟩
theorem Fm.mono {B B' : Nat} {w w' : World} (h : Fm B' w w') (hB : B ≤ B') : Fm B w w' := ⟨h.below.mono hB, h.ints⟩
theorem NumAt.mono {w : World} {B B' g v : Nat} (h : NumAt w B' g v) (hB : B ≤ B') : NumAt w B g v := by
  obtain ⟨h1, A, n, c, h2, h3⟩ := h
  exact ⟨by omega, A, n, c, h2, h3.mono hB⟩
set_option maxRecDepth 100000 in
theorem power_ok (w : World) (k : Nat) (hk : k ≤ 64) :
    Calls Try.prog 40 #[.int .i64 (k : Nat)] w fun e w' => e = .returned (.pointer (some ⟨w.heap.size, 0, none⟩)) ∧ NumAt w' w.heap.size w.heap.size (2 ^ k) ∧ Below w.heap.size w w' := by
  obtain ⟨g, eg⟩ : ∃ g, g = w.heap.size := ⟨_, rfl⟩
  obtain ⟨W0, eW0⟩ : ∃ W0, W0 = w.alloc (.cells #[.bool false, .slice none 0 0] 84) := ⟨_, rfl⟩
  have N := NewInt_1 W0
  obtain ⟨W1, eW1⟩ : ∃ W1, W1 = W0.alloc (.cells #[.int .u64 1] 88) := ⟨_, rfl⟩
  obtain ⟨W2, eW2⟩ : ∃ W2, W2 = W1.alloc (.cells #[.bool false, .slice (some ⟨W0.heap.size, 0, none⟩) 1 1] 84) := ⟨_, rfl⟩
  rw [← eW1, ← eW2] at N
  have s0 : W0.heap.size = w.heap.size + 1 := by rw [eW0]; simp
  have s1 : W1.heap.size = W0.heap.size + 1 := by rw [eW1]; simp
  have b0 : IntAt W0 g (.slice none 0 0) := by rw [eW0, eg]; exact heap_alloc_new w _
  have b0' : IntAt W2 g (.slice none 0 0) := by
    rw [eW2, eW1]
    exact (Below.heap_alloc _ _ _ (by rw [← eW1]; omega)).trans ((Below.heap_alloc _ _ _ (by omega)).trans b0)
  have b1 : WB W2 W0.heap.size #[.int .u64 1] := by
    rw [eW2]
    exact (Below.heap_alloc _ _ _ (by omega)).trans (by rw [eW1]; exact heap_alloc_new W0 _)
  have b2 : IntAt W2 (W0.heap.size + 1) (.slice (some ⟨W0.heap.size, 0, none⟩) 1 1) := by
    rw [eW2, ← s1]; exact heap_alloc_new W1 _
  have s2 : W2.heap.size = W1.heap.size + 1 := by rw [eW2]; simp
  have hbl : Below w.heap.size w W2 := by
    rw [eW2, eW1, eW0]
    exact ((((Below.refl _ _).alloc (Nat.le_refl _) _).alloc (by simp) _).alloc (by simp; omega) _)
  have P := lsh_pow W2.drew W0.heap.size k #[.int .u64 1] b1 rfl rfl hk
  have L := int_lsh W2 w.heap.size g (W0.heap.size + 1) (2 ^ k) k 0 0 1 1 none (some ⟨W0.heap.size, 0, none⟩) b0' b2 (by omega)
    (P.mono (fun e w' h => by
      obtain ⟨A', n, c, rfl, r1, r2⟩ := h
      have hle : w.heap.size ≤ W2.drew.heap.size := by show w.heap.size ≤ W2.heap.size; omega
      exact ⟨A', n, c, rfl, r1.mono hle, r2.mono hle⟩))
  have kk : (k : Int) % 18446744073709551616 = k := by omega
  have HB := Lib.hid (And.intro hbl (And.intro s0 eg))
  clear b0 b0' b1 b2 s2 hbl P eW2 eW1 s1 s0 hk
  rw [eg] at L
  have HW := Lib.hid eW0; clear eW0 eg
  go_enter Try.func40, Try.ntmps40
  go_wp2_with fail
  rw [← HW.out]
  refine N.mono ?_
  rintro e w1 ⟨rfl, rfl⟩
  go_wp2_with fail
  refine L.mono ?_
  rintro e w1 ⟨rfl, r1, r2⟩
  have HR := Lib.hid (And.intro r1 r2); clear r1 r2
  go_wp2_with fail
  go_ret
  exact ⟨rfl, HR.out.1, HB.out.1.trans HR.out.2⟩
/-- The number that a string of bits is. -/
theorem NewInt_b (w : World) (b : Nat) (hb : b = 0 ∨ b = 1) :
    Calls Try.prog 46 #[.int .i64 (b : Nat)] w fun e w' => ∃ g, e = .returned (.pointer (some ⟨g, 0, none⟩)) ∧ NumAt w' w.heap.size g b ∧ Below w.heap.size w w' := by
  rcases hb with rfl | rfl
  · refine (NewInt_0 w).mono ?_
    rintro e w' ⟨rfl, rfl⟩
    have h : IntAt (w.alloc (.cells #[.bool false, .slice none 0 0] 84)) w.heap.size (.slice none 0 0) := heap_alloc_new w _
    refine ⟨_, rfl, ⟨Nat.le_refl _, none, 0, 0, h, NumS.zero (Or.inl ⟨rfl, rfl⟩)⟩, (Below.refl _ _).alloc (Nat.le_refl _) _⟩
  · refine (NewInt_1 w).mono ?_
    rintro e w' ⟨rfl, rfl⟩
    have h : IntAt ((w.alloc (.cells #[.int .u64 1] 88)).alloc (.cells #[.bool false, .slice (some ⟨w.heap.size, 0, none⟩) 1 1] 84)) (w.heap.size + 1) (.slice (some ⟨w.heap.size, 0, none⟩) 1 1) := by
      have e : (w.alloc (.cells #[.int .u64 1] 88)).heap.size = w.heap.size + 1 := by simp
      unfold IntAt
      rw [← e]
      exact heap_alloc_new _ _
    have hb : WB ((w.alloc (.cells #[.int .u64 1] 88)).alloc (.cells #[.bool false, .slice (some ⟨w.heap.size, 0, none⟩) 1 1] 84)) w.heap.size #[.int .u64 1] :=
      (Below.heap_alloc _ _ _ (by simp)).trans (heap_alloc_new w _)
    refine ⟨_, rfl, ⟨Nat.le_succ _, _, 1, 1, h, NumS.mk1 hb (Nat.le_refl _) rfl (by omega) rfl (by omega) (by omega)⟩, ((Below.refl _ _).alloc (Nat.le_refl _) _).alloc (by simp) _⟩
theorem IntAt.inj {w : World} {g : Nat} {S S' : Value} (h : IntAt w g S) (h' : IntAt w g S') : S = S' := by
  unfold IntAt at h h'
  rw [h] at h'
  injection h' with h'; injection h' with h' _; simp at h'; exact h'
theorem NumAt.apart {w0 w' : World} {B g x g2 y : Nat} (h : NumAt w0 B g x) (k : Below w0.heap.size w0 w') (h2 : NumAt w' w0.heap.size g2 y) :
    ∀ A n c A2 n2 c2, IntAt w' g (.slice A n c) → IntAt w' g2 (.slice A2 n2 c2) → A ≠ A2 ∨ A = none := by
  intro A n c A2 n2 c2 i1 i2
  obtain ⟨-, A', n', c', j1, j2⟩ := h
  obtain ⟨-, A2', n2', c2', j3, j4⟩ := h2
  have e1 := i1.inj ((k.block g j1.lt).trans j1)
  have e2 := i2.inj j3
  injection e1 with e1 _ _
  injection e2 with e2 _ _
  subst e1; subst e2
  rcases j2.1 with ⟨rfl, _⟩ | ⟨b, cs, rfl, _, hb, _⟩
  · exact Or.inr rfl
  · refine Or.inl fun e => ?_
    rcases j4.1 with ⟨rfl, _⟩ | ⟨b2, cs2, rfl, hle, _⟩
    · cases e
    · cases e
      have := WB.lt hb
      omega
end Go.Proofs.Ytpnlcnilhlcfpaa
