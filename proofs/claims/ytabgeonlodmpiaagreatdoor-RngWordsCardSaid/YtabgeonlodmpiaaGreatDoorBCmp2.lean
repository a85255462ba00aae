/- math/big: nat.cmp in all; nat.lsh in all that is wanted. -/
import Derived.Test.YtabgeonlodmpiaaGreatDoorBCmp
import Derived.Lib.SliceRun
set_option linter.unusedVariables false
namespace Go.Proofs.YtabgeonlodmpiaaGreatDoor
open Go.RowKit

theorem cmp_any (w : World) (B B2 x y : Nat) (A : Option Addr) (n cap : Nat) (hx : NumS w B A n cap x) (A2 : Option Addr) (n2 cap2 : Nat) (hy : NumS w B2 A2 n2 cap2 y)
    (hx2 : x < 36893488147419103232) (hy0 : 0 < y) (hy2 : y ≤ 18446744073709551616) :
    Calls Tryz.prog 45 #[.slice A n cap, .slice A2 n2 cap2] w fun e w' => e = .returned (.int .i64 (cmpI x y)) ∧ ∃ m, w' = w.drewN m := by
  rcases Nat.lt_or_ge y 18446744073709551616 with hyl | hyl
  · obtain ⟨rfl, b3, cs3, rfl, hB3, hb3, hc3, h13, h83, e3⟩ := hy.one hy0 hyl
    by_cases hx0 : x = 0
    · subst hx0
      obtain ⟨rfl, -⟩ := hx.nought
      refine (cmp_less A _ 0 1 cap cap2 w (by omega)).mono ?_
      rintro e w' ⟨rfl, rfl⟩
      exact ⟨by unfold cmpI; rw [if_pos hy0], 0, rfl⟩
    rcases Nat.lt_or_ge x 18446744073709551616 with hxl | hxl
    · obtain ⟨rfl, b2, cs2, rfl, hB2, hb2, hc2, h12, h82, e2⟩ := hx.one (by omega) hxl
      exact cmp_same b2 b3 1 cap cap2 x y w (by omega) (by omega) ((cell_of_block hb2 0).trans e2) ((cell_of_block hb3 0).trans e3) (fun h => by omega)
    · obtain ⟨rfl, -⟩ := hx.two hxl
      refine (cmp_more A _ 2 1 cap cap2 w (by omega)).mono ?_
      rintro e w' ⟨rfl, rfl⟩
      exact ⟨by unfold cmpI; rw [if_neg (by omega), if_pos (by omega)], 0, rfl⟩
  · have : y = 18446744073709551616 := by omega
    subst this
    obtain ⟨rfl, b3, cs3, rfl, hB3, hb3, hc3, h13, h83, e3, e31⟩ := hy.two hyl
    rcases Nat.lt_or_ge x 18446744073709551616 with hxl | hxl
    · have hn : n < 2 := by
        by_cases hx0 : x = 0
        · subst hx0; rw [hx.nought.1]; omega
        · rw [(hx.one (by omega) hxl).1]; omega
      refine (cmp_less A _ n 2 cap cap2 w hn).mono ?_
      rintro e w' ⟨rfl, rfl⟩
      exact ⟨by unfold cmpI; rw [if_pos hxl], 0, rfl⟩
    · obtain ⟨rfl, b2, cs2, rfl, hB2, hb2, hc2, h12, h82, e2, e21⟩ := hx.two hxl
      have hq : cmpI (x - 18446744073709551616) 0 = cmpI x 18446744073709551616 := by
        unfold cmpI
        have a1 : ¬ (x - 18446744073709551616 < 0) := by omega
        have a2 : ¬ (x < 18446744073709551616) := by omega
        rw [if_neg a1, if_neg a2]
        by_cases h : 18446744073709551616 < x
        · have a3 : 0 < x - 18446744073709551616 := by omega
          rw [if_pos h, if_pos a3]
        · have a3 : ¬ 0 < x - 18446744073709551616 := by omega
          rw [if_neg h, if_neg a3]
      have := cmp_same b2 b3 2 cap cap2 (x - 18446744073709551616) 0 w (by omega) (by omega) ((cell_of_block hb2 0).trans e2) ((cell_of_block hb3 0).trans e3) (fun _ => ⟨(cell_of_block hb2 1).trans e21, (cell_of_block hb3 1).trans e31⟩)
      rw [hq] at this
      exact this
/-- Twice a number. -/
theorem lsh1_any (w : World) (B v : Nat) (A : Option Addr) (n cap : Nat) (hx : NumS w B A n cap v) (hB : B ≤ w.heap.size) (hv : v < 9223372036854775808) :
    Calls Tryz.prog 39 #[.slice A n cap, .slice A n cap, .int .u64 1] w fun e w' => ∃ A' n c, e = .returned (.slice A' n c) ∧ NumS w' B A' n c (2 * v) ∧ Fm B w w' := by
  by_cases h0 : v = 0
  · subst h0
    obtain ⟨rfl, hs⟩ := hx.nought
    refine (lsh_empty A A 0 cap cap 1 w (by omega) (Nat.zero_le _) hs.le).mono ?_
    rintro e w' ⟨rfl, rfl⟩
    exact ⟨_, _, _, rfl, hx, Fm.refl _ _⟩
  · obtain ⟨rfl, b2, cs2, rfl, hB2, hb2, hc2, h12, h82, e2⟩ := hx.one (by omega) (by omega)
    rcases Nat.lt_or_ge cap 2 with hc | hc
    · refine (lsh_new b2 cap (some ⟨b2, 0, none⟩) 1 cap v 1 (2 * v) cs2 w hb2 e2 (by omega) h82 hc (by omega) (by omega) (by omega) (by omega) (by omega)).mono ?_
      rintro e w' ⟨rfl, ⟨cs', h1, h2, h3⟩, h4, h5⟩
      exact ⟨_, _, _, rfl, NumS.mk1 h1 hB h3 (by omega) h2 (by omega) (by omega), Fm.keep h4 hB⟩
    · refine (lsh_in b2 cap v 1 (2 * v) cs2 w hb2 e2 hc2 hc h82 (by omega) (by omega) (by omega) (by omega) (by omega)).mono ?_
      rintro e w' ⟨rfl, ⟨cs', h1, h2, h3⟩, h4⟩
      exact ⟨_, _, _, rfl, NumS.mk1 h1 hB2 h3 h82 h2 (by omega) (by omega), Fm.only h4 hb2 hB2⟩
theorem same_nil (A : Option Addr) (n c : Nat) (w : World) (hn : 0 < n) :
    Calls Tryz.prog 49 #[.slice none 0 0, .slice A n c] w fun e w' => e = .returned (.bool false) ∧ ∃ m, w' = w.drewN m := by
  have k0 : ((0 : Int) == n) = false := decide_eq_false (by omega)
  have k1 : ((n : Int) == 0) = false := decide_eq_false (by omega)
  go_enter Tryz.func49, Tryz.ntmps49
  go_wp2_with fail
  go_quiet (fail)
  go_wp2_with fail
  go_ret
  exact ⟨rfl, _, rfl⟩
theorem alias_nil (A : Option Addr) (n c : Nat) (w : World) :
    Calls Tryz.prog 46 #[.slice none 0 0, .slice A n c] w fun e w' => e = .returned (.bool false) ∧ ∃ m, w' = w.drewN m := by
  go_enter Tryz.func46, Tryz.ntmps46
  go_wp2_with fail
  go_quiet (fail)
  go_wp2_with fail
  go_ret
  exact ⟨rfl, _, rfl⟩
theorem clear_one (W : World) (b c : Nat) (hc : ∃ u, W.cell? ⟨b, 0, none⟩ = some u) (hf : W.frozen? ⟨b, 0, none⟩ = false) :
    (Builtin.clear_ #[55] 0 #[.slice (some ⟨b, 0, none⟩) 1 c]).run Tryz.prog W = .ok (.tuple #[]) (W.setCell ⟨b, 0, none⟩ (.int .u64 0)) := by
  obtain ⟨i0, hi, hz0, hz1, hz2⟩ := info_parts' info88
  obtain ⟨u, hc⟩ := hc
  have hz : Tryz.t62.zero = some (.int .u64 0) := by kernel_rfl
  exact Lib.run_clear_slice (P := Tryz.prog) W 55 62 0 (.int .u64 0) Tryz.underlying55 (fun w => by simp [zeroValue, hz]) rfl rfl b 0 1 c (by omega)
    (fun j hj => by have : j = 0 := by omega
                    subst this; rw [show (⟨b, 0 + 0, none⟩ : Addr) = ⟨b, 0, none⟩ from rfl, hc]; rfl)
    (fun j hj => by have : j = 0 := by omega
                    subst this; exact hf)
set_option maxRecDepth 100000 in
/-- 1 shifted by 64. -/
theorem lsh64 (w : World) (b : Nat) (cs : Array Value) (hb : WB w b cs) (h1 : cs[0]? = some (.int .u64 1)) :
    Calls Tryz.prog 39 #[.slice none 0 0, .slice (some ⟨b, 0, none⟩) 1 1, .int .u64 64] w fun e w' => ∃ h c, e = .returned (.slice (some ⟨h, 0, none⟩) 2 c) ∧ NumS w' w.heap.size (some ⟨h, 0, none⟩) 2 c 18446744073709551616 ∧ Fm w.heap.size w w' := by
  have M := make_new none 0 3 0 (by omega) (by omega) (by omega) w
  obtain ⟨h, eh⟩ : ∃ h, h = w.heap.size := ⟨_, rfl⟩
  obtain ⟨zs, ezs⟩ : ∃ zs, zs = zw 7 := ⟨_, rfl⟩
  obtain ⟨W0, eW0⟩ : ∃ W0, W0 = w.alloc (.cells zs 62) := ⟨_, rfl⟩
  rw [show zw (3 + 4) = zs from ezs.symm, ← eW0, ← eh] at M
  have hb0 : W0.heap[h]? = some (.cells zs 62 (0, 0)) := by rw [eW0, eh]; exact heap_alloc_new w _
  have hK : Below w.heap.size w W0 := by rw [eW0]; exact (Below.refl _ _).alloc (Nat.le_refl _) _
  have hsz : zs.size = 7 := by rw [ezs]; exact zw_size 7
  have cb : W0.cell? ⟨b, 0, none⟩ = some (.int .u64 1) := (hK.cell (p := ⟨b, 0, none⟩) (WB.lt hb)).trans ((cell_of_block hb 0).trans h1)
  have z1 : W0.cell? ⟨h, 1, none⟩ = some (.int .u64 0) := (cell_of_block hb0 1).trans (by rw [ezs]; exact zw_at (by decide))
  have hcp : (Builtin.copy_ #[55, 55] 3 #[.slice (some ⟨h, 1, none⟩) 1 6, .slice (some ⟨b, 0, none⟩) 1 1]).run Tryz.prog W0 = .ok (goInt 1) (W0.setCell ⟨h, 1, none⟩ (.int .u64 1)) := by
    have := run_copy_cells (P := Tryz.prog) W0 55 55 3 62 h 1 1 6 ⟨b, 0, none⟩ 1 1 [.int .u64 1] Tryz.underlying55 (by kernel_rfl) rfl
      (fun j v hv => by
        rcases j with _ | j
        · simp at hv; subst hv; exact cb
        · simp at hv)
      (fun j hj => by
        have : j = 0 := by simp at hj; exact hj
        subst this; rw [show (⟨h, 1 + 0, none⟩ : Addr) = ⟨h, 1, none⟩ from rfl, z1]; rfl)
      (fun j hj => by
        have : j = 0 := by simp at hj; exact hj
        subst this; exact free_of_block hb0 1)
      (fun v hv => by simp at hv; subst hv; rfl)
    exact this
  obtain ⟨W1, eW1⟩ : ∃ W1, W1 = W0.setCell ⟨h, 1, none⟩ (.int .u64 1) := ⟨_, rfl⟩
  rw [← eW1] at hcp
  have hb1 : W1.heap[h]? = some (.cells (zs.setIfInBounds 1 (.int .u64 1)) 62 (0, 0)) := by rw [eW1]; exact block_setCell hb0 1 _
  have g2 : (zs.setIfInBounds 1 (.int .u64 1))[2]? = some (.int .u64 0) := by
    rw [Array.getElem?_setIfInBounds, if_neg (by decide), ezs]; exact zw_at (by decide)
  have c2 : W1.cell? ⟨h, 2, none⟩ = some (.int .u64 0) := (cell_of_block hb1 2).trans g2
  have f2 := free_of_block hb1 2
  obtain ⟨W2, eW2⟩ : ∃ W2, W2 = W1.setCell ⟨h, 2, none⟩ (.int .u64 0) := ⟨_, rfl⟩
  have hb2 : W2.heap[h]? = some (.cells ((zs.setIfInBounds 1 (.int .u64 1)).setIfInBounds 2 (.int .u64 0)) 62 (0, 0)) := by rw [eW2]; exact block_setCell hb1 2 _
  have g0 : ((zs.setIfInBounds 1 (.int .u64 1)).setIfInBounds 2 (.int .u64 0))[0]? = some (.int .u64 0) := by
    rw [Array.getElem?_setIfInBounds, if_neg (by decide), Array.getElem?_setIfInBounds, if_neg (by decide), ezs]; exact zw_at (by decide)
  have CL := clear_one W2 h 7 ⟨_, (cell_of_block hb2 0).trans g0⟩ (free_of_block hb2 0)
  obtain ⟨W3, eW3⟩ : ∃ W3, W3 = W2.setCell ⟨h, 0, none⟩ (.int .u64 0) := ⟨_, rfl⟩
  rw [← eW3, eW2] at CL
  have hb3 : W3.heap[h]? = some (.cells (((zs.setIfInBounds 1 (.int .u64 1)).setIfInBounds 2 (.int .u64 0)).setIfInBounds 0 (.int .u64 0)) 62 (0, 0)) := by rw [eW3]; exact block_setCell hb2 0 _
  have q0 : (((zs.setIfInBounds 1 (.int .u64 1)).setIfInBounds 2 (.int .u64 0)).setIfInBounds 0 (.int .u64 0))[0]? = some (.int .u64 0) := by
    rw [Array.getElem?_setIfInBounds, if_pos rfl, if_pos (by simp [hsz])]
  have q1 : (((zs.setIfInBounds 1 (.int .u64 1)).setIfInBounds 2 (.int .u64 0)).setIfInBounds 0 (.int .u64 0))[1]? = some (.int .u64 1) := by
    rw [Array.getElem?_setIfInBounds, if_neg (by decide), Array.getElem?_setIfInBounds, if_neg (by decide), Array.getElem?_setIfInBounds, if_pos rfl, if_pos (by simp [hsz])]
  have q2 : (((zs.setIfInBounds 1 (.int .u64 1)).setIfInBounds 2 (.int .u64 0)).setIfInBounds 0 (.int .u64 0))[2]? = some (.int .u64 0) := by
    rw [Array.getElem?_setIfInBounds, if_neg (by decide), Array.getElem?_setIfInBounds, if_pos rfl, if_pos (by simp [hsz])]
  have qs : (((zs.setIfInBounds 1 (.int .u64 1)).setIfInBounds 2 (.int .u64 0)).setIfInBounds 0 (.int .u64 0)).size = 7 := by simp [hsz]
  have N := norm_ok (some ⟨h, 0, none⟩) 3 2 7 (by omega) (by omega) W3 (by omega)
    (fun i h1 h2 => ⟨h, rfl, by rw [show i = 2 from by omega]; exact (cell_of_block hb3 2).trans q2⟩)
    (Or.inr ⟨h, 1, rfl, (cell_of_block hb3 1).trans q1, by decide⟩)
  have hO : Only h W0 W3 := by rw [eW3, eW2, eW1]; exact (((Only.refl h W0).setCell rfl _).setCell rfl _).setCell rfl _
  have HE := Lib.hid (And.intro (NumS.mk2 (v := 18446744073709551616) hb3 (B := w.heap.size) (Nat.le_of_eq eh.symm) qs (by omega) q0 q1 (Nat.le_refl _)) ((Fm.keep hK (Nat.le_refl _)).trans (Fm.only hO hb0 (Nat.le_of_eq eh.symm))))
  have HW := Lib.hid eh; clear eh eW2 eW1 eW3 eW0 hb0 hb1 hb2 hb3 hO qs q0 q1 q2 g0 g2 hK hsz cb ezs hb h1
  go_enter Tryz.func39, Tryz.ntmps39
  go_wp2_with fail
  refine M.mono ?_
  rintro e w1 ⟨rfl, rfl⟩
  go_wp2_with fail
  refine N.mono ?_
  rintro e w1 ⟨rfl, rfl⟩
  go_wp2_with fail
  go_ret
  exact ⟨_, _, rfl, HE.out.1, HE.out.2⟩
/-- A power of two. -/
theorem lsh_pow (w : World) (b s : Nat) (cs : Array Value) (hb : WB w b cs) (hs : cs.size = 1) (h1 : cs[0]? = some (.int .u64 1)) (h64 : s ≤ 64) :
    Calls Tryz.prog 39 #[.slice none 0 0, .slice (some ⟨b, 0, none⟩) 1 1, .int .u64 (s : Nat)] w fun e w' => ∃ A' n c, e = .returned (.slice A' n c) ∧ NumS w' w.heap.size A' n c (2 ^ s) ∧ Fm w.heap.size w w' := by
  by_cases e64 : s = 64
  · subst e64
    refine (lsh64 w b cs hb h1).mono ?_
    rintro e w' ⟨h, c, rfl, r1, r2⟩
    exact ⟨_, _, _, rfl, r1, r2⟩
  have hp1 : 0 < 2 ^ s := Nat.two_pow_pos s
  have hp2 : 2 ^ s < 18446744073709551616 := by
    have : 2 ^ s < 2 ^ 64 := Nat.pow_lt_pow_right (by omega) (by omega)
    exact this
  by_cases e0 : s = 0
  · subst e0
    have hN : NumS w 0 (some ⟨b, 0, none⟩) 1 1 1 := NumS.mk1 hb (Nat.zero_le _) hs (by omega) h1 (by omega) (by omega)
    have S := fun W => same_nil (some ⟨b, 0, none⟩) 1 1 W (by omega)
    have AL := fun W => alias_nil (some ⟨b, 0, none⟩) 1 1 W
    have M := fun m => set_any (w.drewN m) w.heap.size 0 1 none 0 0 (Or.inl ⟨rfl, rfl⟩) (by omega) (Nat.le_refl _) (some ⟨b, 0, none⟩) 1 1 hN (by omega)
    clear hN hb hs h1 hp1 hp2 h64 e64
    go_enter Tryz.func39, Tryz.ntmps39
    go_wp2_with fail
    refine (S _).mono ?_
    rintro e w1 ⟨rfl, m1, rfl⟩
    go_wp2_with fail
    refine (AL _).mono ?_
    rintro e w1 ⟨rfl, m2, rfl⟩
    rw [drewN2]
    go_wp2_with fail
    refine (M _).mono ?_
    rintro e w1 ⟨h', c, rfl, r1, r2⟩
    have HR := Lib.hid (And.intro r1 r2); clear r1 r2
    go_wp2_with fail
    go_ret
    exact ⟨_, _, _, rfl, HR.out.1, ((Fm.refl _ w).drewN _).trans HR.out.2⟩
  · refine (lsh_new b 1 none 0 0 1 s (2 ^ s) cs w hb h1 (by omega) (by omega) (by omega) (by omega) (by omega) (by omega) hp1 hp2).mono ?_
    rintro e w' ⟨rfl, ⟨cs', h1, h2, h3⟩, h4, h5⟩
    exact ⟨_, _, _, rfl, NumS.mk1 h1 (Nat.le_refl _) h3 (by omega) h2 hp1 hp2, Fm.keep h4 (Nat.le_refl _)⟩
end Go.Proofs.YtabgeonlodmpiaaGreatDoor
