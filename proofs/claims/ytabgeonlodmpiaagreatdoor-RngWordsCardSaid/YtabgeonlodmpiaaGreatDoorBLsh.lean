/- math/big: nat.lsh. -/
import Derived.Test.YtabgeonlodmpiaaGreatDoorBShl
set_option linter.unusedVariables false
namespace Go.Proofs.YtabgeonlodmpiaaGreatDoor
open Go.RowKit

theorem clear_none (W : World) (d : Option Addr) (c : Nat) : (Builtin.clear_ #[55] 0 #[.slice d 0 c]).run Tryz.prog W = .ok (.tuple #[]) W := by
  cases d <;> simp [Builtin.clear_, run_underlying Tryz.underlying55]
theorem set01 (cs : Array Value) (a b : Value) (h : 2 ≤ cs.size) : ((cs.setIfInBounds 0 a).setIfInBounds 1 b)[0]? = some a ∧ ((cs.setIfInBounds 0 a).setIfInBounds 1 b)[1]? = some b ∧ (cs.setIfInBounds 0 a)[1]? = cs[1]? ∧ ((cs.setIfInBounds 0 a).setIfInBounds 1 b).size = cs.size := by
  have h0 : 0 < cs.size := by omega
  have h1 : 1 < cs.size := by omega
  refine ⟨?_, ?_, ?_, ?_⟩
  · rw [Array.getElem?_setIfInBounds, if_neg (by decide), Array.getElem?_setIfInBounds, if_pos rfl, if_pos h0]
  · rw [Array.getElem?_setIfInBounds, if_pos rfl, if_pos (by rw [Array.size_setIfInBounds]; exact h1)]
  · rw [Array.getElem?_setIfInBounds, if_neg (by decide)]
  · rw [Array.size_setIfInBounds, Array.size_setIfInBounds]
set_option maxRecDepth 100000 in
theorem lsh_in (h cap x s v : Nat) (cs : Array Value) (w : World) (hb : WB w h cs) (h0 : cs[0]? = some (.int .u64 (x : Nat))) (hsz : cs.size = cap) (hc2 : 2 ≤ cap) (hc : cap ≤ 8)
    (hs1 : 1 ≤ s) (hs2 : s < 64) (hv : x * 2 ^ s = v) (hv1 : 0 < v) (hv2 : v < 18446744073709551616) :
    Calls Tryz.prog 39 #[.slice (some ⟨h, 0, none⟩) 1 cap, .slice (some ⟨h, 0, none⟩) 1 cap, .int .u64 (s : Nat)] w fun e w' =>
      e = .returned (.slice (some ⟨h, 0, none⟩) 1 cap) ∧ (∃ cs', WB w' h cs' ∧ cs'[0]? = some (.int .u64 (v : Nat)) ∧ cs'.size = cap) ∧ Only h w w' := by
  have k0 : ((s : Int) == 0) = false := decide_eq_false (by omega)
  have k1 : (s : Int) / 64 = 0 := by omega
  have k2 : (s : Int) % 64 = s := by omega
  have k1' : (s : Int).tdiv 64 = 0 := by rw [Int.tdiv_eq_ediv_of_nonneg (by omega)]; omega
  have k2' : (s : Int).tmod 64 = s := by rw [Int.tmod_eq_emod_of_nonneg (by omega)]; omega
  have c0 := (cell_of_block hb 0).trans h0
  have f0 := free_of_block hb 0
  have L := lshVU1 ⟨h, 0, none⟩ ⟨h, 0, none⟩ cap cap x s v w c0 ⟨_, c0⟩ f0 hs1 hs2 hv hv2 (by omega) (by omega)
  have M := make_in (some ⟨h, 0, none⟩) 1 2 cap hc2 (by omega) (by omega) w
  have T := lshVU_enters
  have CL := clear_none
  obtain ⟨u1, hu1⟩ : ∃ u, cs[1]? = some u := ⟨_, Array.getElem?_eq_getElem (by omega)⟩
  obtain ⟨W1, eW1⟩ : ∃ W1, W1 = w.setCell ⟨h, 0, none⟩ (.int .u64 (v : Nat)) := ⟨_, rfl⟩
  have hb1 : W1.heap[h]? = some (.cells (cs.setIfInBounds 0 (.int .u64 (v : Nat))) 62 (0, 0)) := by rw [eW1]; exact block_setCell hb 0 _
  have hS := set01 cs (.int .u64 (v : Nat)) (.int .u64 0) (by omega)
  have c1 : W1.cell? ⟨h, 1, none⟩ = some u1 := (cell_of_block hb1 1).trans (hS.2.2.1.trans hu1)
  have f1 := free_of_block hb1 1
  rw [← eW1] at L
  obtain ⟨W2, eW2⟩ : ∃ W2, W2 = W1.setCell ⟨h, 1, none⟩ (.int .u64 0) := ⟨_, rfl⟩
  have hb2 : W2.heap[h]? = some (.cells ((cs.setIfInBounds 0 (.int .u64 (v : Nat))).setIfInBounds 1 (.int .u64 0)) 62 (0, 0)) := by rw [eW2]; exact block_setCell hb1 1 _
  have hO : Only h w W2 := by rw [eW2, eW1]; exact ((Only.refl h w).setCell rfl _).setCell rfl _
  have N := norm_ok (some ⟨h, 0, none⟩) 2 1 cap hc2 (by omega) W2 (by omega)
    (fun i h1 h2 => ⟨h, rfl, by rw [show i = 1 from by omega]; exact (cell_of_block hb2 1).trans hS.2.1⟩)
    (Or.inr ⟨h, v, rfl, (cell_of_block hb2 0).trans hS.1, hv1⟩)
  have hcs : (((cs.setIfInBounds 0 (.int .u64 (v : Nat))).setIfInBounds 1 (.int .u64 0)))[0]? = some (.int .u64 (v : Nat)) := hS.1
  have hcz : ((cs.setIfInBounds 0 (.int .u64 (v : Nat))).setIfInBounds 1 (.int .u64 0)).size = cap := hS.2.2.2.trans hsz
  have HE := Lib.hid (And.intro hb2 (And.intro hcs (And.intro hcz hO))); clear hb2 hcs hcz hO hb1 hu1 hS
  have HW := Lib.hid eW2; clear eW2 eW1
  have H := Lib.hid (And.intro hb (And.intro h0 (And.intro hsz (And.intro hv1 hv2)))); clear hb h0 hsz hv hv1 hv2
  go_enter Tryz.func39, Tryz.ntmps39
  go_wp2_with fail
  refine M.mono ?_
  rintro e w1 ⟨rfl, rfl⟩
  go_wp2_with fail
  refine L.mono ?_
  rintro e w1 ⟨rfl, rfl⟩
  go_wp2_with fail
  rw [← HW.out]
  refine N.mono ?_
  rintro e w2 ⟨rfl, rfl⟩
  go_wp2_with fail
  go_ret
  exact ⟨rfl, ⟨_, HE.out.1, HE.out.2.1, HE.out.2.2.1⟩, HE.out.2.2.2⟩
set_option maxRecDepth 100000 in
theorem lsh_new (hx cx : Nat) (Az : Option Addr) (lz cz : Nat) (x s v : Nat) (cx0 : Array Value) (w : World) (hbx : WB w hx cx0) (h0x : cx0[0]? = some (.int .u64 (x : Nat))) (hcx : 1 ≤ cx) (hcx2 : cx ≤ 8) (hcz : cz < 2)
    (hs1 : 1 ≤ s) (hs2 : s < 64) (hv : x * 2 ^ s = v) (hv1 : 0 < v) (hv2 : v < 18446744073709551616) :
    Calls Tryz.prog 39 #[.slice Az lz cz, .slice (some ⟨hx, 0, none⟩) 1 cx, .int .u64 (s : Nat)] w fun e w' =>
      e = .returned (.slice (some ⟨w.heap.size, 0, none⟩) 1 6) ∧ (∃ cs', WB w' w.heap.size cs' ∧ cs'[0]? = some (.int .u64 (v : Nat)) ∧ cs'.size = 6) ∧ Below w.heap.size w w' ∧ w'.heap.size = w.heap.size + 1 := by
  have k0 : ((s : Int) == 0) = false := decide_eq_false (by omega)
  have k1 : (s : Int) / 64 = 0 := by omega
  have k2 : (s : Int) % 64 = s := by omega
  have k1' : (s : Int).tdiv 64 = 0 := by rw [Int.tdiv_eq_ediv_of_nonneg (by omega)]; omega
  have k2' : (s : Int).tmod 64 = s := by rw [Int.tmod_eq_emod_of_nonneg (by omega)]; omega
  have M := make_new Az lz 2 cz hcz (by omega) (by omega) w
  obtain ⟨h, eh⟩ : ∃ h, h = w.heap.size := ⟨_, rfl⟩
  obtain ⟨cs, ecs⟩ : ∃ cs, cs = zw 6 := ⟨_, rfl⟩
  obtain ⟨W0, eW0⟩ : ∃ W0, W0 = w.alloc (.cells cs 62) := ⟨_, rfl⟩
  rw [show zw (2 + 4) = cs from ecs.symm, ← eW0, ← eh] at M
  rw [← eh]
  have hb : W0.heap[h]? = some (.cells cs 62 (0, 0)) := by rw [eW0, eh]; exact heap_alloc_new w _
  have hxl : hx < w.heap.size := lt_of_block hbx
  have hbx' : W0.heap[hx]? = some (.cells cx0 62 (0, 0)) := by rw [eW0]; exact (Below.heap_alloc w _ hx hxl).trans hbx
  have cx1 := (cell_of_block hbx' 0).trans h0x
  have hsz : cs.size = 6 := by rw [ecs]; unfold zw; simp [madeCells, Value.cells]
  have hz0 : cs[0]? = some (.int .u64 0) := by rw [ecs]; exact zw_at (by decide)
  have c0 := (cell_of_block hb 0).trans hz0
  have f0 := free_of_block hb 0
  have L := lshVU1 ⟨h, 0, none⟩ ⟨hx, 0, none⟩ 6 cx x s v W0 cx1 ⟨_, c0⟩ f0 hs1 hs2 hv hv2 (by omega) (by omega)
  have T := lshVU_enters
  have CL := clear_none
  obtain ⟨u1, hu1⟩ : ∃ u, cs[1]? = some u := ⟨_, Array.getElem?_eq_getElem (by omega)⟩
  obtain ⟨W1, eW1⟩ : ∃ W1, W1 = W0.setCell ⟨h, 0, none⟩ (.int .u64 (v : Nat)) := ⟨_, rfl⟩
  have hb1 : W1.heap[h]? = some (.cells (cs.setIfInBounds 0 (.int .u64 (v : Nat))) 62 (0, 0)) := by rw [eW1]; exact block_setCell hb 0 _
  have hS := set01 cs (.int .u64 (v : Nat)) (.int .u64 0) (by omega)
  have c1 : W1.cell? ⟨h, 1, none⟩ = some u1 := (cell_of_block hb1 1).trans (hS.2.2.1.trans hu1)
  have f1 := free_of_block hb1 1
  rw [← eW1] at L
  obtain ⟨W2, eW2⟩ : ∃ W2, W2 = W1.setCell ⟨h, 1, none⟩ (.int .u64 0) := ⟨_, rfl⟩
  have hb2 : W2.heap[h]? = some (.cells ((cs.setIfInBounds 0 (.int .u64 (v : Nat))).setIfInBounds 1 (.int .u64 0)) 62 (0, 0)) := by rw [eW2]; exact block_setCell hb1 1 _
  have hO : Only h W0 W2 := by rw [eW2, eW1]; exact ((Only.refl h W0).setCell rfl _).setCell rfl _
  have N := norm_ok (some ⟨h, 0, none⟩) 2 1 6 (by decide) (by omega) W2 (by omega)
    (fun i h1 h2 => ⟨h, rfl, by rw [show i = 1 from by omega]; exact (cell_of_block hb2 1).trans hS.2.1⟩)
    (Or.inr ⟨h, v, rfl, (cell_of_block hb2 0).trans hS.1, hv1⟩)
  have hcs : (((cs.setIfInBounds 0 (.int .u64 (v : Nat))).setIfInBounds 1 (.int .u64 0)))[0]? = some (.int .u64 (v : Nat)) := hS.1
  have hcz2 : ((cs.setIfInBounds 0 (.int .u64 (v : Nat))).setIfInBounds 1 (.int .u64 0)).size = 6 := hS.2.2.2.trans hsz
  have hB : Below h w W2 := by
    rw [eh]
    have a1 : Below w.heap.size w W0 := by rw [eW0]; exact (Below.refl _ _).alloc (Nat.le_refl _) _
    exact a1.trans (hO.below (by omega))
  have hN : W2.heap.size = h + 1 := by rw [hO.size, eW0, eh]; simp
  have HB := Lib.hid (And.intro hB hN); clear hB hN
  have HE := Lib.hid (And.intro hb2 (And.intro hcs (And.intro hcz2 hO))); clear hb2 hcs hcz2 hO hb1 hu1 hS hbx hbx' h0x hz0
  have HW := Lib.hid eW2; clear eW2 eW1
  have HX := Lib.hid (And.intro ecs (And.intro eW0 (And.intro eh hxl))); clear ecs eW0 eh hxl hb hsz hv hv1 hv2
  go_enter Tryz.func39, Tryz.ntmps39
  go_wp2_with fail
  refine M.mono ?_
  rintro e w1 ⟨rfl, rfl⟩
  go_wp2_with fail
  refine L.mono ?_
  rintro e w1 ⟨rfl, rfl⟩
  go_wp2_with fail
  rw [← HW.out]
  refine N.mono ?_
  rintro e w2 ⟨rfl, rfl⟩
  go_wp2_with fail
  go_ret
  exact ⟨rfl, ⟨_, HE.out.1, HE.out.2.1, HE.out.2.2.1⟩, HB.out.1, HB.out.2⟩
end Go.Proofs.YtabgeonlodmpiaaGreatDoor
