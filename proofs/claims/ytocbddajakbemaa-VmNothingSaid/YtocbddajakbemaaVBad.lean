/- vm: no run. -/
import Derived.Test.YtocbddajakbemaaMV
set_option linter.unusedVariables false
namespace Go.Proofs.Ytocbddajakbemaa
open Go.RowKit

set_option maxRecDepth 100000 in
set_option maxHeartbeats 4000000 in
theorem Run_bad (cA : Option Addr) (cn cc : Nat) (L R Wr ID : Int) (A : Option Addr) (n cap : Nat) (seed tick key f : Int) (b : Bool) (w : World) (hbf : b = false ∨ f < 0 ∨ 10000 < f)
    (HS : ∀ w', Below w.heap.size w w' → Calls Try.prog 20 #[.agg #[.slice cA cn cc, .int .i64 L, .int .u32 R, .int .u32 Wr]] w' fun e w'' => e = .returned (.bool b) ∧ Below w'.heap.size w' w'') :
    Calls Try.prog 10 #[.agg #[.slice cA cn cc, .int .i64 L, .int .u32 R, .int .u32 Wr], .agg #[.int .i64 ID, .slice A n cap], .agg #[.int .u64 seed, .int .i64 tick, .int .u64 key], .int .i64 f] w
      fun e w' => e = .returned (.tuple #[.agg #[.int .i64 0, .slice none 0 0], .int .i64 0, .int .i64 2]) ∧ Below w.heap.size w w' := by
  obtain ⟨g, eg⟩ : ∃ g, g = w.heap.size := ⟨_, rfl⟩
  obtain ⟨w1, e1⟩ : ∃ w1, w1 = ((((w.alloc (.cells #[.slice cA cn cc, .int .i64 L, .int .u32 R, .int .u32 Wr] 27 (0, 0))).alloc (.cells #[.int .i64 ID, .slice A n cap] 30 (0, 0))).alloc (.cells #[.int .u64 seed, .int .i64 tick, .int .u64 key] 33 (0, 0))).alloc (.cells #[.int .i64 0, .slice none 0 0] 30 (0, 0))) := ⟨_, rfl⟩
  have hb1 : Below g w w1 := by rw [e1, eg]; exact ((((Below.refl _ _).alloc (Nat.le_refl _) _).alloc (by simp) _).alloc (by simp; omega) _).alloc (by simp; omega) _
  have kr : w1.heap[g + 3]? = some (.cells #[.int .i64 0, .slice none 0 0] 30 (0, 0)) := by
    rw [e1, eg]
    have := heap_alloc_new (((w.alloc (.cells #[.slice cA cn cc, .int .i64 L, .int .u32 R, .int .u32 Wr] 27 (0, 0))).alloc (.cells #[.int .i64 ID, .slice A n cap] 30 (0, 0))).alloc (.cells #[.int .u64 seed, .int .i64 tick, .int .u64 key] 33 (0, 0))) (.cells #[.int .i64 0, .slice none 0 0] 30 (0, 0))
    simpa using this
  have kp : w1.heap[g]? = some (.cells #[.slice cA cn cc, .int .i64 L, .int .u32 R, .int .u32 Wr] 27 (0, 0)) := by
    rw [e1, eg]
    refine (Below.heap_alloc _ _ _ (by simp only [World.size_alloc]; omega)).trans ((Below.heap_alloc _ _ _ (by simp only [World.size_alloc]; omega)).trans (heap_alloc_fst w _ _))
  obtain ⟨a0, a1, a2, a3⟩ := prog_cells kp
  have SD := HS w1 (by rw [← eg]; exact hb1)
  have H := Lib.hid (And.intro hb1 (And.intro kr eg))
  clear hb1 kr kp HS
  have FIN : ∀ w2 : World, Below w1.heap.size w1 w2 → w2.heap[g + 1 + 1 + 1]? = some (.cells #[.int .i64 0, .slice none 0 0] 30 (0, 0)) := fun w2 hb => (hb.block _ (lt_of_block H.out.2.1)).trans H.out.2.1
  have HF := Lib.hid FIN
  clear FIN
  rcases b with _ | _
  · clear hbf
    go_enter Try.func10, Try.ntmps10
    go_upto_region 1 with fail
    rw [← e1, ← eg]
    clear e1 eg
    go_wp2_with (go_at_call 20; refine SD.mono ?_; rintro e w2 ⟨rfl, hb2⟩; have H2 := Lib.hid hb2; obtain ⟨r0, r1, z0, z1⟩ := ent_cells (HF.out w2 hb2); clear hb2)
    refine bodyPost_ret (ret_ent3 rfl _ _ (g + 1 + 1 + 1) _ _ rfl (block_setCell (block_setCell (HF.out w2 H2.out) 0 _) 1 _)) rfl ?_
    refine ⟨rfl, ?_⟩
    have eg := H.out.2.2
    rw [← eg]
    exact ((H.out.1.trans (H2.out.mono (by have := H.out.1.size; omega))).setCell (by simp; omega) _).setCell (by simp; omega) _
  by_cases h0 : f < 0
  · have d0 : decide (f < 0) = true := decide_eq_true h0
    clear hbf h0
    go_enter Try.func10, Try.ntmps10
    go_upto_region 1 with fail
    rw [← e1, ← eg]
    clear e1 eg
    go_wp2_with (go_at_call 20; refine SD.mono ?_; rintro e w2 ⟨rfl, hb2⟩; have H2 := Lib.hid hb2; obtain ⟨r0, r1, z0, z1⟩ := ent_cells (HF.out w2 hb2); clear hb2)
    refine bodyPost_ret (ret_ent3 rfl _ _ (g + 1 + 1 + 1) _ _ rfl (block_setCell (block_setCell (HF.out w2 H2.out) 0 _) 1 _)) rfl ?_
    refine ⟨rfl, ?_⟩
    have eg := H.out.2.2
    rw [← eg]
    exact ((H.out.1.trans (H2.out.mono (by have := H.out.1.size; omega))).setCell (by simp; omega) _).setCell (by simp; omega) _
  · have d0 : decide (f < 0) = false := decide_eq_false h0
    have d1 : decide (10000 < f) = true := decide_eq_true (by rcases hbf with h | h | h; cases h; exact absurd h h0; exact h)
    clear hbf h0
    go_enter Try.func10, Try.ntmps10
    go_upto_region 1 with fail
    rw [← e1, ← eg]
    clear e1 eg
    go_wp2_with (go_at_call 20; refine SD.mono ?_; rintro e w2 ⟨rfl, hb2⟩; have H2 := Lib.hid hb2; obtain ⟨r0, r1, z0, z1⟩ := ent_cells (HF.out w2 hb2); clear hb2)
    refine bodyPost_ret (ret_ent3 rfl _ _ (g + 1 + 1 + 1) _ _ rfl (block_setCell (block_setCell (HF.out w2 H2.out) 0 _) 1 _)) rfl ?_
    refine ⟨rfl, ?_⟩
    have eg := H.out.2.2
    rw [← eg]
    exact ((H.out.1.trans (H2.out.mono (by have := H.out.1.size; omega))).setCell (by simp; omega) _).setCell (by simp; omega) _
end Go.Proofs.Ytocbddajakbemaa
