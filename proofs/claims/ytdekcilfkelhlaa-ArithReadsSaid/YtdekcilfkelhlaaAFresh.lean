/- fresh. -/
import Derived.Test.YtdekcilfkelhlaaAGet
import Derived.Test.YtdekcilfkelhlaaABad
set_option linter.unusedVariables false
namespace Go.Proofs.Ytdekcilfkelhlaa
open Go.RowKit

def ext {α : Type} (f : Nat → α) (k : Nat) (x : α) : Nat → α := fun i => if i = k then x else f i
theorem ext_at {α : Type} (f : Nat → α) (k : Nat) (x : α) : ext f k x k = x := if_pos rfl
theorem ext_far {α : Type} {f : Nat → α} {i k : Nat} {x : α} (h : i ≠ k) : ext f k x i = f i := if_neg h
section
variable {K : Nat} {bm g : Nat → Nat} {nums : List (Nat × Nat)} {fr : Bun} {w w' w0 : World}
theorem KAt.below (h : KAt w K bm g nums fr) (hb : Below w.heap.size w w') : KAt w' K bm g nums fr :=
  ⟨fun j hj => (h.mod j hj).below hb, h.apart, fun p hp => ⟨(hb.block _ (lt_of_block (h.num p hp).1)).trans (h.num p hp).1, (h.num p hp).2⟩⟩
theorem KAt.more {b q : Nat} (h : KAt w K bm g nums fr) (hm : MOk w b q (fr K)) (hn : ∀ j, j < K → bm j ≠ b ∧ g j ≠ q) : KAt w (K + 1) (ext bm K b) (ext g K q) nums fr := by
  refine ⟨fun j hj => ?_, fun i j hi hj hij => ?_, fun p hp => ⟨?_, by have := (h.num p hp).2; omega⟩⟩
  · by_cases e : j = K
    · subst e; rw [ext_at, ext_at]; exact hm
    · rw [ext_far e, ext_far e]; exact h.mod j (by omega)
  · by_cases e : i = K
    · subst e
      rw [ext_at, ext_at, ext_far (show j ≠ i by omega), ext_far (show j ≠ i by omega)]
      have := hn j (by omega)
      exact ⟨fun e => this.1 e.symm, fun e => this.2 e.symm⟩
    · by_cases e2 : j = K
      · subst e2
        rw [ext_at, ext_at, ext_far e, ext_far e]
        exact hn i (by omega)
      · rw [ext_far e, ext_far e, ext_far e2, ext_far e2]
        exact h.apart i j (by omega) (by omega) hij
  · obtain ⟨h1, h2⟩ := h.num p hp
    rw [ext_far (by omega), ext_far (by omega), ext_far (by omega)]
    exact h1
theorem KAt.add {nb p : Nat} (h : KAt w K bm g nums fr) (hn : NOk w nb (bm p) (bm (p + 1)) (bm (p + 2))) (hp : p + 2 < K) : KAt w K bm g ((nb, p) :: nums) fr := by
  refine ⟨h.mod, h.apart, fun r hr => ?_⟩
  rcases List.mem_cons.1 hr with rfl | hr
  · exact ⟨hn, hp⟩
  · exact h.num r hr
/-- A set that is new since a world. -/
structure KNew (w : World) (w' : World) (K : Nat) (bm g : Nat → Nat) (nums : List (Nat × Nat)) (fr : Bun) : Prop where
  at_ : KAt w' K bm g nums fr
  new : ∀ q, q ∈ kF K bm g nums → w.heap.size ≤ q
  bel : Below w.heap.size w w'
theorem KNew.zero (w : World) (fr : Bun) : KNew w w 0 (fun _ => 0) (fun _ => 0) [] fr := ⟨⟨fun _ h => absurd h (by omega), fun _ _ h => absurd h (by omega), fun _ h => absurd h (by simp)⟩, fun _ h => absurd h (by simp [kF]), Below.refl _ _⟩
theorem KNew.below {w2 : World} (h : KNew w w' K bm g nums fr) (hb : Below w'.heap.size w' w2) : KNew w w2 K bm g nums fr := ⟨h.at_.below hb, h.new, then_ h.bel hb⟩
theorem KNew.model {w2 : World} {b q : Nat} (h : KNew w w' K bm g nums fr) (hm : MOk w2 b q (fr K)) (h1 : w'.heap.size ≤ b) (h2 : w'.heap.size ≤ q) (hb : Below w'.heap.size w' w2) : KNew w w2 (K + 1) (ext bm K b) (ext g K q) nums fr := by
  refine ⟨(h.at_.below hb).more hm (fun j hj => ?_), fun r hr => ?_, then_ h.bel hb⟩
  · have a1 := lt_of_block (h.at_.mod j hj).blk
    have a2 := lt_of_block (h.at_.mod j hj).row
    omega
  · have hs := h.bel.size
    rcases mem_kF.1 hr with ⟨j, hj, e⟩ | ⟨p, hp, rfl⟩
    · by_cases ej : j = K
      · subst ej; rw [ext_at, ext_at] at e; omega
      · rw [ext_far ej, ext_far ej] at e
        exact h.new r (mem_kF.2 (Or.inl ⟨j, by omega, e⟩))
    · exact h.new _ (mem_kF.2 (Or.inr ⟨p, hp, rfl⟩))
theorem KNew.number {w2 : World} {nb b0 g0 b1 g1 b2 g2 : Nat} (h : KNew w w' K bm g nums fr) (hn : NOk w2 nb b0 b1 b2) (m0 : MOk w2 b0 g0 (fr K)) (m1 : MOk w2 b1 g1 (fr (K + 1))) (m2 : MOk w2 b2 g2 (fr (K + 2)))
    (hd : [b0, g0, b1, g1, b2, g2, nb].Nodup) (hq : ∀ q, q ∈ [b0, g0, b1, g1, b2, g2, nb] → w'.heap.size ≤ q) (hb : Below w'.heap.size w' w2) : ∃ bm' g', (∀ j, j < K → bm' j = bm j) ∧ KNew w w2 (K + 3) bm' g' ((nb, K) :: nums) fr := by
  simp only [List.nodup_cons, List.mem_cons, List.not_mem_nil, or_false, not_or, List.nodup_nil, and_true, not_false_eq_true] at hd
  simp only [List.mem_cons, List.not_mem_nil, or_false] at hq
  have q0 := hq b0 (by simp)
  have q1 := hq g0 (by simp)
  have q2 := hq b1 (by simp)
  have q3 := hq g1 (by simp)
  have q4 := hq b2 (by simp)
  have q5 := hq g2 (by simp)
  have q6 := hq nb (by simp)
  have hs := h.bel.size
  have hlt : ∀ j, j < K → bm j < w'.heap.size ∧ g j < w'.heap.size := fun j hj => ⟨lt_of_block (h.at_.mod j hj).blk, lt_of_block (h.at_.mod j hj).row⟩
  have a1 := (h.at_.below hb).more m0 (fun j hj => by have := hlt j hj; omega)
  have a2 := a1.more m1 (fun j hj => by
    by_cases e : j = K
    · subst e; rw [ext_at, ext_at]; exact ⟨fun e => hd.1.2.1 e, fun e => hd.2.1.2.1 e⟩
    · rw [ext_far e, ext_far e]; have := hlt j (by omega); omega)
  have a3 := a2.more m2 (fun j hj => by
    by_cases e : j = K + 1
    · subst e; rw [ext_at, ext_at]; exact ⟨fun e => hd.2.2.1.2.1 e, fun e => hd.2.2.2.1.2.1 e⟩
    · rw [ext_far e, ext_far e]
      by_cases e : j = K
      · subst e; rw [ext_at, ext_at]; exact ⟨fun e => hd.1.2.2.2.1 e, fun e => hd.2.1.2.2.2.1 e⟩
      · rw [ext_far e, ext_far e]; have := hlt j (by omega); omega)
  refine ⟨_, _, ?_, a3.add ?_ (by omega), ?_, then_ h.bel hb⟩
  · intro j hj
    rw [ext_far (by omega), ext_far (by omega), ext_far (by omega)]
  · rw [ext_far (show K ≠ K + 1 + 1 by omega), ext_far (show K ≠ K + 1 by omega), ext_at, ext_far (show K + 1 ≠ K + 1 + 1 by omega), ext_at, ext_at]
    exact hn
  · intro r hr
    rcases mem_kF.1 hr with ⟨j, hj, e⟩ | ⟨p, hp, rfl⟩
    · by_cases e2 : j = K + 1 + 1
      · subst e2; rw [ext_at, ext_at] at e; omega
      · rw [ext_far e2, ext_far e2] at e
        by_cases e1 : j = K + 1
        · subst e1; rw [ext_at, ext_at] at e; omega
        · rw [ext_far e1, ext_far e1] at e
          by_cases e0 : j = K
          · subst e0; rw [ext_at, ext_at] at e; omega
          · rw [ext_far e0, ext_far e0] at e
            exact h.new r (mem_kF.2 (Or.inl ⟨j, by omega, e⟩))
    · rcases List.mem_cons.1 hp with rfl | hp
      · show w.heap.size ≤ nb; omega
      · exact h.new _ (mem_kF.2 (Or.inr ⟨p, hp, rfl⟩))
theorem Ses.kit {l : List Part} (h : Ses w0 w l) (hk : KNew w w' K bm g nums fr) : Ses w0 w' (kPart K bm g nums fr :: l) := h.new hk.bel hk.at_.part hk.new
end
/-- The sizes of the models: of two Numbers, and five others. -/
def ksz (j : Nat) : Nat := [65, 2, 2, 65, 2, 2, 1, 2, 3, 17, 256].getD j 1
def fr0 : Bun := fun j => List.replicate (ksz j) 1
theorem ksz_bd (j : Nat) : 1 ≤ ksz j ∧ ksz j ≤ 256 := by
  unfold ksz
  rcases Nat.lt_or_ge j 11 with h | h
  · have : j = 0 ∨ j = 1 ∨ j = 2 ∨ j = 3 ∨ j = 4 ∨ j = 5 ∨ j = 6 ∨ j = 7 ∨ j = 8 ∨ j = 9 ∨ j = 10 := by omega
    rcases this with rfl | rfl | rfl | rfl | rfl | rfl | rfl | rfl | rfl | rfl | rfl <;> decide
  · rw [List.getD_eq_getElem?_getD, List.getElem?_eq_none (by simpa using h)]; decide
theorem shape0 : Shape ksz fr0 := ⟨fun j => Fine.new (ksz_bd j).1 (ksz_bd j).2, fun j => by simp [fr0]⟩
def pV (b : Nat) : Value := .pointer (some ⟨b, 0, none⟩)
def bunV (bm : Nat → Nat) (n0 n1 : Nat) : Value := .agg #[pV (bm 6), pV (bm 7), pV (bm 8), pV (bm 9), pV (bm 10), pV n0, pV n1]
/-- The cells of a set in the making. -/
def outC (bm : Nat → Nat) (n0 n1 i : Nat) : Array Value := #[if 0 < i then pV (bm 6) else .pointer none, if 1 < i then pV (bm 7) else .pointer none, if 2 < i then pV (bm 8) else .pointer none, if 3 < i then pV (bm 9) else .pointer none, if 4 < i then pV (bm 10) else .pointer none, pV n0, pV n1]

theorem sizes_ok (w : World) :
    Calls Try.prog 43 #[] w fun e w' => e = .returned (.agg #[.int .i64 1, .int .i64 2, .int .i64 3, .int .i64 17, .int .i64 256]) ∧ w.alloc (.cells #[.int .i64 1, .int .i64 2, .int .i64 3, .int .i64 17, .int .i64 256] 96) = w' := by
  go_enter Try.func43, Try.ntmps43
  go_wp2_with fail
  refine bodyPost_ret (v := .agg #[.int .i64 1, .int .i64 2, .int .i64 3, .int .i64 17, .int .i64 256]) (by simp [results, Try.results43, go_sem]) rfl ?_
  exact ⟨rfl, rfl⟩

def zeroC : Array Value := #[.pointer none, .pointer none, .pointer none, .pointer none, .pointer none, .pointer none, .pointer none]
structure FRel (w wr : World) (rb ob n0 n1 i : Nat) (bm g : Nat → Nat) : Prop where
  r : wr.heap[rb]? = some (.cells zeroC 45 (0, 0))
  o : wr.heap[ob]? = some (.cells (outC bm n0 n1 i) 45 (0, 0))
  k : KNew w wr (6 + i) bm g [(n1, 3), (n0, 0)] fr0
  rl : w.heap.size ≤ rb
  ol : w.heap.size ≤ ob
  ne : rb ≠ ob
theorem KNew.store {w wr : World} {K : Nat} {bm g : Nat → Nat} {nums : List (Nat × Nat)} {fr : Bun} {ob : Nat} {cs : Array Value} (h : KNew w wr K bm g nums fr) (ho : wr.heap[ob]? = some (.cells cs 45 (0, 0))) (hb : w.heap.size ≤ ob) (i : Nat) (v : Value) : KNew w (wr.setCell ⟨ob, i, none⟩ v) K bm g nums fr := by
  have far : ∀ q, q ∈ kF K bm g nums → q ≠ ob := by
    rintro q hq rfl
    rcases mem_kF.1 hq with ⟨j, hj, rfl | rfl⟩ | ⟨p, hp, rfl⟩
    · exact block_types (h.at_.mod j hj).blk ho (by decide)
    · exact block_types (h.at_.mod j hj).row ho (by decide)
    · exact block_types (h.at_.num p hp).1 ho (by decide)
  exact ⟨h.at_.part.same _ (fun q hq => Below.heap_setCell _ _ _ _ (far q hq)) (by simp [World.setCell]), h.new, then_only h.bel (Only.setCell (b := ob) (p := ⟨ob, i, none⟩) (Only.refl _ _) rfl _) hb⟩
theorem outC_set (bm : Nat → Nat) (n0 n1 i b : Nat) (hi : i < 5) : (outC bm n0 n1 i).setIfInBounds i (pV b) = outC (ext bm (6 + i) b) n0 n1 (i + 1) := by
  have : i = 0 ∨ i = 1 ∨ i = 2 ∨ i = 3 ∨ i = 4 := by omega
  rcases this with rfl | rfl | rfl | rfl | rfl <;> rfl
theorem outC_at (bm : Nat → Nat) (n0 n1 i : Nat) (hi : i < 5) : (outC bm n0 n1 i)[i]? = some (.pointer none) := by
  have : i = 0 ∨ i = 1 ∨ i = 2 ∨ i = 3 ∨ i = 4 := by omega
  rcases this with rfl | rfl | rfl | rfl | rfl <;> rfl
theorem index_ok (i : Nat) (hi : i < 5) (w : World) : (Instr.index 96 (.agg #[.int .i64 1, .int .i64 2, .int .i64 3, .int .i64 17, .int .i64 256]) (.int .i64 (i : Nat))).run Try.prog w = .ok (.int .i64 (ksz (6 + i) : Nat)) w := by
  have x0 : (Instr.index 96 (.agg #[.int .i64 1, .int .i64 2, .int .i64 3, .int .i64 17, .int .i64 256]) (.int .i64 0)).run Try.prog w = .ok (.int .i64 1) w := by kernel_rfl
  have x1 : (Instr.index 96 (.agg #[.int .i64 1, .int .i64 2, .int .i64 3, .int .i64 17, .int .i64 256]) (.int .i64 1)).run Try.prog w = .ok (.int .i64 2) w := by kernel_rfl
  have x2 : (Instr.index 96 (.agg #[.int .i64 1, .int .i64 2, .int .i64 3, .int .i64 17, .int .i64 256]) (.int .i64 2)).run Try.prog w = .ok (.int .i64 3) w := by kernel_rfl
  have x3 : (Instr.index 96 (.agg #[.int .i64 1, .int .i64 2, .int .i64 3, .int .i64 17, .int .i64 256]) (.int .i64 3)).run Try.prog w = .ok (.int .i64 17) w := by kernel_rfl
  have x4 : (Instr.index 96 (.agg #[.int .i64 1, .int .i64 2, .int .i64 3, .int .i64 17, .int .i64 256]) (.int .i64 4)).run Try.prog w = .ok (.int .i64 256) w := by kernel_rfl
  have : i = 0 ∨ i = 1 ∨ i = 2 ∨ i = 3 ∨ i = 4 := by omega
  rcases this with rfl | rfl | rfl | rfl | rfl
  · exact x0
  · exact x1
  · exact x2
  · exact x3
  · exact x4
theorem store7_heap (w : World) (rb ob : Nat) (v0 v1 v2 v3 v4 v5 v6 : Value) (h : ob ≠ rb) : (((((((w.setCell ⟨rb, 0, none⟩ v0).setCell ⟨rb, 1, none⟩ v1).setCell ⟨rb, 2, none⟩ v2).setCell ⟨rb, 3, none⟩ v3).setCell ⟨rb, 4, none⟩ v4).setCell ⟨rb, 5, none⟩ v5).setCell ⟨rb, 6, none⟩ v6).heap[ob]? = w.heap[ob]? :=
  (Below.heap_setCell _ _ _ _ h).trans ((Below.heap_setCell _ _ _ _ h).trans ((Below.heap_setCell _ _ _ _ h).trans ((Below.heap_setCell _ _ _ _ h).trans ((Below.heap_setCell _ _ _ _ h).trans ((Below.heap_setCell _ _ _ _ h).trans ((Below.heap_setCell _ _ _ _ h)))))))
theorem store7_only (w : World) (rb : Nat) (v0 v1 v2 v3 v4 v5 v6 : Value) : Only rb w (((((((w.setCell ⟨rb, 0, none⟩ v0).setCell ⟨rb, 1, none⟩ v1).setCell ⟨rb, 2, none⟩ v2).setCell ⟨rb, 3, none⟩ v3).setCell ⟨rb, 4, none⟩ v4).setCell ⟨rb, 5, none⟩ v5).setCell ⟨rb, 6, none⟩ v6) :=
  Only.setCell (b := rb) (p := ⟨rb, 6, none⟩) (Only.setCell (b := rb) (p := ⟨rb, 5, none⟩) (Only.setCell (b := rb) (p := ⟨rb, 4, none⟩) (Only.setCell (b := rb) (p := ⟨rb, 3, none⟩) (Only.setCell (b := rb) (p := ⟨rb, 2, none⟩) (Only.setCell (b := rb) (p := ⟨rb, 1, none⟩) (Only.setCell (b := rb) (p := ⟨rb, 0, none⟩) (Only.refl rb w) rfl v0) rfl v1) rfl v2) rfl v3) rfl v4) rfl v5) rfl v6
theorem store7_block (w : World) (rb : Nat) (v0 v1 v2 v3 v4 v5 v6 : Value) (h : w.heap[rb]? = some (.cells zeroC 45 (0, 0))) : (((((((w.setCell ⟨rb, 0, none⟩ v0).setCell ⟨rb, 1, none⟩ v1).setCell ⟨rb, 2, none⟩ v2).setCell ⟨rb, 3, none⟩ v3).setCell ⟨rb, 4, none⟩ v4).setCell ⟨rb, 5, none⟩ v5).setCell ⟨rb, 6, none⟩ v6).heap[rb]? = some (.cells #[v0, v1, v2, v3, v4, v5, v6] 45 (0, 0)) :=
  (block_setCell (block_setCell (block_setCell (block_setCell (block_setCell (block_setCell (block_setCell (h) 0 v0) 1 v1) 2 v2) 3 v3) 4 v4) 5 v5) 6 v6).trans rfl
theorem row7_cells (y : World) (rb : Nat) (v0 v1 v2 v3 v4 v5 v6 : Value) (h : y.heap[rb]? = some (.cells #[v0, v1, v2, v3, v4, v5, v6] 45 (0, 0))) : y.drew.cell? ⟨rb, 0, none⟩ = some v0 ∧ y.drew.cell? ⟨rb, 1, none⟩ = some v1 ∧ y.drew.cell? ⟨rb, 2, none⟩ = some v2 ∧ y.drew.cell? ⟨rb, 3, none⟩ = some v3 ∧ y.drew.cell? ⟨rb, 4, none⟩ = some v4 ∧ y.drew.cell? ⟨rb, 5, none⟩ = some v5 ∧ y.drew.cell? ⟨rb, 6, none⟩ = some v6 := by
  have hz : y.drew.heap[rb]? = some (.cells #[v0, v1, v2, v3, v4, v5, v6] 45 (0, 0)) := h
  exact ⟨(cell_of_block hz 0).trans rfl, (cell_of_block hz 1).trans rfl, (cell_of_block hz 2).trans rfl, (cell_of_block hz 3).trans rfl, (cell_of_block hz 4).trans rfl, (cell_of_block hz 5).trans rfl, (cell_of_block hz 6).trans rfl⟩
theorem store7_cells (w : World) (rb : Nat) (v0 v1 v2 v3 v4 v5 v6 : Value) (h : w.heap[rb]? = some (.cells zeroC 45 (0, 0))) : (((((((w.setCell ⟨rb, 0, none⟩ v0).setCell ⟨rb, 1, none⟩ v1).setCell ⟨rb, 2, none⟩ v2).setCell ⟨rb, 3, none⟩ v3).setCell ⟨rb, 4, none⟩ v4).setCell ⟨rb, 5, none⟩ v5).setCell ⟨rb, 6, none⟩ v6).drew.cell? ⟨rb, 0, none⟩ = some v0 ∧ (((((((w.setCell ⟨rb, 0, none⟩ v0).setCell ⟨rb, 1, none⟩ v1).setCell ⟨rb, 2, none⟩ v2).setCell ⟨rb, 3, none⟩ v3).setCell ⟨rb, 4, none⟩ v4).setCell ⟨rb, 5, none⟩ v5).setCell ⟨rb, 6, none⟩ v6).drew.cell? ⟨rb, 1, none⟩ = some v1 ∧ (((((((w.setCell ⟨rb, 0, none⟩ v0).setCell ⟨rb, 1, none⟩ v1).setCell ⟨rb, 2, none⟩ v2).setCell ⟨rb, 3, none⟩ v3).setCell ⟨rb, 4, none⟩ v4).setCell ⟨rb, 5, none⟩ v5).setCell ⟨rb, 6, none⟩ v6).drew.cell? ⟨rb, 2, none⟩ = some v2 ∧ (((((((w.setCell ⟨rb, 0, none⟩ v0).setCell ⟨rb, 1, none⟩ v1).setCell ⟨rb, 2, none⟩ v2).setCell ⟨rb, 3, none⟩ v3).setCell ⟨rb, 4, none⟩ v4).setCell ⟨rb, 5, none⟩ v5).setCell ⟨rb, 6, none⟩ v6).drew.cell? ⟨rb, 3, none⟩ = some v3 ∧ (((((((w.setCell ⟨rb, 0, none⟩ v0).setCell ⟨rb, 1, none⟩ v1).setCell ⟨rb, 2, none⟩ v2).setCell ⟨rb, 3, none⟩ v3).setCell ⟨rb, 4, none⟩ v4).setCell ⟨rb, 5, none⟩ v5).setCell ⟨rb, 6, none⟩ v6).drew.cell? ⟨rb, 4, none⟩ = some v4 ∧ (((((((w.setCell ⟨rb, 0, none⟩ v0).setCell ⟨rb, 1, none⟩ v1).setCell ⟨rb, 2, none⟩ v2).setCell ⟨rb, 3, none⟩ v3).setCell ⟨rb, 4, none⟩ v4).setCell ⟨rb, 5, none⟩ v5).setCell ⟨rb, 6, none⟩ v6).drew.cell? ⟨rb, 5, none⟩ = some v5 ∧ (((((((w.setCell ⟨rb, 0, none⟩ v0).setCell ⟨rb, 1, none⟩ v1).setCell ⟨rb, 2, none⟩ v2).setCell ⟨rb, 3, none⟩ v3).setCell ⟨rb, 4, none⟩ v4).setCell ⟨rb, 5, none⟩ v5).setCell ⟨rb, 6, none⟩ v6).drew.cell? ⟨rb, 6, none⟩ = some v6 :=
  row7_cells _ rb v0 v1 v2 v3 v4 v5 v6 (store7_block w rb v0 v1 v2 v3 v4 v5 v6 h)
theorem KNew.only {w wr w2 : World} {K : Nat} {bm g : Nat → Nat} {nums : List (Nat × Nat)} {fr : Bun} {ob : Nat} {cs : Array Value} (h : KNew w wr K bm g nums fr) (ho : wr.heap[ob]? = some (.cells cs 45 (0, 0))) (hb : w.heap.size ≤ ob) (k : Only ob wr w2) : KNew w w2 K bm g nums fr := by
  have far : ∀ q, q ∈ kF K bm g nums → q ≠ ob := by
    rintro q hq rfl
    rcases mem_kF.1 hq with ⟨j, hj, rfl | rfl⟩ | ⟨p, hp, rfl⟩
    · exact block_types (h.at_.mod j hj).blk ho (by decide)
    · exact block_types (h.at_.mod j hj).row ho (by decide)
    · exact block_types (h.at_.num p hp).1 ho (by decide)
  exact ⟨h.at_.part.same _ (fun q hq => k.block q (far q hq)) (by rw [k.size]; exact Nat.le_refl _), h.new, then_only h.bel k hb⟩
set_option maxRecDepth 100000 in
set_option maxHeartbeats 2000000 in
theorem fresh_ok (w : World) :
    Calls Try.prog 17 #[] w fun e w' => ∃ bm g n0 n1, e = .returned (.tuple #[bunV bm n0 n1, .bool true]) ∧ KNew w w' 11 bm g [(n1, 3), (n0, 0)] fr0 := by
  go_enter Try.func17, Try.ntmps17
  go_wp2_with fail
  refine (NewNumber_ok _).mono ?_
  rintro e w1 ⟨n0, b0, g0, b1, g1, b2, g2, rfl, hn, m0, m1, m2, hd, hq, hb⟩
  have k0 : KNew w (w.alloc (.cells #[.pointer none, .pointer none, .pointer none, .pointer none, .pointer none, .pointer none, .pointer none] 45)) 0 (fun _ => 0) (fun _ => 0) [] fr0 := (KNew.zero w fr0).below ((Below.refl _ _).alloc (Nat.le_refl _) _)
  have hr1 : w1.heap[w.heap.size]? = some (.cells #[.pointer none, .pointer none, .pointer none, .pointer none, .pointer none, .pointer none, .pointer none] 45 (0, 0)) := (hb.block _ (by simp)).trans (heap_alloc_new w _)
  obtain ⟨bm, g, _, k1⟩ := k0.number hn m0 m1 m2 hd hq hb
  clear hn m0 m1 m2 hd hq hb k0
  have H1 := Lib.hid (And.intro hr1 k1); clear hr1 k1
  go_wp2_with fail
  refine (NewNumber_ok _).mono ?_
  rintro e w2 ⟨n1, b0, g0, b1, g1, b2, g2, rfl, hn, m0, m1, m2, hd, hq, hb⟩
  have hr2 : w2.heap[w.heap.size]? = some (.cells #[.pointer none, .pointer none, .pointer none, .pointer none, .pointer none, .pointer none, .pointer none] 45 (0, 0)) := (hb.block _ (lt_of_block H1.out.1)).trans H1.out.1
  obtain ⟨bm, g, _, k2⟩ := H1.out.2.number hn m0 m1 m2 hd hq hb
  clear hn m0 m1 m2 hd hq hb
  have H2 := Lib.hid (And.intro hr2 k2); clear hr2 k2 H1
  have k3 := (H2.out.2.below ((Below.refl _ _).alloc (Nat.le_refl _) (.cells #[.pointer none, .pointer none, .pointer none, .pointer none, .pointer none, .pointer (some ⟨n0, 0, none⟩), .pointer (some ⟨n1, 0, none⟩)] 45))).below ((Below.refl _ _).alloc (Nat.le_refl _) (.cells #[.int .i64 1, .int .i64 2, .int .i64 3, .int .i64 17, .int .i64 256] 96))
  have hF : FRel w ((w2.alloc (.cells #[.pointer none, .pointer none, .pointer none, .pointer none, .pointer none, .pointer (some ⟨n0, 0, none⟩), .pointer (some ⟨n1, 0, none⟩)] 45)).alloc (.cells #[.int .i64 1, .int .i64 2, .int .i64 3, .int .i64 17, .int .i64 256] 96)) w.heap.size w2.heap.size n0 n1 0 bm g := by
    have hlt := lt_of_block H2.out.1
    refine ⟨?_, ?_, k3, Nat.le_refl _, H2.out.2.bel.size, by omega⟩
    · exact (Below.block ((Below.refl _ _).alloc (Nat.le_refl _) _) _ (by simp; omega)).trans ((Below.block ((Below.refl _ _).alloc (Nat.le_refl _) _) _ hlt).trans H2.out.1)
    · exact (Below.block ((Below.refl _ _).alloc (Nat.le_refl _) _) _ (by simp)).trans (heap_alloc_new w2 _)
  have HF := Lib.hid hF; clear hF k3
  go_wp2_with fail
  refine (sizes_ok _).mono ?_
  rintro e w4 ⟨rfl, rfl⟩
  go_wp2_with fail
  go_loopg [12] 5 (fun gh iv wr => ∃ (i : Nat) (bm g : Nat → Nat), gh = 5 - i ∧ i ≤ 5 ∧ iv = .int .i64 (i : Nat) ∧ FRel w wr w.heap.size w2.heap.size n0 n1 i bm g)
  case atStart => exact ⟨0, bm, g, rfl, by omega, rfl, HF.out⟩
  case round =>
    obtain ⟨i, bm, g, hgh, hi, rfl, hR⟩ := hrel
    have Hgh := Lib.hid hgh; clear hgh
    have HR := Lib.hid hR; clear hR HF H2
    by_cases hlt : i < 5
    · have hix := index_ok i hlt
      have hsz := ksz_bd (6 + i)
      obtain ⟨nn, en⟩ : ∃ n, n = ksz (6 + i) := ⟨_, rfl⟩
      rw [← en] at hix hsz
      have HN := Lib.hid en; clear en
      go_wp2_with fail
      refine (NewModel_ok nn wr hsz.1 hsz.2).mono ?_
      rintro e w5 ⟨b, q, rfl, hm, p1, p2, hb⟩
      rw [HN.out] at hm
      have ho5 := (hb.block _ (lt_of_block HR.out.o)).trans HR.out.o
      have hr5 := (hb.block _ (lt_of_block HR.out.r)).trans HR.out.r
      have k5 := HR.out.k.model hm p1 p2 hb
      have c5 := (cell_of_block ho5 i).trans (outC_at bm n0 n1 i hlt)
      have f5 := free_of_block ho5 i
      have H5 := Lib.hid (And.intro ho5 (And.intro hr5 k5)); clear ho5 hr5 k5 hm p1 p2 hb
      go_wp2_with fail
      go_roundg (5 - (i + 1))
      case measure => have := Hgh.out; omega
      case rel =>
        refine ⟨i + 1, ext bm (6 + i) b, ext g (6 + i) q, rfl, by omega, by go_num, ?_⟩
        refine ⟨?_, ?_, H5.out.2.2.store H5.out.1 HR.out.ol i _, HR.out.rl, HR.out.ol, HR.out.ne⟩
        · exact (Below.heap_setCell _ _ _ _ HR.out.ne).trans H5.out.2.1
        · rw [← outC_set bm n0 n1 i b hlt]
          exact block_setCell H5.out.1 i _
    · obtain rfl : i = 5 := by omega
      clear hlt hi
      have ho : wr.drew.heap[w2.heap.size]? = some (.cells (outC bm n0 n1 5) 45 (0, 0)) := HR.out.o
      have hr : wr.drew.heap[w.heap.size]? = some (.cells zeroC 45 (0, 0)) := HR.out.r
      obtain ⟨ob, eob⟩ : ∃ o, o = w2.heap.size := ⟨_, rfl⟩
      obtain ⟨rb, erb⟩ : ∃ o, o = w.heap.size := ⟨_, rfl⟩
      rw [← eob] at ho ⊢
      rw [← erb] at hr ⊢
      have c0 : wr.drew.cell? ⟨ob, 0, none⟩ = some (.pointer (some ⟨bm 6, 0, none⟩)) := (cell_of_block ho 0).trans rfl
      have c1 : wr.drew.cell? ⟨ob, 1, none⟩ = some (.pointer (some ⟨bm 7, 0, none⟩)) := (cell_of_block ho 1).trans rfl
      have c2 : wr.drew.cell? ⟨ob, 2, none⟩ = some (.pointer (some ⟨bm 8, 0, none⟩)) := (cell_of_block ho 2).trans rfl
      have c3 : wr.drew.cell? ⟨ob, 3, none⟩ = some (.pointer (some ⟨bm 9, 0, none⟩)) := (cell_of_block ho 3).trans rfl
      have c4 : wr.drew.cell? ⟨ob, 4, none⟩ = some (.pointer (some ⟨bm 10, 0, none⟩)) := (cell_of_block ho 4).trans rfl
      have c5 : wr.drew.cell? ⟨ob, 5, none⟩ = some (.pointer (some ⟨n0, 0, none⟩)) := (cell_of_block ho 5).trans rfl
      have c6 : wr.drew.cell? ⟨ob, 6, none⟩ = some (.pointer (some ⟨n1, 0, none⟩)) := (cell_of_block ho 6).trans rfl
      have r0 : wr.drew.cell? ⟨rb, 0, none⟩ = some (.pointer none) := (cell_of_block hr 0).trans rfl
      have r1 : wr.drew.cell? ⟨rb, 1, none⟩ = some (.pointer none) := (cell_of_block hr 1).trans rfl
      have r2 : wr.drew.cell? ⟨rb, 2, none⟩ = some (.pointer none) := (cell_of_block hr 2).trans rfl
      have r3 : wr.drew.cell? ⟨rb, 3, none⟩ = some (.pointer none) := (cell_of_block hr 3).trans rfl
      have r4 : wr.drew.cell? ⟨rb, 4, none⟩ = some (.pointer none) := (cell_of_block hr 4).trans rfl
      have r5 : wr.drew.cell? ⟨rb, 5, none⟩ = some (.pointer none) := (cell_of_block hr 5).trans rfl
      have r6 : wr.drew.cell? ⟨rb, 6, none⟩ = some (.pointer none) := (cell_of_block hr 6).trans rfl
      have f0 := free_of_block hr 0
      have f1 := free_of_block hr 1
      have f2 := free_of_block hr 2
      have f3 := free_of_block hr 3
      have f4 := free_of_block hr 4
      have f5 := free_of_block hr 5
      have f6 := free_of_block hr 6
      have hr' : wr.heap[rb]? = some (.cells zeroC 45 (0, 0)) := hr
      have s0 : wr.cell? ⟨rb, 0, none⟩ = some (.pointer none) := (cell_of_block hr' 0).trans rfl
      have s1 : wr.cell? ⟨rb, 1, none⟩ = some (.pointer none) := (cell_of_block hr' 1).trans rfl
      have s2 : wr.cell? ⟨rb, 2, none⟩ = some (.pointer none) := (cell_of_block hr' 2).trans rfl
      have s3 : wr.cell? ⟨rb, 3, none⟩ = some (.pointer none) := (cell_of_block hr' 3).trans rfl
      have s4 : wr.cell? ⟨rb, 4, none⟩ = some (.pointer none) := (cell_of_block hr' 4).trans rfl
      have s5 : wr.cell? ⟨rb, 5, none⟩ = some (.pointer none) := (cell_of_block hr' 5).trans rfl
      have s6 : wr.cell? ⟨rb, 6, none⟩ = some (.pointer none) := (cell_of_block hr' 6).trans rfl
      have h0 := free_of_block hr' 0
      have h1 := free_of_block hr' 1
      have h2 := free_of_block hr' 2
      have h3 := free_of_block hr' 3
      have h4 := free_of_block hr' 4
      have h5 := free_of_block hr' 5
      have h6 := free_of_block hr' 6
      have hne : ob ≠ rb := by rw [eob, erb]; exact HR.out.ne.symm
      have g6 : (((((((wr.setCell ⟨rb, 0, none⟩ (.pointer (some ⟨bm 6, 0, none⟩))).setCell ⟨rb, 1, none⟩ (.pointer (some ⟨bm 7, 0, none⟩))).setCell ⟨rb, 2, none⟩ (.pointer (some ⟨bm 8, 0, none⟩))).setCell ⟨rb, 3, none⟩ (.pointer (some ⟨bm 9, 0, none⟩))).setCell ⟨rb, 4, none⟩ (.pointer (some ⟨bm 10, 0, none⟩))).setCell ⟨rb, 5, none⟩ (.pointer (some ⟨n0, 0, none⟩))).setCell ⟨rb, 6, none⟩ (.pointer (some ⟨n1, 0, none⟩))).cell? ⟨ob, 6, none⟩ = some (.pointer (some ⟨n1, 0, none⟩)) := (cell_of_block ((store7_heap wr rb ob _ _ _ _ _ _ _ hne).trans ho) 6).trans rfl
      obtain ⟨z0, z1, z2, z3, z4, z5, z6⟩ := store7_cells wr rb (.pointer (some ⟨bm 6, 0, none⟩)) (.pointer (some ⟨bm 7, 0, none⟩)) (.pointer (some ⟨bm 8, 0, none⟩)) (.pointer (some ⟨bm 9, 0, none⟩)) (.pointer (some ⟨bm 10, 0, none⟩)) (.pointer (some ⟨n0, 0, none⟩)) (.pointer (some ⟨n1, 0, none⟩)) hr'
      have hk := HR.out.k.only hr' (by rw [erb]; exact Nat.le_refl _) (Only.drew (store7_only wr rb (.pointer (some ⟨bm 6, 0, none⟩)) (.pointer (some ⟨bm 7, 0, none⟩)) (.pointer (some ⟨bm 8, 0, none⟩)) (.pointer (some ⟨bm 9, 0, none⟩)) (.pointer (some ⟨bm 10, 0, none⟩)) (.pointer (some ⟨n0, 0, none⟩)) (.pointer (some ⟨n1, 0, none⟩))))
      have HKN := Lib.hid hk
      clear hr' hne hk
      have HO := Lib.hid (And.intro ho (And.intro hr (And.intro eob erb))); clear ho hr eob erb
      go_wp2_with fail
      go_region
      all_goals
        go_wp2_with fail
        refine bodyPost_ret (v := .tuple #[bunV bm n0 n1, .bool true]) (by simp [results, Try.results17, go_sem, bunV, pV, z0, z1, z2, z3, z4, z5, z6]) rfl ?_
        exact ⟨bm, g, n0, n1, rfl, HKN.out⟩
end Go.Proofs.Ytdekcilfkelhlaa
