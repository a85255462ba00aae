/- The reference: the models at the beginning. -/
import Derived.Test.YtdekcilfkelhlaaARefE
set_option linter.unusedVariables false
namespace Go.Proofs.Ytdekcilfkelhlaa
open Go.RowKit

/-- Eleven cells of a block are stored anew. -/
def put11 (w : World) (b : Nat) (v0 v1 v2 v3 v4 v5 v6 v7 v8 v9 v10 : Value) : World := ((((((((((w.setCell ⟨b, 0, none⟩ v0).setCell ⟨b, 1, none⟩ v1).setCell ⟨b, 2, none⟩ v2).setCell ⟨b, 3, none⟩ v3).setCell ⟨b, 4, none⟩ v4).setCell ⟨b, 5, none⟩ v5).setCell ⟨b, 6, none⟩ v6).setCell ⟨b, 7, none⟩ v7).setCell ⟨b, 8, none⟩ v8).setCell ⟨b, 9, none⟩ v9).setCell ⟨b, 10, none⟩ v10
section
variable {w : World} {b : Nat} {u0 u1 u2 u3 u4 u5 u6 u7 u8 u9 u10 v0 v1 v2 v3 v4 v5 v6 v7 v8 v9 v10 : Value} {T : TypeId}
theorem put11_blk (h : w.heap[b]? = some (.cells #[u0, u1, u2, u3, u4, u5, u6, u7, u8, u9, u10] T (0, 0))) : (put11 w b v0 v1 v2 v3 v4 v5 v6 v7 v8 v9 v10).heap[b]? = some (.cells #[v0, v1, v2, v3, v4, v5, v6, v7, v8, v9, v10] T (0, 0)) := by
  have h0 : (w.setCell ⟨b, 0, none⟩ v0).heap[b]? = some (.cells #[v0, u1, u2, u3, u4, u5, u6, u7, u8, u9, u10] T (0, 0)) := block_setCell h 0 v0
  have h1 : ((w.setCell ⟨b, 0, none⟩ v0).setCell ⟨b, 1, none⟩ v1).heap[b]? = some (.cells #[v0, v1, u2, u3, u4, u5, u6, u7, u8, u9, u10] T (0, 0)) := block_setCell h0 1 v1
  have h2 : (((w.setCell ⟨b, 0, none⟩ v0).setCell ⟨b, 1, none⟩ v1).setCell ⟨b, 2, none⟩ v2).heap[b]? = some (.cells #[v0, v1, v2, u3, u4, u5, u6, u7, u8, u9, u10] T (0, 0)) := block_setCell h1 2 v2
  have h3 : ((((w.setCell ⟨b, 0, none⟩ v0).setCell ⟨b, 1, none⟩ v1).setCell ⟨b, 2, none⟩ v2).setCell ⟨b, 3, none⟩ v3).heap[b]? = some (.cells #[v0, v1, v2, v3, u4, u5, u6, u7, u8, u9, u10] T (0, 0)) := block_setCell h2 3 v3
  have h4 : (((((w.setCell ⟨b, 0, none⟩ v0).setCell ⟨b, 1, none⟩ v1).setCell ⟨b, 2, none⟩ v2).setCell ⟨b, 3, none⟩ v3).setCell ⟨b, 4, none⟩ v4).heap[b]? = some (.cells #[v0, v1, v2, v3, v4, u5, u6, u7, u8, u9, u10] T (0, 0)) := block_setCell h3 4 v4
  have h5 : ((((((w.setCell ⟨b, 0, none⟩ v0).setCell ⟨b, 1, none⟩ v1).setCell ⟨b, 2, none⟩ v2).setCell ⟨b, 3, none⟩ v3).setCell ⟨b, 4, none⟩ v4).setCell ⟨b, 5, none⟩ v5).heap[b]? = some (.cells #[v0, v1, v2, v3, v4, v5, u6, u7, u8, u9, u10] T (0, 0)) := block_setCell h4 5 v5
  have h6 : (((((((w.setCell ⟨b, 0, none⟩ v0).setCell ⟨b, 1, none⟩ v1).setCell ⟨b, 2, none⟩ v2).setCell ⟨b, 3, none⟩ v3).setCell ⟨b, 4, none⟩ v4).setCell ⟨b, 5, none⟩ v5).setCell ⟨b, 6, none⟩ v6).heap[b]? = some (.cells #[v0, v1, v2, v3, v4, v5, v6, u7, u8, u9, u10] T (0, 0)) := block_setCell h5 6 v6
  have h7 : ((((((((w.setCell ⟨b, 0, none⟩ v0).setCell ⟨b, 1, none⟩ v1).setCell ⟨b, 2, none⟩ v2).setCell ⟨b, 3, none⟩ v3).setCell ⟨b, 4, none⟩ v4).setCell ⟨b, 5, none⟩ v5).setCell ⟨b, 6, none⟩ v6).setCell ⟨b, 7, none⟩ v7).heap[b]? = some (.cells #[v0, v1, v2, v3, v4, v5, v6, v7, u8, u9, u10] T (0, 0)) := block_setCell h6 7 v7
  have h8 : (((((((((w.setCell ⟨b, 0, none⟩ v0).setCell ⟨b, 1, none⟩ v1).setCell ⟨b, 2, none⟩ v2).setCell ⟨b, 3, none⟩ v3).setCell ⟨b, 4, none⟩ v4).setCell ⟨b, 5, none⟩ v5).setCell ⟨b, 6, none⟩ v6).setCell ⟨b, 7, none⟩ v7).setCell ⟨b, 8, none⟩ v8).heap[b]? = some (.cells #[v0, v1, v2, v3, v4, v5, v6, v7, v8, u9, u10] T (0, 0)) := block_setCell h7 8 v8
  have h9 : ((((((((((w.setCell ⟨b, 0, none⟩ v0).setCell ⟨b, 1, none⟩ v1).setCell ⟨b, 2, none⟩ v2).setCell ⟨b, 3, none⟩ v3).setCell ⟨b, 4, none⟩ v4).setCell ⟨b, 5, none⟩ v5).setCell ⟨b, 6, none⟩ v6).setCell ⟨b, 7, none⟩ v7).setCell ⟨b, 8, none⟩ v8).setCell ⟨b, 9, none⟩ v9).heap[b]? = some (.cells #[v0, v1, v2, v3, v4, v5, v6, v7, v8, v9, u10] T (0, 0)) := block_setCell h8 9 v9
  have h10 : (((((((((((w.setCell ⟨b, 0, none⟩ v0).setCell ⟨b, 1, none⟩ v1).setCell ⟨b, 2, none⟩ v2).setCell ⟨b, 3, none⟩ v3).setCell ⟨b, 4, none⟩ v4).setCell ⟨b, 5, none⟩ v5).setCell ⟨b, 6, none⟩ v6).setCell ⟨b, 7, none⟩ v7).setCell ⟨b, 8, none⟩ v8).setCell ⟨b, 9, none⟩ v9).setCell ⟨b, 10, none⟩ v10).heap[b]? = some (.cells #[v0, v1, v2, v3, v4, v5, v6, v7, v8, v9, v10] T (0, 0)) := block_setCell h9 10 v10
  exact h10
theorem put11_only : Only b w (put11 w b v0 v1 v2 v3 v4 v5 v6 v7 v8 v9 v10) := Only.setCell (b := b) (p := ⟨b, 10, none⟩) (Only.setCell (b := b) (p := ⟨b, 9, none⟩) (Only.setCell (b := b) (p := ⟨b, 8, none⟩) (Only.setCell (b := b) (p := ⟨b, 7, none⟩) (Only.setCell (b := b) (p := ⟨b, 6, none⟩) (Only.setCell (b := b) (p := ⟨b, 5, none⟩) (Only.setCell (b := b) (p := ⟨b, 4, none⟩) (Only.setCell (b := b) (p := ⟨b, 3, none⟩) (Only.setCell (b := b) (p := ⟨b, 2, none⟩) (Only.setCell (b := b) (p := ⟨b, 1, none⟩) (Only.setCell (b := b) (p := ⟨b, 0, none⟩) (Only.refl b w) rfl v0) rfl v1) rfl v2) rfl v3) rfl v4) rfl v5) rfl v6) rfl v7) rfl v8) rfl v9) rfl v10
end
def nil11 : Array Value := #[.slice none 0 0, .slice none 0 0, .slice none 0 0, .slice none 0 0, .slice none 0 0, .slice none 0 0, .slice none 0 0, .slice none 0 0, .slice none 0 0, .slice none 0 0, .slice none 0 0]
/-- The models of the reference, by value. -/
def knV (A : Nat → Option Addr) (c : Nat → Nat) : Value := .agg #[.slice (A 0) 1 (c 0), .slice (A 1) 2 (c 1), .slice (A 2) 3 (c 2), .slice (A 3) 17 (c 3), .slice (A 4) 256 (c 4), .slice (A 5) 65 (c 5), .slice (A 6) 2 (c 6), .slice (A 7) 2 (c 7), .slice (A 8) 65 (c 8), .slice (A 9) 2 (c 9), .slice (A 10) 2 (c 10)]
structure StRel (w wr : World) (i : Nat) (cs : Array Value) (A : Nat → Option Addr) (c : Nat → Nat) : Prop where
  b0 : wr.heap[w.heap.size]? = some (.cells nil11 50 (0, 0))
  b1 : wr.heap[w.heap.size + 1]? = some (.cells cs 50 (0, 0))
  cell : ∀ j, j < 11 → cs[j]? = some (if j < i then .slice (A j) (ksz (rmap j)) (c j) else .slice none 0 0)
  row : ∀ j, j < i → LRow wr (A j) (ksz (rmap j)) (fr0 (rmap j)) ∧ ∀ ad, A j = some ad → w.heap.size + 2 ≤ ad.block ∧ ad.block < wr.heap.size
  bel : Below w.heap.size w wr
theorem StRel.next {w wr w2 : World} {i c' : Nat} {cs : Array Value} {A : Nat → Option Addr} {c : Nat → Nat} {A' : Option Addr} (h : StRel w wr i cs A c) (hi : i < 11) (hb : Below wr.heap.size wr w2) (hr : LRow w2 A' (ksz (rmap i)) (List.replicate (ksz (rmap i)) 1)) (hn : ∀ ad, A' = some ad → wr.heap.size ≤ ad.block ∧ ad.block < w2.heap.size) :
    StRel w (w2.setCell ⟨w.heap.size + 1, i, none⟩ (.slice A' (ksz (rmap i)) c')) (i + 1) (cs.setIfInBounds i (.slice A' (ksz (rmap i)) c')) (fun j => if j = i then A' else A j) (fun j => if j = i then c' else c j) := by
  have h1 := lt_of_block h.b1
  have ho : Only (w.heap.size + 1) w2 (w2.setCell ⟨w.heap.size + 1, i, none⟩ (.slice A' (ksz (rmap i)) c')) := Only.setCell (b := w.heap.size + 1) (p := ⟨w.heap.size + 1, i, none⟩) (Only.refl _ _) rfl _
  refine ⟨(ho.block _ (by omega)).trans ((hb.block _ (by omega)).trans h.b0), block_setCell ((hb.block _ h1).trans h.b1) i _, fun j hj => ?_, fun j hj => ?_, then_only (then_ h.bel hb) ho (by omega)⟩
  · by_cases e : j = i
    · subst e
      simp only [if_true, show j < j + 1 from by omega]
      exact set_get (h.cell j hj)
    · simp only [if_neg e]
      rw [set_far (fun q => e q.symm), h.cell j hj]
      by_cases hl : j < i
      · rw [if_pos hl, if_pos (by omega)]
      · rw [if_neg hl, if_neg (by omega)]
  · by_cases e : j = i
    · subst e
      simp only [if_true]
      refine ⟨hr.keep (fun ad e => ho.block _ (by have := hn ad e; omega)) (by rw [ho.size]; exact Nat.le_refl _), fun ad e => ?_⟩
      have := hn ad e
      rw [ho.size]
      omega
    · simp only [if_neg e]
      obtain ⟨r1, r2⟩ := h.row j (by omega)
      refine ⟨(r1.below hb).keep (fun ad e => ho.block _ (by have := r2 ad e; omega)) (by rw [ho.size]; exact Nat.le_refl _), fun ad e => ?_⟩
      have := r2 ad e
      have := hb.size
      rw [ho.size]
      omega
theorem index3_ok (q : Nat) (hq : q < 3) (w : World) : (Instr.index 99 (.agg #[.int .i64 65, .int .i64 2, .int .i64 2]) (.int .i64 (q : Nat))).run Try.prog w = .ok (.int .i64 (ksz q : Nat)) w := by
  have x0 : (Instr.index 99 (.agg #[.int .i64 65, .int .i64 2, .int .i64 2]) (.int .i64 0)).run Try.prog w = .ok (.int .i64 65) w := by kernel_rfl
  have x1 : (Instr.index 99 (.agg #[.int .i64 65, .int .i64 2, .int .i64 2]) (.int .i64 1)).run Try.prog w = .ok (.int .i64 2) w := by kernel_rfl
  have x2 : (Instr.index 99 (.agg #[.int .i64 65, .int .i64 2, .int .i64 2]) (.int .i64 2)).run Try.prog w = .ok (.int .i64 2) w := by kernel_rfl
  have : q = 0 ∨ q = 1 ∨ q = 2 := by omega
  rcases this with rfl | rfl | rfl
  · exact x0
  · exact x1
  · exact x2
set_option maxRecDepth 100000 in
set_option maxHeartbeats 4000000 in
theorem starts_ok (w : World) :
    Calls Try.prog 18 #[] w fun e w' => ∃ A c, e = .returned (knV A c) ∧ (∀ j, j < 11 → LRow w' (A j) (ksz (rmap j)) (fr0 (rmap j)) ∧ ∀ ad, A j = some ad → w.heap.size ≤ ad.block ∧ ad.block < w'.heap.size) ∧ Below w.heap.size w w' := by
  go_enter Try.func18, Try.ntmps18
  go_wp2_with fail
  refine (sizes_ok _).mono ?_
  rintro e w1 ⟨rfl, ew1⟩
  have hS : StRel w w1 0 nil11 (fun _ => none) (fun _ => 0) := by
    rw [← ew1]
    refine ⟨?_, ?_, fun j hj => ?_, fun j hj => by omega, (((Below.refl _ _).alloc (Nat.le_refl _) _).alloc (by simp) _).alloc (by simp; omega) _⟩
    · exact (Below.block (B := (w.alloc (.cells nil11 50)).heap.size) (((Below.refl _ _).alloc (Nat.le_refl _) _).alloc (by simp) _) _ (by simp)).trans (heap_alloc_new w _)
    · have e : (w.alloc (.cells nil11 50)).heap.size = w.heap.size + 1 := by simp
      rw [← e]
      exact (Below.block (B := ((w.alloc (.cells nil11 50)).alloc (.cells nil11 50)).heap.size) ((Below.refl _ _).alloc (Nat.le_refl _) _) _ (by simp)).trans (heap_alloc_new _ _)
    · rw [if_neg (by omega)]
      have : j = 0 ∨ j = 1 ∨ j = 2 ∨ j = 3 ∨ j = 4 ∨ j = 5 ∨ j = 6 ∨ j = 7 ∨ j = 8 ∨ j = 9 ∨ j = 10 := by omega
      rcases this with rfl | rfl | rfl | rfl | rfl | rfl | rfl | rfl | rfl | rfl | rfl <;> rfl
  clear ew1
  have HS := Lib.hid hS; clear hS
  go_wp2_with fail
  go_loopg [6] 5 (fun gh iv wr => ∃ (i : Nat) (cs : Array Value) (A : Nat → Option Addr) (c : Nat → Nat), gh = 5 - i ∧ i ≤ 5 ∧ iv = .int .i64 (i : Nat) ∧ StRel w wr i cs A c)
  case atStart => exact ⟨0, nil11, _, _, rfl, by omega, rfl, HS.out⟩
  case round =>
    obtain ⟨i, cs, A, c, hgh, hi, rfl, hR⟩ := hrel
    have Hgh := Lib.hid hgh; clear hgh
    have HR := Lib.hid hR; clear hR HS
    by_cases hlt : i < 5
    · have hix := index_ok i hlt
      have hrm : rmap i = 6 + i := if_pos hlt
      rw [← hrm] at hix
      have hbd := ksz_bd (rmap i)
      have hNew := New_ok (ksz (rmap i)) wr hbd.1 hbd.2
      have i1 : (0 : Int) ≤ (i : Nat) := by omega
      have i2 : ((i : Nat) : Int) < 11 := by omega
      have i3 : ((i : Nat) : Int) < 5 := by omega
      have hnx := fun A' c' w2 => HR.out.next (i := i) (c' := c') (A' := A') (w2 := w2) (by omega)
      obtain ⟨N, eN⟩ : ∃ N, N = ksz (rmap i) := ⟨_, rfl⟩
      rw [← eN] at hix hNew hnx
      have HN := Lib.hid (And.intro hNew hnx); clear hNew hnx hbd hrm eN
      go_wp2_with fail
      refine HN.out.1.mono ?_
      rintro e w2 ⟨A', c', rfl, hr2, hn2, hb2⟩
      have hs := HN.out.2 A' c' w2 hb2 hr2 hn2
      have hb1 := (hb2.block (w.heap.size + 1) (lt_of_block HR.out.b1)).trans HR.out.b1
      have kc : w2.cell? ⟨w.heap.size + 1, i, none⟩ = some (.slice none 0 0) := by
        rw [cell_of_block hb1 i, HR.out.cell i (by omega), if_neg (by omega)]
      have kf := free_of_block hb1 i
      have H2 := Lib.hid hs; clear hs hr2 hn2 hb2 hb1
      go_wp2_with fail
      go_roundg (5 - (i + 1))
      case measure => have := Hgh.out; omega
      case rel => exact ⟨i + 1, _, _, _, rfl, by omega, by go_num, H2.out⟩
    · obtain rfl : i = 5 := by omega
      clear hlt hi
      go_wp2_with fail
      go_loopg [4] 6 (fun gh iv wr => ∃ (i : Nat) (cs : Array Value) (A : Nat → Option Addr) (c : Nat → Nat), gh = 11 - i ∧ 5 ≤ i ∧ i ≤ 11 ∧ iv = .int .i64 (i : Nat) ∧ StRel w wr i cs A c)
      case atStart => exact ⟨5, cs, A, c, rfl, by omega, by omega, rfl, HR.out⟩
      case round =>
        obtain ⟨i, cs, A, c, hgh2, hi5, hi, rfl, hR2⟩ := hrel
        have Hgh2 := Lib.hid hgh2; clear hgh2
        have HR2 := Lib.hid hR2; clear hR2
        by_cases hlt : i < 11
        · obtain ⟨q, eq⟩ : ∃ q, q = (i - 5) % 3 := ⟨_, rfl⟩
          have hq3 : q < 3 := by omega
          have hq1 : ((i : Int) - 5) % 3 = (q : Nat) := by omega
          have hq2 : ((i : Int) - 5).tmod 3 = (q : Nat) := by rw [Int.tmod_eq_emod_of_nonneg (by omega)]; exact hq1
          have hix := index3_ok q hq3
          have hrm : ksz q = ksz (rmap i) := by
            rw [eq]
            have : i = 5 ∨ i = 6 ∨ i = 7 ∨ i = 8 ∨ i = 9 ∨ i = 10 := by omega
            rcases this with rfl | rfl | rfl | rfl | rfl | rfl <;> rfl
          rw [hrm] at hix
          have hbd := ksz_bd (rmap i)
          have hNew := New_ok (ksz (rmap i)) wr hbd.1 hbd.2
          have i1 : (0 : Int) ≤ (i : Nat) := by omega
          have i2 : ((i : Nat) : Int) < 11 := by omega
          have i3 : (0 : Int) ≤ (q : Nat) := by omega
          have i4 : ((q : Nat) : Int) < 3 := by omega
          have hnx := fun A' c' w2 => HR2.out.next (i := i) (c' := c') (A' := A') (w2 := w2) (by omega)
          obtain ⟨N, eN⟩ : ∃ N, N = ksz (rmap i) := ⟨_, rfl⟩
          rw [← eN] at hix hNew hnx
          have HN := Lib.hid (And.intro hNew hnx); clear hNew hnx hbd hrm eN eq
          go_wp2_with fail
          refine HN.out.1.mono ?_
          rintro e w2 ⟨A', c', rfl, hr2, hn2, hb2⟩
          have hs := HN.out.2 A' c' w2 hb2 hr2 hn2
          have hb1 := (hb2.block (w.heap.size + 1) (lt_of_block HR2.out.b1)).trans HR2.out.b1
          have kc : w2.cell? ⟨w.heap.size + 1, i, none⟩ = some (.slice none 0 0) := by
            rw [cell_of_block hb1 i, HR2.out.cell i (by omega), if_neg (by omega)]
          have kf := free_of_block hb1 i
          have H2 := Lib.hid hs; clear hs hr2 hn2 hb2 hb1
          go_wp2_with fail
          go_roundg (11 - (i + 1))
          case measure => have := Hgh2.out; omega
          case rel => exact ⟨i + 1, _, _, _, rfl, by omega, by omega, by go_num, H2.out⟩
        · obtain rfl : i = 11 := by omega
          clear hlt hi hi5
          have m0 : wr.cell? ⟨w.heap.size + 1, 0, none⟩ = some (.slice (A 0) 1 (c 0)) := (cell_of_block HR2.out.b1 0).trans (HR2.out.cell 0 (by decide))
          have m1 : wr.cell? ⟨w.heap.size + 1, 1, none⟩ = some (.slice (A 1) 2 (c 1)) := (cell_of_block HR2.out.b1 1).trans (HR2.out.cell 1 (by decide))
          have m2 : wr.cell? ⟨w.heap.size + 1, 2, none⟩ = some (.slice (A 2) 3 (c 2)) := (cell_of_block HR2.out.b1 2).trans (HR2.out.cell 2 (by decide))
          have m3 : wr.cell? ⟨w.heap.size + 1, 3, none⟩ = some (.slice (A 3) 17 (c 3)) := (cell_of_block HR2.out.b1 3).trans (HR2.out.cell 3 (by decide))
          have m4 : wr.cell? ⟨w.heap.size + 1, 4, none⟩ = some (.slice (A 4) 256 (c 4)) := (cell_of_block HR2.out.b1 4).trans (HR2.out.cell 4 (by decide))
          have m5 : wr.cell? ⟨w.heap.size + 1, 5, none⟩ = some (.slice (A 5) 65 (c 5)) := (cell_of_block HR2.out.b1 5).trans (HR2.out.cell 5 (by decide))
          have m6 : wr.cell? ⟨w.heap.size + 1, 6, none⟩ = some (.slice (A 6) 2 (c 6)) := (cell_of_block HR2.out.b1 6).trans (HR2.out.cell 6 (by decide))
          have m7 : wr.cell? ⟨w.heap.size + 1, 7, none⟩ = some (.slice (A 7) 2 (c 7)) := (cell_of_block HR2.out.b1 7).trans (HR2.out.cell 7 (by decide))
          have m8 : wr.cell? ⟨w.heap.size + 1, 8, none⟩ = some (.slice (A 8) 65 (c 8)) := (cell_of_block HR2.out.b1 8).trans (HR2.out.cell 8 (by decide))
          have m9 : wr.cell? ⟨w.heap.size + 1, 9, none⟩ = some (.slice (A 9) 2 (c 9)) := (cell_of_block HR2.out.b1 9).trans (HR2.out.cell 9 (by decide))
          have m10 : wr.cell? ⟨w.heap.size + 1, 10, none⟩ = some (.slice (A 10) 2 (c 10)) := (cell_of_block HR2.out.b1 10).trans (HR2.out.cell 10 (by decide))
          have y0 : wr.cell? ⟨w.heap.size, 0, none⟩ = some (.slice none 0 0) := (cell_of_block HR2.out.b0 0).trans rfl
          have x0 := free_of_block HR2.out.b0 0
          have y1 : wr.cell? ⟨w.heap.size, 1, none⟩ = some (.slice none 0 0) := (cell_of_block HR2.out.b0 1).trans rfl
          have x1 := free_of_block HR2.out.b0 1
          have y2 : wr.cell? ⟨w.heap.size, 2, none⟩ = some (.slice none 0 0) := (cell_of_block HR2.out.b0 2).trans rfl
          have x2 := free_of_block HR2.out.b0 2
          have y3 : wr.cell? ⟨w.heap.size, 3, none⟩ = some (.slice none 0 0) := (cell_of_block HR2.out.b0 3).trans rfl
          have x3 := free_of_block HR2.out.b0 3
          have y4 : wr.cell? ⟨w.heap.size, 4, none⟩ = some (.slice none 0 0) := (cell_of_block HR2.out.b0 4).trans rfl
          have x4 := free_of_block HR2.out.b0 4
          have y5 : wr.cell? ⟨w.heap.size, 5, none⟩ = some (.slice none 0 0) := (cell_of_block HR2.out.b0 5).trans rfl
          have x5 := free_of_block HR2.out.b0 5
          have y6 : wr.cell? ⟨w.heap.size, 6, none⟩ = some (.slice none 0 0) := (cell_of_block HR2.out.b0 6).trans rfl
          have x6 := free_of_block HR2.out.b0 6
          have y7 : wr.cell? ⟨w.heap.size, 7, none⟩ = some (.slice none 0 0) := (cell_of_block HR2.out.b0 7).trans rfl
          have x7 := free_of_block HR2.out.b0 7
          have y8 : wr.cell? ⟨w.heap.size, 8, none⟩ = some (.slice none 0 0) := (cell_of_block HR2.out.b0 8).trans rfl
          have x8 := free_of_block HR2.out.b0 8
          have y9 : wr.cell? ⟨w.heap.size, 9, none⟩ = some (.slice none 0 0) := (cell_of_block HR2.out.b0 9).trans rfl
          have x9 := free_of_block HR2.out.b0 9
          have y10 : wr.cell? ⟨w.heap.size, 10, none⟩ = some (.slice none 0 0) := (cell_of_block HR2.out.b0 10).trans rfl
          have x10 := free_of_block HR2.out.b0 10
          have hend : ∀ wf : World, wf = put11 wr w.heap.size (.slice (A 0) 1 (c 0)) (.slice (A 1) 2 (c 1)) (.slice (A 2) 3 (c 2)) (.slice (A 3) 17 (c 3)) (.slice (A 4) 256 (c 4)) (.slice (A 5) 65 (c 5)) (.slice (A 6) 2 (c 6)) (.slice (A 7) 2 (c 7)) (.slice (A 8) 65 (c 8)) (.slice (A 9) 2 (c 9)) (.slice (A 10) 2 (c 10)) → wf.heap[w.heap.size]? = some (.cells #[.slice (A 0) 1 (c 0), .slice (A 1) 2 (c 1), .slice (A 2) 3 (c 2), .slice (A 3) 17 (c 3), .slice (A 4) 256 (c 4), .slice (A 5) 65 (c 5), .slice (A 6) 2 (c 6), .slice (A 7) 2 (c 7), .slice (A 8) 65 (c 8), .slice (A 9) 2 (c 9), .slice (A 10) 2 (c 10)] 50 (0, 0)) ∧ (∀ j, j < 11 → LRow wf (A j) (ksz (rmap j)) (fr0 (rmap j)) ∧ ∀ ad, A j = some ad → w.heap.size ≤ ad.block ∧ ad.block < wf.heap.size) ∧ Below w.heap.size w wf := by
            intro wf e
            have hp1 := put11_only (w := wr) (b := w.heap.size) (v0 := .slice (A 0) 1 (c 0)) (v1 := .slice (A 1) 2 (c 1)) (v2 := .slice (A 2) 3 (c 2)) (v3 := .slice (A 3) 17 (c 3)) (v4 := .slice (A 4) 256 (c 4)) (v5 := .slice (A 5) 65 (c 5)) (v6 := .slice (A 6) 2 (c 6)) (v7 := .slice (A 7) 2 (c 7)) (v8 := .slice (A 8) 65 (c 8)) (v9 := .slice (A 9) 2 (c 9)) (v10 := .slice (A 10) 2 (c 10))
            have hp2 := put11_blk (v0 := .slice (A 0) 1 (c 0)) (v1 := .slice (A 1) 2 (c 1)) (v2 := .slice (A 2) 3 (c 2)) (v3 := .slice (A 3) 17 (c 3)) (v4 := .slice (A 4) 256 (c 4)) (v5 := .slice (A 5) 65 (c 5)) (v6 := .slice (A 6) 2 (c 6)) (v7 := .slice (A 7) 2 (c 7)) (v8 := .slice (A 8) 65 (c 8)) (v9 := .slice (A 9) 2 (c 9)) (v10 := .slice (A 10) 2 (c 10)) HR2.out.b0
            rw [← e] at hp1 hp2
            refine ⟨hp2, fun j hj => ?_, then_only HR2.out.bel hp1 (Nat.le_refl _)⟩
            obtain ⟨r1, r2⟩ := HR2.out.row j hj
            refine ⟨r1.keep (fun ad e => hp1.block _ (by have := r2 ad e; omega)) (by rw [hp1.size]; exact Nat.le_refl _), fun ad e => ?_⟩
            have := r2 ad e
            rw [hp1.size]; omega
          have HE := Lib.hid hend; clear hend
          go_wp2_with fail
          obtain ⟨wf, ewf⟩ : ∃ wf : World, wf = put11 wr w.heap.size (.slice (A 0) 1 (c 0)) (.slice (A 1) 2 (c 1)) (.slice (A 2) 3 (c 2)) (.slice (A 3) 17 (c 3)) (.slice (A 4) 256 (c 4)) (.slice (A 5) 65 (c 5)) (.slice (A 6) 2 (c 6)) (.slice (A 7) 2 (c 7)) (.slice (A 8) 65 (c 8)) (.slice (A 9) 2 (c 9)) (.slice (A 10) 2 (c 10)) := ⟨_, rfl⟩
          obtain ⟨q1, q2, q3⟩ := HE.out wf ewf
          unfold put11 at ewf
          rw [← ewf]
          clear ewf x0 y0 m0 x1 y1 m1 x2 y2 m2 x3 y3 m3 x4 y4 m4 x5 y5 m5 x6 y6 m6 x7 y7 m7 x8 y8 m8 x9 y9 m9 x10 y10 m10
          have x0 : wf.cell? ⟨w.heap.size, 0, none⟩ = some (.slice (A 0) 1 (c 0)) := (cell_of_block q1 0).trans rfl
          have x1 : wf.cell? ⟨w.heap.size, 1, none⟩ = some (.slice (A 1) 2 (c 1)) := (cell_of_block q1 1).trans rfl
          have x2 : wf.cell? ⟨w.heap.size, 2, none⟩ = some (.slice (A 2) 3 (c 2)) := (cell_of_block q1 2).trans rfl
          have x3 : wf.cell? ⟨w.heap.size, 3, none⟩ = some (.slice (A 3) 17 (c 3)) := (cell_of_block q1 3).trans rfl
          have x4 : wf.cell? ⟨w.heap.size, 4, none⟩ = some (.slice (A 4) 256 (c 4)) := (cell_of_block q1 4).trans rfl
          have x5 : wf.cell? ⟨w.heap.size, 5, none⟩ = some (.slice (A 5) 65 (c 5)) := (cell_of_block q1 5).trans rfl
          have x6 : wf.cell? ⟨w.heap.size, 6, none⟩ = some (.slice (A 6) 2 (c 6)) := (cell_of_block q1 6).trans rfl
          have x7 : wf.cell? ⟨w.heap.size, 7, none⟩ = some (.slice (A 7) 2 (c 7)) := (cell_of_block q1 7).trans rfl
          have x8 : wf.cell? ⟨w.heap.size, 8, none⟩ = some (.slice (A 8) 65 (c 8)) := (cell_of_block q1 8).trans rfl
          have x9 : wf.cell? ⟨w.heap.size, 9, none⟩ = some (.slice (A 9) 2 (c 9)) := (cell_of_block q1 9).trans rfl
          have x10 : wf.cell? ⟨w.heap.size, 10, none⟩ = some (.slice (A 10) 2 (c 10)) := (cell_of_block q1 10).trans rfl
          exact bodyPost_ret (v := .agg #[.slice (A 0) 1 (c 0), .slice (A 1) 2 (c 1), .slice (A 2) 3 (c 2), .slice (A 3) 17 (c 3), .slice (A 4) 256 (c 4), .slice (A 5) 65 (c 5), .slice (A 6) 2 (c 6), .slice (A 7) 2 (c 7), .slice (A 8) 65 (c 8), .slice (A 9) 2 (c 9), .slice (A 10) 2 (c 10)]) (by simp [results, Try.results18, go_sem, x0, x1, x2, x3, x4, x5, x6, x7, x8, x9, x10]) rfl ⟨A, c, rfl, q2, q3⟩
end Go.Proofs.Ytdekcilfkelhlaa
