/- append(s, make([]byte, k)...), s of one's own. -/
import Derived.Test.YtdekcilfkelhlaaAParts2
import Derived.Lib.AppendZerosOnto
import Derived.Laws.IdiomCopy
set_option linter.unusedVariables false
namespace Go.Proofs.Ytdekcilfkelhlaa
open Go.RowKit

/-- Bytes, and zeros behind them. -/
def padF (n : Nat) (f : Nat → Nat) (i : Nat) : Nat := if i < n then f i else 0
theorem zero_list (k : Nat) : (Builtin.zeroCells (Value.int .u8 0).cells k).toList = List.replicate k (.int .u8 0) := by
  unfold Builtin.zeroCells
  simp [Value.cells]
  apply List.ext_getElem
  · simp
  · intro i h1 h2
    simp [Nat.mod_one]
theorem append_zeros {w : World} {g n cap k : Nat} {cur : Array Value} {f : Nat → Nat} {ty : TypeId} (hh : w.heap[g]? = some (.cells cur 5 (0, 0))) (h1 : n ≤ cap) (hn : n ≤ 1000000) (hsz : cur.size = cap) (hx : ∀ i, i < n → cur[i]? = some (.int .u8 ((f i : Nat) : Int))) (hk : k ≤ 1000000) :
    ∃ A' cap' G' w', (Builtin.append_ #[22, 3] ty #[.slice (some ⟨g, 0, none⟩) n cap, .int .i64 (k : Nat)]).run Try.prog w = .ok (.slice A' (n + k) cap') w' ∧ Row w' G' A' (n + k) (padF n f) ∧ (∀ q, q ∈ G' → q < w'.heap.size) ∧ Fr [g] w G' w' := by
  obtain ⟨i0, hi, hz0, hz1, hz2⟩ := info_parts info5
  have ht : Try.prog.underlying 22 = some (.slice 5) := Try.underlying22
  have htn : Try.prog.underlying 3 = some (.int .i64) := Try.underlying3
  have hg := lt_of_block hh
  have hw : IntKind.i64.wrap (k : Int) = k := by rw [IntKind.wrap_i64]; omega
  have h48i : ¬ (281474976710656 < (k : Int) * (i0.bytes : Int)) := by rw [hz2]; omega
  have hneg : ¬ ((k : Int) < 0) := by omega
  have h48k : ¬ (281474976710656 < (k : Int)) := by omega
  rcases Nat.lt_or_ge cap (n + k) with hgr | hroom
  · have hkp : 0 < k := by omega
    have hold : (Builtin.firstCells i0.size n (.slice (some ⟨g, 0, none⟩) n cap)).run Try.prog w.drew = .ok ((List.range n).map fun i => Value.int .u8 ((f i : Nat) : Int)).toArray w.drew := by
      refine run_firstCells_some w.drew i0.size n _ n cap _ (by rw [hz1]; simp) (fun j v hj => ?_)
      rw [List.getElem?_map] at hj
      rcases Nat.lt_or_ge j n with hjn | hjn
      · rw [List.getElem?_range hjn] at hj
        rw [add_zero']
        have e : w.drew.cell? ⟨g, j, none⟩ = cur[j]? := cell_of_block (show w.drew.heap[g]? = _ from hh) j
        rw [e, hx j hjn]
        exact hj
      · rw [List.getElem?_eq_none (by simpa using hjn)] at hj
        cases hj
    have hfit : Builtin.nextslicecap (n + k) cap * i0.bytes ≤ 281474976710656 := by
      rw [hz2, Nat.mul_one]
      unfold Builtin.nextslicecap
      split
      · omega
      · split
        · omega
        · rw [growBy_four]
          (repeat' split) <;> omega
    have hrun := Lib.run_append_grow_zeros (P := Try.prog) w 22 3 ty 5 i0 (.int .u8 0) .i64 .i64 ht htn hi hz0 (some ⟨g, 0, none⟩) n cap _ hold k hkp (by rw [hz1]; decide) hgr (by omega) (by rw [hz2]; omega) hfit
    refine ⟨_, _, [w.heap.size], _, hrun, ?_, ?_, ?_⟩
    · refine Or.inr ⟨w.heap.size, ((List.range n).map fun i => Value.int .u8 ((f i : Nat) : Int)).toArray ++ Builtin.zeroCells (Value.int .u8 0).cells k ++ Builtin.zeroCells (Value.int .u8 0).cells (grownCap w (n + k) cap 5 - (n + k)), rfl, by simp, heap_alloc_new w.drew _, fun i hi => ?_⟩
      · rw [← Array.getElem?_toList]
        simp only [Array.toList_append, zero_list, List.toList_toArray]
        rw [List.append_assoc]
        by_cases hin : i < n
        · rw [List.getElem?_append_left (by simpa using hin), List.getElem?_map, List.getElem?_range hin]
          unfold padF
          rw [if_pos hin]
          rfl
        · rw [List.getElem?_append_right (by simpa using hin), List.length_map, List.length_range, List.getElem?_append_left (by rw [List.length_replicate]; omega), List.getElem?_replicate, if_pos (by omega)]
          unfold padF
          rw [if_neg hin]
          rfl
    · intro q hq
      rw [List.mem_singleton] at hq
      subst hq
      show w.heap.size < (w.drew.alloc _).heap.size
      rw [World.size_alloc]
      exact Nat.lt_succ_self _
    · refine ⟨rfl, rfl, rfl, ?_, fun q hq _ => ?_, fun q hq => ?_⟩
      · show w.heap.size ≤ (w.drew.alloc _).heap.size
        rw [World.size_alloc]
        exact Nat.le_succ _
      · exact Below.heap_alloc w.drew _ _ hq
      · rw [List.mem_singleton] at hq
        subst hq
        exact Or.inr (Nat.le_refl _)
  · refine ⟨some ⟨g, 0, none⟩, cap, [g], w.setCells g n (List.replicate k (.int .u8 0)), ?_, ?_, ?_, ?_⟩
    · have hst := run_storeCells_cells (P := Try.prog) g n (List.replicate k (.int .u8 0)) 0 w (fun j hj => by
        rw [List.length_replicate] at hj
        rw [Nat.add_zero, cell_of_block hh]
        rw [Array.getElem?_eq_getElem (by omega)]
        rfl) (fun j _ => free_of_block hh _) (fun v hv => by rw [List.eq_of_mem_replicate hv]; rfl)
      rw [Nat.add_zero] at hst
      have e0 : (⟨g, 0, none⟩ : Addr).add n = ⟨g, n, none⟩ := by rw [add_zero']
      by_cases hk0 : k = 0
      · subst hk0
        have hw0 : IntKind.i64.wrap 0 = 0 := by decide
        simp [Builtin.append_, run_underlying ht, run_underlying htn, sizeOf, typeInfo, zeroValue, hi, hz0, hz1, hz2, asInt, asIntOf, hw0, h1, e0] at hst ⊢
        simp [hst]
      · simp [Builtin.append_, run_underlying ht, run_underlying htn, sizeOf, typeInfo, zeroValue, hi, hz0, hz1, hz2, asInt, asIntOf, hw, hneg, h48k, hroom, e0, hk0, zero_list, hst]
    · rcases Nat.eq_zero_or_pos (n + k) with h0 | h0
      · exact Or.inl h0
      · obtain ⟨cur', hc', hs'⟩ : ∃ cur', (w.setCells g n (List.replicate k (.int .u8 0))).heap[g]? = some (.cells cur' 5 (0, 0)) ∧ ∀ i, i < n + k → cur'[i]? = some (.int .u8 ((padF n f i : Nat) : Int)) := by
          have key : ∀ (r o : Nat) (w1 : World) (c : Array Value), n ≤ o → o + r ≤ cap → c.size = cap → w1.heap[g]? = some (.cells c 5 (0, 0)) → (∀ i, i < o → c[i]? = some (.int .u8 ((padF n f i : Nat) : Int))) → ∃ c', (w1.setCells g o (List.replicate r (.int .u8 0))).heap[g]? = some (.cells c' 5 (0, 0)) ∧ ∀ i, i < o + r → c'[i]? = some (.int .u8 ((padF n f i : Nat) : Int)) := by
            intro r
            induction r with
            | zero => intro o w1 c _ _ _ hc hv; exact ⟨c, hc, hv⟩
            | succ r ih =>
              intro o w1 c ho hor hcs hc hv
              obtain ⟨c', e1, e2⟩ := ih (o + 1) (w1.setCell ⟨g, o, none⟩ (.int .u8 0)) (c.setIfInBounds o (.int .u8 0)) (by omega) (by omega) (by simpa using hcs) (block_setCell hc o _) (fun i hi => by
                by_cases e : i = o
                · subst e
                  rw [Array.getElem?_setIfInBounds_self_of_lt (by omega)]
                  unfold padF
                  rw [if_neg (by omega)]
                  rfl
                · rw [Array.getElem?_setIfInBounds_ne (by omega)]
                  exact hv i (by omega))
              exact ⟨c', e1, fun i hi => e2 i (by omega)⟩
          exact key k n w cur (Nat.le_refl _) hroom hsz hh (fun i hi => by unfold padF; rw [if_pos hi]; exact hx i hi)
        exact Or.inr ⟨g, cur', rfl, by simp, hc', hs'⟩
    · intro q hq
      rw [List.mem_singleton] at hq
      subst hq
      have : ∀ (vs : List Value) (o : Nat) (w1 : World), (w1.setCells q o vs).heap.size = w1.heap.size := by
        intro vs
        induction vs with
        | nil => intro o w1; rfl
        | cons v vs ih => intro o w1; show ((w1.setCell _ v).setCells q (o + 1) vs).heap.size = _; rw [ih]; simp [World.setCell]
      rw [this]; exact hg
    · have key : ∀ (vs : List Value) (o : Nat) (w1 : World), Fr [g] w [g] w1 → Fr [g] w [g] (w1.setCells g o vs) := by
        intro vs
        induction vs with
        | nil => intro o w1 h; exact h
        | cons v vs ih => intro o w1 h; exact ih (o + 1) _ (h.store (by simp) o v)
      exact key _ _ _ (Fr.refl _ _)
end Go.Proofs.Ytdekcilfkelhlaa
