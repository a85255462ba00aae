/- Small laws on worlds: a block that is known whole; a call that writes one block alone. -/
import Derived.WalkKit
import Derived.Deep.QuietTactic
namespace Go.Proofs.YtabgeonlodmpiaaGreatDoor
open Go.RowKit

theorem ret_congr {a b : Value} (h : a = b) : Ending.returned a = .returned b := by rw [h]

theorem quiet_of_eq {P : Program} {f : FuncId} {args : Array Value} {w : World} {n : Nat} {v : Value}
    (h : Calls P f args (w.drewN n) fun e w' => e = .returned v ∧ w.drewN n = w') : Calls P f args (w.drewN n) fun e w'' => e = .returned v ∧ ∃ m, w'' = w.drewN m :=
  h.mono fun _ _ ⟨he, hm⟩ => ⟨he, n, hm.symm⟩

/-- Of w nothing has turned in w' but block b, and perhaps the count of draws. -/
structure Only (b : Nat) (w w' : World) : Prop where
  os : w'.os = w.os
  tape : w'.tape = w.tape
  output : w'.output = w.output
  size : w'.heap.size = w.heap.size
  block : ∀ k, k ≠ b → w'.heap[k]? = w.heap[k]?

theorem Only.refl (b : Nat) (w : World) : Only b w w := ⟨rfl, rfl, rfl, rfl, fun _ _ => rfl⟩
theorem Only.trans {b : Nat} {w x y : World} (h : Only b w x) (k : Only b x y) : Only b w y :=
  ⟨k.os.trans h.os, k.tape.trans h.tape, k.output.trans h.output, k.size.trans h.size, fun i hi => (k.block i hi).trans (h.block i hi)⟩
theorem Only.drewN {b : Nat} {w x : World} (h : Only b w x) (n : Nat) : Only b w (x.drewN n) := ⟨h.os, h.tape, h.output, h.size, h.block⟩
theorem Only.drew {b : Nat} {w x : World} (h : Only b w x) : Only b w x.drew := ⟨h.os, h.tape, h.output, h.size, h.block⟩
theorem Only.setCell {b : Nat} {w x : World} (h : Only b w x) {p : Addr} (hp : p.block = b) (u : Value) : Only b w (x.setCell p u) :=
  h.trans ⟨rfl, rfl, rfl, by simp [World.setCell], fun k hk => Below.heap_setCell _ _ _ _ (by rw [hp]; exact hk)⟩
theorem Only.below {b : Nat} {w x : World} (h : Only b w x) {B : Nat} (hB : B ≤ b) : Below B w x :=
  ⟨h.os, h.tape, h.output, by rw [h.size]; exact Nat.le_refl _, fun k hk => h.block k (by omega)⟩
theorem below_drewN' {B : Nat} {w x : World} (h : Below B w x) (n : Nat) : Below B w (x.drewN n) := ⟨h.os, h.tape, h.output, h.size, h.block⟩

section
variable {w : World} {b : Nat} {cs : Array Value} {t : TypeId}
theorem cell_of_block (h : w.heap[b]? = some (.cells cs t (0, 0))) (i : Nat) : w.cell? ⟨b, i, none⟩ = cs[i]? := by simp [World.cell?, h]
theorem free_of_block (h : w.heap[b]? = some (.cells cs t (0, 0))) (i : Nat) : w.frozen? ⟨b, i, none⟩ = false := by simp [World.frozen?, h]
theorem block_setCell (h : w.heap[b]? = some (.cells cs t (0, 0))) (i : Nat) (u : Value) : (w.setCell ⟨b, i, none⟩ u).heap[b]? = some (.cells (cs.setIfInBounds i u) t (0, 0)) := by
  have hlt := lt_of_block h
  have h' : w.heap[b] = .cells cs t (0, 0) := by simpa [Array.getElem?_eq_getElem hlt] using h
  show (w.heap.modify b _)[b]? = _
  rw [Array.getElem?_eq_getElem (by simpa using hlt), Array.getElem_modify_self, h']
  rfl
end

/-- The first number of which p holds. -/
noncomputable def first (p : Nat → Bool) : Nat := @Classical.epsilon Nat ⟨0⟩ (fun j => p j = true ∧ ∀ i, i < j → p i = false)
theorem first_spec {p : Nat → Bool} (h : ∃ j, p j = true) : p (first p) = true ∧ ∀ i, i < first p → p i = false := by
  have : ∃ j, p j = true ∧ ∀ i, i < j → p i = false := by
    obtain ⟨j, hj⟩ := h
    induction j using Nat.strongRecOn with
    | _ j ih =>
      by_cases hm : ∃ i, i < j ∧ p i = true
      · obtain ⟨i, hi, hp⟩ := hm; exact ih i hi hp
      · exact ⟨j, hj, fun i hi => by
          cases e : p i with
          | false => rfl
          | true => exact absurd ⟨i, hi, e⟩ hm⟩
  exact Classical.epsilon_spec this
theorem first_le {p : Nat → Bool} {j : Nat} (h : p j = true) : first p ≤ j := by
  have hs := first_spec ⟨j, h⟩
  apply Nat.le_of_not_lt
  intro hlt
  rw [hs.2 j hlt] at h
  exact absurd h (by decide)
theorem first_eq {p : Nat → Bool} {j : Nat} (h : p j = true) (h' : ∀ i, i < j → p i = false) : first p = j := by
  have hs := first_spec ⟨j, h⟩
  have h1 := first_le h
  rcases Nat.lt_or_ge (first p) j with hlt | hge
  · rw [h' _ hlt] at hs; exact absurd hs.1 (by decide)
  · omega
end Go.Proofs.YtabgeonlodmpiaaGreatDoor
