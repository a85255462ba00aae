/- marchesref18: Get. -/
import Derived.Test.YtpnlcnilhlcfpaaBRefG
set_option linter.unusedVariables false
namespace Go.Proofs.Ytpnlcnilhlcfpaa
open Go.RowKit
open M (numOf numOf_lt)

/-- The address behind k elements, of a slice with a capacity. -/
def cutA (A : Option Addr) (k cap : Nat) : Option Addr := if k = 0 then A else if cap = k then A else A.map fun a => ⟨a.block, a.off + k, none⟩
theorem RefR.cut {w : World} {A : Option Addr} {n cap k : Nat} {s : List Bool} (h : RefR w A n cap s) (hk : k ≤ s.length) : RefR w (cutA A k cap) (n - k) (cap - k) (s.drop k) := by
  refine ⟨fun i hi => ?_, by rw [List.length_drop, h.len], by have := h.le; omega, by have := h.few; omega, fun e => ?_, fun ad e => ?_⟩
  · rw [List.length_drop] at hi
    obtain ⟨b, o, e, hb, hc⟩ := h.bits (k + i) (by omega)
    subst e
    unfold cutA
    by_cases hk0 : k = 0
    · subst hk0
      rw [if_pos rfl]
      refine ⟨b, o, rfl, hb, ?_⟩
      have e0 : s[0 + i] = (s.drop 0)[i] := by simp
      rw [e0, show o + (0 + i) = o + i from by omega] at hc
      exact hc
    · rw [if_neg hk0, if_neg (by have := h.le; have := h.len; omega)]
      refine ⟨b, o + k, rfl, hb, ?_⟩
      rw [show o + k + i = o + (k + i) from by omega, hc]
      simp
  · have := h.nil
    unfold cutA at e
    rcases A with _ | ad
    · rw [this rfl]; omega
    · split at e
      · cases e
      · split at e
        · cases e
        · cases e
  · unfold cutA at e
    rcases A with _ | ad'
    · split at e
      · cases e
      · split at e
        · cases e
        · cases e
    · obtain ⟨b, o, rfl⟩ := h.off ad' rfl
      split at e
      · cases e; exact ⟨b, o, rfl⟩
      · split at e
        · cases e; exact ⟨b, o, rfl⟩
        · simp at e; subst e; exact ⟨b, o + k, rfl⟩
theorem BitsAt.take {w : World} {A : Option Addr} {s : List Bool} (h : BitsAt w A s) (k : Nat) : BitsAt w A (s.take k) := fun i hi => by
  rw [List.length_take] at hi
  obtain ⟨b, o, e, hb, hc⟩ := h i (by omega)
  exact ⟨b, o, e, hb, by rw [hc]; simp⟩
set_option maxRecDepth 100000 in
set_option maxHeartbeats 1600000 in
theorem Get18_mid (A : Option Addr) (n cap : Nat) (k : Nat) (s : List Bool) (w : World) (h : RefR w A n cap s) (hk : k ≤ 64) (hl : k ≤ s.length) (b o : Nat) (hA : A = some ⟨b, o, none⟩) (j0 : ¬ k = 0) (j1 : ¬ cap = k) :
    Calls Try.prog 20 #[rR A n cap 0, .int .i64 (k : Nat)] w fun r w' => r = .returned (.tuple #[rR (cutA A k cap) (n - k) (cap - k) 0, .int .u64 (numOf (s.take k) : Nat), .int .i64 0]) ∧ RefR w (cutA A k cap) (n - k) (cap - k) (s.drop k) ∧ Below w.heap.size w w' := by
  have hb := fun o o2 : Obj => (((Below.refl w.heap.size w).alloc (Nat.le_refl _) o).alloc (by simp) o2)
  have HC := Lib.hid (h.cut hl)
  have hn := h.len
  have hle := h.le
  have hfew := h.few
  have hnum := fun (W : World) (hW : Below w.heap.size w W) => number_run W A (s.take k) cap (h.bits.take k |>.below hW) (by rw [List.length_take]; omega)
  have hlk : (s.take k).length = k := by rw [List.length_take]; omega
  rw [hlk] at hnum
  have hval : numOf (s.take k) < 18446744073709551616 := by
    have a := numOf_lt (s.take k)
    rw [hlk] at a
    have c : 2 ^ k ≤ 2 ^ 64 := Nat.pow_le_pow_right (by decide) hk
    have d : (18446744073709551616 : Nat) = 2 ^ 64 := rfl
    omega
  have HB := Lib.hid (And.intro hb (And.intro hnum hval)); clear hb hnum hval
  generalize numOf (s.take k) = v at HB ⊢
  have i0 : (0 : Int) ≤ (k : Int) := by omega
  have i1 : (k : Int) ≤ (n : Int) := by omega
  have i2 : (n : Int) ≤ (cap : Int) := by omega
  have i3 : (k : Int) ≤ (cap : Int) := by omega
  have i4 : ¬ n < k := by omega
  have i5 : (k : Int) ≤ 64 := by omega
  clear hn hle hk hl hlk hfew
  subst hA
  clear h
  have hcut : cutA (some ⟨b, o, none⟩) k cap = some ⟨b, o + k, none⟩ := by unfold cutA; rw [if_neg j0, if_neg j1]; rfl
  rw [hcut] at HC ⊢
  unfold rR
  go_enter Try.func20, Try.ntmps20
  go_wp2_with fail
  obtain ⟨W, eW⟩ : ∃ W, W = (w.alloc (Obj.cells #[Value.slice (some ⟨b, o, none⟩) n cap, Value.int .i64 0] 30)).alloc (Obj.cells #[Value.slice none 0 0, Value.int .i64 0] 30) := ⟨_, rfl⟩
  rw [← eW]
  have hbW : Below w.heap.size w W := by rw [eW]; exact HB.out.1 _ _
  have g1 : W.heap[w.heap.size]? = some (.cells #[Value.slice (some ⟨b, o, none⟩) n cap, Value.int .i64 0] 30 (0, 0)) := by rw [eW]; exact (Below.heap_alloc _ _ _ (by simp)).trans (heap_alloc_new w _)
  have g2 : W.heap[w.heap.size + 1]? = some (.cells #[Value.slice none 0 0, Value.int .i64 0] 30 (0, 0)) := by rw [eW]; exact heap_alloc2_new w _ _
  have hsz : W.heap.size = w.heap.size + 2 := by rw [eW]; simp
  have N := HB.out.2.1 W.drew hbW.drew
  have U := fun (w1 : World) (g : Nat) (h : NumAt w1 W.heap.size g v) => int_uint64 w1 W.heap.size g v h HB.out.2.2
  obtain ⟨b0, b1, -, -⟩ := rr_cells g1
  have N2 := N.mono (fun e w1 h => (show ∃ g, e = .returned (.pointer (some ⟨g, 0, none⟩)) ∧ w1.cell? ⟨w.heap.size, 0, none⟩ = some (Value.slice (some ⟨b, o, none⟩) n cap) ∧ w1.cell? ⟨w.heap.size + 1, 0, none⟩ = some (Value.slice none 0 0) ∧ w1.cell? ⟨w.heap.size + 1, 1, none⟩ = some (.int .i64 0) ∧ w1.frozen? ⟨w.heap.size + 1, 0, none⟩ = false ∧ w1.frozen? ⟨w.heap.size + 1, 1, none⟩ = false ∧
      Hid (NumAt w1 W.heap.size g v ∧ Below w.heap.size w w1 ∧ w1.heap[w.heap.size + 1]? = some (.cells #[Value.slice none 0 0, Value.int .i64 0] 30 (0, 0))) from by
    obtain ⟨g, rfl, h1, h2⟩ := h
    have q1 := (h2.block w.heap.size (by show _ < W.heap.size; omega)).trans g1
    have q2 := (h2.block (w.heap.size + 1) (by show _ < W.heap.size; omega)).trans g2
    obtain ⟨c0, c1, -, -⟩ := rr_cells q1
    obtain ⟨d0, d1, d2, d3⟩ := rr_cells q2
    exact ⟨g, rfl, c0, d0, d1, d2, d3, Lib.hid ⟨h1, hbW.trans ((Below.refl _ W).drew.trans (h2.mono (B' := w.heap.size) (by show w.heap.size ≤ W.heap.size; omega))), q2⟩⟩))
  have HW := Lib.hid (And.intro U hbW); clear U hbW g1 g2 hsz N eW
  go_region_with ((first | (refine N2.mono ?_; rintro e w1 ⟨g, rfl, c0, d0, d1, d2, d3, hq⟩) | (refine (HW.out.1 _ _ hq.out.1).mono ?_; rintro e w2 ⟨rfl, rfl⟩)))
  all_goals (go_wp2_with fail; refine bodyPost_ret (ret_cell3 rfl _ _ (w.heap.size + 1) _ _ rfl (rr_store hq.out.2.2 _ _)) rfl ?_; exact ⟨rfl, HC.out, rr_below hq.out.2.1 (by omega) _ _⟩)
end Go.Proofs.Ytpnlcnilhlcfpaa
