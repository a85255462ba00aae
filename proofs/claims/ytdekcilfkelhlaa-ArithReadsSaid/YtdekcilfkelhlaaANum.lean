/- Numbers. -/
import Derived.Test.YtdekcilfkelhlaaAEnd
set_option linter.unusedVariables false
namespace Go.Proofs.Ytdekcilfkelhlaa
open Go.RowKit

/-- A Number at block nb: its three models lie at b0, b1, b2. -/
def NOk (w : World) (nb b0 b1 b2 : Nat) : Prop := w.heap[nb]? = some (.cells #[.pointer (some ⟨b0, 0, none⟩), .pointer (some ⟨b1, 0, none⟩), .pointer (some ⟨b2, 0, none⟩)] 87 (0, 0))
theorem NewNumber_ok (w : World) :
    Calls Try.prog 35 #[] w fun e w' => ∃ nb b0 g0 b1 g1 b2 g2, e = .returned (.pointer (some ⟨nb, 0, none⟩)) ∧ NOk w' nb b0 b1 b2 ∧ MOk w' b0 g0 (List.replicate 65 1) ∧ MOk w' b1 g1 (List.replicate 2 1) ∧ MOk w' b2 g2 (List.replicate 2 1) ∧
      [b0, g0, b1, g1, b2, g2, nb].Nodup ∧ (∀ q, q ∈ [b0, g0, b1, g1, b2, g2, nb] → w.heap.size ≤ q) ∧ Below w.heap.size w w' := by
  go_enter Try.func35, Try.ntmps35
  go_wp2_with fail
  refine (NewModel_ok 65 w (by decide) (by decide)).mono ?_
  rintro e w1 ⟨b0, g0, rfl, h0, p0, q0, hb0⟩
  have H0 := Lib.hid (And.intro h0 (And.intro p0 (And.intro q0 hb0))); clear h0 p0 q0 hb0
  go_wp2_with fail
  refine (NewModel_ok 2 w1 (by decide) (by decide)).mono ?_
  rintro e w2 ⟨b1, g1, rfl, h1, p1, q1, hb1⟩
  have H1 := Lib.hid (And.intro h1 (And.intro p1 (And.intro q1 hb1))); clear h1 p1 q1 hb1
  go_wp2_with fail
  refine (NewModel_ok 2 w2 (by decide) (by decide)).mono ?_
  rintro e w3 ⟨b2, g2, rfl, h2, p2, q2, hb2⟩
  have H2 := Lib.hid (And.intro h2 (And.intro p2 (And.intro q2 hb2))); clear h2 p2 q2 hb2
  go_wp2_with fail
  go_ret
  obtain ⟨h0, p0, q0, hb0⟩ := H0.out
  obtain ⟨h1, p1, q1, hb1⟩ := H1.out
  obtain ⟨h2, p2, q2, hb2⟩ := H2.out
  have l0 := lt_of_block h0.blk
  have l0' := lt_of_block h0.row
  have l1 := lt_of_block h1.blk
  have l1' := lt_of_block h1.row
  have l2 := lt_of_block h2.blk
  have l2' := lt_of_block h2.row
  have n0 := h0.ne
  have n1 := h1.ne
  have n2 := h2.ne
  have s0 := hb0.size
  have s1 := hb1.size
  have s2 := hb2.size
  have hb3 : Below w3.heap.size w3 (w3.alloc (.cells #[.pointer (some ⟨b0, 0, none⟩), .pointer (some ⟨b1, 0, none⟩), .pointer (some ⟨b2, 0, none⟩)] 87)) := (Below.refl _ _).alloc (Nat.le_refl _) _
  refine ⟨w3.heap.size, b0, g0, b1, g1, b2, g2, rfl, heap_alloc_new w3 _, ((h0.below hb1).below hb2).below hb3, (h1.below hb2).below hb3, h2.below hb3, ?_, ?_, then_ (then_ (then_ hb0 hb1) hb2) hb3⟩
  · simp only [List.nodup_cons, List.mem_cons, List.not_mem_nil, or_false, not_or, List.nodup_nil, and_true, not_false_eq_true]
    omega
  · intro q hq
    simp only [List.mem_cons, List.not_mem_nil, or_false] at hq
    omega
theorem Nthere_ok {nb b0 b1 b2 g0 : Nat} {fr : List Nat} (w : World) (h : NOk w nb b0 b1 b2) (hm : MOk w b0 g0 fr) :
    Calls Try.prog 60 #[.pointer (some ⟨nb, 0, none⟩)] w fun e w' => e = .returned (.bool true) ∧ w = w' := by
  have c0 := (cell_of_block h 0).trans rfl
  have ht := there_ok w hm
  have H := Lib.hid ht
  clear h hm ht
  go_enter Try.func60, Try.ntmps60
  go_wp2_with fail
  refine H.out.mono ?_
  rintro e w' ⟨rfl, rfl⟩
  go_wp2_with fail
  go_ret
  exact ⟨rfl, rfl⟩
theorem bit_of_ok {nb b0 b1 b2 : Nat} (k below : Nat) (w : World) (h : NOk w nb b0 b1 b2) (hk : k ≤ 64) (hb : below + 2 ≤ k) :
    Calls Try.prog 61 #[.pointer (some ⟨nb, 0, none⟩), .int .i64 (k : Nat), .int .i64 (below : Nat)] w fun e w' => e = .returned (.pointer (some ⟨if below + 2 = k then b1 else b2, 0, none⟩)) ∧ w = w' := by
  have c1 := (cell_of_block h 1).trans rfl
  have c2 := (cell_of_block h 2).trans rfl
  clear h
  by_cases hq : below + 2 = k
  · rw [if_pos hq]
    have hd : ((below : Int) == (k : Int) - 2) = true := by rw [beq_iff_eq]; omega
    clear hq
    go_enter Try.func61, Try.ntmps61
    go_wp2_with fail
    go_ret
    exact ⟨rfl, rfl⟩
  · rw [if_neg hq]
    have hd : ((below : Int) == (k : Int) - 2) = false := by rw [beq_eq_false_iff_ne]; omega
    clear hq
    go_enter Try.func61, Try.ntmps61
    go_wp2_with fail
    go_ret
    exact ⟨rfl, rfl⟩
end Go.Proofs.Ytdekcilfkelhlaa
