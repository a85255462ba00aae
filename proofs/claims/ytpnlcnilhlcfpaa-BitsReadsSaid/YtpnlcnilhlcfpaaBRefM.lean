/- marchesref18, and known of the law. -/
import Derived.Test.YtpnlcnilhlcfpaaBRefL
set_option linter.unusedVariables false
namespace Go.Proofs.Ytpnlcnilhlcfpaa
open Go.RowKit
open M (numOf numOf_lt zeros zeros_le codeA zag)

/-- What is done where a parameter may be out of range. -/
def argA (m k : Int) (s : List Bool) (bad : Nat) (r : Nat × Nat × List Bool × Nat) : Nat × Nat × List Bool × Nat := if k < 0 ∨ m < k then (0, 2, s, bad) else r
def rdA (k : Int) (s : List Bool) (bad : Nat) := argA 64 k s bad (getA k.toNat s bad)
def rdC (k : Int) (s : List Bool) (bad : Nat) := argA 30 k s bad (getC k.toNat s bad)
/-- What read does, and known. -/
def rdAll (kind : Nat) (k : Int) (s : List Bool) (bad : Nat) : Nat × Nat × List Bool × Nat :=
  if kind % 3 = 0 then rdA k s bad else if kind % 3 = 1 then rdC k s bad else (zag (rdC k s bad).1, (rdC k s bad).2)
theorem rdC_lt (k : Int) (s : List Bool) (bad : Nat) : (rdC k s bad).1 < 18446744073709551616 := by
  unfold rdC argA
  split
  · simp
  · exact getC_lt _ s bad (by omega)
theorem GetAny18 (A : Option Addr) (n cap bad : Nat) (k : Int) (s : List Bool) (w : World) (h : RefR w A n cap s) (hb : bad ≠ 0 → s = []) :
    Calls Try.prog 20 #[rR A n cap bad, .int .i64 k] w fun r w' => ∃ A' n' cap', r = .returned (.tuple #[rR A' n' cap' (rdA k s bad).2.2.2, .int .u64 ((rdA k s bad).1 : Nat), .int .i64 ((rdA k s bad).2.1 : Nat)]) ∧ (∀ w0, RefR w0 A n cap s → RefR w0 A' n' cap' (rdA k s bad).2.2.1) ∧ Below w.heap.size w w' := by
  unfold rdA argA
  by_cases hk : k < 0 ∨ 64 < k
  · rw [if_pos hk]
    refine (Get18_arg A n cap bad k w hk).mono ?_
    rintro e w' ⟨rfl, h2⟩
    exact ⟨A, n, cap, rfl, fun w0 h0 => h0, h2⟩
  · rw [if_neg hk]
    have := Get18_to A n cap k.toNat bad s w h hb (by omega)
    rw [show ((k.toNat : Nat) : Int) = k from by omega] at this
    exact this
theorem GetCodeAny18 (A : Option Addr) (n cap bad : Nat) (k : Int) (s : List Bool) (w : World) (h : RefR w A n cap s) (hb : bad ≠ 0 → s = []) :
    Calls Try.prog 21 #[rR A n cap bad, .int .i64 k] w fun r w' => ∃ A' n' cap', r = .returned (.tuple #[rR A' n' cap' (rdC k s bad).2.2.2, .int .u64 ((rdC k s bad).1 : Nat), .int .i64 ((rdC k s bad).2.1 : Nat)]) ∧ (∀ w0, RefR w0 A n cap s → RefR w0 A' n' cap' (rdC k s bad).2.2.1) ∧ Below w.heap.size w w' := by
  unfold rdC argA
  by_cases hk : k < 0 ∨ 30 < k
  · rw [if_pos hk]
    refine (GetCode18_arg A n cap bad k w hk).mono ?_
    rintro e w' ⟨rfl, h2⟩
    exact ⟨A, n, cap, rfl, fun w0 h0 => h0, h2⟩
  · rw [if_neg hk]
    have := GetCode18_to A n cap k.toNat bad s w h hb (by omega)
    rw [show ((k.toNat : Nat) : Int) = k from by omega] at this
    exact this
theorem alloc3 (w : World) (a b c : Obj) : (((w.alloc a).alloc b).alloc c).heap[w.heap.size]? = some a ∧ (((w.alloc a).alloc b).alloc c).heap[w.heap.size + 1]? = some b ∧ (((w.alloc a).alloc b).alloc c).heap[w.heap.size + 1 + 1]? = some c := by
  refine ⟨?_, ?_, ?_⟩
  · exact (Below.heap_alloc _ _ _ (by simp; omega)).trans ((Below.heap_alloc _ _ _ (by simp)).trans (heap_alloc_new w _))
  · exact (Below.heap_alloc _ _ _ (by simp)).trans (heap_alloc2_new w _ _)
  · have := heap_alloc_new ((w.alloc a).alloc b) c
    have e : ((w.alloc a).alloc b).heap.size = w.heap.size + 1 + 1 := by simp
    rw [e] at this
    exact this
set_option maxRecDepth 100000 in
set_option maxHeartbeats 1600000 in
theorem known_ok (A : Option Addr) (n cap bad kind : Nat) (k nn : Int) (s : List Bool) (w : World) (h : RefR w A n cap s) (hb : bad ≠ 0 → s = []) (hk : kind < 256) :
    Calls Try.prog 10 #[rR A n cap bad, .agg #[.int .u8 (kind : Int), .int .u64 nn, .int .i64 k]] w fun r w' => ∃ A' n' cap', r = .returned (.tuple #[rR A' n' cap' (rdAll kind k s bad).2.2.2, .int .u64 ((rdAll kind k s bad).1 : Nat), .int .i64 ((rdAll kind k s bad).2.1 : Nat)]) ∧ (∀ w0, RefR w0 A n cap s → RefR w0 A' n' cap' (rdAll kind k s bad).2.2.1) ∧ Below w.heap.size w w' := by
  have hbl := fun o o2 o3 : Obj => ((((Below.refl w.heap.size w).alloc (Nat.le_refl _) o).alloc (by simp) o2).alloc (by simp; omega) o3)
  unfold rdAll
  by_cases h0 : kind % 3 = 0
  · rw [if_pos h0]
    have G := fun (W : World) (hW : Below w.heap.size w W) => GetAny18 A n cap bad k s W (h.below hW) hb
    generalize rdA k s bad = r at G ⊢
    obtain ⟨v, er, t, b2⟩ := r
    have e0 : ((kind : Int) % 3 == 0) = true := by rw [beq_iff_eq]; omega
    have e1 : (kind % 3 == 0) = true := by rw [beq_iff_eq]; exact h0
    simp only at G ⊢
    have HH := Lib.hid h
    have HG := Lib.hid (And.intro G hbl); clear G hbl h hb h0 hk
    unfold rR at HG ⊢
    go_enter Try.func10, Try.ntmps10
    go_wp2_with fail
    obtain ⟨W, eW⟩ : ∃ W, W = (((w.alloc (Obj.cells #[Value.slice A n cap, Value.int .i64 (bad : Nat)] 30)).alloc (Obj.cells #[.int .u8 (kind : Int), .int .u64 nn, .int .i64 k] 35)).alloc (Obj.cells #[Value.slice none 0 0, Value.int .i64 0] 30)) := ⟨_, rfl⟩
    have hbW : Below w.heap.size w W := by rw [eW]; exact HG.out.2 _ _ _
    have g3 : W.heap[w.heap.size + 1 + 1]? = some (.cells #[Value.slice none 0 0, Value.int .i64 0] 30 (0, 0)) := by rw [eW]; exact (alloc3 w _ _ _).2.2
    rw [← eW]
    have N := HG.out.1 W hbW
    have HW := Lib.hid (And.intro hbW g3); clear hbW g3 eW
    refine N.mono ?_
    rintro e w1 ⟨A', n', cap', rfl, h1, h2⟩
    have q3 := (h2.block _ (lt_of_block HW.out.2)).trans HW.out.2
    obtain ⟨d0, d1, d2, d3⟩ := rr_cells q3
    have HQ := Lib.hid (And.intro q3 (And.intro (HW.out.1.trans (h2.mono HW.out.1.size)) h1)); clear q3 h1 h2 N
    go_wp2_with fail
    refine bodyPost_ret (ret_cell3 rfl _ _ (w.heap.size + 1 + 1) _ _ rfl (rr_store HQ.out.1 _ _)) rfl ?_
    exact ⟨_, _, _, rfl, HQ.out.2.2, rr_below HQ.out.2.1 (by omega) _ _⟩
  · rw [if_neg h0]
    have G := fun (W : World) (hW : Below w.heap.size w W) => GetCodeAny18 A n cap bad k s W (h.below hW) hb
    have hlt := rdC_lt k s bad
    generalize rdC k s bad = r at G hlt ⊢
    obtain ⟨v, er, t, b2⟩ := r
    have e0 : ((kind : Int) % 3 == 0) = false := by rw [beq_eq_false_iff_ne]; omega
    have e1 : (kind % 3 == 0) = false := by rw [beq_eq_false_iff_ne]; exact h0
    simp only at G hlt ⊢
    have HH := Lib.hid h
    have HG := Lib.hid (And.intro G (And.intro hbl hlt)); clear G hbl h hb hlt
    unfold rR at HG ⊢
    by_cases h1 : kind % 3 = 1
    · rw [if_pos h1]
      have e2 : ((kind : Int) % 3 == 2) = false := by rw [beq_eq_false_iff_ne]; omega
      have e3 : (kind % 3 == 2) = false := by rw [beq_eq_false_iff_ne]; omega
      clear h0 h1 hk
      go_enter Try.func10, Try.ntmps10
      go_wp2_with fail
      obtain ⟨W, eW⟩ : ∃ W, W = (((w.alloc (Obj.cells #[Value.slice A n cap, Value.int .i64 (bad : Nat)] 30)).alloc (Obj.cells #[.int .u8 (kind : Int), .int .u64 nn, .int .i64 k] 35)).alloc (Obj.cells #[Value.slice none 0 0, Value.int .i64 0] 30)) := ⟨_, rfl⟩
      have hbW : Below w.heap.size w W := by rw [eW]; exact HG.out.2.1 _ _ _
      have g3 : W.heap[w.heap.size + 1 + 1]? = some (.cells #[Value.slice none 0 0, Value.int .i64 0] 30 (0, 0)) := by rw [eW]; exact (alloc3 w _ _ _).2.2
      have g2 : W.heap[w.heap.size + 1]? = some (.cells #[.int .u8 (kind : Int), .int .u64 nn, .int .i64 k] 35 (0, 0)) := by rw [eW]; exact (alloc3 w _ _ _).2.1
      rw [← eW]
      have N := HG.out.1 W hbW
      have HW := Lib.hid (And.intro hbW (And.intro g3 g2)); clear hbW g3 g2 eW
      refine N.mono ?_
      rintro e w1 ⟨A', n', cap', rfl, h1, h2⟩
      have q3 := (Below.heap_alloc w1 (Obj.cells #[Value.slice A' n' cap', Value.int .i64 (b2 : Nat)] 30) _ (lt_of_block ((h2.block _ (lt_of_block HW.out.2.1)).trans HW.out.2.1))).trans ((h2.block _ (lt_of_block HW.out.2.1)).trans HW.out.2.1)
      have q2 := (Below.heap_alloc w1 (Obj.cells #[Value.slice A' n' cap', Value.int .i64 (b2 : Nat)] 30) _ (lt_of_block ((h2.block _ (lt_of_block HW.out.2.2)).trans HW.out.2.2))).trans ((h2.block _ (lt_of_block HW.out.2.2)).trans HW.out.2.2)
      obtain ⟨d0, d1, d2, d3⟩ := rr_cells q3
      have i0 := (cell_of_block q2 0).trans (show (#[Value.int .u8 (kind : Int), .int .u64 nn, .int .i64 k])[0]? = some (.int .u8 (kind : Int)) from rfl)
      have hsz := h2.size
      have HQ := Lib.hid (And.intro q3 (And.intro ((HW.out.1.trans (h2.mono HW.out.1.size)).alloc (Nat.le_trans HW.out.1.size hsz) (Obj.cells #[Value.slice A' n' cap', Value.int .i64 (b2 : Nat)] 30)) h1)); clear q3 q2 h1 h2 N hsz
      go_wp2_with fail
      refine bodyPost_ret (ret_cell3 rfl _ _ (w.heap.size + 1 + 1) _ _ rfl (rr_store HQ.out.1 _ _)) rfl ?_
      exact ⟨_, _, _, rfl, HQ.out.2.2, rr_below HQ.out.2.1 (by omega) _ _⟩
    · rw [if_neg h1]
      have e2 : ((kind : Int) % 3 == 2) = true := by rw [beq_iff_eq]; omega
      have e3 : (kind % 3 == 2) = true := by rw [beq_iff_eq]; omega
      clear h0 h1 hk
      go_enter Try.func10, Try.ntmps10
      go_wp2_with fail
      obtain ⟨W, eW⟩ : ∃ W, W = (((w.alloc (Obj.cells #[Value.slice A n cap, Value.int .i64 (bad : Nat)] 30)).alloc (Obj.cells #[.int .u8 (kind : Int), .int .u64 nn, .int .i64 k] 35)).alloc (Obj.cells #[Value.slice none 0 0, Value.int .i64 0] 30)) := ⟨_, rfl⟩
      have hbW : Below w.heap.size w W := by rw [eW]; exact HG.out.2.1 _ _ _
      have g3 : W.heap[w.heap.size + 1 + 1]? = some (.cells #[Value.slice none 0 0, Value.int .i64 0] 30 (0, 0)) := by rw [eW]; exact (alloc3 w _ _ _).2.2
      have g2 : W.heap[w.heap.size + 1]? = some (.cells #[.int .u8 (kind : Int), .int .u64 nn, .int .i64 k] 35 (0, 0)) := by rw [eW]; exact (alloc3 w _ _ _).2.1
      rw [← eW]
      have N := HG.out.1 W hbW
      have HW := Lib.hid (And.intro hbW (And.intro g3 g2)); clear hbW g3 g2 eW
      refine N.mono ?_
      rintro e w1 ⟨A', n', cap', rfl, h1, h2⟩
      have q3 := (Below.heap_alloc w1 (Obj.cells #[Value.slice A' n' cap', Value.int .i64 (b2 : Nat)] 30) _ (lt_of_block ((h2.block _ (lt_of_block HW.out.2.1)).trans HW.out.2.1))).trans ((h2.block _ (lt_of_block HW.out.2.1)).trans HW.out.2.1)
      have q2 := (Below.heap_alloc w1 (Obj.cells #[Value.slice A' n' cap', Value.int .i64 (b2 : Nat)] 30) _ (lt_of_block ((h2.block _ (lt_of_block HW.out.2.2)).trans HW.out.2.2))).trans ((h2.block _ (lt_of_block HW.out.2.2)).trans HW.out.2.2)
      obtain ⟨d0, d1, d2, d3⟩ := rr_cells q3
      have i0 := (cell_of_block q2 0).trans (show (#[Value.int .u8 (kind : Int), .int .u64 nn, .int .i64 k])[0]? = some (.int .u8 (kind : Int)) from rfl)
      have hsz := h2.size
      have HQ := Lib.hid (And.intro q3 (And.intro ((HW.out.1.trans (h2.mono HW.out.1.size)).alloc (Nat.le_trans HW.out.1.size hsz) (Obj.cells #[Value.slice A' n' cap', Value.int .i64 (b2 : Nat)] 30)) h1)); clear q3 q2 h1 h2 N hsz
      go_wp2_with fail
      refine (Unsigned_ok v HG.out.2.2 _).mono ?_
      rintro e w2 ⟨rfl, rfl⟩
      have hwr : IntKind.u64.wrap (sOf (zag v)) = (zag v : Nat) := wrap_sOf (by have := M.zag_lt (v := v) (by have := HG.out.2.2; simpa using this); simpa using this)
      have HU := Lib.hid hwr; clear hwr
      go_wp2_with fail
      refine bodyPost_ret (ret_cell3 rfl _ _ (w.heap.size + 1 + 1) _ _ rfl (rr_store HQ.out.1 _ _)) rfl ?_
      refine ⟨_, _, _, ?_, HQ.out.2.2, rr_below HQ.out.2.1 (by omega) _ _⟩
      rw [← HU.out]
      rfl
end Go.Proofs.Ytpnlcnilhlcfpaa
