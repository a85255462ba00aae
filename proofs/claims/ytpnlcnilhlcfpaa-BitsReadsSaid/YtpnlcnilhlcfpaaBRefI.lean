/- marchesref18: Get at the ends of its string. -/
import Derived.Test.YtpnlcnilhlcfpaaBRefH
set_option linter.unusedVariables false
namespace Go.Proofs.Ytpnlcnilhlcfpaa
open Go.RowKit
open M (numOf numOf_lt)

set_option maxRecDepth 100000 in
set_option maxHeartbeats 1600000 in
theorem Get18_zero (A : Option Addr) (n cap : Nat) (k : Nat) (s : List Bool) (w : World) (h : RefR w A n cap s) (hk : k ≤ 64) (hl : k ≤ s.length) (b o : Nat) (hA : A = some ⟨b, o, none⟩) (j0 : k = 0) :
    Calls Try.prog 20 #[rR A n cap 0, .int .i64 (k : Nat)] w fun r w' => r = .returned (.tuple #[rR (cutA A k cap) (n - k) (cap - k) 0, .int .u64 (numOf (s.take k) : Nat), .int .i64 0]) ∧ RefR w (cutA A k cap) (n - k) (cap - k) (s.drop k) ∧ Below w.heap.size w w' := by
  have hb := fun o o2 : Obj => (((Below.refl w.heap.size w).alloc (Nat.le_refl _) o).alloc (by simp) o2)
  have HC := Lib.hid (h.cut hl)
  have hn := h.len
  have hle := h.le
  have hfew := h.few
  have hnum := fun (W : World) (hW : Below w.heap.size w W) => number_run W A (s.take k) cap (h.bits.take k |>.below hW) (by rw [List.length_take]; omega)
  have hlk : (s.take k).length = k := by rw [List.length_take]; omega
  rw [hlk] at hnum
  have hval : numOf (s.take k) < 18446744073709551616 := by
    have a := numOf_lt (s.take k)
    rw [hlk] at a
    have c : 2 ^ k ≤ 2 ^ 64 := Nat.pow_le_pow_right (by decide) hk
    have d : (18446744073709551616 : Nat) = 2 ^ 64 := rfl
    omega
  have HB := Lib.hid (And.intro hb (And.intro hnum hval)); clear hb hnum hval
  generalize numOf (s.take k) = v at HB ⊢
  have i0 : (0 : Int) ≤ (k : Int) := by omega
  have i1 : (k : Int) ≤ (n : Int) := by omega
  have i2 : (n : Int) ≤ (cap : Int) := by omega
  have i3 : (k : Int) ≤ (cap : Int) := by omega
  have i4 : ¬ n < k := by omega
  have i5 : (k : Int) ≤ 64 := by omega
  clear hn hle hk hl hlk hfew
  subst hA
  clear h
  subst j0
  have hcut : cutA (some ⟨b, o, none⟩) 0 cap = some ⟨b, o, none⟩ := rfl
  rw [hcut] at HC ⊢
  unfold rR
  go_enter Try.func20, Try.ntmps20
  go_wp2_with fail
  obtain ⟨W, eW⟩ : ∃ W, W = (w.alloc (Obj.cells #[Value.slice (some ⟨b, o, none⟩) n cap, Value.int .i64 0] 30)).alloc (Obj.cells #[Value.slice none 0 0, Value.int .i64 0] 30) := ⟨_, rfl⟩
  rw [← eW]
  have hbW : Below w.heap.size w W := by rw [eW]; exact HB.out.1 _ _
  have g1 : W.heap[w.heap.size]? = some (.cells #[Value.slice (some ⟨b, o, none⟩) n cap, Value.int .i64 0] 30 (0, 0)) := by rw [eW]; exact (Below.heap_alloc _ _ _ (by simp)).trans (heap_alloc_new w _)
  have g2 : W.heap[w.heap.size + 1]? = some (.cells #[Value.slice none 0 0, Value.int .i64 0] 30 (0, 0)) := by rw [eW]; exact heap_alloc2_new w _ _
  have hsz : W.heap.size = w.heap.size + 2 := by rw [eW]; simp
  have N := HB.out.2.1 W.drew hbW.drew
  have U := fun (w1 : World) (g : Nat) (h : NumAt w1 W.heap.size g v) => int_uint64 w1 W.heap.size g v h HB.out.2.2
  obtain ⟨b0, b1, -, -⟩ := rr_cells g1
  have N2 := N.mono (fun e w1 h => (show ∃ g, e = .returned (.pointer (some ⟨g, 0, none⟩)) ∧ w1.cell? ⟨w.heap.size, 0, none⟩ = some (Value.slice (some ⟨b, o, none⟩) n cap) ∧ w1.cell? ⟨w.heap.size + 1, 0, none⟩ = some (Value.slice none 0 0) ∧ w1.cell? ⟨w.heap.size + 1, 1, none⟩ = some (.int .i64 0) ∧ w1.frozen? ⟨w.heap.size + 1, 0, none⟩ = false ∧ w1.frozen? ⟨w.heap.size + 1, 1, none⟩ = false ∧
      Hid (NumAt w1 W.heap.size g v ∧ Below w.heap.size w w1 ∧ w1.heap[w.heap.size + 1]? = some (.cells #[Value.slice none 0 0, Value.int .i64 0] 30 (0, 0))) from by
    obtain ⟨g, rfl, h1, h2⟩ := h
    have q1 := (h2.block w.heap.size (by show _ < W.heap.size; omega)).trans g1
    have q2 := (h2.block (w.heap.size + 1) (by show _ < W.heap.size; omega)).trans g2
    obtain ⟨c0, c1, -, -⟩ := rr_cells q1
    obtain ⟨d0, d1, d2, d3⟩ := rr_cells q2
    exact ⟨g, rfl, c0, d0, d1, d2, d3, Lib.hid ⟨h1, hbW.trans ((Below.refl _ W).drew.trans (h2.mono (B' := w.heap.size) (by show w.heap.size ≤ W.heap.size; omega))), q2⟩⟩))
  have HW := Lib.hid (And.intro U hbW); clear U hbW g1 g2 hsz N eW
  go_region_with ((first | (refine N2.mono ?_; rintro e w1 ⟨g, rfl, c0, d0, d1, d2, d3, hq⟩) | (refine (HW.out.1 _ _ hq.out.1).mono ?_; rintro e w2 ⟨rfl, rfl⟩)))
  all_goals (go_wp2_with fail; refine bodyPost_ret (ret_cell3 rfl _ _ (w.heap.size + 1) _ _ rfl (rr_store hq.out.2.2 _ _)) rfl ?_; exact ⟨rfl, HC.out, rr_below hq.out.2.1 (by omega) _ _⟩)

set_option maxRecDepth 100000 in
set_option maxHeartbeats 1600000 in
theorem Get18_end (A : Option Addr) (n cap : Nat) (k : Nat) (s : List Bool) (w : World) (h : RefR w A n cap s) (hk : k ≤ 64) (hl : k ≤ s.length) (b o : Nat) (hA : A = some ⟨b, o, none⟩) (j0 : ¬ k = 0) (j1 : cap = k) (j2 : n = k) :
    Calls Try.prog 20 #[rR A n cap 0, .int .i64 (k : Nat)] w fun r w' => r = .returned (.tuple #[rR (cutA A k cap) (n - k) (cap - k) 0, .int .u64 (numOf (s.take k) : Nat), .int .i64 0]) ∧ RefR w (cutA A k cap) (n - k) (cap - k) (s.drop k) ∧ Below w.heap.size w w' := by
  have hb := fun o o2 : Obj => (((Below.refl w.heap.size w).alloc (Nat.le_refl _) o).alloc (by simp) o2)
  have HC := Lib.hid (h.cut hl)
  have hn := h.len
  have hle := h.le
  have hfew := h.few
  have hnum := fun (W : World) (hW : Below w.heap.size w W) => number_run W A (s.take k) cap (h.bits.take k |>.below hW) (by rw [List.length_take]; omega)
  have hlk : (s.take k).length = k := by rw [List.length_take]; omega
  rw [hlk] at hnum
  have hval : numOf (s.take k) < 18446744073709551616 := by
    have a := numOf_lt (s.take k)
    rw [hlk] at a
    have c : 2 ^ k ≤ 2 ^ 64 := Nat.pow_le_pow_right (by decide) hk
    have d : (18446744073709551616 : Nat) = 2 ^ 64 := rfl
    omega
  have HB := Lib.hid (And.intro hb (And.intro hnum hval)); clear hb hnum hval
  generalize numOf (s.take k) = v at HB ⊢
  have i0 : (0 : Int) ≤ (k : Int) := by omega
  have i1 : (k : Int) ≤ (n : Int) := by omega
  have i2 : (n : Int) ≤ (cap : Int) := by omega
  have i3 : (k : Int) ≤ (cap : Int) := by omega
  have i4 : ¬ n < k := by omega
  have i5 : (k : Int) ≤ 64 := by omega
  clear hn hle hk hl hlk hfew
  subst hA
  clear h
  subst j1
  subst j2
  have hcut : cutA (some ⟨b, o, none⟩) n n = some ⟨b, o, none⟩ := by unfold cutA; rw [if_neg j0, if_pos rfl]
  rw [hcut, Nat.sub_self] at HC ⊢
  unfold rR
  go_enter Try.func20, Try.ntmps20
  go_wp2_with fail
  obtain ⟨W, eW⟩ : ∃ W, W = (w.alloc (Obj.cells #[Value.slice (some ⟨b, o, none⟩) n n, Value.int .i64 0] 30)).alloc (Obj.cells #[Value.slice none 0 0, Value.int .i64 0] 30) := ⟨_, rfl⟩
  rw [← eW]
  have hbW : Below w.heap.size w W := by rw [eW]; exact HB.out.1 _ _
  have g1 : W.heap[w.heap.size]? = some (.cells #[Value.slice (some ⟨b, o, none⟩) n n, Value.int .i64 0] 30 (0, 0)) := by rw [eW]; exact (Below.heap_alloc _ _ _ (by simp)).trans (heap_alloc_new w _)
  have g2 : W.heap[w.heap.size + 1]? = some (.cells #[Value.slice none 0 0, Value.int .i64 0] 30 (0, 0)) := by rw [eW]; exact heap_alloc2_new w _ _
  have hsz : W.heap.size = w.heap.size + 2 := by rw [eW]; simp
  have N := HB.out.2.1 W.drew hbW.drew
  have U := fun (w1 : World) (g : Nat) (h : NumAt w1 W.heap.size g v) => int_uint64 w1 W.heap.size g v h HB.out.2.2
  obtain ⟨b0, b1, -, -⟩ := rr_cells g1
  have N2 := N.mono (fun e w1 h => (show ∃ g, e = .returned (.pointer (some ⟨g, 0, none⟩)) ∧ w1.cell? ⟨w.heap.size, 0, none⟩ = some (Value.slice (some ⟨b, o, none⟩) n n) ∧ w1.cell? ⟨w.heap.size + 1, 0, none⟩ = some (Value.slice none 0 0) ∧ w1.cell? ⟨w.heap.size + 1, 1, none⟩ = some (.int .i64 0) ∧ w1.frozen? ⟨w.heap.size + 1, 0, none⟩ = false ∧ w1.frozen? ⟨w.heap.size + 1, 1, none⟩ = false ∧
      Hid (NumAt w1 W.heap.size g v ∧ Below w.heap.size w w1 ∧ w1.heap[w.heap.size + 1]? = some (.cells #[Value.slice none 0 0, Value.int .i64 0] 30 (0, 0))) from by
    obtain ⟨g, rfl, h1, h2⟩ := h
    have q1 := (h2.block w.heap.size (by show _ < W.heap.size; omega)).trans g1
    have q2 := (h2.block (w.heap.size + 1) (by show _ < W.heap.size; omega)).trans g2
    obtain ⟨c0, c1, -, -⟩ := rr_cells q1
    obtain ⟨d0, d1, d2, d3⟩ := rr_cells q2
    exact ⟨g, rfl, c0, d0, d1, d2, d3, Lib.hid ⟨h1, hbW.trans ((Below.refl _ W).drew.trans (h2.mono (B' := w.heap.size) (by show w.heap.size ≤ W.heap.size; omega))), q2⟩⟩))
  have HW := Lib.hid (And.intro U hbW); clear U hbW g1 g2 hsz N eW
  go_region_with ((first | (refine N2.mono ?_; rintro e w1 ⟨g, rfl, c0, d0, d1, d2, d3, hq⟩) | (refine (HW.out.1 _ _ hq.out.1).mono ?_; rintro e w2 ⟨rfl, rfl⟩)))
  all_goals (go_wp2_with fail; refine bodyPost_ret (ret_cell3 rfl _ _ (w.heap.size + 1) _ _ rfl (rr_store hq.out.2.2 _ _)) rfl ?_; exact ⟨rfl, HC.out, rr_below hq.out.2.1 (by omega) _ _⟩)

set_option maxRecDepth 100000 in
set_option maxHeartbeats 1600000 in
theorem Get18_nil (A : Option Addr) (n cap : Nat) (k : Nat) (s : List Bool) (w : World) (h : RefR w A n cap s) (hk : k ≤ 64) (hl : k ≤ s.length) (hA : A = none) (j0 : k = 0) (j1 : cap = 0) (j2 : n = 0) :
    Calls Try.prog 20 #[rR A n cap 0, .int .i64 (k : Nat)] w fun r w' => r = .returned (.tuple #[rR (cutA A k cap) (n - k) (cap - k) 0, .int .u64 (numOf (s.take k) : Nat), .int .i64 0]) ∧ RefR w (cutA A k cap) (n - k) (cap - k) (s.drop k) ∧ Below w.heap.size w w' := by
  have hb := fun o o2 : Obj => (((Below.refl w.heap.size w).alloc (Nat.le_refl _) o).alloc (by simp) o2)
  have HC := Lib.hid (h.cut hl)
  have hn := h.len
  have hle := h.le
  have hfew := h.few
  have hnum := fun (W : World) (hW : Below w.heap.size w W) => number_run W A (s.take k) cap (h.bits.take k |>.below hW) (by rw [List.length_take]; omega)
  have hlk : (s.take k).length = k := by rw [List.length_take]; omega
  rw [hlk] at hnum
  have hval : numOf (s.take k) < 18446744073709551616 := by
    have a := numOf_lt (s.take k)
    rw [hlk] at a
    have c : 2 ^ k ≤ 2 ^ 64 := Nat.pow_le_pow_right (by decide) hk
    have d : (18446744073709551616 : Nat) = 2 ^ 64 := rfl
    omega
  have HB := Lib.hid (And.intro hb (And.intro hnum hval)); clear hb hnum hval
  generalize numOf (s.take k) = v at HB ⊢
  have i0 : (0 : Int) ≤ (k : Int) := by omega
  have i1 : (k : Int) ≤ (n : Int) := by omega
  have i2 : (n : Int) ≤ (cap : Int) := by omega
  have i3 : (k : Int) ≤ (cap : Int) := by omega
  have i4 : ¬ n < k := by omega
  have i5 : (k : Int) ≤ 64 := by omega
  clear hn hle hk hl hlk hfew
  subst hA
  clear h
  subst j0
  subst j1
  subst j2
  have hcut : cutA none 0 0 = none := rfl
  rw [hcut] at HC ⊢
  unfold rR
  go_enter Try.func20, Try.ntmps20
  go_wp2_with fail
  obtain ⟨W, eW⟩ : ∃ W, W = (w.alloc (Obj.cells #[Value.slice none 0 0, Value.int .i64 0] 30)).alloc (Obj.cells #[Value.slice none 0 0, Value.int .i64 0] 30) := ⟨_, rfl⟩
  rw [← eW]
  have hbW : Below w.heap.size w W := by rw [eW]; exact HB.out.1 _ _
  have g1 : W.heap[w.heap.size]? = some (.cells #[Value.slice none 0 0, Value.int .i64 0] 30 (0, 0)) := by rw [eW]; exact (Below.heap_alloc _ _ _ (by simp)).trans (heap_alloc_new w _)
  have g2 : W.heap[w.heap.size + 1]? = some (.cells #[Value.slice none 0 0, Value.int .i64 0] 30 (0, 0)) := by rw [eW]; exact heap_alloc2_new w _ _
  have hsz : W.heap.size = w.heap.size + 2 := by rw [eW]; simp
  have N := HB.out.2.1 W.drew hbW.drew
  have U := fun (w1 : World) (g : Nat) (h : NumAt w1 W.heap.size g v) => int_uint64 w1 W.heap.size g v h HB.out.2.2
  obtain ⟨b0, b1, -, -⟩ := rr_cells g1
  have N2 := N.mono (fun e w1 h => (show ∃ g, e = .returned (.pointer (some ⟨g, 0, none⟩)) ∧ w1.cell? ⟨w.heap.size, 0, none⟩ = some (Value.slice none 0 0) ∧ w1.cell? ⟨w.heap.size + 1, 0, none⟩ = some (Value.slice none 0 0) ∧ w1.cell? ⟨w.heap.size + 1, 1, none⟩ = some (.int .i64 0) ∧ w1.frozen? ⟨w.heap.size + 1, 0, none⟩ = false ∧ w1.frozen? ⟨w.heap.size + 1, 1, none⟩ = false ∧
      Hid (NumAt w1 W.heap.size g v ∧ Below w.heap.size w w1 ∧ w1.heap[w.heap.size + 1]? = some (.cells #[Value.slice none 0 0, Value.int .i64 0] 30 (0, 0))) from by
    obtain ⟨g, rfl, h1, h2⟩ := h
    have q1 := (h2.block w.heap.size (by show _ < W.heap.size; omega)).trans g1
    have q2 := (h2.block (w.heap.size + 1) (by show _ < W.heap.size; omega)).trans g2
    obtain ⟨c0, c1, -, -⟩ := rr_cells q1
    obtain ⟨d0, d1, d2, d3⟩ := rr_cells q2
    exact ⟨g, rfl, c0, d0, d1, d2, d3, Lib.hid ⟨h1, hbW.trans ((Below.refl _ W).drew.trans (h2.mono (B' := w.heap.size) (by show w.heap.size ≤ W.heap.size; omega))), q2⟩⟩))
  have HW := Lib.hid (And.intro U hbW); clear U hbW g1 g2 hsz N eW
  go_region_with ((first | (refine N2.mono ?_; rintro e w1 ⟨g, rfl, c0, d0, d1, d2, d3, hq⟩) | (refine (HW.out.1 _ _ hq.out.1).mono ?_; rintro e w2 ⟨rfl, rfl⟩)))
  all_goals (go_wp2_with fail; refine bodyPost_ret (ret_cell3 rfl _ _ (w.heap.size + 1) _ _ rfl (rr_store hq.out.2.2 _ _)) rfl ?_; exact ⟨rfl, HC.out, rr_below hq.out.2.1 (by omega) _ _⟩)

theorem Get18_ok (A : Option Addr) (n cap : Nat) (k : Nat) (s : List Bool) (w : World) (h : RefR w A n cap s) (hk : k ≤ 64) (hl : k ≤ s.length) :
    Calls Try.prog 20 #[rR A n cap 0, .int .i64 (k : Nat)] w fun r w' => r = .returned (.tuple #[rR (cutA A k cap) (n - k) (cap - k) 0, .int .u64 (numOf (s.take k) : Nat), .int .i64 0]) ∧ RefR w (cutA A k cap) (n - k) (cap - k) (s.drop k) ∧ Below w.heap.size w w' := by
  rcases e : A with _ | ad
  · have hc := h.nil e
    have := h.le
    have := h.len
    rw [← e]
    exact Get18_nil A n cap k s w h hk hl e (by omega) hc (by omega)
  · obtain ⟨b, o, rfl⟩ := h.off ad e
    rw [← e]
    have := h.le
    have := h.len
    by_cases j0 : k = 0
    · exact Get18_zero A n cap k s w h hk hl b o e j0
    · by_cases j1 : cap = k
      · exact Get18_end A n cap k s w h hk hl b o e j0 j1 (by omega)
      · exact Get18_mid A n cap k s w h hk hl b o e j0 j1
end Go.Proofs.Ytpnlcnilhlcfpaa
