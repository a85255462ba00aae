/- marchesref18: GetCode, where it fails. -/
import Derived.Test.YtpnlcnilhlcfpaaBRefI
set_option linter.unusedVariables false
namespace Go.Proofs.Ytpnlcnilhlcfpaa
open Go.RowKit
open M (numOf numOf_lt zeros zeros_le zeros_getD zeros_one codeA)

theorem GetCode18_arg (A : Option Addr) (n cap bad : Nat) (k : Int) (w : World) (hk : k < 0 ∨ 30 < k) :
    Calls Try.prog 21 #[rR A n cap bad, .int .i64 k] w fun r w' => r = .returned (.tuple #[rR A n cap bad, .int .u64 0, .int .i64 2]) ∧ Below w.heap.size w w' := by
  have hb := fun o o2 : Obj => ((Below.refl w.heap.size w).alloc (Nat.le_refl _) o).alloc (by simp) o2
  have HB := Lib.hid hb; clear hb
  unfold rR
  by_cases h : k < 0
  · go_enter Try.func21, Try.ntmps21
    go_wp2_with fail
    refine bodyPost_ret (ret_cell3 rfl _ _ (w.heap.size + 1) _ _ rfl (heap_alloc2_new w _ _)) rfl ?_
    exact ⟨rfl, HB.out _ _⟩
  · have h2 : 30 < k := by omega
    go_enter Try.func21, Try.ntmps21
    go_wp2_with fail
    refine bodyPost_ret (ret_cell3 rfl _ _ (w.heap.size + 1) _ _ rfl (heap_alloc2_new w _ _)) rfl ?_
    exact ⟨rfl, HB.out _ _⟩
theorem GetCode18_bad (A : Option Addr) (n cap bad : Nat) (k : Int) (w : World) (k0 : 0 ≤ k) (k1 : k ≤ 30) (hbad : bad ≠ 0) :
    Calls Try.prog 21 #[rR A n cap bad, .int .i64 k] w fun r w' => r = .returned (.tuple #[rR A n cap bad, .int .u64 0, .int .i64 (bad : Nat)]) ∧ Below w.heap.size w w' := by
  have hb := fun o o2 : Obj => (((Below.refl w.heap.size w).alloc (Nat.le_refl _) o).alloc (by simp) o2).drew
  have HB := Lib.hid hb; clear hb
  have h1 : ((bad : Int) != 0) = true := by rw [bne_iff_ne]; omega
  have h2 : ((bad : Int) == 0) = false := decide_eq_false (by omega)
  unfold rR
  go_enter Try.func21, Try.ntmps21
  go_wp2_with fail
  go_region
  all_goals (go_wp2_with fail; refine bodyPost_ret (ret_cell3 rfl _ _ (w.heap.size + 1) _ _ rfl (heap_alloc2_new w _ _)) rfl ?_; exact ⟨rfl, HB.out _ _⟩)
theorem w64 {x : Int} (h : 0 ≤ x) (h2 : x ≤ 9223372036854775807) : wrap64 x = x := by unfold wrap64; omega
theorem len_wrap {q k L : Nat} (hq : q ≤ 4000000) (hk : k ≤ 30) (hL : L = 2 * q + k + 1) : wrap64 (wrap64 (wrap64 (2 * (q : Int)) + (k : Int)) + 1) = (L : Nat) := by
  rw [w64 (x := 2 * (q : Int)) (by omega) (by omega), w64 (x := 2 * (q : Int) + (k : Int)) (by omega) (by omega), w64 (by omega) (by omega)]
  omega
theorem zeros_at {s : List Bool} {i : Nat} (h : i < zeros s) (hl : i < s.length) : s[i].toNat = 0 := by
  have := zeros_getD s i h
  rw [List.getD_eq_getElem?_getD, List.getElem?_eq_getElem hl] at this
  simp at this
  rw [this]; rfl
theorem one_at {s : List Bool} (h : zeros s < s.length) : s[zeros s].toNat = 1 := by
  have := zeros_one s h
  rw [List.getD_eq_getElem?_getD, List.getElem?_eq_getElem h] at this
  simp at this
  rw [this]; rfl
set_option maxRecDepth 100000 in
/-- Where the code is too short, or its length is out of range. -/
theorem GetCode18_err (A : Option Addr) (n cap k E : Nat) (s : List Bool) (w : World) (h : RefR w A n cap s) (hk : k ≤ 30) (he : 64 < zeros s + k ∧ E = 181 ∨ zeros s + k ≤ 64 ∧ E = 180 ∧ (zeros s = s.length ∨ s.length < 2 * zeros s + k + 1)) :
    Calls Try.prog 21 #[rR A n cap 0, .int .i64 (k : Nat)] w fun r w' => r = .returned (.tuple #[rR none 0 0 E, .int .u64 0, .int .i64 (E : Nat)]) ∧ Below w.heap.size w w' := by
  have hb := fun o o2 : Obj => (((Below.refl w.heap.size w).alloc (Nat.le_refl _) o).alloc (by simp) o2)
  have F := fun W => fail_ok E W
  have hz := zeros_le s
  have hn := h.len
  have hfew := h.few
  have hle := h.le
  obtain ⟨z, ez⟩ : ∃ z, z = zeros s := ⟨_, rfl⟩
  have HS := Lib.hid (And.intro h (And.intro ez (And.intro hb (And.intro hn (And.intro hfew (And.intro hle (And.intro hz he)))))))
  clear h hz hn ez he hb hfew hle
  have i5 : (k : Int) ≤ 30 := by omega
  have i0 : (0 : Int) ≤ (k : Int) := by omega
  have hk2 := Lib.hid hk; clear hk
  unfold rR at F ⊢
  go_enter Try.func21, Try.ntmps21
  go_wp2_with fail
  obtain ⟨W, eW⟩ : ∃ W, W = (w.alloc (Obj.cells #[Value.slice A n cap, Value.int .i64 0] 30)).alloc (Obj.cells #[Value.slice none 0 0, Value.int .i64 0] 30) := ⟨_, rfl⟩
  rw [← eW]
  have hbW : Below w.heap.size w W := by rw [eW]; exact HS.out.2.2.1 _ _
  have g1 : W.heap[w.heap.size]? = some (.cells #[Value.slice A n cap, Value.int .i64 0] 30 (0, 0)) := by rw [eW]; exact (Below.heap_alloc _ _ _ (by simp)).trans (heap_alloc_new w _)
  have g2 : W.heap[w.heap.size + 1]? = some (.cells #[Value.slice none 0 0, Value.int .i64 0] 30 (0, 0)) := by rw [eW]; exact heap_alloc2_new w _ _
  obtain ⟨b0, b1, -, -⟩ := rr_cells g1
  have HW := Lib.hid (And.intro hbW (And.intro g1 g2)); clear hbW g1 g2 eW
  go_loopg [7] z (fun gh iv wr => ∃ q : Nat, gh = z - q ∧ q ≤ z ∧ iv = .int .i64 (q : Nat) ∧ W = wr)
  case atStart => exact ⟨0, rfl, Nat.zero_le _, rfl, rfl⟩
  case round =>
    obtain ⟨q, hgh, hq, rfl, rfl⟩ := hrel
    have Hgh := Lib.hid (And.intro hgh hq); clear hgh hq
    by_cases hlt : q < z
    · have hqs : q < s.length := by have := HS.out.2.2.2.2.2.2.1; have := HS.out.2.1; omega
      obtain ⟨b, o, rfl, hb, hc⟩ := HS.out.1.bits q hqs
      rw [zeros_at (by rw [← HS.out.2.1]; exact hlt) hqs] at hc
      have c1 : W.cell? ⟨b, o + q, none⟩ = some (.int .i64 0) := (HW.out.1.cell (p := ⟨b, o + q, none⟩) hb).trans hc
      have j1 : decide (q < n) = true := decide_eq_true (by have := HS.out.2.2.2.1; omega)
      have j2 : (q : Int) < (n : Int) := by have := HS.out.2.2.2.1; omega
      have j3 : (0 : Int) ≤ (q : Int) := by omega
      have Hlt := Lib.hid (And.intro hlt (And.intro hqs (And.intro hb hc))); clear hlt hqs hb hc
      go_wp2_with fail
      go_roundg (z - (q + 1))
      case measure => have := Hgh.out; have := Hlt.out.1; omega
      case rel => exact ⟨q + 1, rfl, by have := Hlt.out.1; omega, by rw [show wrap64 ((q : Int) + 1) = ((q + 1 : Nat) : Int) from by have := HS.out.2.2.2; unfold wrap64; omega], rfl⟩
    · have hqz : q = z := by have := Hgh.out.2; omega
      subst hqz
      clear hlt
      have hnl := HS.out.2.2.2.1
      have hzz := HS.out.2.1
      have hzl := HS.out.2.2.2.2.2.2.1
      have hfw := HS.out.2.2.2.2.1
      have hcl := HS.out.2.2.2.2.2.1
      have e39 : wrap64 (64 - (k : Int)) = 64 - (k : Int) := by have := hk2.out; unfold wrap64; omega
      by_cases hzn : q < n
      · have hqs : q < s.length := by omega
        obtain ⟨b, o, rfl, hb, hc⟩ := HS.out.1.bits q hqs
        have h1 : s[q].toNat = 1 := by
          have := one_at (s := s) (by omega)
          simpa [← hzz] using this
        rw [h1] at hc
        have c1 : W.cell? ⟨b, o + q, none⟩ = some (.int .i64 1) := (HW.out.1.cell (p := ⟨b, o + q, none⟩) hb).trans hc
        have j1 : decide (q < n) = true := decide_eq_true hzn
        have j2 : (q : Int) < (n : Int) := by omega
        have j3 : (0 : Int) ≤ (q : Int) := by omega
        have j4 : ((q : Int) == (n : Int)) = false := decide_eq_false (by omega)
        rcases HS.out.2.2.2.2.2.2.2 with ⟨h64, rfl⟩ | ⟨h64, rfl, hsh⟩
        · have j5 : decide (64 - (k : Int) < (q : Int)) = true := decide_eq_true (by omega)
          clear hnl hzz hzl hfw hcl hzn hqs hb hc h1 h64 e39
          go_wp2_with fail
          refine (F W).mono ?_
          rintro e w1 ⟨rfl, hb⟩
          have hg := (hb.block (w.heap.size + 1) (lt_of_block HW.out.2.2)).trans HW.out.2.2
          obtain ⟨c0, c1, f0, f1⟩ := rr_cells hg
          have HQ := Lib.hid (And.intro hg (HW.out.1.trans (hb.mono HW.out.1.size))); clear hb hg
          go_wp2_with fail
          refine bodyPost_ret (ret_cell3 rfl _ _ (w.heap.size + 1) _ _ rfl (rr_store HQ.out.1 _ _)) rfl ?_
          exact ⟨rfl, rr_below HQ.out.2 (by omega) _ _⟩
        · have j5 : decide (64 - (k : Int) < (q : Int)) = false := decide_eq_false (by omega)
          obtain ⟨L, eL⟩ : ∃ L : Nat, L = 2 * q + k + 1 := ⟨_, rfl⟩
          have hq4 : q ≤ 4000000 := by omega
          have j6 : decide (n < L) = true := decide_eq_true (by omega)
          have e1 : wrap64 (wrap64 (wrap64 (2 * (q : Int)) + (k : Int)) + 1) = (L : Nat)  := len_wrap hq4 hk2.out eL
          clear eL hq4
          clear hnl hzz hzl hfw hcl hzn hqs hb hc h1 h64 hsh e39
          go_wp2_with fail
          refine (F W).mono ?_
          rintro e w1 ⟨rfl, hb⟩
          have hg := (hb.block (w.heap.size + 1) (lt_of_block HW.out.2.2)).trans HW.out.2.2
          obtain ⟨c0, c1, f0, f1⟩ := rr_cells hg
          have HQ := Lib.hid (And.intro hg (HW.out.1.trans (hb.mono HW.out.1.size))); clear hb hg
          go_wp2_with fail
          refine bodyPost_ret (ret_cell3 rfl _ _ (w.heap.size + 1) _ _ rfl (rr_store HQ.out.1 _ _)) rfl ?_
          exact ⟨rfl, rr_below HQ.out.2 (by omega) _ _⟩
      · have hqn : q = n := by omega
        have j1 : decide (q < n) = false := decide_eq_false hzn
        have j2 : ¬ (q : Int) < (n : Int) := by omega
        have j4 : ((q : Int) == (n : Int)) = true := decide_eq_true (by omega)
        rcases HS.out.2.2.2.2.2.2.2 with ⟨h64, rfl⟩ | ⟨h64, rfl, hsh⟩
        · have j5 : decide (64 - (k : Int) < (q : Int)) = true := decide_eq_true (by omega)
          clear hnl hzz hzl hfw hcl hzn hqn h64 e39
          go_wp2_with fail
          refine (F W).mono ?_
          rintro e w1 ⟨rfl, hb⟩
          have hg := (hb.block (w.heap.size + 1) (lt_of_block HW.out.2.2)).trans HW.out.2.2
          obtain ⟨c0, c1, f0, f1⟩ := rr_cells hg
          have HQ := Lib.hid (And.intro hg (HW.out.1.trans (hb.mono HW.out.1.size))); clear hb hg
          go_wp2_with fail
          refine bodyPost_ret (ret_cell3 rfl _ _ (w.heap.size + 1) _ _ rfl (rr_store HQ.out.1 _ _)) rfl ?_
          exact ⟨rfl, rr_below HQ.out.2 (by omega) _ _⟩
        · have j5 : decide (64 - (k : Int) < (q : Int)) = false := decide_eq_false (by omega)
          clear hnl hzz hzl hfw hcl hzn hqn h64 hsh e39
          go_wp2_with fail
          refine (F W).mono ?_
          rintro e w1 ⟨rfl, hb⟩
          have hg := (hb.block (w.heap.size + 1) (lt_of_block HW.out.2.2)).trans HW.out.2.2
          obtain ⟨c0, c1, f0, f1⟩ := rr_cells hg
          have HQ := Lib.hid (And.intro hg (HW.out.1.trans (hb.mono HW.out.1.size))); clear hb hg
          go_wp2_with fail
          refine bodyPost_ret (ret_cell3 rfl _ _ (w.heap.size + 1) _ _ rfl (rr_store HQ.out.1 _ _)) rfl ?_
          exact ⟨rfl, rr_below HQ.out.2 (by omega) _ _⟩
end Go.Proofs.Ytpnlcnilhlcfpaa
