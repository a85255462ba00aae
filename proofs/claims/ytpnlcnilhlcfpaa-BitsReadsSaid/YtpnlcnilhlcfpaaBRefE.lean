/- marchesref18.End. -/
import Derived.Test.YtpnlcnilhlcfpaaBRefM
set_option linter.unusedVariables false
namespace Go.Proofs.Ytpnlcnilhlcfpaa
open Go.RowKit
open M (numOf numOf_snoc numOf_lt)

theorem numOf_zero (s : List Bool) : numOf s = 0 ↔ s.any id = false := by
  induction s using M.snocInd with
  | h0 => simp [numOf]
  | h1 s b ih =>
    rw [numOf_snoc, List.any_append]
    have := Bool.toNat_lt b
    cases b
    · rw [show ([false].any id) = false from rfl, Bool.or_false, ← ih, show false.toNat = 0 from rfl]; omega
    · rw [show true.toNat = 1 from rfl, show ([true].any id) = true from rfl, Bool.or_true]
      constructor
      · intro h; omega
      · intro h; cases h
theorem End18_bad (A : Option Addr) (n cap bad : Nat) (w : World) (hbad : bad ≠ 0) :
    Calls Try.prog 13 #[rR A n cap bad] w fun r w' => r = .returned (.tuple #[rR A n cap bad, .int .i64 (bad : Nat)]) ∧ Below w.heap.size w w' := by
  have hb := fun o o2 : Obj => (((Below.refl w.heap.size w).alloc (Nat.le_refl _) o).alloc (by simp) o2).drew
  have HB := Lib.hid hb; clear hb
  have h1 : ((bad : Int) != 0) = true := by rw [bne_iff_ne]; omega
  have h2 : ((bad : Int) == 0) = false := decide_eq_false (by omega)
  unfold rR
  go_enter Try.func13, Try.ntmps13
  go_wp2_with fail
  go_region
  all_goals (go_wp2_with fail; refine bodyPost_ret (ret_cell2 rfl _ _ (w.heap.size + 1) _ _ rfl (heap_alloc2_new w _ _)) rfl ?_; exact ⟨rfl, HB.out _ _⟩)
set_option maxRecDepth 100000 in
theorem End18_yes (A : Option Addr) (n cap : Nat) (s : List Bool) (w : World) (h : RefR w A n cap s) (hz : (decide (7 < n) || s.any id) = false) :
    Calls Try.prog 13 #[rR A n cap 0] w fun r w' => r = .returned (.tuple #[rR A n cap 0, .int .i64 0]) ∧ Below w.heap.size w w' := by
  have hb := fun o o2 : Obj => (((Below.refl w.heap.size w).alloc (Nat.le_refl _) o).alloc (by simp) o2)
  have hn := h.len
  have hfew := h.few
  have hle := h.le
  have HZ := Lib.hid hz; clear hz
  have HS := Lib.hid (And.intro h (And.intro hb (And.intro hn (And.intro hfew hle)))); clear h hb hn hfew hle
  unfold rR
  go_enter Try.func13, Try.ntmps13
  go_wp2_with fail
  obtain ⟨W, eW⟩ : ∃ W, W = (w.alloc (Obj.cells #[Value.slice A n cap, Value.int .i64 0] 30)).alloc (Obj.cells #[Value.slice none 0 0, Value.int .i64 0] 30) := ⟨_, rfl⟩
  rw [← eW]
  have hbW : Below w.heap.size w W := by rw [eW]; exact HS.out.2.1 _ _
  have g1 : W.heap[w.heap.size]? = some (.cells #[Value.slice A n cap, Value.int .i64 0] 30 (0, 0)) := by rw [eW]; exact (Below.heap_alloc _ _ _ (by simp)).trans (heap_alloc_new w _)
  have g2 : W.heap[w.heap.size + 1]? = some (.cells #[Value.slice none 0 0, Value.int .i64 0] 30 (0, 0)) := by rw [eW]; exact heap_alloc2_new w _ _
  obtain ⟨b0, b1, -, -⟩ := rr_cells g1
  obtain ⟨d0, d1, d2, d3⟩ := rr_cells g2
  have HW := Lib.hid (And.intro hbW (And.intro g1 g2)); clear hbW g1 g2 eW
  go_loopg [4, 5] n (fun gh bv iv wr => ∃ i : Nat, gh = n - i ∧ i ≤ n ∧ iv = .int .i64 (i : Nat) ∧ bv = .bool (decide (7 < n) || (s.take i).any id) ∧ W = wr)
  case atStart => exact ⟨0, rfl, Nat.zero_le _, rfl, by simp; omega, rfl⟩
  case round =>
    obtain ⟨i, hgh, hi, rfl, rfl, rfl⟩ := hrel
    have Hgh := Lib.hid (And.intro hgh hi); clear hgh hi
    by_cases hlt : i < n
    · have his : i < s.length := by have := HS.out.2.2.1; omega
      obtain ⟨b, o, rfl, hb, hc⟩ := HS.out.1.bits i his
      obtain ⟨x, ex⟩ : ∃ x, s[i] = x := ⟨_, rfl⟩
      rw [ex] at hc
      have c1 : W.cell? ⟨b, o + i, none⟩ = some (.int .i64 ((x.toNat : Nat) : Int)) := (HW.out.1.cell (p := ⟨b, o + i, none⟩) hb).trans hc
      have et : (s.take (i + 1)).any id = ((s.take i).any id || x) := by
        rw [List.take_add_one, List.getElem?_eq_getElem his, List.any_append, ex]; simp
      obtain ⟨y, ey⟩ : ∃ y, (decide (7 < n) || (s.take i).any id) = y := ⟨_, rfl⟩
      have ez : (decide (7 < n) || (s.take (i + 1)).any id) = (y || x) := by rw [et, ← ey, Bool.or_assoc]
      have HT := Lib.hid ez
      rw [ey]
      have j1 : decide (i < n) = true := decide_eq_true hlt
      have j2 : (i : Int) < (n : Int) := by omega
      have j3 : (0 : Int) ≤ (i : Int) := by omega
      have HY := Lib.hid (And.intro hlt (And.intro his hb)); clear hlt his hb hc et ey ez ex
      cases y
      · cases x
        · go_wp2_with fail
          go_roundg (n - (i + 1))
          case measure => have := Hgh.out; have := HY.out.1; omega
          case rel => exact ⟨i + 1, rfl, HY.out.1, by rw [w64 (by omega) (by have := HS.out.2.2.2; have := HY.out.1; omega)]; rfl, by rw [HT.out]; rfl, rfl⟩
        · go_wp2_with fail
          go_roundg (n - (i + 1))
          case measure => have := Hgh.out; have := HY.out.1; omega
          case rel => exact ⟨i + 1, rfl, HY.out.1, by rw [w64 (by omega) (by have := HS.out.2.2.2; have := HY.out.1; omega)]; rfl, by rw [HT.out]; rfl, rfl⟩
      · go_wp2_with fail
        go_roundg (n - (i + 1))
        case measure => have := Hgh.out; have := HY.out.1; omega
        case rel => exact ⟨i + 1, rfl, HY.out.1, by rw [w64 (by omega) (by have := HS.out.2.2.2; have := HY.out.1; omega)]; rfl, by rw [HT.out]; rfl, rfl⟩
    · have hin : i = n := by have := Hgh.out.2; omega
      subst hin
      have j1 : decide (i < i) = false := decide_eq_false hlt
      have j2 : ¬ (i : Int) < (i : Int) := by omega
      clear hlt
      have hall : s.take i = s := List.take_of_length_le (by have := HS.out.2.2.1; omega)
      rw [hall, HZ.out]
      clear hall
      go_wp2_with fail
      refine bodyPost_ret (ret_cell2 rfl _ _ (w.heap.size + 1) _ _ rfl (rr_store HW.out.2.2 _ _)) rfl ?_
      exact ⟨rfl, rr_below HW.out.1 (by omega) _ _⟩
set_option maxRecDepth 100000 in
theorem End18_no (A : Option Addr) (n cap : Nat) (s : List Bool) (w : World) (h : RefR w A n cap s) (hz : (decide (7 < n) || s.any id) = true) :
    Calls Try.prog 13 #[rR A n cap 0] w fun r w' => r = .returned (.tuple #[rR none 0 0 181, .int .i64 181]) ∧ Below w.heap.size w w' := by
  have hb := fun o o2 : Obj => (((Below.refl w.heap.size w).alloc (Nat.le_refl _) o).alloc (by simp) o2)
  have hn := h.len
  have hfew := h.few
  have hle := h.le
  have HZ := Lib.hid hz; clear hz
  have HS := Lib.hid (And.intro h (And.intro hb (And.intro hn (And.intro hfew hle)))); clear h hb hn hfew hle
  unfold rR
  go_enter Try.func13, Try.ntmps13
  go_wp2_with fail
  obtain ⟨W, eW⟩ : ∃ W, W = (w.alloc (Obj.cells #[Value.slice A n cap, Value.int .i64 0] 30)).alloc (Obj.cells #[Value.slice none 0 0, Value.int .i64 0] 30) := ⟨_, rfl⟩
  rw [← eW]
  have hbW : Below w.heap.size w W := by rw [eW]; exact HS.out.2.1 _ _
  have g1 : W.heap[w.heap.size]? = some (.cells #[Value.slice A n cap, Value.int .i64 0] 30 (0, 0)) := by rw [eW]; exact (Below.heap_alloc _ _ _ (by simp)).trans (heap_alloc_new w _)
  have g2 : W.heap[w.heap.size + 1]? = some (.cells #[Value.slice none 0 0, Value.int .i64 0] 30 (0, 0)) := by rw [eW]; exact heap_alloc2_new w _ _
  obtain ⟨b0, b1, -, -⟩ := rr_cells g1
  obtain ⟨d0, d1, d2, d3⟩ := rr_cells g2
  have HW := Lib.hid (And.intro hbW (And.intro g1 g2)); clear hbW g1 g2 eW
  go_loopg [4, 5] n (fun gh bv iv wr => ∃ i : Nat, gh = n - i ∧ i ≤ n ∧ iv = .int .i64 (i : Nat) ∧ bv = .bool (decide (7 < n) || (s.take i).any id) ∧ W = wr)
  case atStart => exact ⟨0, rfl, Nat.zero_le _, rfl, by simp; omega, rfl⟩
  case round =>
    obtain ⟨i, hgh, hi, rfl, rfl, rfl⟩ := hrel
    have Hgh := Lib.hid (And.intro hgh hi); clear hgh hi
    by_cases hlt : i < n
    · have his : i < s.length := by have := HS.out.2.2.1; omega
      obtain ⟨b, o, rfl, hb, hc⟩ := HS.out.1.bits i his
      obtain ⟨x, ex⟩ : ∃ x, s[i] = x := ⟨_, rfl⟩
      rw [ex] at hc
      have c1 : W.cell? ⟨b, o + i, none⟩ = some (.int .i64 ((x.toNat : Nat) : Int)) := (HW.out.1.cell (p := ⟨b, o + i, none⟩) hb).trans hc
      have et : (s.take (i + 1)).any id = ((s.take i).any id || x) := by
        rw [List.take_add_one, List.getElem?_eq_getElem his, List.any_append, ex]; simp
      obtain ⟨y, ey⟩ : ∃ y, (decide (7 < n) || (s.take i).any id) = y := ⟨_, rfl⟩
      have ez : (decide (7 < n) || (s.take (i + 1)).any id) = (y || x) := by rw [et, ← ey, Bool.or_assoc]
      have HT := Lib.hid ez
      rw [ey]
      have j1 : decide (i < n) = true := decide_eq_true hlt
      have j2 : (i : Int) < (n : Int) := by omega
      have j3 : (0 : Int) ≤ (i : Int) := by omega
      have HY := Lib.hid (And.intro hlt (And.intro his hb)); clear hlt his hb hc et ey ez ex
      cases y
      · cases x
        · go_wp2_with fail
          go_roundg (n - (i + 1))
          case measure => have := Hgh.out; have := HY.out.1; omega
          case rel => exact ⟨i + 1, rfl, HY.out.1, by rw [w64 (by omega) (by have := HS.out.2.2.2; have := HY.out.1; omega)]; rfl, by rw [HT.out]; rfl, rfl⟩
        · go_wp2_with fail
          go_roundg (n - (i + 1))
          case measure => have := Hgh.out; have := HY.out.1; omega
          case rel => exact ⟨i + 1, rfl, HY.out.1, by rw [w64 (by omega) (by have := HS.out.2.2.2; have := HY.out.1; omega)]; rfl, by rw [HT.out]; rfl, rfl⟩
      · go_wp2_with fail
        go_roundg (n - (i + 1))
        case measure => have := Hgh.out; have := HY.out.1; omega
        case rel => exact ⟨i + 1, rfl, HY.out.1, by rw [w64 (by omega) (by have := HS.out.2.2.2; have := HY.out.1; omega)]; rfl, by rw [HT.out]; rfl, rfl⟩
    · have hin : i = n := by have := Hgh.out.2; omega
      subst hin
      have j1 : decide (i < i) = false := decide_eq_false hlt
      have j2 : ¬ (i : Int) < (i : Int) := by omega
      clear hlt
      have hall : s.take i = s := List.take_of_length_le (by have := HS.out.2.2.1; omega)
      rw [hall, HZ.out]
      clear hall
      go_wp2_with fail
      refine bodyPost_ret (ret_cell2 rfl _ _ (w.heap.size + 1) _ _ rfl (rr_store HW.out.2.2 _ _)) rfl ?_
      exact ⟨rfl, rr_below HW.out.1 (by omega) _ _⟩
/-- End, in one contract. -/
theorem End18_to (A : Option Addr) (n cap bad : Nat) (s : List Bool) (w : World) (h : RefR w A n cap s) (hb : bad ≠ 0 → s = []) :
    Calls Try.prog 13 #[rR A n cap bad] w fun r w' => ∃ A' n' cap', r = .returned (.tuple #[rR A' n' cap' (endA s bad), .int .i64 (endA s bad : Nat)]) ∧ (∀ w0, RefR w0 A n cap s → RefR w0 A' n' cap' (if endA s bad = 0 then s else [])) ∧ Below w.heap.size w w' := by
  by_cases h0 : bad = 0
  · subst h0
    unfold endA
    rw [if_neg (by simp)]
    have hn := h.len
    by_cases hz : s.length ≤ 7 ∧ numOf s = 0
    · rw [if_pos hz, if_pos rfl]
      refine (End18_yes A n cap s w h (by rw [(numOf_zero s).1 hz.2, Bool.or_false]; exact decide_eq_false (by omega))).mono ?_
      rintro e w' ⟨rfl, h2⟩
      exact ⟨A, n, cap, rfl, fun w0 h0 => h0, h2⟩
    · rw [if_neg hz, if_neg (by decide)]
      refine (End18_no A n cap s w h ?_).mono ?_
      · by_cases h7 : s.length ≤ 7
        · have h2 : numOf s ≠ 0 := fun h => hz ⟨h7, h⟩
          have h3 : s.any id ≠ false := fun h => h2 ((numOf_zero s).2 h)
          have h4 : s.any id = true := by
            cases e : s.any id
            · exact absurd e h3
            · rfl
          rw [h4, Bool.or_true]
        · rw [decide_eq_true (show 7 < n by omega), Bool.true_or]
      · rintro e w' ⟨rfl, h2⟩
        exact ⟨none, 0, 0, rfl, fun w0 _ => RefR.none w0, h2⟩
  · have hs := hb h0
    have e : endA s bad = bad := by unfold endA; rw [if_pos h0]
    rw [e, if_neg h0]
    refine (End18_bad A n cap bad w h0).mono ?_
    rintro r w' ⟨rfl, h2⟩
    exact ⟨A, n, cap, rfl, fun w0 h0 => by rw [hs] at h0; exact h0, h2⟩
end Go.Proofs.Ytpnlcnilhlcfpaa
