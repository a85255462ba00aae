/- math/big: nat.add of two words and one; in all. -/
import Derived.Test.YtpnlcnilhlcfpaaBSum
set_option linter.unusedVariables false
namespace Go.Proofs.Ytpnlcnilhlcfpaa
open Go.RowKit

theorem set012 (cs : Array Value) (a b d : Value) (h : 3 ≤ cs.size) : (((cs.setIfInBounds 0 a).setIfInBounds 1 b).setIfInBounds 2 d)[0]? = some a ∧ (((cs.setIfInBounds 0 a).setIfInBounds 1 b).setIfInBounds 2 d)[1]? = some b ∧ (((cs.setIfInBounds 0 a).setIfInBounds 1 b).setIfInBounds 2 d)[2]? = some d ∧ ((cs.setIfInBounds 0 a).setIfInBounds 1 b)[2]? = cs[2]? ∧ (((cs.setIfInBounds 0 a).setIfInBounds 1 b).setIfInBounds 2 d).size = cs.size ∧ (cs.setIfInBounds 0 a)[1]? = cs[1]? := by
  have S := set01 cs a b (by omega)
  refine ⟨?_, ?_, ?_, ?_, ?_, S.2.2.1⟩
  · rw [Array.getElem?_setIfInBounds, if_neg (by decide)]; exact S.1
  · rw [Array.getElem?_setIfInBounds, if_neg (by decide)]; exact S.2.1
  · rw [Array.getElem?_setIfInBounds, if_pos rfl, if_pos (by rw [S.2.2.2]; omega)]
  · rw [Array.getElem?_setIfInBounds, if_neg (by decide), Array.getElem?_setIfInBounds, if_neg (by decide)]
  · rw [Array.size_setIfInBounds]; exact S.2.2.2
set_option maxRecDepth 100000 in
/-- 2^64 and one word. -/
theorem add_21 (w : World) (B B2 B3 y : Nat) (A : Option Addr) (l cap : Nat) (h : SLc w B A cap) (hl : l ≤ cap) (hB : B ≤ w.heap.size)
    (A2 : Option Addr) (n cap2 : Nat) (hx : NumS w B2 A2 n cap2 18446744073709551616) (A3 : Option Addr) (n3 cap3 : Nat) (hy : NumS w B3 A3 n3 cap3 y) (hy0 : 0 < y) (hs : y < 18446744073709551616) (hne : A ≠ A2) :
    Calls Try.prog 55 #[.slice A l cap, .slice A2 n cap2, .slice A3 n3 cap3] w fun e w' => ∃ h' n c, e = .returned (.slice (some ⟨h', 0, none⟩) n c) ∧ NumS w' B (some ⟨h', 0, none⟩) n c (18446744073709551616 + y) ∧ Fm B w w' := by
  obtain ⟨rfl, b2, cs2, rfl, hB2, hb2, hc2, h12, h82, e2, e21⟩ := hx.two (Nat.le_refl _)
  obtain ⟨rfl, b3, cs3, rfl, hB3, hb3, hc3, h13, h83, e3⟩ := hy.one hy0 hs
  have M := make_any w B A l 3 cap h hl (by omega) (by omega) hB
  have T := addVV_enters
  have hd1 : (1 : Nat) ≤ cap2 := by omega
  have hd2 : (1 : Nat) ≤ cap3 := h13
  have e2 : cs2[0]? = some (.int .u64 ((0 : Nat) : Int)) := e2
  have HX := Lib.hid (And.intro hb2 (And.intro e2 (And.intro hb3 (And.intro e3 e21))))
  have HS := Lib.hid (And.intro hy0 hs)
  have HB := Lib.hid (And.intro hB (And.intro h82 (And.intro h83 (And.intro hne h12))))
  clear hx hy h hb2 e2 hb3 e3 hc2 hc3 hy0 hs hB2 hB3 h12 h13 hB h82 h83 hne e21
  go_enter Try.func55, Try.ntmps55
  go_wp2_with fail
  refine M.mono ?_
  rintro e w1 ⟨h', c, cs, rfl, hm, hnew⟩
  have hne : h' ≠ b2 := by
    rcases hnew with ⟨-, e⟩ | e
    · rintro rfl; exact HB.out.2.2.2.1 e
    · have := WB.lt HX.out.1; omega
  have c2 : w1.cell? ⟨b2, 0, none⟩ = some (.int .u64 ((0 : Nat) : Int)) := (hm.kept.cell (p := ⟨b2, 0, none⟩) (WB.lt HX.out.1)).trans ((cell_of_block HX.out.1 0).trans HX.out.2.1)
  have c3 : w1.cell? ⟨b3, 0, none⟩ = some (.int .u64 (y : Nat)) := (hm.kept.cell (p := ⟨b3, 0, none⟩) (WB.lt HX.out.2.2.1)).trans ((cell_of_block HX.out.2.2.1 0).trans HX.out.2.2.2.1)
  have hbx1 : w1.heap[b2]? = some (.cells cs2 88 (0, 0)) := Below.wb hm.kept HX.out.1
  have c0 := (cell_of_block hm.wb 0).trans (Array.getElem?_eq_getElem (by have := hm.size; have := hm.le; omega))
  have hc1 : (1 : Nat) ≤ c := by have := hm.le; omega
  have L := addVV1 ⟨h', 0, none⟩ ⟨b2, 0, none⟩ ⟨b3, 0, none⟩ c cap2 cap3 0 y y 0 w1.drew c2 c3 ⟨_, c0⟩ (free_of_block hm.wb 0) (by have := HS.out; omega) (by have := HS.out; omega) hc1 hd1 hd2
  have HM := Lib.hid (And.intro hm (And.intro hne hbx1)); clear hm c0 c2 c3 hne hnew hbx1
  go_wp2_with fail
  have hi1 : (1 : Int) ≤ (c : Int) := by omega
  have hi2 : (1 : Int) ≤ (cap2 : Int) := by omega
  have hi3 : (1 : Int) ≤ (cap3 : Int) := by omega
  go_still_tail 9, (by kernel_rfl)
  change wpList _ _ _ _ _ w1.drew
  go_wp2_with fail
  refine L.mono ?_
  rintro e w2 ⟨rfl, m, hw2⟩
  have hm := HM.out.1
  have hsz : 3 ≤ cs.size := by rw [hm.size]; exact hm.le
  have hS := set012 cs (.int .u64 (y : Nat)) (.int .u64 ((1 : Nat) : Int)) (.int .u64 0) hsz
  have hb4 : w2.heap[h']? = some (.cells (cs.setIfInBounds 0 (.int .u64 (y : Nat))) 88 (0, 0)) := by rw [hw2]; exact block_setCell hm.wb 0 _
  have hbx2 : w2.heap[b2]? = some (.cells cs2 88 (0, 0)) := by rw [hw2]; exact (Below.heap_setCell _ _ _ _ (fun e => HM.out.2.1 e.symm)).trans HM.out.2.2
  have hO : Only h' w1 w2 := by rw [hw2]; exact ((Only.refl h' w1).drew.drewN m).setCell rfl _
  have L2 := addVW1 h' 1 b2 1 _ _ _ _ (c - 1) (cap2 - 1) 1 0 1 w2.drew hb4 hbx2 HM.out.2.1 HX.out.2.2.2.2 ⟨_, Array.getElem?_eq_getElem (by rw [Array.size_setIfInBounds]; omega)⟩ rfl rfl (by have := hm.le; omega) (by have := HB.out; omega)
  have HE := Lib.hid (And.intro hS (And.intro hb4 (And.intro hO hsz)))
  have j1 : (2 : Int) ≤ (c : Int) := by have := hm.le; omega
  have j2 : (2 : Int) ≤ (cap2 : Int) := by have := HB.out; omega
  have j3 : ¬ c = 1 := by omega
  have j4 : ¬ cap2 = 1 := by omega
  clear hm hsz hb4 hbx2 hO hw2 L hS
  go_wp2_with fail
  go_still_tail 8, (by kernel_rfl)
  change wpList _ _ _ _ _ w2.drew
  go_wp2_with fail
  refine L2.mono ?_
  rintro e w3 ⟨rfl, m2, hw3⟩
  have hS := HE.out.1
  have hb5 : w3.heap[h']? = some (.cells ((cs.setIfInBounds 0 (.int .u64 (y : Nat))).setIfInBounds 1 (.int .u64 ((1 : Nat) : Int))) 88 (0, 0)) := by rw [hw3]; exact block_setCell HE.out.2.1 1 _
  have hO : Only h' w1 w3 := by rw [hw3]; exact (HE.out.2.2.1.drew.setCell rfl _).drewN m2
  obtain ⟨u2, hu2⟩ : ∃ u, cs[2]? = some u := ⟨_, Array.getElem?_eq_getElem (by have := HE.out.2.2.2; omega)⟩
  have c1 := (cell_of_block hb5 2).trans (hS.2.2.2.1.trans hu2)
  have f1 := free_of_block hb5 2
  have hi4 : (2 : Int) < (3 : Int) := by decide
  obtain ⟨w4, ew4⟩ : ∃ w4, w4 = w3.setCell ⟨h', 2, none⟩ (.int .u64 0) := ⟨_, rfl⟩
  have hb6 : w4.heap[h']? = some (.cells (((cs.setIfInBounds 0 (.int .u64 (y : Nat))).setIfInBounds 1 (.int .u64 ((1 : Nat) : Int))).setIfInBounds 2 (.int .u64 0)) 88 (0, 0)) := by rw [ew4]; exact block_setCell hb5 2 _
  have hO2 : Only h' w1 w4 := by rw [ew4]; exact hO.setCell rfl _
  have hm := HM.out.1
  have N := norm_ok (some ⟨h', 0, none⟩) 3 2 c hm.le (by have := hm.le8; omega) w4 (by omega)
    (fun i h1 h2 => ⟨h', rfl, by rw [show i = 2 from by omega]; exact (cell_of_block hb6 2).trans hS.2.2.1⟩)
    (Or.inr ⟨h', 1, rfl, (cell_of_block hb6 1).trans hS.2.1, by decide⟩)
  have HF := Lib.hid (And.intro (NumS.mk2 (v := 18446744073709551616 + y) hb6 hm.from_ (hS.2.2.2.2.1.trans hm.size) hm.le8 (by rw [Nat.add_sub_cancel_left]; exact hS.1) hS.2.1 (by omega)) ((Fm.keep hm.kept HB.out.1).trans (Fm.only hO2 hm.wb hm.from_)))
  have HW := Lib.hid ew4
  clear hO hS hu2 hb5 hb6 hO2 hm hw3 ew4 L2 hi1 hi2 hi3 j1 j2 j3 j4
  go_wp2_with fail
  rw [← HW.out]
  refine N.mono ?_
  rintro e w5 ⟨rfl, rfl⟩
  go_wp2_with fail
  go_ret
  exact ⟨_, _, _, rfl, HF.out.1, HF.out.2⟩
/-- nat.add of a number below 2^64 and a power. -/
theorem add_any (w : World) (B x y : Nat) (A : Option Addr) (n cap : Nat) (hx : NumS w B A n cap x) (hB : B ≤ w.heap.size) (A2 : Option Addr) (n2 cap2 : Nat) (hy : NumS w B A2 n2 cap2 y)
    (hx2 : x < 18446744073709551616) (hc : x + y < 18446744073709551616 ∨ y = 18446744073709551616) (hne : A ≠ A2 ∨ A = none) :
    Calls Try.prog 55 #[.slice A n cap, .slice A n cap, .slice A2 n2 cap2] w fun e w' => ∃ A' n c, e = .returned (.slice A' n c) ∧ NumS w' B A' n c (x + y) ∧ Fm B w w' := by
  by_cases hy0 : y = 0
  · subst hy0
    obtain ⟨rfl, hs2⟩ := hy.nought
    by_cases hx0 : x = 0
    · subst hx0
      obtain ⟨rfl, hs⟩ := hx.nought
      refine (add_none w A 0 cap (Nat.zero_le _) hs.le A cap A2 cap2).mono ?_
      rintro e w' ⟨rfl, rfl⟩
      exact ⟨_, _, _, rfl, hx, Fm.refl _ _⟩
    · refine (add_zero w B B x A n cap hx.1 hx.2.1 hB A n cap hx (by omega) A2 cap2).mono ?_
      rintro e w' ⟨h', c, rfl, r1, r2⟩
      exact ⟨_, _, _, rfl, r1, r2⟩
  · by_cases hx0 : x = 0
    · subst hx0
      obtain ⟨rfl, hs⟩ := hx.nought
      have M := add_zero w B B y A 0 cap hs (Nat.zero_le _) hB A2 n2 cap2 hy (by omega) A cap
      rw [Nat.zero_add]
      have hn2 : 0 < n2 := by rw [hy.2.2.1]; unfold words; rw [if_neg hy0]; split <;> simp
      refine (add_turn w B y (.slice A 0 cap) A A2 0 n2 cap cap2 hn2 (M.mono ?_)).mono ?_
      · rintro e w' ⟨h', c, rfl, r1, r2⟩
        exact ⟨_, _, _, rfl, r1, r2⟩
      · rintro e w' ⟨h', n', c, rfl, r1, r2⟩
        exact ⟨_, _, _, rfl, r1, r2⟩
    · rcases hc with hc | rfl
      · refine (add_11 w B B B x y A n cap hx.1 hx.2.1 hB A n cap hx (by omega) A2 n2 cap2 hy (by omega) hc).mono ?_
        rintro e w' ⟨h', c, rfl, r1, r2⟩
        exact ⟨_, _, _, rfl, r1, r2⟩
      · obtain ⟨e1, b1, cs1, eA, -⟩ := hx.one (by omega) hx2
        obtain ⟨e2, -⟩ := hy.two (Nat.le_refl _)
        have hne' : A ≠ A2 := by
          rcases hne with h | h
          · exact h
          · rw [h] at eA; cases eA
        have M := add_21 w B B B x A n cap hx.1 hx.2.1 hB A2 n2 cap2 hy A n cap hx (by omega) hx2 hne'
        refine (add_turn w B (x + 18446744073709551616) (.slice A n cap) A A2 n n2 cap cap2 (by omega) (M.mono ?_)).mono ?_
        · rintro e w' ⟨h', n', c, rfl, r1, r2⟩
          rw [Nat.add_comm] at r1
          exact ⟨_, _, _, rfl, r1, r2⟩
        · rintro e w' ⟨h', n', c, rfl, r1, r2⟩
          exact ⟨_, _, _, rfl, r1, r2⟩
end Go.Proofs.Ytpnlcnilhlcfpaa
