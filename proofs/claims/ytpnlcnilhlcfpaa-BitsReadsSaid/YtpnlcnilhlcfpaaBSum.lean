/- math/big: nat.add. -/
import Derived.Test.YtpnlcnilhlcfpaaBNum
import Derived.Deep.RegionHeld3
set_option linter.unusedVariables false
namespace Go.Proofs.Ytpnlcnilhlcfpaa
open Go.RowKit

/-- Nothing is added. -/
theorem add_zero (w : World) (B B2 v : Nat) (A : Option Addr) (l cap : Nat) (h : SLc w B A cap) (hl : l ≤ cap) (hB : B ≤ w.heap.size) (A2 : Option Addr) (n cap2 : Nat) (hx : NumS w B2 A2 n cap2 v) (hv : 0 < v) (A3 : Option Addr) (cap3 : Nat) :
    Calls Try.prog 55 #[.slice A l cap, .slice A2 n cap2, .slice A3 0 cap3] w fun e w' => ∃ h' c, e = .returned (.slice (some ⟨h', 0, none⟩) n c) ∧ NumS w' B (some ⟨h', 0, none⟩) n c v ∧ Fm B w w' := by
  have M := set_any w B B2 v A l cap h hl hB A2 n cap2 hx hv
  have hn1 : 1 ≤ n := by rw [hx.2.2.1]; unfold words; rw [if_neg (by omega)]; split <;> simp
  have k0 : decide ((n : Int) < 0) = false := decide_eq_false (by omega)
  have k1 : ((n : Int) == 0) = false := decide_eq_false (by omega)
  have k2 : n ≠ 0 := by omega
  clear hx h
  go_enter Try.func55, Try.ntmps55
  go_wp2_with fail
  refine M.mono ?_
  rintro e w1 ⟨h', c, rfl, r1, r2⟩
  have HR := Lib.hid (And.intro r1 r2); clear r1 r2
  go_wp2_with fail
  go_ret
  exact ⟨_, _, rfl, HR.out.1, HR.out.2⟩
theorem add_none (w : World) (A : Option Addr) (l cap : Nat) (hl : l ≤ cap) (hc : cap ≤ 8) (A2 : Option Addr) (cap2 : Nat) (A3 : Option Addr) (cap3 : Nat) :
    Calls Try.prog 55 #[.slice A l cap, .slice A2 0 cap2, .slice A3 0 cap3] w fun e w' => e = .returned (.slice A 0 cap) ∧ w = w' := by
  go_enter Try.func55, Try.ntmps55
  go_wp2_with fail
  go_ret
  exact ⟨rfl, rfl⟩
/-- The longer one first. -/
theorem add_turn (w : World) (B v : Nat) (Z : Value) (A2 A3 : Option Addr) (m n cap2 cap3 : Nat) (h : m < n)
    (M : Calls Try.prog 55 #[Z, .slice A3 n cap3, .slice A2 m cap2] w fun e w' => ∃ h' n c, e = .returned (.slice (some ⟨h', 0, none⟩) n c) ∧ NumS w' B (some ⟨h', 0, none⟩) n c v ∧ Fm B w w') :
    Calls Try.prog 55 #[Z, .slice A2 m cap2, .slice A3 n cap3] w fun e w' => ∃ h' n c, e = .returned (.slice (some ⟨h', 0, none⟩) n c) ∧ NumS w' B (some ⟨h', 0, none⟩) n c v ∧ Fm B w w' := by
  have k0 : decide ((m : Int) < n) = true := decide_eq_true (by omega)
  go_enter Try.func55, Try.ntmps55
  go_wp2_with fail
  refine M.mono ?_
  rintro e w1 ⟨h', n', c, rfl, r1, r2⟩
  have HR := Lib.hid (And.intro r1 r2); clear r1 r2
  go_wp2_with fail
  go_ret
  exact ⟨_, _, _, rfl, HR.out.1, HR.out.2⟩
set_option maxRecDepth 100000 in
/-- One word and one word. -/
theorem add_11 (w : World) (B B2 B3 x y : Nat) (A : Option Addr) (l cap : Nat) (h : SLc w B A cap) (hl : l ≤ cap) (hB : B ≤ w.heap.size)
    (A2 : Option Addr) (n cap2 : Nat) (hx : NumS w B2 A2 n cap2 x) (hx0 : 0 < x) (A3 : Option Addr) (n3 cap3 : Nat) (hy : NumS w B3 A3 n3 cap3 y) (hy0 : 0 < y) (hs : x + y < 18446744073709551616) :
    Calls Try.prog 55 #[.slice A l cap, .slice A2 n cap2, .slice A3 n3 cap3] w fun e w' => ∃ h' c, e = .returned (.slice (some ⟨h', 0, none⟩) 1 c) ∧ NumS w' B (some ⟨h', 0, none⟩) 1 c (x + y) ∧ Fm B w w' := by
  obtain ⟨rfl, b2, cs2, rfl, hB2, hb2, hc2, h12, h82, e2⟩ := hx.one hx0 (by omega)
  obtain ⟨rfl, b3, cs3, rfl, hB3, hb3, hc3, h13, h83, e3⟩ := hy.one hy0 (by omega)
  have M := make_any w B A l 2 cap h hl (by omega) (by omega) hB
  have T := addVV_enters
  have hd1 : (1 : Nat) ≤ cap2 := h12
  have hd2 : (1 : Nat) ≤ cap3 := h13
  have HX := Lib.hid (And.intro hb2 (And.intro e2 (And.intro hb3 e3)))
  have HS := Lib.hid (And.intro hx0 (And.intro hy0 hs))
  have HB := Lib.hid (And.intro hB (And.intro h82 h83))
  clear hx hy h hb2 e2 hb3 e3 hc2 hc3 hx0 hy0 hs hB2 hB3 h12 h13 hB h82 h83
  go_enter Try.func55, Try.ntmps55
  go_wp2_with fail
  refine M.mono ?_
  rintro e w1 ⟨h', c, cs, rfl, hm, -⟩
  have c2 : w1.cell? ⟨b2, 0, none⟩ = some (.int .u64 (x : Nat)) := (hm.kept.cell (p := ⟨b2, 0, none⟩) (WB.lt HX.out.1)).trans ((cell_of_block HX.out.1 0).trans HX.out.2.1)
  have c3 : w1.cell? ⟨b3, 0, none⟩ = some (.int .u64 (y : Nat)) := (hm.kept.cell (p := ⟨b3, 0, none⟩) (WB.lt HX.out.2.2.1)).trans ((cell_of_block HX.out.2.2.1 0).trans HX.out.2.2.2)
  have c0 := (cell_of_block hm.wb 0).trans (Array.getElem?_eq_getElem (by have := hm.size; have := hm.le; omega))
  have hc1 : (1 : Nat) ≤ c := by have := hm.le; omega
  have L := addVV1 ⟨h', 0, none⟩ ⟨b2, 0, none⟩ ⟨b3, 0, none⟩ c cap2 cap3 x y (x + y) 0 w1.drew c2 c3 ⟨_, c0⟩ (free_of_block hm.wb 0) (by have := HS.out; omega) (by have := HS.out; omega) hc1 hd1 hd2
  have HM := Lib.hid hm; clear hm c0 c2 c3
  go_wp2_with fail
  have hi1 : (1 : Int) ≤ (c : Int) := by omega
  have hi2 : (1 : Int) ≤ (cap2 : Int) := by omega
  have hi3 : (1 : Int) ≤ (cap3 : Int) := by omega
  go_still_tail 9, (by kernel_rfl)
  change wpList _ _ _ _ _ w1.drew
  go_wp2_with fail
  refine L.mono ?_
  rintro e w2 ⟨rfl, m, hw2⟩
  have hm := HM.out
  have hb4 : w2.heap[h']? = some (.cells (cs.setIfInBounds 0 (.int .u64 (((x + y : Nat)) : Int))) 88 (0, 0)) := by rw [hw2]; exact block_setCell hm.wb 0 _
  have hO : Only h' w1 w2 := by rw [hw2]; exact ((Only.refl h' w1).drew.drewN m).setCell rfl _
  have hsz : 2 ≤ cs.size := by rw [hm.size]; exact hm.le
  have hS := set01 cs (.int .u64 (((x + y : Nat)) : Int)) (.int .u64 0) hsz
  obtain ⟨u1, hu1⟩ : ∃ u, cs[1]? = some u := ⟨_, Array.getElem?_eq_getElem (by omega)⟩
  have c1 := (cell_of_block hb4 1).trans (hS.2.2.1.trans hu1)
  have f1 := free_of_block hb4 1
  have hi4 : (1 : Int) < (2 : Int) := by decide
  obtain ⟨w3, ew3⟩ : ∃ w3, w3 = w2.setCell ⟨h', 1, none⟩ (.int .u64 0) := ⟨_, rfl⟩
  have hb5 : w3.heap[h']? = some (.cells ((cs.setIfInBounds 0 (.int .u64 (((x + y : Nat)) : Int))).setIfInBounds 1 (.int .u64 0)) 88 (0, 0)) := by rw [ew3]; exact block_setCell hb4 1 _
  have hO2 : Only h' w1 w3 := by rw [ew3]; exact hO.setCell rfl _
  have N := norm_ok (some ⟨h', 0, none⟩) 2 1 c hm.le (by have := hm.le8; omega) w3 (by omega)
    (fun i h1 h2 => ⟨h', rfl, by rw [show i = 1 from by omega]; exact (cell_of_block hb5 1).trans hS.2.1⟩)
    (Or.inr ⟨h', _, rfl, (cell_of_block hb5 0).trans hS.1, by have := HS.out; omega⟩)
  have HE := Lib.hid (And.intro (NumS.mk1 hb5 hm.from_ (hS.2.2.2.trans hm.size) hm.le8 hS.1 (by have := HS.out; omega) HS.out.2.2) ((Fm.keep hm.kept HB.out.1).trans (Fm.only hO2 hm.wb hm.from_)))
  have HW := Lib.hid ew3
  clear hb4 hO hsz hS hu1 hb5 hO2 hm hw2 ew3 L hi1 hi2 hi3
  go_wp2_with fail
  rw [← HW.out]
  refine N.mono ?_
  rintro e w4 ⟨rfl, rfl⟩
  go_wp2_with fail
  go_ret
  exact ⟨_, _, rfl, HE.out.1, HE.out.2⟩
end Go.Proofs.Ytpnlcnilhlcfpaa
