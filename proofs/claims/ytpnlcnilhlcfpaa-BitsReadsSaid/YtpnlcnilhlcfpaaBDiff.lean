/- math/big: nat.sub. -/
import Derived.Test.YtpnlcnilhlcfpaaBSum2
set_option linter.unusedVariables false
namespace Go.Proofs.Ytpnlcnilhlcfpaa
open Go.RowKit

set_option maxRecDepth 100000 in
/-- One word less one word, in place. -/
theorem sub_11 (w : World) (B B3 x y : Nat) (A : Option Addr) (n cap : Nat) (hx : NumS w B A n cap x) (A3 : Option Addr) (n3 cap3 : Nat) (hy : NumS w B3 A3 n3 cap3 y) (hy0 : 0 < y) (hs : x < 18446744073709551616) (hle : y ≤ x) :
    Calls Try.prog 57 #[.slice A n cap, .slice A n cap, .slice A3 n3 cap3] w fun e w' => ∃ A' n c, e = .returned (.slice A' n c) ∧ NumS w' B A' n c (x - y) ∧ Fm B w w' := by
  obtain ⟨rfl, b2, cs2, rfl, hB2, hb2, hc2, h12, h82, e2⟩ := hx.one (by omega) hs
  obtain ⟨rfl, b3, cs3, rfl, hB3, hb3, hc3, h13, h83, e3⟩ := hy.one hy0 (by omega)
  have M := make_in (some ⟨b2, 0, none⟩) 1 1 cap h12 (by omega) h12 w
  have T := subVV_enters
  have c2 : w.cell? ⟨b2, 0, none⟩ = some (.int .u64 (x : Nat)) := (cell_of_block hb2 0).trans e2
  have c3 : w.cell? ⟨b3, 0, none⟩ = some (.int .u64 (y : Nat)) := (cell_of_block hb3 0).trans e3
  have L := subVV1 ⟨b2, 0, none⟩ ⟨b2, 0, none⟩ ⟨b3, 0, none⟩ cap cap cap3 x y (x - y) 0 w.drew c2 c3 ⟨_, c2⟩ (free_of_block hb2 0) (by omega) (by unfold bor; split <;> omega) h12 h12 h13
  have hi1 : (1 : Int) ≤ (cap : Int) := by omega
  have hi3 : (1 : Int) ≤ (cap3 : Int) := by omega
  have hi4 : (1 : Int) ≤ (1 : Int) := by decide
  have HX := Lib.hid (And.intro hb2 (And.intro hc2 (And.intro hB2 (And.intro h82 h12))))
  have HS := Lib.hid (And.intro hy0 (And.intro hs hle))
  clear hx hy hb2 e2 hb3 e3 hc2 hc3 hy0 hs hB2 hB3 h12 h13 h82 h83 c2 c3 hle
  go_enter Try.func57, Try.ntmps57
  go_wp2_with fail
  refine M.mono ?_
  rintro e w1 ⟨rfl, rfl⟩
  go_wp2_with fail
  go_still_tail 9, (by kernel_rfl)
  change wpList _ _ _ _ _ w.drew
  go_wp2_with fail
  refine L.mono ?_
  rintro e w2 ⟨rfl, m, hw2⟩
  obtain ⟨hb2, hc2, hB2, h82, h12⟩ := HX.out
  have hb4 : w2.heap[b2]? = some (.cells (cs2.setIfInBounds 0 (.int .u64 (((x - y : Nat)) : Int))) 88 (0, 0)) := by rw [hw2]; exact block_setCell hb2 0 _
  have hO : Only b2 w w2 := by rw [hw2]; exact ((Only.refl b2 w).drew.drewN m).setCell rfl _
  have hS : (cs2.setIfInBounds 0 (.int .u64 (((x - y : Nat)) : Int)))[0]? = some (.int .u64 (((x - y : Nat)) : Int)) := by
    rw [Array.getElem?_setIfInBounds, if_pos rfl, if_pos (by omega)]
  have hsz : (cs2.setIfInBounds 0 (.int .u64 (((x - y : Nat)) : Int))).size = cap := by rw [Array.size_setIfInBounds]; exact hc2
  have hF : Fm B w w2 := Fm.only hO hb2 hB2
  have N : ∃ m, Calls Try.prog 64 #[.slice (some ⟨b2, 0, none⟩) 1 cap] w2 (fun e w' => e = .returned (.slice (some ⟨b2, 0, none⟩) m cap) ∧ w2 = w') ∧ NumS w2 B (some ⟨b2, 0, none⟩) m cap (x - y) := by
    by_cases hxy : x = y
    · refine ⟨0, norm_ok (some ⟨b2, 0, none⟩) 1 0 cap h12 (by omega) w2 (by omega) (fun i h1 h2 => ⟨b2, rfl, ?_⟩) (Or.inl rfl), ?_⟩
      · rw [show i = 0 from by omega]
        have := (cell_of_block hb4 0).trans hS
        rw [show x - y = 0 from by omega] at this
        exact this
      · rw [show x - y = 0 from by omega]
        exact NumS.zero (Or.inr ⟨b2, _, rfl, hB2, hb4, hsz, h82⟩)
    · exact ⟨1, norm_ok (some ⟨b2, 0, none⟩) 1 1 cap h12 (by omega) w2 (by omega) (fun i h1 h2 => by omega) (Or.inr ⟨b2, x - y, rfl, (cell_of_block hb4 0).trans hS, by have := HS.out; omega⟩),
        NumS.mk1 hb4 hB2 hsz h82 hS (by have := HS.out; omega) (by have := HS.out; omega)⟩
  obtain ⟨mm, N, hN⟩ := N
  have HE := Lib.hid (And.intro hN hF)
  clear hb2 hc2 hB2 h82 h12 hb4 hO hS hsz hF hN hw2 L hi1 hi3
  go_wp2_with fail
  refine N.mono ?_
  rintro e w4 ⟨rfl, rfl⟩
  go_wp2_with fail
  go_ret
  exact ⟨_, _, _, rfl, HE.out.1, HE.out.2⟩
set_option maxRecDepth 100000 in
/-- Two words less one word, in place. -/
theorem sub_21 (w : World) (B B3 x y : Nat) (A : Option Addr) (n cap : Nat) (hx : NumS w B A n cap x) (A3 : Option Addr) (n3 cap3 : Nat) (hy : NumS w B3 A3 n3 cap3 y) (hy0 : 0 < y) (hy1 : y < 18446744073709551616) (hs : 18446744073709551616 ≤ x) (hs2 : x < 36893488147419103232) :
    Calls Try.prog 57 #[.slice A n cap, .slice A n cap, .slice A3 n3 cap3] w fun e w' => ∃ A' n c, e = .returned (.slice A' n c) ∧ NumS w' B A' n c (x - y) ∧ Fm B w w' := by
  obtain ⟨rfl, b2, cs2, rfl, hB2, hb2, hc2, h12, h82, e2, e21⟩ := hx.two hs
  obtain ⟨rfl, b3, cs3, rfl, hB3, hb3, hc3, h13, h83, e3⟩ := hy.one hy0 hy1
  obtain ⟨x0, ex0⟩ : ∃ x0, x - 18446744073709551616 = x0 := ⟨_, rfl⟩
  rw [ex0] at e2
  obtain ⟨s, es⟩ : ∃ s, (x0 + 18446744073709551616 - y - 0) % 18446744073709551616 = s := ⟨_, rfl⟩
  obtain ⟨t, et⟩ : ∃ t, bor x0 (y + 0) = t := ⟨_, rfl⟩
  have ht : t = 0 ∧ y ≤ x0 ∧ s = x - y - 18446744073709551616 ∧ 18446744073709551616 ≤ x - y ∨ t = 1 ∧ x0 < y ∧ s = x - y ∧ 0 < x - y ∧ x - y < 18446744073709551616 := by
    unfold bor at et
    split at et
    · exact Or.inr ⟨et.symm, by omega, by omega, by omega, by omega⟩
    · exact Or.inl ⟨et.symm, by omega, by omega, by omega⟩
  have M := make_in (some ⟨b2, 0, none⟩) 2 2 cap h12 (by omega) h12 w
  have T := subVV_enters
  have c2 : w.cell? ⟨b2, 0, none⟩ = some (.int .u64 (x0 : Nat)) := (cell_of_block hb2 0).trans e2
  have c3 : w.cell? ⟨b3, 0, none⟩ = some (.int .u64 (y : Nat)) := (cell_of_block hb3 0).trans e3
  have L := subVV1 ⟨b2, 0, none⟩ ⟨b2, 0, none⟩ ⟨b3, 0, none⟩ cap cap cap3 x0 y s t w.drew c2 c3 ⟨_, c2⟩ (free_of_block hb2 0) es et (by omega) (by omega) h13
  have hi1 : (1 : Int) ≤ (cap : Int) := by omega
  have hi3 : (1 : Int) ≤ (cap3 : Int) := by omega
  have j2 : ¬ cap = 1 := by omega
  have HX := Lib.hid (And.intro hb2 (And.intro hc2 (And.intro hB2 (And.intro h82 (And.intro h12 e21)))))
  have HS := Lib.hid (And.intro hy0 (And.intro hs (And.intro hy1 (And.intro ex0 (And.intro ht hs2)))))
  clear hx hy hb2 e2 hb3 e3 hc2 hc3 hy0 hs hB2 hB3 h12 h13 h82 h83 c2 c3 e21 hy1 ex0 es et ht hs2
  go_enter Try.func57, Try.ntmps57
  go_wp2_with fail
  refine M.mono ?_
  rintro e w1 ⟨rfl, rfl⟩
  go_wp2_with fail
  go_still_tail 9, (by kernel_rfl)
  change wpList _ _ _ _ _ w.drew
  go_wp2_with fail
  refine L.mono ?_
  rintro e w2 ⟨rfl, m, hw2⟩
  obtain ⟨hb2, hc2, hB2, h82, h12, e21⟩ := HX.out
  have hS := set01 cs2 (.int .u64 (s : Nat)) (.int .u64 ((1 - t : Nat) : Int)) (by omega)
  have hb4 : w2.heap[b2]? = some (.cells (cs2.setIfInBounds 0 (.int .u64 (s : Nat))) 88 (0, 0)) := by rw [hw2]; exact block_setCell hb2 0 _
  have hO : Only b2 w w2 := by rw [hw2]; exact ((Only.refl b2 w).drew.drewN m).setCell rfl _
  have c1 : w2.cell? ⟨b2, 1, none⟩ = some (.int .u64 ((1 : Nat) : Int)) := (cell_of_block hb4 1).trans (hS.2.2.1.trans e21)
  have L2 := subVW1 ⟨b2, 1, none⟩ (cap - 1) (cap - 1) 1 t (1 - t) w2.drew c1 (free_of_block hb4 1) (by have := HS.out; omega) (by have := HS.out; unfold bor; rw [if_neg (by omega)]) (by omega) (by omega)
  have j1 : (1 : Int) ≤ (2 : Int) := by decide
  have HE := Lib.hid (And.intro hb4 (And.intro hO hS))
  clear hb2 hc2 hB2 h82 h12 e21 hS hb4 hO c1 hw2 L
  go_wp2_with fail
  go_still_tail 7, (by kernel_rfl)
  change wpList _ _ _ _ _ w2.drew
  go_wp2_with fail
  refine L2.mono ?_
  rintro e w3 ⟨rfl, m3, hw3⟩
  obtain ⟨hb2, hc2, hB2, h82, h12, e21⟩ := HX.out
  obtain ⟨hb4, hO, hS⟩ := HE.out
  have hb5 : w3.heap[b2]? = some (.cells ((cs2.setIfInBounds 0 (.int .u64 (s : Nat))).setIfInBounds 1 (.int .u64 ((1 - t : Nat) : Int))) 88 (0, 0)) := by rw [hw3]; exact block_setCell hb4 1 _
  have hO3 : Only b2 w w3 := by rw [hw3]; exact (hO.drew.setCell rfl _).drewN m3
  have hF : Fm B w w3 := Fm.only hO3 hb2 hB2
  have hsz := hS.2.2.2.trans hc2
  have N : ∃ m, Calls Try.prog 64 #[.slice (some ⟨b2, 0, none⟩) 2 cap] w3 (fun e w' => e = .returned (.slice (some ⟨b2, 0, none⟩) m cap) ∧ w3 = w') ∧ NumS w3 B (some ⟨b2, 0, none⟩) m cap (x - y) := by
    obtain ⟨hy0, hs, hy1, ex0, ht, hs2⟩ := HS.out
    have q0 := (cell_of_block hb5 0).trans hS.1
    have q1 := (cell_of_block hb5 1).trans hS.2.1
    clear HX HS HE
    rcases ht with ⟨et, hle, es, g1⟩ | ⟨et, hlt, es, g1, g2⟩
    · have e1 : ((1 - t : Nat) : Int) = ((1 : Nat) : Int) := by rw [et]
      have p1 := q1; rw [e1] at p1
      have p2 : ((cs2.setIfInBounds 0 (.int .u64 (s : Nat))).setIfInBounds 1 (.int .u64 ((1 - t : Nat) : Int)))[1]? = some (.int .u64 1) := hS.2.1.trans (by rw [e1]; rfl)
      have p0 : ((cs2.setIfInBounds 0 (.int .u64 (s : Nat))).setIfInBounds 1 (.int .u64 ((1 - t : Nat) : Int)))[0]? = some (.int .u64 ((x - y - 18446744073709551616 : Nat) : Int)) := hS.1.trans (by rw [← es])
      have N2 := norm_ok (some ⟨b2, 0, none⟩) 2 2 cap h12 (by omega) w3 (Nat.le_refl _) (fun i h1 h2 => absurd (Nat.lt_of_le_of_lt h1 h2) (Nat.lt_irrefl _)) (Or.inr ⟨b2, 1, rfl, p1, Nat.one_pos⟩)
      exact ⟨2, N2, NumS.mk2 (v := x - y) hb5 hB2 hsz h82 p0 p2 g1⟩
    · have e1 : ((1 - t : Nat) : Int) = ((0 : Nat) : Int) := by rw [et]
      have p1 := q1; rw [e1] at p1
      have e0 : 0 < s := by rw [es]; exact g1
      have N2 := norm_ok (some ⟨b2, 0, none⟩) 2 1 cap h12 (by omega) w3 (by decide) (fun i h1 h2 => ⟨b2, rfl, by rw [show i = 1 from by omega]; exact p1⟩) (Or.inr ⟨b2, s, rfl, q0, e0⟩)
      have p0 : ((cs2.setIfInBounds 0 (.int .u64 (s : Nat))).setIfInBounds 1 (.int .u64 ((1 - t : Nat) : Int)))[0]? = some (.int .u64 ((x - y : Nat) : Int)) := hS.1.trans (by rw [← es])
      exact ⟨1, N2, NumS.mk1 (v := x - y) hb5 hB2 hsz h82 p0 g1 g2⟩
  obtain ⟨mm, N, hN⟩ := N
  have HF := Lib.hid (And.intro hN hF)
  clear hb2 hc2 hB2 h82 h12 hb4 hO hS hsz hF hN hw3 L2 hi1 hi3 hb5 hO3 e21 j1 j2
  go_wp2_with fail
  refine N.mono ?_
  rintro e w4 ⟨rfl, rfl⟩
  go_wp2_with fail
  go_ret
  exact ⟨_, _, _, rfl, HF.out.1, HF.out.2⟩
theorem sub_any (w : World) (B B3 x y : Nat) (A : Option Addr) (n cap : Nat) (hx : NumS w B A n cap x) (A3 : Option Addr) (n3 cap3 : Nat) (hy : NumS w B3 A3 n3 cap3 y) (hy0 : 0 < y) (hy1 : y < 18446744073709551616) (hle : y ≤ x) (hs2 : x < 36893488147419103232) :
    Calls Try.prog 57 #[.slice A n cap, .slice A n cap, .slice A3 n3 cap3] w fun e w' => ∃ A' n c, e = .returned (.slice A' n c) ∧ NumS w' B A' n c (x - y) ∧ Fm B w w' := by
  rcases Nat.lt_or_ge x 18446744073709551616 with h | h
  · exact sub_11 w B B3 x y A n cap hx A3 n3 cap3 hy hy0 h hle
  · exact sub_21 w B B3 x y A n cap hx A3 n3 cap3 hy hy0 hy1 h hs2
end Go.Proofs.Ytpnlcnilhlcfpaa
