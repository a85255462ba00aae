/- rng.Weigh: what it returns. -/
import Derived.Test.YtabgeonlodmpiaaGreatDoorWalk
namespace Go.Proofs.YtabgeonlodmpiaaGreatDoor
open Go.RowKit

/-- The sum of the first i numbers. -/
def pre (ws : List Int) : Nat → Int
  | 0 => 0
  | i + 1 => pre ws i + ws.getD i 0

/-- A slice of ints that reads as a list, nil let in. -/
def Ints (w : World) (A : Option Addr) (ws : List Int) : Prop := ∀ j, j < ws.length → ∃ ad : Addr, A = some ad ∧ w.cell? (ad.add j) = some (.int .i64 (ws.getD j 0))


def okW (ws : List Int) (j : Nat) : Bool := decide (0 ≤ ws.getD j 0) && decide (ws.getD j 0 ≤ 1099511627776)
theorem okW_iff {ws : List Int} {j : Nat} : okW ws j = true ↔ (0 ≤ ws.getD j 0 ∧ ws.getD j 0 ≤ 1099511627776) := by simp [okW]

theorem pre_bd (ws : List Int) (i : Nat) (h : ∀ j, j < i → okW ws j = true) : 0 ≤ pre ws i ∧ pre ws i ≤ i * 1099511627776 := by
  induction i with
  | zero => simp [pre]
  | succ i ih =>
    have h1 := ih fun j hj => h j (by omega)
    have h2 := okW_iff.1 (h i (by omega))
    simp only [pre]
    omega
theorem pre_mono (ws : List Int) (i j : Nat) (hij : i ≤ j) (h : ∀ m, m < j → okW ws m = true) : pre ws i ≤ pre ws j := by
  induction j with
  | zero => rw [show i = 0 from by omega]; exact Int.le_refl _
  | succ j ih =>
    rcases Nat.lt_or_ge i (j + 1) with hlt | hge
    · have h1 := ih (by omega) fun m hm => h m (by omega)
      have h2 := okW_iff.1 (h j (by omega))
      simp only [pre]; omega
    · rw [show i = j + 1 from by omega]; exact Int.le_refl _

theorem Ints.below {w w' : World} {A : Option Addr} {ws : List Int} (h : Ints w A ws) (hA : ∀ ad, A = some ad → ad.block < w.heap.size) (hb : Below w.heap.size w w') : Ints w' A ws := by
  intro j hj
  obtain ⟨ad, e, hc⟩ := h j hj
  refine ⟨ad, e, (hb.cell ?_).trans hc⟩
  have := hA ad e
  unfold Addr.add; split <;> exact this

set_option maxHeartbeats 400000 in
theorem Weigh_long (A : Option Addr) (n cap : Nat) (s k : Int) (w : World) (hlen : 1024 < n) :
    Calls Tryz.prog 19 #[.int .u64 s, .int .i64 k, .slice A n cap] w fun e w' =>
      e = .returned (.tuple #[.int .i64 0, .int .i64 0, .int .i64 2]) ∧ Below w.heap.size w w' := by
  go_enter Tryz.func19, Tryz.ntmps19
  go_wp2_with fail
  go_ret3
  exact ⟨rfl, Below.refl _ _⟩

set_option maxHeartbeats 400000 in
theorem Weigh_bad (A : Option Addr) (cap : Nat) (ws : List Int) (s k : Int) (w : World) (hA : Ints w A ws) (hlen : ws.length ≤ 1024) (m : Nat) (hm : m < ws.length) (hbad : okW ws m = false) (hgood : ∀ j, j < m → okW ws j = true) :
    Calls Tryz.prog 19 #[.int .u64 s, .int .i64 k, .slice A ws.length cap] w fun e w' =>
      e = .returned (.tuple #[.int .i64 0, .int .i64 0, .int .i64 2]) ∧ Below w.heap.size w w' := by
  have HB := Lib.hid hbad; clear hbad
  have HG := Lib.hid hgood; clear hgood
  have HA := Lib.hid hA; clear hA
  have hdec : decide ((1024 : Int) < (ws.length : Int)) = false := by simp; omega
  go_enter Tryz.func19, Tryz.ntmps19
  go_wp2_with fail
  go_loopg [9, 18] ws.length (fun g sm i wr => ∃ j : Nat, g = ws.length - j ∧ j ≤ m ∧ i = .int .i64 j ∧ sm = .int .i64 (pre ws j) ∧ wr = w)
  case atStart => exact ⟨0, rfl, by omega, rfl, rfl, rfl⟩
  case round =>
    obtain ⟨j, hg, hj, rfl, rfl, rfl⟩ := hrel
    have Hg := Lib.hid hg; clear hg
    have hp := pre_bd ws j (fun i hi => HG.out i (by omega))
    obtain ⟨ad, hAd, hc⟩ := HA.out j (by omega)
    have hjl : j < ws.length := by omega
    obtain ⟨x, hx⟩ : ∃ x, x = ws.getD j 0 := ⟨_, rfl⟩
    rw [← hx] at hc
    have hs : pre ws (j + 1) = pre ws j + x := by rw [hx]; rfl
    by_cases hjm : j = m
    · have hb2 : x < 0 ∨ 1099511627776 < x := by
        have hb := HB.out
        rw [← hjm] at hb
        simp only [okW, ← hx, Bool.and_eq_false_iff, decide_eq_false_iff_not] at hb; omega
      clear hjm hj hx hs
      subst hAd
      by_cases h0 : x < 0
      · clear hb2
        go_wp2_with fail
        go_ret3
        exact ⟨rfl, Below.refl _ _⟩
      · have hb3 : 1099511627776 < x := by omega
        clear hb2
        go_wp2_with fail
        go_ret3
        exact ⟨rfl, Below.refl _ _⟩
    · have hb2 : 0 ≤ x ∧ x ≤ 1099511627776 := by
        have hb := HG.out j (by omega)
        simp only [okW, ← hx, Bool.and_eq_true, decide_eq_true_eq] at hb; exact hb
      obtain ⟨b0, b1⟩ := hb2
      have hjm2 : j < m := by omega
      have HS := Lib.hid hs
      clear hjm hj hx hs
      subst hAd
      go_wp2_with fail
      go_roundg (ws.length - (j + 1))
      case measure => have := Hg.out; omega
      case rel => exact ⟨j + 1, rfl, by omega, by go_num, by rw [HS.out], rfl⟩

theorem Weigh_zero (A : Option Addr) (cap : Nat) (ws : List Int) (s k : Int) (w : World) (hA : Ints w A ws) (hlen : ws.length ≤ 1024) (hgood : ∀ j, j < ws.length → okW ws j = true) (hz : pre ws ws.length = 0) :
    Calls Tryz.prog 19 #[.int .u64 s, .int .i64 k, .slice A ws.length cap] w fun e w' =>
      e = .returned (.tuple #[.int .i64 0, .int .i64 0, .int .i64 2]) ∧ Below w.heap.size w w' := by
  have HZ := Lib.hid hz; clear hz
  have HG := Lib.hid hgood; clear hgood
  have HA := Lib.hid hA; clear hA
  have hdec : decide ((1024 : Int) < (ws.length : Int)) = false := by simp; omega
  go_enter Tryz.func19, Tryz.ntmps19
  go_wp2_with fail
  go_loopg [9, 18] ws.length (fun g sm i wr => ∃ j : Nat, g = ws.length - j ∧ j ≤ ws.length ∧ i = .int .i64 j ∧ sm = .int .i64 (pre ws j) ∧ wr = w)
  case atStart => exact ⟨0, rfl, by omega, rfl, rfl, rfl⟩
  case round =>
    obtain ⟨j, hg, hj, rfl, rfl, rfl⟩ := hrel
    have Hg := Lib.hid hg; clear hg
    have hp := pre_bd ws j (fun i hi => HG.out i (by omega))
    by_cases hjl : j < ws.length
    · obtain ⟨ad, hAd, hc⟩ := HA.out j (by omega)
      obtain ⟨x, hx⟩ : ∃ x, x = ws.getD j 0 := ⟨_, rfl⟩
      rw [← hx] at hc
      have hs : pre ws (j + 1) = pre ws j + x := by rw [hx]; rfl
      have hb2 : 0 ≤ x ∧ x ≤ 1099511627776 := by
        have hb := HG.out j (by omega)
        simp only [okW, ← hx, Bool.and_eq_true, decide_eq_true_eq] at hb; exact hb
      obtain ⟨b0, b1⟩ := hb2
      have HS := Lib.hid hs
      clear hj hx hs
      subst hAd
      go_wp2_with fail
      go_roundg (ws.length - (j + 1))
      case measure => have := Hg.out; omega
      case rel => exact ⟨j + 1, rfl, by omega, by go_num, by rw [HS.out], rfl⟩
    · obtain ⟨sm, hsm⟩ : ∃ sm, sm = pre ws j := ⟨_, rfl⟩
      have h0 : sm < 1 := by rw [hsm, show j = ws.length from by omega, HZ.out]; omega
      rw [← hsm]
      clear hsm hp hj
      go_wp2_with (go_at_call 17; refine (Below_calls_no _ _ _ _ h0).mono ?_; rintro e w' ⟨rfl, hbl⟩)
      go_ret3
      exact ⟨rfl, ‹_›⟩

/-- The place of a number among the sums of the weights. -/
noncomputable def pick (ws : List Int) (b : Int) : Nat := first fun i => decide (b < pre ws (i + 1))

set_option maxHeartbeats 400000 in
theorem Weigh_calls (A : Option Addr) (cap : Nat) (ws : List Int) (s k : Int) (w : World) (k0 : -9223372036854775808 ≤ k) (k1 : k ≤ 9223372036854775807) (hA : Ints w A ws) (hAb : ∀ ad, A = some ad → ad.block < w.heap.size) (hlen : ws.length ≤ 1024) (hgood : ∀ j, j < ws.length → okW ws j = true) (hz : 0 < pre ws ws.length) :
    Calls Tryz.prog 19 #[.int .u64 s, .int .i64 k, .slice A ws.length cap] w fun e w' =>
      e = .returned (.tuple #[.int .i64 (pick ws (drawV s k (pre ws ws.length))), .int .i64 (drawK s k (pre ws ws.length)), .int .i64 0]) ∧ Below w.heap.size w w' := by
  have HZ := Lib.hid hz; clear hz
  have HG := Lib.hid hgood; clear hgood
  have HA := Lib.hid hA; clear hA
  have HAb := Lib.hid hAb; clear hAb
  have hdec : decide ((1024 : Int) < (ws.length : Int)) = false := by simp; omega
  go_enter Tryz.func19, Tryz.ntmps19
  go_wp2_with fail
  go_loopg [6, 9, 18] ws.length (fun g ix sm i wr => ∃ j : Nat, g = ws.length - j ∧ j ≤ ws.length ∧ ix = .int .i64 0 ∧ i = .int .i64 j ∧ sm = .int .i64 (pre ws j) ∧ wr = w)
  case atStart => exact ⟨0, rfl, by omega, rfl, rfl, rfl, rfl⟩
  case round =>
    obtain ⟨j, hg, hj, rfl, rfl, rfl, rfl⟩ := hrel
    have Hg := Lib.hid hg; clear hg
    have hp := pre_bd ws j (fun i hi => HG.out i (by omega))
    by_cases hjl : j < ws.length
    · obtain ⟨ad, hAd, hc⟩ := HA.out j (by omega)
      obtain ⟨x, hx⟩ : ∃ x, x = ws.getD j 0 := ⟨_, rfl⟩
      rw [← hx] at hc
      have hs : pre ws (j + 1) = pre ws j + x := by rw [hx]; rfl
      have hb2 : 0 ≤ x ∧ x ≤ 1099511627776 := by
        have hb := HG.out j (by omega)
        simp only [okW, ← hx, Bool.and_eq_true, decide_eq_true_eq] at hb; exact hb
      obtain ⟨b0, b1⟩ := hb2
      have HS := Lib.hid hs
      clear hj hx hs
      subst hAd
      go_wp2_with fail
      go_roundg (ws.length - (j + 1))
      case measure => have := Hg.out; omega
      case rel => exact ⟨j + 1, rfl, by omega, rfl, by go_num, by rw [HS.out], rfl⟩
    · obtain ⟨sm, hsm⟩ : ∃ sm, sm = pre ws ws.length := ⟨_, rfl⟩
      have hjj : j = ws.length := by omega
      have h0 : 0 < sm := by rw [hsm]; exact HZ.out
      have h1 : sm ≤ 1125899906842624 := by rw [hsm, ← hjj]; omega
      rw [hjj, ← hsm]
      have HM := Lib.hid hsm
      have hdl := drawV_lt s k sm (by omega)
      have hd0 := drawV_lo s k sm
      clear hsm hp hj hjj hjl HZ
      go_wp2_with (go_at_call 17; refine (Below_calls _ _ _ _ k0 k1 (by omega) (by omega)).mono ?_; rintro e w' ⟨rfl, hbl⟩)
      have hA2 := HA.out.below HAb.out hbl
      have HA2 := Lib.hid hA2; clear hA2
      have HBL := Lib.hid hbl; clear hbl
      obtain ⟨D, hD⟩ : ∃ D, D = drawV s k sm := ⟨_, rfl⟩
      rw [← hD] at hdl hd0 ⊢
      have HD := Lib.hid hD; clear hD
      go_loopg [6, 12] ws.length (fun g ix bb wx => ∃ i : Nat, g = ws.length - i ∧ i < ws.length ∧ ix = .int .i64 i ∧ bb = .int .i64 (D - pre ws i) ∧ pre ws i ≤ D ∧ wx = w')
      case atStart => exact ⟨0, rfl, by have e := HM.out; rcases Nat.eq_zero_or_pos ws.length with h | h; (rw [h] at e; simp [pre] at e; omega); exact h, rfl, by simp [pre], hd0, rfl⟩
      case round =>
        obtain ⟨i, hg2, hi, rfl, rfl, hle, rfl⟩ := hrel
        have Hg2 := Lib.hid hg2; clear hg2
        obtain ⟨ad, hAd, hc⟩ := HA2.out i hi
        obtain ⟨x, hx⟩ : ∃ x, x = ws.getD i 0 := ⟨_, rfl⟩
        rw [← hx] at hc
        have hs : pre ws (i + 1) = pre ws i + x := by rw [hx]; rfl
        have hb2 : 0 ≤ x ∧ x ≤ 1099511627776 := by
          have hb := HG.out i (by omega)
          simp only [okW, ← hx, Bool.and_eq_true, decide_eq_true_eq] at hb; exact hb
        obtain ⟨b0, b1⟩ := hb2
        have HS := Lib.hid hs
        clear hx hs
        subst hAd
        obtain ⟨p, hp⟩ : ∃ p, p = pre ws i := ⟨_, rfl⟩
        have hp0 : 0 ≤ p := by rw [hp]; exact (pre_bd ws i fun m hm => HG.out m (by omega)).1
        rw [← hp] at hle ⊢
        have HP := Lib.hid hp; clear hp
        by_cases hgo : x ≤ D - p
        · go_wp2_with fail
          have hlast : i + 1 < ws.length := by
            rcases Nat.lt_or_ge (i + 1) ws.length with h | h
            · exact h
            · have e : i + 1 = ws.length := by omega
              have e1 := HS.out
              have e2 := HM.out
              have e3 := HP.out
              rw [e] at e1
              omega
          go_roundg (ws.length - (i + 1))
          case measure => have := Hg2.out; omega
          case rel => exact ⟨i + 1, rfl, hlast, by go_num, by rw [HS.out, ← HP.out, Int.sub_sub], by rw [HS.out, ← HP.out]; omega, rfl⟩
        · go_wp2_with fail
          go_ret3
          have hpk : pick ws D = i := by
            refine first_eq ?_ ?_
            · rw [decide_eq_true_eq, HS.out, ← HP.out]; omega
            · intro m hm
              rw [decide_eq_false_iff_not]
              have := pre_mono ws (m + 1) i (by omega) fun q hq => HG.out q (by omega)
              have := HP.out
              omega
          refine ⟨ret3_congr ?_ ?_ rfl, HBL.out⟩
          · rw [← HM.out, ← HD.out, hpk]; rfl
          · rw [← HM.out]; rfl
end Go.Proofs.YtabgeonlodmpiaaGreatDoor
