/- BitsCodes. -/
import Derived.Test.YtgjipjnfbpfenaaBAwake
set_option linter.unusedVariables false
namespace Go.Proofs.Ytgjipjnfbpfenaa
open Go.RowKit
open M (bitsOf bitsOf_length codeBits codeBits_length zig zag numOf zeros codeA)

theorem WOk.new_at {w : World} {B n : Nat} (hB : B ≤ w.heap.size) (e : n = w.heap.size) : WOk (w.alloc (.cells #[.slice none 0 0, .int .i64 0] 28)) B n [n] [] := by
  subst e; exact WOk.new w B hB
theorem WOk.alloc {w : World} {B bw : Nat} {F : List Nat} {l : List Bool} (h : WOk w B bw F l) (o : Obj) : WOk (w.alloc o) B bw F l := h.below ((Below.refl w.heap.size w).alloc (Nat.le_refl _) o)
theorem Cost_to (n k : Int) (N K C : Nat) (w : World) (hn : n = N) (hk : k = K) (h : N < 18446744073709551616) (hK : K ≤ 30) (e : costN N K = C) :
    Calls Try.prog 10 #[.int .u64 n, .int .i64 k] w fun e w' => e = .returned (.tuple #[.int .i64 (C : Nat), .int .i64 0]) ∧ ∃ m, w' = w.drewN m := by
  subst hn hk e; exact Cost_calls N K w h hK
theorem neg_word (n : Nat) (h : n < 18446744073709551616) : wrap64 (wrap64 (-wrap64 (n : Int)) - 1) = -(wrap64 (n : Int)) - 1 := by unfold wrap64; omega
theorem wordOf_neg (n : Nat) (h : n < 18446744073709551616) : wordOf (-(wrap64 (n : Int)) - 1) = 18446744073709551615 - n := by unfold wordOf wrap64; omega
theorem costN_le {n k : Nat} (h : n < 18446744073709551616) (hk : k ≤ 30) : costN n k + k ≤ 129 ∧ k + 1 ≤ costN n k := by
  obtain ⟨c1, c2, c3, c4⟩ := M.cq_bd n k (by simpa using h) hk
  unfold costN; omega
theorem costN_mono {n m k : Nat} (h : n ≤ m) : costN n k ≤ costN m k := by have := M.cq_mono (k := k) h; unfold costN; omega
theorem costN_succ (n k : Nat) : costN (n + 1) k ≤ costN n k + 2 := by have := M.cq_succ n k; unfold costN; omega
theorem costN_zig {n k : Nat} (h : n < 18446744073709551616) : costN (zig n) k ≤ costN (zig (18446744073709551615 - n)) k + 2 ∧ costN (zig (18446744073709551615 - n)) k ≤ costN (zig n) k + 2 := by
  rcases M.zig_not (n := n) (by simpa using h) with e | e <;> simp only [show (2 : Nat) ^ 64 - 1 = 18446744073709551615 from rfl] at e
  · rw [e]; exact ⟨by have := costN_mono (k := k) (show zig n ≤ zig n + 1 by omega); omega, costN_succ _ _⟩
  · rw [e]; exact ⟨costN_succ _ _, by have := costN_mono (k := k) (show zig (18446744073709551615 - n) ≤ zig (18446744073709551615 - n) + 1 by omega); omega⟩

set_option maxRecDepth 100000 in
set_option maxHeartbeats 1000000 in
theorem codes_walk (n m k : Int) (w : World) (n0 : 0 ≤ n) (n1 : n ≤ 18446744073709551615) (m0 : 0 ≤ m) (m1 : m ≤ 18446744073709551615) (k0 : 0 ≤ k) (k1 : k ≤ 255) :
    Calls Try.prog 3 #[.int .u64 n, .int .u64 m, .int .u8 k] w fun e w' => e = .returned (.bool true) ∧ Below w.heap.size w w' := by
  obtain ⟨N, hNn⟩ := Int.eq_ofNat_of_zero_le n0
  obtain ⟨K, hK⟩ : ∃ K : Nat, k % 31 = (K : Int) := ⟨(k % 31).toNat, by omega⟩
  have hK30 : K ≤ 30 := by omega
  obtain ⟨lo, hlo⟩ : ∃ lo : Nat, (if m < n then m else n) = (lo : Int) := ⟨(if m < n then m else n).toNat, by split <;> omega⟩
  obtain ⟨hi, hhi⟩ : ∃ hi : Nat, (if n < m then m else n) = (hi : Int) := ⟨(if n < m then m else n).toNat, by split <;> omega⟩
  have hlh : lo ≤ hi := by split at hlo <;> split at hhi <;> omega
  have hhb : hi < 18446744073709551616 := by split at hhi <;> omega
  have hN : N < 18446744073709551616 := by omega
  have hab := costN_mono (k := K) hlh
  have ha := costN_le (k := K) (show lo < 18446744073709551616 by omega) hK30
  have hb := costN_le (k := K) hhb hK30
  have hs := costN_zig (k := K) hN
  by_cases hlast : lo + 1 < 18446744073709551616
  · have hc1 := costN_mono (k := K) (Nat.le_succ lo)
    have hc2 := costN_succ lo K
    obtain ⟨CA, hCA⟩ : ∃ C, C = costN lo K := ⟨_, rfl⟩
    obtain ⟨CB, hCB⟩ : ∃ C, C = costN hi K := ⟨_, rfl⟩
    obtain ⟨CC, hCC⟩ : ∃ C, C = costN (lo + 1) K := ⟨_, rfl⟩
    have cA := fun w => Cost_to (lo : Int) (K : Int) lo K CA w rfl rfl (by omega) hK30 hCA.symm
    have cB := fun w => Cost_to (hi : Int) (K : Int) hi K CB w rfl rfl (by omega) hK30 hCB.symm
    have cC := fun w => Cost_to ((lo : Int) + 1) (K : Int) (lo + 1) K CC w (by omega) rfl hlast hK30 hCC.symm
    rw [show Nat.succ lo = lo + 1 from rfl, ← hCA, ← hCC] at hc1
    rw [← hCA, ← hCC] at hc2
    rw [← hCA, ← hCB] at hab
    rw [← hCA] at ha
    rw [← hCB] at hb
    have H := Lib.hid (And.intro cA (And.intro cB (And.intro cC (And.intro hCA hs))))
    have hz : ((lo : Int) + 1 != 0) = true := by rw [bne_iff_ne]; omega
    clear cA cB cC hCA hCB hCC hs
    go_enter Try.func3, Try.ntmps3
    have HN := Lib.hid hNn; clear hNn
    go_wp2_with fail
    refine (H.out.1 _).mono ?_
    rintro e w1 ⟨rfl, q1, hw1⟩
    have hB1 := Lib.hid (then_drewN (Below.refl w.heap.size w) q1)
    rw [← hw1] at hB1; clear hw1
    go_wp2_with fail
    refine (H.out.2.1 _).mono ?_
    rintro e w2 ⟨rfl, q2, hw2⟩
    have hB2 := Lib.hid (then_drewN hB1.out q2)
    rw [← hw2] at hB2; clear hw2 hB1
    go_wp2_with fail
    refine (H.out.2.2.1 _).mono ?_
    rintro e w3 ⟨rfl, q3, hw3⟩
    have hB3 := Lib.hid (then_drewN hB2.out q3)
    rw [← hw3] at hB3; clear hw3 hB2
    go_wp2_with fail
    obtain ⟨W, hW⟩ : ∃ W, W = ((w3.alloc (.cells #[.slice none 0 0, .int .i64 0] 28)).alloc (.cells #[.slice none 0 0, .int .i64 0] 28)).alloc (.cells #[.slice none 0 0, .int .i64 0] 28) := ⟨_, rfl⟩
    rw [← hW]
    have hBW := then_alloc (then_alloc (then_alloc hB3.out (.cells #[.slice none 0 0, .int .i64 0] 28)) (.cells #[.slice none 0 0, .int .i64 0] 28)) (.cells #[.slice none 0 0, .int .i64 0] 28)
    have hx : WOk W w.heap.size w3.heap.size [w3.heap.size] [] ∧ WOk W w.heap.size (w3.heap.size + 1) [w3.heap.size + 1] [] ∧ WOk W w.heap.size (w3.heap.size + 1 + 1) [w3.heap.size + 1 + 1] [] := by
      rw [hW]
      exact ⟨((WOk.new_at hB3.out.size rfl).alloc _).alloc _, (WOk.new_at (then_alloc hB3.out _).size (by simp)).alloc _, WOk.new_at (then_alloc (then_alloc hB3.out _) _).size (by simp)⟩
    rw [← hW] at hBW
    have HX := Lib.hid (And.intro hBW hx)
    clear hBW hx hW hB3
    refine (PutCode_ok w.heap.size _ _ _ lo K W HX.out.2.1 HX.out.1.size hK30 (by omega) (by have := H.out.2.2.2.1; simp only [List.length_nil]; omega)).mono ?_
    rintro e wa ⟨rfl, Fa, ha1, fra⟩
    have h2a := HX.out.2.2.1.keep fra (by intro q hq; simp at hq ⊢; omega)
    have h3a := HX.out.2.2.2.keep fra (by intro q hq; simp at hq ⊢; omega)
    have ap2 := fra.apart (H := [w3.heap.size + 1]) (by intro q hq; simp at hq ⊢; omega) HX.out.2.2.1.lt
    have ap3 := fra.apart (H := [w3.heap.size + 1 + 1]) (by intro q hq; simp at hq ⊢; omega) HX.out.2.2.2.lt
    have HA := Lib.hid (And.intro (then_fr HX.out.1 fra HX.out.2.1.base) (And.intro ha1 (And.intro h2a (And.intro h3a (And.intro ap2 ap3)))))
    clear ha1 fra h2a h3a ap2 ap3 HX
    go_wp2_with fail
    have hzl : costN (zig N) K ≤ 129 := by have := costN_le (n := zig N) (k := K) (by have := M.zig_lt (n := N) (by simpa using hN); simpa using this) hK30; omega
    have hzl2 : costN (zig (18446744073709551615 - N)) K ≤ 129 := by have := costN_le (n := zig (18446744073709551615 - N)) (k := K) (by have := M.zig_lt (n := 18446744073709551615 - N) (by simp; omega); simpa using this) hK30; omega
    have HZ := Lib.hid (And.intro hzl hzl2); clear hzl hzl2
    rw [HN.out]
    refine (PutSigned_ok w.heap.size _ _ _ (wrap64 (N : Int)) K wa (by unfold wrap64; omega) (by unfold wrap64; omega) HA.out.2.2.1 HA.out.1.size hK30 (by rw [wordOf_wrap hN]; simp only [List.length_nil]; have := HZ.out.1; omega)).mono ?_
    rintro e wb ⟨rfl, Fb, hb1, frb⟩
    have h1b := HA.out.2.1.keep frb (by intro q hq; simp; rintro rfl; exact HA.out.2.2.2.2.1 _ (by simp) hq)
    have h3b := HA.out.2.2.2.1.keep frb (by intro q hq; simp at hq ⊢; omega)
    have ap1 := frb.apart (H := Fa) (by intro q hq; simp; rintro rfl; exact HA.out.2.2.2.2.1 _ (by simp) hq) HA.out.2.1.lt
    have ap3 := frb.apart (H := [w3.heap.size + 1 + 1]) (by intro q hq; simp at hq ⊢; omega) HA.out.2.2.2.1.lt
    rw [wordOf_wrap hN] at hb1
    have HB := Lib.hid (And.intro (then_fr HA.out.1 frb HA.out.2.2.1.base) (And.intro h1b (And.intro hb1 (And.intro h3b (And.intro HA.out.2.2.2.2.2 ap3)))))
    clear hb1 frb h1b h3b ap1 ap3 HA
    go_wp2_with fail
    rw [neg_word N hN]
    refine (PutSigned_ok w.heap.size _ _ _ (-(wrap64 (N : Int)) - 1) K wb (by unfold wrap64; omega) (by unfold wrap64; omega) HB.out.2.2.2.1 HB.out.1.size hK30 (by rw [wordOf_neg N hN]; simp only [List.length_nil]; have := HZ.out.2; omega)).mono ?_
    rintro e wc ⟨rfl, Fc, hc1, frc⟩
    have h1c := HB.out.2.1.keep frc (by intro q hq; simp; rintro rfl; exact HB.out.2.2.2.2.1 _ (by simp) hq)
    have h2c := HB.out.2.2.1.keep frc (by intro q hq; simp; rintro rfl; exact HB.out.2.2.2.2.2 _ (by simp) hq)
    rw [wordOf_neg N hN] at hc1
    have HC := Lib.hid (And.intro (then_fr HB.out.1 frc HB.out.2.2.2.1.base) (And.intro h1c (And.intro h2c hc1)))
    clear hc1 frc h1c h2c HB
    go_wp2_with fail
    have l1 : (([] ++ codeBits lo K : List Bool).length : Int) = CA := by rw [List.nil_append, codeBits_length]; have := H.out.2.2.2.1; unfold costN at this; omega
    obtain ⟨X, hX⟩ : ∃ X : Nat, X = costN (zig N) K := ⟨_, rfl⟩
    obtain ⟨Y, hY⟩ : ∃ Y : Nat, Y = costN (zig (18446744073709551615 - N)) K := ⟨_, rfl⟩
    have l2 : (([] ++ codeBits (zig N) K : List Bool).length : Int) = X := by rw [List.nil_append, codeBits_length]; unfold costN at hX; omega
    have l3 : (([] ++ codeBits (zig (18446744073709551615 - N)) K : List Bool).length : Int) = Y := by rw [List.nil_append, codeBits_length]; unfold costN at hY; omega
    have hxy := H.out.2.2.2.2
    have hz2 := HZ.out
    rw [← hX, ← hY] at hxy
    rw [← hX, ← hY] at hz2
    have HL := Lib.hid (And.intro l1 (And.intro l2 l3)); clear l1 l2 l3 hX hY
    refine (Len_to (X : Int) HC.out.2.2.1 HL.out.2.1).mono ?_
    rintro e w' ⟨rfl, rfl⟩
    go_wp2_with fail
    refine (Len_to (Y : Int) HC.out.2.2.2 HL.out.2.2).mono ?_
    rintro e w' ⟨rfl, rfl⟩
    go_wp2_with fail
    refine (Len_to (CA : Int) HC.out.2.1 HL.out.1).mono ?_
    rintro e w' ⟨rfl, rfl⟩
    go_wp2_with fail
    refine (awake_calls _).mono ?_
    rintro e wd ⟨rfl, hbd⟩
    have HD := Lib.hid (then_ HC.out.1 hbd); clear hbd HC
    go_wp2_with fail
    go_ret
    exact ⟨rfl, HD.out⟩
  · have hlo2 : lo = 18446744073709551615 := by omega
    obtain rfl : lo = N := by split at hlo <;> omega
    obtain rfl : hi = lo := by omega
    obtain rfl : n = (hi : Int) := by omega
    obtain rfl : m = (hi : Int) := by split at hlo <;> omega
    clear hlo hhi hlh hNn
    obtain ⟨CA, hCA⟩ : ∃ C, C = costN hi K := ⟨_, rfl⟩
    obtain ⟨CC, hCC⟩ : ∃ C, C = costN 0 K := ⟨_, rfl⟩
    have cA := fun w => Cost_to (hi : Int) (K : Int) hi K CA w rfl rfl (by omega) hK30 hCA.symm
    have cB := cA
    have cC := fun w => Cost_to 0 (K : Int) 0 K CC w rfl rfl (by decide) hK30 hCC.symm
    have hcc := costN_le (n := 0) (k := K) (by decide) hK30
    rw [← hCA] at ha
    clear hab hb
    rw [← hCC] at hcc
    have hwl : IntKind.u64.wrap ((hi : Int) + 1) = 0 := by rw [hlo2]; decide
    have H := Lib.hid (And.intro cA (And.intro cB (And.intro cC (And.intro hCA hs))))
    clear cA cB cC hCA hCC hs hlo2
    go_enter Try.func3, Try.ntmps3
    go_wp2_with fail
    refine (H.out.1 _).mono ?_
    rintro e w1 ⟨rfl, q1, hw1⟩
    have hB1 := Lib.hid (then_drewN (Below.refl w.heap.size w) q1)
    rw [← hw1] at hB1; clear hw1
    go_wp2_with fail
    refine (H.out.2.1 _).mono ?_
    rintro e w2 ⟨rfl, q2, hw2⟩
    have hB2 := Lib.hid (then_drewN hB1.out q2)
    rw [← hw2] at hB2; clear hw2 hB1
    go_wp2_with fail
    refine (H.out.2.2.1 _).mono ?_
    rintro e w3 ⟨rfl, q3, hw3⟩
    have hB3 := Lib.hid (then_drewN hB2.out q3)
    rw [← hw3] at hB3; clear hw3 hB2
    go_wp2_with fail
    obtain ⟨W, hW⟩ : ∃ W, W = ((w3.alloc (.cells #[.slice none 0 0, .int .i64 0] 28)).alloc (.cells #[.slice none 0 0, .int .i64 0] 28)).alloc (.cells #[.slice none 0 0, .int .i64 0] 28) := ⟨_, rfl⟩
    rw [← hW]
    have hBW := then_alloc (then_alloc (then_alloc hB3.out (.cells #[.slice none 0 0, .int .i64 0] 28)) (.cells #[.slice none 0 0, .int .i64 0] 28)) (.cells #[.slice none 0 0, .int .i64 0] 28)
    have hx : WOk W w.heap.size w3.heap.size [w3.heap.size] [] ∧ WOk W w.heap.size (w3.heap.size + 1) [w3.heap.size + 1] [] ∧ WOk W w.heap.size (w3.heap.size + 1 + 1) [w3.heap.size + 1 + 1] [] := by
      rw [hW]
      exact ⟨((WOk.new_at hB3.out.size rfl).alloc _).alloc _, (WOk.new_at (then_alloc hB3.out _).size (by simp)).alloc _, WOk.new_at (then_alloc (then_alloc hB3.out _) _).size (by simp)⟩
    rw [← hW] at hBW
    have HX := Lib.hid (And.intro hBW hx)
    clear hBW hx hW hB3
    refine (PutCode_ok w.heap.size _ _ _ hi K W HX.out.2.1 HX.out.1.size hK30 (by omega) (by have := H.out.2.2.2.1; simp only [List.length_nil]; omega)).mono ?_
    rintro e wa ⟨rfl, Fa, ha1, fra⟩
    have h2a := HX.out.2.2.1.keep fra (by intro q hq; simp at hq ⊢; omega)
    have h3a := HX.out.2.2.2.keep fra (by intro q hq; simp at hq ⊢; omega)
    have ap2 := fra.apart (H := [w3.heap.size + 1]) (by intro q hq; simp at hq ⊢; omega) HX.out.2.2.1.lt
    have ap3 := fra.apart (H := [w3.heap.size + 1 + 1]) (by intro q hq; simp at hq ⊢; omega) HX.out.2.2.2.lt
    have HA := Lib.hid (And.intro (then_fr HX.out.1 fra HX.out.2.1.base) (And.intro ha1 (And.intro h2a (And.intro h3a (And.intro ap2 ap3)))))
    clear ha1 fra h2a h3a ap2 ap3 HX
    go_wp2_with fail
    have hzl : costN (zig hi) K ≤ 129 := by have := costN_le (n := zig hi) (k := K) (by have := M.zig_lt (n := hi) (by simpa using hN); simpa using this) hK30; omega
    have hzl2 : costN (zig (18446744073709551615 - hi)) K ≤ 129 := by have := costN_le (n := zig (18446744073709551615 - hi)) (k := K) (by have := M.zig_lt (n := 18446744073709551615 - hi) (by simp; omega); simpa using this) hK30; omega
    have HZ := Lib.hid (And.intro hzl hzl2); clear hzl hzl2
    refine (PutSigned_ok w.heap.size _ _ _ (wrap64 (hi : Int)) K wa (by unfold wrap64; omega) (by unfold wrap64; omega) HA.out.2.2.1 HA.out.1.size hK30 (by rw [wordOf_wrap hN]; simp only [List.length_nil]; have := HZ.out.1; omega)).mono ?_
    rintro e wb ⟨rfl, Fb, hb1, frb⟩
    have h1b := HA.out.2.1.keep frb (by intro q hq; simp; rintro rfl; exact HA.out.2.2.2.2.1 _ (by simp) hq)
    have h3b := HA.out.2.2.2.1.keep frb (by intro q hq; simp at hq ⊢; omega)
    have ap1 := frb.apart (H := Fa) (by intro q hq; simp; rintro rfl; exact HA.out.2.2.2.2.1 _ (by simp) hq) HA.out.2.1.lt
    have ap3 := frb.apart (H := [w3.heap.size + 1 + 1]) (by intro q hq; simp at hq ⊢; omega) HA.out.2.2.2.1.lt
    rw [wordOf_wrap hN] at hb1
    have HB := Lib.hid (And.intro (then_fr HA.out.1 frb HA.out.2.2.1.base) (And.intro h1b (And.intro hb1 (And.intro h3b (And.intro HA.out.2.2.2.2.2 ap3)))))
    clear hb1 frb h1b h3b ap1 ap3 HA
    go_wp2_with fail
    rw [neg_word hi hN]
    refine (PutSigned_ok w.heap.size _ _ _ (-(wrap64 (hi : Int)) - 1) K wb (by unfold wrap64; omega) (by unfold wrap64; omega) HB.out.2.2.2.1 HB.out.1.size hK30 (by rw [wordOf_neg hi hN]; simp only [List.length_nil]; have := HZ.out.2; omega)).mono ?_
    rintro e wc ⟨rfl, Fc, hc1, frc⟩
    have h1c := HB.out.2.1.keep frc (by intro q hq; simp; rintro rfl; exact HB.out.2.2.2.2.1 _ (by simp) hq)
    have h2c := HB.out.2.2.1.keep frc (by intro q hq; simp; rintro rfl; exact HB.out.2.2.2.2.2 _ (by simp) hq)
    rw [wordOf_neg hi hN] at hc1
    have HC := Lib.hid (And.intro (then_fr HB.out.1 frc HB.out.2.2.2.1.base) (And.intro h1c (And.intro h2c hc1)))
    clear hc1 frc h1c h2c HB
    go_wp2_with fail
    have l1 : (([] ++ codeBits hi K : List Bool).length : Int) = CA := by rw [List.nil_append, codeBits_length]; have := H.out.2.2.2.1; unfold costN at this; omega
    obtain ⟨X, hX⟩ : ∃ X : Nat, X = costN (zig hi) K := ⟨_, rfl⟩
    obtain ⟨Y, hY⟩ : ∃ Y : Nat, Y = costN (zig (18446744073709551615 - hi)) K := ⟨_, rfl⟩
    have l2 : (([] ++ codeBits (zig hi) K : List Bool).length : Int) = X := by rw [List.nil_append, codeBits_length]; unfold costN at hX; omega
    have l3 : (([] ++ codeBits (zig (18446744073709551615 - hi)) K : List Bool).length : Int) = Y := by rw [List.nil_append, codeBits_length]; unfold costN at hY; omega
    have hxy := H.out.2.2.2.2
    have hz2 := HZ.out
    rw [← hX, ← hY] at hxy
    rw [← hX, ← hY] at hz2
    have HL := Lib.hid (And.intro l1 (And.intro l2 l3)); clear l1 l2 l3 hX hY
    refine (Len_to (X : Int) HC.out.2.2.1 HL.out.2.1).mono ?_
    rintro e w' ⟨rfl, rfl⟩
    go_wp2_with fail
    refine (Len_to (Y : Int) HC.out.2.2.2 HL.out.2.2).mono ?_
    rintro e w' ⟨rfl, rfl⟩
    go_wp2_with fail
    refine (Len_to (CA : Int) HC.out.2.1 HL.out.1).mono ?_
    rintro e w' ⟨rfl, rfl⟩
    go_wp2_with fail
    refine (awake_calls _).mono ?_
    rintro e wd ⟨rfl, hbd⟩
    have HD := Lib.hid (then_ HC.out.1 hbd); clear hbd HC
    go_wp2_with fail
    go_ret
    exact ⟨rfl, HD.out⟩
end Go.Proofs.Ytgjipjnfbpfenaa
