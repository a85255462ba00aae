/- marchesref18: GetCode, where a code is there. -/
import Derived.Test.YtpnlcnilhlcfpaaBRefJ
set_option linter.unusedVariables false
namespace Go.Proofs.Ytpnlcnilhlcfpaa
open Go.RowKit
open M (numOf numOf_lt zeros zeros_le zeros_getD zeros_one codeA)

theorem len_wrap' {a b L : Int} (h : wrap64 (wrap64 (wrap64 (2 * a) + b) + 1) = L) : IntKind.i64.wrap (IntKind.i64.wrap (IntKind.i64.wrap (2 * a) + b) + 1) = L := by
  rw [IntKind.wrap_i64, IntKind.wrap_i64, IntKind.wrap_i64]
  unfold wrap64 at h
  exact h
theorem cutA_some {b o k cap : Nat} (h : k ≠ 0) : (if cap = k then (some ⟨b, o, none⟩ : Option Addr) else some ⟨b, o + k, none⟩) = cutA (some ⟨b, o, none⟩) k cap := by
  unfold cutA
  rw [if_neg h]
  rfl
set_option maxRecDepth 100000 in
set_option maxHeartbeats 1600000 in
theorem GetCode18_run (A : Option Addr) (n cap k m L : Nat) (s : List Bool) (w : World) (h : RefR w A n cap s) (hk : k ≤ 30) (hm : m = zeros s + k) (hm64 : m ≤ 64) (hL : L = 2 * zeros s + k + 1) (hLn : L ≤ s.length) (N : Nat) (hN : N = numOf ((s.drop (zeros s + 1)).take m)) :
    Calls Try.prog 21 #[rR A n cap 0, .int .i64 (k : Nat)] w fun r w' => (18446744073709551616 ≤ N + 2 ^ m - 2 ^ k ∧ r = .returned (.tuple #[rR none 0 0 181, .int .u64 0, .int .i64 181]) ∨
      N + 2 ^ m - 2 ^ k < 18446744073709551616 ∧ r = .returned (.tuple #[rR (cutA A L cap) (n - L) (cap - L) 0, .int .u64 ((N + 2 ^ m - 2 ^ k : Nat) : Int), .int .i64 0])) ∧ RefR w (cutA A L cap) (n - L) (cap - L) (s.drop L) ∧ Below w.heap.size w w' := by
  have hb := fun o o2 : Obj => (((Below.refl w.heap.size w).alloc (Nat.le_refl _) o).alloc (by simp) o2)
  have F := fun W => fail_ok 181 W
  have hz := zeros_le s
  have hn := h.len
  have hfew := h.few
  have hle := h.le
  have HC := Lib.hid (h.cut hLn)
  obtain ⟨z, ez⟩ : ∃ z, z = zeros s := ⟨_, rfl⟩
  rw [← ez] at hm hL hN
  obtain ⟨b, o, rfl, hbb, -⟩ := h.bits z (by omega)
  have h2 := h.cut (k := z + 1) (by omega)
  have hlen2 : (((s.drop (z + 1)).take m).length) = m := by rw [List.length_take, List.length_drop]; omega
  have hnum := fun (W : World) (hW : Below w.heap.size w W) => number_run W (cutA (some ⟨b, o, none⟩) (z + 1) cap) ((s.drop (z + 1)).take m) (cap - (z + 1)) (h2.bits.take m |>.below hW) (by rw [hlen2]; exact hm64)
  rw [hlen2, ← hN] at hnum
  have hN2 : N < 2 ^ m := by rw [hN]; have := numOf_lt ((s.drop (z + 1)).take m); rw [hlen2] at this; exact this
  obtain ⟨A1, eA1⟩ : ∃ A1, cutA (some ⟨b, o, none⟩) (z + 1) cap = A1 := ⟨_, rfl⟩
  obtain ⟨A2, eA2⟩ : ∃ A2, cutA (some ⟨b, o, none⟩) L cap = A2 := ⟨_, rfl⟩
  rw [eA1] at hnum
  rw [eA2] at HC ⊢
  obtain ⟨q1, eq1⟩ : ∃ q1, q1 = z + 1 := ⟨_, rfl⟩
  rw [← eq1] at hnum eA1
  have s1 : (if cap = q1 then (some ⟨b, o, none⟩ : Option Addr) else some ⟨b, o + q1, none⟩) = A1 := (cutA_some (by omega)).trans eA1
  have s2 : (if cap = L then (some ⟨b, o, none⟩ : Option Addr) else some ⟨b, o + L, none⟩) = A2 := (cutA_some (by omega)).trans eA2
  have l1 : (0 : Int) ≤ (q1 : Int) := by omega
  have l2 : (q1 : Int) ≤ (L : Int) := by omega
  have l3 : (L : Int) ≤ (cap : Int) := by omega
  have l4 : (0 : Int) ≤ (L : Int) := by omega
  have l5 : (L : Int) ≤ (n : Int) := by omega
  have l6 : L - q1 = m := by omega
  have l7 : decide (n < L) = false := decide_eq_false (by omega)
  have l8 : (z : Int) < (n : Int) := by omega
  have l9 : decide (z < n) = true := decide_eq_true (by omega)
  have l10 : ((z : Int) == (n : Int)) = false := decide_eq_false (by omega)
  have l11 : decide (64 - (k : Int) < (z : Int)) = false := decide_eq_false (by omega)
  have hp1 : 2 ^ k ≤ 2 ^ m := Nat.pow_le_pow_right (by decide) (by omega)
  have hp2 : 2 ^ m ≤ 2 ^ 64 := Nat.pow_le_pow_right (by decide) hm64
  have hp3 : 2 ^ k ≤ 2 ^ 30 := Nat.pow_le_pow_right (by decide) hk
  have hp4 : 0 < 2 ^ k := Nat.two_pow_pos k
  have hp5 : m < 64 → 2 ^ m ≤ 2 ^ 63 := fun h => Nat.pow_le_pow_right (by decide) (by omega)
  have hp6 : ¬ m < 64 → 2 ^ m = 2 ^ 64 := fun h => by rw [show m = 64 from by omega]
  obtain ⟨X, eX⟩ : ∃ X, 2 ^ m = X := ⟨_, rfl⟩
  obtain ⟨Y, eY⟩ : ∃ Y, 2 ^ k = Y := ⟨_, rfl⟩
  have PX := fun W => power_ok W m hm64
  have PY := fun W => power_ok W k (by omega)
  have PZ := fun W => power_ok W 64 (by omega)
  rw [eX] at PX hN2 hp1 hp2 hp5 hp6 ⊢
  rw [eY] at PY hp1 hp3 hp4 ⊢
  have q64 : (2 : Nat) ^ 64 = 18446744073709551616 := rfl
  have q63 : (2 : Nat) ^ 63 = 9223372036854775808 := rfl
  have q30 : (2 : Nat) ^ 30 = 1073741824 := rfl
  rw [q64] at hp2 hp6 PZ
  rw [q63] at hp5
  rw [q30] at hp3
  have HP := Lib.hid (And.intro hN2 (And.intro hp1 (And.intro hp2 (And.intro hp3 (And.intro hp4 (And.intro hp5 hp6))))))
  have HS := Lib.hid (And.intro h (And.intro ez (And.intro hb (And.intro hn (And.intro hfew (And.intro hle (And.intro hz hnum)))))))
  have hzn4 : z ≤ 4000000 := by omega
  have i5 : (k : Int) ≤ 30 := by omega
  have i0 : (0 : Int) ≤ (k : Int) := by omega
  have hk2 := Lib.hid (And.intro hk (And.intro hzn4 (And.intro (len_wrap (k := k) (L := L) hzn4 hk hL) (And.intro (show wrap64 ((z : Int) + 1) = (q1 : Nat) from by rw [w64 (by omega) (by omega)]; omega) (And.intro (show wrap64 ((z : Int) + (k : Int)) = (m : Nat) from by rw [w64 (by omega) (by omega)]; omega) (show wrap64 (64 - (k : Int)) = 64 - (k : Int) from w64 (by omega) (by omega)))))))
  have hzs : z < s.length := by omega
  have h1 : s[z].toNat = 1 := by
    have := one_at (s := s) (by omega)
    simpa [← ez] using this
  have H1 := Lib.hid (And.intro h1 hbb); clear h1 hbb
  clear h hz hn ez hb hfew hle hN2 hp1 hp2 hp3 hp4 hp5 hp6 q64 q63 q30 hk hm hm64 hL hLn hN h2 hlen2 hnum eA1 eA2 eq1 eX eY hzn4
  unfold rR at F ⊢
  go_enter Try.func21, Try.ntmps21
  go_wp2_with fail
  obtain ⟨W, eW⟩ : ∃ W, W = (w.alloc (Obj.cells #[Value.slice (some ⟨b, o, none⟩) n cap, Value.int .i64 0] 30)).alloc (Obj.cells #[Value.slice none 0 0, Value.int .i64 0] 30) := ⟨_, rfl⟩
  rw [← eW]
  have hbW : Below w.heap.size w W := by rw [eW]; exact HS.out.2.2.1 _ _
  have g1 : W.heap[w.heap.size]? = some (.cells #[Value.slice (some ⟨b, o, none⟩) n cap, Value.int .i64 0] 30 (0, 0)) := by rw [eW]; exact (Below.heap_alloc _ _ _ (by simp)).trans (heap_alloc_new w _)
  have g2 : W.heap[w.heap.size + 1]? = some (.cells #[Value.slice none 0 0, Value.int .i64 0] 30 (0, 0)) := by rw [eW]; exact heap_alloc2_new w _ _
  obtain ⟨b0, b1, -, -⟩ := rr_cells g1
  have HW := Lib.hid (And.intro hbW (And.intro g1 g2)); clear hbW g1 g2 eW
  go_loopg [7] z (fun gh iv wr => ∃ q : Nat, gh = z - q ∧ q ≤ z ∧ iv = .int .i64 (q : Nat) ∧ W = wr)
  case atStart => exact ⟨0, rfl, Nat.zero_le _, rfl, rfl⟩
  case round =>
    obtain ⟨q, hgh, hq, rfl, rfl⟩ := hrel
    have Hgh := Lib.hid (And.intro hgh hq); clear hgh hq
    by_cases hlt : q < z
    · have hqs : q < s.length := by have := HS.out.2.2.2.2.2.2.1; have := HS.out.2.1; omega
      obtain ⟨b', o', hbo, hb, hc⟩ := HS.out.1.bits q hqs
      cases hbo
      rw [zeros_at (by rw [← HS.out.2.1]; exact hlt) hqs] at hc
      have c1 : W.cell? ⟨b, o + q, none⟩ = some (.int .i64 0) := (HW.out.1.cell (p := ⟨b, o + q, none⟩) hb).trans hc
      have j1 : decide (q < n) = true := decide_eq_true (by have := HS.out.2.2.2.1; omega)
      have j2 : (q : Int) < (n : Int) := by have := HS.out.2.2.2.1; omega
      have j3 : (0 : Int) ≤ (q : Int) := by omega
      have Hlt := Lib.hid (And.intro hlt (And.intro hqs (And.intro hb hc))); clear hlt hqs hb hc
      go_wp2_with fail
      go_roundg (z - (q + 1))
      case measure => have := Hgh.out; have := Hlt.out.1; omega
      case rel => exact ⟨q + 1, rfl, by have := Hlt.out.1; omega, by rw [show wrap64 ((q : Int) + 1) = ((q + 1 : Nat) : Int) from by have := HS.out.2.2.2; unfold wrap64; omega], rfl⟩
    · have hqz : q = z := by have := Hgh.out.2; omega
      subst hqz
      clear hlt
      obtain ⟨b', o', hbo, hb, hc⟩ := HS.out.1.bits q hzs
      cases hbo
      rw [H1.out.1] at hc
      have c1 : W.cell? ⟨b, o + q, none⟩ = some (.int .i64 1) := (HW.out.1.cell (p := ⟨b, o + q, none⟩) hb).trans hc
      clear hb hc
      have j3 : (0 : Int) ≤ (q : Int) := by omega
      have e1 := hk2.out.2.2.1
      have e2 := hk2.out.2.2.2.1
      have e3 := hk2.out.2.2.2.2.1
      have e4 := hk2.out.2.2.2.2.2
      go_wp2_with fail
      refine (HS.out.2.2.2.2.2.2.2 W HW.out.1).mono ?_
      rintro e w1 ⟨g, rfl, n1, n2⟩
      have H2 := Lib.hid (And.intro n1 n2); clear n1 n2
      clear e1 e2 e4 s1
      go_wp2_with fail
      refine (PX w1).mono ?_
      rintro e w2 ⟨rfl, n1, n2⟩
      have hsz1 : W.heap.size ≤ w1.heap.size := H2.out.2.size
      have M := int_add w2 W.heap.size g w1.heap.size N X (H2.out.1.kept n2) (n1.mono hsz1) (H2.out.1.apart n2 n1) (by have := HP.out; omega) (by have := HP.out; omega) (by have := n2.size; omega)
      have H3 := Lib.hid (And.intro n1 (And.intro n2 hsz1)); clear n1 n2 hsz1
      go_wp2_with fail
      refine M.mono ?_
      rintro e w3 ⟨rfl, n1, n2⟩
      have H4 := Lib.hid (And.intro n1 n2); clear n1 n2 M e3
      go_wp2_with fail
      refine (PY w3).mono ?_
      rintro e w4 ⟨rfl, n1, n2⟩
      have hsz3 : W.heap.size ≤ w3.heap.size := Nat.le_trans H3.out.2.2 (Nat.le_trans H3.out.2.1.size H4.out.2.size)
      have M := int_sub w4 W.heap.size g w3.heap.size (N + X) Y (H4.out.1.kept n2) (n1.mono hsz3) (by have := HP.out; omega) (by have := HP.out; omega) (by have := HP.out; omega) (by have := HP.out; omega) (by have := n2.size; omega)
      have H5 := Lib.hid (And.intro n1 (And.intro n2 hsz3)); clear n1 n2 hsz3
      go_wp2_with fail
      refine M.mono ?_
      rintro e w5 ⟨rfl, n1, n2⟩
      have H6 := Lib.hid (And.intro n1 n2); clear n1 n2 M
      go_wp2_with fail
      refine (PZ w5).mono ?_
      rintro e w6 ⟨rfl, n1, n2⟩
      have hsz5 : W.heap.size ≤ w5.heap.size := Nat.le_trans H5.out.2.2 (Nat.le_trans H5.out.2.1.size H6.out.2.size)
      have hgl : g < w5.heap.size := by obtain ⟨-, A', n', c', j1, j2⟩ := H6.out.1; exact j1.lt
      have M := int_cmp w6 W.heap.size g w5.heap.size (N + X - Y) 18446744073709551616 (H6.out.1.kept n2) (n1.mono hsz5) (by omega) (by have := HP.out; omega) (by decide) (by omega)
      have hbig := cmpI_nonneg (N + X - Y) 18446744073709551616
      have H7 := Lib.hid (And.intro n1 (And.intro n2 (And.intro hsz5 (H6.out.1.kept n2)))); clear n1 n2 hsz5 hgl
      have hall : Below W.heap.size W w6 := H2.out.2.trans ((H3.out.2.1.mono H3.out.2.2).trans (H4.out.2.trans ((H5.out.2.1.mono H5.out.2.2).trans (H6.out.2.trans (H7.out.2.1.mono H7.out.2.2.1)))))
      have g1 := (hall.block _ (lt_of_block HW.out.2.1)).trans HW.out.2.1
      have g2 := (hall.block _ (lt_of_block HW.out.2.2)).trans HW.out.2.2
      obtain ⟨b0', b1', -, -⟩ := rr_cells g1
      obtain ⟨d0, d1, d2, d3⟩ := rr_cells g2
      have H8 := Lib.hid (And.intro g1 (And.intro g2 (HW.out.1.trans (hall.mono HW.out.1.size)))); clear g1 g2 hall
      generalize cmpI (N + X - Y) 18446744073709551616 = cc at M hbig
      by_cases hbg : 18446744073709551616 ≤ N + X - Y
      · have k1 : decide (0 ≤ cc) = true := decide_eq_true (hbig.2 hbg)
        have HG := Lib.hid hbg; clear hbg hbig
        go_wp2_with fail
        refine M.mono ?_
        rintro e w7 ⟨rfl, m7, rfl⟩
        go_wp2_with fail
        refine (F (w6.drewN m7)).mono ?_
        rintro e w8 ⟨rfl, hb⟩
        have hg := (hb.block (w.heap.size + 1) (lt_of_block H8.out.2.1)).trans H8.out.2.1
        obtain ⟨d0, d1, d2, d3⟩ := rr_cells hg
        have hb6 : Below w6.heap.size w6 w8 := (then_drewN (Below.refl _ w6) m7).trans hb
        have HQ := Lib.hid (And.intro hg (H8.out.2.2.trans (hb6.mono H8.out.2.2.size))); clear hb hg hb6
        go_wp2_with fail
        refine bodyPost_ret (ret_cell3 rfl _ _ (w.heap.size + 1) _ _ rfl (rr_store HQ.out.1 _ _)) rfl ?_
        exact ⟨Or.inl ⟨HG.out, rfl⟩, HC.out, rr_below HQ.out.2 (by omega) _ _⟩
      · have k1 : decide (0 ≤ cc) = false := decide_eq_false (fun h => hbg (hbig.1 h))
        have HG := Lib.hid hbg; clear hbg hbig
        go_wp2_with fail
        refine M.mono ?_
        rintro e w7 ⟨rfl, m7, rfl⟩
        go_wp2_with fail
        have U := int_uint64 (w6.drewN m7).drew W.heap.size g (N + X - Y) H7.out.2.2.2 (by have := HG.out; omega)
        obtain ⟨w8, ew8⟩ : ∃ w8, w8 = w6.drewN m7 := ⟨_, rfl⟩
        have g1 : w8.heap[w.heap.size]? = some (.cells #[Value.slice (some ⟨b, o, none⟩) n cap, Value.int .i64 0] 30 (0, 0)) := by rw [ew8]; exact H8.out.1
        have g2 : w8.heap[w.heap.size + 1]? = some (.cells #[Value.slice none 0 0, Value.int .i64 0] 30 (0, 0)) := by rw [ew8]; exact H8.out.2.1
        have g3 : Below w.heap.size w w8 := by rw [ew8]; exact then_drewN H8.out.2.2 m7
        clear b0 b1 b0' b1' d0 d1 d2 d3
        obtain ⟨b0', b1', -, -⟩ := rr_cells g1
        obtain ⟨d0, d1, d2, d3⟩ := rr_cells g2
        have e1 := hk2.out.2.2.1
        have e1' : IntKind.i64.wrap (IntKind.i64.wrap (IntKind.i64.wrap (2 * (q : Int)) + (k : Int)) + 1) = (L : Nat) := len_wrap' e1
        rw [← ew8] at U ⊢
        obtain ⟨V, eV⟩ : ∃ V, V = N + X - Y := ⟨_, rfl⟩
        rw [← eV] at U
        have HV := Lib.hid (show V = N + X - Y ∧ N + X - Y < 18446744073709551616 from ⟨eV, Nat.lt_of_not_le HG.out⟩); clear eV
        have HQ := Lib.hid (And.intro g2 g3); clear g1 g2 g3 ew8
        go_region_with ((refine U.mono ?_; rintro e w9 ⟨rfl, rfl⟩))
        all_goals (go_wp2_with fail; refine bodyPost_ret (ret_cell3 rfl _ _ (w.heap.size + 1) _ _ rfl (rr_store HQ.out.1 _ _)) rfl ?_; exact ⟨Or.inr ⟨HV.out.2, by rw [← HV.out.1] <;> rfl⟩, HC.out, (rr_below HQ.out.2 (by omega) _ _).drew⟩)
end Go.Proofs.Ytpnlcnilhlcfpaa
