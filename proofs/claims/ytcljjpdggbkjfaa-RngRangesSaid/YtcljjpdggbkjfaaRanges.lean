/- RngRanges. -/
import Derived.Test.YtcljjpdggbkjfaaSteps
set_option linter.unusedVariables false
namespace Go.Proofs.Ytcljjpdggbkjfaa
open Go.RowKit

theorem span_val {lo hi : Int} (l0 : -9223372036854775808 ≤ lo) (h1 : hi ≤ 9223372036854775807) (h : lo ≤ hi) : span lo hi = (hi - lo + 1) % 18446744073709551616 := by
  unfold span; rw [IntKind.wrap_u64, IntKind.wrap_u64, IntKind.wrap_u64, IntKind.wrap_u64]; omega

theorem range_in (s k : Int) {lo hi : Int} (l0 : -9223372036854775808 ≤ lo) (h1 : hi ≤ 9223372036854775807) (h : lo ≤ hi) :
    lo ≤ wrap64 (lo + drawV s k (span lo hi)) ∧ wrap64 (lo + drawV s k (span lo hi)) ≤ hi ∧ (hi - lo ≤ 9223372036854775807 → wrap64 (lo + drawV s k (span lo hi)) = lo + drawV s k (span lo hi)) := by
  have hv := span_val l0 h1 h
  have a := drawV_lo s k (span lo hi)
  have b := drawV_hi s k (span lo hi)
  have c := fun q => drawV_lt s k (span lo hi) q
  generalize drawV s k (span lo hi) = V at *
  by_cases hz : span lo hi = 0
  · refine ⟨?_, ?_, ?_⟩
    · unfold wrap64; omega
    · unfold wrap64; omega
    · intro; omega
  · have := c (by omega)
    refine ⟨?_, ?_, ?_⟩
    · unfold wrap64; omega
    · unfold wrap64; omega
    · intro; unfold wrap64; omega

theorem range_moved (s k : Int) {lo hi : Int} (l0 : -9223372036854775808 ≤ lo) (h1 : hi ≤ 9223372036854775807) (h : lo ≤ hi) (hd : 0 ≤ wrap64 (hi - lo)) :
    span (-9223372036854775808) (wrap64 (-9223372036854775808 + wrap64 (hi - lo))) = span lo hi := by
  rw [span_val l0 h1 h, span_val (by omega) (w64_hi _) (by exact w64_lo _)]
  unfold wrap64 at *
  omega

set_option maxRecDepth 100000 in
set_option maxHeartbeats 2000000 in
theorem ranges_walk (s k lo hi num den : Int) (w : World) (s0 : 0 ≤ s) (s1 : s ≤ 18446744073709551615) (k0 : -9223372036854775808 ≤ k) (k1 : k ≤ 9223372036854775807) (l0 : -9223372036854775808 ≤ lo) (l1 : lo ≤ 9223372036854775807)
    (h0 : -9223372036854775808 ≤ hi) (h1 : hi ≤ 9223372036854775807) (n0 : -9223372036854775808 ≤ num) (n1 : num ≤ 9223372036854775807) (d0 : -9223372036854775808 ≤ den) (d1 : den ≤ 9223372036854775807) :
    Calls Try.prog 5 #[.int .u64 s, .int .i64 k, .int .i64 lo, .int .i64 hi, .int .i64 num, .int .i64 den] w fun e w' => e = .returned (.bool true) ∧ Below w.heap.size w w' := by
  go_enter Try.func5, Try.ntmps5
  go_upto_region 2 with fail
  go_cut [2, 3] (fun v u wx => ∃ L H : Int, v = .int .i64 L ∧ u = .int .i64 H ∧ -9223372036854775808 ≤ L ∧ L ≤ H ∧ H ≤ 9223372036854775807 ∧ wx = w)
  case first =>
    by_cases h : lo ≤ hi
    · go_wp2_with fail
      all_goals go_meet
      all_goals (refine ⟨_, _, rfl, rfl, ?_, ?_, ?_, rfl⟩ <;> omega)
    · go_wp2_with fail
      all_goals go_meet
      all_goals (refine ⟨_, _, rfl, rfl, ?_, ?_, ?_, rfl⟩ <;> omega)
  case rest =>
    obtain ⟨L, H, rfl, rfl, hL0, hLH, hH1, rfl⟩ := hcut
    clear l0 l1 h0 h1
    have r1 := range_in s k hL0 hH1 hLH
    have c1 := Range_calls s k L H wc k0 k1 hLH
    have c2 : ∀ w : World, _ := fun w => Range_at s k L L L (drawK s k 1) w k0 k1 (Int.le_refl _) (by
      rw [span_val hL0 (by omega) (Int.le_refl _), show (L - L + 1) % 18446744073709551616 = 1 from by omega]
      have a := drawV_lo s k 1
      have b := drawV_lt s k 1 (by omega)
      rw [show drawV s k 1 = 0 from by omega]; exact (by unfold wrap64; omega)) (by rw [span_val hL0 (by omega) (Int.le_refl _), show (L - L + 1) % 18446744073709551616 = 1 from by omega])
    have c3 : ∀ w : World, _ := fun w => Range_calls s k (-9223372036854775808) (wrap64 (-9223372036854775808 + wrap64 (H - L))) w k0 k1 (w64_lo _)
    have hcase : 0 ≤ wrap64 (H - L) → H - L ≤ 9223372036854775807 ∧ 0 ≤ H - L ∧ drawK s k (span (-9223372036854775808) (wrap64 (-9223372036854775808 + wrap64 (H - L)))) = drawK s k (span L H) ∧
        wrap64 (-9223372036854775808 + drawV s k (span (-9223372036854775808) (wrap64 (-9223372036854775808 + wrap64 (H - L))))) = wrap64 (L + drawV s k (span L H)) - L - 9223372036854775808 := fun hd => by
      have hHL : wrap64 (H - L) = H - L := by unfold wrap64 at *; omega
      have hx : H - L ≤ 9223372036854775807 := by rw [← hHL]; exact w64_hi _
      have hv := r1.2.2 hx
      rw [range_moved s k hL0 hH1 hLH hd, hv]
      refine ⟨hx, by rw [← hHL]; exact hd, rfl, ?_⟩
      have := r1.2.1
      have := drawV_lo s k (span L H)
      rw [hv] at *
      unfold wrap64; omega
    have hneg : wrap64 (H - L) < 0 ∨ 0 ≤ wrap64 (H - L) := by omega
    generalize drawK s k (span (-9223372036854775808) (wrap64 (-9223372036854775808 + wrap64 (H - L)))) = E3 at c3 hcase
    generalize wrap64 (-9223372036854775808 + drawV s k (span (-9223372036854775808) (wrap64 (-9223372036854775808 + wrap64 (H - L))))) = G at c3 hcase
    generalize wrap64 (L + drawV s k (span L H)) = V at c1 hcase r1
    generalize drawK s k (span L H) = E at c1 hcase
    generalize drawK s k 1 = F at c2
    obtain ⟨r2, r3, r4⟩ := r1
    clear r4
    have HC := Lib.hid (And.intro c1 (And.intro c2 c3))
    have HX := Lib.hid (And.intro hcase hneg)
    clear c1 c2 c3 hcase hneg
    go_wp2_with fail
    refine HC.out.1.mono ?_
    rintro e w1 ⟨rfl, hb⟩
    have HB := Lib.hid hb; clear hb
    go_wp2_with fail
    refine (HC.out.2.1 _).mono ?_
    rintro e w2 ⟨rfl, hb⟩
    have HB2 := Lib.hid (then_ HB.out hb); clear hb HB
    go_wp2_with fail
    refine (HC.out.2.2 _).mono ?_
    rintro e w3 ⟨rfl, hb⟩
    have HB3 := Lib.hid (then_ HB2.out hb); clear hb HB2
    go_upto_region 8 with fail
    go_cut [115] (fun v wx => v = .bool false ∧ wx = w3)
    case first =>
      rcases HX.out.2 with hneg | hd
      · go_wp2_with fail
        go_meet
        exact ⟨rfl, rfl⟩
      · obtain ⟨x1, x2, rfl, rfl⟩ := HX.out.1 hd
        clear hd
        go_wp2_with fail
        go_meet
        exact ⟨rfl, rfl⟩
    case rest =>
      obtain ⟨rfl, hwe⟩ := hcut
      subst hwe
      clear HC HX
      go_upto_if 117 with fail
      go_cut [5] (fun v wx => ∃ N : Int, v = .int .i64 N ∧ -1 ≤ N ∧ N ≤ 9223372036854775807 ∧ wx = wc)
      case first =>
        by_cases h : den < 1
        · go_wp2_with fail
          go_meet
          (refine ⟨_, rfl, ?_, ?_, rfl⟩ <;> omega)
        · go_wp2_with fail
          go_meet
          (refine ⟨_, rfl, ?_, ?_, rfl⟩ <;> omega)
      case rest =>
        obtain ⟨N, rfl, hN0, hN1, hwe⟩ := hcut
        subst hwe
        clear d0 d1
        go_upto_region 12 with fail
        go_cut [5] (fun v wy => ∃ M : Int, v = .int .i64 M ∧ 1 ≤ M ∧ M ≤ 9223372036854775807 ∧ wy = wc)
        case first =>
          go_wp2_with fail
          all_goals go_meet
          all_goals (refine ⟨_, rfl, ?_, ?_, rfl⟩ <;> omega)
        case rest =>
          clear hN0 hN1
          obtain ⟨D, rfl, hD0, hD1, hwe⟩ := hcut
          subst hwe
          have hz : 0 ≤ IntKind.u64.wrap num := Bv.wrap_lo _
          go_upto_region 13 with fail
          go_cut [4] (fun v wz => ∃ Q : Int, v = .int .i64 Q ∧ 0 ≤ Q ∧ Q ≤ D ∧ wz = wc)
          case first =>
            go_wp2_with fail
            go_meet
            have q1 := Int.emod_nonneg (IntKind.u64.wrap num) (show D + 1 ≠ 0 by omega)
            have q2 := Int.emod_lt_of_pos (IntKind.u64.wrap num) (show 0 < D + 1 by omega)
            refine ⟨_, rfl, ?_, ?_, rfl⟩
            · rw [w64_of (by omega) (by omega)]; exact q1
            · rw [w64_of (by omega) (by omega)]; omega
          case rest =>
            clear hz n0 n1
            obtain ⟨Q, rfl, hQ0, hQ1, hwe⟩ := hcut
            subst hwe
            have hB0 := drawV_lo s k D
            have hB1 := drawV_lt s k D hD0
            have c4 := fun w => Below_calls s k D w k0 k1 hD0 hD1
            have c5 := fun (w : World) (b : Bool) q => Chance_at s k Q D b w k0 k1 hD0 hQ0 hQ1 hD1 q
            have c6 := fun (w : World) q => Chance_at s k 0 D false w k0 k1 hD0 (by omega) (by omega) hD1 q
            have c7 := fun (w : World) q => Chance_at s k D D true w k0 k1 hD0 (by omega) (by omega) hD1 q
            have c8 := fun (w : World) (b : Bool) q => Chance_at s k (Q / 2) D b w k0 k1 hD0 (by omega) (by omega) hD1 q
            generalize drawV s k D = Y at *
            generalize drawK s k D = Z at *
            have HC := Lib.hid (And.intro c4 (And.intro c5 (And.intro c6 (And.intro c7 c8))))
            clear c4 c5 c6 c7 c8
            go_wp2_with fail
            refine (HC.out.1 _).mono ?_
            rintro e w4 ⟨rfl, hb⟩
            have HB4 := Lib.hid (then_ HB3.out hb); clear hb HB3
            go_wp2_with fail
            refine (HC.out.2.1 _ (decide (Y < Q)) rfl).mono ?_
            rintro e w5 ⟨rfl, hb⟩
            have HB5 := Lib.hid (then_ HB4.out hb); clear hb HB4
            go_wp2_with fail
            refine (HC.out.2.2.1 _ (by simp; omega)).mono ?_
            rintro e w6 ⟨rfl, hb⟩
            have HB6 := Lib.hid (then_ HB5.out hb); clear hb HB5
            go_wp2_with fail
            refine (HC.out.2.2.2.1 _ (by simp; omega)).mono ?_
            rintro e w7 ⟨rfl, hb⟩
            have HB7 := Lib.hid (then_ HB6.out hb); clear hb HB6
            go_wp2_with fail
            refine (HC.out.2.2.2.2 _ (decide (Y < Q / 2)) rfl).mono ?_
            rintro e w8 ⟨rfl, hb⟩
            have HB8 := Lib.hid (then_ HB7.out hb); clear hb HB7 HC
            by_cases hy : Y < Q
            · by_cases hy2 : Y < Q / 2
              · go_wp2_with fail
                refine (awake_calls _).mono ?_
                rintro e w9 ⟨rfl, hb⟩
                have HB9 := Lib.hid (then_ HB8.out hb); clear hb HB8
                go_wp2_with fail
                go_ret
                exact ⟨rfl, HB9.out⟩
              · go_wp2_with fail
                refine (awake_calls _).mono ?_
                rintro e w9 ⟨rfl, hb⟩
                have HB9 := Lib.hid (then_ HB8.out hb); clear hb HB8
                go_wp2_with fail
                go_ret
                exact ⟨rfl, HB9.out⟩
            · have hy2 : ¬ Y < Q / 2 := by omega
              go_wp2_with fail
              refine (awake_calls _).mono ?_
              rintro e w9 ⟨rfl, hb⟩
              have HB9 := Lib.hid (then_ HB8.out hb); clear hb HB8
              go_wp2_with fail
              go_ret
              exact ⟨rfl, HB9.out⟩
end Go.Proofs.Ytcljjpdggbkjfaa
