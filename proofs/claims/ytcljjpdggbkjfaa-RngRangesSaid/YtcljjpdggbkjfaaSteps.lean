/- RngSteps. -/
import Derived.Test.YtcljjpdggbkjfaaFair
namespace Go.Proofs.Ytcljjpdggbkjfaa
open Go.RowKit

theorem word_moved (s k d : Int) (j : Nat) : wordI (IntKind.u64.wrap (s + IntKind.u64.wrap (IntKind.u64.wrap d * 11400714819323198485))) (wrap64 (wrap64 (k - d) + j)) = wordI s (wrap64 (k + j)) := by
  have e1 : BitVec.ofInt 64 (IntKind.u64.wrap (s + IntKind.u64.wrap (IntKind.u64.wrap d * 11400714819323198485))) = BitVec.ofInt 64 s + BitVec.ofInt 64 d * M.g := by
    have eg : BitVec.ofInt 64 11400714819323198485 = M.g := rfl
    simp only [Bv.ofInt_wrap, BitVec.ofInt_add, BitVec.ofInt_mul, eg]
  have e2 : BitVec.ofInt 64 (wrap64 (wrap64 (k - d) + j)) = BitVec.ofInt 64 (wrap64 (k + j)) - BitVec.ofInt 64 d := by
    have e3 : wrap64 (wrap64 (k - d) + j) = wrap64 ((k + j) - d) := by unfold wrap64; omega
    rw [e3, Bv.ofInt_wrap64, Bv.ofInt_wrap64, Bv.ofInt_sub]
  unfold wordI
  rw [e1, e2]
  exact congrArg (fun t : BitVec 64 => (t.toNat : Int)) (M.word_move _ _ _)

theorem J_moved (s k d n : Int) : J (IntKind.u64.wrap (s + IntKind.u64.wrap (IntKind.u64.wrap d * 11400714819323198485))) (wrap64 (k - d)) n = J s k n := by
  have e : ∀ j : Nat, M.acc n.toNat (M.word (BitVec.ofInt 64 (IntKind.u64.wrap (s + IntKind.u64.wrap (IntKind.u64.wrap d * 11400714819323198485)))) (BitVec.ofInt 64 (wrap64 (k - d)) + BitVec.ofNat 64 j)).toNat = M.acc n.toNat (M.word (BitVec.ofInt 64 s) (BitVec.ofInt 64 k + BitVec.ofNat 64 j)).toNat := fun j => by
    rw [← foldOk_step, ← foldOk_step, word_moved]
  exact congrArg first (funext e)

theorem drawV_moved (s k d n : Int) : drawV (IntKind.u64.wrap (s + IntKind.u64.wrap (IntKind.u64.wrap d * 11400714819323198485))) (wrap64 (k - d)) n = drawV s k n := by
  unfold drawV
  rw [J_moved, word_moved]
theorem drawK_moved (s k d n : Int) : drawK (IntKind.u64.wrap (s + IntKind.u64.wrap (IntKind.u64.wrap d * 11400714819323198485))) (wrap64 (k - d)) n = wrap64 (drawK s k n - d) := by
  unfold drawK
  rw [J_moved]
  unfold wrap64; omega
theorem word_moved0 (s k d : Int) : wordI (IntKind.u64.wrap (s + IntKind.u64.wrap (IntKind.u64.wrap d * 11400714819323198485))) (wrap64 (k - d)) = wordI s (wrap64 k) := by
  have := word_moved s k d 0
  simp only [Int.natCast_zero, Int.add_zero] at this
  rw [← this, w64_of (k := wrap64 (k - d)) (by unfold wrap64; omega) (by unfold wrap64; omega)]

theorem w64_lo (x : Int) : -9223372036854775808 ≤ wrap64 x := by unfold wrap64; omega
theorem w64_hi (x : Int) : wrap64 x ≤ 9223372036854775807 := by unfold wrap64; omega

set_option maxRecDepth 100000 in
set_option maxHeartbeats 1000000 in
theorem steps_walk (s k n d : Int) (w : World) (s0 : 0 ≤ s) (s1 : s ≤ 18446744073709551615) (k0 : -9223372036854775808 ≤ k) (k1 : k ≤ 9223372036854775807) (n0 : -9223372036854775808 ≤ n) (n1 : n ≤ 9223372036854775807) (d0 : -32768 ≤ d) (d1 : d ≤ 32767) :
    Calls Try.prog 4 #[.int .u64 s, .int .i64 k, .int .i64 n, .int .i16 d] w fun e w' => e = .returned (.bool true) ∧ Below w.heap.size w w' := by
  go_enter Try.func4, Try.ntmps4
  go_upto_if 21 with fail
  go_cut [2] (fun v wx => ∃ N : Int, v = .int .i64 N ∧ -1 ≤ N ∧ N ≤ 9223372036854775807 ∧ wx = w)
  case first =>
    by_cases h : n < 1
    · go_wp2_with fail
      go_meet
      (refine ⟨_, rfl, ?_, ?_, rfl⟩ <;> omega)
    · go_wp2_with fail
      go_meet
      (refine ⟨_, rfl, ?_, ?_, rfl⟩ <;> omega)
  case rest =>
    obtain ⟨N, rfl, hN0, hN1, rfl⟩ := hcut
    go_upto_region 3 with fail
    go_cut [2] (fun v wy => ∃ M : Int, v = .int .i64 M ∧ 1 ≤ M ∧ M ≤ 9223372036854775807 ∧ wy = wc)
    case first =>
      go_wp2_with fail
      all_goals go_meet
      all_goals (refine ⟨_, rfl, ?_, ?_, rfl⟩ <;> omega)
    case rest =>
      clear hN0 hN1
      obtain ⟨M, rfl, hM0, hM1, rfl⟩ := hcut
      -- what the draw does, under names
      have hJ := J_lt s k M hM0 (by omega)
      have b1 := Below_calls s k M wc k0 k1 hM0 hM1
      have v0 := drawV_lo s k M
      have v1 := drawV_lt s k M hM0
      have hUE : wrap64 (drawK s k M - k) = (J s k M : Int) + 1 := by unfold drawK wrap64; omega
      have hno : ∀ j : Nat, (j : Int) < J s k M → foldOk (wordI s (wrap64 (k + j))) M = false := fun j hj => J_no s k M (by omega) (by omega) j (by omega)
      have hyes : ∀ j : Nat, (j : Int) = J s k M → foldOk (wordI s (wrap64 (k + j))) M = true ∧ foldV (wordI s (wrap64 (k + j))) M = drawV s k M := fun j hj => by
        have e : j = J s k M := by omega
        subst e
        exact ⟨J_ok s k M (by omega) (by omega), rfl⟩
      have b2 : ∀ w : World, _ := fun w => Below_calls (IntKind.u64.wrap (s + IntKind.u64.wrap (IntKind.u64.wrap d * 11400714819323198485))) (wrap64 (k - d)) M w (w64_lo _) (w64_hi _) hM0 hM1
      simp only [drawV_moved, drawK_moved] at b2
      have e2 : wordI (IntKind.u64.wrap (s + IntKind.u64.wrap (IntKind.u64.wrap d * 11400714819323198485))) (wrap64 (k - d)) = wordI s k := by rw [word_moved0, w64_of k0 k1]
      generalize J s k M = U at hJ hUE hno hyes
      generalize drawV s k M = V at b1 v0 v1 hyes b2
      generalize drawK s k M = E at b1 hUE b2
      have H := Lib.hid (And.intro b1 (And.intro hno (And.intro hyes (And.intro b2 e2))))
      clear b1 hno hyes b2 e2
      go_wp2_with fail
      refine H.out.1.mono ?_
      rintro e wb ⟨rfl, hb⟩
      have HB := Lib.hid hb; clear hb
      go_wp2_with fail
      go_loopg [54] (U + 1) (fun gh v wx => ∃ j : Nat, gh = U + 1 - j ∧ j ≤ U + 1 ∧ v = .int .i64 j ∧ wx = wb)
      case atStart => exact ⟨0, rfl, by omega, rfl, rfl⟩
      case round =>
        obtain ⟨j, hgh, hj, rfl, rfl⟩ := hrel
        have Hgh := Lib.hid hgh; clear hgh
        by_cases hlt : j < U + 1
        · by_cases hlast : j = U
          · have hy := H.out.2.2.1 j (by omega)
            have e1 : ((j : Int) == (U : Int) + 1 - 1) = true := by rw [beq_iff_eq]; omega
            have c1 := word_at s (wrap64 (k + j)) _ wr rfl
            have c2 := fold_at (wordI s (wrap64 (k + j))) M V true wr (wordI_lo _ _) (wordI_hi _ _) hM0 hM1 hy.2 hy.1
            generalize wordI s (wrap64 (k + j)) = W at c1 c2
            have HC := Lib.hid (And.intro c1 c2)
            clear c1 c2 hy
            have hjj : (j : Int) = U := by omega
            have HJJ := Lib.hid hjj
            clear hjj hlast
            go_wp2_with fail
            refine HC.out.1.mono ?_
            rintro e w' ⟨rfl, rfl⟩
            go_wp2_with fail
            refine HC.out.2.mono ?_
            rintro e w' ⟨rfl, rfl⟩
            go_wp2_with fail
            go_roundg (U + 1 - (j + 1))
            case measure => have := Hgh.out; omega
            case rel => exact ⟨j + 1, rfl, by omega, by go_num, rfl⟩
          · have hy := H.out.2.1 j (by omega)
            have e1 : ((j : Int) == (U : Int) + 1 - 1) = false := by rw [beq_eq_false_iff_ne]; omega
            have c1 := word_at s (wrap64 (k + j)) _ wr rfl
            have c2 := fold_at (wordI s (wrap64 (k + j))) M 0 false wr (wordI_lo _ _) (wordI_hi _ _) hM0 hM1 (foldV_no hy) hy
            generalize wordI s (wrap64 (k + j)) = W at c1 c2
            have HC := Lib.hid (And.intro c1 c2)
            clear c1 c2 hy
            go_wp2_with fail
            refine HC.out.1.mono ?_
            rintro e w' ⟨rfl, rfl⟩
            go_wp2_with fail
            refine HC.out.2.mono ?_
            rintro e w' ⟨rfl, rfl⟩
            go_wp2_with fail
            go_roundg (U + 1 - (j + 1))
            case measure => have := Hgh.out; omega
            case rel => exact ⟨j + 1, rfl, by omega, by go_num, rfl⟩
        · go_wp2_with fail
          refine (H.out.2.2.2.1 _).mono ?_
          rintro e w2 ⟨rfl, hb2⟩
          have HB2 := Lib.hid (then_ HB.out hb2); clear hb2 HB
          go_wp2_with fail
          refine (word_at _ _ (wordI s k) _ H.out.2.2.2.2).mono ?_
          rintro e w' ⟨rfl, rfl⟩
          go_wp2_with fail
          refine (word_at s k (wordI s k) _ rfl).mono ?_
          rintro e w' ⟨rfl, rfl⟩
          go_wp2_with fail
          refine (awake_calls _).mono ?_
          rintro e w3 ⟨rfl, hb3⟩
          have HB3 := Lib.hid (then_ HB2.out hb3); clear hb3 HB2
          go_wp2_with fail
          go_ret
          exact ⟨rfl, HB3.out⟩
end Go.Proofs.Ytcljjpdggbkjfaa
