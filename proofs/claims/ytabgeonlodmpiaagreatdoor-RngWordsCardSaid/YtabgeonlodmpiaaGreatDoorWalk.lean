/- The walks of the functions of package rng: what each returns. -/
import Derived.Test.YtabgeonlodmpiaaGreatDoorChecked
import Derived.WalkKit
import Derived.WalkSpells
import Derived.WalkLawsBesides
import Derived.Lib.Hide
import Derived.Deep.QuietTactic
import Derived.BigQuiet
import Derived.Deep.LoopGhost
import Derived.Test.YtabgeonlodmpiaaGreatDoorMath
import Derived.Test.YtabgeonlodmpiaaGreatDoorBv
import Derived.Test.YtabgeonlodmpiaaGreatDoorAid
namespace Go.Proofs.YtabgeonlodmpiaaGreatDoor
open Go.RowKit

def mixI (z : Int) : Int := ((M.mix (BitVec.ofInt 64 z)).toNat : Int)

theorem mix_calls (z : Int) (w : World) (h0 : 0 ≤ z) (h1 : z ≤ 18446744073709551615) :
    Calls Tryz.prog 11 #[.int .u64 z] w fun e w' => e = .returned (.int .u64 (mixI z)) ∧ w = w' := by
  go_enter Tryz.func11, Tryz.ntmps11
  go_wp2
  go_ret
  refine ⟨ret_congr ?_, rfl⟩
  refine congrArg (Value.int .u64) ?_
  obtain ⟨b, rfl⟩ : ∃ b : BitVec 64, z = (b.toNat : Int) := ⟨BitVec.ofInt 64 z, (Bv.toNat_ofInt h0 h1).symm⟩
  have e30 := fun a : BitVec 64 => Bv.div_eq a 30
  have e27 := fun a : BitVec 64 => Bv.div_eq a 27
  have e31 := fun a : BitVec 64 => Bv.div_eq a 31
  have m1 := fun a : BitVec 64 => Bv.mul_eq a M.c1
  have m2 := fun a : BitVec 64 => Bv.mul_eq a M.c2
  simp only [show ((2 ^ 30 : Nat) : Int) = 1073741824 from rfl] at e30
  simp only [show ((2 ^ 27 : Nat) : Int) = 134217728 from rfl] at e27
  simp only [show ((2 ^ 31 : Nat) : Int) = 2147483648 from rfl] at e31
  simp only [show (M.c1.toNat : Int) = 13787848793156543929 from rfl] at m1
  simp only [show (M.c2.toNat : Int) = 10723151780598845931 from rfl] at m2
  simp only [e30, Bv.xor_eq, m1, e27, m2, e31]
  unfold mixI
  rw [Bv.ofInt_toNat]
  rfl

/-- The word with an index, of numbers as the walk has them. -/
def wordI (s k : Int) : Int := ((M.word (BitVec.ofInt 64 s) (BitVec.ofInt 64 k)).toNat : Int)
theorem wordI_lo (s k : Int) : 0 ≤ wordI s k := by unfold wordI; omega
theorem wordI_hi (s k : Int) : wordI s k ≤ 18446744073709551615 := by
  unfold wordI; have := (M.word (BitVec.ofInt 64 s) (BitVec.ofInt 64 k)).isLt; omega

theorem word_calls (s k : Int) (w : World) :
    Calls Tryz.prog 6 #[.int .u64 s, .int .i64 k] w fun e w' => e = .returned (.int .u64 (wordI s k)) ∧ w = w' := by
  go_enter Tryz.func6, Tryz.ntmps6
  go_wp2_with (go_at_call 11; refine (mix_calls _ _ (Bv.wrap_lo _) (Bv.wrap_hi _)).mono ?_; rintro e w' ⟨rfl, rfl⟩)
  go_ret
  refine ⟨ret_congr ?_, rfl⟩
  refine congrArg (Value.int .u64) ?_
  unfold mixI wordI M.word
  have eg : BitVec.ofInt 64 11400714819323198485 = M.g := rfl
  have e1 : BitVec.ofInt 64 1 = 1#64 := rfl
  simp only [Bv.ofInt_wrap, BitVec.ofInt_add, BitVec.ofInt_mul, eg, e1]

def foldOk (x n : Int) : Bool := M.acc n.toNat x.toNat
def foldV (x n : Int) : Int := if foldOk x n then ((M.rem n.toNat x.toNat : Nat) : Int) else 0

theorem neg_rem (n : Int) (n0 : 1 ≤ n) (n1 : n ≤ 18446744073709551615) : (IntKind.u64.wrap (-n)).tmod n = ((M.rej n.toNat : Nat) : Int) := by
  rw [IntKind.wrap_u64, Int.tmod_eq_emod_of_nonneg (by omega)]
  unfold M.rej
  rw [if_neg (by omega), Int.natCast_emod]
  have e1 : (-n) % 18446744073709551616 = ((18446744073709551616 - n.toNat : Nat) : Int) := by omega
  rw [e1]
  congr 1
  omega

theorem fold_calls (x n : Int) (w : World) (h0 : 0 ≤ x) (h1 : x ≤ 18446744073709551615) (n0 : 0 ≤ n) (n1 : n ≤ 18446744073709551615) :
    Calls Tryz.prog 13 #[.int .u64 x, .int .u64 n] w fun e w' => e = .returned (.tuple #[.int .u64 (foldV x n), .bool (foldOk x n)]) ∧ w = w' := by
  by_cases hz : n = 0
  · subst hz
    have hk : foldOk x 0 = true := rfl
    have hv : foldV x 0 = x := by simp [foldV, hk, M.rem]; omega
    have H := Lib.hid (And.intro hk hv); clear hk hv
    go_enter Tryz.func13, Tryz.ntmps13
    go_wp2
    go_ret2
    rw [H.out.1, H.out.2]
    exact ⟨rfl, rfl⟩
  · have hr := neg_rem n (by omega) n1
    have hlt := M.rej_lt n.toNat (by omega)
    have hw : IntKind.u64.wrap (18446744073709551615 - ((M.rej n.toNat : Nat) : Int)) = 18446744073709551615 - ((M.rej n.toNat : Nat) : Int) := Bv.wrap_in (by omega) (by omega)
    have hne : (n == 0) = false := by simpa using hz
    by_cases hx : 18446744073709551615 - ((M.rej n.toNat : Nat) : Int) < x
    · have hk : foldOk x n = false := by
        unfold foldOk M.acc
        rw [Bool.or_eq_false_iff]
        refine ⟨by rw [beq_eq_false_iff_ne]; omega, by rw [decide_eq_false_iff_not]; omega⟩
      have hv : foldV x n = 0 := by simp [foldV, hk]
      have H := Lib.hid (And.intro hk hv); clear hk hv
      go_enter Tryz.func13, Tryz.ntmps13
      go_wp2
      go_ret2
      rw [H.out.1, H.out.2]
      exact ⟨rfl, rfl⟩
    · have hk : foldOk x n = true := by
        unfold foldOk M.acc
        rw [Bool.or_eq_true]
        exact Or.inr (by rw [decide_eq_true_eq]; omega)
      have hv : foldV x n = x % n := by
        simp only [foldV, hk, if_true, M.rem]
        rw [if_neg (by omega), Int.natCast_emod]
        congr 1 <;> omega
      have H := Lib.hid (And.intro hk hv); clear hk hv
      go_enter Tryz.func13, Tryz.ntmps13
      go_wp2
      go_ret2
      rw [H.out.1, H.out.2]
      exact ⟨rfl, rfl⟩

/-- What a draw of a stream of s from index k on does for n (0 stands for 2^64): the number of words that are not accepted; the number; the index behind it. -/
noncomputable def J (s k n : Int) : Nat := first fun j => M.acc n.toNat (M.word (BitVec.ofInt 64 s) (BitVec.ofInt 64 k + BitVec.ofNat 64 j)).toNat
noncomputable def drawV (s k n : Int) : Int := foldV (wordI s (wrap64 (k + J s k n))) n
noncomputable def drawK (s k n : Int) : Int := wrap64 (k + J s k n + 1)

theorem ofInt_step (k : Int) (j : Nat) : BitVec.ofInt 64 (wrap64 (k + j)) = BitVec.ofInt 64 k + BitVec.ofNat 64 j := by
  rw [Bv.ofInt_wrap64, BitVec.ofInt_add, BitVec.ofInt_natCast]
theorem wordI_step (s k : Int) (j : Nat) : wordI s (wrap64 (k + j)) = ((M.word (BitVec.ofInt 64 s) (BitVec.ofInt 64 k + BitVec.ofNat 64 j)).toNat : Int) :=
  congrArg (fun t => ((M.word (BitVec.ofInt 64 s) t).toNat : Int)) (ofInt_step k j)
theorem foldOk_step (s k n : Int) (j : Nat) : foldOk (wordI s (wrap64 (k + j))) n = M.acc n.toNat (M.word (BitVec.ofInt 64 s) (BitVec.ofInt 64 k + BitVec.ofNat 64 j)).toNat := by
  have e := wordI_step s k j
  have e2 : (wordI s (wrap64 (k + j))).toNat = (M.word (BitVec.ofInt 64 s) (BitVec.ofInt 64 k + BitVec.ofNat 64 j)).toNat := by omega
  exact congrArg (M.acc n.toNat) e2
theorem J_some (s k n : Int) (n0 : 0 ≤ n) (n1 : n ≤ 18446744073709551615) : ∃ j, M.acc n.toNat (M.word (BitVec.ofInt 64 s) (BitVec.ofInt 64 k + BitVec.ofNat 64 j)).toNat = true := by
  by_cases h : n.toNat = 0
  · exact ⟨0, by rw [h]; rfl⟩
  · obtain ⟨j, _, hj⟩ := M.some_acc (BitVec.ofInt 64 s) (BitVec.ofInt 64 k) n.toNat (by omega) (by omega)
    exact ⟨j, hj⟩
theorem J_ok (s k n : Int) (n0 : 0 ≤ n) (n1 : n ≤ 18446744073709551615) : foldOk (wordI s (wrap64 (k + J s k n))) n = true := by
  rw [foldOk_step]; exact (first_spec (J_some s k n n0 n1)).1
theorem J_no (s k n : Int) (n0 : 0 ≤ n) (n1 : n ≤ 18446744073709551615) (j : Nat) (h : j < J s k n) : foldOk (wordI s (wrap64 (k + j))) n = false := by
  rw [foldOk_step]; exact (first_spec (J_some s k n n0 n1)).2 j h
theorem J_le (s k n : Int) (j : Nat) (h : foldOk (wordI s (wrap64 (k + j))) n = true) : J s k n ≤ j := by
  rw [foldOk_step] at h; exact first_le h
theorem w64_step (x : Int) : wrap64 (wrap64 x + 1) = wrap64 (x + 1) := by unfold wrap64; omega
theorem J_lt (s k n : Int) (n0 : 1 ≤ n) (n1 : n ≤ 18446744073709551615) : (J s k n : Int) < n := by
  obtain ⟨j, hj, h⟩ := M.some_acc (BitVec.ofInt 64 s) (BitVec.ofInt 64 k) n.toNat (by omega) (by omega)
  have := first_le (p := fun j => M.acc n.toNat (M.word (BitVec.ofInt 64 s) (BitVec.ofInt 64 k + BitVec.ofNat 64 j)).toNat) h
  have e : J s k n ≤ j := this
  omega

set_option maxHeartbeats 400000 in
theorem below_calls (b : Nat) (T : TypeId) (s k n : Int) (w : World) (n0 : 0 ≤ n) (n1 : n ≤ 18446744073709551615)
    (hb : w.heap[b]? = some (.cells #[.int .u64 s, .int .i64 (wrap64 k)] T (0, 0))) :
    Calls Tryz.prog 37 #[.pointer (some ⟨b, 0, none⟩), .int .u64 n] w fun e w' => e = .returned (.int .u64 (drawV s k n)) ∧ w'.heap[b]? = some (.cells #[.int .u64 s, .int .i64 (drawK s k n)] T (0, 0)) ∧ Only b w w' := by
  have HB := Lib.hid hb; clear hb
  go_enter Tryz.func37, Tryz.ntmps37
  go_wp2_with fail
  go_loopg [] (J s k n + 1) (fun g wr => ∃ j : Nat, g = J s k n + 1 - j ∧ j ≤ J s k n ∧ wr.heap[b]? = some (.cells #[.int .u64 s, .int .i64 (wrap64 (k + j))] T (0, 0)) ∧ Only b w wr)
  case atStart => exact ⟨0, rfl, by omega, by simpa using HB.out, Only.refl _ _⟩
  case round =>
    obtain ⟨j, hg, hj, hbr, ho⟩ := hrel
    have hc0 := cell_of_block hbr 0
    have hc1 := cell_of_block hbr 1
    have hf1 := free_of_block hbr 1
    simp at hc0 hc1
    have H := Lib.hid (And.intro hg (And.intro hbr ho)); clear hg hbr ho
    by_cases hjj : j = J s k n
    · have hok : foldOk (wordI s (wrap64 (k + j))) n = true := by rw [hjj]; exact J_ok s k n n0 n1
      have HJ := Lib.hid hjj; clear hjj hj
      go_wp2_with fail
      go_quiet ((go_at_call 6; exact quiet_of_eq (word_calls _ _ _)))
      go_wp2_with (go_at_call 13; refine (fold_calls _ _ _ (wordI_lo _ _) (wordI_hi _ _) n0 n1).mono ?_; rintro e w' ⟨rfl, rfl⟩)
      go_ret
      obtain ⟨hg, hbr, ho⟩ := H.out
      refine ⟨ret_congr ?_, ?_, ?_⟩
      · show Value.int .u64 _ = _
        rw [drawV, ← HJ.out]
      · rw [w64_step, drawK, ← HJ.out]
        exact block_setCell (w := wr.drewN nq) hbr 1 _
      · exact (ho.drewN nq).setCell rfl _
    · have hok : foldOk (wordI s (wrap64 (k + j))) n = false := J_no s k n n0 n1 j (by omega)
      go_wp2_with fail
      go_quiet ((go_at_call 6; exact quiet_of_eq (word_calls _ _ _)))
      go_wp2_with (go_at_call 13; refine (fold_calls _ _ _ (wordI_lo _ _) (wordI_hi _ _) n0 n1).mono ?_; rintro e w' ⟨rfl, rfl⟩)
      obtain ⟨hg, hbr, ho⟩ := H.out
      go_roundg (J s k n + 1 - (j + 1))
      case measure => omega
      case rel =>
        refine ⟨j + 1, rfl, by omega, ?_, ?_⟩
        · rw [w64_step, show ((j + 1 : Nat) : Int) = (j : Int) + 1 from rfl, ← Int.add_assoc]
          exact block_setCell (w := wr.drewN nq) hbr 1 _
        · exact (ho.drewN nq).setCell rfl _

theorem foldV_in (x n : Int) (h0 : 0 ≤ x) (h1 : x ≤ 18446744073709551615) : 0 ≤ foldV x n ∧ foldV x n ≤ 18446744073709551615 := by
  unfold foldV M.rem
  split
  · split
    · omega
    · have := Nat.mod_le x.toNat n.toNat; omega
  · omega
theorem drawV_lo (s k n : Int) : 0 ≤ drawV s k n := (foldV_in _ _ (wordI_lo _ _) (wordI_hi _ _)).1
theorem drawV_hi (s k n : Int) : drawV s k n ≤ 18446744073709551615 := (foldV_in _ _ (wordI_lo _ _) (wordI_hi _ _)).2
theorem drawV_lt (s k n : Int) (n0 : 1 ≤ n) : drawV s k n < n := by
  unfold drawV foldV M.rem
  split
  · rw [if_neg (by omega)]
    have := Nat.mod_lt (wordI s (wrap64 (k + J s k n))).toNat (show 0 < n.toNat by omega)
    omega
  · omega


theorem w64_of {k : Int} (k0 : -9223372036854775808 ≤ k) (k1 : k ≤ 9223372036854775807) : wrap64 k = k := by unfold wrap64; omega

theorem Below_calls_no (s k n : Int) (w : World) (h : n < 1) :
    Calls Tryz.prog 17 #[.int .u64 s, .int .i64 k, .int .i64 n] w fun e w' => e = .returned (.tuple #[.int .i64 0, .int .i64 0, .int .i64 2]) ∧ Below w.heap.size w w' := by
  go_enter Tryz.func17, Tryz.ntmps17
  go_wp2
  go_ret3
  exact ⟨rfl, Below.refl _ _⟩

/-- What the call of 'below' gives a caller that has just made the source. -/
theorem below_new (s k n : Int) (w : World) (T : TypeId) (n0 : 0 ≤ n) (n1 : n ≤ 18446744073709551615) (k0 : -9223372036854775808 ≤ k) (k1 : k ≤ 9223372036854775807) :
    Calls Tryz.prog 37 #[.pointer (some ⟨w.heap.size, 0, none⟩), .int .u64 n] (w.alloc (.cells #[.int .u64 s, .int .i64 k] T)) fun e w' =>
      e = .returned (.int .u64 (drawV s k n)) ∧ (w'.cell? ⟨w.heap.size, 1, none⟩ = some (.int .i64 (drawK s k n)) ∧ Below w.heap.size w w') := by
  have hk := w64_of k0 k1
  refine (below_calls w.heap.size T s k n _ n0 n1 (by rw [hk]; exact heap_alloc_new w _)).mono ?_
  rintro e w' ⟨rfl, hb, ho⟩
  exact ⟨rfl, by simpa using cell_of_block hb 1, ((Below.refl _ _).alloc (Nat.le_refl _) _).trans (ho.below (Nat.le_refl _))⟩

theorem Below_calls (s k n : Int) (w : World) (k0 : -9223372036854775808 ≤ k) (k1 : k ≤ 9223372036854775807) (n0 : 1 ≤ n) (n1 : n ≤ 9223372036854775807) :
    Calls Tryz.prog 17 #[.int .u64 s, .int .i64 k, .int .i64 n] w fun e w' => e = .returned (.tuple #[.int .i64 (drawV s k n), .int .i64 (drawK s k n), .int .i64 0]) ∧ Below w.heap.size w w' := by
  have d0 := drawV_lo s k n
  have d1 := drawV_lt s k n n0
  go_enter Tryz.func17, Tryz.ntmps17
  go_wp2_with (go_at_call 37; refine (below_new s k n w _ (by omega) (by omega) k0 k1).mono ?_; rintro e w' ⟨rfl, hc, hbl⟩)
  go_quiet (fail)
  go_wp2
  go_ret3
  exact ⟨rfl, below_drewN' ‹_› _⟩

theorem ret3_congr {a b c a' b' c' : Value} (h : a = a') (h' : b = b') (h'' : c = c') : Ending.returned (.tuple #[a, b, c]) = .returned (.tuple #[a', b', c']) := by rw [h, h', h'']
theorem w64_u (lo v : Int) : wrap64 (IntKind.u64.wrap (IntKind.u64.wrap lo + v)) = wrap64 (lo + v) := by
  rw [IntKind.wrap_u64, IntKind.wrap_u64]; unfold wrap64; omega

theorem Range_calls_no (s k lo hi : Int) (w : World) (h : hi < lo) :
    Calls Tryz.prog 18 #[.int .u64 s, .int .i64 k, .int .i64 lo, .int .i64 hi] w fun e w' => e = .returned (.tuple #[.int .i64 0, .int .i64 0, .int .i64 2]) ∧ Below w.heap.size w w' := by
  go_enter Tryz.func18, Tryz.ntmps18
  go_wp2
  go_ret3
  exact ⟨rfl, Below.refl _ _⟩

/-- How many numbers a range has (0 stands for 2^64). -/
def span (lo hi : Int) : Int := IntKind.u64.wrap (IntKind.u64.wrap (IntKind.u64.wrap hi - IntKind.u64.wrap lo) + 1)

theorem Range_calls (s k lo hi : Int) (w : World) (k0 : -9223372036854775808 ≤ k) (k1 : k ≤ 9223372036854775807) (h : lo ≤ hi) :
    Calls Tryz.prog 18 #[.int .u64 s, .int .i64 k, .int .i64 lo, .int .i64 hi] w fun e w' =>
      e = .returned (.tuple #[.int .i64 (wrap64 (lo + drawV s k (span lo hi))), .int .i64 (drawK s k (span lo hi)), .int .i64 0]) ∧ Below w.heap.size w w' := by
  go_enter Tryz.func18, Tryz.ntmps18
  go_wp2_with (go_at_call 37; refine (below_new s k _ w _ (Bv.wrap_lo _) (Bv.wrap_hi _) k0 k1).mono ?_; rintro e w' ⟨rfl, hc, hbl⟩)
  go_quiet (fail)
  go_wp2
  go_ret3
  refine ⟨ret3_congr ?_ rfl rfl, below_drewN' ‹_› _⟩
  exact congrArg (Value.int .i64) (w64_u lo _)

theorem Chance_calls_no (s k num den : Int) (w : World) (h : den < 1 ∨ num < 0 ∨ den < num) :
    Calls Tryz.prog 22 #[.int .u64 s, .int .i64 k, .int .i64 num, .int .i64 den] w fun e w' => e = .returned (.tuple #[.bool false, .int .i64 0, .int .i64 2]) ∧ Below w.heap.size w w' := by
  by_cases h1 : den < 1
  · go_enter Tryz.func22, Tryz.ntmps22
    go_wp2
    go_ret3
    exact ⟨rfl, Below.refl _ _⟩
  · by_cases h2 : num < 0
    · go_enter Tryz.func22, Tryz.ntmps22
      go_wp2
      go_ret3
      exact ⟨rfl, Below.refl _ _⟩
    · have h3 : den < num := by omega
      go_enter Tryz.func22, Tryz.ntmps22
      go_wp2
      go_ret3
      exact ⟨rfl, Below.refl _ _⟩

theorem Chance_calls (s k num den : Int) (w : World) (k0 : -9223372036854775808 ≤ k) (k1 : k ≤ 9223372036854775807) (h1 : 1 ≤ den) (h2 : 0 ≤ num) (h3 : num ≤ den) (h4 : den ≤ 9223372036854775807) :
    Calls Tryz.prog 22 #[.int .u64 s, .int .i64 k, .int .i64 num, .int .i64 den] w fun e w' => e = .returned (.tuple #[.bool (decide (drawV s k den < num)), .int .i64 (drawK s k den), .int .i64 0]) ∧ Below w.heap.size w w' := by
  go_enter Tryz.func22, Tryz.ntmps22
  go_wp2_with (go_at_call 17; refine (Below_calls _ _ _ _ k0 k1 h1 h4).mono ?_; rintro e w' ⟨rfl, hbl⟩)
  go_ret3
  exact ⟨rfl, ‹_›⟩
end Go.Proofs.YtabgeonlodmpiaaGreatDoor
