/- The chapter's examples (awake) are met. -/
import Derived.Test.YtabgeonlodmpiaaGreatDoorMore
namespace Go.Proofs.YtabgeonlodmpiaaGreatDoor
open Go.RowKit

theorem Below_at (s k n a b : Int) (w : World) (k0 : -9223372036854775808 ≤ k) (k1 : k ≤ 9223372036854775807) (n0 : 1 ≤ n) (n1 : n ≤ 9223372036854775807) (ha : drawV s k n = a) (hb : drawK s k n = b) :
    Calls Tryz.prog 17 #[.int .u64 s, .int .i64 k, .int .i64 n] w fun e w' => e = .returned (.tuple #[.int .i64 a, .int .i64 b, .int .i64 0]) ∧ Below w.heap.size w w' := by
  rw [← ha, ← hb]; exact Below_calls s k n w k0 k1 n0 n1
theorem Range_at (s k lo hi a b : Int) (w : World) (k0 : -9223372036854775808 ≤ k) (k1 : k ≤ 9223372036854775807) (h : lo ≤ hi) (ha : wrap64 (lo + drawV s k (span lo hi)) = a) (hb : drawK s k (span lo hi) = b) :
    Calls Tryz.prog 18 #[.int .u64 s, .int .i64 k, .int .i64 lo, .int .i64 hi] w fun e w' => e = .returned (.tuple #[.int .i64 a, .int .i64 b, .int .i64 0]) ∧ Below w.heap.size w w' := by
  rw [← ha, ← hb]; exact Range_calls s k lo hi w k0 k1 h
theorem Weigh_ex {g : Nat} (w : World) (h : w.heap[g]? = some (.cells #[.int .i64 0, .int .i64 317, .int .i64 1, .int .i64 682] 3 (0, 0))) :
    Calls Tryz.prog 19 #[.int .u64 1234567, .int .i64 0, .slice (some ⟨g, 0, none⟩) 4 4] w fun e w' => e = .returned (.tuple #[.int .i64 2, .int .i64 1, .int .i64 0]) ∧ Below w.heap.size w w' := by
  have hs : pre [0, 317, 1, 682] 4 = 1000 := by decide
  have := Weigh_calls (some ⟨g, 0, none⟩) 4 [0, 317, 1, 682] 1234567 0 w (by decide) (by decide) (Ints.lit h) (by rintro ad e; injection e with e; subst e; exact lt_of_block h) (by decide) (by decide) (by decide)
  simp only [show ([0, 317, 1, 682] : List Int).length = 4 from rfl, hs, d1000.1, d1000.2, pick_ex] at this
  exact this

theorem Perm_shape {s k n : Int} {w : World} {x : Int} {l : List Nat} {m : Nat} (hm : l.length = m) (h : Calls Tryz.prog 21 #[.int .u64 s, .int .i64 k, .int .i64 n] w fun e w' =>
      ∃ v, e = .returned (.tuple #[v, .int .i64 x, .int .i64 0]) ∧ NewNats w.heap.size w' v l ∧ Below w.heap.size w w') :
    Calls Tryz.prog 21 #[.int .u64 s, .int .i64 k, .int .i64 n] w fun e w' =>
      ∃ A cap, e = .returned (.tuple #[.slice A m cap, .int .i64 x, .int .i64 0]) ∧ Ints w' A (l.map fun x => ((x : Nat) : Int)) ∧ (∀ ad, A = some ad → ad.block < w'.heap.size) ∧ Below w.heap.size w w' := by
  refine h.mono ?_
  rintro e w' ⟨v, rfl, hn, hb⟩
  obtain ⟨A, cap, rfl, hi, hA⟩ := hn.ints
  subst hm
  exact ⟨A, cap, rfl, hi, fun ad e => (hA ad e).1, hb⟩
theorem Perm_ex3 (w : World) : Calls Tryz.prog 21 #[.int .u64 1234567, .int .i64 0, .int .i64 3] w fun e w' =>
      ∃ A cap, e = .returned (.tuple #[.slice A 3 cap, .int .i64 2, .int .i64 0]) ∧ Ints w' A [2, 1, 0] ∧ (∀ ad, A = some ad → ad.block < w'.heap.size) ∧ Below w.heap.size w w' := by
  have h := Perm_calls 1234567 0 3 w (by decide) (by decide) (by decide) (by decide)
  rw [p3] at h
  exact Perm_shape (l := [2, 1, 0]) rfl h
theorem Perm_ex2 (w : World) : Calls Tryz.prog 21 #[.int .u64 0, .int .i64 1, .int .i64 2] w fun e w' =>
      ∃ A cap, e = .returned (.tuple #[.slice A 2 cap, .int .i64 2, .int .i64 0]) ∧ Ints w' A [1, 0] ∧ (∀ ad, A = some ad → ad.block < w'.heap.size) ∧ Below w.heap.size w w' := by
  have h := Perm_calls 0 1 2 w (by decide) (by decide) (by decide) (by decide)
  rw [p2] at h
  exact Perm_shape (l := [1, 0]) rfl h
theorem Chance_at (s k num den : Int) (b : Bool) (w : World) (k0 : -9223372036854775808 ≤ k) (k1 : k ≤ 9223372036854775807) (h1 : 1 ≤ den) (h2 : 0 ≤ num) (h3 : num ≤ den) (h4 : den ≤ 9223372036854775807) (hb : decide (drawV s k den < num) = b) :
    Calls Tryz.prog 22 #[.int .u64 s, .int .i64 k, .int .i64 num, .int .i64 den] w fun e w' => e = .returned (.tuple #[.bool b, .int .i64 (drawK s k den), .int .i64 0]) ∧ Below w.heap.size w w' := by
  rw [← hb]; exact Chance_calls s k num den w k0 k1 h1 h2 h3 h4

set_option maxRecDepth 100000 in
set_option maxHeartbeats 2000000 in
theorem awake_calls (w : World) :
    Calls Tryz.prog 10 #[] w fun e w' => e = .returned (.bool true) ∧ Below w.heap.size w w' := by
  go_enter Tryz.func10, Tryz.ntmps10
  go_wp2_with fail
  go_loopg [40] 3 (fun gh i wr => ∃ j : Nat, gh = 3 - j ∧ j ≤ 3 ∧ i = .int .i64 j ∧ wr = w.alloc (.cells #[.int .u64 6457827717110365317, .int .u64 3203168211198807973, .int .u64 9817491932198370423] 22))
  case atStart => exact ⟨0, rfl, by omega, rfl, rfl⟩
  case round =>
    obtain ⟨j, hgh, hj, rfl, rfl⟩ := hrel
    have Hgh := Lib.hid hgh; clear hgh
    rcases (show j = 0 ∨ j = 1 ∨ j = 2 ∨ j = 3 from by omega) with rfl | rfl | rfl | rfl
    · go_wp2_with (go_at_call 6; refine (word_at 1234567 0 6457827717110365317 _ (by decide +kernel)).mono ?_; rintro e w' ⟨rfl, rfl⟩)
      go_roundg 2
      case measure => have := Hgh.out; omega
      case rel => exact ⟨1, rfl, by omega, by go_num, rfl⟩
    · go_wp2_with (go_at_call 6; refine (word_at 1234567 1 3203168211198807973 _ (by decide +kernel)).mono ?_; rintro e w' ⟨rfl, rfl⟩)
      go_roundg 1
      case measure => have := Hgh.out; omega
      case rel => exact ⟨2, rfl, by omega, by go_num, rfl⟩
    · go_wp2_with (go_at_call 6; refine (word_at 1234567 2 9817491932198370423 _ (by decide +kernel)).mono ?_; rintro e w' ⟨rfl, rfl⟩)
      go_roundg 0
      case measure => have := Hgh.out; omega
      case rel => exact ⟨3, rfl, by omega, by go_num, rfl⟩
    · clear hj Hgh
      have hb1 : Below w.heap.size w (w.alloc (.cells #[.int .u64 6457827717110365317, .int .u64 3203168211198807973, .int .u64 9817491932198370423] 22)) := (Below.refl _ _).alloc (Nat.le_refl _) _
      obtain ⟨w1, hw1⟩ : ∃ w1, w1 = w.alloc (.cells #[.int .u64 6457827717110365317, .int .u64 3203168211198807973, .int .u64 9817491932198370423] 22) := ⟨_, rfl⟩
      rw [← hw1] at hb1 ⊢
      clear hw1
      have HB1 := Lib.hid hb1; clear hb1
      go_wp2_with fail
      go_loopg [52] 3 (fun gh i wr => ∃ j : Nat, gh = 3 - j ∧ j ≤ 3 ∧ i = .int .i64 j ∧ wr = w1.alloc (.cells #[.int .u64 16294208416658607535, .int .u64 7960286522194355700, .int .u64 487617019471545679] 22))
      case atStart => exact ⟨0, rfl, by omega, rfl, rfl⟩
      case round =>
        obtain ⟨j, hgh, hj, rfl, rfl⟩ := hrel
        have Hgh := Lib.hid hgh; clear hgh
        rcases (show j = 0 ∨ j = 1 ∨ j = 2 ∨ j = 3 from by omega) with rfl | rfl | rfl | rfl
        · go_wp2_with (go_at_call 6; refine (word_at 0 0 16294208416658607535 _ (by decide +kernel)).mono ?_; rintro e w' ⟨rfl, rfl⟩)
          go_roundg 2
          case measure => have := Hgh.out; omega
          case rel => exact ⟨1, rfl, by omega, by go_num, rfl⟩
        · go_wp2_with (go_at_call 6; refine (word_at 0 1 7960286522194355700 _ (by decide +kernel)).mono ?_; rintro e w' ⟨rfl, rfl⟩)
          go_roundg 1
          case measure => have := Hgh.out; omega
          case rel => exact ⟨2, rfl, by omega, by go_num, rfl⟩
        · go_wp2_with (go_at_call 6; refine (word_at 0 2 487617019471545679 _ (by decide +kernel)).mono ?_; rintro e w' ⟨rfl, rfl⟩)
          go_roundg 0
          case measure => have := Hgh.out; omega
          case rel => exact ⟨3, rfl, by omega, by go_num, rfl⟩
        · clear hj Hgh
          have hb2 : Below w.heap.size w (w1.alloc (.cells #[.int .u64 16294208416658607535, .int .u64 7960286522194355700, .int .u64 487617019471545679] 22)) := then_alloc HB1.out _
          obtain ⟨w2, hw2⟩ : ∃ w2, w2 = w1.alloc (.cells #[.int .u64 16294208416658607535, .int .u64 7960286522194355700, .int .u64 487617019471545679] 22) := ⟨_, rfl⟩
          rw [← hw2] at hb2 ⊢
          clear hw2
          have HB2 := Lib.hid hb2; clear hb2
          go_wp2_with fail
          refine (fold_at 18446744073709551615 3 0 false _ (by decide) (by decide) (by decide) (by decide) (by decide +kernel) (by decide +kernel)).mono ?_
          rintro e w' ⟨rfl, rfl⟩
          go_wp2_with fail
          refine (fold_at 18446744073709551614 3 2 true _ (by decide) (by decide) (by decide) (by decide) (by decide +kernel) (by decide +kernel)).mono ?_
          rintro e w' ⟨rfl, rfl⟩
          go_wp2_with fail
          refine (fold_at 18446744073709551615 256 255 true _ (by decide) (by decide) (by decide) (by decide) (by decide +kernel) (by decide +kernel)).mono ?_
          rintro e w' ⟨rfl, rfl⟩
          go_wp2_with fail
          refine (Below_at 1234567 0 1000 317 1 _ (by decide) (by decide) (by decide) (by decide) d1000.1 d1000.2).mono ?_
          rintro e w3 ⟨rfl, hb3⟩
          have HB3 := Lib.hid (then_ HB2.out hb3); clear hb3 HB1 HB2
          go_wp2_with fail
          refine (Range_at 1234567 0 (-5) (-5) (-5) 1 _ (by decide) (by decide) (by decide) (by rw [show span (-5) (-5) = 1 from by decide +kernel, d1.1]; decide +kernel) (by rw [show span (-5) (-5) = 1 from by decide +kernel, d1.2])).mono ?_
          rintro e w4 ⟨rfl, hb4⟩
          have HB4 := Lib.hid (then_ HB3.out hb4); clear hb4 HB3
          go_wp2_with fail
          refine (Range_at 1234567 0 (-9223372036854775808) 9223372036854775807 (-2765544319744410491) 1 _ (by decide) (by decide) (by decide) (by rw [show span (-9223372036854775808) 9223372036854775807 = 0 from by decide +kernel, d0.1]; decide +kernel) (by rw [show span (-9223372036854775808) 9223372036854775807 = 0 from by decide +kernel, d0.2])).mono ?_
          rintro e w5 ⟨rfl, hb5⟩
          have HB5 := Lib.hid (then_ HB4.out hb5); clear hb5 HB4
          go_wp2_with fail
          refine (Weigh_ex _ (heap_alloc_new w5 _)).mono ?_
          rintro e w6 ⟨rfl, hb6⟩
          have HB6 := Lib.hid (then_ (then_alloc HB5.out _) hb6); clear hb6 HB5
          go_wp2_with fail
          refine (Below_calls_no 1234567 0 0 _ (by decide)).mono ?_
          rintro e w7 ⟨rfl, hb7⟩
          have HB7 := Lib.hid (then_ HB6.out hb7); clear hb7 HB6
          go_wp2_with (go_at_call 20; refine (drew_calls _ _ _ _ _ _ rfl rfl rfl).mono ?_; rintro e w' ⟨rfl, rfl⟩)
          refine (Perm_ex3 _).mono ?_
          rintro e w8 ⟨A, ca, rfl, hi8, ha8, hb8⟩
          have HB8 := Lib.hid (then_ HB7.out hb8); clear hb8 HB7
          have HI8 := Lib.hid (And.intro hi8 ha8); clear hi8 ha8
          go_wp2_with fail
          refine (Perm_ex2 _).mono ?_
          rintro e w9 ⟨C, cc, rfl, hi9, ha9, hb9⟩
          have HB9 := Lib.hid (then_ HB8.out hb9); clear HB8
          have HC9 := Lib.hid hb9; clear hb9
          have HI9 := Lib.hid (And.intro hi9 ha9); clear hi9 ha9
          go_wp2_with fail
          refine (Chance_at 1234567 0 318 1000 true _ (by decide) (by decide) (by decide) (by decide) (by decide) (by decide) (by rw [d1000.1]; decide)).mono ?_
          rintro e wa ⟨rfl, hba⟩
          have HBa := Lib.hid (then_ HB9.out hba); clear HB9
          have HCa := Lib.hid (then_ HC9.out hba); clear HC9
          have HDa := Lib.hid hba; clear hba
          go_wp2_with fail
          refine (Chance_at 1234567 0 317 1000 false _ (by decide) (by decide) (by decide) (by decide) (by decide) (by decide) (by rw [d1000.1]; decide)).mono ?_
          rintro e wb ⟨rfl, hbb⟩
          have HBb := Lib.hid (then_ HBa.out hbb); clear HBa
          have HCb := Lib.hid (then_ HCa.out hbb); clear HCa
          have HDb := Lib.hid (then_ HDa.out hbb); clear HDa hbb
          go_wp2_with fail
          refine (SameInts_yes A _ ca 3 [2, 1, 0] _ (HI8.out.1.below HI8.out.2 (then_alloc HCb.out _)) (Ints.lit (heap_alloc_new wb _)) (by decide)).mono ?_
          rintro e wc ⟨rfl, hbc⟩
          have HBc := Lib.hid (then_ (then_alloc HBb.out _) hbc); clear HBb
          have HDc := Lib.hid (then_ (then_alloc HDb.out _) hbc); clear HDb hbc
          go_wp2_with fail
          refine (SameInts_yes C _ cc 2 [1, 0] _ (HI9.out.1.below HI9.out.2 (then_alloc HDc.out _)) (Ints.lit (heap_alloc_new wc _)) (by decide)).mono ?_
          rintro e wd ⟨rfl, hbd⟩
          have HBd := Lib.hid (then_ (then_alloc HBc.out _) hbd); clear HBc hbd
          go_wp2_with fail
          go_ret
          exact ⟨rfl, HBd.out⟩
end Go.Proofs.YtabgeonlodmpiaaGreatDoor
