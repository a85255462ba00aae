/- RngWords: its walk. -/
import Derived.Test.YtabgeonlodmpiaaGreatDoorDFold
import Derived.Test.YtabgeonlodmpiaaGreatDoorAwake
set_option linter.unusedVariables false
namespace Go.Proofs.YtabgeonlodmpiaaGreatDoor
open Go.RowKit

theorem newI_in (seed tick entity key : Int) : 0 ≤ newI seed tick entity key ∧ newI seed tick entity key ≤ 18446744073709551615 := ⟨mixIn_lo _ _, mixIn_hi _ _⟩
/-- Six words in a row. -/
theorem six_at {w : World} {r : Nat} {a b c d e f : Int} {T : TypeId} (h : w.heap[r]? = some (.cells #[.int .u64 a, .int .u64 b, .int .u64 c, .int .u64 d, .int .u64 e, .int .u64 f] T (0, 0)))
    (ha : 0 ≤ a ∧ a ≤ 18446744073709551615) (hb : 0 ≤ b ∧ b ≤ 18446744073709551615) (hc : 0 ≤ c ∧ c ≤ 18446744073709551615) (hd : 0 ≤ d ∧ d ≤ 18446744073709551615) (he : 0 ≤ e ∧ e ≤ 18446744073709551615) (hf : 0 ≤ f ∧ f ≤ 18446744073709551615) :
    ∀ j, j < 6 → ∃ x : Int, w.cell? ⟨r, j, none⟩ = some (.int .u64 x) ∧ 0 ≤ x ∧ x ≤ 18446744073709551615 := by
  intro j hj
  rcases (show j = 0 ∨ j = 1 ∨ j = 2 ∨ j = 3 ∨ j = 4 ∨ j = 5 from by omega) with rfl | rfl | rfl | rfl | rfl | rfl
  · exact ⟨a, (cell_of_block h 0).trans rfl, ha⟩
  · exact ⟨b, (cell_of_block h 1).trans rfl, hb⟩
  · exact ⟨c, (cell_of_block h 2).trans rfl, hc⟩
  · exact ⟨d, (cell_of_block h 3).trans rfl, hd⟩
  · exact ⟨e, (cell_of_block h 4).trans rfl, he⟩
  · exact ⟨f, (cell_of_block h 5).trans rfl, hf⟩
/-- The two foldings agree. -/
theorem folds (n : Int) (n0 : -9223372036854775808 ≤ n) (n1 : n ≤ 9223372036854775807) : ∃ V : Int → Int, ∃ O : Int → Bool, ∀ x, 0 ≤ x → x ≤ 18446744073709551615 → ∀ w : World,
    (Calls Tryz.prog 8 #[.int .u64 x, .int .i64 n] w fun e w' => e = .returned (.tuple #[.int .i64 (V x), .bool (O x)]) ∧ w = w') ∧
    (Calls Tryz.prog 9 #[.int .u64 x, .int .i64 n] w fun e w' => e = .returned (.tuple #[.int .i64 (V x), .bool (O x)]) ∧ Below w.heap.size w w') := by
  by_cases h : n < 1
  · exact ⟨fun _ => 0, fun _ => false, fun x h0 h1 w => ⟨Fold_no x n w h, rfold_no x n w h⟩⟩
  · exact ⟨fun x => foldV x n, fun x => foldOk x n, fun x h0 h1 w => ⟨Fold_calls x n w h0 h1 (by omega) n1, rfold_calls x n w h0 h1 (by omega) n1⟩⟩
set_option maxRecDepth 100000 in
set_option maxHeartbeats 4000000 in
theorem words_walk (seed tick entity key k n : Int) (w : World) (s0 : 0 ≤ seed) (s1 : seed ≤ 18446744073709551615) (k0 : 0 ≤ key) (k1 : key ≤ 18446744073709551615) (n0 : -9223372036854775808 ≤ n) (n1 : n ≤ 9223372036854775807) :
    Calls Tryz.prog 3 #[.int .u64 seed, .int .i64 tick, .int .i64 entity, .int .u64 key, .int .i64 k, .int .i64 n] w fun e w' => e = .returned (.bool true) ∧ Below w.heap.size w w' := by
  obtain ⟨S, eS⟩ : ∃ S, S = newI seed tick entity key := ⟨_, rfl⟩
  have hS := newI_in seed tick entity key
  rw [← eS] at hS
  have N1 := New_calls seed tick entity key w s0 s1 k0 k1
  have N2 := fun W => rnew_calls seed tick entity key W s0 s1 k0 k1
  rw [← eS] at N1
  simp only [← eS] at N2
  have W1 := fun W => word_calls S k W
  have W2 := fun W => rword_calls S k W
  have W3 := fun W => word_calls seed n W
  have W4 := fun W => rword_calls seed n W
  obtain ⟨x1, ex1⟩ : ∃ x, x = wordI S k := ⟨_, rfl⟩
  obtain ⟨x2, ex2⟩ : ∃ x, x = wordI seed n := ⟨_, rfl⟩
  have hx1 : 0 ≤ x1 ∧ x1 ≤ 18446744073709551615 := by rw [ex1]; exact ⟨wordI_lo _ _, wordI_hi _ _⟩
  simp only [← ex1] at W1 W2
  simp only [← ex2] at W3 W4
  obtain ⟨V, O, F⟩ := folds n n0 n1
  have H := Lib.hid (And.intro hS (And.intro hx1 (And.intro F (And.intro s0 (And.intro s1 (And.intro k0 k1))))))
  clear eS ex1 ex2 hS hx1 F s0 s1 k0 k1 n0 n1
  go_enter Tryz.func3, Tryz.ntmps3
  go_wp2_with fail
  refine N1.mono ?_
  rintro e w1 ⟨rfl, hb1⟩
  have B1 := Lib.hid hb1; clear hb1
  go_wp2_with fail
  refine (N2 _).mono ?_
  rintro e w2 ⟨rfl, rfl⟩
  go_wp2_with fail
  refine (W1 _).mono ?_
  rintro e w2 ⟨rfl, rfl⟩
  go_wp2_with fail
  refine (W2 _).mono ?_
  rintro e w2 ⟨rfl, rfl⟩
  go_wp2_with fail
  refine (W3 _).mono ?_
  rintro e w2 ⟨rfl, rfl⟩
  go_wp2_with fail
  refine (W4 _).mono ?_
  rintro e w2 ⟨rfl, rfl⟩
  go_wp2_with fail
  refine (W1 _).mono ?_
  rintro e w2 ⟨rfl, rfl⟩
  go_upto_block 0 with fail
  obtain ⟨wa, ea⟩ : ∃ wa, wa = w1.alloc (.cells #[.int .u64 seed, .int .u64 key, .int .u64 (IntKind.u64.wrap n), .int .u64 (IntKind.u64.wrap (-IntKind.u64.wrap n)), .int .u64 (IntKind.u64.wrap (18446744073709551615 - IntKind.u64.wrap n)), .int .u64 x1] 22) := ⟨_, rfl⟩
  obtain ⟨r, er⟩ : ∃ r, r = w1.heap.size := ⟨_, rfl⟩
  rw [← ea, ← er]
  have hrow : wa.heap[r]? = some (.cells #[.int .u64 seed, .int .u64 key, .int .u64 (IntKind.u64.wrap n), .int .u64 (IntKind.u64.wrap (-IntKind.u64.wrap n)), .int .u64 (IntKind.u64.wrap (18446744073709551615 - IntKind.u64.wrap n)), .int .u64 x1] 22 (0, 0)) := by
    rw [ea, er]; exact heap_alloc_new w1 _
  have hwa : Below w.heap.size w wa := by rw [ea]; exact then_alloc B1.out _
  have hra : r < wa.heap.size := lt_of_block hrow
  obtain ⟨hS, hx1, F, s0, s1, k0, k1⟩ := H.out
  have six : ∀ W, Below wa.heap.size wa W → ∀ j, j < 6 → ∃ x : Int, W.cell? ⟨r, j, none⟩ = some (.int .u64 x) ∧ 0 ≤ x ∧ x ≤ 18446744073709551615 := fun W hW =>
    six_at ((hW.block r hra).trans hrow) ⟨s0, s1⟩ ⟨k0, k1⟩ ⟨Bv.wrap_lo _, Bv.wrap_hi _⟩ ⟨Bv.wrap_lo _, Bv.wrap_hi _⟩ ⟨Bv.wrap_lo _, Bv.wrap_hi _⟩ hx1
  have HX := Lib.hid (And.intro six (And.intro hwa F))
  clear ea er hrow hwa hra hS hx1 F s0 s1 k0 k1 six W1 W2 W3 W4 N1 N2
  go_wp2_with fail
  go_loopg [65] 6 (fun gh i wr => ∃ j : Nat, gh = 6 - j ∧ j ≤ 6 ∧ i = .int .i64 j ∧ Below wa.heap.size wa wr)
  case atStart => exact ⟨0, rfl, by omega, rfl, Below.refl _ _⟩
  case round =>
    obtain ⟨j, hgh, hj, rfl, hbr⟩ := hrel
    obtain ⟨six, hwa, F⟩ := HX.out
    by_cases hlt : j < 6
    · obtain ⟨x, hx, hx0, hx1⟩ := six wr hbr j hlt
      obtain ⟨F1, F2⟩ := F x hx0 hx1 wr
      have i1 : decide ((j : Int) < 6) = true := decide_eq_true (by omega)
      have i2 : (0 : Int) ≤ (j : Int) := by omega
      have i3 : (j : Int) < 6 := by omega
      have i4 : wrap64 ((j : Int) + 1) = (j : Int) + 1 := by unfold wrap64; omega
      generalize V x = v at F1 F2
      generalize O x = o at F1 F2
      have HG := Lib.hid (And.intro hgh (And.intro hlt hbr))
      clear hgh hj hbr six hwa F hx0 hx1 hlt
      go_wp2_with fail
      refine F1.mono ?_
      rintro e w3 ⟨rfl, rfl⟩
      go_wp2_with fail
      refine F2.mono ?_
      rintro e w3 ⟨rfl, hb3⟩
      have HB := Lib.hid hb3; clear hb3
      go_wp2_with fail
      go_roundg (6 - (j + 1))
      case measure => have := HG.out.1; have := HG.out.2.1; omega
      case rel => exact ⟨j + 1, rfl, by have := HG.out.2.1; omega, by go_num, HG.out.2.2.trans (HB.out.mono HG.out.2.2.size)⟩
    · have i1 : decide ((j : Int) < 6) = false := decide_eq_false (by omega)
      have HG := Lib.hid (And.intro hwa hbr)
      clear hgh hj hbr six hwa F hlt
      go_wp2_with fail
      refine (awake_calls _).mono ?_
      rintro e w3 ⟨rfl, hb3⟩
      have HB := Lib.hid hb3; clear hb3
      go_wp2_with fail
      go_ret
      have a1 := HG.out.1.trans (HG.out.2.mono HG.out.1.size)
      exact ⟨rfl, then_ a1 HB.out⟩
end Go.Proofs.YtabgeonlodmpiaaGreatDoor
