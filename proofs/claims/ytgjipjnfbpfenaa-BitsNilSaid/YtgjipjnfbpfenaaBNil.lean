/- BitsNil. -/
import Derived.Test.YtgjipjnfbpfenaaBPad
set_option linter.unusedVariables false
namespace Go.Proofs.Ytgjipjnfbpfenaa
open Go.RowKit
open M (bitsOf bitsOf_length codeBits codeBits_length zig zag numOf zeros codeA)

theorem Put_nil (n k : Int) (w : World) : Calls Try.prog 15 #[.pointer none, .int .u64 n, .int .i64 k] w fun e w' => e = .returned (.int .i64 1) ∧ w = w' := by
  go_enter Try.func15, Try.ntmps15
  go_wp2_with fail
  go_ret
  exact ⟨rfl, rfl⟩
theorem PutCode_nil (n k : Int) (w : World) : Calls Try.prog 11 #[.pointer none, .int .u64 n, .int .i64 k] w fun e w' => e = .returned (.int .i64 1) ∧ w = w' := by
  go_enter Try.func11, Try.ntmps11
  go_wp2_with fail
  go_ret
  exact ⟨rfl, rfl⟩
theorem PutSigned_nil (n k : Int) (w : World) : Calls Try.prog 12 #[.pointer none, .int .i64 n, .int .i64 k] w fun e w' => e = .returned (.int .i64 1) ∧ w = w' := by
  go_enter Try.func12, Try.ntmps12
  go_wp2_with fail
  refine (PutCode_nil _ _ _).mono ?_
  rintro e w' ⟨rfl, rfl⟩
  go_wp2_with fail
  go_ret
  exact ⟨rfl, rfl⟩
theorem Len_nil (w : World) : Calls Try.prog 13 #[.pointer none] w fun e w' => e = .returned (.int .i64 0) ∧ w = w' := by
  go_enter Try.func13, Try.ntmps13
  go_wp2_with fail
  go_ret
  exact ⟨rfl, rfl⟩
theorem Bytes_nil (w : World) : Calls Try.prog 17 #[.pointer none] w fun e w' => e = .returned (.slice none 0 0) ∧ w = w' := by
  go_enter Try.func17, Try.ntmps17
  go_wp2_with fail
  go_ret
  exact ⟨rfl, rfl⟩
theorem write_nil (kd n k : Int) (w : World) (k0 : 0 ≤ kd) (k1 : kd ≤ 255) : Calls Try.prog 25 #[.pointer none, .agg #[.int .u8 kd, .int .u64 n, .int .i64 k]] w fun e w' => e = .returned (.int .i64 1) ∧ Below w.heap.size w w' := by
  rcases (show kd % 3 = 0 ∨ kd % 3 = 1 ∨ kd % 3 = 2 from by omega) with h | h | h
  · have e0 : (kd % 3 == 0) = true := by rw [beq_iff_eq]; exact h
    clear h
    go_enter Try.func25, Try.ntmps25
    go_wp2_with fail
    refine (Put_nil _ _ _).mono ?_
    rintro e w' ⟨rfl, rfl⟩
    go_wp2_with fail
    go_ret
    exact ⟨rfl, (Below.refl _ _).alloc (Nat.le_refl _) _⟩
  · have e0 : (kd % 3 == 0) = false := by rw [beq_eq_false_iff_ne]; omega
    have e1 : (kd % 3 == 1) = true := by rw [beq_iff_eq]; exact h
    clear h
    go_enter Try.func25, Try.ntmps25
    go_wp2_with fail
    refine (PutCode_nil _ _ _).mono ?_
    rintro e w' ⟨rfl, rfl⟩
    go_wp2_with fail
    go_ret
    exact ⟨rfl, (Below.refl _ _).alloc (Nat.le_refl _) _⟩
  · have e0 : (kd % 3 == 0) = false := by rw [beq_eq_false_iff_ne]; omega
    have e1 : (kd % 3 == 1) = false := by rw [beq_eq_false_iff_ne]; omega
    clear h
    go_enter Try.func25, Try.ntmps25
    go_wp2_with fail
    refine (PutSigned_nil _ _ _).mono ?_
    rintro e w' ⟨rfl, rfl⟩
    go_wp2_with fail
    go_ret
    exact ⟨rfl, (Below.refl _ _).alloc (Nat.le_refl _) _⟩

/-- A Reader that is missing, or that NewReader did not return. -/
def Bad (w : World) (p : Option Addr) : Prop := p = none ∨ ∃ b, p = some ⟨b, 0, none⟩ ∧ w.cell? ⟨b, 0, none⟩ = some (.bool false)
theorem Bad.alloc {w : World} {p : Option Addr} (h : Bad w p) (o : Obj) : Bad (w.alloc o) p := by
  rcases h with h | ⟨b, h, hc⟩
  · exact Or.inl h
  · exact Or.inr ⟨b, h, (World.cell?_alloc_lt w o _ (World.block_lt_of_cell? w _ hc)).trans hc⟩
theorem Bad.below {w w' : World} {p : Option Addr} (h : Bad w p) (hb : Below w.heap.size w w') : Bad w' p := by
  rcases h with h | ⟨b, h, hc⟩
  · exact Or.inl h
  · exact Or.inr ⟨b, h, (hb.cell (World.block_lt_of_cell? w _ hc)).trans hc⟩

theorem rd_nil (p : Option Addr) (k most : Int) (f : Value) (w : World) (h : Bad w p) :
    Calls Try.prog 32 #[.pointer p, .int .i64 k, .int .i64 most, f] w fun e w' => e = .returned (.tuple #[.int .u64 0, .int .i64 1]) ∧ w = w' := by
  rcases h with rfl | ⟨b, rfl, hc⟩
  · go_enter Try.func32, Try.ntmps32
    go_wp2_with fail
    go_ret2
    exact ⟨rfl, rfl⟩
  · go_enter Try.func32, Try.ntmps32
    go_wp2_with fail
    go_ret2
    exact ⟨rfl, rfl⟩
theorem Get_nil (p : Option Addr) (k : Int) (w : World) (h : Bad w p) :
    Calls Try.prog 18 #[.pointer p, .int .i64 k] w fun e w' => e = .returned (.tuple #[.int .u64 0, .int .i64 1]) ∧ w = w' := by
  have H := Lib.hid h; clear h
  go_enter Try.func18, Try.ntmps18
  go_wp2_with fail
  refine (rd_nil _ _ _ _ _ H.out).mono ?_
  rintro e w' ⟨rfl, rfl⟩
  go_wp2_with fail
  go_ret2
  exact ⟨rfl, rfl⟩
theorem GetCode_nil (p : Option Addr) (k : Int) (w : World) (h : Bad w p) :
    Calls Try.prog 19 #[.pointer p, .int .i64 k] w fun e w' => e = .returned (.tuple #[.int .u64 0, .int .i64 1]) ∧ w = w' := by
  have H := Lib.hid h; clear h
  go_enter Try.func19, Try.ntmps19
  go_wp2_with fail
  refine (rd_nil _ _ _ _ _ H.out).mono ?_
  rintro e w' ⟨rfl, rfl⟩
  go_wp2_with fail
  go_ret2
  exact ⟨rfl, rfl⟩
theorem GetSigned_nil (p : Option Addr) (k : Int) (w : World) (h : Bad w p) :
    Calls Try.prog 27 #[.pointer p, .int .i64 k] w fun e w' => e = .returned (.tuple #[.int .i64 0, .int .i64 1]) ∧ w = w' := by
  have H := Lib.hid h; clear h
  go_enter Try.func27, Try.ntmps27
  go_wp2_with fail
  refine (GetCode_nil _ _ _ H.out).mono ?_
  rintro e w' ⟨rfl, rfl⟩
  go_wp2_with fail
  go_ret2
  exact ⟨ret2_congr (congrArg (Value.int .i64) (by decide +kernel)) rfl, rfl⟩
theorem Left_nil (p : Option Addr) (w : World) (h : Bad w p) :
    Calls Try.prog 24 #[.pointer p] w fun e w' => e = .returned (.int .i64 0) ∧ w = w' := by
  rcases h with rfl | ⟨b, rfl, hc⟩
  · go_enter Try.func24, Try.ntmps24
    go_wp2_with fail
    go_ret
    exact ⟨rfl, rfl⟩
  · go_enter Try.func24, Try.ntmps24
    go_wp2_with fail
    go_ret
    exact ⟨rfl, rfl⟩
theorem End_nil (p : Option Addr) (w : World) (h : Bad w p) :
    Calls Try.prog 20 #[.pointer p] w fun e w' => e = .returned (.int .i64 1) ∧ w = w' := by
  rcases h with rfl | ⟨b, rfl, hc⟩
  · go_enter Try.func20, Try.ntmps20
    go_wp2_with fail
    go_ret
    exact ⟨rfl, rfl⟩
  · go_enter Try.func20, Try.ntmps20
    go_wp2_with fail
    go_ret
    exact ⟨rfl, rfl⟩
theorem read_nil (p : Option Addr) (kd n k : Int) (w : World) (h : Bad w p) (k0 : 0 ≤ kd) (k1 : kd ≤ 255) : Calls Try.prog 23 #[.pointer p, .agg #[.int .u8 kd, .int .u64 n, .int .i64 k]] w fun e w' => e = .returned (.tuple #[.int .u64 0, .int .i64 1]) ∧ Below w.heap.size w w' := by
  have H := Lib.hid (fun o => h.alloc o)
  clear h
  rcases (show kd % 3 = 0 ∨ kd % 3 = 1 ∨ kd % 3 = 2 from by omega) with h | h | h
  · have e0 : (kd % 3 == 0) = true := by rw [beq_iff_eq]; exact h
    clear h
    go_enter Try.func23, Try.ntmps23
    go_wp2_with fail
    refine (Get_nil _ _ _ (H.out _)).mono ?_
    rintro e w' ⟨rfl, rfl⟩
    go_wp2_with fail
    go_ret2
    exact ⟨rfl, (Below.refl _ _).alloc (Nat.le_refl _) _⟩
  · have e0 : (kd % 3 == 0) = false := by rw [beq_eq_false_iff_ne]; omega
    have e1 : (kd % 3 == 1) = true := by rw [beq_iff_eq]; exact h
    clear h
    go_enter Try.func23, Try.ntmps23
    go_wp2_with fail
    refine (GetCode_nil _ _ _ (H.out _)).mono ?_
    rintro e w' ⟨rfl, rfl⟩
    go_wp2_with fail
    go_ret2
    exact ⟨rfl, (Below.refl _ _).alloc (Nat.le_refl _) _⟩
  · have e0 : (kd % 3 == 0) = false := by rw [beq_eq_false_iff_ne]; omega
    have e1 : (kd % 3 == 1) = false := by rw [beq_eq_false_iff_ne]; omega
    clear h
    go_enter Try.func23, Try.ntmps23
    go_wp2_with fail
    refine (GetSigned_nil _ _ _ (H.out _)).mono ?_
    rintro e w' ⟨rfl, rfl⟩
    go_wp2_with fail
    go_ret2
    exact ⟨rfl, (Below.refl _ _).alloc (Nat.le_refl _) _⟩

set_option maxRecDepth 100000 in
set_option maxHeartbeats 2000000 in
theorem nil_walk (kd n k : Int) (w : World) (k0 : 0 ≤ kd) (k1 : kd ≤ 255) (n0 : 0 ≤ n) (n1 : n ≤ 18446744073709551615) (i0 : -9223372036854775808 ≤ k) (i1 : k ≤ 9223372036854775807) :
    Calls Try.prog 9 #[.agg #[.int .u8 kd, .int .u64 n, .int .i64 k]] w fun e w' => e = .returned (.bool true) ∧ Below w.heap.size w w' := by
  go_enter Try.func9, Try.ntmps9
  go_wp2_with fail
  obtain ⟨w1, hw1⟩ : ∃ w1, w1 = w.alloc (.cells #[.int .u8 kd, .int .u64 n, .int .i64 k] 48) := ⟨_, rfl⟩
  have hB1 : Below w.heap.size w w1 := by rw [hw1]; exact then_alloc (Below.refl w.heap.size w) _
  have hx1 : w1.heap[w.heap.size]? = some (.cells #[.int .u8 kd, .int .u64 n, .int .i64 k] 48 (0, 0)) := by rw [hw1]; exact heap_alloc_new w _
  rw [← hw1]
  have H1 := Lib.hid (And.intro hx1 hB1)
  clear hw1 hx1 hB1
  refine (write_nil _ _ _ _ k0 k1).mono ?_
  rintro e w2 ⟨rfl, b2⟩
  have H2 := Lib.hid (And.intro ((b2.block _ (lt_of_block H1.out.1)).trans H1.out.1) (then_ H1.out.2 b2)); clear b2 H1
  go_wp2_with fail
  refine (Len_nil _).mono ?_
  rintro e w' ⟨rfl, rfl⟩
  go_wp2_with fail
  refine (Bytes_nil _).mono ?_
  rintro e w' ⟨rfl, rfl⟩
  go_wp2_with fail
  obtain ⟨W, hW⟩ : ∃ W, W = (w2.alloc (.cells #[.bool false, .slice none 0 0, .int .i64 0, .int .i64 0] 57)).alloc (.cells #[.pointer none, .pointer (some ⟨w2.heap.size, 0, none⟩)] 34) := ⟨_, rfl⟩
  rw [← hW]
  have q1 : W.heap[w2.heap.size]? = some (.cells #[.bool false, .slice none 0 0, .int .i64 0, .int .i64 0] 57 (0, 0)) := by rw [hW]; exact (Below.heap_alloc _ _ _ (by simp)).trans (heap_alloc_new w2 _)
  have q2 : W.heap[w2.heap.size + 1]? = some (.cells #[.pointer none, .pointer (some ⟨w2.heap.size, 0, none⟩)] 34 (0, 0)) := by
    rw [hW]
    have := heap_alloc_new (w2.alloc (.cells #[.bool false, .slice none 0 0, .int .i64 0, .int .i64 0] 57)) (.cells #[.pointer none, .pointer (some ⟨w2.heap.size, 0, none⟩)] 34)
    simpa using this
  have q3 : W.heap[w.heap.size]? = some (.cells #[.int .u8 kd, .int .u64 n, .int .i64 k] 48 (0, 0)) := by
    rw [hW]
    exact (Below.heap_alloc _ _ _ (by have := lt_of_block H2.out.1; simp; omega)).trans ((Below.heap_alloc _ _ _ (lt_of_block H2.out.1)).trans H2.out.1)
  have q4 : Below w.heap.size w W := by rw [hW]; exact then_alloc (then_alloc H2.out.2 _) _
  have HW := Lib.hid (And.intro q1 (And.intro q2 (And.intro q3 q4)))
  clear q1 q2 q3 q4 hW H2
  go_loopg [28] 2 (fun gh i wr => ∃ j : Nat, gh = 2 - j ∧ j ≤ 2 ∧ i = .int .i64 j ∧ Below W.heap.size W wr)
  case atStart => exact ⟨0, rfl, by omega, rfl, Below.refl _ _⟩
  case round =>
    obtain ⟨j, hgh, hj, rfl, hb⟩ := hrel
    have Hgh := Lib.hid hgh; clear hgh
    have h1 := (hb.block _ (lt_of_block HW.out.1)).trans HW.out.1
    have h2 := (hb.block _ (lt_of_block HW.out.2.1)).trans HW.out.2.1
    have h3 := (hb.block _ (lt_of_block HW.out.2.2.1)).trans HW.out.2.2.1
    have c0 := (cell_of_block h2 0).trans rfl
    have c1 := (cell_of_block h2 1).trans rfl
    have x0 := (cell_of_block h3 0).trans rfl
    have x1 := (cell_of_block h3 1).trans rfl
    have x2 := (cell_of_block h3 2).trans rfl
    have hbad : Bad wr (some ⟨w2.heap.size, 0, none⟩) := Or.inr ⟨_, rfl, (cell_of_block h1 0).trans rfl⟩
    have HR := Lib.hid (And.intro hb hbad)
    clear hb hbad h1 h2 h3
    rcases (show j = 0 ∨ j = 1 ∨ j = 2 from by omega) with rfl | rfl | rfl
    · go_wp2_with fail
      refine (read_nil none _ _ _ _ (Or.inl rfl) k0 k1).mono ?_
      rintro e w3 ⟨rfl, b3⟩
      have H3 := Lib.hid (then_ HR.out.1 b3); clear b3
      go_wp2_with fail
      refine (Left_nil none _ (Or.inl rfl)).mono ?_
      rintro e w' ⟨rfl, rfl⟩
      go_wp2_with fail
      refine (End_nil none _ (Or.inl rfl)).mono ?_
      rintro e w' ⟨rfl, rfl⟩
      go_wp2_with fail
      go_roundg 1
      case measure => have := Hgh.out; omega
      case rel => exact ⟨1, rfl, by omega, by go_num, H3.out⟩
    · go_wp2_with fail
      refine (read_nil _ _ _ _ _ HR.out.2 k0 k1).mono ?_
      rintro e w3 ⟨rfl, b3⟩
      have H3 := Lib.hid (And.intro (then_ HR.out.1 b3) (HR.out.2.below b3)); clear b3
      go_wp2_with fail
      refine (Left_nil _ _ H3.out.2).mono ?_
      rintro e w' ⟨rfl, rfl⟩
      go_wp2_with fail
      refine (End_nil _ _ H3.out.2).mono ?_
      rintro e w' ⟨rfl, rfl⟩
      go_wp2_with fail
      go_roundg 0
      case measure => have := Hgh.out; omega
      case rel => exact ⟨2, rfl, by omega, by go_num, H3.out.1⟩
    · clear c0 c1 x0 x1 x2 hj Hgh
      have hB := HW.out.2.2.2.trans (HR.out.1.mono HW.out.2.2.2.size)
      have HB := Lib.hid hB
      clear hB HR
      go_wp2_with fail
      have h0 := WOk.new wr w.heap.size HB.out.size
      have hBn := then_alloc HB.out (.cells #[.slice none 0 0, .int .i64 0] 28)
      have H0 := Lib.hid (And.intro h0 hBn); clear h0 hBn
      refine (Len_to 0 H0.out.1 rfl).mono ?_
      rintro e w' ⟨rfl, rfl⟩
      go_wp2_with fail
      refine (Bytes_to 0 H0.out.1 (by decide) (by decide)).mono ?_
      rintro e w3 ⟨A3, c3, rfl, _, b3, _⟩
      have H3 := Lib.hid (then_ H0.out.2 b3); clear b3 H0
      go_wp2_with fail
      refine (NewReader_ok none 0 0 [] w3 (fun i hi => by omega) rfl (by decide) (fun _ => ⟨rfl, rfl⟩)).mono ?_
      rintro e w4 ⟨br, F, rfl, h4, d4, b4⟩
      have H4 := Lib.hid (And.intro h4 (And.intro (Nat.le_trans H3.out.size (d4 br (by simp))) (then_ H3.out b4))); clear h4 d4 b4 H3
      go_wp2_with fail
      refine (End_to 0 [] H4.out.1 (by decide) rfl).mono ?_
      rintro e w5 ⟨rfl, h5, o5⟩
      have H5 := Lib.hid (then_only H4.out.2.2 o5 H4.out.2.1); clear h5 o5 H4
      go_wp2_with fail
      refine (awake_calls _).mono ?_
      rintro e w6 ⟨rfl, b6⟩
      have H6 := Lib.hid (then_ H5.out b6); clear b6 H5
      go_wp2_with fail
      go_ret
      exact ⟨rfl, H6.out⟩
end Go.Proofs.Ytgjipjnfbpfenaa
