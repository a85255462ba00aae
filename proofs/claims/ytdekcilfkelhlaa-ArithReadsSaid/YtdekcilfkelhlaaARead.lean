/- Reader: get, rest, number, code. -/
import Derived.Test.YtdekcilfkelhlaaAWriter
set_option linter.unusedVariables false
namespace Go.Proofs.Ytdekcilfkelhlaa
open Go.RowKit
open M (bitsOf bitsOf_length codeBits codeBits_length zig zag numOf)

/-- A slice of bytes that reads as bytes. -/
def BRow (w : World) (A : Option Addr) (n : Nat) (f : Nat → Nat) : Prop := ∀ i, i < n → ∃ ad, A = some ad ∧ w.cell? (ad.add i) = some (.int .u8 ((f i : Nat) : Int))
/-- A row of bytes of one's own, that nobody appends to. -/
def Row (w : World) (F : List Nat) (A : Option Addr) (n : Nat) (f : Nat → Nat) : Prop :=
  n = 0 ∨ ∃ g cur, A = some ⟨g, 0, none⟩ ∧ g ∈ F ∧ w.heap[g]? = some (.cells cur 5 (0, 0)) ∧ ∀ i, i < n → cur[i]? = some (.int .u8 ((f i : Nat) : Int))
theorem add_zero' (g i : Nat) : (Addr.add ⟨g, 0, none⟩ i) = ⟨g, i, none⟩ := by unfold Addr.add; split <;> simp_all
theorem Row.brow {w : World} {F : List Nat} {A : Option Addr} {n : Nat} {f : Nat → Nat} (h : Row w F A n f) : BRow w A n f := by
  intro i hi
  rcases h with rfl | ⟨g, cur, rfl, _, hh, hc⟩
  · omega
  · exact ⟨_, rfl, by rw [add_zero', cell_of_block hh i]; exact hc i hi⟩
theorem Row.same {w w' : World} {F : List Nat} {A : Option Addr} {n : Nat} {f : Nat → Nat} (h : Row w F A n f) (hk : ∀ q, q ∈ F → w'.heap[q]? = w.heap[q]?) : Row w' F A n f := by
  rcases h with h | ⟨g, cur, e, hg, hh, hc⟩
  · exact Or.inl h
  · exact Or.inr ⟨g, cur, e, hg, (hk g hg).trans hh, hc⟩

/-- A Reader at block br of the bits bl: it stands before bit number at, and has failed with bad unless that is 0. -/
def RAt (w : World) (br : Nat) (F : List Nat) (bl : List Bool) (at_ : Nat) (bad : Int) : Prop :=
  ∃ A n cap, w.heap[br]? = some (.cells #[.bool true, .slice A n cap, .int .i64 (at_ : Nat), .int .i64 bad] 132 (0, 0)) ∧ bl.length = 8 * n ∧ at_ ≤ bl.length ∧ n ≤ 1000000 ∧ br ∉ F ∧ (∀ q, q ∈ F → q < w.heap.size) ∧ Row w F A n (M.byteOf bl)
theorem RAt.lt {w : World} {br : Nat} {F : List Nat} {bl : List Bool} {at_ : Nat} {bad : Int} (h : RAt w br F bl at_ bad) : ∀ q, q ∈ br :: F → q < w.heap.size := by
  obtain ⟨A, n, cap, hb, _, _, _, _, hF, _⟩ := h
  intro q hq
  rcases List.mem_cons.1 hq with rfl | h1
  · exact lt_of_block hb
  · exact hF q h1
theorem RAt.same {w w' : World} {br : Nat} {F : List Nat} {bl : List Bool} {at_ : Nat} {bad : Int} (h : RAt w br F bl at_ bad) (hk : ∀ q, q ∈ br :: F → w'.heap[q]? = w.heap[q]?) (hs : w.heap.size ≤ w'.heap.size) : RAt w' br F bl at_ bad := by
  obtain ⟨A, n, cap, hb, h1, h2, h3, h4, hF, hr⟩ := h
  exact ⟨A, n, cap, (hk br (by simp)).trans hb, h1, h2, h3, h4, fun q hq => Nat.lt_of_lt_of_le (hF q hq) hs, hr.same fun q hq => hk q (by simp [hq])⟩
theorem RAt.keep {w w' : World} {br : Nat} {F G G' : List Nat} {bl : List Bool} {at_ : Nat} {bad : Int} (h : RAt w br F bl at_ bad) (fr : Fr G w G' w') (hd : ∀ q, q ∈ br :: F → q ∉ G) : RAt w' br F bl at_ bad :=
  h.same (fun q hq => fr.block q (h.lt q hq) (hd q hq)) fr.size
theorem RAt.below {w w' : World} {br : Nat} {F : List Nat} {bl : List Bool} {at_ : Nat} {bad : Int} (h : RAt w br F bl at_ bad) (hb : Below w.heap.size w w') : RAt w' br F bl at_ bad :=
  h.same (fun q hq => hb.block q (h.lt q hq)) hb.size
theorem RAt.drewN {w : World} {br : Nat} {F : List Nat} {bl : List Bool} {at_ : Nat} {bad : Int} (h : RAt w br F bl at_ bad) (n : Nat) : RAt (w.drewN n) br F bl at_ bad := h
/-- A cell of the Reader is written. -/
theorem RAt.set_at {w : World} {br : Nat} {F : List Nat} {bl : List Bool} {at_ : Nat} {bad : Int} (h : RAt w br F bl at_ bad) (a : Nat) (ha : a ≤ bl.length) : RAt (w.setCell ⟨br, 2, none⟩ (.int .i64 (a : Nat))) br F bl a bad := by
  obtain ⟨A, n, cap, hb, h1, h2, h3, h4, hF, hr⟩ := h
  refine ⟨A, n, cap, by simpa using block_setCell hb 2 (.int .i64 (a : Nat)), h1, ha, h3, h4, fun q hq => by simpa [World.setCell] using hF q hq, hr.same fun q hq => Below.heap_setCell _ _ _ _ (fun e => h4 (by cases e; exact hq))⟩
theorem RAt.set_bad {w : World} {br : Nat} {F : List Nat} {bl : List Bool} {at_ : Nat} {bad : Int} (h : RAt w br F bl at_ bad) (e : Int) : RAt (w.setCell ⟨br, 3, none⟩ (.int .i64 e)) br F bl at_ e := by
  obtain ⟨A, n, cap, hb, h1, h2, h3, h4, hF, hr⟩ := h
  refine ⟨A, n, cap, by simpa using block_setCell hb 3 (.int .i64 e), h1, h2, h3, h4, fun q hq => by simpa [World.setCell] using hF q hq, hr.same fun q hq => Below.heap_setCell _ _ _ _ (fun e => h4 (by cases e; exact hq))⟩

theorem ret2_congr {a b a' b' : Value} (h : a = a') (h' : b = b') : Ending.returned (.tuple #[a, b]) = .returned (.tuple #[a', b']) := by rw [h, h']

theorem wrap_pow {k : Nat} (hk : k ≤ 63) : IntKind.u64.wrap ((2 : Int) ^ k) = ((2 ^ k : Nat) : Int) := by
  have h2 : 2 ^ k ≤ 2 ^ 63 := Nat.pow_le_pow_right (by decide) hk
  rw [show ((2 : Int) ^ k) = ((2 ^ k : Nat) : Int) from (Int.natCast_pow 2 k).symm]
  generalize 2 ^ k = P at h2
  exact Bv.wrap_in (by omega) (by omega)

namespace M
theorem byte8_0 (a b c d e f g h : Bool) : byte8 a b c d e f g h / 128 % 2 = a.toNat := by cases a <;> cases b <;> cases c <;> cases d <;> cases e <;> cases f <;> cases g <;> cases h <;> decide
theorem byte8_1 (a b c d e f g h : Bool) : byte8 a b c d e f g h / 64 % 2 = b.toNat := by cases a <;> cases b <;> cases c <;> cases d <;> cases e <;> cases f <;> cases g <;> cases h <;> decide
theorem byte8_2 (a b c d e f g h : Bool) : byte8 a b c d e f g h / 32 % 2 = c.toNat := by cases a <;> cases b <;> cases c <;> cases d <;> cases e <;> cases f <;> cases g <;> cases h <;> decide
theorem byte8_3 (a b c d e f g h : Bool) : byte8 a b c d e f g h / 16 % 2 = d.toNat := by cases a <;> cases b <;> cases c <;> cases d <;> cases e <;> cases f <;> cases g <;> cases h <;> decide
theorem byte8_4 (a b c d e f g h : Bool) : byte8 a b c d e f g h / 8 % 2 = e.toNat := by cases a <;> cases b <;> cases c <;> cases d <;> cases e <;> cases f <;> cases g <;> cases h <;> decide
theorem byte8_5 (a b c d e f g h : Bool) : byte8 a b c d e f g h / 4 % 2 = f.toNat := by cases a <;> cases b <;> cases c <;> cases d <;> cases e <;> cases f <;> cases g <;> cases h <;> decide
theorem byte8_6 (a b c d e f g h : Bool) : byte8 a b c d e f g h / 2 % 2 = g.toNat := by cases a <;> cases b <;> cases c <;> cases d <;> cases e <;> cases f <;> cases g <;> cases h <;> decide
theorem byte8_7 (a b c d e f g h : Bool) : byte8 a b c d e f g h / 1 % 2 = h.toNat := by cases a <;> cases b <;> cases c <;> cases d <;> cases e <;> cases f <;> cases g <;> cases h <;> decide
theorem byteOf_bit (l : List Bool) (m : Nat) : byteOf l (m / 8) / 2 ^ (7 - m % 8) % 2 = (l.getD m false).toNat := by
  obtain ⟨i, p, hp, rfl⟩ : ∃ i p, p < 8 ∧ m = 8 * i + p := ⟨m / 8, m % 8, by omega, by omega⟩
  rw [show (8 * i + p) / 8 = i from by omega, show (8 * i + p) % 8 = p from by omega]
  unfold byteOf
  rcases (show p = 0 ∨ p = 1 ∨ p = 2 ∨ p = 3 ∨ p = 4 ∨ p = 5 ∨ p = 6 ∨ p = 7 from by omega) with rfl | rfl | rfl | rfl | rfl | rfl | rfl | rfl
  · exact byte8_0 _ _ _ _ _ _ _ _
  · exact byte8_1 _ _ _ _ _ _ _ _
  · exact byte8_2 _ _ _ _ _ _ _ _
  · exact byte8_3 _ _ _ _ _ _ _ _
  · exact byte8_4 _ _ _ _ _ _ _ _
  · exact byte8_5 _ _ _ _ _ _ _ _
  · exact byte8_6 _ _ _ _ _ _ _ _
  · exact byte8_7 _ _ _ _ _ _ _ _
theorem take_one_more {l : List Bool} {a j : Nat} (h : a + j < l.length) : (l.drop a).take (j + 1) = (l.drop a).take j ++ [l.getD (a + j) false] := by
  rw [List.take_succ_eq_append_getElem (by rw [List.length_drop]; omega)]
  congr 2
  rw [List.getElem_drop, List.getD_eq_getElem?_getD, List.getElem?_eq_getElem h]
  rfl
end M

theorem u8_and_one (x : Nat) (h : x < 256) : bits .and .u8 (x : Int) 1 = ((x % 2 : Nat) : Int) := by
  have := u8_and_nat x 1 h (by omega)
  rw [Nat.and_one_is_mod] at this
  exact this
theorem get_val (l : List Bool) (m x : Nat) (hx : x < 9223372036854775808) :
    bits .or .u64 ((x : Int) * 2) (IntKind.u64.wrap (bits .and .u8 ((M.byteOf l (m / 8) : Nat) / (2 : Int) ^ (7 - m % 8)) 1)) = ((2 * x + (l.getD m false).toNat : Nat) : Int) := by
  have hb := M.byteOf_lt l (m / 8)
  have := Bool.toNat_lt (l.getD m false)
  rw [show ((M.byteOf l (m / 8) : Nat) / (2 : Int) ^ (7 - m % 8)) = (((M.byteOf l (m / 8) / 2 ^ (7 - m % 8) : Nat)) : Int) from by rw [Int.natCast_ediv, Int.natCast_pow]; rfl]
  rw [u8_and_one _ (Nat.lt_of_le_of_lt (Nat.div_le_self _ _) hb), M.byteOf_bit, Bv.wrap_in (by omega) (by omega), show ((x : Int) * 2) = ((2 * x : Nat) : Int) from by omega, u64_or_nat _ _ (by omega) (by omega)]
  congr 1
  cases l.getD m false
  · simp
  · show 2 * x ||| 1 = 2 * x + 1
    apply Nat.eq_of_testBit_eq
    intro i
    rw [Nat.testBit_or]
    cases i with
    | zero => simp [Nat.testBit_zero]
    | succ i => rw [Nat.testBit_succ, Nat.testBit_succ, Nat.testBit_succ, show (2 * x + 1) / 2 = x from by omega, show 2 * x / 2 = x from by omega]; simp

set_option maxRecDepth 100000 in
theorem get_ok (br : Nat) (F : List Nat) (bl : List Bool) (a k : Nat) (bad : Int) (w : World) (h : RAt w br F bl a bad) (hk : a + k ≤ bl.length) (hk2 : k ≤ 64) :
    Calls Try.prog 84 #[.pointer (some ⟨br, 0, none⟩), .int .i64 (k : Int)] w fun e w' => e = .returned (.int .u64 (numOf ((bl.drop a).take k) : Nat)) ∧ RAt w' br F bl (a + k) bad ∧ Only br w w' := by
  have HW := Lib.hid h; clear h
  go_enter Try.func84, Try.ntmps84
  go_wp2_with fail
  go_loopg [5, 7] k (fun gh x i wr => ∃ j X : Nat, gh = k - j ∧ j ≤ k ∧ i = .int .i64 j ∧ x = .int .u64 X ∧ (X = numOf ((bl.drop a).take j) ∧ RAt wr br F bl (a + j) bad ∧ Only br w wr))
  case atStart => exact ⟨0, 0, rfl, by omega, rfl, rfl, rfl, HW.out, Only.refl _ _⟩
  case round =>
    obtain ⟨j, X, hgh, hj, rfl, rfl, hX, hr, ho⟩ := hrel
    have Hgh := Lib.hid hgh; clear hgh
    by_cases hlt : j < k
    · have HR := Lib.hid (And.intro hX (And.intro hr ho))
      have hXb : X < 2 ^ j := by
        rw [hX]
        refine Nat.lt_of_lt_of_le (M.numOf_lt _) (Nat.pow_le_pow_right (by decide) ?_)
        rw [List.length_take]; omega
      have hX63 : X < 9223372036854775808 := by
        have : 2 ^ j ≤ 2 ^ 63 := Nat.pow_le_pow_right (by decide) (by omega)
        have e : (9223372036854775808 : Nat) = 2 ^ 63 := rfl
        omega
      obtain ⟨A, n, cap, hb, hl, ha, hn, hnF, hF, hrow⟩ := hr
      rcases hrow with h0 | ⟨g, cur, rfl, hg, hh, hcur⟩
      · omega
      have hcc := (cell_of_block hh ((a + j) / 8)).trans (hcur ((a + j) / 8) (by omega))
      have c1 := (cell_of_block hb 1).trans rfl
      have c2 := (cell_of_block hb 2).trans rfl
      have f2 := free_of_block hb 2
      have hv := get_val bl (a + j) X hX63
      have hbt := M.byteOf_lt bl ((a + j) / 8)
      obtain ⟨L, hL⟩ : ∃ L, L = a + j := ⟨_, rfl⟩
      rw [← hL] at hcc c2 hv hbt
      obtain ⟨by_, hby⟩ : ∃ q, q = M.byteOf bl (L / 8) := ⟨_, rfl⟩
      rw [← hby] at hcc hv hbt
      have hLn : L < 8 * n := by omega
      have HS := Lib.hid (And.intro hL (And.intro hv hby))
      have i1 : (0 : Int) ≤ ((L / 8 : Nat) : Int) := by omega
      have i2 : ((L / 8 : Nat) : Int) < (n : Int) := by omega
      have s1 : IntKind.i64.wrap (7 - (L : Int) % 8) = 7 - (L : Int) % 8 := Go.IntWalk.i64_in _ (by omega)
      have s2 : (0 : Int) ≤ 7 - (L : Int) % 8 := by omega
      clear hL hv hby hb hl ha hh hcur hX hXb ho hg hF hnF
      go_wp2_with fail
      go_quiet (fail)
      rw [HS.out.2.1]
      obtain ⟨X', hX'⟩ : ∃ q, q = 2 * X + (bl.getD L false).toNat := ⟨_, rfl⟩
      rw [← hX']
      have HX := Lib.hid hX'; clear hX'
      go_wp2
      go_roundg (k - (j + 1))
      case measure => have := Hgh.out; omega
      case rel =>
        refine ⟨j + 1, X', rfl, by omega, rfl, rfl, ?_, ?_, ?_⟩
        · rw [M.take_one_more (by omega), M.numOf_snoc, ← HR.out.1, HX.out, HS.out.1]
        · have h1 := (HR.out.2.1.drewN nq).set_at (a + (j + 1)) (by omega)
          rw [show ((a + (j + 1) : Nat) : Int) = (L : Int) + 1 from by have := HS.out.1; omega] at h1
          exact h1
        · exact (HR.out.2.2.drewN nq).setCell rfl _
    · have hjk : j = k := by omega
      subst hjk
      have HR := Lib.hid (And.intro hX (And.intro hr ho))
      clear hX hr ho
      go_wp2_with fail
      go_ret
      exact ⟨ret_congr (congrArg (fun q : Nat => Value.int .u64 q) HR.out.1), HR.out.2⟩
theorem rest_ok (br : Nat) (F : List Nat) (bl : List Bool) (a : Nat) (bad : Int) (w : World) (h : RAt w br F bl a bad) :
    Calls Try.prog 83 #[.pointer (some ⟨br, 0, none⟩)] w fun e w' => e = .returned (.int .i64 ((bl.length - a : Nat) : Int)) ∧ ∃ m, w' = w.drewN m := by
  obtain ⟨A, n, cap, hb, hl, ha, hn, hnF, hF, hrow⟩ := h
  have c1 := (cell_of_block hb 1).trans rfl
  have c2 := (cell_of_block hb 2).trans rfl
  have hv : 8 * (n : Int) - (a : Int) = ((bl.length - a : Nat) : Int) := by omega
  have H := Lib.hid hv
  have w1 : IntKind.i64.wrap (8 * (n : Int)) = 8 * (n : Int) := Go.IntWalk.i64_in _ (by omega)
  have w2 : IntKind.i64.wrap (8 * (n : Int) - (a : Int)) = 8 * (n : Int) - (a : Int) := Go.IntWalk.i64_in _ (by omega)
  clear hv hb hl ha hn hnF hF hrow
  go_enter Try.func83, Try.ntmps83
  go_wp2_with fail
  go_quiet (fail)
  go_wp2
  go_ret
  exact ⟨ret_congr (congrArg (Value.int .i64) H.out), nq, rfl⟩

theorem number_ok (br : Nat) (F : List Nat) (bl : List Bool) (a k : Nat) (bad : Int) (w : World) (h : RAt w br F bl a bad) (hk : a + k ≤ bl.length) (hk2 : k ≤ 64) :
    Calls Try.prog 80 #[.pointer (some ⟨br, 0, none⟩), .int .i64 (k : Int)] w fun e w' => e = .returned (.tuple #[.int .u64 (numOf ((bl.drop a).take k) : Nat), .int .i64 0]) ∧ RAt w' br F bl (a + k) bad ∧ Only br w w' := by
  have hr := rest_ok br F bl a bad w h
  have hg := fun m => get_ok br F bl a k bad (w.drewN m) (h.drewN m) hk hk2
  have H := Lib.hid (And.intro hr hg)
  have hd : decide (((bl.length - a : Nat) : Int) < (k : Int)) = false := decide_eq_false (by omega)
  have hd2 : decide ((bl.length - a : Nat) < k) = false := decide_eq_false (by omega)
  clear h hr hg
  go_enter Try.func80, Try.ntmps80
  go_wp2_with fail
  refine H.out.1.mono ?_
  rintro e w' ⟨rfl, m, rfl⟩
  go_wp2_with fail
  refine (H.out.2 m).mono ?_
  rintro e w' ⟨rfl, h1, h2⟩
  have HQ := Lib.hid (And.intro h1 h2); clear h1 h2
  go_wp2_with fail
  go_ret2
  exact ⟨rfl, HQ.out.1, ⟨HQ.out.2.os, HQ.out.2.tape, HQ.out.2.output, HQ.out.2.size, HQ.out.2.block⟩⟩

theorem number_short (br : Nat) (F : List Nat) (bl : List Bool) (a k : Nat) (bad : Int) (w : World) (h : RAt w br F bl a bad) (hk : bl.length < a + k) (hk2 : k ≤ 64) :
    Calls Try.prog 80 #[.pointer (some ⟨br, 0, none⟩), .int .i64 (k : Int)] w fun e w' => e = .returned (.tuple #[.int .u64 0, .int .i64 180]) ∧ ∃ m, w' = w.drewN m := by
  have hr := rest_ok br F bl a bad w h
  have H := Lib.hid hr
  have hd : decide (((bl.length - a : Nat) : Int) < (k : Int)) = true := decide_eq_true (by obtain ⟨A, n, cap, hb, hl, ha, _⟩ := h; omega)
  have hd2 : decide ((bl.length - a : Nat) < k) = true := decide_eq_true (by obtain ⟨A, n, cap, hb, hl, ha, _⟩ := h; omega)
  clear h hr
  go_enter Try.func80, Try.ntmps80
  go_wp2_with fail
  refine H.out.mono ?_
  rintro e w' ⟨rfl, m, rfl⟩
  go_wp2_with fail
  go_ret2
  exact ⟨rfl, m, rfl⟩

theorem RAt.bad_cell {w : World} {br : Nat} {F : List Nat} {bl : List Bool} {at_ : Nat} {bad : Int} (h : RAt w br F bl at_ bad) :
    w.cell? ⟨br, 0, none⟩ = some (.bool true) ∧ w.cell? ⟨br, 2, none⟩ = some (.int .i64 (at_ : Nat)) ∧ w.cell? ⟨br, 3, none⟩ = some (.int .i64 bad) ∧ (∀ i, w.frozen? ⟨br, i, none⟩ = false) := by
  obtain ⟨A, n, cap, hb, _⟩ := h
  exact ⟨(cell_of_block hb 0).trans rfl, (cell_of_block hb 2).trans rfl, (cell_of_block hb 3).trans rfl, fun i => free_of_block hb i⟩

theorem read_arg (br : Nat) (k most : Int) (f : Value) (w : World) (hm : w.cell? ⟨br, 0, none⟩ = some (.bool true)) (hk : k < 0 ∨ most < k) :
    Calls Try.prog 79 #[.pointer (some ⟨br, 0, none⟩), .int .i64 k, .int .i64 most, f] w fun e w' => e = .returned (.tuple #[.int .u64 0, .int .i64 2]) ∧ w = w' := by
  by_cases h : k < 0
  · go_enter Try.func79, Try.ntmps79
    go_wp2_with fail
    go_ret2
    exact ⟨rfl, rfl⟩
  · have h2 : most < k := by omega
    go_enter Try.func79, Try.ntmps79
    go_wp2_with fail
    go_ret2
    exact ⟨rfl, rfl⟩

theorem read_bad (br : Nat) (k most bad : Int) (f : Value) (w : World) (hm : w.cell? ⟨br, 0, none⟩ = some (.bool true)) (hb : w.cell? ⟨br, 3, none⟩ = some (.int .i64 bad)) (hne : (bad != 0) = true) (k0 : 0 ≤ k) (k1 : k ≤ most) :
    Calls Try.prog 79 #[.pointer (some ⟨br, 0, none⟩), .int .i64 k, .int .i64 most, f] w fun e w' => e = .returned (.tuple #[.int .u64 0, .int .i64 bad]) ∧ ∃ m, w' = w.drewN m := by
  go_enter Try.func79, Try.ntmps79
  go_wp2_with fail
  go_quiet (fail)
  go_wp2
  go_ret2
  exact ⟨rfl, nq, rfl⟩

theorem read_number_ok (br : Nat) (F : List Nat) (bl : List Bool) (a : Nat) (k most : Int) (v : Int) (s : List Bool) (w : World) (h : RAt w br F bl a 0) (k0 : 0 ≤ k) (k1 : k ≤ most)
    (hc : Calls Try.prog 80 #[.pointer (some ⟨br, 0, none⟩), .int .i64 k] w fun e w' => e = .returned (.tuple #[.int .u64 v, .int .i64 0]) ∧ (∃ a', RAt w' br F bl a' 0 ∧ bl.drop a' = s) ∧ Only br w w') :
    Calls Try.prog 79 #[.pointer (some ⟨br, 0, none⟩), .int .i64 k, .int .i64 most, .func (.func 80) #[.pointer (some ⟨br, 0, none⟩)] #[]] w fun e w' => e = .returned (.tuple #[.int .u64 v, .int .i64 0]) ∧ (∃ a', RAt w' br F bl a' 0 ∧ bl.drop a' = s) ∧ Only br w w' := by
  obtain ⟨c0, c2, c3, hf⟩ := h.bad_cell
  have H := Lib.hid (And.intro h hc)
  clear h hc hf
  go_enter Try.func79, Try.ntmps79
  go_wp2_with fail
  refine H.out.2.mono ?_
  rintro e w' ⟨rfl, h1⟩
  have HQ := Lib.hid h1; clear h1
  go_wp2_with fail
  go_ret2
  exact ⟨rfl, HQ.out⟩
theorem read_number_err (br : Nat) (F : List Nat) (bl : List Bool) (a : Nat) (k most : Int) (err v : Int) (w : World) (h : RAt w br F bl a 0) (k0 : 0 ≤ k) (k1 : k ≤ most) (hne : (err != 0) = true)
    (hc : Calls Try.prog 80 #[.pointer (some ⟨br, 0, none⟩), .int .i64 k] w fun e w' => e = .returned (.tuple #[.int .u64 v, .int .i64 err]) ∧ (∃ a', RAt w' br F bl a' 0) ∧ Only br w w') :
    Calls Try.prog 79 #[.pointer (some ⟨br, 0, none⟩), .int .i64 k, .int .i64 most, .func (.func 80) #[.pointer (some ⟨br, 0, none⟩)] #[]] w fun e w' => e = .returned (.tuple #[.int .u64 0, .int .i64 err]) ∧ (∃ a', RAt w' br F bl a' err) ∧ Only br w w' := by
  obtain ⟨c0, c2, c3, hf⟩ := h.bad_cell
  have H := Lib.hid (And.intro h hc)
  clear h hc hf
  go_enter Try.func79, Try.ntmps79
  go_wp2_with fail
  refine H.out.2.mono ?_
  rintro e w2 ⟨rfl, ⟨a', h1⟩, h2⟩
  obtain ⟨_, _, c3, hf⟩ := h1.bad_cell
  have f3 := hf 3
  have HQ := Lib.hid (And.intro h1 h2); clear h1 h2 hf
  go_wp2_with fail
  go_ret2
  exact ⟨rfl, ⟨a', HQ.out.1.set_bad err⟩, HQ.out.2.setCell rfl _⟩
/-- A Reader: the bits s are left; it has failed with the error bad, and nothing is left, unless that is 0. -/
def ROk (w : World) (br : Nat) (F : List Nat) (s : List Bool) (bad : Nat) : Prop := ∃ bl a, RAt w br F bl a bad ∧ s = if bad = 0 then bl.drop a else []
theorem ROk.ok {w : World} {br : Nat} {F : List Nat} {s : List Bool} (h : ROk w br F s 0) : ∃ bl a, RAt w br F bl a 0 ∧ s = bl.drop a := h
theorem ROk.lt {w : World} {br : Nat} {F : List Nat} {s : List Bool} {bad : Nat} (h : ROk w br F s bad) : ∀ q, q ∈ br :: F → q < w.heap.size := by obtain ⟨bl, a, hr, _⟩ := h; exact hr.lt
theorem ROk.keep {w w' : World} {br : Nat} {F G G' : List Nat} {s : List Bool} {bad : Nat} (h : ROk w br F s bad) (fr : Fr G w G' w') (hd : ∀ q, q ∈ br :: F → q ∉ G) : ROk w' br F s bad := by
  obtain ⟨bl, a, hr, e⟩ := h; exact ⟨bl, a, hr.keep fr hd, e⟩
theorem ROk.below {w w' : World} {br : Nat} {F : List Nat} {s : List Bool} {bad : Nat} (h : ROk w br F s bad) (hb : Below w.heap.size w w') : ROk w' br F s bad := by
  obtain ⟨bl, a, hr, e⟩ := h; exact ⟨bl, a, hr.below hb, e⟩
theorem ROk.drewN {w : World} {br : Nat} {F : List Nat} {s : List Bool} {bad : Nat} (h : ROk w br F s bad) (n : Nat) : ROk (w.drewN n) br F s bad := h
theorem ROk.length {w : World} {br : Nat} {F : List Nat} {s : List Bool} {bad : Nat} (h : ROk w br F s bad) : s.length ≤ 8000000 := by
  obtain ⟨bl, a, ⟨A, n, cap, hb, hl, ha, hn, _⟩, rfl⟩ := h
  split
  · rw [List.length_drop]; omega
  · simp
theorem ROk.bad_nil {w : World} {br : Nat} {F : List Nat} {s : List Bool} {bad : Nat} (h : ROk w br F s bad) (hb : bad ≠ 0) : s = [] := by
  obtain ⟨bl, a, hr, rfl⟩ := h; rw [if_neg hb]

/-- What the three readings do: the number, the error, the bits that are left, the error that stays. -/
def getA (k : Nat) (s : List Bool) (bad : Nat) : Nat × Nat × List Bool × Nat :=
  if bad ≠ 0 then (0, bad, [], bad) else if s.length < k then (0, 180, [], 180) else (numOf (s.take k), 0, s.drop k, 0)

theorem Get_arg (br : Nat) (F : List Nat) (s : List Bool) (bad : Nat) (k : Int) (w : World) (h : ROk w br F s bad) (hk : k < 0 ∨ 64 < k) :
    Calls Try.prog 74 #[.pointer (some ⟨br, 0, none⟩), .int .i64 k] w fun e w' => e = .returned (.tuple #[.int .u64 0, .int .i64 2]) ∧ w = w' := by
  obtain ⟨bl, a, hr, _⟩ := h
  have H := Lib.hid (fun f => read_arg br k 64 f w hr.bad_cell.1 hk)
  clear hr
  go_enter Try.func74, Try.ntmps74
  go_wp2_with fail
  refine (H.out _).mono ?_
  rintro e w' ⟨rfl, rfl⟩
  go_wp2_with fail
  go_ret2
  exact ⟨rfl, rfl⟩

theorem Get_ok (br : Nat) (F : List Nat) (s : List Bool) (bad : Nat) (k : Nat) (w : World) (h : ROk w br F s bad) (hk : k ≤ 64) :
    Calls Try.prog 74 #[.pointer (some ⟨br, 0, none⟩), .int .i64 (k : Int)] w fun e w' => e = .returned (.tuple #[.int .u64 ((getA k s bad).1 : Nat), .int .i64 ((getA k s bad).2.1 : Nat)]) ∧ ROk w' br F (getA k s bad).2.2.1 (getA k s bad).2.2.2 ∧ Only br w w' := by
  obtain ⟨bl, a, hr, hs⟩ := h
  by_cases hb : bad = 0
  · subst hb
    rw [if_pos rfl] at hs
    have hal : a ≤ bl.length := by obtain ⟨A, n, cap, hb, hl, ha, _⟩ := hr; exact ha
    by_cases hl : s.length < k
    · have e : getA k s 0 = (0, 180, [], 180) := by unfold getA; rw [if_neg (by simp), if_pos hl]
      rw [e]
      have hn := number_short br F bl a k 0 w hr (by rw [hs, List.length_drop] at hl; omega) hk
      have hc := read_number_err br F bl a k 64 180 0 w hr (by omega) (by omega) (by decide) (hn.mono fun e w' ⟨h1, m, h2⟩ => ⟨h1, ⟨a, by rw [h2]; exact hr.drewN m⟩, by rw [h2]; exact (Only.refl _ _).drewN m⟩)
      have H := Lib.hid hc
      clear hr hn hc hl hal e
      go_enter Try.func74, Try.ntmps74
      go_wp2_with fail
      refine H.out.mono ?_
      rintro e w' ⟨rfl, h1⟩
      have HQ := Lib.hid h1; clear h1
      go_wp2_with fail
      go_ret2
      obtain ⟨⟨a', h1⟩, h2⟩ := HQ.out
      exact ⟨rfl, ⟨bl, a', h1, rfl⟩, h2⟩
    · have e : getA k s 0 = (numOf (s.take k), 0, s.drop k, 0) := by unfold getA; rw [if_neg (by simp), if_neg hl]
      rw [e]
      have hn := number_ok br F bl a k 0 w hr (by rw [hs, List.length_drop] at hl; omega) hk
      rw [← hs] at hn
      have hc := read_number_ok br F bl a k 64 _ (s.drop k) w hr (by omega) (by omega) (hn.mono fun e w' ⟨h1, h2, h3⟩ => ⟨h1, ⟨a + k, h2, by rw [hs, List.drop_drop]⟩, h3⟩)
      generalize numOf (s.take k) = N at *
      have H := Lib.hid hc
      clear hr hn hc hl hal e hs
      go_enter Try.func74, Try.ntmps74
      go_wp2_with fail
      refine H.out.mono ?_
      rintro e w' ⟨rfl, h1⟩
      have HQ := Lib.hid h1; clear h1
      go_wp2_with fail
      go_ret2
      obtain ⟨⟨a', h1, h3⟩, h2⟩ := HQ.out
      exact ⟨rfl, ⟨bl, a', h1, h3.symm⟩, h2⟩
  · have e : getA k s bad = (0, bad, [], bad) := by unfold getA; rw [if_pos hb]
    rw [e]
    have hc := fun f => read_bad br k 64 bad f w hr.bad_cell.1 hr.bad_cell.2.2.1 (by rw [bne_iff_ne]; omega) (by omega) (by omega)
    have H := Lib.hid (And.intro hr hc)
    have HB := Lib.hid hb
    clear hr hc e hs hb
    go_enter Try.func74, Try.ntmps74
    go_wp2_with fail
    refine (H.out.2 _).mono ?_
    rintro e w' ⟨rfl, m, rfl⟩
    go_wp2_with fail
    go_ret2
    exact ⟨rfl, ⟨bl, a, H.out.1.drewN m, by rw [if_neg HB.out]⟩, (Only.refl _ _).drewN m⟩

theorem BRow.keepd {w w' : World} {A : Option Addr} {n : Nat} {f : Nat → Nat} (h : BRow w A n f) (hb : Below w.heap.size w w') : BRow w' A n f := by
  intro i hi
  obtain ⟨ad, e, hc⟩ := h i hi
  exact ⟨ad, e, (hb.cell (World.block_lt_of_cell? w _ hc)).trans hc⟩
theorem BRow.drewN {w : World} {A : Option Addr} {n : Nat} {f : Nat → Nat} (h : BRow w A n f) (m : Nat) : BRow (w.drewN m) A n f := h

/-- What a call leaves that makes a row of bytes: it lies in new memory. -/
def NewRow (w w' : World) (v : Value) (n : Nat) (f : Nat → Nat) : Prop :=
  (∃ F A cap, v = .slice A n cap ∧ Row w' F A n f ∧ (∀ q, q ∈ F → w.heap.size ≤ q ∧ q < w'.heap.size) ∧ (A = none → n = 0 ∧ cap = 0)) ∧ Below w.heap.size w w'
theorem row_of_own {w : World} {B n : Nat} {v : Value} {f : Nat → Nat} (h : w.ownsRow B 5 1 v n ((List.range n).map fun i => Value.int .u8 ((f i : Nat) : Int))) :
    ∃ F A cap, v = .slice A n cap ∧ Row w F A n f ∧ (∀ q, q ∈ F → B ≤ q ∧ q < w.heap.size) ∧ (A = none → n = 0 ∧ cap = 0) := by
  rcases h.2 with ⟨rfl, rfl⟩ | ⟨g, cap, cur, rfl, hB, hh, _, _, _, htk⟩
  · exact ⟨[], none, 0, rfl, Or.inl rfl, fun q hq => absurd hq (by simp), fun _ => ⟨rfl, rfl⟩⟩
  · refine ⟨[g], some ⟨g, 0, none⟩, cap, rfl, Or.inr ⟨g, cur, rfl, by simp, hh, ?_⟩, fun q hq => ?_, fun e => by cases e⟩
    · intro i hi
      have e := congrArg (fun q : List Value => q[i]?) htk
      simp only [Nat.mul_one, List.getElem?_take, hi, if_true, Array.getElem?_toList, List.getElem?_map, List.getElem?_range hi, Option.map_some] at e
      exact e
    · rw [List.mem_singleton] at hq; subst hq; exact ⟨hB, lt_of_block hh⟩

theorem Clone_nil (n cap : Nat) (w : World) :
    Calls Try.prog 48 #[.slice none 0 0] w fun e w' => e = .returned (.slice none 0 0) ∧ w = w' := by
  have q : ∀ (w : World) (a : Option Addr) (n c n' c' : Nat), (binOp .eql 22 (.slice a n c) (.slice none n' c')).run Try.prog w = .ok (.bool a.isNone) w := fun w a n c n' c' => Lib.run_eql_slice_nil w _ _ a n c n' c' Try.underlying22
  go_enter Try.func48, Try.ntmps48
  go_wp2_with fail
  go_ret
  exact ⟨rfl, rfl⟩

theorem Clone_some (ad : Addr) (n cap : Nat) (f : Nat → Nat) (w : World) (h : BRow w (some ad) n f) (hn : n ≤ 1000000) :
    Calls Try.prog 48 #[.slice (some ad) n cap] w fun e w' => ∃ v, e = .returned v ∧ NewRow w w' v n f := by
  obtain ⟨i0, hi, hz0, hz1, hz2⟩ := info_parts info5
  have HI := Lib.hid (And.intro hi (And.intro hz0 (And.intro hz1 hz2))); clear hi hz0 hz1 hz2
  have hnews : ∀ o, ∀ j u, ((List.range n).map fun i => Value.int .u8 ((f i : Nat) : Int))[j]? = some u → (w.alloc o).cell? (ad.add j) = some u := by
    intro o j u hu
    rw [List.getElem?_map] at hu
    rcases Nat.lt_or_ge j n with hj | hj
    · rw [List.getElem?_range hj, Option.map_some] at hu
      obtain ⟨ad', e, hc⟩ := h j hj
      injection e with e
      subst e
      rw [World.cell?_alloc_lt w o _ (World.block_lt_of_cell? w _ hc), hc, hu]
    · rw [List.getElem?_eq_none (by simp; omega)] at hu; simp at hu
  have H := Lib.hid hnews; clear hnews h
  have q : ∀ (w : World) (a : Option Addr) (n c n' c' : Nat), (binOp .eql 22 (.slice a n c) (.slice none n' c')).run Try.prog w = .ok (.bool a.isNone) w := fun w a n c n' c' => Lib.run_eql_slice_nil w _ _ a n c n' c' Try.underlying22
  go_enter Try.func48, Try.ntmps48
  go_wp2_with (at_builtin; refine wpList_append_own_at _ rfl _ _ 22 rfl w.heap.size 5 i0 (.int .u8 0) 1 1 Try.underlying22 HI.out.1 HI.out.2.1 HI.out.2.2.1 HI.out.2.2.2 rfl (by decide) (.slice (some ⟨w.heap.size, 0, none⟩) 0 0) 0 [] rfl ?c0 ad n cap ((List.range n).map fun i => Value.int .u8 ((f i : Nat) : Int)) rfl ?c1 ?c2 ?c3 ?c4 ?c5 ?c6 ?_)
  case c0 => exact ⟨rfl, Or.inr ⟨_, 0, _, rfl, Nat.le_refl _, heap_alloc_new w _, Nat.le_refl _, by unfold maxLen; omega, rfl, rfl⟩⟩
  case c1 => simp
  case c2 => exact H.out _
  case c3 => intro u hu; rw [List.mem_map] at hu; obtain ⟨i, _, rfl⟩ := hu; rfl
  case c4 => unfold maxLen; omega
  case c5 => omega
  case c6 => simp
  intro v' w1 hown hg _ hat
  have HN := Lib.hid (And.intro hown (And.intro hg hat)); clear hown hg hat
  go_wp2_with fail
  go_ret
  refine ⟨_, rfl, ?_, ?_⟩
  · exact row_of_own HN.out.1
  · exact ((Below.refl _ _).alloc (Nat.le_refl _) _).grown HN.out.2.1 (by simp) (by intro q hq; simp [Value.ownBlock] at hq; omega)

theorem Clone_ok (A : Option Addr) (n cap : Nat) (f : Nat → Nat) (w : World) (h : BRow w A n f) (hn : n ≤ 1000000) (hnil : A = none → n = 0 ∧ cap = 0) :
    Calls Try.prog 48 #[.slice A n cap] w fun e w' => ∃ v, e = .returned v ∧ NewRow w w' v n f := by
  rcases A with _ | ad
  · obtain ⟨rfl, rfl⟩ := hnil rfl
    refine (Clone_nil 0 0 w).mono ?_
    rintro e w' ⟨rfl, rfl⟩
    exact ⟨_, rfl, ⟨[], none, 0, rfl, Or.inl rfl, fun q hq => absurd hq (by simp), fun _ => ⟨rfl, rfl⟩⟩, Below.refl _ _⟩
  · exact Clone_some ad n cap f w h hn

theorem WOk.row {w : World} {B bw o : Nat} {T : TypeId} {cs : Array Value} {F : List Nat} {l : List Bool} (h : WOk w B bw o T cs F l) : ∃ A cap, w.cell? ⟨bw, o, none⟩ = some (.slice A (nbytes l) cap) ∧ BRow w A (nbytes l) (M.byteOf l) ∧ (A = none → nbytes l = 0 ∧ cap = 0) := by
  obtain ⟨v, hw, rfl, hB⟩ := h
  have hc := (cell_of_block hw.blk o).trans hw.c0
  rcases hw.own.2 with ⟨rfl, h0⟩ | ⟨g, cap, cur, rfl, hB, hh, _, _, _, htk⟩
  · exact ⟨none, 0, by rw [h0]; exact hc, fun i hi => by omega, fun _ => ⟨h0, rfl⟩⟩
  · refine ⟨some ⟨g, 0, none⟩, cap, hc, fun i hi => ⟨_, rfl, ?_⟩, fun e => by cases e⟩
    rw [add_zero', cell_of_block hh i]
    have e := congrArg (fun q : List Value => q[i]?) htk
    simp only [Nat.mul_one, List.getElem?_take, hi, if_true, Array.getElem?_toList, bytesV, List.getElem?_map, List.getElem?_range hi, Option.map_some] at e
    exact e

theorem NewRow.brow {w w' : World} {v : Value} {n : Nat} {f : Nat → Nat} (h : NewRow w w' v n f) : ∃ A cap, v = .slice A n cap ∧ BRow w' A n f ∧ Below w.heap.size w w' ∧ (A = none → n = 0 ∧ cap = 0) := by
  obtain ⟨⟨F, A, cap, e, hr, _, hn⟩, hb⟩ := h
  exact ⟨A, cap, e, hr.brow, hb, hn⟩
theorem Bytes_ok {B bw o : Nat} {T : TypeId} {cs : Array Value} {F : List Nat} {l : List Bool} (n : Nat) {w : World} (h : WOk w B bw o T cs F l) (hl : l.length ≤ 2000000) (e : nbytes l = n) :
    Calls Try.prog 72 #[.pointer (some ⟨bw, o, none⟩)] w fun e w' => ∃ v, e = .returned v ∧ NewRow w w' v n (M.byteOf l) := by
  subst e
  obtain ⟨A, cap, hc, hr, hnil⟩ := h.row
  have hcl := Clone_ok A (nbytes l) cap _ w hr (by unfold nbytes; omega) hnil
  have H := Lib.hid hcl
  clear h hr hnil hcl
  go_enter Try.func72, Try.ntmps72
  go_wp2_with fail
  refine H.out.mono ?_
  rintro e w' ⟨v, rfl, hq⟩
  have HQ := Lib.hid hq; clear hq
  go_wp2_with fail
  go_ret
  exact ⟨v, rfl, HQ.out⟩

theorem NewReader_ok (A : Option Addr) (n cap : Nat) (bl : List Bool) (w : World) (h : BRow w A n (M.byteOf bl)) (hl : bl.length = 8 * n) (hn : n ≤ 1000000) (hnil : A = none → n = 0 ∧ cap = 0) :
    Calls Try.prog 71 #[.slice A n cap] w fun e w' => ∃ br F, e = .returned (.pointer (some ⟨br, 0, none⟩)) ∧ ROk w' br F bl 0 ∧ (∀ q, q ∈ br :: F → w.heap.size ≤ q) ∧ Below w.heap.size w w' := by
  have hcl := Clone_ok A n cap _ w h hn hnil
  have H := Lib.hid hcl
  clear h hnil hcl
  go_enter Try.func71, Try.ntmps71
  go_wp2_with fail
  refine H.out.mono ?_
  rintro e w1 ⟨v, rfl, ⟨F, A', cap', rfl, hr, hF, _⟩, hb⟩
  have HQ := Lib.hid (And.intro hr (And.intro hF hb)); clear hr hF hb
  go_wp2_with fail
  go_ret
  obtain ⟨hr, hF, hb⟩ := HQ.out
  refine ⟨w1.heap.size, F, rfl, ⟨bl, 0, ⟨A', n, cap', heap_alloc_new w1 _, hl, by omega, hn, ?_, ?_, ?_⟩, by simp⟩, ?_, ?_⟩
  · intro e; have := (hF _ e).2; omega
  · intro q hq; have := (hF q hq).2; simp; omega
  · exact hr.same fun q hq => Below.heap_alloc _ _ _ (hF q hq).2
  · intro q hq
    rcases List.mem_cons.1 hq with rfl | h1
    · exact hb.size
    · exact (hF q h1).1
  · exact hb.alloc hb.size _

theorem SameBytes_ok (A C : Option Addr) (n ca cc : Nat) (f g : Nat → Nat) (w : World) (hA : BRow w A n f) (hC : BRow w C n g) (hfg : ∀ i, i < n → f i = g i) (hn : n ≤ 1000000) :
    Calls Try.prog 27 #[.slice A n ca, .slice C n cc] w fun e w' => e = .returned (.bool true) ∧ ∃ m, w' = w.drewN m := by
  have H := Lib.hid (And.intro hA (And.intro hC hfg)); clear hA hC hfg
  go_enter Try.func27, Try.ntmps27
  go_wp2_with fail
  go_loopg [5] n (fun gh i wr => ∃ j m : Nat, gh = n - j ∧ j ≤ n ∧ i = .int .i64 j ∧ wr = w.drewN m)
  case atStart => exact ⟨0, 0, rfl, by omega, rfl, rfl⟩
  case round =>
    obtain ⟨j, m, hgh, hj, rfl, rfl⟩ := hrel
    have Hgh := Lib.hid hgh; clear hgh
    by_cases hlt : j < n
    · obtain ⟨ad, rfl, hc⟩ := H.out.1 j hlt
      obtain ⟨ae, rfl, hd⟩ := H.out.2.1 j hlt
      rw [← H.out.2.2 j hlt] at hd
      generalize f j = x at hc hd
      have i0 : (0 : Int) ≤ (j : Int) := by omega
      have i1 : (j : Int) < (n : Int) := by omega
      go_wp2_with fail
      go_quiet (fail)
      go_wp2
      go_roundg (n - (j + 1))
      case measure => have := Hgh.out; omega
      case rel => exact ⟨j + 1, _, rfl, by omega, by go_num, rfl⟩
    · go_wp2_with fail
      go_ret
      exact ⟨rfl, _, rfl⟩
theorem then_ {w x y : World} (h : Below w.heap.size w x) (k : Below x.heap.size x y) : Below w.heap.size w y := h.trans (k.mono h.size)
theorem then_alloc {w x : World} (h : Below w.heap.size w x) (o : Obj) : Below w.heap.size w (x.alloc o) := h.alloc h.size o
theorem then_drewN {w x : World} (h : Below w.heap.size w x) (m : Nat) : Below w.heap.size w (x.drewN m) := below_drewN' h m
theorem then_fr {w x y : World} {F G : List Nat} (h : Below w.heap.size w x) (k : Fr F x G y) (hF : ∀ q, q ∈ F → w.heap.size ≤ q) : Below w.heap.size w y := h.trans (k.below h.size hF)
theorem then_only {w x y : World} {b : Nat} (h : Below w.heap.size w x) (k : Only b x y) (hb : w.heap.size ≤ b) : Below w.heap.size w y := h.trans (k.below hb)

theorem BRow.lit {w : World} {g n : Nat} {cs : Array Value} {t : TypeId} {f : Nat → Nat} (h : w.heap[g]? = some (.cells cs t (0, 0))) (hc : ∀ i, i < n → cs[i]? = some (.int .u8 ((f i : Nat) : Int))) : BRow w (some ⟨g, 0, none⟩) n f :=
  fun i hi => ⟨_, rfl, by rw [add_zero', cell_of_block h i]; exact hc i hi⟩
/-- A string of bits, filled up to whole bytes. -/
def pad (l : List Bool) : List Bool := l ++ List.replicate (8 * nbytes l - l.length) false
theorem pad_length (l : List Bool) : (pad l).length = 8 * nbytes l := by unfold pad; rw [List.length_append, List.length_replicate]; unfold nbytes; omega
theorem pad_rest (l : List Bool) : 8 * nbytes l - l.length ≤ 7 := by unfold nbytes; omega
theorem getD_pad (l : List Bool) (p m : Nat) : (l ++ List.replicate p false).getD m false = l.getD m false := by
  simp only [List.getD_eq_getElem?_getD]
  rcases Nat.lt_or_ge m l.length with h | h
  · rw [List.getElem?_append_left h]
  · rw [List.getElem?_append_right h, List.getElem?_eq_none h]
    rcases Nat.lt_or_ge (m - l.length) p with h1 | h1
    · rw [List.getElem?_eq_getElem (by simpa using h1)]; simp
    · rw [List.getElem?_eq_none (by simpa using h1)]
theorem byteOf_pad (l : List Bool) : M.byteOf (pad l) = M.byteOf l := by
  funext i
  unfold M.byteOf pad
  simp only [getD_pad]

theorem Get_to {br : Nat} {F : List Nat} {s : List Bool} {bad : Nat} (k V E : Nat) (t : List Bool) (b : Nat) {w : World} (h : ROk w br F s bad) (hk : k ≤ 64) (e : getA k s bad = (V, E, t, b)) :
    Calls Try.prog 74 #[.pointer (some ⟨br, 0, none⟩), .int .i64 (k : Int)] w fun e w' => e = .returned (.tuple #[.int .u64 (V : Int), .int .i64 (E : Int)]) ∧ ROk w' br F t b ∧ Only br w w' := by
  have := Get_ok br F s bad k w h hk
  rw [e] at this
  exact this
theorem Get_z {br : Nat} {F : List Nat} {s : List Bool} {bad : Nat} {k : Int} (K V E : Nat) (v : Int) (t : List Bool) (b : Nat) {w : World} (h : ROk w br F s bad) (ek : k = K) (ev : v = V) (hk : K ≤ 64) (e : getA K s bad = (V, E, t, b)) :
    Calls Try.prog 74 #[.pointer (some ⟨br, 0, none⟩), .int .i64 k] w fun e w' => e = .returned (.tuple #[.int .u64 v, .int .i64 (E : Int)]) ∧ ROk w' br F t b ∧ Only br w w' := by
  subst ek ev; exact Get_to K V E t b h hk e
theorem SameBytes_to {A C : Option Addr} {ca cc : Nat} (n : Nat) (f g : Nat → Nat) {w : World} (hA : BRow w A n f) (hC : BRow w C n g) (hfg : ∀ i, i < n → f i = g i) (hn : n ≤ 1000000) :
    Calls Try.prog 27 #[.slice A n ca, .slice C n cc] w fun e w' => e = .returned (.bool true) ∧ Below w.heap.size w w' := by
  refine (SameBytes_ok A C n ca cc f g w hA hC hfg hn).mono ?_
  rintro e w' ⟨rfl, m, rfl⟩
  exact ⟨rfl, then_drewN (Below.refl _ _) m⟩
/-- A Reader of what a Writer's Bytes returned. -/
theorem NewReader_pad {A : Option Addr} {cap n : Nat} (l : List Bool) {w : World} (h : BRow w A n (M.byteOf l)) (hn : n = nbytes l) (hl : l.length ≤ 2000000) (hnil : A = none → n = 0 ∧ cap = 0) :
    Calls Try.prog 71 #[.slice A n cap] w fun e w' => ∃ br F, e = .returned (.pointer (some ⟨br, 0, none⟩)) ∧ ROk w' br F (pad l) 0 ∧ (∀ q, q ∈ br :: F → w.heap.size ≤ q) ∧ Below w.heap.size w w' := by
  refine NewReader_ok A n cap (pad l) w (by rw [byteOf_pad]; exact h) (by rw [pad_length, hn]) (by rw [hn]; unfold nbytes; omega) hnil
end Go.Proofs.Ytdekcilfkelhlaa
