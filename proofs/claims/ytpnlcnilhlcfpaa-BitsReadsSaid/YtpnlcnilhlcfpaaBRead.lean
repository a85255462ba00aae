/- Reader: get, rest, number, code. -/
import Derived.Test.YtpnlcnilhlcfpaaBSigned
set_option linter.unusedVariables false
namespace Go.Proofs.Ytpnlcnilhlcfpaa
open Go.RowKit
open M (bitsOf bitsOf_length codeBits codeBits_length zig zag numOf)

/-- A slice of bytes that reads as bytes. -/
def BRow (w : World) (A : Option Addr) (n : Nat) (f : Nat → Nat) : Prop := ∀ i, i < n → ∃ ad, A = some ad ∧ w.cell? (ad.add i) = some (.int .u8 ((f i : Nat) : Int))
/-- A row of bytes of one's own, that nobody appends to. -/
def Row (w : World) (F : List Nat) (A : Option Addr) (n : Nat) (f : Nat → Nat) : Prop :=
  n = 0 ∨ ∃ g cur, A = some ⟨g, 0, none⟩ ∧ g ∈ F ∧ w.heap[g]? = some (.cells cur 5 (0, 0)) ∧ ∀ i, i < n → cur[i]? = some (.int .u8 ((f i : Nat) : Int))
theorem add_zero' (g i : Nat) : (Addr.add ⟨g, 0, none⟩ i) = ⟨g, i, none⟩ := by unfold Addr.add; split <;> simp_all
theorem Row.brow {w : World} {F : List Nat} {A : Option Addr} {n : Nat} {f : Nat → Nat} (h : Row w F A n f) : BRow w A n f := by
  intro i hi
  rcases h with rfl | ⟨g, cur, rfl, _, hh, hc⟩
  · omega
  · exact ⟨_, rfl, by rw [add_zero', cell_of_block hh i]; exact hc i hi⟩
theorem Row.same {w w' : World} {F : List Nat} {A : Option Addr} {n : Nat} {f : Nat → Nat} (h : Row w F A n f) (hk : ∀ q, q ∈ F → w'.heap[q]? = w.heap[q]?) : Row w' F A n f := by
  rcases h with h | ⟨g, cur, e, hg, hh, hc⟩
  · exact Or.inl h
  · exact Or.inr ⟨g, cur, e, hg, (hk g hg).trans hh, hc⟩

/-- A Reader at block br of the bits bl: it stands before bit number at, and has failed with bad unless that is 0. -/
def RAt (w : World) (br : Nat) (F : List Nat) (bl : List Bool) (at_ : Nat) (bad : Int) : Prop :=
  ∃ A n cap, w.heap[br]? = some (.cells #[.bool true, .slice A n cap, .int .i64 (at_ : Nat), .int .i64 bad] 49 (0, 0)) ∧ bl.length = 8 * n ∧ at_ ≤ bl.length ∧ n ≤ 1000000 ∧ br ∉ F ∧ (∀ q, q ∈ F → q < w.heap.size) ∧ Row w F A n (M.byteOf bl)
theorem RAt.lt {w : World} {br : Nat} {F : List Nat} {bl : List Bool} {at_ : Nat} {bad : Int} (h : RAt w br F bl at_ bad) : ∀ q, q ∈ br :: F → q < w.heap.size := by
  obtain ⟨A, n, cap, hb, _, _, _, _, hF, _⟩ := h
  intro q hq
  rcases List.mem_cons.1 hq with rfl | h1
  · exact lt_of_block hb
  · exact hF q h1
theorem RAt.same {w w' : World} {br : Nat} {F : List Nat} {bl : List Bool} {at_ : Nat} {bad : Int} (h : RAt w br F bl at_ bad) (hk : ∀ q, q ∈ br :: F → w'.heap[q]? = w.heap[q]?) (hs : w.heap.size ≤ w'.heap.size) : RAt w' br F bl at_ bad := by
  obtain ⟨A, n, cap, hb, h1, h2, h3, h4, hF, hr⟩ := h
  exact ⟨A, n, cap, (hk br (by simp)).trans hb, h1, h2, h3, h4, fun q hq => Nat.lt_of_lt_of_le (hF q hq) hs, hr.same fun q hq => hk q (by simp [hq])⟩
theorem RAt.keep {w w' : World} {br : Nat} {F G G' : List Nat} {bl : List Bool} {at_ : Nat} {bad : Int} (h : RAt w br F bl at_ bad) (fr : Fr G w G' w') (hd : ∀ q, q ∈ br :: F → q ∉ G) : RAt w' br F bl at_ bad :=
  h.same (fun q hq => fr.block q (h.lt q hq) (hd q hq)) fr.size
theorem RAt.below {w w' : World} {br : Nat} {F : List Nat} {bl : List Bool} {at_ : Nat} {bad : Int} (h : RAt w br F bl at_ bad) (hb : Below w.heap.size w w') : RAt w' br F bl at_ bad :=
  h.same (fun q hq => hb.block q (h.lt q hq)) hb.size
theorem RAt.drewN {w : World} {br : Nat} {F : List Nat} {bl : List Bool} {at_ : Nat} {bad : Int} (h : RAt w br F bl at_ bad) (n : Nat) : RAt (w.drewN n) br F bl at_ bad := h
/-- A cell of the Reader is written. -/
theorem RAt.set_at {w : World} {br : Nat} {F : List Nat} {bl : List Bool} {at_ : Nat} {bad : Int} (h : RAt w br F bl at_ bad) (a : Nat) (ha : a ≤ bl.length) : RAt (w.setCell ⟨br, 2, none⟩ (.int .i64 (a : Nat))) br F bl a bad := by
  obtain ⟨A, n, cap, hb, h1, h2, h3, h4, hF, hr⟩ := h
  refine ⟨A, n, cap, by simpa using block_setCell hb 2 (.int .i64 (a : Nat)), h1, ha, h3, h4, fun q hq => by simpa [World.setCell] using hF q hq, hr.same fun q hq => Below.heap_setCell _ _ _ _ (fun e => h4 (by cases e; exact hq))⟩
theorem RAt.set_bad {w : World} {br : Nat} {F : List Nat} {bl : List Bool} {at_ : Nat} {bad : Int} (h : RAt w br F bl at_ bad) (e : Int) : RAt (w.setCell ⟨br, 3, none⟩ (.int .i64 e)) br F bl at_ e := by
  obtain ⟨A, n, cap, hb, h1, h2, h3, h4, hF, hr⟩ := h
  refine ⟨A, n, cap, by simpa using block_setCell hb 3 (.int .i64 e), h1, h2, h3, h4, fun q hq => by simpa [World.setCell] using hF q hq, hr.same fun q hq => Below.heap_setCell _ _ _ _ (fun e => h4 (by cases e; exact hq))⟩

namespace M
theorem byte8_0 (a b c d e f g h : Bool) : byte8 a b c d e f g h / 128 % 2 = a.toNat := by cases a <;> cases b <;> cases c <;> cases d <;> cases e <;> cases f <;> cases g <;> cases h <;> decide
theorem byte8_1 (a b c d e f g h : Bool) : byte8 a b c d e f g h / 64 % 2 = b.toNat := by cases a <;> cases b <;> cases c <;> cases d <;> cases e <;> cases f <;> cases g <;> cases h <;> decide
theorem byte8_2 (a b c d e f g h : Bool) : byte8 a b c d e f g h / 32 % 2 = c.toNat := by cases a <;> cases b <;> cases c <;> cases d <;> cases e <;> cases f <;> cases g <;> cases h <;> decide
theorem byte8_3 (a b c d e f g h : Bool) : byte8 a b c d e f g h / 16 % 2 = d.toNat := by cases a <;> cases b <;> cases c <;> cases d <;> cases e <;> cases f <;> cases g <;> cases h <;> decide
theorem byte8_4 (a b c d e f g h : Bool) : byte8 a b c d e f g h / 8 % 2 = e.toNat := by cases a <;> cases b <;> cases c <;> cases d <;> cases e <;> cases f <;> cases g <;> cases h <;> decide
theorem byte8_5 (a b c d e f g h : Bool) : byte8 a b c d e f g h / 4 % 2 = f.toNat := by cases a <;> cases b <;> cases c <;> cases d <;> cases e <;> cases f <;> cases g <;> cases h <;> decide
theorem byte8_6 (a b c d e f g h : Bool) : byte8 a b c d e f g h / 2 % 2 = g.toNat := by cases a <;> cases b <;> cases c <;> cases d <;> cases e <;> cases f <;> cases g <;> cases h <;> decide
theorem byte8_7 (a b c d e f g h : Bool) : byte8 a b c d e f g h / 1 % 2 = h.toNat := by cases a <;> cases b <;> cases c <;> cases d <;> cases e <;> cases f <;> cases g <;> cases h <;> decide
theorem byteOf_bit (l : List Bool) (m : Nat) : byteOf l (m / 8) / 2 ^ (7 - m % 8) % 2 = (l.getD m false).toNat := by
  obtain ⟨i, p, hp, rfl⟩ : ∃ i p, p < 8 ∧ m = 8 * i + p := ⟨m / 8, m % 8, by omega, by omega⟩
  rw [show (8 * i + p) / 8 = i from by omega, show (8 * i + p) % 8 = p from by omega]
  unfold byteOf
  rcases (show p = 0 ∨ p = 1 ∨ p = 2 ∨ p = 3 ∨ p = 4 ∨ p = 5 ∨ p = 6 ∨ p = 7 from by omega) with rfl | rfl | rfl | rfl | rfl | rfl | rfl | rfl
  · exact byte8_0 _ _ _ _ _ _ _ _
  · exact byte8_1 _ _ _ _ _ _ _ _
  · exact byte8_2 _ _ _ _ _ _ _ _
  · exact byte8_3 _ _ _ _ _ _ _ _
  · exact byte8_4 _ _ _ _ _ _ _ _
  · exact byte8_5 _ _ _ _ _ _ _ _
  · exact byte8_6 _ _ _ _ _ _ _ _
  · exact byte8_7 _ _ _ _ _ _ _ _
theorem take_one_more {l : List Bool} {a j : Nat} (h : a + j < l.length) : (l.drop a).take (j + 1) = (l.drop a).take j ++ [l.getD (a + j) false] := by
  rw [List.take_succ_eq_append_getElem (by rw [List.length_drop]; omega)]
  congr 2
  rw [List.getElem_drop, List.getD_eq_getElem?_getD, List.getElem?_eq_getElem h]
  rfl
end M

theorem u8_and_one (x : Nat) (h : x < 256) : bits .and .u8 (x : Int) 1 = ((x % 2 : Nat) : Int) := by
  have := u8_and_nat x 1 h (by omega)
  rw [Nat.and_one_is_mod] at this
  exact this
theorem get_val (l : List Bool) (m x : Nat) (hx : x < 9223372036854775808) :
    bits .or .u64 ((x : Int) * 2) (IntKind.u64.wrap (bits .and .u8 ((M.byteOf l (m / 8) : Nat) / (2 : Int) ^ (7 - m % 8)) 1)) = ((2 * x + (l.getD m false).toNat : Nat) : Int) := by
  have hb := M.byteOf_lt l (m / 8)
  have := Bool.toNat_lt (l.getD m false)
  rw [show ((M.byteOf l (m / 8) : Nat) / (2 : Int) ^ (7 - m % 8)) = (((M.byteOf l (m / 8) / 2 ^ (7 - m % 8) : Nat)) : Int) from by rw [Int.natCast_ediv, Int.natCast_pow]; rfl]
  rw [u8_and_one _ (Nat.lt_of_le_of_lt (Nat.div_le_self _ _) hb), M.byteOf_bit, Bv.wrap_in (by omega) (by omega), show ((x : Int) * 2) = ((2 * x : Nat) : Int) from by omega, u64_or_nat _ _ (by omega) (by omega)]
  congr 1
  cases l.getD m false
  · simp
  · show 2 * x ||| 1 = 2 * x + 1
    apply Nat.eq_of_testBit_eq
    intro i
    rw [Nat.testBit_or]
    cases i with
    | zero => simp [Nat.testBit_zero]
    | succ i => rw [Nat.testBit_succ, Nat.testBit_succ, Nat.testBit_succ, show (2 * x + 1) / 2 = x from by omega, show 2 * x / 2 = x from by omega]; simp

set_option maxRecDepth 100000 in
theorem get_ok (br : Nat) (F : List Nat) (bl : List Bool) (a k : Nat) (bad : Int) (w : World) (h : RAt w br F bl a bad) (hk : a + k ≤ bl.length) (hk2 : k ≤ 64) :
    Calls Try.prog 24 #[.pointer (some ⟨br, 0, none⟩), .int .i64 (k : Int)] w fun e w' => e = .returned (.int .u64 (numOf ((bl.drop a).take k) : Nat)) ∧ RAt w' br F bl (a + k) bad ∧ Only br w w' := by
  have HW := Lib.hid h; clear h
  go_enter Try.func24, Try.ntmps24
  go_wp2_with fail
  go_loopg [5, 7] k (fun gh x i wr => ∃ j X : Nat, gh = k - j ∧ j ≤ k ∧ i = .int .i64 j ∧ x = .int .u64 X ∧ (X = numOf ((bl.drop a).take j) ∧ RAt wr br F bl (a + j) bad ∧ Only br w wr))
  case atStart => exact ⟨0, 0, rfl, by omega, rfl, rfl, rfl, HW.out, Only.refl _ _⟩
  case round =>
    obtain ⟨j, X, hgh, hj, rfl, rfl, hX, hr, ho⟩ := hrel
    have Hgh := Lib.hid hgh; clear hgh
    by_cases hlt : j < k
    · have HR := Lib.hid (And.intro hX (And.intro hr ho))
      have hXb : X < 2 ^ j := by
        rw [hX]
        refine Nat.lt_of_lt_of_le (M.numOf_lt _) (Nat.pow_le_pow_right (by decide) ?_)
        rw [List.length_take]; omega
      have hX63 : X < 9223372036854775808 := by
        have : 2 ^ j ≤ 2 ^ 63 := Nat.pow_le_pow_right (by decide) (by omega)
        have e : (9223372036854775808 : Nat) = 2 ^ 63 := rfl
        omega
      obtain ⟨A, n, cap, hb, hl, ha, hn, hnF, hF, hrow⟩ := hr
      rcases hrow with h0 | ⟨g, cur, rfl, hg, hh, hcur⟩
      · omega
      have hcc := (cell_of_block hh ((a + j) / 8)).trans (hcur ((a + j) / 8) (by omega))
      have c1 := (cell_of_block hb 1).trans rfl
      have c2 := (cell_of_block hb 2).trans rfl
      have f2 := free_of_block hb 2
      have hv := get_val bl (a + j) X hX63
      have hbt := M.byteOf_lt bl ((a + j) / 8)
      obtain ⟨L, hL⟩ : ∃ L, L = a + j := ⟨_, rfl⟩
      rw [← hL] at hcc c2 hv hbt
      obtain ⟨by_, hby⟩ : ∃ q, q = M.byteOf bl (L / 8) := ⟨_, rfl⟩
      rw [← hby] at hcc hv hbt
      have hLn : L < 8 * n := by omega
      have HS := Lib.hid (And.intro hL (And.intro hv hby))
      have i1 : (0 : Int) ≤ ((L / 8 : Nat) : Int) := by omega
      have i2 : ((L / 8 : Nat) : Int) < (n : Int) := by omega
      have s1 : IntKind.i64.wrap (7 - (L : Int) % 8) = 7 - (L : Int) % 8 := Go.IntWalk.i64_in _ (by omega)
      have s2 : (0 : Int) ≤ 7 - (L : Int) % 8 := by omega
      clear hL hv hby hb hl ha hh hcur hX hXb ho hg hF hnF
      go_wp2_with fail
      go_quiet (fail)
      rw [HS.out.2.1]
      obtain ⟨X', hX'⟩ : ∃ q, q = 2 * X + (bl.getD L false).toNat := ⟨_, rfl⟩
      rw [← hX']
      have HX := Lib.hid hX'; clear hX'
      go_wp2
      go_roundg (k - (j + 1))
      case measure => have := Hgh.out; omega
      case rel =>
        refine ⟨j + 1, X', rfl, by omega, rfl, rfl, ?_, ?_, ?_⟩
        · rw [M.take_one_more (by omega), M.numOf_snoc, ← HR.out.1, HX.out, HS.out.1]
        · have h1 := (HR.out.2.1.drewN nq).set_at (a + (j + 1)) (by omega)
          rw [show ((a + (j + 1) : Nat) : Int) = (L : Int) + 1 from by have := HS.out.1; omega] at h1
          exact h1
        · exact (HR.out.2.2.drewN nq).setCell rfl _
    · have hjk : j = k := by omega
      subst hjk
      have HR := Lib.hid (And.intro hX (And.intro hr ho))
      clear hX hr ho
      go_wp2_with fail
      go_ret
      exact ⟨ret_congr (congrArg (fun q : Nat => Value.int .u64 q) HR.out.1), HR.out.2⟩
end Go.Proofs.Ytpnlcnilhlcfpaa
