/- marchesref18.number: the number of a string of bits. -/
import Derived.Test.YtpnlcnilhlcfpaaBOps4
import Derived.Test.YtpnlcnilhlcfpaaBLaw
import Derived.Test.YtpnlcnilhlcfpaaBAwake
set_option linter.unusedVariables false
namespace Go.Proofs.Ytpnlcnilhlcfpaa
open Go.RowKit
open M (numOf numOf_snoc numOf_lt)

/-- n ints at offset o of a block, the bits of s from j on. -/
def BitsAt (w : World) (A : Option Addr) (s : List Bool) : Prop := ∀ i (h : i < s.length), ∃ b o, A = some ⟨b, o, none⟩ ∧ b < w.heap.size ∧ w.cell? ⟨b, o + i, none⟩ = some (.int .i64 ((s[i].toNat : Nat) : Int))
theorem BitsAt.below {w w' : World} {A : Option Addr} {s : List Bool} (h : BitsAt w A s) (k : Below w.heap.size w w') : BitsAt w' A s := fun i hi => by
  obtain ⟨b, o, e, hb, hc⟩ := h i hi
  exact ⟨b, o, e, Nat.lt_of_lt_of_le hb k.size, (k.cell (p := ⟨b, o + i, none⟩) hb).trans hc⟩
set_option maxRecDepth 100000 in
theorem number_run (w : World) (A : Option Addr) (s : List Bool) (cap : Nat) (hs : BitsAt w A s) (hl : s.length ≤ 64) :
    Calls Try.prog 37 #[.slice A s.length cap] w fun e w' => ∃ g, e = .returned (.pointer (some ⟨g, 0, none⟩)) ∧ NumAt w' w.heap.size g (numOf s) ∧ Below w.heap.size w w' := by
  have N := NewInt_b w 0 (Or.inl rfl)
  have HS := Lib.hid (And.intro hs hl); clear hs hl
  go_enter Try.func37, Try.ntmps37
  go_wp2_with fail
  refine N.mono ?_
  rintro e w1 ⟨g, rfl, h1, h2⟩
  have H1 := Lib.hid (And.intro h1 h2); clear h1 h2
  go_wp2_with fail
  go_loopg [4] s.length (fun gh iv wr => ∃ i : Nat, gh = s.length - i ∧ i ≤ s.length ∧ iv = .int .i64 (i : Nat) ∧ NumAt wr w.heap.size g (numOf (s.take i)) ∧ Below w.heap.size w wr)
  case atStart => exact ⟨0, rfl, Nat.zero_le _, rfl, by simpa [numOf] using H1.out.1, H1.out.2⟩
  case round =>
    obtain ⟨i, hgh, hi, rfl, hN, hB⟩ := hrel
    have HR := Lib.hid (And.intro hgh (And.intro hi (And.intro hN hB))); clear hgh hi hN hB
    by_cases hlt : i < s.length
    · have k0 : decide (i < s.length) = true := decide_eq_true hlt
      have hvl : numOf (s.take i) < 9223372036854775808 := by
        have a := numOf_lt (s.take i)
        have b : (s.take i).length ≤ 63 := by rw [List.length_take]; have := HS.out.2; omega
        have c : 2 ^ (s.take i).length ≤ 2 ^ 63 := Nat.pow_le_pow_right (by decide) b
        have d : (9223372036854775808 : Nat) = 2 ^ 63 := rfl
        omega
      obtain ⟨b, o, rfl, hb, hc⟩ := HS.out.1 i hlt
      obtain ⟨x, ex⟩ : ∃ x, s[i].toNat = x := ⟨_, rfl⟩
      have hx : x = 0 ∨ x = 1 := by rw [← ex]; cases s[i] <;> simp
      have ev : numOf (s.take (i + 1)) = 2 * numOf (s.take i) + x := by
        rw [List.take_add_one, List.getElem?_eq_getElem hlt]
        simp only [Option.toList]
        rw [numOf_snoc, ex]
      obtain ⟨hB0, A1, n1, c1, hi1, hs1⟩ := HR.out.2.2.1
      have L := int_lsh wr w.heap.size g g (2 * numOf (s.take i)) 1 n1 c1 n1 c1 A1 A1 hi1 hi1 hB0 (lsh1_any wr.drew w.heap.size (numOf (s.take i)) A1 n1 c1 hs1 HR.out.2.2.2.size hvl)
      rw [ex] at hc
      have HX := Lib.hid (And.intro hlt (And.intro hvl (And.intro hb (And.intro hx (And.intro ev hc))))); clear hlt hvl hb hx ev hi1 hs1 ex hc
      go_wp2_with fail
      refine L.mono ?_
      rintro e w2 ⟨rfl, r1, r2⟩
      have hc2 : w2.cell? ⟨b, o + i, none⟩ = some (.int .i64 (x : Nat)) := (((HR.out.2.2.2.trans r2).cell (p := ⟨b, o + i, none⟩) HX.out.2.2.1)).trans HX.out.2.2.2.2.2
      have i1 : (i : Int) < (s.length : Int) := by have := HX.out.1; omega
      have i2 : (0 : Int) ≤ (i : Int) := by omega
      have N2 := NewInt_b w2 x HX.out.2.2.2.1
      have H2 := Lib.hid (And.intro r1 r2); clear r1 r2 L
      go_wp2_with fail
      refine N2.mono ?_
      rintro e w3 ⟨g2, rfl, r1, r2⟩
      have hle : w.heap.size ≤ w2.heap.size := (HR.out.2.2.2.trans H2.out.2).size
      have M := int_add w3 w.heap.size g g2 (2 * numOf (s.take i)) x (H2.out.1.kept r2) (r1.mono hle) (H2.out.1.apart r2 r1) (by have := HX.out.2.1; omega) (Or.inl (by have := HX.out; omega)) (by have := r2.size; omega)
      have H3 := Lib.hid (And.intro r1 (And.intro r2 hle)); clear r1 r2 hle
      go_wp2_with fail
      refine M.mono ?_
      rintro e w4 ⟨rfl, r1, r2⟩
      have H4 := Lib.hid (And.intro r1 r2); clear r1 r2 M
      go_wp2_with fail
      go_roundg (s.length - (i + 1))
      case measure => have := HR.out.1; have := HX.out.1; omega
      case rel => exact ⟨i + 1, rfl, HX.out.1, by rw [show wrap64 ((i : Int) + 1) = ((i + 1 : Nat) : Int) from by have := HS.out.2; have := HX.out.1; unfold wrap64; omega], by rw [HX.out.2.2.2.2.1]; exact H4.out.1, HR.out.2.2.2.trans (H2.out.2.trans ((H3.out.2.1.mono H3.out.2.2).trans H4.out.2))⟩
    · have k0 : decide (i < s.length) = false := decide_eq_false hlt
      go_wp2_with fail
      go_ret
      refine ⟨g, rfl, ?_, HR.out.2.2.2⟩
      have h := HR.out.2.2.1
      rw [List.take_of_length_le (by omega)] at h
      exact h
end Go.Proofs.Ytpnlcnilhlcfpaa
