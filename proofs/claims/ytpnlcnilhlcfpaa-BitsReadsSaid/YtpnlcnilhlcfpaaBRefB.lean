/- marchesref18.Bits: the bits of bytes. -/
import Derived.Test.YtpnlcnilhlcfpaaBPort
set_option linter.unusedVariables false
namespace Go.Proofs.Ytpnlcnilhlcfpaa
open Go.RowKit

def bitsTo (n : Nat) (f : Nat → Nat) (t : Nat) : List Nat := (List.range t).map (inBit n f)
theorem bitsTo_succ (n : Nat) (f : Nat → Nat) (t : Nat) : bitsTo n f (t + 1) = bitsTo n f t ++ [inBit n f t] := by unfold bitsTo; rw [List.range_succ, List.map_append]; rfl
theorem bitsTo_all (n : Nat) (f : Nat → Nat) : bitsTo n f (8 * n) = leftL n f 0 := by
  unfold bitsTo leftL; simp only [Nat.zero_add, Nat.sub_zero]
theorem inBit_at {n i k : Nat} {f : Nat → Nat} (hi : i < n) (hk : k < 8) : inBit n f (8 * i + (7 - k)) = f i / 2 ^ k % 2 := by
  unfold inBit
  rw [if_pos (by omega), show (8 * i + (7 - k)) / 8 = i from by omega, show 7 - (8 * i + (7 - k)) % 8 = k from by omega]
theorem ofInt_64n (a : Nat) (ha : a < 18446744073709551616) : (BitVec.ofInt 64 (a : Int)).toNat = a := by
  rw [BitVec.ofInt_natCast, BitVec.toNat_ofNat]; exact Nat.mod_eq_of_lt (by omega)
theorem i64_and_nat (a b : Nat) (ha : a < 9223372036854775808) (hb : b < 9223372036854775808) : bits .and .i64 (a : Int) (b : Int) = ((a &&& b : Nat) : Int) := by
  have hx : a &&& b < 2 ^ 63 := Nat.and_lt_two_pow _ (by omega)
  show IntKind.i64.wrap ((BitVec.ofInt 64 (a : Int) &&& BitVec.ofInt 64 (b : Int)).toNat : Int) = _
  rw [BitVec.toNat_and, ofInt_64n a (by omega), ofInt_64n b (by omega)]
  exact IntWalk.i64_in _ (by omega)
theorem shr_and (x k b : Nat) (hx : x < 256) (hb : x / 2 ^ k % 2 = b) : bits .and .i64 (wrap64 ((x : Int) / 2 ^ k)) 1 = (b : Int) := by
  have e : (x : Int) / 2 ^ k = ((x / 2 ^ k : Nat) : Int) := by rw [Int.natCast_ediv, Int.natCast_pow]; rfl
  have hl : x / 2 ^ k < 256 := Nat.lt_of_le_of_lt (Nat.div_le_self _ _) hx
  rw [e]
  subst hb
  generalize x / 2 ^ k = q at hl
  have h2 : wrap64 (q : Int) = (q : Int) := by unfold wrap64; omega
  rw [h2, ← Nat.and_one_is_mod]
  exact i64_and_nat q 1 (by omega) (by omega)
set_option maxRecDepth 100000 in
set_option maxHeartbeats 2000000 in
theorem Bits_ok {A : Option Addr} {n cap : Nat} {f : Nat → Nat} (w : World) (h : BRow w A n f) (hby : ∀ i, i < n → f i < 256) (hn : n ≤ 1000) :
    Calls Try.prog 6 #[.slice A n cap] w fun e w' => ∃ A' cap', e = .returned (.slice A' (8 * n) cap') ∧ LRow w' A' (8 * n) (leftL n f 0) ∧ (∀ ad, A' = some ad → w.heap.size ≤ ad.block ∧ ad.block < w'.heap.size ∧ ∃ g, ad = ⟨g, 0, none⟩) ∧ (A' = none → 8 * n = 0 ∧ cap' = 0) ∧ (8 * n ≤ cap' ∧ cap' ≤ maxLen) ∧ Below w.heap.size w w' := by
  obtain ⟨i0, hi1, hz0, hz1, hz2⟩ := info_parts info3'
  have HI := Lib.hid (And.intro hi1 (And.intro hz0 (And.intro hz1 hz2))); clear hi1 hz0 hz1 hz2
  have H := Lib.hid (And.intro h hby); clear h hby
  go_enter Try.func6, Try.ntmps6
  go_wp2_with fail
  go_loopg [3, 4] n (fun gh ov iv wr => ∃ i : Nat, gh = n - i ∧ i ≤ n ∧ iv = .int .i64 (i : Nat) ∧ (wr.ownsRow w.heap.size 3 1 ov (8 * i) (intsL (bitsTo n f (8 * i))) ∧ Below w.heap.size w wr))
  case atStart => exact ⟨0, rfl, by omega, rfl, World.ownsRow_nil _ _ _ _, Below.refl _ _⟩
  case round =>
    obtain ⟨i, hgh, hi, rfl, hR⟩ := hrel
    have Hgh := Lib.hid hgh; clear hgh
    have HR := Lib.hid hR; clear hR
    by_cases hlt : i < n
    · obtain ⟨ad, rfl, hc0⟩ := H.out.1 i hlt
      have hx := H.out.2 i hlt
      have hbk := fun k hk => inBit_at (f := f) (k := k) hlt hk
      obtain ⟨x, ex⟩ : ∃ x, x = f i := ⟨_, rfl⟩
      rw [← ex] at hc0 hx hbk
      clear ex
      have HX := Lib.hid (And.intro hc0 hbk); clear hc0 hbk
      go_wp2_with fail
      go_loopg [3, 5] 8 (fun gh ov kv wr => ∃ (m : Nat) (z : Int), gh = m ∧ m ≤ 8 ∧ kv = .int .i64 z ∧ ((0 ≤ z ∧ z = m - 1) ∨ (z < 0 ∧ m = 0)) ∧ -1 ≤ z ∧ (wr.ownsRow w.heap.size 3 1 ov (8 * i + (8 - m)) (intsL (bitsTo n f (8 * i + (8 - m)))) ∧ Below w.heap.size w wr))
      case atStart => exact ⟨8, 7, rfl, by omega, rfl, by omega, by omega, HR.out⟩
      case round =>
        obtain ⟨m, z, hgh2, hm, rfl, hz, hz2, hR2⟩ := hrel
        have Hgh2 := Lib.hid hgh2; clear hgh2
        have HR2 := Lib.hid hR2; clear hR2
        by_cases h0 : 0 ≤ z
        · obtain ⟨k, rfl⟩ : ∃ k : Nat, z = (k : Int) := ⟨z.toNat, by omega⟩
          obtain rfl : m = k + 1 := by omega
          clear hz hz2 h0
          have hc := HX.out.1
          have hc2 : wr.cell? (ad.add i) = some (.int .u8 (x : Nat)) := (HR2.out.2.cell (p := ad.add i) (World.block_lt_of_cell? w _ hc)).trans hc
          have hown := HR2.out.1
          rw [show 8 - (k + 1) = 7 - k from by omega] at hown
          have hbit := HX.out.2 k (by omega)
          obtain ⟨b, eb⟩ : ∃ b, b = inBit n f (8 * i + (7 - k)) := ⟨_, rfl⟩
          have hand := shr_and x k b hx (by rw [← hbit, eb])
          have hnext := bitsTo_succ n f (8 * i + (7 - k))
          rw [← eb] at hnext
          have HB := Lib.hid (And.intro hown (And.intro hand hnext)); clear hown hbit eb hand hnext
          have i1 : (0 : Int) ≤ (i : Nat) := by omega
          have i2 : ((i : Nat) : Int) < (n : Nat) := by omega
          clear hc
          go_wp2_with (at_builtin; refine wpList_append_own_at _ rfl (.tmp 16) (.tmp 25) 27 rfl w.heap.size 3 i0 (.int .i64 0) 1 8 Try.underlying27 HI.out.1 HI.out.2.1 HI.out.2.2.1 HI.out.2.2.2 rfl (by decide) _ _ _ rfl (HB.out.1.alloc _) ⟨wr.heap.size, 0, none⟩ 1 1 (intsL [b]) rfl ?c0 ?c1 ?c2 ?c3 ?c4 ?c5 ?_)
          case c0 => simp [intsL]
          case c1 => first | exact ints1 _ _ _ | (rw [HB.out.2.1]; exact ints1 _ _ _)
          case c2 => exact intsL_one _
          case c3 => unfold maxLen; omega
          case c4 => omega
          case c5 => have := HR2.out.2.size; simp; omega
          intro v5 w5 hown5 hg5 _ hat5
          rw [intsL_append, ← HB.out.2.2] at hown5
          have hb5 : Below w.heap.size w w5 := (then_alloc HR2.out.2 _).grown hg5 (by have := HR2.out.2.size; simp; omega) (fun q hq => (own_lt HB.out.1 hq).2)
          have H5 := Lib.hid (And.intro hown5 hb5); clear hown5 hb5 hg5 hat5
          go_wp2_with fail
          go_roundg k
          case measure => have := Hgh2.out; omega
          case rel =>
            refine ⟨k, (k : Int) - 1, rfl, by omega, rfl, by omega, by omega, ?_, H5.out.2⟩
            have := H5.out.1
            rw [show 8 * i + (8 - k) = 8 * i + (7 - k) + 1 from by omega]
            exact this
        · obtain rfl : m = 0 := by omega
          have hz3 : z < 0 := by omega
          clear h0 hz
          go_wp2_with fail
          go_roundg (n - (i + 1))
          case measure => have := Hgh.out; omega
          case rel =>
            refine ⟨i + 1, rfl, by omega, by go_num, ?_, HR2.out.2⟩
            have := HR2.out.1
            exact this
    · obtain rfl : i = n := by omega
      clear hlt hi
      go_wp2_with fail
      go_ret
      obtain ⟨A', c', rfl, h1, h2, h3, h4, h5⟩ := lrow_of_own HR.out.1
      rw [bitsTo_all] at h1
      exact ⟨A', c', rfl, h1, h2, h3, ⟨h4, h5⟩, HR.out.2⟩
end Go.Proofs.Ytpnlcnilhlcfpaa
