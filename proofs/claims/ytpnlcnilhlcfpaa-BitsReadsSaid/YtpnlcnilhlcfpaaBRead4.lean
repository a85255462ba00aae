/- Reader: GetSigned, End. -/
import Derived.Test.YtpnlcnilhlcfpaaBRead3
set_option linter.unusedVariables false
namespace Go.Proofs.Ytpnlcnilhlcfpaa
open Go.RowKit
open M (bitsOf bitsOf_length codeBits codeBits_length zig zag numOf zeros codeA)

theorem getC_lt (k : Nat) (s : List Bool) (bad : Nat) (hk : k ≤ 30) : (getC k s bad).1 < 18446744073709551616 := by
  unfold getC
  split
  · simp
  · split
    · rename_i h
      have := (M.codeA_ok k s (codeA k s).2.2 (codeA k s).2.1 hk (by rw [← h])).1
      simpa using this
    · simp
/-- A word of 64 bits as an int. -/
def sOf (u : Nat) : Int := if u < 9223372036854775808 then (u : Int) else (u : Int) - 18446744073709551616
theorem wordOf_sOf {u : Nat} (h : u < 18446744073709551616) : wordOf (sOf u) = u := by unfold wordOf sOf; split <;> omega

theorem zag_val (V : Nat) (h : V < 18446744073709551616) : bits BinOp.xor IntKind.i64 ((V : Int) / 2) (wrap64 (-wrap64 (bits BinOp.and IntKind.u64 (V : Int) 1))) = sOf (zag V) := by
  have h1 : bits BinOp.and IntKind.u64 (V : Int) 1 = ((V % 2 : Nat) : Int) := by
    have := u64_and_nat V 1 h (by omega)
    rw [Nat.and_one_is_mod] at this
    exact this
  rw [h1]
  have e1 : wrap64 (-wrap64 ((V % 2 : Nat) : Int)) = -((V % 2 : Nat) : Int) := by unfold wrap64; omega
  rw [e1]
  show IntKind.i64.wrap ((BitVec.ofInt 64 ((V : Int) / 2) ^^^ BitVec.ofInt 64 (-((V % 2 : Nat) : Int))).toNat : Int) = _
  have e2 : (BitVec.ofInt 64 ((V : Int) / 2)).toNat = V / 2 := by rw [BitVec.toNat_ofInt]; omega
  unfold sOf zag
  rcases Nat.mod_two_eq_zero_or_one V with h2 | h2
  · rw [h2, if_pos rfl]
    have : BitVec.ofInt 64 (-((0 : Nat) : Int)) = 0#64 := rfl
    rw [this, BitVec.xor_zero, e2, if_pos (by omega), IntKind.wrap_i64]
    omega
  · have : BitVec.ofInt 64 (-((1 : Nat) : Int)) = BitVec.allOnes 64 := rfl
    rw [h2, if_neg (show ¬ (1 : Nat) = 0 by decide), this, BitVec.xor_allOnes, BitVec.toNat_not, e2, if_neg (by omega), IntKind.wrap_i64]
    omega

set_option maxHeartbeats 400000 in
theorem GetSigned_ok (br : Nat) (F : List Nat) (s : List Bool) (bad : Nat) (k : Nat) (w : World) (h : ROk w br F s bad) (hk : k ≤ 30) :
    Calls Try.prog 19 #[.pointer (some ⟨br, 0, none⟩), .int .i64 (k : Int)] w fun e w' => e = .returned (.tuple #[.int .i64 (sOf (zag (getC k s bad).1)), .int .i64 ((getC k s bad).2.1 : Nat)]) ∧ ROk w' br F (getC k s bad).2.2.1 (getC k s bad).2.2.2 ∧ Only br w w' := by
  have hc := GetCode_ok br F s bad k w h hk
  have hV := getC_lt k s bad hk
  generalize getC k s bad = r at *
  obtain ⟨V, E, t, b⟩ := r
  simp only at hc hV ⊢
  have H := Lib.hid hc
  clear hc h
  go_enter Try.func19, Try.ntmps19
  go_wp2_with fail
  refine H.out.mono ?_
  rintro e w' ⟨rfl, h1⟩
  have HQ := Lib.hid h1; clear h1
  go_wp2_with fail
  go_ret2
  exact ⟨ret2_congr (congrArg (Value.int .i64) (zag_val V hV)) rfl, HQ.out⟩

/-- What End says. -/
def endA (s : List Bool) (bad : Nat) : Nat := if bad ≠ 0 then bad else if s.length ≤ 7 ∧ numOf s = 0 then 0 else 181

theorem End_bad (br : Nat) (F : List Nat) (s : List Bool) (bad : Nat) (w : World) (h : ROk w br F s bad) (hb : bad ≠ 0) :
    Calls Try.prog 12 #[.pointer (some ⟨br, 0, none⟩)] w fun e w' => e = .returned (.int .i64 (bad : Nat)) ∧ ∃ m, w' = w.drewN m := by
  obtain ⟨bl, a, hr, hs⟩ := h
  obtain ⟨c0, c2, c3, hf⟩ := hr.bad_cell
  have hne : ((bad : Int) != 0) = true := by rw [bne_iff_ne]; omega
  have hne2 : (bad != 0) = true := by rw [bne_iff_ne]; omega
  clear hr hs hf c2 hb
  go_enter Try.func12, Try.ntmps12
  go_wp2_with fail
  go_ret
  exact ⟨rfl, 0, rfl⟩

set_option maxHeartbeats 400000 in
theorem End_ok (br : Nat) (F : List Nat) (s : List Bool) (w : World) (h : ROk w br F s 0) :
    Calls Try.prog 12 #[.pointer (some ⟨br, 0, none⟩)] w fun e w' => e = .returned (.int .i64 (endA s 0 : Nat)) ∧ ROk w' br F (if endA s 0 = 0 then s else []) (endA s 0) ∧ Only br w w' := by
  obtain ⟨bl, a, hr, hs⟩ := h.ok
  obtain ⟨c0, c2, c3, hf⟩ := hr.bad_cell
  have hal : a ≤ bl.length := by obtain ⟨A, n, cap, hb, hl, ha, _⟩ := hr; exact ha
  have hlen : s.length = bl.length - a := by rw [hs, List.length_drop]
  have hs8 := h.length
  have hc := fun (w' : World) h => rest_ok br F bl a 0 w' h
  rw [← hlen] at hc
  by_cases h7 : s.length ≤ 7
  · have hg := fun (w' : World) h => get_ok br F bl a s.length 0 w' h (by omega) (by omega)
    rw [← hs, List.take_length] at hg
    by_cases hn : numOf s = 0
    · have e : endA s 0 = 0 := by unfold endA; rw [if_neg (by simp), if_pos ⟨h7, hn⟩]
      rw [hn] at hg
      rw [e]
      have HE := Lib.hid (And.intro hc (And.intro hg (And.intro hr (And.intro hs hal))))
      have hd : decide ((7 : Int) < (s.length : Int)) = false := decide_eq_false (by omega)
      clear hc hg hr hn e hs hf hal hlen
      go_enter Try.func12, Try.ntmps12
      go_wp2_with fail
      refine (HE.out.1 _ HE.out.2.2.1).mono ?_
      rintro e w' ⟨rfl, m, rfl⟩
      go_wp2_with fail
      refine (HE.out.1 _ (HE.out.2.2.1.drewN m)).mono ?_
      rintro e w' ⟨rfl, m2, rfl⟩
      go_wp2_with fail
      refine (HE.out.2.1 _ (HE.out.2.2.1.drewN _)).mono ?_
      rintro e w2 ⟨rfl, h1, h2⟩
      obtain ⟨_, c2, _, hf⟩ := h1.bad_cell
      have f2 := hf 2
      have HQ := Lib.hid (And.intro h1 h2); clear h1 h2 hf
      go_wp2_with fail
      go_ret
      refine ⟨rfl, ⟨bl, a, HQ.out.1.set_at a HE.out.2.2.2.2, ?_⟩, ?_⟩
      · exact HE.out.2.2.2.1
      · exact HQ.out.2.drewN_left.setCell rfl _
    · have e : endA s 0 = 181 := by unfold endA; rw [if_neg (by simp), if_neg (fun h => hn h.2)]
      rw [e]
      have hne : (((numOf s : Nat) : Int) != 0) = true := by rw [bne_iff_ne]; omega
      have hne2 : (numOf s != 0) = true := by rw [bne_iff_ne]; omega
      have hlt : numOf s < 18446744073709551616 := by
        have := M.numOf_lt s
        have h2 : 2 ^ s.length ≤ 2 ^ 64 := Nat.pow_le_pow_right (by decide) (by omega)
        have e : (18446744073709551616 : Nat) = 2 ^ 64 := rfl
        omega
      generalize numOf s = N at *
      have HE := Lib.hid (And.intro hc (And.intro hg hr))
      have hd : decide ((7 : Int) < (s.length : Int)) = false := decide_eq_false (by omega)
      clear hc hg hr hn e hs hf hal hlen
      go_enter Try.func12, Try.ntmps12
      go_wp2_with fail
      refine (HE.out.1 _ HE.out.2.2).mono ?_
      rintro e w' ⟨rfl, m, rfl⟩
      go_wp2_with fail
      refine (HE.out.1 _ (HE.out.2.2.drewN m)).mono ?_
      rintro e w' ⟨rfl, m2, rfl⟩
      go_wp2_with fail
      refine (HE.out.2.1 _ (HE.out.2.2.drewN _)).mono ?_
      rintro e w2 ⟨rfl, h1, h2⟩
      obtain ⟨_, _, c3, hf⟩ := h1.bad_cell
      have f3 := hf 3
      have HQ := Lib.hid (And.intro h1 h2); clear h1 h2 hf
      go_wp2_with fail
      go_ret
      exact ⟨rfl, ⟨bl, _, HQ.out.1.set_bad 181, rfl⟩, HQ.out.2.drewN_left.setCell rfl _⟩
  · have e : endA s 0 = 181 := by unfold endA; rw [if_neg (by simp), if_neg (fun h => h7 h.1)]
    rw [e]
    have HE := Lib.hid (And.intro hc hr)
    have hd : decide ((7 : Int) < (s.length : Int)) = true := decide_eq_true (by omega)
    have f3 := hf 3
    clear hc hr e hs hf hal hlen
    go_enter Try.func12, Try.ntmps12
    go_wp2_with fail
    refine (HE.out.1 _ HE.out.2).mono ?_
    rintro e w' ⟨rfl, m, rfl⟩
    go_wp2_with fail
    go_ret
    exact ⟨rfl, ⟨bl, _, (HE.out.2.drewN m).set_bad 181, rfl⟩, ((Only.refl br _).drewN m).setCell rfl _⟩
end Go.Proofs.Ytpnlcnilhlcfpaa
