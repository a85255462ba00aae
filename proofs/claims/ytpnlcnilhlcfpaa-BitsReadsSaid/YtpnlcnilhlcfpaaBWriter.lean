/- Writer: room, Put, PutCode, PutSigned, Len. -/
import Derived.Test.YtpnlcnilhlcfpaaBFrame
set_option linter.unusedVariables false
namespace Go.Proofs.Ytpnlcnilhlcfpaa
open Go.RowKit
open M (bitsOf bitsOf_length codeBits codeBits_length)

theorem WOk.cells {w : World} {B bw : Nat} {F : List Nat} {l : List Bool} (h : WOk w B bw F l) : w.cell? ⟨bw, 1, none⟩ = some (.int .i64 (l.length : Nat)) := by
  obtain ⟨v, ⟨hb, ho⟩, rfl, hB⟩ := h
  exact (cell_of_block hb 1).trans rfl

theorem room_ok (B bw : Nat) (F : List Nat) (l : List Bool) (k : Int) (w : World) (h : WOk w B bw F l) (k0 : 0 ≤ k) (hl : (l.length : Int) + k ≤ 1048576) :
    Calls Try.prog 43 #[.pointer (some ⟨bw, 0, none⟩), .int .i64 k] w fun e w' => e = .returned (.int .i64 0) ∧ w = w' := by
  have hc := h.cells
  clear h
  go_enter Try.func43, Try.ntmps43
  go_wp2_with fail
  go_ret
  exact ⟨rfl, rfl⟩
theorem room_full (B bw : Nat) (F : List Nat) (l : List Bool) (k : Int) (w : World) (h : WOk w B bw F l) (k0 : 0 ≤ k) (k1 : k ≤ 1000000) (hl0 : l.length ≤ 1048576) (hl : 1048576 < (l.length : Int) + k) :
    Calls Try.prog 43 #[.pointer (some ⟨bw, 0, none⟩), .int .i64 k] w fun e w' => e = .returned (.int .i64 4) ∧ w = w' := by
  have hc := h.cells
  clear h
  go_enter Try.func43, Try.ntmps43
  go_wp2_with fail
  go_ret
  exact ⟨rfl, rfl⟩

theorem Put_ok (B bw : Nat) (F : List Nat) (l : List Bool) (n k : Nat) (w : World) (h : WOk w B bw F l) (hB : B ≤ w.heap.size) (hl : l.length + k ≤ 1048576) (hk : k ≤ 64) (hn : n < 2 ^ k) :
    Calls Try.prog 25 #[.pointer (some ⟨bw, 0, none⟩), .int .u64 (n : Int), .int .i64 (k : Int)] w fun e w' => e = .returned (.int .i64 0) ∧ ∃ F', WOk w' B bw F' (l ++ bitsOf n k) ∧ Fr F w F' w' := by
  have h64 : n < 18446744073709551616 := by
    have : 2 ^ k ≤ 2 ^ 64 := Nat.pow_le_pow_right (by decide) hk
    have e : (18446744073709551616 : Nat) = 2 ^ 64 := rfl
    omega
  have hr := room_ok B bw F l k w h (by omega) (by omega)
  have hp := put_ok B bw F l n k w h hB (by omega) hk h64
  have H := Lib.hid (And.intro hr hp)
  have hz : (n : Int) / 2 ^ k = 0 := by
    rw [show ((2 : Int) ^ k) = ((2 ^ k : Nat) : Int) from (Int.natCast_pow 2 k).symm, ← Int.natCast_ediv, Nat.div_eq_of_lt hn]; rfl
  clear h hB hr hp hn
  rcases Nat.lt_or_ge k 64 with h1 | h1
  · go_enter Try.func25, Try.ntmps25
    go_wp2_with fail
    refine H.out.1.mono ?_
    rintro e w' ⟨rfl, rfl⟩
    go_wp2_with fail
    refine H.out.2.mono ?_
    rintro e w' ⟨rfl, hq⟩
    have HQ := Lib.hid hq; clear hq
    go_wp2_with fail
    go_ret
    exact ⟨rfl, HQ.out⟩
  · have e : k = 64 := by omega
    subst e
    clear hz
    go_enter Try.func25, Try.ntmps25
    go_wp2_with fail
    refine H.out.1.mono ?_
    rintro e w' ⟨rfl, rfl⟩
    go_wp2_with fail
    refine H.out.2.mono ?_
    rintro e w' ⟨rfl, hq⟩
    have HQ := Lib.hid hq; clear hq
    go_wp2_with fail
    go_ret
    exact ⟨rfl, HQ.out⟩

theorem put_at (B bw : Nat) (F : List Nat) (l : List Bool) (n k : Int) (w : World) (h : WOk w B bw F l) (hB : B ≤ w.heap.size) (k0 : 0 ≤ k) (hl : (l.length : Int) + k ≤ 2000000) (hk : k ≤ 64) (n0 : 0 ≤ n) (hn : n < 18446744073709551616) :
    Calls Try.prog 44 #[.pointer (some ⟨bw, 0, none⟩), .int .u64 n, .int .i64 k] w fun e w' => e = .returned (.tuple #[]) ∧ ∃ F', WOk w' B bw F' (l ++ bitsOf n.toNat k.toNat) ∧ Fr F w F' w' := by
  obtain ⟨N, rfl⟩ := Int.eq_ofNat_of_zero_le n0
  obtain ⟨K, rfl⟩ := Int.eq_ofNat_of_zero_le k0
  exact put_ok B bw F l N K w h hB (by omega) (by omega) (by omega)

theorem WOk.call {w w' : World} {B bw : Nat} {F F' : List Nat} {l m : List Bool} {n : Nat} (h : WOk w' B bw F' m) (e : m = l) : WOk w' B bw F' l := e ▸ h

set_option maxHeartbeats 400000 in
theorem PutCode_ok (B bw : Nat) (F : List Nat) (l : List Bool) (n k : Nat) (w : World) (h : WOk w B bw F l) (hB : B ≤ w.heap.size) (hk : k ≤ 30) (hn : n < 18446744073709551616) (hl : l.length + costN n k ≤ 1048576) :
    Calls Try.prog 26 #[.pointer (some ⟨bw, 0, none⟩), .int .u64 (n : Int), .int .i64 (k : Int)] w fun e w' => e = .returned (.int .i64 0) ∧ ∃ F', WOk w' B bw F' (l ++ codeBits n k) ∧ Fr F w F' w' := by
  obtain ⟨c1, c2, c3, c4⟩ := M.cq_bd n k (by simpa using hn) hk
  have cl := M.cr_lt n k (by simpa using hn) hk
  have h64 : M.cr n k < 18446744073709551616 := by
    have : 2 ^ (M.cq n k + k) ≤ 2 ^ 64 := Nat.pow_le_pow_right (by decide) c2
    have e : (18446744073709551616 : Nat) = 2 ^ 64 := rfl
    omega
  have hcost := Cost_calls n k w hn hk
  have hcode := fun w => code_calls n k w hn hk
  have hroom := fun (m : Nat) => room_ok B bw F l (costN n k : Nat) (w.drewN m) (h.drewN m) (by omega) (by omega)
  have hcb : codeBits n k = bitsOf 0 (M.cq n k) ++ ([true] ++ bitsOf (M.cr n k) (M.cq n k + k)) := rfl
  have hc3 : costN n k = 2 * M.cq n k + k + 1 := rfl
  rw [hcb]
  rw [hc3] at hl
  generalize costN n k = C at hcost hroom
  generalize M.cq n k = q at *
  generalize M.cr n k = r at *
  have hq65 : q ≤ 64 := by omega
  have H := Lib.hid (And.intro hcost (And.intro hcode (And.intro hroom (And.intro h hB))))
  have hL : l.length ≤ 1048576 := by omega
  clear hcost hcode hroom hcb hc3 c1 c3 c4 cl h hB
  go_enter Try.func26, Try.ntmps26
  go_wp2_with fail
  refine H.out.1.mono ?_
  rintro e w' ⟨rfl, m, rfl⟩
  go_wp2_with fail
  refine (H.out.2.2.1 m).mono ?_
  rintro e w' ⟨rfl, rfl⟩
  go_wp2_with fail
  refine (H.out.2.1 _).mono ?_
  rintro e w' ⟨rfl, m2, rfl⟩
  go_wp2_with fail
  refine (put_at B bw F l 0 q _ (H.out.2.2.2.1.drewN _) H.out.2.2.2.2 (by omega) (by omega) (by omega) (by omega) (by omega)).mono ?_
  rintro e w2 ⟨rfl, F2, h2, fr2⟩
  have H2 := Lib.hid (And.intro h2 fr2); clear h2 fr2
  go_wp2_with fail
  refine (put_at B bw F2 _ 1 1 _ H2.out.1 (Nat.le_trans H.out.2.2.2.2 H2.out.2.size) (by omega) (by rw [List.length_append, bitsOf_length]; simp; omega) (by omega) (by omega) (by omega)).mono ?_
  rintro e w3 ⟨rfl, F3, h3, fr3⟩
  have H3 := Lib.hid (And.intro h3 (H2.out.2.trans fr3)); clear h3 fr3
  go_wp2_with fail
  refine (put_at B bw F3 _ r ((q : Int) + k) _ H3.out.1 (Nat.le_trans H.out.2.2.2.2 H3.out.2.size) (by omega) (by simp only [List.length_append, bitsOf_length]; simp; omega) (by omega) (by omega) (by omega)).mono ?_
  rintro e w4 ⟨rfl, F4, h4, fr4⟩
  have H4 := Lib.hid (And.intro h4 (H3.out.2.trans fr4)); clear h4 fr4
  go_wp2_with fail
  go_ret
  refine ⟨rfl, F4, ?_, ⟨H4.out.2.os, H4.out.2.tape, H4.out.2.output, H4.out.2.size, H4.out.2.block, H4.out.2.own⟩⟩
  have h4 := H4.out.1
  rw [show ((r : Int)).toNat = r from by omega, show ((q : Int) + k).toNat = q + k from by omega, show ((q : Int)).toNat = q from by omega, show ((0 : Int)).toNat = 0 from rfl, show ((1 : Int)).toNat = 1 from rfl, List.append_assoc, List.append_assoc] at h4
  exact h4

theorem Len_ok (B bw : Nat) (F : List Nat) (l : List Bool) (w : World) (h : WOk w B bw F l) :
    Calls Try.prog 27 #[.pointer (some ⟨bw, 0, none⟩)] w fun e w' => e = .returned (.int .i64 (l.length : Nat)) ∧ w = w' := by
  have hc := h.cells
  clear h
  go_enter Try.func27, Try.ntmps27
  go_wp2_with fail
  go_ret
  exact ⟨rfl, rfl⟩
end Go.Proofs.Ytpnlcnilhlcfpaa
