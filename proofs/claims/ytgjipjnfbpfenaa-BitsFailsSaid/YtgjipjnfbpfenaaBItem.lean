/- Items: Pick, fit, write, read. -/
import Derived.Test.YtgjipjnfbpfenaaBClone
set_option linter.unusedVariables false
namespace Go.Proofs.Ytgjipjnfbpfenaa
open Go.RowKit
open M (bitsOf bitsOf_length codeBits codeBits_length zig zag numOf zeros codeA)

theorem Pick_ok (k n : Int) (w : World) (n1 : 1 ≤ n) (n2 : n ≤ 1000000) (k0 : -9223372036854775808 ≤ k) (k1 : k ≤ 9223372036854775807) :
    Calls Try.prog 37 #[.int .i64 k, .int .i64 n] w fun e w' => e = .returned (.int .i64 (k % n)) ∧ w = w' := by
  have hlt := Int.emod_lt_of_pos k (show 0 < n by omega)
  have hge := Int.emod_nonneg k (show n ≠ 0 by omega)
  by_cases h : 0 ≤ k
  · go_enter Try.func37, Try.ntmps37
    go_wp2_with fail
    all_goals first | (exfalso; omega) | skip
    go_ret
    exact ⟨rfl, rfl⟩
  · obtain ⟨c, hc⟩ : ∃ c, c = (-k).tmod n := ⟨_, rfl⟩
    have e1 : k.tmod n = -c := by rw [hc, Int.neg_tmod, Int.neg_neg]
    have e2 : c = (-k) % n := by rw [hc, Int.tmod_eq_emod_of_nonneg (by omega)]
    have c1 := Int.emod_lt_of_pos (-k) (show 0 < n by omega)
    have c0 := Int.emod_nonneg (-k) (show n ≠ 0 by omega)
    rw [← e2] at c1 c0
    have e3 : k % n = if c = 0 then 0 else n - c := by
      have h1 : k = n * -((-k) / n) + (-c) := by
        have := Int.mul_ediv_add_emod (-k) n
        rw [← e2] at this
        rw [Int.mul_neg]; omega
      have h2 : k % n = (-c) % n := by
        conv => lhs; rw [h1, Int.add_comm, Int.add_mul_emod_self_left]
      rw [h2]
      split
      · rename_i h0; rw [h0]; simp
      · have : (-c) % n = (-c + n) % n := by rw [Int.add_emod_right]
        rw [this, Int.emod_eq_of_lt (by omega) (by omega)]; omega
    have H := Lib.hid e3
    clear e2 hc hlt hge e3
    go_enter Try.func37, Try.ntmps37
    go_wp2_with fail
    · go_ret
      rw [H.out, if_neg (by omega)]
      exact ⟨ret_congr (congrArg (Value.int .i64) (by omega)), rfl⟩
    · go_ret
      rw [H.out, if_pos (by omega)]
      exact ⟨ret_congr (congrArg (Value.int .i64) (by omega)), rfl⟩

/-- An item as the laws hand it on. -/
def itemV (kind n k : Nat) : Value := .agg #[.int .u8 (kind : Int), .int .u64 (n : Int), .int .i64 (k : Int)]
/-- An item that can be written. -/
def Fit (kind n k : Nat) : Prop := kind < 256 ∧ n < 18446744073709551616 ∧ (kind % 3 = 0 → k ≤ 64 ∧ n < 2 ^ k) ∧ (kind % 3 ≠ 0 → k ≤ 30)
def fitK (kind : Nat) (k : Int) : Nat := if kind % 3 = 0 then (k % 65).toNat else (k % 31).toNat
def fitN (kind n : Nat) (k : Int) : Nat := if kind % 3 = 0 then n % 2 ^ fitK kind k else n
theorem fit_fit {kind n : Nat} (k : Int) (h1 : kind < 256) (h2 : n < 18446744073709551616) : Fit kind (fitN kind n k) (fitK kind k) := by
  unfold Fit fitN
  by_cases h : kind % 3 = 0
  · rw [if_pos h]
    have hp : 0 < 2 ^ fitK kind k := Nat.pow_pos (by decide)
    refine ⟨h1, Nat.lt_of_le_of_lt (Nat.mod_le _ _) h2, fun _ => ⟨?_, Nat.mod_lt _ hp⟩, fun e => absurd h e⟩
    unfold fitK; rw [if_pos h]; omega
  · rw [if_neg h]
    refine ⟨h1, h2, fun e => absurd e h, fun _ => ?_⟩
    unfold fitK; rw [if_neg h]; omega

set_option maxHeartbeats 400000 in
theorem fit_ok (kind n : Nat) (k : Int) (w : World) (h1 : kind < 256) (h2 : n < 18446744073709551616) (k0 : -9223372036854775808 ≤ k) (k1 : k ≤ 9223372036854775807) :
    Calls Try.prog 26 #[.agg #[.int .u8 (kind : Int), .int .u64 (n : Int), .int .i64 k]] w fun e w' => e = .returned (itemV kind (fitN kind n k) (fitK kind k)) ∧ Below w.heap.size w w' := by
  unfold itemV fitN fitK
  by_cases h : kind % 3 = 0
  · rw [if_pos h, if_pos h]
    have hp := fun w => Pick_ok k 65 w (by omega) (by omega) k0 k1
    obtain ⟨r, hr⟩ := Int.eq_ofNat_of_zero_le (show 0 ≤ k % 65 by omega)
    have hr64 : r ≤ 64 := by omega
    rw [hr] at hp ⊢
    rw [show ((r : Nat) : Int).toNat = r from rfl]
    have e0 : ((kind : Int) % 3 == 0) = true := by rw [beq_iff_eq]; omega
    have e1 : (kind % 3 == 0) = true := by rw [beq_iff_eq]; exact h
    have H := Lib.hid hp
    clear hr h hp
    by_cases h64 : r < 64
    · have hw := wrap_pow (k := r) (by omega)
      have hand : bits .and .u64 (n : Int) (((2 ^ r : Nat) : Int) - 1) = ((n % 2 ^ r : Nat) : Int) := by
        have hp : 0 < 2 ^ r := Nat.pow_pos (by decide)
        have hp2 : 2 ^ r ≤ 2 ^ 63 := Nat.pow_le_pow_right (by decide) (by omega)
        have := u64_and_nat n (2 ^ r - 1) h2 (by omega)
        rw [Nat.and_two_pow_sub_one_eq_mod] at this
        rw [show (((2 ^ r : Nat) : Int) - 1) = ((2 ^ r - 1 : Nat) : Int) from by omega]
        exact this
      have hp : 1 ≤ 2 ^ r := Nat.pow_pos (by decide)
      have hp2 : 2 ^ r ≤ 9223372036854775808 := Nat.le_trans (Nat.pow_le_pow_right (n := 2) (by decide) (show r ≤ 63 by omega)) (by decide)
      have hb : n % 2 ^ r ≤ n := Nat.mod_le _ _
      generalize n % 2 ^ r = m at *
      generalize 2 ^ r = V at *
      have HA := Lib.hid hand; clear hand
      go_enter Try.func26, Try.ntmps26
      go_wp2_with fail
      refine (H.out _).mono ?_
      rintro e w' ⟨rfl, rfl⟩
      go_wp2_with fail
      go_region
      rw [HA.out]
      go_wp2_with fail
      exact bodyPost_ret (v := .agg #[.int .u8 (kind : Int), .int .u64 (m : Int), .int .i64 (r : Int)]) (by simp [results, Try.results26, go_sem]) rfl ⟨rfl, (((Below.refl _ _).alloc (Nat.le_refl _) _).alloc (by simp) _).drew⟩
    · have e64 : r = 64 := by omega
      subst e64
      rw [Nat.mod_eq_of_lt (show n < 2 ^ 64 by simpa using h2)]
      go_enter Try.func26, Try.ntmps26
      go_wp2_with fail
      refine (H.out _).mono ?_
      rintro e w' ⟨rfl, rfl⟩
      go_wp2_with fail
      exact bodyPost_ret (v := .agg #[.int .u8 (kind : Int), .int .u64 (n : Int), .int .i64 ((64 : Nat) : Int)]) (by simp [results, Try.results26, go_sem]) rfl ⟨rfl, (((Below.refl _ _).alloc (Nat.le_refl _) _).alloc (by simp) _)⟩
  · rw [if_neg h, if_neg h]
    have hp := fun w => Pick_ok k 31 w (by omega) (by omega) k0 k1
    obtain ⟨r, hr⟩ := Int.eq_ofNat_of_zero_le (show 0 ≤ k % 31 by omega)
    have hr64 : r ≤ 30 := by omega
    rw [hr] at hp ⊢
    rw [show ((r : Nat) : Int).toNat = r from rfl]
    have e0 : ((kind : Int) % 3 == 0) = false := by rw [beq_eq_false_iff_ne]; omega
    have e1 : (kind % 3 == 0) = false := by rw [beq_eq_false_iff_ne]; exact h
    have H := Lib.hid hp
    clear hr h hp
    go_enter Try.func26, Try.ntmps26
    go_wp2_with fail
    refine (H.out _).mono ?_
    rintro e w' ⟨rfl, rfl⟩
    go_wp2_with fail
    exact bodyPost_ret (v := .agg #[.int .u8 (kind : Int), .int .u64 (n : Int), .int .i64 (r : Int)]) (by simp [results, Try.results26, go_sem]) rfl ⟨rfl, (((Below.refl _ _).alloc (Nat.le_refl _) _).alloc (by simp) _)⟩

/-- The bits of an item. -/
def itemBits (kind n k : Nat) : List Bool := if kind % 3 = 0 then bitsOf n k else if kind % 3 = 1 then codeBits n k else codeBits (zig n) k
theorem Fit.zig {kind n k : Nat} (h : Fit kind n k) : zig n < 18446744073709551616 := by have := M.zig_lt (n := n) (by simpa using h.2.1); simpa using this
theorem itemBits_le {kind n k : Nat} (h : Fit kind n k) : (itemBits kind n k).length ≤ 129 := by
  unfold itemBits
  by_cases h0 : kind % 3 = 0
  · rw [if_pos h0, bitsOf_length]; have := (h.2.2.1 h0).1; omega
  · have hk := h.2.2.2 h0
    rw [if_neg h0]
    split
    · rw [codeBits_length]; have := (M.cq_bd n k (by simpa using h.2.1) hk).2.1; omega
    · rw [codeBits_length]; have := (M.cq_bd (zig n) k (by simpa using h.zig) hk).2.1; omega

theorem wordOf_wrap {n : Nat} (h : n < 18446744073709551616) : wordOf (wrap64 (n : Int)) = n := by unfold wordOf wrap64; omega
theorem Put_at (B bw : Nat) (F : List Nat) (l : List Bool) (n k : Nat) (w : World) (h : WOk w B bw F l) (hB : B ≤ w.heap.size) (hl : l.length + k ≤ 1048576) (hk : k ≤ 64) (hn : n < 2 ^ k) :
    Calls Try.prog 15 #[.pointer (some ⟨bw, 0, none⟩), .int .u64 (n : Int), .int .i64 (k : Int)] w fun e w' => e = .returned (.int .i64 0) ∧ ∃ F', WOk w' B bw F' (l ++ bitsOf n k) ∧ Fr F w F' w' := Put_ok B bw F l n k w h hB hl hk hn
theorem Fr.after_alloc {F G : List Nat} {w w' : World} {o : Obj} (h : Fr F (w.alloc o) G w') : Fr F w G w' :=
  (Fr.of_below ((Below.refl _ _).alloc (Nat.le_refl _) _) F).trans h

theorem mod3 {kind : Nat} (c : Nat) : (((kind : Int) % 3 == (c : Int)) = (kind % 3 == c)) := by
  rw [Bool.eq_iff_iff]; simp only [beq_iff_eq]; omega

set_option maxHeartbeats 400000 in
theorem write_ok (B bw : Nat) (F : List Nat) (l : List Bool) (kind n k : Nat) (w : World) (h : WOk w B bw F l) (hB : B ≤ w.heap.size) (hf : Fit kind n k) (hl : l.length + (itemBits kind n k).length ≤ 1048576) :
    Calls Try.prog 25 #[.pointer (some ⟨bw, 0, none⟩), .agg #[.int .u8 (kind : Int), .int .u64 (n : Int), .int .i64 (k : Int)]] w fun e w' => e = .returned (.int .i64 0) ∧ ∃ F', WOk w' B bw F' (l ++ itemBits kind n k) ∧ Fr F w F' w' := by
  have hw := fun o => h.below ((Below.refl w.heap.size w).alloc (Nat.le_refl _) o)
  have hB1 : ∀ o, B ≤ (w.alloc o).heap.size := fun o => by simp; omega
  have hn := hf.2.1
  unfold itemBits at hl ⊢
  by_cases h0 : kind % 3 = 0
  · rw [if_pos h0] at hl ⊢
    rw [bitsOf_length] at hl
    have hc := fun o => Put_ok B bw F l n k (w.alloc o) (hw o) (hB1 o) hl (hf.2.2.1 h0).1 (hf.2.2.1 h0).2
    have e0 : ((kind : Int) % 3 == 0) = true := by rw [beq_iff_eq]; omega
    have e1 : (kind % 3 == 0) = true := by rw [beq_iff_eq]; exact h0
    have H := Lib.hid hc
    clear hw hB1 hc h hf h0
    go_enter Try.func25, Try.ntmps25
    go_wp2_with fail
    refine (H.out _).mono ?_
    rintro e w' ⟨rfl, F', h1, h2⟩
    have HQ := Lib.hid (And.intro h1 h2); clear h1 h2
    go_wp2_with fail
    go_ret
    exact ⟨rfl, F', HQ.out.1, HQ.out.2.after_alloc⟩
  · rw [if_neg h0] at hl ⊢
    have e0 : ((kind : Int) % 3 == 0) = false := by rw [beq_eq_false_iff_ne]; omega
    have e0' : (kind % 3 == 0) = false := by rw [beq_eq_false_iff_ne]; exact h0
    by_cases h1 : kind % 3 = 1
    · rw [if_pos h1] at hl ⊢
      rw [codeBits_length] at hl
      have hc := fun o => PutCode_ok B bw F l n k (w.alloc o) (hw o) (hB1 o) (hf.2.2.2 h0) hn hl
      have e1 : ((kind : Int) % 3 == 1) = true := by rw [beq_iff_eq]; omega
      have e1' : (kind % 3 == 1) = true := by rw [beq_iff_eq]; exact h1
      have H := Lib.hid hc
      clear hw hB1 hc h hf h0 h1
      go_enter Try.func25, Try.ntmps25
      go_wp2_with fail
      refine (H.out _).mono ?_
      rintro e w' ⟨rfl, F', h1, h2⟩
      have HQ := Lib.hid (And.intro h1 h2); clear h1 h2
      go_wp2_with fail
      go_ret
      exact ⟨rfl, F', HQ.out.1, HQ.out.2.after_alloc⟩
    · rw [if_neg h1] at hl ⊢
      rw [codeBits_length] at hl
      have hc := fun o => PutSigned_ok B bw F l (wrap64 (n : Int)) k (w.alloc o) (by unfold wrap64; omega) (by unfold wrap64; omega) (hw o) (hB1 o) (hf.2.2.2 h0) (by rw [wordOf_wrap hn]; exact hl)
      rw [wordOf_wrap hn] at hc
      have e1 : ((kind : Int) % 3 == 1) = false := by rw [beq_eq_false_iff_ne]; omega
      have e1' : (kind % 3 == 1) = false := by rw [beq_eq_false_iff_ne]; exact h1
      have H := Lib.hid hc
      clear hw hB1 hc h hf h0 h1
      go_enter Try.func25, Try.ntmps25
      go_wp2_with fail
      refine (H.out _).mono ?_
      rintro e w' ⟨rfl, F', h1, h2⟩
      have HQ := Lib.hid (And.intro h1 h2); clear h1 h2
      go_wp2_with fail
      go_ret
      exact ⟨rfl, F', HQ.out.1, HQ.out.2.after_alloc⟩
end Go.Proofs.Ytgjipjnfbpfenaa
