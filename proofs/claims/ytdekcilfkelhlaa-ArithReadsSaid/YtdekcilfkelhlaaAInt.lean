/- PutInt. -/
import Derived.Test.YtdekcilfkelhlaaAKit
import Derived.Deep.DeepCutAuto
set_option linter.unusedVariables false
namespace Go.Proofs.Ytdekcilfkelhlaa
open Go.RowKit
open M (blen zig zag)

/-- An int as a word of 64 bits. -/
def wordOf (n : Int) : Nat := (n % 18446744073709551616).toNat
theorem wordOf_lt (n : Int) : wordOf n < 18446744073709551616 := by unfold wordOf; omega
theorem xor_ones (x : Nat) (h : x < 18446744073709551616) : x ^^^ 18446744073709551615 = 18446744073709551615 - x := by
  have := congrArg BitVec.toNat (BitVec.xor_allOnes (x := BitVec.ofNat 64 x))
  rw [BitVec.toNat_xor, BitVec.toNat_not, BitVec.toNat_ofNat, BitVec.toNat_allOnes, Nat.mod_eq_of_lt (by simpa using h)] at this
  simpa using this
theorem zig_word (n : Int) (n0 : -9223372036854775808 ≤ n) (n1 : n ≤ 9223372036854775807) :
    bits BinOp.xor IntKind.u64 (IntKind.u64.wrap (IntKind.u64.wrap n * 2)) (IntKind.u64.wrap (n / 9223372036854775808)) = ((zig (wordOf n) : Nat) : Int) := by
  unfold wordOf zig
  by_cases h : n < 0
  · have e1 : IntKind.u64.wrap (n / 9223372036854775808) = ((18446744073709551615 : Nat) : Int) := by rw [IntKind.wrap_u64]; omega
    have e2 : IntKind.u64.wrap (IntKind.u64.wrap n * 2) = (((2 * n + 18446744073709551616).toNat : Nat) : Int) := by rw [IntKind.wrap_u64, IntKind.wrap_u64]; omega
    rw [e1, e2, u64_xor_nat _ _ (by omega) (by omega), xor_ones _ (by omega), if_neg (by omega)]
    omega
  · have e1 : IntKind.u64.wrap (n / 9223372036854775808) = ((0 : Nat) : Int) := by rw [IntKind.wrap_u64]; omega
    have e2 : IntKind.u64.wrap (IntKind.u64.wrap n * 2) = (((2 * n).toNat : Nat) : Int) := by rw [IntKind.wrap_u64, IntKind.wrap_u64]; omega
    rw [e1, e2, u64_xor_nat _ _ (by omega) (by omega), Nat.xor_zero, if_pos (by omega)]
    omega
theorem zig_word0 (n : Int) (n0 : 0 ≤ n) (n1 : n ≤ 9223372036854775807) : bits BinOp.xor IntKind.u64 (n * 2) (n / 9223372036854775808) = ((zig (wordOf n) : Nat) : Int) := by
  rw [← zig_word n (by omega) n1]
  congr 1 <;> (simp only [IntKind.wrap_u64]; omega)
/-- A word of 64 bits as an int. -/
def sOf (u : Nat) : Int := if u < 9223372036854775808 then (u : Int) else (u : Int) - 18446744073709551616
theorem wordOf_sOf {u : Nat} (h : u < 18446744073709551616) : wordOf (sOf u) = u := by unfold wordOf sOf; split <;> omega
theorem sOf_wordOf {n : Int} (n0 : -9223372036854775808 ≤ n) (n1 : n ≤ 9223372036854775807) : sOf (wordOf n) = n := by unfold wordOf sOf; split <;> omega
theorem zag_val (V : Nat) (h : V < 18446744073709551616) : bits BinOp.xor IntKind.i64 ((V : Int) / 2) (wrap64 (-wrap64 (bits BinOp.and IntKind.u64 (V : Int) 1))) = sOf (zag V) := by
  have h1 : bits BinOp.and IntKind.u64 (V : Int) 1 = ((V % 2 : Nat) : Int) := by
    have := u64_and_nat V 1 h (by omega)
    rw [Nat.and_one_is_mod] at this
    exact this
  rw [h1]
  have e1 : wrap64 (-wrap64 ((V % 2 : Nat) : Int)) = -((V % 2 : Nat) : Int) := by unfold wrap64; omega
  rw [e1]
  show IntKind.i64.wrap ((BitVec.ofInt 64 ((V : Int) / 2) ^^^ BitVec.ofInt 64 (-((V % 2 : Nat) : Int))).toNat : Int) = _
  have e2 : (BitVec.ofInt 64 ((V : Int) / 2)).toNat = V / 2 := by rw [BitVec.toNat_ofInt]; omega
  unfold sOf zag
  rcases Nat.mod_two_eq_zero_or_one V with h2 | h2
  · rw [h2, if_pos rfl]
    have : BitVec.ofInt 64 (-((0 : Nat) : Int)) = 0#64 := rfl
    rw [this, BitVec.xor_zero, e2, if_pos (by omega), IntKind.wrap_i64]
    omega
  · have : BitVec.ofInt 64 (-((1 : Nat) : Int)) = BitVec.allOnes 64 := rfl
    rw [h2, if_neg (show ¬ (1 : Nat) = 0 by decide), this, BitVec.xor_allOnes, BitVec.toNat_not, e2, if_neg (by omega), IntKind.wrap_i64]
    omega
theorem zig_lt64 (n : Int) : zig (wordOf n) < 18446744073709551616 := by have := M.zig_lt (n := wordOf n) (by simpa using wordOf_lt n); simpa using this
theorem shr_test {Z k : Nat} : (0 : Int) < (Z : Int) / 2 ^ k ↔ k < blen Z := by
  have e : (Z : Int) / 2 ^ k = ((Z / 2 ^ k : Nat) : Int) := by rw [Int.natCast_ediv, Int.natCast_pow]; rfl
  rw [e]
  have hp := Nat.two_pow_pos k
  rcases Nat.eq_zero_or_pos Z with rfl | h0
  · simp [blen]
  · obtain ⟨b1, b2, b3⟩ := M.blen_bd h0
    constructor
    · intro h
      have h1 : 0 < Z / 2 ^ k := by omega
      have h2 := Nat.div_pos_iff.1 h1
      have h3 : 2 ^ k < 2 ^ blen Z := by omega
      exact (Nat.pow_lt_pow_iff_right (by decide)).1 h3
    · intro h
      have h1 : 2 ^ k ≤ 2 ^ (blen Z - 1) := Nat.pow_le_pow_right (by decide) (by omega)
      have h2 : 0 < Z / 2 ^ k := Nat.div_pos (by omega) hp
      omega

section
variable {K : Nat} {bm g : Nat → Nat} {nums : List (Nat × Nat)} {fr : Bun} {w w' w0 : World} {l : List Part} {bw b : Nat} {F : List Nat} {s : St} {sz : Nat → Nat}
theorem Ses.kbit (nb k below : Nat) (p : Part) (h : Ses w0 w (p :: kPart K bm g nums fr :: l)) (hn : (nb, b) ∈ nums) (hk : k ≤ 64) (hb : below + 2 ≤ k) (m : Nat) :
    Calls Try.prog 61 #[.pointer (some ⟨nb, 0, none⟩), .int .i64 (k : Nat), .int .i64 (below : Nat)] (w.drewN m) fun e w' => e = .returned (.pointer (some ⟨bm (if below + 2 = k then b + 1 else b + 2), 0, none⟩)) ∧ (w.drewN m) = w' := by
  have hk1 : KAt w K bm g nums fr := h.sep.tail.head
  have h1 : NOk (w.drewN m) nb _ _ _ := (hk1.num _ hn).1
  refine (bit_of_ok k below (w.drewN m) h1 hk hb).mono ?_
  rintro e w' ⟨rfl, rfl⟩
  refine ⟨?_, rfl⟩
  split <;> rfl
structure IRel (w0 wr : World) (K : Nat) (bm g : Nat → Nat) (nums : List (Nat × Nat)) (l : List Part) (sz : Nat → Nat) (bw b k Z : Nat) (c1 : St × Bun) (m : Nat) (c : St × Bun) (F : List Nat) : Prop where
  ses : Ses w0 wr (encPart w0.heap.size bw F c.1 :: kPart K bm g nums c.2 :: l)
  ok : Ok sz c
  cnt : c.1.cnt + m ≤ 32768
  eq : steps zbit c (lowOps b k Z m) = c1

set_option maxRecDepth 100000 in
set_option maxHeartbeats 2000000 in
theorem Ses.putInt (nb : Nat) (n : Int) (h : Ses w0 w (encPart w0.heap.size bw F s :: kPart K bm g nums fr :: l)) (hn : (nb, b) ∈ nums) (hc : s.cnt + 65 ≤ 32768) (hs : Shape sz fr) (hz : IntSz sz b) (n0 : -9223372036854775808 ≤ n) (n1 : n ≤ 9223372036854775807) :
    Calls Try.prog 36 #[.pointer (some ⟨bw, 0, none⟩), .pointer (some ⟨nb, 0, none⟩), .int .i64 n] w fun e w' => e = .returned (.int .i64 0) ∧ ∃ F', Ses w0 w' (encPart w0.heap.size bw F' (steps zbit (s, fr) (zops b (zig (wordOf n)))).1 :: kPart K bm g nums (steps zbit (s, fr) (zops b (zig (wordOf n)))).2 :: l) := by
  have he : EOk (encBox w0.heap.size bw) w F s := h.sep.head
  have hk : KAt w K bm g nums fr := h.sep.tail.head
  obtain ⟨hnum, hK⟩ := hk.num _ hn
  simp only at hnum hK
  have k3 : w.cell? ⟨bw, 3, none⟩ = some (.int .i64 (s.cnt : Nat)) := he.c.cells.2.2.2.1
  have hok : Ok sz (s, fr) := ⟨he.live, hs⟩
  have hth := Nthere_ok w hnum (hk.mod b (by omega))
  have nc0 : w.cell? ⟨nb, 0, none⟩ = some (.pointer (some ⟨bm b, 0, none⟩)) := (cell_of_block hnum 0).trans rfl
  have d1 : decide ((32703 : Int) < (s.cnt : Nat)) = false := decide_eq_false (by omega)
  have hZ := zig_lt64 n
  have hw1 := zig_word n n0 n1
  have hw2 := fun h0 => zig_word0 n h0 n1
  obtain ⟨Z, eZ⟩ : ∃ Z, Z = zig (wordOf n) := ⟨_, rfl⟩
  rw [← eZ] at hZ hw1 hw2 ⊢
  have hkl : blen Z ≤ 64 := M.blen_le (by simpa using hZ)
  have H := Lib.hid (And.intro h (And.intro hok (And.intro hth (And.intro hw1 (And.intro hw2 hs)))))
  clear h hok hth hw1 hw2 he hk hnum hs eZ
  go_enter Try.func36, Try.ntmps36
  go_wp2_with fail
  refine H.out.2.2.1.mono ?_
  rintro e w' ⟨rfl, rfl⟩
  go_upto_region 5 with fail
  go_cut [7] (fun v wx => v = .int .u64 (Z : Nat) ∧ w = wx)
  case first =>
    by_cases h0 : n < 0
    · go_wp2_with fail
      go_meet
      exact ⟨congrArg (Value.int .u64) H.out.2.2.2.1, rfl⟩
    · go_wp2_with fail
      go_meet
      exact ⟨congrArg (Value.int .u64) (H.out.2.2.2.2.1 (by omega)), rfl⟩
  case rest =>
    obtain ⟨rfl, rfl⟩ := hcut
    go_wp2_with fail
    go_loopg [8] 64 (fun gh kv wr => ∃ k : Nat, gh = 64 - k ∧ k ≤ blen Z ∧ kv = .int .i64 (k : Nat) ∧ w = wr)
    case atStart => exact ⟨0, rfl, by omega, rfl, rfl⟩
    case round =>
      obtain ⟨k, hgh, hk, rfl, rfl⟩ := hrel
      have Hgh := Lib.hid hgh; clear hgh
      go_upto_region 7 with fail
      go_cut [39] (fun t wx => t = .bool (decide (k < blen Z)) ∧ w = wx)
      case first =>
        by_cases hlt : k < blen Z
        · have i1 : (0 : Int) < (Z : Int) / 2 ^ k := shr_test.2 hlt
          go_wp2_with fail
          go_meet
          exact ⟨congrArg Value.bool (decide_eq_true hlt).symm, rfl⟩
        · have i1 : ¬ (0 : Int) < (Z : Int) / 2 ^ k := fun e => hlt (shr_test.1 e)
          go_wp2_with fail
          all_goals
            go_meet
            exact ⟨congrArg Value.bool (decide_eq_false hlt).symm, rfl⟩
      case rest =>
      obtain ⟨rfl, rfl⟩ := hcut
      by_cases hlt : k < blen Z
      · rw [decide_eq_true hlt]
        go_wp2_with fail
        go_roundg (64 - (k + 1))
        case measure => have := Hgh.out; omega
        case rel => exact ⟨k + 1, rfl, by omega, by go_num, rfl⟩
      · rw [decide_eq_false hlt]
        have hkz : k = blen Z := by omega
        have hk64 : k ≤ 64 := by omega
        have HK := Lib.hid hkz
        clear hlt hk hkz Hgh hkl
        go_upto_region 9 with fail
        · go_cut [8] (fun kv wx => kv = .int .i64 (k : Nat) ∧ ∃ F', Ses w0 wx (encPart w0.heap.size bw F' (step zbit (s, fr) (b, k)).1 :: kPart K bm g nums (step zbit (s, fr) (b, k)).2 :: l))
          case first =>
            go_region_with (
              (refine ((H.out.1.drewN _).kcode b k (by omega) (by omega) (by rw [H.out.2.2.2.2.2.len, hz.s0]; omega)).mono ?_
               rintro e w3 ⟨rfl, h3⟩
               have H3 := Lib.hid h3; clear h3))
            all_goals
              go_wp2_with fail
              go_meet
              exact ⟨rfl, H3.out⟩
          case rest =>
            obtain ⟨rfl, F1, h1⟩ := hcut
            have ho1 := (H.out.2.1.step (bit := zbit) (o := (b, k)) (by unfold Fit; rw [hz.s0]; simp only []; omega))
            have hI : IRel w0 _ K bm g nums l sz bw b k Z (steps zbit (s, fr) (zops b Z)) (k - 1) (step zbit (s, fr) (b, k)) F1 := ⟨h1, ho1.1, by rw [ho1.2]; simp only []; omega, by unfold zops; rw [← HK.out]; rfl⟩
            have HI := Lib.hid hI; clear hI h1 ho1 k3 nc0 d1
            go_wp2_with fail
            go_loopg [9] (k - 1) (fun gh iv wr => ∃ (m : Nat) (i : Int) (c : St × Bun) (F2 : List Nat), gh = m ∧ iv = .int .i64 i ∧ ((0 ≤ i ∧ i = m - 1) ∨ (i < 0 ∧ m = 0)) ∧ -2 ≤ i ∧ m ≤ k - 1 ∧ IRel w0 wr K bm g nums l sz bw b k Z (steps zbit (s, fr) (zops b Z)) m c F2)
            case atStart => exact ⟨k - 1, (k : Int) - 2, _, F1, rfl, rfl, by omega, by omega, by omega, HI.out⟩
            case round =>
              obtain ⟨m, i, c, F2, hgh, rfl, hm, hi2, hmk, hR⟩ := hrel
              have Hgh := Lib.hid hgh; clear hgh
              have HR := Lib.hid hR; clear hR HI
              by_cases h0 : 0 ≤ i
              · obtain ⟨q, rfl⟩ : ∃ q : Nat, i = (q : Int) := ⟨i.toNat, by omega⟩
                obtain rfl : m = q + 1 := by omega
                clear hm hi2
                have hqk : q + 2 ≤ k := by omega
                obtain ⟨j, ej⟩ : ∃ j, j = if q + 2 = k then b + 1 else b + 2 := ⟨_, rfl⟩
                have hj : sz j = 2 ∧ j < K := by rw [ej]; split; exact ⟨hz.s1, by omega⟩; exact ⟨hz.s2, by omega⟩
                have hb := HR.out.ses.kbit nb k q _ hn hk64 hqk
                rw [← ej] at hb
                have hv : bits .and .u64 ((Z : Int) / 2 ^ q) 1 = ((Z / 2 ^ q % 2 : Nat) : Int) := by
                  rw [show (Z : Int) / 2 ^ q = ((Z / 2 ^ q : Nat) : Int) from by rw [Int.natCast_ediv, Int.natCast_pow]; rfl, ← Nat.and_one_is_mod]
                  exact u64_and_nat _ 1 (Nat.lt_of_le_of_lt (Nat.div_le_self _ _) hZ) (by omega)
                obtain ⟨v, ev⟩ : ∃ v, v = Z / 2 ^ q % 2 := ⟨_, rfl⟩
                rw [← ev] at hv
                have hv2 : v < 2 := by omega
                have HB := Lib.hid (And.intro hb (And.intro hv (And.intro ej ev))); clear hb hv ej ev hmk
                go_upto_region 13 with fail
                go_region_with (first
                  | ((refine (HB.out.1 _).mono ?_)
                     (rintro e w4 ⟨rfl, rfl⟩))
                  | ((refine (HR.out.ses.kcode_z j v _ _ ?_ (by have := HR.out.cnt; omega) hj.2 (by rw [HR.out.ok.shape.len, hj.1]; omega)).mono ?_)
                     (· (rw [HB.out.2.1, IntKind.wrap_i64]; omega))
                     (rintro e w4 ⟨rfl, h4⟩)
                     (have H4 := Lib.hid h4; clear h4)))
                trace "region"
                all_goals
                  have i6 : -9223372036854775808 ≤ (q : Int) - 1 := by omega
                  go_wp2_with fail
                  go_roundg q
                  case measure => have := Hgh.out; omega
                  case rel =>
                    have hf : Fit sz (j, v) := by unfold Fit; simp only []; omega
                    have hs1 := HR.out.ok.step (bit := zbit) hf
                    obtain ⟨F4, h4⟩ := H4.out
                    refine ⟨q, (q : Int) - 1, step zbit c (j, v), F4, rfl, by go_num, by omega, by omega, by omega, h4, hs1.1, by have := HR.out.cnt; rw [hs1.2]; omega, ?_⟩
                    have := HR.out.eq
                    unfold lowOps at this
                    rw [← HB.out.2.2.1, ← HB.out.2.2.2] at this
                    exact this
              · obtain rfl : m = 0 := by omega
                clear hm
                go_wp2_with fail
                go_ret
                have e1 := HR.out.eq
                have e2 : steps zbit c (lowOps b k Z 0) = c := rfl
                rw [e2] at e1
                rw [← e1]
                exact ⟨rfl, F2, HR.out.ses⟩
end
end Go.Proofs.Ytdekcilfkelhlaa
