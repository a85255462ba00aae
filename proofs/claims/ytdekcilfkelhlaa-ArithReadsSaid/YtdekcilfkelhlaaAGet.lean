/- GetInt. -/
import Derived.Test.YtdekcilfkelhlaaAInt
import Derived.Deep.DeepCutAuto
set_option linter.unusedVariables false
namespace Go.Proofs.Ytdekcilfkelhlaa
open Go.RowKit
open M (blen zig zag)

theorem inBit_le (n : Nat) (f : Nat → Nat) (a : Nat) : inBit n f a ≤ 1 := by unfold inBit; split <;> omega
theorem or_low (y v : Nat) (hy : 2 * y + v < 18446744073709551616) (hv : v < 2) : bits .or .u64 ((y : Int) * 2) (v : Int) = ((2 * y + v : Nat) : Int) := by
  have h := Nat.two_pow_add_eq_or_of_lt (i := 1) (b := v) (by omega) y
  rw [show ((y : Int) * 2) = ((2 ^ 1 * y : Nat) : Int) from by push_cast; omega, u64_or_nat _ _ (by omega) (by omega), ← h]
section
variable {K : Nat} {bm g : Nat → Nat} {nums : List (Nat × Nat)} {fr : Bun} {w w' w0 : World} {l : List Part} {B bw n cap b : Nat} {G F : List Nat} {A : Option Addr} {f : Nat → Nat} {s : St} {sz : Nat → Nat}
structure GRel (w0 wr : World) (K : Nat) (bm g : Nat → Nat) (nums : List (Nat × Nat)) (l : List Part) (sz : Nat → Nat) (B bw : Nat) (G : List Nat) (A : Option Addr) (n cap : Nat) (f : Nat → Nat) (b k Z : Nat) (c1 : St × Bun) (m : Nat) (c : St × Bun) (F : List Nat) : Prop where
  ses : Ses w0 wr (decPart B bw G A n cap f F c.1 :: kPart K bm g nums c.2 :: l)
  ok : DOk (inBit n f) sz c
  cnt : c.1.cnt + m ≤ 32768
  rd : Reads (inBit n f) c (lowOps b k Z m)
  eq : steps (inBit n f) c (lowOps b k Z m) = c1

set_option maxRecDepth 100000 in
set_option maxHeartbeats 2000000 in
theorem Ses.getInt (nb Z : Nat) (h : Ses w0 w (decPart B bw G A n cap f F s :: kPart K bm g nums fr :: l)) (hn : (nb, b) ∈ nums) (hc : s.cnt + 65 ≤ 32768) (hz : IntSz sz b) (hd : DOk (inBit n f) sz (s, fr)) (hr : Reads (inBit n f) (s, fr) (zops b Z)) (hZ : Z < 18446744073709551616) :
    Calls Try.prog 37 #[.pointer (some ⟨bw, 0, none⟩), .pointer (some ⟨nb, 0, none⟩)] w fun e w' => e = .returned (.tuple #[.int .i64 (sOf (zag Z)), .int .i64 0]) ∧ ∃ F', Ses w0 w' (decPart B bw G A n cap f F' (steps (inBit n f) (s, fr) (zops b Z)).1 :: kPart K bm g nums (steps (inBit n f) (s, fr) (zops b Z)).2 :: l) := by
  have he : EOk (decBox B bw G A n cap f) w F s := h.sep.head
  have hk : KAt w K bm g nums fr := h.sep.tail.head
  obtain ⟨hnum, hK⟩ := hk.num _ hn
  simp only at hnum hK
  have k3 : w.cell? ⟨bw, 3, none⟩ = some (.int .i64 (s.cnt : Nat)) := he.c.cells.2.2.2.1
  have hth := Nthere_ok w hnum (hk.mod b (by omega))
  have hdt := End_there w he.c rfl
  have nc0 : w.cell? ⟨nb, 0, none⟩ = some (.pointer (some ⟨bm b, 0, none⟩)) := (cell_of_block hnum 0).trans rfl
  have d1 : decide ((32703 : Int) < (s.cnt : Nat)) = false := decide_eq_false (by omega)
  have hkl : blen Z ≤ 64 := M.blen_le (by simpa using hZ)
  have hsym := h.ksym b (by omega) hd.iv (by omega)
  rw [show decSym (fr b) s = blen Z from hr.1] at hsym
  obtain ⟨hd1, _⟩ := hd.step (inBit_le n f) (o := (b, blen Z)) hr.1
  have hcnt := (hd.ok.step (bit := inBit n f) (o := (b, blen Z)) (by unfold Fit; rw [hz.s0]; simp only []; omega)).2
  have hr1 : Reads (inBit n f) (step (inBit n f) (s, fr) (b, blen Z)) (lowOps b (blen Z) Z (blen Z - 1)) := hr.2
  have heq : steps (inBit n f) (step (inBit n f) (s, fr) (b, blen Z)) (lowOps b (blen Z) Z (blen Z - 1)) = steps (inBit n f) (s, fr) (zops b Z) := rfl
  have htop : Z / 2 ^ (blen Z - 1) = if blen Z = 0 then 0 else 1 := by
    split
    · rename_i h0
      rcases Nat.eq_zero_or_pos Z with rfl | h1
      · simp
      · have := (M.blen_bd h1).2.2; omega
    · rename_i h0; exact top_bit (blen_pos h0)
  have hzv := zag_val Z hZ
  obtain ⟨k, ek⟩ : ∃ k, k = blen Z := ⟨_, rfl⟩
  rw [← ek] at hsym hd1 hr1 heq htop hkl hcnt
  have H := Lib.hid (And.intro hsym (And.intro hth (And.intro hdt (And.intro hd1 (And.intro hr1 (And.intro heq (And.intro htop (And.intro hcnt hzv))))))))
  clear h hth he hk hnum hd hr hsym hd1 hr1 heq htop hcnt hzv ek hdt
  go_enter Try.func37, Try.ntmps37
  go_wp2_with fail
  refine H.out.2.2.1.mono ?_
  rintro e w' ⟨rfl, rfl⟩
  go_wp2_with fail
  refine H.out.2.1.mono ?_
  rintro e w' ⟨rfl, rfl⟩
  go_wp2_with fail
  refine H.out.1.mono ?_
  rintro e w1 ⟨rfl, F1, h1⟩
  have hI : GRel w0 w1 K bm g nums l sz B bw G A n cap f b k Z (steps (inBit n f) (s, fr) (zops b Z)) (k - 1) (step (inBit n f) (s, fr) (b, k)) F1 := ⟨h1, H.out.2.2.2.1, by rw [H.out.2.2.2.2.2.2.2.1]; show s.cnt + 1 + (k - 1) ≤ 32768; omega, H.out.2.2.2.2.1, H.out.2.2.2.2.2.1⟩
  have HI := Lib.hid hI; clear hI h1
  go_upto_if 32 with fail
  go_cut [7] (fun v wx => v = .int .u64 ((Z / 2 ^ (k - 1) : Nat) : Int) ∧ w1 = wx)
  case first =>
    by_cases h0 : k = 0
    · subst h0
      go_wp2_with fail
      go_meet
      exact ⟨congrArg (Value.int .u64) (by rw [H.out.2.2.2.2.2.2.1]; simp), rfl⟩
    · have h0' : 0 < k := by omega
      go_wp2_with fail
      all_goals first | (exfalso; omega) | skip
      go_meet
      exact ⟨congrArg (Value.int .u64) (by rw [H.out.2.2.2.2.2.2.1]; simp [h0]), rfl⟩
  case rest =>
  obtain ⟨rfl, rfl⟩ := hcut
  go_wp2_with fail
  go_loopg [7, 8] (k - 1) (fun gh zv iv wr => ∃ (m : Nat) (i : Int) (c : St × Bun) (F2 : List Nat), gh = m ∧ zv = .int .u64 ((Z / 2 ^ m : Nat) : Int) ∧ iv = .int .i64 i ∧ ((0 ≤ i ∧ i = m - 1) ∨ (i < 0 ∧ m = 0)) ∧ -2 ≤ i ∧ m ≤ k - 1 ∧ GRel w0 wr K bm g nums l sz B bw G A n cap f b k Z (steps (inBit n f) (s, fr) (zops b Z)) m c F2)
  case atStart => exact ⟨k - 1, (k : Int) - 2, _, F1, rfl, rfl, rfl, by omega, by omega, by omega, HI.out⟩
  case round =>
    obtain ⟨m, i, c, F2, hgh, rfl, rfl, hm, hi2, hmk, hR⟩ := hrel
    have Hgh := Lib.hid hgh; clear hgh
    have HR := Lib.hid hR; clear hR HI
    by_cases h0 : 0 ≤ i
    · obtain ⟨q, rfl⟩ : ∃ q : Nat, i = (q : Int) := ⟨i.toNat, by omega⟩
      obtain rfl : m = q + 1 := by omega
      clear hm hi2
      have hqk : q + 2 ≤ k := by omega
      obtain ⟨j, ej⟩ : ∃ j, j = if q + 2 = k then b + 1 else b + 2 := ⟨_, rfl⟩
      have hj : sz j = 2 ∧ j < K := by rw [ej]; split; exact ⟨hz.s1, by omega⟩; exact ⟨hz.s2, by omega⟩
      have hb := HR.out.ses.kbit nb k q _ hn hkl hqk 0
      rw [← ej] at hb
      have hrd := HR.out.rd
      unfold lowOps at hrd
      rw [← ej] at hrd
      have heq := HR.out.eq
      unfold lowOps at heq
      rw [← ej] at heq
      obtain ⟨v, ev⟩ : ∃ v, v = Z / 2 ^ q % 2 := ⟨_, rfl⟩
      rw [← ev] at hrd heq
      have hsy := HR.out.ses.ksym j (by have := HR.out.cnt; omega) HR.out.ok.iv hj.2
      rw [show decSym (c.2 j) c.1 = v from hrd.1] at hsy
      have hv2 : v < 2 := by omega
      obtain ⟨y, ey⟩ : ∃ y, y = Z / 2 ^ (q + 1) := ⟨_, rfl⟩
      have hyz : Z / 2 ^ q = 2 * y + v := by
        rw [ey, Nat.pow_succ, ← Nat.div_div_eq_div_mul]; omega
      have hzq : Z / 2 ^ q < 18446744073709551616 := Nat.lt_of_le_of_lt (Nat.div_le_self _ _) hZ
      have hy2 : 2 * y + v < 18446744073709551616 := by omega
      have hor := or_low y v hy2 hv2
      rw [← ey]
      have HB := Lib.hid (And.intro hb (And.intro hsy (And.intro hrd (And.intro heq (And.intro hyz hor))))); clear hb hsy hrd heq hyz hor ej ev ey hmk hzq
      go_wp2_with fail
      refine HB.out.1.mono ?_
      rintro e w3 ⟨rfl, rfl⟩
      go_wp2_with fail
      refine HB.out.2.1.mono ?_
      rintro e w4 ⟨rfl, F4, h4⟩
      have H4 := Lib.hid h4; clear h4
      go_wp2_with fail
      rw [HB.out.2.2.2.2.2]
      go_wp2_with fail
      go_roundg q
      case measure => have := Hgh.out; omega
      case rel =>
        obtain ⟨hd2, hf⟩ := HR.out.ok.step (inBit_le n f) (o := (j, v)) HB.out.2.2.1.1
        have hs1 := (HR.out.ok.ok.step (bit := inBit n f) hf).2
        refine ⟨q, (q : Int) - 1, step (inBit n f) c (j, v), F4, rfl, ?_, by go_num, by omega, by omega, by omega, H4.out, hd2, by have := HR.out.cnt; rw [hs1]; omega, HB.out.2.2.1.2, HB.out.2.2.2.1⟩
        rw [HB.out.2.2.2.2.1]
    · obtain rfl : m = 0 := by omega
      clear hm
      have e0 : Z / 2 ^ 0 = Z := by simp
      rw [e0]
      go_wp2_with fail
      go_ret2
      have e1 := HR.out.eq
      have e2 : steps (inBit n f) c (lowOps b k Z 0) = c := rfl
      rw [e2] at e1
      rw [← e1]
      exact ⟨ret2_congr (congrArg (Value.int .i64) H.out.2.2.2.2.2.2.2.2) rfl, F2, HR.out.ses⟩
end
end Go.Proofs.Ytdekcilfkelhlaa
