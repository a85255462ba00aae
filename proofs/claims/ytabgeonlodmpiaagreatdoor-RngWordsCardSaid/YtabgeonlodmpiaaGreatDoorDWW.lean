/- math/bits.Div; math/big: reciprocalWord, divWW at the two words of 2^64. -/
import Derived.Test.YtabgeonlodmpiaaGreatDoorDDiv
set_option linter.unusedVariables false
namespace Go.Proofs.YtabgeonlodmpiaaGreatDoor
open Go.RowKit

theorem Div_small (x y q r : Nat) (w : World) (hy : 0 < y) (hy2 : y < 18446744073709551616) (hx : x < 18446744073709551616) (eq : x / y = q) (er : x % y = r) :
    Calls Tryz.prog 115 #[.int .u64 0, .int .u64 (x : Nat), .int .u64 (y : Nat)] w fun e w' => e = .returned (.tuple #[.int .u64 (q : Nat), .int .u64 (r : Nat)]) ∧ ∃ m, w' = w.drewN m := by
  have D := Div64_small x y w hy hy2 hx
  rw [eq, er] at D
  clear eq er hy hy2 hx
  go_enter Tryz.func115, Tryz.ntmps115
  go_wp2_with (go_at_call 135; refine D.mono ?_; rintro e w' ⟨rfl, m, rfl⟩)
  go_ret2
  exact ⟨rfl, _, rfl⟩
theorem Div_ok (u c y q r : Nat) (w : World) (hu0 : 0 < u) (hu : u < y) (hy1 : 9223372036854775808 ≤ y) (hy2 : y < 18446744073709551616) (hc : c < 18446744073709551616)
    (eq : (u * 18446744073709551616 + c) / y = q) (er : (u * 18446744073709551616 + c) % y = r) :
    Calls Tryz.prog 115 #[.int .u64 (u : Nat), .int .u64 (c : Nat), .int .u64 (y : Nat)] w fun e w' => e = .returned (.tuple #[.int .u64 (q : Nat), .int .u64 (r : Nat)]) ∧ w' = w := by
  have D := Div64_ok u c y _ _ _ _ q r w hu0 hu hy1 hy2 rfl rfl rfl rfl hc eq er
  clear eq er hy1 hy2 hc hu hu0
  go_enter Tryz.func115, Tryz.ntmps115
  go_wp2_with (go_at_call 135; refine D.mono ?_; rintro e w' ⟨rfl, rfl⟩)
  go_ret2
  exact ⟨rfl, rfl⟩
theorem recip_ok (n s d m : Nat) (w : World) (hd : n * 2 ^ s = d) (h1 : 9223372036854775808 ≤ d) (h2 : d < 18446744073709551615)
    (em : ((18446744073709551615 - d) * 18446744073709551616 + 18446744073709551615) / d = m) :
    Calls Tryz.prog 116 #[.int .u64 (n : Nat)] w fun e w' => e = .returned (.int .u64 (m : Nat)) ∧ w' = w := by
  have N := nlz_ok n s w (by omega) (by omega)
  have D := fun r (h : _ = r) => Div_ok (18446744073709551615 - d) 18446744073709551615 d m r w (by omega) (by omega) h1 (by omega) (by decide) em h
  have D := D _ rfl
  generalize ((18446744073709551615 - d) * 18446744073709551616 + 18446744073709551615) % d = r at D
  have g1 : IntKind.u64.wrap ((n : Int) * 2 ^ s) = (d : Nat) := by
    have e2 : (n : Int) * 2 ^ s = (d : Nat) := by rw [← hd]; simp
    rw [e2, IntKind.wrap_u64]
    omega
  obtain ⟨u, eu⟩ : ∃ u, u = 18446744073709551615 - d := ⟨_, rfl⟩
  rw [← eu] at D
  have hs := (lead_lt (y := n) (s := s) (by omega) (by omega)).2
  have g2 : min s 64 = s := by omega
  have g3 : bits BinOp.xor IntKind.u64 (if IntKind.u64.signed = true then -1 else IntKind.u64.max) (d : Int) = (u : Nat) := by
    rw [show (if IntKind.u64.signed = true then (-1 : Int) else IntKind.u64.max) = 18446744073709551615 from rfl]
    show IntKind.u64.wrap ((BitVec.ofInt 64 18446744073709551615 ^^^ BitVec.ofInt 64 (d : Int)).toNat : Int) = _
    have e : BitVec.ofInt 64 18446744073709551615 ^^^ BitVec.ofInt 64 (d : Int) = ~~~ BitVec.ofNat 64 d := by
      rw [show BitVec.ofInt 64 18446744073709551615 = BitVec.allOnes 64 from rfl, BitVec.ofInt_natCast]
      exact BitVec.allOnes_xor
    rw [e, BitVec.toNat_not, BitVec.toNat_ofNat, IntKind.wrap_u64]
    omega
  clear hs hd h1 h2 em eu
  go_enter Tryz.func116, Tryz.ntmps116
  go_wp2_with fail
  refine N.mono ?_
  rintro e w1 ⟨rfl, rfl⟩
  go_upto_region 4 with fail
  go_wp2_with (go_at_call 115; refine D.mono ?_; rintro e w' ⟨rfl, rfl⟩)
  go_ret
  exact ⟨rfl, rfl⟩
theorem or_zero_u (u : Nat) (h : u < 18446744073709551616) : bits .or .u64 (u : Int) 0 = (u : Nat) := by
  show IntKind.u64.wrap ((BitVec.ofInt 64 (u : Int) ||| BitVec.ofInt 64 0).toNat : Int) = _
  rw [show BitVec.ofInt 64 0 = 0#64 from rfl, BitVec.or_zero, IntKind.wrap_u64, BitVec.toNat_ofInt]
  omega
theorem pow_facts {n s d : Nat} (hd : n * 2 ^ s = d) (hn : 2 ≤ n) (hn2 : n < 9223372036854775808) (h1 : 9223372036854775808 ≤ d) (h2 : d < 18446744073709551616) :
    1 ≤ s ∧ s ≤ 62 ∧ 2 ≤ 2 ^ s ∧ 2 * 2 ^ s ≤ d ∧ (1 : Int) / 2 ^ (64 - s) = 0 := by
  have s1 : 1 ≤ s := by
    rcases Nat.eq_zero_or_pos s with rfl | h
    · omega
    · exact h
  have e1 : 2 * 2 ^ s ≤ d := by rw [← hd]; exact Nat.mul_le_mul_right _ hn
  have s2 : s ≤ 62 := by
    refine Nat.le_of_not_lt fun h => ?_
    have : 2 ^ 63 ≤ 2 ^ s := Nat.pow_le_pow_right (by decide) h
    have e : (2 : Nat) ^ 63 = 9223372036854775808 := by decide
    omega
  have e2 : 2 ≤ 2 ^ s := by
    have : 2 ^ 1 ≤ 2 ^ s := Nat.pow_le_pow_right (by decide) s1
    exact this
  refine ⟨s1, s2, e2, e1, ?_⟩
  have : 2 ^ 1 ≤ 2 ^ (64 - s) := Nat.pow_le_pow_right (by decide) (by omega)
  have h4 : (1 : Int) < ((2 ^ (64 - s) : Nat) : Int) := by omega
  exact Int.ediv_eq_zero_of_lt (by omega) (by simpa using h4)
set_option maxRecDepth 100000 in
/-- The upper word of 2^64. -/
theorem divWW_hi (n s d m : Nat) (w : World) (hd : n * 2 ^ s = d) (hn : 2 ≤ n) (hn2 : n < 9223372036854775808) (h1 : 9223372036854775808 ≤ d) (h2 : d < 18446744073709551616) (hm : m < 18446744073709551616) :
    Calls Tryz.prog 117 #[.int .u64 0, .int .u64 1, .int .u64 (n : Nat), .int .u64 (m : Nat)] w fun e w' => e = .returned (.tuple #[.int .u64 0, .int .u64 1]) ∧ w' = w := by
  obtain ⟨s1, s2, e2, e1, k4⟩ := pow_facts hd hn hn2 h1 h2
  obtain ⟨S, hS⟩ : ∃ S, S = 2 ^ s := ⟨_, rfl⟩
  have N := nlz_ok n s w (by omega) (by omega)
  have M1 := Mul_ok m 0 0 0 hm (by decide) (by simp) (by simp) w
  have A1 := Add_ok 0 S 0 S 0 (by decide) (by omega) (by omega) w
  have A2 := Add_ok 0 0 0 0 0 (by decide) (by decide) (by decide) w
  have M2 := Mul_ok d 0 0 0 h2 (by decide) (by simp) (by simp) w
  have S1 := Sub_ok S 0 0 S 0 (by decide) (by omega) (by unfold bor; rw [if_neg (by omega)]) w
  have S2 := Sub_ok 0 0 0 0 0 (by decide) (by decide) (by decide) w
  have g0 : ((s : Int) == 0) = false := decide_eq_false (by omega)
  have g1 : IntKind.u64.wrap ((n : Int) * 2 ^ s) = (d : Nat) := by
    have e2 : (n : Int) * 2 ^ s = (d : Nat) := by rw [← hd]; simp
    rw [e2, IntKind.wrap_u64]
    omega
  have g7 : bits .or .u64 0 0 = 0 := by decide
  have g2 : min s 64 = s := by omega
  have g3 : min (64 - s) 64 = 64 - s := by omega
  have g4 : IntKind.u64.wrap ((2 : Int) ^ s) = (S : Nat) := by
    have e2 : (2 : Int) ^ s = (S : Nat) := by rw [hS]; simp
    rw [e2, IntKind.wrap_u64]
    omega
  have g5 : decide (d ≤ S) = false := decide_eq_false (by omega)
  have g6 : (S : Int) / 2 ^ s = 1 := by
    have e2 : (2 : Int) ^ s = (S : Nat) := by rw [hS]; simp
    rw [e2]
    exact Int.ediv_self (by omega)
  have H := Lib.hid hS
  clear hd hn hn2 h1 h2 hm s1 s2 e1 e2 hS
  go_enter Tryz.func117, Tryz.ntmps117
  go_wp2_with fail
  refine N.mono ?_
  rintro e w1 ⟨rfl, rfl⟩
  go_upto_region 7 with fail
  clear N g0 g1 g3 g4 g7 k4
  go_wp2_with fail
  refine M1.mono ?_
  rintro e w1 ⟨rfl, rfl⟩
  go_wp2_with fail
  refine A1.mono ?_
  rintro e w1 ⟨rfl, rfl⟩
  go_wp2_with fail
  refine A2.mono ?_
  rintro e w1 ⟨rfl, rfl⟩
  go_wp2_with fail
  refine M2.mono ?_
  rintro e w1 ⟨rfl, rfl⟩
  go_wp2_with fail
  refine S1.mono ?_
  rintro e w1 ⟨rfl, rfl⟩
  go_wp2_with fail
  refine S2.mono ?_
  rintro e w1 ⟨rfl, rfl⟩
  go_wp2_with fail
  go_ret2
  exact ⟨rfl, rfl⟩
set_option maxRecDepth 100000 in
/-- The lower word of 2^64, behind a remainder of 1. -/
theorem divWW_lo (n s d m q : Nat) (w : World) (hd : n * 2 ^ s = d) (hn : 2 ≤ n) (hn2 : n < 9223372036854775808) (h1 : 9223372036854775808 ≤ d) (h2 : d < 18446744073709551616)
    (em : ((18446744073709551615 - d) * 18446744073709551616 + 18446744073709551615) / d = m) (eq : 18446744073709551616 / n = q) :
    Calls Tryz.prog 117 #[.int .u64 1, .int .u64 0, .int .u64 (n : Nat), .int .u64 (m : Nat)] w fun e w' => ∃ r : Nat, e = .returned (.tuple #[.int .u64 (q : Nat), .int .u64 (r : Nat)]) ∧ r < 18446744073709551616 ∧ w' = w := by
  obtain ⟨s1, s2, e2, e1, k4⟩ := pow_facts hd hn hn2 h1 h2
  obtain ⟨S, hS⟩ : ∃ S, S = 2 ^ s := ⟨_, rfl⟩
  rw [← hS] at e1 e2
  have N := nlz_ok n s w (by omega) (by omega)
  obtain ⟨t, ht⟩ : ∃ t, t = m * S / 18446744073709551616 := ⟨_, rfl⟩
  obtain ⟨lo, hlo⟩ : ∃ lo, lo = m * S % 18446744073709551616 := ⟨_, rfl⟩
  obtain ⟨r1, r2⟩ := Dv.recip (S := S) (m := m) (t := t) h2 (by omega) em ht.symm
  have hS2 : S < 18446744073709551616 := by omega
  have hm2 : m < 18446744073709551616 := Dv.recip_lt h1 h2 em
  have hlol : lo < 18446744073709551616 := by omega
  -- the guess
  obtain ⟨g, hg⟩ : ∃ g, g = t + S := ⟨_, rfl⟩
  obtain ⟨P, hP⟩ : ∃ P, P = d * g := ⟨_, rfl⟩
  have eP : d * t + d * S = P := by rw [hP, hg, Nat.mul_add]
  rw [eP] at r1 r2
  obtain ⟨c1, c2, c3⟩ := Dv.guess_ok (n := n) (hS ▸ hd) e2 e1 hP r1 r2
  have hq2 : q ≤ 9223372036854775808 := by
    rw [← eq]
    exact Nat.div_le_of_le_mul (by omega)
  rw [eq] at c1 c2
  obtain ⟨R, hR⟩ : ∃ R, R = S * 18446744073709551616 - P := ⟨_, rfl⟩
  rw [← hR] at c1 c2 c3
  have hg2 : g ≤ q := by omega
  obtain ⟨p1, hp1⟩ : ∃ p1, p1 = P / 18446744073709551616 := ⟨_, rfl⟩
  obtain ⟨p0, hp0⟩ : ∃ p0, p0 = P % 18446744073709551616 := ⟨_, rfl⟩
  obtain ⟨b, hb⟩ : ∃ b, b = bor 0 (p0 + 0) := ⟨_, rfl⟩
  have hb1 : (p0 = 0 ∧ b = 0) ∨ (0 < p0 ∧ b = 1) := by
    rw [hb]; unfold bor
    rcases Nat.eq_zero_or_pos p0 with h | h
    · exact Or.inl ⟨h, if_neg (by omega)⟩
    · exact Or.inr ⟨h, if_pos (by omega)⟩
  obtain ⟨b2, hb2⟩ : ∃ b2, b2 = bor S (p1 + b) := ⟨_, rfl⟩
  have M1 := Mul_ok m S t lo hm2 hS2 ht.symm hlo.symm w
  have A1 := Add_ok lo 0 0 lo 0 (by decide) (by omega) (by omega) w
  have A2 := Add_ok t S 0 g 0 (by decide) (by omega) (by omega) w
  have M2 := Mul_ok d g p1 p0 h2 (by omega) (by rw [← hP]; exact hp1.symm) (by rw [← hP]; exact hp0.symm) w
  have S1 := Sub_ok 0 p0 0 (R % 18446744073709551616) b (by decide) (by omega) hb.symm w
  have S2 := Sub_ok S p1 b (R / 18446744073709551616) b2 (by omega) (by omega) hb2.symm w
  have g0 : ((s : Int) != 0) = true := by rw [bne_iff_ne]; omega
  have g1 : IntKind.u64.wrap ((n : Int) * 2 ^ s) = (d : Nat) := by
    have e2 : (n : Int) * 2 ^ s = (d : Nat) := by rw [← hd]; simp
    rw [e2, IntKind.wrap_u64]
    omega
  have g7 := or_zero_u S hS2
  have g2 : min s 64 = s := by omega
  have g4 : IntKind.u64.wrap ((2 : Int) ^ s) = (S : Nat) := by
    have e2 : (2 : Int) ^ s = (S : Nat) := by rw [hS]; simp
    rw [e2, IntKind.wrap_u64]
    omega
  -- the last number's way down
  have fin : ∀ ρ : Nat, ρ < 18446744073709551616 → ∃ z : Nat, (ρ : Int) / 2 ^ s = (z : Nat) ∧ z < 18446744073709551616 := fun ρ h => by
    refine ⟨ρ / 2 ^ s, ?_, ?_⟩
    · have e : (2 : Int) ^ s = ((2 ^ s : Nat) : Int) := by simp
      rw [e, Int.natCast_ediv]
    · exact Nat.lt_of_le_of_lt (Nat.div_le_self _ _) h
  have hd0 : R % 18446744073709551616 < 18446744073709551616 := Nat.mod_lt _ (by decide)
  obtain ⟨x1, hx1⟩ : ∃ x1, x1 = R / 18446744073709551616 := ⟨_, rfl⟩
  obtain ⟨x0, hx0⟩ : ∃ x0, x0 = R % 18446744073709551616 := ⟨_, rfl⟩
  rw [← hx1] at S2
  rw [← hx0] at S1
  have W : (x1 = 1 ∧ ∃ ρ : Nat, ρ < d ∧ IntKind.u64.wrap ((x0 : Int) - d) = (ρ : Nat) ∧ q = g + 1) ∨ (x1 = 0 ∧ d ≤ x0 ∧ ∃ ρ : Nat, ρ < d ∧ IntKind.u64.wrap ((x0 : Int) - d) = (ρ : Nat) ∧ q = g + 1) ∨ (x1 = 0 ∧ x0 < d ∧ q = g) := by
    rcases Nat.lt_or_ge R 18446744073709551616 with h | h
    · have a1 : x1 = 0 := by omega
      have a0 : x0 = R := by omega
      rcases Nat.lt_or_ge R d with h' | h'
      · exact Or.inr (Or.inr ⟨a1, by omega, c1 h'⟩)
      · exact Or.inr (Or.inl ⟨a1, by omega, R - d, by omega, by rw [IntKind.wrap_u64]; omega, c2 h'⟩)
    · have a1 : x1 = 1 := by omega
      exact Or.inl ⟨a1, R - d, by omega, by rw [IntKind.wrap_u64]; omega, c2 (by omega)⟩
  have hdl := Lib.hid (And.intro h2 (And.intro hx0 hd0))
  have hq3 : IntKind.u64.wrap ((g : Int) + 1) = ((g + 1 : Nat) : Int) := by rw [IntKind.wrap_u64]; omega
  have FIN := Lib.hid fin
  clear hd hn hn2 h1 h2 em eq s1 s2 e1 e2 hS ht hlo r1 r2 hS2 hm2 hlol hg hP eP c1 c2 c3 hq2 hR hg2 hp1 hp0 hb hb1 hb2 fin hd0 hx1 hx0 k4
  rcases W with ⟨rfl, ρ, h1, h2, rfl⟩ | ⟨rfl, h0, ρ, h1, h2, rfl⟩ | ⟨rfl, h0, rfl⟩
  · obtain ⟨z, hz, hz2⟩ := FIN.out ρ (by have := hdl.out; omega)
    have t1 : decide (d ≤ ρ) = false := decide_eq_false (by omega)
    have HZ := Lib.hid hz2; clear hz2 h1
    go_enter Tryz.func117, Tryz.ntmps117
    go_wp2_with fail
    refine N.mono ?_
    rintro e w1 ⟨rfl, rfl⟩
    go_upto_region 7 with fail
    clear N g0 g1 g4 g7
    go_wp2_with fail
    refine M1.mono ?_
    rintro e w1 ⟨rfl, rfl⟩
    go_wp2_with fail
    refine A1.mono ?_
    rintro e w1 ⟨rfl, rfl⟩
    go_wp2_with fail
    refine A2.mono ?_
    rintro e w1 ⟨rfl, rfl⟩
    go_wp2_with fail
    refine M2.mono ?_
    rintro e w1 ⟨rfl, rfl⟩
    go_wp2_with fail
    refine S1.mono ?_
    rintro e w1 ⟨rfl, rfl⟩
    go_wp2_with fail
    refine S2.mono ?_
    rintro e w1 ⟨rfl, rfl⟩
    go_wp2_with fail
    go_ret2
    exact ⟨z, rfl, HZ.out, rfl⟩
  · obtain ⟨z, hz, hz2⟩ := FIN.out ρ (by have := hdl.out; omega)
    have t1 : decide (d ≤ x0) = true := decide_eq_true (by omega)
    have HZ := Lib.hid hz2; clear hz2 h1 h0
    go_enter Tryz.func117, Tryz.ntmps117
    go_wp2_with fail
    refine N.mono ?_
    rintro e w1 ⟨rfl, rfl⟩
    go_upto_region 7 with fail
    clear N g0 g1 g4 g7
    go_wp2_with fail
    refine M1.mono ?_
    rintro e w1 ⟨rfl, rfl⟩
    go_wp2_with fail
    refine A1.mono ?_
    rintro e w1 ⟨rfl, rfl⟩
    go_wp2_with fail
    refine A2.mono ?_
    rintro e w1 ⟨rfl, rfl⟩
    go_wp2_with fail
    refine M2.mono ?_
    rintro e w1 ⟨rfl, rfl⟩
    go_wp2_with fail
    refine S1.mono ?_
    rintro e w1 ⟨rfl, rfl⟩
    go_wp2_with fail
    refine S2.mono ?_
    rintro e w1 ⟨rfl, rfl⟩
    go_wp2_with fail
    go_ret2
    exact ⟨z, rfl, HZ.out, rfl⟩
  · obtain ⟨z, hz, hz2⟩ := FIN.out x0 (by have := hdl.out; omega)
    have t1 : decide (d ≤ x0) = false := decide_eq_false (by omega)
    have HZ := Lib.hid hz2; clear hz2 h0
    go_enter Tryz.func117, Tryz.ntmps117
    go_wp2_with fail
    refine N.mono ?_
    rintro e w1 ⟨rfl, rfl⟩
    go_upto_region 7 with fail
    clear N g0 g1 g4 g7
    go_wp2_with fail
    refine M1.mono ?_
    rintro e w1 ⟨rfl, rfl⟩
    go_wp2_with fail
    refine A1.mono ?_
    rintro e w1 ⟨rfl, rfl⟩
    go_wp2_with fail
    refine A2.mono ?_
    rintro e w1 ⟨rfl, rfl⟩
    go_wp2_with fail
    refine M2.mono ?_
    rintro e w1 ⟨rfl, rfl⟩
    go_wp2_with fail
    refine S1.mono ?_
    rintro e w1 ⟨rfl, rfl⟩
    go_wp2_with fail
    refine S2.mono ?_
    rintro e w1 ⟨rfl, rfl⟩
    go_wp2_with fail
    go_ret2
    exact ⟨z, rfl, HZ.out, rfl⟩
end Go.Proofs.YtabgeonlodmpiaaGreatDoor
