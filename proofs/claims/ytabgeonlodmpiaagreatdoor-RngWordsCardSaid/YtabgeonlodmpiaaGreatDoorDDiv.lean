/- math/bits: Div64, Div; math/big: reciprocalWord, divWW. -/
import Derived.Test.YtabgeonlodmpiaaGreatDoorDLen
import Derived.Test.YtabgeonlodmpiaaGreatDoorDMath
import Derived.Deep.DeepCutAuto
import Derived.Deep.CutBlock
set_option linter.unusedVariables false
namespace Go.Proofs.YtabgeonlodmpiaaGreatDoor
open Go.RowKit

/-- The upper word is 0. -/
theorem Div64_small (x y : Nat) (w : World) (hy : 0 < y) (hy2 : y < 18446744073709551616) (hx : x < 18446744073709551616) :
    Calls Tryz.prog 135 #[.int .u64 0, .int .u64 (x : Nat), .int .u64 (y : Nat)] w fun e w' => e = .returned (.tuple #[.int .u64 ((x / y : Nat) : Int), .int .u64 ((x % y : Nat) : Int)]) ∧ ∃ m, w' = w.drewN m := by
  have k0 : ((y : Int) == 0) = false := decide_eq_false (by omega)
  have k1 : decide ((y : Int) ≤ 0) = false := decide_eq_false (by omega)
  have k2 : (x : Int).tdiv (y : Int) = ((x / y : Nat) : Int) := (Int.ofNat_tdiv x y).symm
  have k3 : (x : Int).tmod (y : Int) = ((x % y : Nat) : Int) := (Int.ofNat_tmod x y).symm
  have k4 : IntKind.u64.wrap ((x / y : Nat) : Int) = ((x / y : Nat) : Int) := by rw [IntKind.wrap_u64]; have := Nat.div_le_self x y; generalize x / y = q at *; omega
  generalize x / y = q at *
  generalize x % y = r at *
  go_enter Tryz.func135, Tryz.ntmps135
  go_wp2_with fail
  go_quiet (fail)
  go_wp2_with fail
  go_ret2
  exact ⟨rfl, _, rfl⟩

/-- What a round of the loop over a digit's guesses finds. -/
structure Guess (u y a b d q r : Nat) : Prop where
  eq : u = q * a + r
  up : u * 4294967296 + d < (q + 1) * y
  hi : q ≤ 4294967297
  lo : r < 4294967296
/-- The digit's place: what does not turn. -/
structure Place (u y a b d : Nat) : Prop where
  hy : y = a * 4294967296 + b
  hb : b < 4294967296
  ha : 2147483648 ≤ a
  ha2 : a < 4294967296
  hd : d < 4294967296
  hu : u < y
theorem Guess.first {u y a b d : Nat} (P : Place u y a b d) : Guess u y a b d (u / a) (u % a) :=
  ⟨(Nat.div_add_mod' u a).symm, Dv.start_up P.hy (by have := P.ha; omega) P.hd, Dv.start_le P.hy P.hu P.ha P.hb, Nat.lt_trans (Nat.mod_lt _ (by have := P.ha; omega)) P.ha2⟩
theorem Guess.over {u y a b d q r : Nat} (P : Place u y a b d) (G : Guess u y a b d q r) (h : u * 4294967296 + d < q * y) : 1 ≤ q ∧ u = (q - 1) * a + (r + a) ∧ u * 4294967296 + d < (q - 1 + 1) * y ∧ q - 1 ≤ 4294967296 ∧ r + a < 8589934592 := by
  have h1 : 1 ≤ q := by
    rcases Nat.eq_zero_or_pos q with rfl | h1
    · omega
    · exact h1
  refine ⟨h1, Dv.step_down G.eq h1, by rw [Nat.sub_add_cancel h1]; exact h, by have := G.hi; omega, by have := G.lo; have := P.ha2; omega⟩
theorem Guess.next {u y a b d q r : Nat} (P : Place u y a b d) (G : Guess u y a b d q r) (h : u * 4294967296 + d < q * y) (hr : r + a < 4294967296) : Guess u y a b d (q - 1) (r + a) := by
  obtain ⟨-, h1, h2, h3, -⟩ := G.over P h
  exact ⟨h1, h2, by omega, hr⟩
theorem Guess.stop {u y a b d q r : Nat} (P : Place u y a b d) (G : Guess u y a b d q r) (h : u * 4294967296 + d < q * y) (hr : 4294967296 ≤ r + a) : (u * 4294967296 + d) / y = q - 1 := by
  obtain ⟨-, h1, h2, h3, -⟩ := G.over P h
  exact Dv.digit (Dv.under P.hy h1 P.hb h3 hr) h2
theorem Guess.found {u y a b d q r : Nat} (P : Place u y a b d) (G : Guess u y a b d q r) (h : ¬ u * 4294967296 + d < q * y) : (u * 4294967296 + d) / y = q := Dv.digit (by omega) G.up

/-- The numbers of a test. -/
theorem test_facts {u y a b d q r : Nat} (P : Place u y a b d) (hq : q < 4294967296) (hr : r < 4294967296) : ∃ z s : Nat, IntKind.u64.wrap ((q : Int) * (b : Int)) = (z : Nat) ∧ IntKind.u64.wrap (4294967296 * (r : Int)) = ((4294967296 * r : Nat) : Int) ∧
    IntKind.u64.wrap (4294967296 * (r : Int)) = 4294967296 * (r : Int) ∧ IntKind.u64.wrap (4294967296 * (r : Int) + (d : Int)) = (s : Nat) ∧ (s < z ↔ 4294967296 * r + d < q * b) := by
  have h : q * b ≤ 4294967295 * 4294967295 := Nat.mul_le_mul (by omega) (by have := P.hb; omega)
  have hd := P.hd
  refine ⟨q * b, 4294967296 * r + d, ?_, ?_, ?_, ?_, Iff.rfl⟩
  · rw [Mu.mulN]; exact Mu.wrapN _ (by omega)
  · rw [IntKind.wrap_u64]; omega
  · rw [IntKind.wrap_u64]; omega
  · rw [IntKind.wrap_u64]; omega
/-- What is left behind a digit. -/
theorem sub_facts {u d y : Nat} (hy2 : y < 18446744073709551616) (hy : 0 < y) : ∃ A1 A2 A3 : Nat, IntKind.u64.wrap ((u : Int) * 4294967296) = (A1 : Nat) ∧ IntKind.u64.wrap ((A1 : Int) + (d : Int)) = (A2 : Nat) ∧
    IntKind.u64.wrap ((((u * 4294967296 + d) / y : Nat) : Int) * (y : Int)) = (A3 : Nat) ∧ IntKind.u64.wrap ((A2 : Int) - (A3 : Int)) = (((u * 4294967296 + d) % y : Nat) : Int) := by
  have e := Dv.left_over (u * 4294967296 + d) y
  have hl := Nat.mod_lt (u * 4294967296 + d) hy
  have hle : (u * 4294967296 + d) / y * y ≤ u * 4294967296 + d := Nat.div_mul_le_self _ _
  refine ⟨u * 4294967296 % 18446744073709551616, (u * 4294967296 + d) % 18446744073709551616, (u * 4294967296 + d) / y * y % 18446744073709551616, ?_, ?_, ?_, ?_⟩
  · rw [IntKind.wrap_u64]; omega
  · rw [IntKind.wrap_u64]; omega
  · rw [Mu.mulN]; exact Mu.wrapM _
  · rw [← e] at hl ⊢
    rw [IntKind.wrap_u64]
    generalize (u * 4294967296 + d) / y * y = X at *
    omega
theorem Div64_ok (u c y a b c1 c0 Q R : Nat) (w : World) (hu0 : 0 < u) (hu : u < y) (hy1 : 9223372036854775808 ≤ y) (hy2 : y < 18446744073709551616)
    (ha : y / 4294967296 = a) (hb : y % 4294967296 = b) (h1 : c / 4294967296 = c1) (h0 : c % 4294967296 = c0) (hc : c < 18446744073709551616) (eQ : (u * 18446744073709551616 + c) / y = Q) (eR : (u * 18446744073709551616 + c) % y = R) :
    Calls Tryz.prog 135 #[.int .u64 (u : Nat), .int .u64 (c : Nat), .int .u64 (y : Nat)] w fun e w' => e = .returned (.tuple #[.int .u64 (Q : Nat), .int .u64 (R : Nat)]) ∧ w' = w := by
  have HQR := Lib.hid (And.intro eQ eR); clear eQ eR
  have L := LeadingZeros64_ok y 0 w (by omega) (by omega)
  have k0 : ((y : Int) == 0) = false := decide_eq_false (by omega)
  have k1 : decide (y ≤ u) = false := decide_eq_false (by omega)
  have fy : IntKind.u64.wrap (y : Int) = (y : Nat) := Mu.wrapN y hy2
  have fu : IntKind.u64.wrap (u : Int) = (u : Nat) := Mu.wrapN u (by omega)
  have fc : IntKind.u64.wrap (c : Int) = (c : Nat) := Mu.wrapN c hc
  have k2 : ((u : Int) == 0) = false := decide_eq_false (by omega)
  have f1 : (y : Int) / 4294967296 = (a : Nat) := by omega
  have ka : ¬ a = 0 := by omega
  have f2 : bits .and .u64 (y : Int) 4294967295 = (b : Nat) := by rw [Mu.maskN y hy2, hb]
  have f3 : (c : Int) / 18446744073709551616 = 0 := by omega
  have f4 : bits .or .u64 (u : Int) 0 = (u : Nat) := by
    show IntKind.u64.wrap ((BitVec.ofInt 64 (u : Int) ||| BitVec.ofInt 64 0).toNat : Int) = _
    rw [show BitVec.ofInt 64 0 = 0#64 from rfl, BitVec.or_zero, IntKind.wrap_u64, BitVec.toNat_ofInt]
    omega
  have f5 : (c : Int) / 4294967296 = (c1 : Nat) := by omega
  have f6 : bits .and .u64 (c : Int) 4294967295 = (c0 : Nat) := by rw [Mu.maskN c hc, h0]
  have P1 : Place u y a b c1 := ⟨by omega, by omega, by omega, by omega, by omega, hu⟩
  have G1 := Guess.first P1
  have f7 : (u : Int).tdiv (a : Int) = ((u / a : Nat) : Int) := (Int.ofNat_tdiv u a).symm
  obtain ⟨q, eq⟩ : ∃ q, q = u / a := ⟨_, rfl⟩
  obtain ⟨r, er⟩ : ∃ r, r = u % a := ⟨_, rfl⟩
  rw [← eq, ← er] at G1
  rw [← eq] at f7
  have hq := G1.hi
  have hr := G1.lo
  have f8 : IntKind.u64.wrap (q : Int) = (q : Nat) := Mu.wrapN q (by omega)
  obtain ⟨p, ep⟩ : ∃ p, p = q * a := ⟨_, rfl⟩
  have hu2 := G1.eq
  rw [← ep] at hu2
  have f9 : IntKind.u64.wrap ((q : Int) * (a : Int)) = (p : Nat) := by rw [Mu.mulN, ← ep]; exact Mu.wrapN p (by omega)
  have f10 : IntKind.u64.wrap ((u : Int) - (p : Int)) = (r : Nat) := by rw [IntKind.wrap_u64]; omega
  have HH := Lib.hid (And.intro hu0 (And.intro hu (And.intro hy1 (And.intro hy2 (And.intro ha (And.intro hb (And.intro h1 (And.intro h0 (And.intro hc (And.intro P1 G1))))))))))
  clear hu0 hu hy1 hy2 ha hb h1 h0 hc P1 G1 eq er ep hu2 hq hr
  go_enter Tryz.func135, Tryz.ntmps135
  go_upto_block 0 with (go_at_call 148; refine L.mono ?_; rintro e w1 ⟨rfl, rfl⟩)
  go_cut [15] (fun qv wx => qv = .int .u64 (((u * 4294967296 + c1) / y : Nat) : Int) ∧ wx = w1)
  case first =>
    go_wp2_with fail
    go_loopg [15, 16] q (fun gh qv rv wr => ∃ q r : Nat, gh = q ∧ qv = .int .u64 (q : Nat) ∧ rv = .int .u64 (r : Nat) ∧ Guess u y a b c1 q r ∧ wr = w1)
    case atStart => exact ⟨q, r, rfl, rfl, rfl, HH.out.2.2.2.2.2.2.2.2.2.2, rfl⟩
    case round =>
      obtain ⟨q, r, hgh, rfl, rfl, G, hwr⟩ := hrel
      subst hwr
      have P1 := HH.out.2.2.2.2.2.2.2.2.2.1
      clear f8 f9 f10 f7 f1 f2 f3 f4 f5 f6 fy fu fc k0 k1 k2 ka L
      by_cases hov : u * 4294967296 + c1 < q * y
      · obtain ⟨n1, n2, n3, n4, n5⟩ := G.over P1 hov
        obtain ⟨q2, eq2⟩ : ∃ q2, q2 = q - 1 := ⟨_, rfl⟩
        obtain ⟨r2, er2⟩ : ∃ r2, r2 = r + a := ⟨_, rfl⟩
        have hql := G.hi
        have hrl := G.lo
        have g1 : IntKind.u64.wrap ((q : Int) - 1) = (q2 : Nat) := by rw [IntKind.wrap_u64]; omega
        have g2 : IntKind.u64.wrap ((r : Int) + (a : Int)) = (r2 : Nat) := by rw [IntKind.wrap_u64]; omega
        have X := Lib.hid (And.intro G (And.intro hov (And.intro eq2 (And.intro er2 (And.intro hgh n1)))))
        by_cases hq : 4294967296 ≤ q
        · have t1 : decide ((4294967296 : Int) ≤ (q : Int)) = true := decide_eq_true (by omega)
          by_cases hr : 4294967296 ≤ r2
          · have t6 : decide ((4294967296 : Int) ≤ (r2 : Int)) = true := decide_eq_true (by omega)
            have Y := Lib.hid hr
            clear G hov eq2 er2 hgh n1 n2 n3 n4 n5 hq hr hql hrl P1
            go_wp2_with fail
            go_meet
            case rel =>
              obtain ⟨G, hov, eq2, er2, hgh, n1⟩ := X.out
              exact ⟨by rw [G.stop HH.out.2.2.2.2.2.2.2.2.2.1 hov (by have := Y.out; omega), eq2], rfl⟩
          · have t6 : decide ((4294967296 : Int) ≤ (r2 : Int)) = false := decide_eq_false (by omega)
            have Y := Lib.hid hr
            clear G hov eq2 er2 hgh n1 n2 n3 n4 n5 hq hr hql hrl P1
            go_wp2_with fail
            go_roundg q2
            case measure => have := X.out.2.2.1; have := X.out.2.2.2.2.1; have := X.out.2.2.2.2.2; omega
            case rel =>
              obtain ⟨G, hov, eq2, er2, hgh, n1⟩ := X.out
              refine ⟨q2, r2, rfl, rfl, rfl, ?_, rfl⟩
              rw [eq2, er2]
              exact G.next HH.out.2.2.2.2.2.2.2.2.2.1 hov (by have := Y.out; omega)
        · have t1 : decide ((4294967296 : Int) ≤ (q : Int)) = false := decide_eq_false (by omega)
          obtain ⟨z, s, e1, e2, e3, e4, e5⟩ := test_facts P1 (q := q) (r := r) (by omega) hrl
          have t5 : decide (s < z) = true := decide_eq_true (e5.2 ((Dv.over_iff P1.hy G.eq).2 hov))
          clear e5
          by_cases hr : 4294967296 ≤ r2
          · have t6 : decide ((4294967296 : Int) ≤ (r2 : Int)) = true := decide_eq_true (by omega)
            have Y := Lib.hid hr
            clear G hov eq2 er2 hgh n1 n2 n3 n4 n5 hq hr hql hrl P1
            go_wp2_with fail
            go_meet
            case rel =>
              obtain ⟨G, hov, eq2, er2, hgh, n1⟩ := X.out
              exact ⟨by rw [G.stop HH.out.2.2.2.2.2.2.2.2.2.1 hov (by have := Y.out; omega), eq2], rfl⟩
          · have t6 : decide ((4294967296 : Int) ≤ (r2 : Int)) = false := decide_eq_false (by omega)
            have Y := Lib.hid hr
            clear G hov eq2 er2 hgh n1 n2 n3 n4 n5 hq hr hql hrl P1
            go_wp2_with fail
            go_roundg q2
            case measure => have := X.out.2.2.1; have := X.out.2.2.2.2.1; have := X.out.2.2.2.2.2; omega
            case rel =>
              obtain ⟨G, hov, eq2, er2, hgh, n1⟩ := X.out
              refine ⟨q2, r2, rfl, rfl, rfl, ?_, rfl⟩
              rw [eq2, er2]
              exact G.next HH.out.2.2.2.2.2.2.2.2.2.1 hov (by have := Y.out; omega)
      · have hql := G.hi
        have hrl := G.lo
        have hq : q < 4294967296 := Nat.lt_of_not_le fun h => hov (Dv.big_over P1.hu P1.hd h)
        have t1 : decide ((4294967296 : Int) ≤ (q : Int)) = false := decide_eq_false (by omega)
        obtain ⟨z, s, e1, e2, e3, e4, e5⟩ := test_facts P1 (q := q) (r := r) (by omega) hrl
        have t5 : decide (s < z) = false := decide_eq_false fun h => hov ((Dv.over_iff P1.hy G.eq).1 (e5.1 h))
        have X := Lib.hid (And.intro G hov)
        clear G hov hgh hq hql hrl P1 e5
        go_wp2_with fail
        go_meet
        case rel => exact ⟨by rw [X.out.1.found HH.out.2.2.2.2.2.2.2.2.2.1 X.out.2], rfl⟩
  obtain ⟨hcq, hcw⟩ := hcut
  have hcw := hcw.symm
  subst hcw
  have P1 := HH.out.2.2.2.2.2.2.2.2.2.1
  obtain ⟨hu0, hu, hy1, hy2, ha, hb, h1, h0, hc, -⟩ := HH.out
  obtain ⟨q1, eq1⟩ : ∃ q1, q1 = (u * 4294967296 + c1) / y := ⟨_, rfl⟩
  obtain ⟨v, ev⟩ : ∃ v, v = (u * 4294967296 + c1) % y := ⟨_, rfl⟩
  obtain ⟨A1, A2, A3, s1, s2, s3, s4⟩ := sub_facts (u := u) (d := c1) (y := y) hy2 (by omega)
  rw [← eq1] at s3 hcq
  rw [← ev] at s4
  have hv : v < y := by rw [ev]; exact Nat.mod_lt _ (by omega)
  have P2 : Place v y a b c0 := ⟨P1.hy, P1.hb, P1.ha, P1.ha2, by omega, hv⟩
  have G2 := Guess.first P2
  have f7' : (v : Int).tdiv (a : Int) = ((v / a : Nat) : Int) := (Int.ofNat_tdiv v a).symm
  obtain ⟨q', eq'⟩ : ∃ q', q' = v / a := ⟨_, rfl⟩
  obtain ⟨r', er'⟩ : ∃ r', r' = v % a := ⟨_, rfl⟩
  rw [← eq', ← er'] at G2
  rw [← eq'] at f7'
  have hq := G2.hi
  have hr := G2.lo
  have f8' : IntKind.u64.wrap (q' : Int) = (q' : Nat) := Mu.wrapN q' (by omega)
  obtain ⟨p', ep'⟩ : ∃ p', p' = q' * a := ⟨_, rfl⟩
  have hu2 := G2.eq
  rw [← ep'] at hu2
  have f9' : IntKind.u64.wrap ((q' : Int) * (a : Int)) = (p' : Nat) := by rw [Mu.mulN, ← ep']; exact Mu.wrapN p' (by omega)
  have f10' : IntKind.u64.wrap ((v : Int) - (p' : Int)) = (r' : Nat) := by rw [IntKind.wrap_u64]; omega
  have H2 := Lib.hid (And.intro eq1 (And.intro ev (And.intro P2 G2)))
  subst hcq
  clear P1 P2 G2 hu0 hu hy1 hy2 ha hb h1 h0 hc eq1 ev hv eq' er' ep' hu2 hq hr f8 f9 f10 f7 L
  go_upto_block 2 with fail
  go_cut [18] (fun qv wx => qv = .int .u64 (((v * 4294967296 + c0) / y : Nat) : Int) ∧ wx = w1)
  case first =>
    go_wp2_with fail
    go_loopg [18, 16] q' (fun gh qv rv wr => ∃ q r : Nat, gh = q ∧ qv = .int .u64 (q : Nat) ∧ rv = .int .u64 (r : Nat) ∧ Guess v y a b c0 q r ∧ wr = w1)
    case atStart => exact ⟨q', r', rfl, rfl, rfl, H2.out.2.2.2, rfl⟩
    case round =>
      obtain ⟨q, r, hgh, rfl, rfl, G, hwr⟩ := hrel
      subst hwr
      have P1 := H2.out.2.2.1
      clear f8' f9' f10' f7' s1 s2 s3 s4 f1 f2 f3 f4 f5 f6 fy fu fc k0 k1 k2 ka
      by_cases hov : v * 4294967296 + c0 < q * y
      · obtain ⟨n1, n2, n3, n4, n5⟩ := G.over P1 hov
        obtain ⟨q2, eq2⟩ : ∃ q2, q2 = q - 1 := ⟨_, rfl⟩
        obtain ⟨r2, er2⟩ : ∃ r2, r2 = r + a := ⟨_, rfl⟩
        have hql := G.hi
        have hrl := G.lo
        have g1 : IntKind.u64.wrap ((q : Int) - 1) = (q2 : Nat) := by rw [IntKind.wrap_u64]; omega
        have g2 : IntKind.u64.wrap ((r : Int) + (a : Int)) = (r2 : Nat) := by rw [IntKind.wrap_u64]; omega
        have X := Lib.hid (And.intro G (And.intro hov (And.intro eq2 (And.intro er2 (And.intro hgh n1)))))
        by_cases hq : 4294967296 ≤ q
        · have t1 : decide ((4294967296 : Int) ≤ (q : Int)) = true := decide_eq_true (by omega)
          by_cases hr : 4294967296 ≤ r2
          · have t6 : decide ((4294967296 : Int) ≤ (r2 : Int)) = true := decide_eq_true (by omega)
            have Y := Lib.hid hr
            clear G hov eq2 er2 hgh n1 n2 n3 n4 n5 hq hr hql hrl P1
            go_wp2_with fail
            go_meet
            case rel =>
              obtain ⟨G, hov, eq2, er2, hgh, n1⟩ := X.out
              exact ⟨by rw [G.stop H2.out.2.2.1 hov (by have := Y.out; omega), eq2], rfl⟩
          · have t6 : decide ((4294967296 : Int) ≤ (r2 : Int)) = false := decide_eq_false (by omega)
            have Y := Lib.hid hr
            clear G hov eq2 er2 hgh n1 n2 n3 n4 n5 hq hr hql hrl P1
            go_wp2_with fail
            go_roundg q2
            case measure => have := X.out.2.2.1; have := X.out.2.2.2.2.1; have := X.out.2.2.2.2.2; omega
            case rel =>
              obtain ⟨G, hov, eq2, er2, hgh, n1⟩ := X.out
              refine ⟨q2, r2, rfl, rfl, rfl, ?_, rfl⟩
              rw [eq2, er2]
              exact G.next H2.out.2.2.1 hov (by have := Y.out; omega)
        · have t1 : decide ((4294967296 : Int) ≤ (q : Int)) = false := decide_eq_false (by omega)
          obtain ⟨z, s, e1, e2, e3, e4, e5⟩ := test_facts P1 (q := q) (r := r) (by omega) hrl
          have t5 : decide (s < z) = true := decide_eq_true (e5.2 ((Dv.over_iff P1.hy G.eq).2 hov))
          clear e5
          by_cases hr : 4294967296 ≤ r2
          · have t6 : decide ((4294967296 : Int) ≤ (r2 : Int)) = true := decide_eq_true (by omega)
            have Y := Lib.hid hr
            clear G hov eq2 er2 hgh n1 n2 n3 n4 n5 hq hr hql hrl P1
            go_wp2_with fail
            go_meet
            case rel =>
              obtain ⟨G, hov, eq2, er2, hgh, n1⟩ := X.out
              exact ⟨by rw [G.stop H2.out.2.2.1 hov (by have := Y.out; omega), eq2], rfl⟩
          · have t6 : decide ((4294967296 : Int) ≤ (r2 : Int)) = false := decide_eq_false (by omega)
            have Y := Lib.hid hr
            clear G hov eq2 er2 hgh n1 n2 n3 n4 n5 hq hr hql hrl P1
            go_wp2_with fail
            go_roundg q2
            case measure => have := X.out.2.2.1; have := X.out.2.2.2.2.1; have := X.out.2.2.2.2.2; omega
            case rel =>
              obtain ⟨G, hov, eq2, er2, hgh, n1⟩ := X.out
              refine ⟨q2, r2, rfl, rfl, rfl, ?_, rfl⟩
              rw [eq2, er2]
              exact G.next H2.out.2.2.1 hov (by have := Y.out; omega)
      · have hql := G.hi
        have hrl := G.lo
        have hq : q < 4294967296 := Nat.lt_of_not_le fun h => hov (Dv.big_over P1.hu P1.hd h)
        have t1 : decide ((4294967296 : Int) ≤ (q : Int)) = false := decide_eq_false (by omega)
        obtain ⟨z, s, e1, e2, e3, e4, e5⟩ := test_facts P1 (q := q) (r := r) (by omega) hrl
        have t5 : decide (s < z) = false := decide_eq_false fun h => hov ((Dv.over_iff P1.hy G.eq).1 (e5.1 h))
        have X := Lib.hid (And.intro G hov)
        clear G hov hgh hq hql hrl P1 e5
        go_wp2_with fail
        go_meet
        case rel => exact ⟨by rw [X.out.1.found H2.out.2.2.1 X.out.2], rfl⟩
  obtain ⟨hcq, hcw⟩ := hcut
  have hcw := hcw.symm
  subst hcw
  obtain ⟨eq1, ev, P2, -⟩ := H2.out
  obtain ⟨hu0, hu, hy1, hy2, ha, hb, h1, h0, hc, P1, -⟩ := HH.out
  obtain ⟨q2, eq2⟩ : ∃ q2, q2 = (v * 4294967296 + c0) / y := ⟨_, rfl⟩
  obtain ⟨v2, ev2⟩ : ∃ v2, v2 = (v * 4294967296 + c0) % y := ⟨_, rfl⟩
  obtain ⟨B1, B2, B3, z1, z2, z3, z4⟩ := sub_facts (u := v) (d := c0) (y := y) hy2 (by omega)
  rw [← eq2] at z3 hcq
  rw [← ev2] at z4
  have hT := Dv.two u c1 c0 y (by omega)
  rw [show (u * 4294967296 + c1) * 4294967296 + c0 = u * 18446744073709551616 + c from by omega, ← ev, ← eq1, ← eq2, ← ev2] at hT
  obtain ⟨eQ, eR⟩ := HQR.out
  rw [eQ, eR] at hT
  have hQ : Q < 18446744073709551616 := by
    rw [← eQ]
    apply (Nat.div_lt_iff_lt_mul (by omega)).2
    rw [Nat.mul_comm]
    omega
  have x1 : IntKind.u64.wrap ((q1 : Int) * 4294967296) = ((q1 * 4294967296 : Nat) : Int) := by rw [IntKind.wrap_u64]; omega
  have x2 : IntKind.u64.wrap ((q1 : Int) * 4294967296 + (q2 : Int)) = (Q : Nat) := by rw [IntKind.wrap_u64]; omega
  have x3 : IntKind.u64.wrap ((q1 : Int) * 4294967296) = (q1 : Int) * 4294967296 := by rw [IntKind.wrap_u64]; omega
  have x4 : v2 = R := by rw [hT.2]
  have x5 : IntKind.u64.wrap (v2 : Int) = (v2 : Nat) := by
    have : v2 < y := by rw [ev2]; exact Nat.mod_lt _ (by omega)
    exact Mu.wrapN _ (by omega)
  subst hcq
  have X := Lib.hid x4
  clear eq1 ev P2 hu0 hu hy1 hy2 ha hb h1 h0 hc P1 eq2 ev2 hT eQ eR hQ x4 H2 HH HQR
  go_wp2_with fail
  go_ret2
  rw [← X.out]
  exact ⟨rfl, rfl⟩
end Go.Proofs.YtabgeonlodmpiaaGreatDoor
