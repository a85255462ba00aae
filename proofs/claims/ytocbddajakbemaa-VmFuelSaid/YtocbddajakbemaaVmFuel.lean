/- vm: VmFuel's walk. -/
import Derived.Test.YtocbddajakbemaaMV
set_option linter.unusedVariables false
namespace Go.Proofs.Ytocbddajakbemaa
open Go.RowKit

theorem endC_err {cs : List Cmp} {r : Except (Nat × Nat) (Nat × Mst)} (h : endN r ≠ 0) : endC cs r = cs := by
  rcases r with ⟨n, f⟩ | ⟨f, σ⟩
  · rfl
  · exact absurd rfl h
theorem fuel_law {S : Fix} {code : List (Nat × Int)} {n m : Nat} {σ : Mst} {r1 r2 : Except (Nat × Nat) (Nat × Mst)} (cs : List Cmp) (h1 : runF S code n σ = some r1) (h2 : runF S code m σ = some r2) :
    endF r1 ≤ n ∧ endF r2 ≤ m ∧ ((endN r1 = 145 ∧ endF r1 = 0 ∧ endC cs r1 = cs ∧ (m ≤ n → endN r2 = 145)) ∨ (endN r1 ≠ 145 ∧ n - endF r1 ≤ m ∧ endN r2 = endN r1 ∧ m - endF r2 = n - endF r1 ∧ endC cs r2 = endC cs r1) ∨
      (endN r1 ≠ 145 ∧ m < n - endF r1 ∧ endN r2 = 145 ∧ endF r2 = 0 ∧ endC cs r2 = cs)) := by
  obtain ⟨l1, a1, b1⟩ := run_fuel S code n σ r1 h1
  obtain ⟨l2, a2, b2⟩ := run_fuel S code m σ r2 h2
  refine ⟨l1, l2, ?_⟩
  by_cases h : endN r1 = 145
  · obtain ⟨z, q⟩ := a1 h
    exact Or.inl ⟨h, z, endC_err (by omega), fun hm => q m hm r2 h2⟩
  · obtain ⟨u, v⟩ := b1 h
    by_cases hm : n - endF r1 ≤ m
    · obtain ⟨r', hr, e1, e2, e3⟩ := u (m - (n - endF r1))
      rw [show n - endF r1 + (m - (n - endF r1)) = m by omega, h2] at hr
      injection hr with hr
      subst hr
      exact Or.inr (Or.inl ⟨h, hm, e1, by omega, e3 cs⟩)
    · obtain ⟨e1, e2⟩ := v m (by omega) r2 h2
      exact Or.inr (Or.inr ⟨h, by omega, e1, e2, endC_err (by omega)⟩)
set_option maxRecDepth 100000 in
set_option maxHeartbeats 4000000 in
theorem vmFuel_walk (cA : Option Addr) (cn cc : Nat) (L R Wr ID : Int) (code : List (Nat × Int)) (A : Option Addr) (n cap : Nat) (cs : List Cmp) (seed tick key qf other : Int) (w : World) (hp : PArg w cA cn cc code) (hx : XArg w A n cap cs)
    (s0 : 0 ≤ seed) (s1 : seed ≤ 18446744073709551615) (k0 : 0 ≤ key) (k1 : key ≤ 18446744073709551615) :
    Calls Try.prog 5 #[.agg #[.slice cA cn cc, .int .i64 L, .int .u32 R, .int .u32 Wr], .agg #[.int .i64 ID, .slice A n cap], .agg #[.int .u64 seed, .int .i64 tick, .int .u64 key, .int .i64 qf], .int .i64 other] w fun e w' => e = .returned (.bool true) ∧ Below w.heap.size w w' := by
  obtain ⟨w3, e3, li, hb3⟩ := lawIn_new w (.slice cA cn cc) (.int .i64 L) (.int .u32 R) (.int .u32 Wr) (.int .i64 ID) (.slice A n cap) (.int .u64 seed) (.int .i64 tick) (.int .u64 key) (.int .i64 qf)
  obtain ⟨g, eg⟩ : ∃ g, g = w.heap.size := ⟨_, rfl⟩
  rw [← eg] at li
  have AW := fun W => awake_ok W
  have FO : ∀ W, Below w3.heap.size w3 W → Calls Try.prog 9 #[.agg #[.slice cA cn cc, .int .i64 L, .int .u32 R, .int .u32 Wr], .agg #[.int .i64 ID, .slice A n cap]] W fun e w' => ∃ b, e = .returned (.bool b) ∧ (b = true → FineX L R Wr code cs) ∧ Below W.heap.size W w' := by
    intro W hW
    have h1 := (hp.below hb3).below hW
    have h2 := (hx.below hb3).below hW
    exact fine_ok cA cn cc L R Wr ID code A n cap cs W h1.cn h1.op h1.at_ h2.len h2.at_
  have H := Lib.hid (And.intro hp (And.intro hx (And.intro li (And.intro hb3 (And.intro FO eg)))))
  have HB := Lib.hid (And.intro s0 (And.intro s1 (And.intro k0 k1)))
  clear hp hx li hb3 FO s0 s1 k0 k1
  go_enter Try.func5, Try.ntmps5
  go_upto_region 1 with fail
  rw [← e3, ← eg]
  clear e3 eg
  go_upto_region 3 with (go_at_call 8; refine (AW _).mono ?_; rintro e w4 ⟨rfl, hb⟩; have H4 := Lib.hid hb; clear hb)
  clear AW
  obtain ⟨⟨a0, a1, a2, a3⟩, ⟨b0, b1⟩, -⟩ := (H.out.2.2.1.below H4.out).facts
  have FO := H.out.2.2.2.2.1 w4 H4.out
  go_upto_if 22 with (go_at_call 9; refine FO.mono ?_; rintro e w5 ⟨b, rfl, hF, hb⟩; have H5 := Lib.hid (And.intro hF (H4.out.trans (hb.mono H4.out.size))); clear hF hb)
  clear FO
  clear a0 a1 a2 a3 b0 b1
  rcases b with _ | _
  · go_wp2_with fail
    go_ret
    exact ⟨rfl, H.out.2.2.2.1.trans (H5.out.2.mono H.out.2.2.2.1.size)⟩
  have hF := H5.out.1 rfl
  obtain ⟨L', rfl, hL⟩ := sound_locals hF.2.2.1
  have h4 := hF.1
  have h20 := hF.2.1
  obtain ⟨r1, hr1, RUN1⟩ := runs_ok (cA := cA) (cc := cc) (ID := ID) (cs := cs) (seed := seed) (tick := tick) (key := key) _ rfl hF.2.2.1 (by omega) H.out.1.cn H.out.1.op (by omega) H.out.2.1.kind HB.out.1 HB.out.2.1 HB.out.2.2.1 HB.out.2.2.2 (fuelF qf) (fuelF_le qf)
  obtain ⟨r2, hr2, RUN2⟩ := runs_ok (cA := cA) (cc := cc) (ID := ID) (cs := cs) (seed := seed) (tick := tick) (key := key) _ rfl hF.2.2.1 (by omega) H.out.1.cn H.out.1.op (by omega) H.out.2.1.kind HB.out.1 HB.out.2.1 HB.out.2.2.1 HB.out.2.2.2 (fuelF other) (fuelF_le other)
  have FL := fuel_law cs hr1 hr2
  obtain ⟨f1, ef1⟩ : ∃ f, f = fuelF qf := ⟨_, rfl⟩
  obtain ⟨f2, ef2⟩ : ∃ f, f = fuelF other := ⟨_, rfl⟩
  have FU1 := fuel_ok qf w5
  have FU2 := fuel_ok other w5
  have lf1 := fuelF_le qf
  have lf2 := fuelF_le other
  rw [← ef1] at RUN1 FL FU1 lf1
  rw [← ef2] at RUN2 FL FU2 lf2
  obtain ⟨e1, ee1⟩ : ∃ e, e = endN r1 := ⟨_, rfl⟩
  obtain ⟨l1, el1⟩ : ∃ e, e = endF r1 := ⟨_, rfl⟩
  obtain ⟨c1, ec1⟩ : ∃ e, e = endC cs r1 := ⟨_, rfl⟩
  obtain ⟨e2, ee2⟩ : ∃ e, e = endN r2 := ⟨_, rfl⟩
  obtain ⟨l2, el2⟩ : ∃ e, e = endF r2 := ⟨_, rfl⟩
  obtain ⟨c2, ec2⟩ : ∃ e, e = endC cs r2 := ⟨_, rfl⟩
  rw [← ee1, ← el1, ← ec1] at RUN1 FL
  rw [← ee2, ← el2, ← ec2] at RUN2 FL
  have lc1 : c1.length ≤ 1000000 := by rw [ec1, run_length hr1]; omega
  have lc2 : c2.length ≤ 1000000 := by rw [ec2, run_length hr2]; omega
  have lc0 : cs.length ≤ 1000000 := by omega
  have li5 := H.out.2.2.1.below H5.out.2
  have pa5 := (H.out.1.below H.out.2.2.2.1).below H5.out.2
  have xa5 := (H.out.2.1.below H.out.2.2.2.1).below H5.out.2
  have R1 := RUN1 w5 A n cap pa5 xa5
  have HL := Lib.hid (And.intro FL (And.intro RUN2 (And.intro lc1 (And.intro lc2 (And.intro lf1 (And.intro lf2 lc0))))))
  have HW := Lib.hid (And.intro li5 (And.intro pa5 (And.intro xa5 (H.out.2.2.2.1.trans (H5.out.2.mono H.out.2.2.2.1.size)))))
  obtain ⟨⟨a0, a1, a2, a3⟩, ⟨b0, b1⟩, ⟨d0, d1, d2, d3⟩⟩ := li5.facts
  clear lc0 hF hL h4 h20 hr1 hr2 RUN1 RUN2 FL ef1 ef2 ee1 el1 ec1 ee2 el2 ec2 lc1 lc2 li5 pa5 xa5 lf1 lf2 H4
  go_upto_region 6 with (go_at_call 11; first | (refine FU1.mono ?_; rintro e wq ⟨rfl, rfl⟩) | (refine FU2.mono ?_; rintro e wq ⟨rfl, rfl⟩))
  clear FU1 FU2
  go_upto_region 7 with (go_at_call 10; refine R1.mono ?_; rintro e w6 ⟨A6, p6, rfl, ho6, hb6⟩; have H6 := Lib.hid (And.intro ho6 hb6); clear ho6 hb6)
  clear R1 a0 a1 a2 a3 b0 b1 d0 d1 d2 d3
  obtain ⟨w7, e7⟩ : ∃ w7, w7 = w6.alloc (.cells #[.int .i64 ID, .slice A6 c1.length p6] 30 (0, 0)) := ⟨_, rfl⟩
  have hX6 := XBox.new (ID := ID) H6.out.1
  have hb67 : Below w6.heap.size w6 w7 := by rw [e7]; exact (Below.refl _ _).alloc (Nat.le_refl _) _
  rw [← e7] at hX6 ⊢
  obtain ⟨q6, eq6⟩ : ∃ q, q = w6.heap.size := ⟨_, rfl⟩
  rw [← eq6] at hX6 ⊢
  have hb57 : Below w5.heap.size w5 w7 := H6.out.2.trans (hb67.mono H6.out.2.size)
  have li7 := HW.out.1.below hb57
  have R2 := HL.out.2.1 w7 A n cap (HW.out.2.1.below hb57) (HW.out.2.2.1.below hb57)
  obtain ⟨⟨a0, a1, a2, a3⟩, ⟨b0, b1⟩, ⟨d0, d1, d2, d3⟩⟩ := li7.facts
  have H7 := Lib.hid (And.intro hX6 (And.intro hb57 li7))
  clear hX6 hb57 li7 hb67 e7 eq6 H6
  go_upto_region 8 with (go_at_call 10; refine R2.mono ?_; rintro e w8 ⟨A8, p8, rfl, ho8, hb8⟩; have H8 := Lib.hid (And.intro ho8 hb8); clear ho8 hb8)
  clear R2 a0 a1 a2 a3 b0 b1 d0 d1 d2 d3
  obtain ⟨w9, e9⟩ : ∃ w9, w9 = w8.alloc (.cells #[.int .i64 ID, .slice A8 c2.length p8] 30 (0, 0)) := ⟨_, rfl⟩
  have hX8 := XBox.new (ID := ID) H8.out.1
  have hb89 : Below w8.heap.size w8 w9 := by rw [e9]; exact (Below.refl _ _).alloc (Nat.le_refl _) _
  rw [← e9] at hX8 ⊢
  obtain ⟨q8, eq8⟩ : ∃ q, q = w8.heap.size := ⟨_, rfl⟩
  rw [← eq8] at hX8 ⊢
  have hb79 : Below w7.heap.size w7 w9 := H8.out.2.trans (hb89.mono H8.out.2.size)
  have hX6 := H7.out.1.below hb79
  have hx9 := (HW.out.2.2.1.below H7.out.2.1).below hb79
  have hb9 : Below w.heap.size w w9 := (HW.out.2.2.2.trans (H7.out.2.1.mono HW.out.2.2.2.size)).trans (hb79.mono (Nat.le_trans HW.out.2.2.2.size H7.out.2.1.size))
  obtain ⟨-, ⟨b0, b1⟩, -⟩ := (H7.out.2.2.below hb79).facts
  obtain ⟨x0, x1⟩ := hX6.facts
  obtain ⟨y0, y1⟩ := hX8.facts
  obtain ⟨FL, -, lc1, lc2, lf1, lf2, lc0⟩ := HL.out
  obtain ⟨v1, v2, v3⟩ := FL
  have u1 : decide ((l1 : Int) < 0) = false := decide_eq_false (by omega)
  have u2 : decide (f1 < l1) = false := decide_eq_false (by omega)
  have u3 : decide ((l2 : Int) < 0) = false := decide_eq_false (by omega)
  have u4 : decide (f2 < l2) = false := decide_eq_false (by omega)
  obtain ⟨n1, en1⟩ : ∃ k, k = c1.length := ⟨_, rfl⟩
  obtain ⟨n2, en2⟩ : ∃ k, k = c2.length := ⟨_, rfl⟩
  have SXY : c1 = cs → Calls Try.prog 12 #[.agg #[.int .i64 ID, .slice A n cap], .agg #[.int .i64 ID, .slice A6 n1 p6]] w9 fun e w' => e = .returned (.bool true) ∧ Below w9.heap.size w9 w' := by
    intro h; rw [en1, hx9.len]
    exact sameEntity_ok ID ID A A6 cap p6 cs c1 true (by simp [h]) w9 hx9.at_ hX6.at_ lc0 lc1
  have SXZ : c2 = cs → Calls Try.prog 12 #[.agg #[.int .i64 ID, .slice A n cap], .agg #[.int .i64 ID, .slice A8 n2 p8]] w9 fun e w' => e = .returned (.bool true) ∧ Below w9.heap.size w9 w' := by
    intro h; rw [en2, hx9.len]
    exact sameEntity_ok ID ID A A8 cap p8 cs c2 true (by simp [h]) w9 hx9.at_ hX8.at_ lc0 lc2
  have SYZ : c2 = c1 → Calls Try.prog 12 #[.agg #[.int .i64 ID, .slice A6 n1 p6], .agg #[.int .i64 ID, .slice A8 n2 p8]] w9 fun e w' => e = .returned (.bool true) ∧ Below w9.heap.size w9 w' := by
    intro h; rw [en1, en2]
    exact sameEntity_ok ID ID A6 A8 p6 p8 c1 c2 true (by simp [h]) w9 hX6.at_ hX8.at_ lc1 lc2
  rw [← en1] at x1 ⊢
  rw [← en2] at y1 ⊢
  have HS := Lib.hid (And.intro SXY (And.intro SXZ SYZ))
  have HB9 := Lib.hid hb9
  have HLE := Lib.hid (And.intro v1 (And.intro v2 (And.intro lf1 lf2)))
  clear SXY SXZ SYZ hb9 v1 v2 lf1 lf2 lc0 lc1 lc2 hX6 hX8 hx9 hb79 hb89 e9 eq8 en1 en2 H8 H7 HL HW H5 HB
  rcases v3 with ⟨rfl, rfl, hc1, hm⟩ | ⟨hne, hle, rfl, hd, hc⟩ | ⟨hne, hlt, rfl, rfl, hc2⟩
  · have S1 := HS.out.1 hc1
    clear HS hc1
    by_cases hmn : f1 < f2
    · have m1 : decide (f1 < f2) = true := decide_eq_true hmn
      clear hmn hm HLE
      go_wp2_with (go_at_call 12; refine S1.mono ?_; rintro e w10 ⟨rfl, hb⟩; have H10 := Lib.hid hb; clear hb)
      go_ret
      exact ⟨rfl, HB9.out.trans (H10.out.mono HB9.out.size)⟩
    · have m1 : decide (f1 < f2) = false := decide_eq_false hmn
      have hm := hm (by omega)
      subst hm
      clear hmn HLE
      go_wp2_with (go_at_call 12; refine S1.mono ?_; rintro e w10 ⟨rfl, hb⟩; have H10 := Lib.hid hb; clear hb)
      go_ret
      exact ⟨rfl, HB9.out.trans (H10.out.mono HB9.out.size)⟩
  · have S1 := HS.out.2.2 hc
    clear HS hc
    obtain ⟨d, ed⟩ : ∃ d, d = f1 - l1 := ⟨_, rfl⟩
    have t1 : ((e2 : Int) == 145) = false := by simp; omega
    have t2 : ¬ (e2 : Int) = 145 := by omega
    have w1 : wrap64 ((f1 : Int) - (l1 : Int)) = (d : Nat) := by have := HLE.out; unfold wrap64; omega
    have w2 : wrap64 ((f2 : Int) - (l2 : Int)) = (d : Nat) := by have := HLE.out; unfold wrap64; omega
    have m1 : decide (d ≤ f2) = true := decide_eq_true (by omega)
    clear hne hle hd ed HLE
    go_wp2_with (go_at_call 12; refine S1.mono ?_; rintro e w10 ⟨rfl, hb⟩; have H10 := Lib.hid hb; clear hb)
    go_ret
    exact ⟨rfl, HB9.out.trans (H10.out.mono HB9.out.size)⟩
  · have S1 := HS.out.2.1 hc2
    clear HS hc2
    obtain ⟨d, ed⟩ : ∃ d, d = f1 - l1 := ⟨_, rfl⟩
    have t1 : ((e1 : Int) == 145) = false := by simp; omega
    have t2 : ¬ (e1 : Int) = 145 := by omega
    have w1 : wrap64 ((f1 : Int) - (l1 : Int)) = (d : Nat) := by have := HLE.out; unfold wrap64; omega
    have m1 : decide (d ≤ f2) = false := decide_eq_false (by omega)
    clear hne hlt ed HLE
    go_wp2_with (go_at_call 12; refine S1.mono ?_; rintro e w10 ⟨rfl, hb⟩; have H10 := Lib.hid hb; clear hb)
    go_ret
    exact ⟨rfl, HB9.out.trans (H10.out.mono HB9.out.size)⟩
end Go.Proofs.Ytocbddajakbemaa
