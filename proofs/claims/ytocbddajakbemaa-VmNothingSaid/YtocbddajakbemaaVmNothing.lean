/- vm: VmNothing's walk. -/
import Derived.Test.YtocbddajakbemaaVBad
import Derived.Test.YtocbddajakbemaaCGiven
import Derived.Laws.BitsAllLaws
set_option linter.unusedVariables false
namespace Go.Proofs.Ytocbddajakbemaa
open Go.RowKit

theorem xor_ne {R : Int} (h0 : 0 ≤ R) (h1 : R ≤ 4294967295) : bits .xor .u32 R 32 ≠ R := by
  obtain ⟨a, rfl⟩ : ∃ a : Nat, R = (a : Nat) := ⟨R.toNat, by omega⟩
  have e := u32_xor_nat a 32 (by omega) (by omega)
  rw [show ((32 : Nat) : Int) = 32 from rfl] at e
  rw [e]
  intro h
  have h : a ^^^ 32 = a := by omega
  have h2 : a ^^^ (a ^^^ 32) = a ^^^ a := by rw [h]
  rw [← Nat.xor_assoc, Nat.xor_self, Nat.zero_xor] at h2
  exact absurd h2 (by decide)
theorem sound_xor {L R Wr : Int} {code : List (Nat × Int)} (h : soundF L R Wr code = some true) {R' : Int} (hR : R' ≠ R) : soundF L R' Wr code = some false := by
  have hm := (sound_means h).2.1
  unfold soundF at h ⊢
  by_cases h1 : L < 0 ∨ 32 < L
  · rw [if_pos h1]
  rw [if_neg h1] at h ⊢
  by_cases h2 : code.all (rightF L.toNat code.length) = false
  · rw [if_pos h2]
  rw [if_neg h2] at h ⊢
  rw [if_pos (fun e => hR (e.symm.trans hm))]
theorem sound_neg {R Wr : Int} {code : List (Nat × Int)} : soundF (-1) R Wr code = some false := by
  unfold soundF
  rw [if_pos (Or.inl (by decide))]
theorem same_zero (W : World) : Calls Try.prog 12 #[.agg #[.int .i64 0, .slice none 0 0], .agg #[.int .i64 0, .slice none 0 0]] W fun e w' => e = .returned (.bool true) ∧ Below W.heap.size W w' :=
  sameEntity_ok 0 0 none none 0 0 [] [] true (by decide) W (fun j u hu => by simp [comps] at hu) (fun j u hu => by simp [comps] at hu) (by decide) (by decide)
theorem rem4 {a : Int} (h0 : 0 ≤ a) : a.tmod 4 = 0 ∨ a.tmod 4 = 1 ∨ a.tmod 4 = 2 ∨ a.tmod 4 = 3 := by
  rw [Int.tmod_eq_emod_of_nonneg h0]; omega
set_option maxRecDepth 100000 in
set_option maxHeartbeats 4000000 in
theorem vmNothing_walk (cA : Option Addr) (cn cc : Nat) (L R Wr ID : Int) (code : List (Nat × Int)) (A : Option Addr) (n cap : Nat) (cs : List Cmp) (seed tick key qf dft : Int) (w : World) (hp : PArg w cA cn cc code) (hx : XArg w A n cap cs)
    (r0 : 0 ≤ R) (r1 : R ≤ 4294967295) (df0 : 0 ≤ dft) (df1 : dft ≤ 255) :
    Calls Try.prog 6 #[.agg #[.slice cA cn cc, .int .i64 L, .int .u32 R, .int .u32 Wr], .agg #[.int .i64 ID, .slice A n cap], .agg #[.int .u64 seed, .int .i64 tick, .int .u64 key, .int .i64 qf], .int .u8 dft] w fun e w' => e = .returned (.bool true) ∧ Below w.heap.size w w' := by
  obtain ⟨w3, e3, li, hb3⟩ := lawIn_new w (.slice cA cn cc) (.int .i64 L) (.int .u32 R) (.int .u32 Wr) (.int .i64 ID) (.slice A n cap) (.int .u64 seed) (.int .i64 tick) (.int .u64 key) (.int .i64 qf)
  obtain ⟨g, eg⟩ : ∃ g, g = w.heap.size := ⟨_, rfl⟩
  rw [← eg] at li
  have AW := fun W => awake_ok W
  have FO : ∀ W, Below w3.heap.size w3 W → Calls Try.prog 9 #[.agg #[.slice cA cn cc, .int .i64 L, .int .u32 R, .int .u32 Wr], .agg #[.int .i64 ID, .slice A n cap]] W fun e w' => ∃ b, e = .returned (.bool b) ∧ (b = true → FineX L R Wr code cs) ∧ Below W.heap.size W w' := by
    intro W hW
    have h1 := (hp.below hb3).below hW
    have h2 := (hx.below hb3).below hW
    exact fine_ok cA cn cc L R Wr ID code A n cap cs W h1.cn h1.op h1.at_ h2.len h2.at_
  have H := Lib.hid (And.intro hp (And.intro hx (And.intro li (And.intro hb3 (And.intro FO eg)))))
  have HB := Lib.hid (And.intro r0 (And.intro r1 (And.intro df0 df1)))
  clear hp hx li hb3 FO r0 r1 df0 df1
  go_enter Try.func6, Try.ntmps6
  go_upto_region 1 with fail
  rw [← e3, ← eg]
  clear e3 eg
  go_upto_region 3 with (go_at_call 8; refine (AW _).mono ?_; rintro e w4 ⟨rfl, hb⟩; have H4 := Lib.hid hb; clear hb)
  clear AW
  obtain ⟨⟨a0, a1, a2, a3⟩, ⟨b0, b1⟩, -⟩ := (H.out.2.2.1.below H4.out).facts
  have FO := H.out.2.2.2.2.1 w4 H4.out
  go_upto_if 19 with (go_at_call 9; refine FO.mono ?_; rintro e w5 ⟨b, rfl, hF, hb⟩; have H5 := Lib.hid (And.intro hF (H4.out.trans (hb.mono H4.out.size))); clear hF hb)
  clear FO
  clear a0 a1 a2 a3 b0 b1
  rcases b with _ | _
  · go_wp2_with fail
    go_ret
    exact ⟨rfl, H.out.2.2.2.1.trans (H5.out.2.mono H.out.2.2.2.1.size)⟩
  have hF := H5.out.1 rfl
  have li5 := H.out.2.2.1.below H5.out.2
  have pa5 := (H.out.1.below H.out.2.2.2.1).below H5.out.2
  have b5 := H.out.2.2.2.1.trans (H5.out.2.mono H.out.2.2.2.1.size)
  obtain ⟨⟨a0, a1, a2, a3⟩, ⟨b0, b1⟩, ⟨d0, d1, d2, d3⟩⟩ := li5.facts
  have GV := Given_ok cA cc L R Wr code (by have := hF.1; omega) w5 pa5.at_
  rw [← pa5.cn] at GV
  have HW := Lib.hid (And.intro li5 (And.intro pa5 (And.intro hF b5)))
  clear hF li5 pa5 b5 H4 H5
  have hl := HW.out.2.2.1.1
  go_upto_region 6 with (first
    | (go_at_call 15; refine GV.mono ?_; rintro e w6 ⟨v1, rfl, ho1, hb6⟩; have TK := Taken_ok v1 L R Wr code (by omega) w6 ho1.at_; have H6 := Lib.hid hb6; clear ho1 hb6)
    | (go_at_call 14; refine TK.mono ?_; rintro e w7 ⟨v2, rfl, ho2, hb7⟩; obtain ⟨A2, c2, ev2, hc2⟩ := own2_code ho2; subst ev2; have H7 := Lib.hid (And.intro hc2 hb7); clear ho2 hc2 hb7))
  obtain ⟨w8, e8⟩ : ∃ w8, w8 = w7.alloc (.cells #[.slice A2 code.length c2, .int .i64 L, .int .u32 R, .int .u32 Wr] 27 (0, 0)) := ⟨_, rfl⟩
  obtain ⟨q8, eq8⟩ : ∃ q, q = w7.heap.size := ⟨_, rfl⟩
  have hb78 : Below w7.heap.size w7 w8 := by rw [e8]; exact (Below.refl _ _).alloc (Nat.le_refl _) _
  have k8 : w8.heap[q8]? = some (.cells #[.slice A2 code.length c2, .int .i64 L, .int .u32 R, .int .u32 Wr] 27 (0, 0)) := by rw [e8, eq8]; exact heap_alloc_new _ _
  have hb58 : Below w5.heap.size w5 w8 := (H6.out.trans (H7.out.2.mono H6.out.size)).trans (hb78.mono (Nat.le_trans H6.out.size H7.out.2.size))
  rw [← e8, ← eq8]
  have hc8 := H7.out.1
  have hop := HW.out.2.1.op
  have hl4 : code.length ≤ 4000 := by omega
  obtain ⟨n2, en2⟩ : ∃ n2, n2 = code.length := ⟨_, rfl⟩
  rw [← en2] at k8 ⊢
  have RBS : ∀ W L' R' f b, Below w7.heap.size w7 W → soundF L' R' Wr code = some b → (b = false ∨ f < 0 ∨ 10000 < f) → Calls Try.prog 10 #[.agg #[.slice A2 n2 c2, .int .i64 L', .int .u32 R', .int .u32 Wr], .agg #[.int .i64 ID, .slice A n cap], .agg #[.int .u64 seed, .int .i64 tick, .int .u64 key], .int .i64 f] W
      fun e w' => e = .returned (.tuple #[.agg #[.int .i64 0, .slice none 0 0], .int .i64 0, .int .i64 2]) ∧ Below W.heap.size W w' := by
    intro W L' R' f b hW hs hbad
    refine Run_bad A2 n2 c2 L' R' Wr ID A n cap seed tick key f b W hbad fun w' hb' => ?_
    exact Sound_ok A2 n2 c2 L' R' Wr code b w' en2 hl4 hop (((hc8.below hW).mono hW.size |>.below hb').mono hb'.size) hs
  have hbw : Below w.heap.size w w8 := HW.out.2.2.2.trans (hb58.mono HW.out.2.2.2.size)
  have HX := Lib.hid (And.intro RBS (And.intro hb78 (And.intro hbw (And.intro eq8 (And.intro k8 (And.intro HW.out.2.2.1.2.2.1 hb58))))))
  obtain ⟨⟨-, -, -, -⟩, ⟨b0, b1⟩, ⟨d0, d1, d2, d3⟩⟩ := (HW.out.1.below hb58).facts
  obtain ⟨p0, p1, p2, p3⟩ := prog_cells k8
  have z1 : w8.frozen? ⟨q8, 1, none⟩ = false := free_of_block k8 1
  have z2 : w8.frozen? ⟨q8, 2, none⟩ = false := free_of_block k8 2
  have FU := fuel_ok qf w8
  obtain ⟨f, ef⟩ : ∃ f, f = fuelF qf := ⟨_, rfl⟩
  have lf := fuelF_le qf
  rw [← ef] at FU lf
  have SZ := fun W => same_zero W
  have u0 : wrap64 (-1 - (f : Int)) = -1 - (f : Int) := by unfold wrap64; omega
  have u1 : wrap64 ((f : Int) + 10001) = (f : Int) + 10001 := by unfold wrap64; omega
  have R4 := rem4 HB.out.2.2.1
  obtain ⟨X, eX⟩ : ∃ X, X = bits .xor .u32 R 32 := ⟨_, rfl⟩
  have eX2 := eX.symm
  have hX : X ≠ R := by rw [eX]; exact xor_ne HB.out.1 HB.out.2.1
  have HLF := Lib.hid (And.intro lf hX)
  have HS57 := Lib.hid (show w5.heap.size ≤ w7.heap.size from Nat.le_trans H6.out.size H7.out.2.size)
  clear RBS hb78 hbw hb58 e8 eq8 en2 hc8 hop hl4 hl ef lf a0 a1 a2 a3 k8 hX eX GV H6 H7
  go_upto_region 7 with (go_at_call 11; refine FU.mono ?_; rintro e w9 ⟨rfl, rfl⟩)
  clear FU
  rcases R4 with r4 | r4 | r4 | r4
  · have RB := HX.out.1 w8 L R (-1 - (f : Int)) true HX.out.2.1 HX.out.2.2.2.2.2.1 (Or.inr (Or.inl (by omega)))
    have HBW := Lib.hid HX.out.2.2.1
    clear u1
    go_wp2_with (first
      | (go_at_call 10; refine RB.mono ?_; rintro e w9 ⟨rfl, hb9⟩; have H9 := Lib.hid hb9; clear hb9)
      | (go_at_call 12; refine (SZ _).mono ?_; rintro e w11 ⟨rfl, hb11⟩; have H11 := Lib.hid hb11; clear hb11))
    go_ret
    exact ⟨rfl, (HBW.out.trans ((H9.out.trans (((Below.refl _ w9).alloc (Nat.le_refl _) _).mono H9.out.size)).mono HBW.out.size)).trans (H11.out.mono (by have := HBW.out.size; have := H9.out.size; simp; omega))⟩
  · have RB := HX.out.1 w8 L R ((f : Int) + 10001) true HX.out.2.1 HX.out.2.2.2.2.2.1 (Or.inr (Or.inr (by omega)))
    have HBW := Lib.hid HX.out.2.2.1
    clear u0
    go_wp2_with (first
      | (go_at_call 10; refine RB.mono ?_; rintro e w9 ⟨rfl, hb9⟩; have H9 := Lib.hid hb9; clear hb9)
      | (go_at_call 12; refine (SZ _).mono ?_; rintro e w11 ⟨rfl, hb11⟩; have H11 := Lib.hid hb11; clear hb11))
    go_ret
    exact ⟨rfl, (HBW.out.trans ((H9.out.trans (((Below.refl _ w9).alloc (Nat.le_refl _) _).mono H9.out.size)).mono HBW.out.size)).trans (H11.out.mono (by have := HBW.out.size; have := H9.out.size; simp; omega))⟩
  · clear u0 u1
    go_upto_region 15 with fail
    obtain ⟨W, eW⟩ : ∃ W, W = w8.setCell ⟨q8, 1, none⟩ (.int .i64 (-1)) := ⟨_, rfl⟩
    have hq : w7.heap.size ≤ q8 := by rw [HX.out.2.2.2.1]; exact Nat.le_refl _
    have hbs : Below w7.heap.size w8 W := by rw [eW]; exact (Below.refl _ _).setCell (by show w7.heap.size ≤ q8; exact hq) _
    have kW : W.heap[q8]? = some (.cells #[.slice A2 n2 c2, .int .i64 (-1), .int .u32 R, .int .u32 Wr] 27 (0, 0)) := by rw [eW]; exact block_setCell HX.out.2.2.2.2.1 1 _
    have hs57 : w5.heap.size ≤ w7.heap.size := HS57.out
    have hbw7 : w.heap.size ≤ w7.heap.size := Nat.le_trans HW.out.2.2.2.size hs57
    have RB := HX.out.1 W (-1) R (f : Nat) false (HX.out.2.1.trans hbs) (sound_neg) (Or.inl rfl)
    have HBW := Lib.hid (HX.out.2.2.1.trans (hbs.mono hbw7))
    obtain ⟨-, ⟨b0, b1⟩, ⟨d0, d1, d2, d3⟩⟩ := (HW.out.1.below (HX.out.2.2.2.2.2.2.trans (hbs.mono hs57))).facts
    obtain ⟨p0, p1, p2, p3⟩ := prog_cells kW
    rw [← eW]
    clear eW hq hbs kW hs57 hbw7
    go_wp2_with (first
      | (go_at_call 10; refine RB.mono ?_; rintro e w9 ⟨rfl, hb9⟩; have H9 := Lib.hid hb9; clear hb9)
      | (go_at_call 12; refine (SZ _).mono ?_; rintro e w11 ⟨rfl, hb11⟩; have H11 := Lib.hid hb11; clear hb11))
    go_ret
    exact ⟨rfl, (HBW.out.trans ((H9.out.trans (((Below.refl _ w9).alloc (Nat.le_refl _) _).mono H9.out.size)).mono HBW.out.size)).trans (H11.out.mono (by have := HBW.out.size; have := H9.out.size; simp; omega))⟩
  · clear u0 u1
    go_upto_region 15 with fail
    obtain ⟨W, eW⟩ : ∃ W, W = w8.setCell ⟨q8, 2, none⟩ (.int .u32 X) := ⟨_, rfl⟩
    have hq : w7.heap.size ≤ q8 := by rw [HX.out.2.2.2.1]; exact Nat.le_refl _
    have hbs : Below w7.heap.size w8 W := by rw [eW]; exact (Below.refl _ _).setCell (by show w7.heap.size ≤ q8; exact hq) _
    have kW : W.heap[q8]? = some (.cells #[.slice A2 n2 c2, .int .i64 L, .int .u32 X, .int .u32 Wr] 27 (0, 0)) := by rw [eW]; exact block_setCell HX.out.2.2.2.2.1 2 _
    have hs57 : w5.heap.size ≤ w7.heap.size := HS57.out
    have hbw7 : w.heap.size ≤ w7.heap.size := Nat.le_trans HW.out.2.2.2.size hs57
    have RB := HX.out.1 W L X (f : Nat) false (HX.out.2.1.trans hbs) (sound_xor HX.out.2.2.2.2.2.1 HLF.out.2) (Or.inl rfl)
    have HBW := Lib.hid (HX.out.2.2.1.trans (hbs.mono hbw7))
    obtain ⟨-, ⟨b0, b1⟩, ⟨d0, d1, d2, d3⟩⟩ := (HW.out.1.below (HX.out.2.2.2.2.2.2.trans (hbs.mono hs57))).facts
    obtain ⟨p0, p1, p2, p3⟩ := prog_cells kW
    rw [← eW]
    clear eW hq hbs kW hs57 hbw7
    go_wp2_with (first
      | (go_at_call 10; refine RB.mono ?_; rintro e w9 ⟨rfl, hb9⟩; have H9 := Lib.hid hb9; clear hb9)
      | (go_at_call 12; refine (SZ _).mono ?_; rintro e w11 ⟨rfl, hb11⟩; have H11 := Lib.hid hb11; clear hb11))
    go_ret
    exact ⟨rfl, (HBW.out.trans ((H9.out.trans (((Below.refl _ w9).alloc (Nat.le_refl _) _).mono H9.out.size)).mono HBW.out.size)).trans (H11.out.mono (by have := HBW.out.size; have := H9.out.size; simp; omega))⟩
end Go.Proofs.Ytocbddajakbemaa
