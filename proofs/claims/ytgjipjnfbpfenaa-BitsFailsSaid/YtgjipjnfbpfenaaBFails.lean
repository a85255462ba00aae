/- BitsFails. -/
import Derived.Test.YtgjipjnfbpfenaaBOnly
set_option linter.unusedVariables false
namespace Go.Proofs.Ytgjipjnfbpfenaa
open Go.RowKit
open M (bitsOf bitsOf_length codeBits codeBits_length zig zag numOf zeros codeA)

/-- What any reading leaves: an error and nothing left, or what was there or less. -/
def OkEnd (s : List Bool) (V E : Nat) (t : List Bool) (b : Nat) : Prop := b = E ∧ (E = 0 ∨ ((E = 180 ∨ E = 181) ∧ V = 0 ∧ t = []))
theorem getA_end (k : Nat) (s : List Bool) (bad : Nat) (hb : bad = 0 ∨ bad = 180 ∨ bad = 181) : OkEnd s (getA k s bad).1 (getA k s bad).2.1 (getA k s bad).2.2.1 (getA k s bad).2.2.2 := by
  unfold getA OkEnd
  split
  · refine ⟨rfl, Or.inr ⟨?_, rfl, rfl⟩⟩
    show bad = 180 ∨ bad = 181
    omega
  · split
    · exact ⟨rfl, Or.inr ⟨Or.inl rfl, rfl, rfl⟩⟩
    · exact ⟨rfl, Or.inl rfl⟩
theorem getC_end (k : Nat) (s : List Bool) (bad : Nat) (hb : bad = 0 ∨ bad = 180 ∨ bad = 181) : OkEnd s (getC k s bad).1 (getC k s bad).2.1 (getC k s bad).2.2.1 (getC k s bad).2.2.2 := by
  unfold getC OkEnd
  split
  · refine ⟨rfl, Or.inr ⟨?_, rfl, rfl⟩⟩
    show bad = 180 ∨ bad = 181
    omega
  · split
    · exact ⟨rfl, Or.inl rfl⟩
    · rename_i h; exact ⟨rfl, Or.inr ⟨(codeA_err k s h).2, rfl, rfl⟩⟩
theorem readA_end (kd k : Nat) (s : List Bool) (bad : Nat) (hb : bad = 0 ∨ bad = 180 ∨ bad = 181) : OkEnd s (readA kd k s bad).1 (readA kd k s bad).2.1 (readA kd k s bad).2.2.1 (readA kd k s bad).2.2.2 := by
  unfold readA
  split
  · exact getA_end k s bad hb
  · split
    · exact getC_end k s bad hb
    · have := getC_end k s bad hb
      obtain ⟨h1, h2⟩ := this
      refine ⟨h1, ?_⟩
      rcases h2 with h | ⟨h, h3, h4⟩
      · exact Or.inl h
      · exact Or.inr ⟨h, by show zag (getC k s bad).1 = 0; rw [h3]; rfl, h4⟩
theorem getA_bad (k : Nat) {bad : Nat} (h : bad ≠ 0) : getA k [] bad = (0, bad, [], bad) := by unfold getA; rw [if_pos h]
theorem getC_bad (k : Nat) {bad : Nat} (h : bad ≠ 0) : getC k [] bad = (0, bad, [], bad) := by unfold getC; rw [if_pos h]

theorem read_args (br : Nat) (F : List Nat) (s : List Bool) (bad : Nat) (kd k n : Int) (w : World) (h : ROk w br F s bad) (hk : (kd = 0 ∧ (k < 0 ∨ 64 < k)) ∨ (kd = 1 ∧ (k < 0 ∨ 30 < k)) ∨ (kd = 2 ∧ (k < 0 ∨ 30 < k))) :
    Calls Try.prog 23 #[.pointer (some ⟨br, 0, none⟩), .agg #[.int .u8 kd, .int .u64 n, .int .i64 k]] w fun e w' => e = .returned (.tuple #[.int .u64 0, .int .i64 2]) ∧ Below w.heap.size w w' := by
  rcases hk with ⟨rfl, hk⟩ | ⟨rfl, hk⟩ | ⟨rfl, hk⟩
  · exact read_arg0 br F s bad k n w h hk
  · exact read_arg1 br F s bad k n w h hk
  · exact read_arg2 br F s bad k n w h hk
theorem GetSigned_bad {br : Nat} {F : List Nat} {bad k : Nat} {w : World} (h : ROk w br F [] bad) (hb : bad ≠ 0) (hk : k ≤ 30) :
    Calls Try.prog 27 #[.pointer (some ⟨br, 0, none⟩), .int .i64 (k : Int)] w fun e w' => e = .returned (.tuple #[.int .i64 0, .int .i64 (bad : Int)]) ∧ ROk w' br F [] bad ∧ Only br w w' := by
  have := GetSigned_ok br F [] bad k w h hk
  rw [getC_bad k hb] at this
  have e0 : sOf (zag 0) = 0 := by decide
  exact this.mono fun e w' ⟨h1, h2⟩ => ⟨h1.trans (ret2_congr (congrArg (Value.int .i64) e0) rfl), h2⟩
theorem fit_z {kd n k : Int} (K N : Nat) {w : World} (e1 : kd = K) (e2 : n = N) (h1 : K < 256) (h2 : N < 18446744073709551616) (k0 : -9223372036854775808 ≤ k) (k1 : k ≤ 9223372036854775807) :
    Calls Try.prog 26 #[.agg #[.int .u8 kd, .int .u64 n, .int .i64 k]] w fun e w' => e = .returned (itemV K (fitN K N k) (fitK K k)) ∧ Below w.heap.size w w' := by
  subst e1 e2; exact fit_ok K N k w h1 h2 k0 k1

/-- The relation of the reading to the end. -/
def Ends (s : List Bool) (bad : Nat) (e : Int) : Prop := (bad = 0 ∧ (e = 2 ∨ e = 0)) ∨ ((bad = 180 ∨ bad = 181) ∧ e = bad ∧ s = [])

set_option maxRecDepth 100000 in
set_option maxHeartbeats 4000000 in
theorem fails_walk (A C : Option Addr) (na ca nc cc : Nat) (x : Int) (f : Nat → Nat) (t : Its) (w : World) (x0 : -9223372036854775808 ≤ x) (x1 : x ≤ 9223372036854775807)
    (hA : BRow w A na f) (hf : ∀ i, f i < 256) (hna : na ≤ ca) (hca : ca ≤ 9223372036854775807) (hnil : A = none → na = 0 ∧ ca = 0) (hC : Items w w.heap.size C nc t) (hnc : nc ≤ cc) (hcc : cc ≤ 9223372036854775807) :
    Calls Try.prog 8 #[.slice A na ca, .slice C nc cc, .int .i64 x] w fun e w' => e = .returned (.bool true) ∧ Below w.heap.size w w' := by
  obtain ⟨ma, hma⟩ : ∃ m : Nat, (if (40 : Int) < (na : Int) then (40 : Int) else (na : Int)) = (m : Int) := ⟨min na 40, by split <;> omega⟩
  obtain ⟨mc, hmc⟩ : ∃ m : Nat, (if (20 : Int) < (nc : Int) then (20 : Int) else (nc : Int)) = (m : Int) := ⟨min nc 20, by split <;> omega⟩
  have hm1 : ma ≤ 40 ∧ ma ≤ na := by split at hma <;> omega
  have hm2 : mc ≤ 20 ∧ mc ≤ nc := by split at hmc <;> omega
  obtain ⟨M1, hM1⟩ : ∃ M : Int, (if x < 65 then 65 else x) = M := ⟨_, rfl⟩
  obtain ⟨M2, hM2⟩ : ∃ M : Int, (if (-1 : Int) < x then -1 else x) = M := ⟨_, rfl⟩
  obtain ⟨M3, hM3⟩ : ∃ M : Int, (if x < 31 then 31 else x) = M := ⟨_, rfl⟩
  have b1 : 65 ≤ M1 := by rw [← hM1]; split <;> omega
  have b2 : M2 ≤ -1 := by rw [← hM2]; split <;> omega
  have b3 : 31 ≤ M3 := by rw [← hM3]; split <;> omega
  have hrow : BRow w A ma (M.byteOf (bitsB f ma)) := BRow.congr (BRow.fewer hA hm1.2) fun i hi => by rw [byteOf_bitsB f hi (hf i)]
  have hnil2 : A = none → ma = 0 ∧ ca = 0 := fun e => by have := hnil e; omega
  have H := Lib.hid (And.intro hrow (And.intro hnil2 (hC.less hm2.2)))
  clear hA hf hrow hnil hnil2 hC
  go_enter Try.func8, Try.ntmps8
  go_wp2_with fail
  refine (NewReader_ok A ma ca (bitsB f ma) w H.out.1 (bitsB_length f ma) (by omega) H.out.2.1).mono ?_
  rintro e w1 ⟨br, F, rfl, h1, d1, bb1⟩
  have hbr : w.heap.size ≤ br := d1 br (by simp)
  have H1 := Lib.hid (And.intro h1 bb1); clear h1 bb1 d1
  go_wp2_with fail
  go_loopg [37] mc (fun gh i wr => ∃ j : Nat, gh = mc - j ∧ j ≤ mc ∧ i = .int .i64 j ∧ ∃ s bad, (ROk wr br F s bad ∧ (bad = 0 ∨ bad = 180 ∨ bad = 181) ∧ Below w.heap.size w wr))
  case atStart => exact ⟨0, rfl, by omega, rfl, _, 0, H1.out.1, Or.inl rfl, H1.out.2⟩
  case round =>
    obtain ⟨j, hgh, hj, rfl, s, bad, hr, hbad, hb⟩ := hrel
    have Hgh := Lib.hid hgh; clear hgh
    have hsl := hr.length
    have HR := Lib.hid (And.intro hr (And.intro hbad hb)); clear hr hbad hb
    obtain ⟨L, hL⟩ : ∃ L, L = s.length := ⟨_, rfl⟩
    rw [← hL] at hsl
    have HL := Lib.hid hL; clear hL
    by_cases hlt : j < mc
    · obtain ⟨ad, hAd, hab, c0, c1, c2, k0, k1, k2, k3⟩ := H.out.2.2 j hlt
      have hk0 := HR.out.2.2.cell (p := ad.add (j * 3)) (by rw [Addr.add]; split <;> exact hab)
      have hk1 := HR.out.2.2.cell (p := ad.add (j * 3 + 1)) (by rw [Addr.add]; split <;> exact hab)
      have hk2 := HR.out.2.2.cell (p := ad.add (j * 3 + 2)) (by rw [Addr.add]; split <;> exact hab)
      rw [c0] at hk0
      rw [c1, add_in ad (j * 3) 1 (by omega)] at hk1
      rw [c2, add_in ad (j * 3) 2 (by omega)] at hk2
      have HK := Lib.hid (And.intro k0 (And.intro k1 (And.intro k2 k3)))
      clear c0 c1 c2 hab k0 k1 k2 k3
      have i0 : (0 : Int) ≤ (j : Int) := by omega
      have i1 : (j : Int) < (mc : Int) := by omega
      subst hAd
      go_wp2_with fail
      refine (Left_to (L : Int) (RAt.alloc HR.out.1 _) (by rw [HL.out])).mono ?_
      rintro e w2 ⟨rfl, m2, hw2⟩
      have H2 := Lib.hid (show ROk w2 br F s bad ∧ w2.heap[wr.heap.size]? = some (.cells #[.int .u8 (t.kd j : Nat), .int .u64 (t.nn j : Nat), .int .i64 (t.kk j)] 48 (0, 0)) ∧ Below w.heap.size w w2 from by rw [hw2]; exact ⟨(RAt.alloc HR.out.1 _).drewN m2, heap_alloc_new wr _, then_drewN (then_alloc HR.out.2.2 _) m2⟩)
      clear hw2 hk0 hk1 hk2
      go_wp2_with fail
      obtain ⟨W2, hW2⟩ : ∃ W2, W2 = w2.alloc (.cells #[.int .u8 0, .int .u64 0, .int .i64 M1, .int .u8 0, .int .u64 0, .int .i64 M2, .int .u8 1, .int .u64 0, .int .i64 M3, .int .u8 2, .int .u64 0, .int .i64 M2] 48) := ⟨_, rfl⟩
      rw [← hW2]
      have HW := Lib.hid (show ROk W2 br F s bad ∧ W2.heap[wr.heap.size]? = some (.cells #[.int .u8 (t.kd j : Nat), .int .u64 (t.nn j : Nat), .int .i64 (t.kk j)] 48 (0, 0)) ∧ W2.heap[w2.heap.size]? = some (.cells #[.int .u8 0, .int .u64 0, .int .i64 M1, .int .u8 0, .int .u64 0, .int .i64 M2, .int .u8 1, .int .u64 0, .int .i64 M3, .int .u8 2, .int .u64 0, .int .i64 M2] 48 (0, 0)) ∧ Below w.heap.size w W2 from by
        rw [hW2]; exact ⟨RAt.alloc H2.out.1 _, (Below.heap_alloc _ _ _ (lt_of_block H2.out.2.1)).trans H2.out.2.1, heap_alloc_new w2 _, then_alloc H2.out.2.2 _⟩)
      clear hW2 H2
      obtain ⟨wo, rfl⟩ : ∃ wo : World, wo = wr := ⟨_, rfl⟩
      go_loopg [57] 4 (fun gh i wr => ∃ q : Nat, gh = 4 - q ∧ q ≤ 4 ∧ i = .int .i64 q ∧ Below W2.heap.size W2 wr)
      case atStart => exact ⟨0, rfl, by omega, rfl, Below.refl _ _⟩
      case round =>
        obtain ⟨q, hgh, hq, rfl, hb⟩ := hrel
        have Hg2 := Lib.hid hgh; clear hgh
        have h3 := (hb.block _ (lt_of_block HW.out.2.2.1)).trans HW.out.2.2.1
        have g0 := (cell_of_block h3 0).trans rfl
        have g1 := (cell_of_block h3 1).trans rfl
        have g2 := (cell_of_block h3 2).trans rfl
        have g3 := (cell_of_block h3 3).trans rfl
        have g4 := (cell_of_block h3 4).trans rfl
        have g5 := (cell_of_block h3 5).trans rfl
        have g6 := (cell_of_block h3 6).trans rfl
        have g7 := (cell_of_block h3 7).trans rfl
        have g8 := (cell_of_block h3 8).trans rfl
        have g9 := (cell_of_block h3 9).trans rfl
        have g10 := (cell_of_block h3 10).trans rfl
        have g11 := (cell_of_block h3 11).trans rfl
        have HQ := Lib.hid (And.intro (HW.out.1.below hb) hb)
        clear h3 hb
        rcases (show q = 0 ∨ q = 1 ∨ q = 2 ∨ q = 3 ∨ q = 4 from by omega) with rfl | rfl | rfl | rfl | rfl
        · go_wp2_with fail
          refine (read_args br F s bad 0 M1 0 _ (RAt.alloc HQ.out.1 _) (Or.inl ⟨rfl, Or.inr (by omega)⟩)).mono ?_
          rintro e w4 ⟨rfl, b4⟩
          have H4 := Lib.hid (And.intro ((RAt.alloc HQ.out.1 _).below b4) (then_ (then_alloc HQ.out.2 _) b4)); clear b4
          go_wp2_with fail
          refine (Left_to (L : Int) H4.out.1 (by rw [HL.out])).mono ?_
          rintro e w5 ⟨rfl, m5, hw5⟩
          have H5 := Lib.hid (show Below W2.heap.size W2 w5 from by rw [hw5]; exact then_drewN H4.out.2 m5)
          clear hw5 H4
          go_wp2_with fail
          go_roundg (4 - 1)
          case measure => have := Hg2.out; omega
          case rel => exact ⟨1, rfl, by omega, by go_num, H5.out⟩
        · go_wp2_with fail
          refine (read_args br F s bad 0 M2 0 _ (RAt.alloc HQ.out.1 _) (Or.inl ⟨rfl, Or.inl (by omega)⟩)).mono ?_
          rintro e w4 ⟨rfl, b4⟩
          have H4 := Lib.hid (And.intro ((RAt.alloc HQ.out.1 _).below b4) (then_ (then_alloc HQ.out.2 _) b4)); clear b4
          go_wp2_with fail
          refine (Left_to (L : Int) H4.out.1 (by rw [HL.out])).mono ?_
          rintro e w5 ⟨rfl, m5, hw5⟩
          have H5 := Lib.hid (show Below W2.heap.size W2 w5 from by rw [hw5]; exact then_drewN H4.out.2 m5)
          clear hw5 H4
          go_wp2_with fail
          go_roundg (4 - 2)
          case measure => have := Hg2.out; omega
          case rel => exact ⟨2, rfl, by omega, by go_num, H5.out⟩
        · go_wp2_with fail
          refine (read_args br F s bad 1 M3 0 _ (RAt.alloc HQ.out.1 _) (Or.inr (Or.inl ⟨rfl, Or.inr (by omega)⟩))).mono ?_
          rintro e w4 ⟨rfl, b4⟩
          have H4 := Lib.hid (And.intro ((RAt.alloc HQ.out.1 _).below b4) (then_ (then_alloc HQ.out.2 _) b4)); clear b4
          go_wp2_with fail
          refine (Left_to (L : Int) H4.out.1 (by rw [HL.out])).mono ?_
          rintro e w5 ⟨rfl, m5, hw5⟩
          have H5 := Lib.hid (show Below W2.heap.size W2 w5 from by rw [hw5]; exact then_drewN H4.out.2 m5)
          clear hw5 H4
          go_wp2_with fail
          go_roundg (4 - 3)
          case measure => have := Hg2.out; omega
          case rel => exact ⟨3, rfl, by omega, by go_num, H5.out⟩
        · go_wp2_with fail
          refine (read_args br F s bad 2 M2 0 _ (RAt.alloc HQ.out.1 _) (Or.inr (Or.inr ⟨rfl, Or.inl (by omega)⟩))).mono ?_
          rintro e w4 ⟨rfl, b4⟩
          have H4 := Lib.hid (And.intro ((RAt.alloc HQ.out.1 _).below b4) (then_ (then_alloc HQ.out.2 _) b4)); clear b4
          go_wp2_with fail
          refine (Left_to (L : Int) H4.out.1 (by rw [HL.out])).mono ?_
          rintro e w5 ⟨rfl, m5, hw5⟩
          have H5 := Lib.hid (show Below W2.heap.size W2 w5 from by rw [hw5]; exact then_drewN H4.out.2 m5)
          clear hw5 H4
          go_wp2_with fail
          go_roundg (4 - 4)
          case measure => have := Hg2.out; omega
          case rel => exact ⟨4, rfl, by omega, by go_num, H5.out⟩
        · clear g0 g1 g2 g3 g4 g5 g6 g7 g8 g9 g10 g11 hq Hg2
          obtain ⟨wp, rfl⟩ : ∃ wp : World, wp = wr := ⟨_, rfl⟩
          have hy := (HQ.out.2.block _ (lt_of_block HW.out.2.1)).trans HW.out.2.1
          have y0 := (cell_of_block hy 0).trans rfl
          have y1 := (cell_of_block hy 1).trans rfl
          have y2 := (cell_of_block hy 2).trans rfl
          have HB := Lib.hid (HW.out.2.2.2.trans (HQ.out.2.mono HW.out.2.2.2.size))
          have HRd := Lib.hid HQ.out.1
          clear hy HQ HW
          go_wp2_with fail
          refine (fit_z (t.kd j) (t.nn j) rfl rfl HK.out.1 HK.out.2.1 HK.out.2.2.1 HK.out.2.2.2).mono ?_
          rintro e w6 ⟨rfl, b6⟩
          have hfit := fit_fit (t.kk j) HK.out.1 HK.out.2.1
          have H6 := Lib.hid (And.intro (HRd.out.below b6) (And.intro (then_ HB.out b6) hfit)); clear b6 hfit HB HRd
          have hend := readA_end (t.kd j) (fitK (t.kd j) (t.kk j)) s bad HR.out.2.1
          obtain ⟨V, E, s2, bd2, hrA⟩ : ∃ V E s2 bd2, readA (t.kd j) (fitK (t.kd j) (t.kk j)) s bad = (V, E, s2, bd2) := ⟨_, _, _, _, rfl⟩
          rw [hrA] at hend
          simp only at hend
          obtain ⟨rfl, hend⟩ := hend
          have HE := Lib.hid hrA
          clear hrA
          unfold itemV
          go_wp2_with fail
          refine (read_to V bd2 s2 bd2 H6.out.1 (fun h => (H6.out.2.2.2.2.1 h).1) H6.out.2.2.2.2.2 HK.out.1 HE.out).mono ?_
          rintro e w7 ⟨rfl, h7, fr7⟩
          have H7 := Lib.hid (And.intro h7 (then_fr H6.out.2.1 fr7 (by intro q hq; simp at hq; subst hq; exact hbr))); clear h7 fr7 H6
          rcases hend with rfl | ⟨hE, rfl, rfl⟩
          · go_wp2_with fail
            go_roundg (mc - (j + 1))
            case measure => have := Hgh.out; omega
            case rel => exact ⟨j + 1, rfl, by omega, by go_num, s2, 0, H7.out.1, Or.inl rfl, H7.out.2⟩
          · have e1 : ((bd2 : Int) != 0) = true := by rw [bne_iff_ne]; omega
            have e2 : (bd2 != 0) = true := by rw [bne_iff_ne]; omega
            have HbE := Lib.hid hE
            clear hE
            go_wp2_with fail
            go_roundg (mc - (j + 1))
            case measure => have := Hgh.out; omega
            case rel => exact ⟨j + 1, rfl, by omega, by go_num, [], bd2, H7.out.1, Or.inr HbE.out, H7.out.2⟩
    · obtain rfl : j = mc := by omega
      clear hlt hj Hgh
      obtain ⟨wo, rfl⟩ : ∃ wo : World, wo = wr := ⟨_, rfl⟩
      go_wp2_with fail
      refine (Left_to (L : Int) HR.out.1 (by rw [HL.out])).mono ?_
      rintro e w2 ⟨rfl, m2, hw2⟩
      have H2 := Lib.hid (show ROk w2 br F s bad ∧ Below w.heap.size w w2 from by rw [hw2]; exact ⟨HR.out.1.drewN m2, then_drewN HR.out.2.2 m2⟩)
      clear hw2
      go_wp2_with fail
      -- what the reading of too many bits gives
      have hfirst : ∃ (V E : Nat) (s2 : List Bool) (b2 : Nat), Ends s2 b2 (E : Int) ∧ (∀ W, ROk W br F s bad → Calls Try.prog 18 #[.pointer (some ⟨br, 0, none⟩), .int .i64 ((L : Int) + 1)] W fun e W' => e = .returned (.tuple #[.int .u64 (V : Int), .int .i64 (E : Int)]) ∧ ROk W' br F s2 b2 ∧ Below w.heap.size W W') := by
        by_cases hb : bad = 0
        · subst hb
          by_cases h64 : L + 1 ≤ 64
          · refine ⟨0, 180, [], 180, Or.inr ⟨Or.inl rfl, rfl, rfl⟩, fun W hW => ?_⟩
            refine (Get_z (L + 1) 0 180 0 [] 180 hW (by omega) rfl h64 (getA_short _ _ (by rw [← HL.out]; omega))).mono ?_
            rintro e W' ⟨h1, h2, h3⟩
            exact ⟨h1, h2, h3.below hbr⟩
          · refine ⟨0, 2, s, 0, Or.inl ⟨rfl, Or.inl rfl⟩, fun W hW => ?_⟩
            refine (Get_arg br F s 0 ((L : Int) + 1) W hW (Or.inr (by omega))).mono ?_
            rintro e W' ⟨h1, rfl⟩
            exact ⟨h1, hW, Below.refl _ _⟩
        · have hbad2 : bad = 180 ∨ bad = 181 := by have := HR.out.2.1; omega
          have hs := HR.out.1.bad_nil hb
          have hL0 : L = 0 := by rw [HL.out, hs]; rfl
          refine ⟨0, bad, [], bad, Or.inr ⟨hbad2, rfl, rfl⟩, fun W hW => ?_⟩
          rw [hs] at hW
          refine (Get_z 1 0 bad 0 [] bad hW (by omega) rfl (by decide) (getA_bad 1 hb)).mono ?_
          rintro e W' ⟨h1, h2, h3⟩
          exact ⟨h1, h2, h3.below hbr⟩
      obtain ⟨V, E, s2, bd2, hends, hget⟩ := hfirst
      have HF := Lib.hid (And.intro hends hget)
      clear hends hget
      refine (HF.out.2 _ H2.out.1).mono ?_
      rintro e w3 ⟨rfl, h3, b3⟩
      have H3 := Lib.hid (And.intro h3 (H2.out.2.trans b3)); clear h3 b3 H2
      go_wp2_with fail
      go_loopg [18] s2.length (fun gh v wr => ∃ (e : Int) (s3 : List Bool) (b3 : Nat), gh = s3.length ∧ v = .int .i64 e ∧ (Ends s3 b3 e ∧ ROk wr br F s3 b3 ∧ Below w.heap.size w wr))
      case atStart => exact ⟨E, s2, bd2, rfl, rfl, HF.out.1, H3.out⟩
      case round =>
        obtain ⟨e, s3, bd3, hgh, rfl, hR⟩ := hrel
        have Hg := Lib.hid hgh; clear hgh
        have HQ := Lib.hid hR; clear hR H3
        obtain ⟨L3, hL3⟩ : ∃ L, L = s3.length := ⟨_, rfl⟩
        have hl3 : L3 ≤ 8000000 := by rw [hL3]; exact HQ.out.2.1.length
        have HL3 := Lib.hid hL3; clear hL3
        by_cases hpos : 0 < L3
        · have hb0 : bd3 = 0 := by
            rcases HQ.out.1 with ⟨h, _⟩ | ⟨_, _, h⟩
            · exact h
            · have := HL3.out; rw [h] at this; simp at this; omega
          subst hb0
          have hnext : ∃ (V4 E4 : Nat) (s4 : List Bool) (b4 : Nat), getA 64 s3 0 = (V4, E4, s4, b4) ∧ (E4 = 0 ∨ E4 = 180) ∧ Ends s4 b4 (E4 : Int) ∧ s4.length < s3.length := by
            have := HL3.out
            by_cases h64 : s3.length < 64
            · exact ⟨0, 180, [], 180, getA_short _ _ h64, Or.inr rfl, Or.inr ⟨Or.inl rfl, rfl, rfl⟩, by simp only [List.length_nil]; omega⟩
            · exact ⟨_, 0, s3.drop 64, 0, by unfold getA; rw [if_neg (by simp), if_neg h64], Or.inl rfl, Or.inl ⟨rfl, Or.inr rfl⟩, by rw [List.length_drop]; omega⟩
          obtain ⟨V4, E4, s4, bd4, hg4, hE4, hend4, hlt4⟩ := hnext
          have HN := Lib.hid (And.intro hg4 (And.intro hend4 hlt4))
          clear hg4 hend4 hlt4
          go_wp2_with fail
          refine (Left_to (L3 : Int) HQ.out.2.1 (by rw [HL3.out])).mono ?_
          rintro e w4 ⟨rfl, m4, hw4⟩
          have H4 := Lib.hid (show ROk w4 br F s3 0 ∧ Below w.heap.size w w4 from by rw [hw4]; exact ⟨HQ.out.2.1.drewN m4, then_drewN HQ.out.2.2 m4⟩)
          clear hw4
          go_wp2_with fail
          refine (Get_z 64 V4 E4 V4 s4 bd4 H4.out.1 rfl rfl (by decide) HN.out.1).mono ?_
          rintro e w5 ⟨rfl, h5, o5⟩
          have H5 := Lib.hid (And.intro h5 (then_only H4.out.2 o5 hbr)); clear h5 o5 H4
          rcases hE4 with rfl | rfl
          · go_wp2_with fail
            go_roundg s4.length
            case measure => have := Hg.out; have := HN.out.2.2; omega
            case rel => exact ⟨_, s4, bd4, rfl, rfl, HN.out.2.1, H5.out⟩
          · go_wp2_with fail
            go_roundg s4.length
            case measure => have := Hg.out; have := HN.out.2.2; omega
            case rel => exact ⟨_, s4, bd4, rfl, rfl, HN.out.2.1, H5.out⟩
        · have hs3 : s3 = [] := List.eq_nil_of_length_eq_zero (by have := HL3.out; omega)
          subst hs3
          obtain rfl : L3 = 0 := by omega
          clear hpos hl3 HL3 Hg
          obtain ⟨wp, rfl⟩ : ∃ wp : World, wp = wr := ⟨_, rfl⟩
          go_wp2_with fail
          refine (Left_to 0 HQ.out.2.1 rfl).mono ?_
          rintro e' w4 ⟨rfl, m4, hw4⟩
          have H4 := Lib.hid (show ROk w4 br F [] bd3 ∧ Below w.heap.size w w4 from by rw [hw4]; exact ⟨HQ.out.2.1.drewN m4, then_drewN HQ.out.2.2 m4⟩)
          clear hw4
          go_upto_region 22 with fail
          go_cut [121] (fun v wx => ∃ bb : Bool, v = .bool bb ∧ (bb = true ∧ bd3 = 0 ∨ bb = false ∧ bd3 ≠ 0) ∧ wx = w4)
          case first =>
            rcases HQ.out.1 with ⟨rfl, rfl | rfl⟩ | ⟨rfl | rfl, rfl, _⟩
            · go_wp2_with fail
              go_meet
              exact ⟨true, rfl, by simp, rfl⟩
            · go_wp2_with fail
              go_meet
              exact ⟨true, rfl, by simp, rfl⟩
            · go_wp2_with fail
              go_meet
              exact ⟨false, rfl, Or.inr ⟨rfl, by decide⟩, rfl⟩
            · go_wp2_with fail
              go_meet
              exact ⟨false, rfl, Or.inr ⟨rfl, by decide⟩, rfl⟩
          case rest =>
          obtain ⟨bb, rfl, hbb, rfl⟩ := hcut
          obtain ⟨w4, rfl⟩ : ∃ w4 : World, w4 = wc := ⟨_, rfl⟩
          have H5a := H4
          clear H4
          go_upto_if 121 with fail
          go_cut [18] (fun v wx => ∃ E5 : Nat, v = .int .i64 (E5 : Int) ∧ (E5 = 180 ∨ E5 = 181) ∧ (ROk wx br F [] E5 ∧ Below w.heap.size w wx))
          case first =>
            rcases hbb with ⟨rfl, rfl⟩ | ⟨rfl, hb3⟩
            · skip
              go_wp2_with fail
              refine (Get_z 1 0 180 0 [] 180 H5a.out.1 rfl rfl (by decide) (getA_short _ _ (by decide))).mono ?_
              rintro e w5 ⟨rfl, h5, o5⟩
              have H5 := Lib.hid (And.intro h5 (then_only H5a.out.2 o5 hbr)); clear h5 o5
              go_wp2_with fail
              go_meet
              exact ⟨180, rfl, Or.inl rfl, H5.out⟩
            · rcases HQ.out.1 with ⟨h, _⟩ | ⟨h, he, _⟩
              · exact absurd h hb3
              · subst he
                have HH := Lib.hid h
                clear h hb3
                go_wp2_with fail
                go_meet
                exact ⟨bd3, rfl, HH.out, H5a.out⟩
          case rest =>
            obtain ⟨E5, rfl, hE5, hcut⟩ := hcut
            have H5 := Lib.hid hcut
            clear hcut H5a HQ
            have hne : E5 ≠ 0 := by omega
            have HNe := Lib.hid hne; clear hne
            have hfin : True := trivial
            rcases hE5 with rfl | rfl
            all_goals
              go_wp2_with fail
              refine (Get_z 0 0 _ 0 [] _ H5.out.1 rfl rfl (by decide) (getA_bad 0 HNe.out)).mono ?_
              rintro e w6 ⟨rfl, h6, o6⟩
              have H6 := Lib.hid (And.intro h6 (then_only H5.out.2 o6 hbr)); clear h6 o6 H5
              go_wp2_with fail
              refine (GetCode_z 3 0 _ 0 [] _ H6.out.1 rfl rfl (by decide) (getC_bad 3 HNe.out)).mono ?_
              rintro e w7 ⟨rfl, h7, o7⟩
              have H7 := Lib.hid (And.intro h7 (then_only H6.out.2 o7 hbr)); clear h7 o7 H6
              go_wp2_with fail
              refine (GetSigned_bad (k := 0) H7.out.1 HNe.out (by decide)).mono ?_
              rintro e w8 ⟨rfl, h8, o8⟩
              have H8 := Lib.hid (And.intro h8 (then_only H7.out.2 o8 hbr)); clear h8 o8 H7
              go_wp2_with fail
              refine (End_bad_to _ H8.out.1 HNe.out rfl).mono ?_
              rintro e w9 ⟨rfl, m9, hw9⟩
              have H9 := Lib.hid (And.intro (H8.out.1.drewN m9) (then_drewN H8.out.2 m9))
              rw [← hw9] at H9
              clear hw9 H8
              go_wp2_with fail
              refine (Left_to 0 H9.out.1 rfl).mono ?_
              rintro e wa ⟨rfl, ma', hwa⟩
              have HA := Lib.hid (then_drewN H9.out.2 ma')
              rw [← hwa] at HA
              clear hwa H9
              go_wp2_with fail
              refine (awake_calls _).mono ?_
              rintro e wb ⟨rfl, bb⟩
              have HB := Lib.hid (then_ HA.out bb); clear bb HA
              go_wp2_with fail
              go_ret
              exact ⟨rfl, HB.out⟩
end Go.Proofs.Ytgjipjnfbpfenaa
