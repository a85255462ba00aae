/- BitsPrefix. -/
import Derived.Test.YtgjipjnfbpfenaaBPad
set_option linter.unusedVariables false
namespace Go.Proofs.Ytgjipjnfbpfenaa
open Go.RowKit
open M (bitsOf bitsOf_length codeBits codeBits_length zig zag numOf zeros codeA)

theorem BRow.at_ {w : World} {A : Option Addr} {n : Nat} {f : Nat → Nat} (h : BRow w A n f) {i : Nat} (hi : i < n) : ∃ ad, A = some ad ∧ w.cell? (ad.add i) = some (.int .u8 ((f i : Nat) : Int)) := h i hi
theorem BRow.less {w : World} {A : Option Addr} {n m : Nat} {f : Nat → Nat} (h : BRow w A n f) (hm : m ≤ n) : BRow w A m f := fun i hi => h i (by omega)

set_option maxRecDepth 100000 in
set_option maxHeartbeats 2000000 in
theorem prefix_walk (n k : Int) (A C : Option Addr) (na ca nc cc : Nat) (f g : Nat → Nat) (w : World) (n0 : 0 ≤ n) (n1 : n ≤ 18446744073709551615) (k0 : 0 ≤ k) (k1 : k ≤ 255)
    (hA : BRow w A na f) (hC : BRow w C nc g) (hf : ∀ i, f i < 256) (hg : ∀ i, g i < 256) (hna : na ≤ ca) (hnc : nc ≤ cc) (hca : ca ≤ 9223372036854775807) (hcc : cc ≤ 9223372036854775807) :
    Calls Try.prog 4 #[.int .u64 n, .int .u8 k, .slice A na ca, .slice C nc cc] w fun e w' => e = .returned (.bool true) ∧ Below w.heap.size w w' := by
  obtain ⟨N, rfl⟩ := Int.eq_ofNat_of_zero_le n0
  have hN : N < 18446744073709551616 := by omega
  obtain ⟨K, hK⟩ : ∃ K : Nat, k % 31 = (K : Int) := ⟨(k % 31).toNat, by omega⟩
  have hK30 : K ≤ 30 := by omega
  have HK := Lib.hid hK; clear hK
  obtain ⟨ma, hma⟩ : ∃ m : Nat, (if (20 : Int) < (na : Int) then (20 : Int) else (na : Int)) = (m : Int) := ⟨min na 20, by split <;> omega⟩
  obtain ⟨mc, hmc⟩ : ∃ m : Nat, (if (100 : Int) < (nc : Int) then (100 : Int) else (nc : Int)) = (m : Int) := ⟨min nc 100, by split <;> omega⟩
  have ha20 : ma ≤ 20 ∧ ma ≤ na := by split at hma <;> omega
  have hc100 : mc ≤ 100 ∧ mc ≤ nc := by split at hmc <;> omega
  have hA' := hA.less ha20.2
  have hC' := hC.less hc100.2
  obtain ⟨fa, hfa⟩ : ∃ fa : Nat → List Bool, fa = fun i => bitsOf (f i % 8) 3 := ⟨_, rfl⟩
  obtain ⟨fc, hfc⟩ : ∃ fc : Nat → List Bool, fc = fun i => bitsOf (g i) 8 := ⟨_, rfl⟩
  have hla : ∀ j, j ≤ ma → (seg fa 0 j).length ≤ 3 * j := fun j hj => by have := seg_length fa 3 0 j (fun i _ _ => by rw [hfa]; simp [bitsOf_length]) (by omega); simpa using this
  have hlc : ∀ j, j ≤ mc → (seg fc 0 j).length ≤ 8 * j := fun j hj => by have := seg_length fc 8 0 j (fun i _ _ => by rw [hfc]; simp [bitsOf_length]) (by omega); simpa using this
  have hcl : (codeBits N K).length ≤ 129 := by rw [codeBits_length]; have := (M.cq_bd N K (by simpa using hN) hK30).2.1; omega
  have hcn : costN N K ≤ 129 := by have := (M.cq_bd N K (by simpa using hN) hK30).2.1; unfold costN; omega
  have H := Lib.hid (And.intro hA' (And.intro hC' (And.intro hf (And.intro hg (And.intro hfa (And.intro hfc (And.intro hla (And.intro hlc (And.intro hcl hcn)))))))))
  clear hA hC hA' hC' hf hg hfa hfc hla hlc hcl hcn
  go_enter Try.func4, Try.ntmps4
  go_wp2_with fail
  go_quiet (fail)
  go_wp2_with fail
  go_loopg [41] ma (fun gh i wr => ∃ j : Nat, gh = ma - j ∧ j ≤ ma ∧ i = .int .i64 j ∧ ∃ F, (WOk wr w.heap.size w.heap.size F (seg fa 0 j) ∧ Below w.heap.size w wr))
  case atStart => exact ⟨0, rfl, by omega, rfl, _, by rw [seg_end]; exact (WOk.new w w.heap.size (Nat.le_refl _)).drewN nq, then_drewN (then_alloc (Below.refl w.heap.size w) _) nq⟩
  case round =>
    obtain ⟨j, hgh, hj, rfl, F, hw, hb⟩ := hrel
    have Hgh := Lib.hid hgh; clear hgh
    have HR := Lib.hid (And.intro hw hb); clear hw hb
    by_cases hlt : j < ma
    · obtain ⟨ad, rfl, hc⟩ := (H.out.1.keepd HR.out.2).at_ hlt
      have hl := H.out.2.2.2.2.2.2.1 j hj
      have hx := H.out.2.2.1 j
      have hs := seg_snoc fa (j := 0) (m := j) (by omega)
      rw [H.out.2.2.2.2.1] at hs
      simp only at hs
      rw [← H.out.2.2.2.2.1] at hs
      obtain ⟨x, hxx⟩ : ∃ x, x = f j := ⟨_, rfl⟩
      rw [← hxx] at hc hx hs
      have HS := Lib.hid (And.intro hs hxx); clear hs hxx
      have i0 : (0 : Int) ≤ (j : Int) := by omega
      have i1 : (j : Int) < (ma : Int) := by omega
      go_wp2_with fail
      refine (Put_z (x % 8) 3 HR.out.1 HR.out.2.size (by omega) rfl (by omega) (by omega) (by omega)).mono ?_
      rintro e wx ⟨rfl, F', h', fr'⟩
      have HN := Lib.hid (And.intro h' (then_fr HR.out.2 fr' HR.out.1.base)); clear h' fr'
      go_wp2_with fail
      go_roundg (ma - (j + 1))
      case measure => have := Hgh.out; omega
      case rel => exact ⟨j + 1, rfl, by omega, by go_num, F', by rw [HS.out.1]; exact HN.out.1, HN.out.2⟩
    · obtain rfl : j = ma := by omega
      clear hj hlt Hgh
      have hl := H.out.2.2.2.2.2.2.1 j (Nat.le_refl _)
      have hcn := H.out.2.2.2.2.2.2.2.2.2
      go_wp2_with fail
      refine (PutCode_at w.heap.size _ F _ _ _ N K _ HR.out.1 HR.out.2.size rfl HK.out hK30 hN (by omega)).mono ?_
      rintro e w2 ⟨rfl, F2, h2, fr2⟩
      have H2 := Lib.hid (And.intro h2 (then_fr HR.out.2 fr2 HR.out.1.base)); clear h2 fr2 HR
      go_wp2_with fail
      go_loopg [57] mc (fun gh i wr => ∃ q : Nat, gh = mc - q ∧ q ≤ mc ∧ i = .int .i64 q ∧ ∃ F, (WOk wr w.heap.size w.heap.size F (seg fa 0 j ++ codeBits N K ++ seg fc 0 q) ∧ Below w.heap.size w wr))
      case atStart => exact ⟨0, rfl, by omega, rfl, F2, by rw [seg_end, List.append_nil]; exact H2.out.1, H2.out.2⟩
      case round =>
        obtain ⟨q, hgh, hq, rfl, F3, hw, hb⟩ := hrel
        have Hgh := Lib.hid hgh; clear hgh
        have HR := Lib.hid (And.intro hw hb); clear hw hb
        by_cases hlt : q < mc
        · obtain ⟨ad, rfl, hc⟩ := (H.out.2.1.keepd HR.out.2).at_ hlt
          have hlq := H.out.2.2.2.2.2.2.2.1 q hq
          have hcl := H.out.2.2.2.2.2.2.2.2.1
          have hx := H.out.2.2.2.1 q
          have hs := seg_snoc fc (j := 0) (m := q) (by omega)
          rw [H.out.2.2.2.2.2.1] at hs
          simp only at hs
          rw [← H.out.2.2.2.2.2.1] at hs
          obtain ⟨x, hxx⟩ : ∃ x, x = g q := ⟨_, rfl⟩
          rw [← hxx] at hc hx hs
          have HS := Lib.hid (And.intro hs hxx); clear hs hxx
          have i0 : (0 : Int) ≤ (q : Int) := by omega
          have i1 : (q : Int) < (mc : Int) := by omega
          go_wp2_with fail
          refine (Put_z x 8 HR.out.1 HR.out.2.size rfl rfl (by simp only [List.length_append]; omega) (by omega) (by omega)).mono ?_
          rintro e wx ⟨rfl, F', h', fr'⟩
          have HN := Lib.hid (And.intro h' (then_fr HR.out.2 fr' HR.out.1.base)); clear h' fr'
          go_wp2_with fail
          go_roundg (mc - (q + 1))
          case measure => have := Hgh.out; omega
          case rel => exact ⟨q + 1, rfl, by omega, by go_num, F', by rw [HS.out.1, ← List.append_assoc]; exact HN.out.1, HN.out.2⟩
        · obtain rfl : q = mc := by omega
          clear hq hlt Hgh H2
          have hlq := H.out.2.2.2.2.2.2.2.1 q (Nat.le_refl _)
          have hcl := H.out.2.2.2.2.2.2.2.2.1
          obtain ⟨all, hall⟩ : ∃ l, l = seg fa 0 j ++ codeBits N K ++ seg fc 0 q := ⟨_, rfl⟩
          have hal : all.length ≤ 1000000 := by rw [hall]; simp only [List.length_append]; omega
          rw [← hall] at HR
          have HALL := Lib.hid hall; clear hall
          obtain ⟨wq, rfl⟩ : ∃ wq : World, wq = wr := ⟨_, rfl⟩
          go_wp2_with fail
          refine (Bytes_to (nbytes all) HR.out.1 (by omega) rfl).mono ?_
          rintro e w4 ⟨A4, c4, rfl, r4, b4, n4⟩
          have H4 := Lib.hid (And.intro r4 (And.intro n4 (then_ HR.out.2 b4))); clear r4 n4 b4 HR
          go_wp2_with fail
          refine (NewReader_pad all H4.out.1 rfl (by omega) H4.out.2.1).mono ?_
          rintro e w5 ⟨br, F5, rfl, h5, d5, b5⟩
          have hbr := Lib.hid (Nat.le_trans H4.out.2.2.size (d5 br (by simp)))
          have H5 := Lib.hid (And.intro h5 (then_ H4.out.2.2 b5)); clear h5 d5 b5 H4
          obtain ⟨pd, hpd⟩ : ∃ p, p = List.replicate (8 * nbytes all - all.length) false := ⟨_, rfl⟩
          have hpad : pad all = seg fa 0 j ++ (codeBits N K ++ (seg fc 0 q ++ pd)) := by unfold pad; rw [← hpd, HALL.out]; simp only [List.append_assoc]
          have hend : endA pd 0 = 0 := by rw [hpd]; exact endA_pad all
          have HP := Lib.hid (And.intro hpad hend); clear hpad hend hpd
          go_wp2_with fail
          go_loopg [70] j (fun gh i wr => ∃ y : Nat, gh = j - y ∧ y ≤ j ∧ i = .int .i64 y ∧ (ROk wr br F5 (seg fa y j ++ (codeBits N K ++ (seg fc 0 q ++ pd))) 0 ∧ Below w.heap.size w wr))
          case atStart => exact ⟨0, rfl, by omega, rfl, by rw [← HP.out.1]; exact H5.out.1, H5.out.2⟩
          case round =>
            obtain ⟨y, hgh, hy, rfl, hw, hb⟩ := hrel
            have Hgh := Lib.hid hgh; clear hgh
            have HR := Lib.hid (And.intro hw hb); clear hw hb
            by_cases hlt : y < j
            · obtain ⟨ad, hAd, hc⟩ := (H.out.1.keepd HR.out.2).at_ hlt
              have hx := H.out.2.2.1 y
              have hs := seg_cons fa hlt
              rw [H.out.2.2.2.2.1] at hs
              simp only at hs
              rw [← H.out.2.2.2.2.1] at hs
              obtain ⟨x, hxx⟩ : ∃ x, x = f y := ⟨_, rfl⟩
              rw [← hxx] at hc hx hs
              have hg := getA_bits (x % 8) 3 (seg fa (y + 1) j ++ (codeBits N K ++ (seg fc 0 q ++ pd))) (by omega)
              rw [← List.append_assoc, ← hs] at hg
              have HS := Lib.hid (And.intro hg hxx); clear hg hs hxx
              have i0 : (0 : Int) ≤ (y : Int) := by omega
              have i1 : (y : Int) < (j : Int) := by omega
              subst hAd
              go_wp2_with fail
              refine (Get_z 3 (x % 8) 0 ((x : Int) % 8) _ 0 HR.out.1 rfl (by omega) (by omega) HS.out.1).mono ?_
              rintro e wx ⟨rfl, h', o'⟩
              have HN := Lib.hid (And.intro h' (then_only HR.out.2 o' hbr.out)); clear h' o'
              go_wp2_with fail
              go_roundg (j - (y + 1))
              case measure => have := Hgh.out; omega
              case rel => exact ⟨y + 1, rfl, by omega, by go_num, HN.out⟩
            · obtain rfl : y = j := by omega
              clear hy hlt Hgh H5
              rw [seg_end, List.nil_append] at HR
              obtain ⟨wv, rfl⟩ : ∃ wv : World, wv = wr := ⟨_, rfl⟩
              go_wp2_with fail
              refine (GetCode_z K N 0 (N : Int) (seg fc 0 q ++ pd) 0 HR.out.1 HK.out rfl hK30 (getC_bits N K _ hN hK30)).mono ?_
              rintro e w6 ⟨rfl, h6, o6⟩
              have H6 := Lib.hid (And.intro h6 (then_only HR.out.2 o6 hbr.out)); clear h6 o6 HR
              go_wp2_with fail
              go_loopg [104] q (fun gh i wr => ∃ z : Nat, gh = q - z ∧ z ≤ q ∧ i = .int .i64 z ∧ (ROk wr br F5 (seg fc z q ++ pd) 0 ∧ Below w.heap.size w wr))
              case atStart => exact ⟨0, rfl, by omega, rfl, H6.out⟩
              case round =>
                obtain ⟨z, hgh, hz, rfl, hw, hb⟩ := hrel
                have Hgh := Lib.hid hgh; clear hgh
                have HR := Lib.hid (And.intro hw hb); clear hw hb
                by_cases hlt : z < q
                · obtain ⟨ad, hAd, hc⟩ := (H.out.2.1.keepd HR.out.2).at_ hlt
                  have hx := H.out.2.2.2.1 z
                  have hs := seg_cons fc hlt
                  rw [H.out.2.2.2.2.2.1] at hs
                  simp only at hs
                  rw [← H.out.2.2.2.2.2.1] at hs
                  obtain ⟨x, hxx⟩ : ∃ x, x = g z := ⟨_, rfl⟩
                  rw [← hxx] at hc hx hs
                  have hgg := getA_bits x 8 (seg fc (z + 1) q ++ pd) (by omega)
                  rw [← List.append_assoc, ← hs] at hgg
                  have HS := Lib.hid (And.intro hgg hxx); clear hgg hs hxx
                  have i0 : (0 : Int) ≤ (z : Int) := by omega
                  have i1 : (z : Int) < (q : Int) := by omega
                  subst hAd
                  go_wp2_with fail
                  refine (Get_z 8 x 0 (x : Int) _ 0 HR.out.1 rfl rfl (by omega) HS.out.1).mono ?_
                  rintro e wx ⟨rfl, h', o'⟩
                  have HN := Lib.hid (And.intro h' (then_only HR.out.2 o' hbr.out)); clear h' o'
                  go_wp2_with fail
                  go_roundg (q - (z + 1))
                  case measure => have := Hgh.out; omega
                  case rel => exact ⟨z + 1, rfl, by omega, by go_num, HN.out⟩
                · obtain rfl : z = q := by omega
                  clear hz hlt Hgh H6
                  rw [seg_end, List.nil_append] at HR
                  go_wp2_with fail
                  refine (End_to 0 pd HR.out.1 HP.out.2 rfl).mono ?_
                  rintro e w7 ⟨rfl, h7, o7⟩
                  have H7 := Lib.hid (then_only HR.out.2 o7 hbr.out); clear h7 o7 HR
                  go_wp2_with fail
                  refine (awake_calls _).mono ?_
                  rintro e w8 ⟨rfl, b8⟩
                  have H8 := Lib.hid (then_ H7.out b8); clear b8 H7
                  go_wp2_with fail
                  go_ret
                  exact ⟨rfl, H8.out⟩
end Go.Proofs.Ytgjipjnfbpfenaa
