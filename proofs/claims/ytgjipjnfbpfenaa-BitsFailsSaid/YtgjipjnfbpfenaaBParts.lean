/- BitsParts. -/
import Derived.Test.YtgjipjnfbpfenaaBWrote
import Derived.Test.YtgjipjnfbpfenaaBPad
import Derived.Test.YtgjipjnfbpfenaaBCodes
import Derived.Deep.Slices
set_option linter.unusedVariables false
namespace Go.Proofs.Ytgjipjnfbpfenaa
open Go.RowKit
open M (bitsOf bitsOf_length codeBits codeBits_length zig zag numOf zeros codeA)

/-- Items from one on. -/
def Its.from_ (t : Its) (k : Nat) : Its := ⟨fun i => t.kd (k + i), fun i => t.nn (k + i), fun i => t.kk (k + i)⟩
theorem Its.bits_from (t : Its) (k i : Nat) : (t.from_ k).bits i = t.bits (k + i) := rfl
theorem Its.bitsTo_from (t : Its) (k j : Nat) : t.bitsTo (k + j) = t.bitsTo k ++ (t.from_ k).bitsTo j := by
  induction j with
  | zero => simp [Its.bitsTo]
  | succ j ih => rw [← Nat.add_assoc, Its.bitsTo_succ, Its.bitsTo_succ, ih, Its.bits_from, List.append_assoc]
theorem Items.below {w w' : World} {B n : Nat} {A : Option Addr} {t : Its} (h : Items w B A n t) (hb : Below B w w') : Items w' B A n t := by
  intro i hi
  obtain ⟨ad, e, hB, c0, c1, c2, r⟩ := h i hi
  have hk : ∀ m, (ad.add m).block = ad.block := fun m => by unfold Addr.add; split <;> rfl
  exact ⟨ad, e, hB, (hb.cell (by rw [hk]; exact hB)).trans c0, (hb.cell (by rw [hk]; exact hB)).trans c1, (hb.cell (by rw [hk]; exact hB)).trans c2, r⟩
theorem Items.less {w : World} {B n m : Nat} {A : Option Addr} {t : Its} (h : Items w B A n t) (hm : m ≤ n) : Items w B A m t := fun i hi => h i (by omega)
theorem Items.from_ {w : World} {B n k : Nat} {ad : Addr} {t : Its} (h : Items w B (some ad) n t) (hk : k ≤ n) : Items w B (some (ad.add (k * 3))) (n - k) (t.from_ k) := by
  intro i hi
  obtain ⟨ad', e, hB, c0, c1, c2, r⟩ := h (k + i) (by omega)
  injection e with e
  subst e
  have hb : (ad.add (k * 3)).block = ad.block := by unfold Addr.add; split <;> rfl
  have ha : ∀ m, (ad.add (k * 3)).add m = ad.add (k * 3 + m) := fun m => Go.Deep.add_add ad (k * 3) m
  refine ⟨_, rfl, by rw [hb]; exact hB, ?_, ?_, ?_, r⟩
  · rw [ha, ← Nat.add_mul]; exact c0
  · rw [ha, show k * 3 + (i * 3 + 1) = (k + i) * 3 + 1 from by omega]; exact c1
  · rw [ha, show k * 3 + (i * 3 + 2) = (k + i) * 3 + 2 from by omega]; exact c2
theorem Items.from_map {w : World} {B n k : Nat} {A : Option Addr} {t : Its} (h : Items w B A n t) (hk : k ≤ n) : Items w B (A.map fun x => x.add (k * 3)) (n - k) (t.from_ k) := by
  rcases A with _ | ad
  · intro i hi
    obtain ⟨ad, e, _⟩ := h (k + i) (by omega)
    cases e
  · exact h.from_ hk
theorem and_mask (N lo V : Nat) (hN : N < 18446744073709551616) (hV : V = 2 ^ lo) (hlo : lo ≤ 63) : bits .and .u64 (N : Int) ((V : Int) - 1) = ((N % 2 ^ lo : Nat) : Int) := by
  subst hV
  have hp : 0 < 2 ^ lo := Nat.pow_pos (by decide)
  have hp2 : 2 ^ lo ≤ 2 ^ 63 := Nat.pow_le_pow_right (by decide) hlo
  have := u64_and_nat N (2 ^ lo - 1) hN (by omega)
  rw [Nat.and_two_pow_sub_one_eq_mod] at this
  rw [show (((2 ^ lo : Nat) : Int) - 1) = ((2 ^ lo - 1 : Nat) : Int) from by omega]
  exact this
theorem div_pow (N lo : Nat) : (N : Int) / 2 ^ lo = ((N / 2 ^ lo : Nat) : Int) := by
  rw [show ((2 : Int) ^ lo) = ((2 ^ lo : Nat) : Int) from (Int.natCast_pow 2 lo).symm, ← Int.natCast_ediv]
theorem min200 {m : Nat} (h : m ≤ 200) : (if (200 : Int) < (m : Int) then (200 : Int) else (m : Int)) = (m : Int) := by split <;> omega
theorem Its.bitsTo_le' {w : World} {B n : Nat} {A : Option Addr} {t : Its} (h : Items w B A n t) {j : Nat} (hj : j ≤ n) : (t.bitsTo j).length ≤ 129 * j := Its.bitsTo_le fun i hi => h.bd i (by omega)

/-- Three Writers, the first of which has what the two others have. -/
def Three (w : World) (b1 b2 b3 : Nat) (x y : List Bool) (wx : World) : Prop :=
  ∃ F1 F2 F3, WOk wx w.heap.size b1 F1 (x ++ y) ∧ WOk wx w.heap.size b2 F2 x ∧ WOk wx w.heap.size b3 F3 y ∧ (∀ q, q ∈ F1 → q ∉ F2) ∧ (∀ q, q ∈ F3 → q ∉ F2) ∧ Below w.heap.size w wx ∧ x.length + y.length ≤ 30000

set_option maxRecDepth 100000 in
set_option maxHeartbeats 2000000 in
theorem parts_walk (A : Option Addr) (n cap : Nat) (at_ : Int) (t : Its) (w : World) (h : Items w w.heap.size A n t) (hn : n ≤ cap) (hcap : cap ≤ 9223372036854775807) (hnil : A = none → n = 0 ∧ cap = 0) (a0 : 0 ≤ at_) (a1 : at_ ≤ 255) :
    Calls Try.prog 5 #[.slice A n cap, .int .u8 at_] w fun e w' => e = .returned (.bool true) ∧ Below w.heap.size w w' := by
  obtain ⟨m, hm⟩ : ∃ m : Nat, (if (200 : Int) < (n : Int) then (200 : Int) else (n : Int)) = (m : Int) := ⟨min n 200, by split <;> omega⟩
  have hm2 : m ≤ 200 ∧ m ≤ n := by split at hm <;> omega
  have hx := h.less hm2.2
  have hle := Its.bitsTo_le' hx (Nat.le_refl m)
  go_enter Try.func5, Try.ntmps5
  have H := Lib.hid (And.intro hx hle); clear hx hle h
  go_upto_if 28 with fail
  go_cut [5] (fun v wx => ∃ k : Nat, v = .int .i64 k ∧ k ≤ m ∧ (k < m ∨ m = 0) ∧ wx = w)
  case first =>
    by_cases hm0 : m = 0
    · subst hm0
      go_wp2_with fail
      go_meet
      exact ⟨0, rfl, by omega, by simp, rfl⟩
    · have h1 := Int.emod_nonneg at_ (show (m : Int) ≠ 0 by omega)
      have h2 := Int.emod_lt_of_pos at_ (show (0 : Int) < m by omega)
      go_wp2_with fail
      go_meet
      refine ⟨(at_ % m).toNat, by congr 1; omega, by omega, ?_, rfl⟩
      omega
  case rest =>
    obtain ⟨k, rfl, hkm, hkm2, rfl⟩ := hcut
    obtain ⟨w0, rfl⟩ : ∃ w0 : World, w0 = wc := ⟨_, rfl⟩
    go_wp2_with fail
    obtain ⟨W, hW⟩ : ∃ W, W = ((w0.alloc (.cells #[.slice none 0 0, .int .i64 0] 28)).alloc (.cells #[.slice none 0 0, .int .i64 0] 28)).alloc (.cells #[.slice none 0 0, .int .i64 0] 28) := ⟨_, rfl⟩
    rw [← hW]
    have hBW := then_alloc (then_alloc (then_alloc (Below.refl w0.heap.size w0) (.cells #[.slice none 0 0, .int .i64 0] 28)) (.cells #[.slice none 0 0, .int .i64 0] 28)) (.cells #[.slice none 0 0, .int .i64 0] 28)
    have hx : WOk W w0.heap.size w0.heap.size [w0.heap.size] [] ∧ WOk W w0.heap.size (w0.heap.size + 1) [w0.heap.size + 1] [] ∧ WOk W w0.heap.size (w0.heap.size + 1 + 1) [w0.heap.size + 1 + 1] [] := by
      rw [hW]
      exact ⟨((WOk.new_at (Nat.le_refl _) rfl).alloc _).alloc _, (WOk.new_at (then_alloc (Below.refl w0.heap.size w0) _).size (by simp)).alloc _, WOk.new_at (then_alloc (then_alloc (Below.refl w0.heap.size w0) _) _).size (by simp)⟩
    rw [← hW] at hBW
    have HX := Lib.hid (And.intro hBW hx)
    clear hBW hx hW
    refine (wrote_ok w0.heap.size w0.heap.size _ [] A m cap m t W HX.out.2.1 HX.out.1.size (H.out.1.below HX.out.1) (min200 hm2.1) (by omega) (by simp) (by omega)).mono ?_
    rintro e wa ⟨va, Fa, rfl, ha1, fra, _⟩
    have h2a := HX.out.2.2.1.keep fra (by intro q hq; simp at hq ⊢; omega)
    have h3a := HX.out.2.2.2.keep fra (by intro q hq; simp at hq ⊢; omega)
    have ap2 := fra.apart (H := [w0.heap.size + 1]) (by intro q hq; simp at hq ⊢; omega) HX.out.2.2.1.lt
    have ap3 := fra.apart (H := [w0.heap.size + 1 + 1]) (by intro q hq; simp at hq ⊢; omega) HX.out.2.2.2.lt
    rw [List.nil_append] at ha1
    have HA := Lib.hid (And.intro (then_fr HX.out.1 fra HX.out.2.1.base) (And.intro ha1 (And.intro h2a (And.intro h3a (And.intro ap2 ap3)))))
    clear ha1 fra h2a h3a ap2 ap3 HX
    go_wp2_with fail
    refine (wrote_ok w0.heap.size (w0.heap.size + 1) _ [] A k cap k t wa HA.out.2.2.1 HA.out.1.size ((H.out.1.less hkm).below HA.out.1) (min200 (by omega)) (by omega) (by simp) (by omega)).mono ?_
    rintro e wb ⟨vb, Fb, rfl, hb1, frb, _⟩
    have h1b := HA.out.2.1.keep frb (by intro q hq; simp; rintro rfl; exact HA.out.2.2.2.2.1 _ (by simp) hq)
    have h3b := HA.out.2.2.2.1.keep frb (by intro q hq; simp at hq ⊢; omega)
    have ap1 := frb.apart (H := Fa) (by intro q hq; simp; rintro rfl; exact HA.out.2.2.2.2.1 _ (by simp) hq) HA.out.2.1.lt
    have ap3 := frb.apart (H := [w0.heap.size + 1 + 1]) (by intro q hq; simp at hq ⊢; omega) HA.out.2.2.2.1.lt
    rw [List.nil_append] at hb1
    have HB := Lib.hid (And.intro (then_fr HA.out.1 frb HA.out.2.2.1.base) (And.intro h1b (And.intro hb1 (And.intro h3b (And.intro HA.out.2.2.2.2.2 (And.intro ap1 ap3))))))
    clear hb1 frb h1b h3b ap1 ap3 HA
    go_upto_region 12 with fail
    go_cut [0, 14] (fun s0 ok wx => ok = .bool true ∧ ∃ x y, Three w0 w0.heap.size (w0.heap.size + 1) (w0.heap.size + 1 + 1) x y wx)
    case first =>
      have hfin : ∀ (wx : World) (Fc : List Nat), WOk wx w0.heap.size (w0.heap.size + 1 + 1) Fc (t.from_ k |>.bitsTo (m - k)) → Fr [w0.heap.size + 1 + 1] wb Fc wx → ∃ x y, Three w0 w0.heap.size (w0.heap.size + 1) (w0.heap.size + 1 + 1) x y wx := by
        intro wx Fc h3 fr
        obtain ⟨B0, h1, h2, h3', d1, d2, d3⟩ := HB.out
        have e : t.bitsTo k ++ (t.from_ k).bitsTo (m - k) = t.bitsTo m := by rw [← Its.bitsTo_from, Nat.add_sub_cancel' hkm]
        have hl : (t.bitsTo m).length ≤ 129 * m := H.out.2
        have hl2 := congrArg List.length e
        rw [List.length_append] at hl2
        have nb : ∀ q, q ∈ Fb → q ∉ [w0.heap.size + 1 + 1] := by intro q hq; simp; rintro rfl; exact d3 _ (by simp) hq
        have na : ∀ q, q ∈ Fa → q ∉ [w0.heap.size + 1 + 1] := by intro q hq; simp; rintro rfl; exact d1 _ (by simp) hq
        refine ⟨t.bitsTo k, (t.from_ k).bitsTo (m - k), Fa, Fb, Fc, by rw [e]; exact h1.keep fr na, h2.keep fr nb, h3, d2, ?_, then_fr B0 fr h3'.base, by omega⟩
        intro q hq hb
        exact fr.apart nb h2.lt q hb hq
      have HF := Lib.hid hfin
      clear hfin
      go_wp2_with fail
      · refine (wrote_ok w0.heap.size (w0.heap.size + 1 + 1) _ [] A _ _ (m - k) (t.from_ k) wb HB.out.2.2.2.1 HB.out.1.size (fun i hi => by omega) (min200 (by omega)) (by omega) (by simp) (by omega)).mono ?_
        rintro e wx ⟨vc, Fc, rfl, hc1, frc, _⟩
        rw [List.nil_append] at hc1
        have HN := Lib.hid (HF.out wx Fc hc1 frc); clear hc1 frc
        go_wp2_with fail
        go_meet
        exact ⟨rfl, HN.out⟩
      · refine (wrote_ok w0.heap.size (w0.heap.size + 1 + 1) _ [] _ _ _ (m - k) (t.from_ k) wb HB.out.2.2.2.1 HB.out.1.size ((H.out.1.below HB.out.1).from_map hkm) (min200 (by omega)) (by omega) (by simp) (by omega)).mono ?_
        rintro e wx ⟨vc, Fc, rfl, hc1, frc, _⟩
        rw [List.nil_append] at hc1
        have HN := Lib.hid (HF.out wx Fc hc1 frc); clear hc1 frc
        go_wp2_with fail
        go_meet
        exact ⟨rfl, HN.out⟩
    case rest =>
      obtain ⟨rfl, x, y, F1, F2, F3, q1, q2, q3, d1, d3, q4, ql⟩ := hcut
      have HT := Lib.hid (And.intro q1 (And.intro q2 (And.intro q3 (And.intro d1 (And.intro d3 q4)))))
      clear q1 q2 q3 d1 d3 q4 HB
      have hxy : ((x ++ y).length : Int) = (x.length : Int) + (y.length : Int) := by rw [List.length_append]; omega
      have HL := Lib.hid hxy; clear hxy
      go_wp2_with fail
      refine (Len_to (x.length : Int) HT.out.2.1 rfl).mono ?_
      rintro e w' ⟨rfl, rfl⟩
      go_wp2_with fail
      refine (Len_to (y.length : Int) HT.out.2.2.1 rfl).mono ?_
      rintro e w' ⟨rfl, rfl⟩
      go_wp2_with fail
      refine (Len_to ((x.length : Int) + (y.length : Int)) HT.out.1 HL.out).mono ?_
      rintro e w' ⟨rfl, rfl⟩
      go_wp2_with fail
      refine (Bytes_to (nbytes y) HT.out.2.2.1 (by omega) rfl).mono ?_
      rintro e w4 ⟨A4, c4, rfl, r4, b4, n4⟩
      have H4 := Lib.hid (And.intro r4 (And.intro n4 b4)); clear r4 n4 b4
      go_wp2_with fail
      refine (NewReader_pad y H4.out.1 rfl (by omega) H4.out.2.1).mono ?_
      rintro e w5 ⟨br, F5, rfl, h5, d5, b5⟩
      have hBb := H4.out.2.2.trans (b5.mono H4.out.2.2.size)
      have hsz := H4.out.2.2.size
      have d2 : ∀ q, q ∈ br :: F5 → q ∉ F2 := fun q hq hF => by have := d5 q hq; have := HT.out.2.1.lt q hF; omega
      have d1 : ∀ q, q ∈ br :: F5 → q ∉ F1 := fun q hq hF => by have := d5 q hq; have := HT.out.1.lt q hF; omega
      have H5 := Lib.hid (And.intro h5 (And.intro (HT.out.1.below hBb) (And.intro (HT.out.2.1.below hBb) (And.intro HT.out.2.2.2.1 (And.intro d2 (And.intro d1 (then_ HT.out.2.2.2.2.2 hBb)))))))
      have hcr := hBb
      have H3 := Lib.hid (HT.out.2.2.1.below hBb)
      have hbr : w0.heap.size ≤ br := Nat.le_trans (Nat.le_trans HT.out.2.2.2.2.2.size hsz) (d5 br (by simp))
      have HBR := Lib.hid hbr
      clear h5 d5 b5 H4 hBb hsz d1 d2 hcr hbr
      obtain ⟨pd, hpd⟩ : ∃ p, p = List.replicate (8 * nbytes y - y.length) false := ⟨_, rfl⟩
      have hpad : pad y = y ++ pd := by unfold pad; rw [← hpd]
      rw [hpad] at H5
      clear hpad hpd
      go_wp2_with fail
      refine (Len_to (y.length : Int) H3.out rfl).mono ?_
      rintro e w' ⟨rfl, rfl⟩
      clear H3 HT HL
      go_wp2_with fail
      go_loopg [16] y.length (fun gh v wr => ∃ L : Nat, gh = L ∧ L ≤ y.length ∧ v = .int .i64 L ∧ ∃ Fx, (ROk wr br F5 (y.drop (y.length - L) ++ pd) 0 ∧ WOk wr w0.heap.size (w0.heap.size + 1) Fx (x ++ y.take (y.length - L)) ∧ WOk wr w0.heap.size w0.heap.size F1 (x ++ y) ∧ (∀ q, q ∈ F1 → q ∉ Fx) ∧ (∀ q, q ∈ br :: F5 → q ∉ Fx) ∧ (∀ q, q ∈ br :: F5 → q ∉ F1) ∧ Below w0.heap.size w0 wr))
      case atStart => exact ⟨y.length, rfl, Nat.le_refl _, rfl, F2, by rw [Nat.sub_self]; exact H5.out.1, by rw [Nat.sub_self, List.take_zero, List.append_nil]; exact H5.out.2.2.1, H5.out.2.1, H5.out.2.2.2.1, H5.out.2.2.2.2.1, H5.out.2.2.2.2.2.1, H5.out.2.2.2.2.2.2⟩
      case round =>
        obtain ⟨L, hgh, hL, rfl, Fx, hR⟩ := hrel
        have Hgh := Lib.hid hgh; clear hgh
        have HR := Lib.hid hR; clear hR H5
        by_cases hpos : 0 < L
        · obtain ⟨M', hM⟩ : ∃ M' : Nat, (if 1 + (L : Int) % 13 < (L : Int) then 1 + (L : Int) % 13 else (L : Int)) = (M' : Int) := ⟨min (1 + L % 13) L, by split <;> omega⟩
          have hM1 : 1 ≤ M' ∧ M' ≤ 13 ∧ M' ≤ L := by split at hM <;> omega
          obtain ⟨hM1, hM13, hML⟩ := hM1
          obtain ⟨a, ha⟩ : ∃ a, a = y.length - L := ⟨_, rfl⟩
          have hzl : ((y.drop a).take M').length = M' := by rw [List.length_take, List.length_drop]; omega
          have hg : getA M' (y.drop a ++ pd) 0 = (numOf ((y.drop a).take M'), 0, y.drop (y.length - (L - M')) ++ pd, 0) := by
            unfold getA
            rw [if_neg (by simp), if_neg (by rw [List.length_append, List.length_drop]; omega), List.take_append_of_le_length (by rw [List.length_drop]; omega), List.drop_append_of_le_length (by rw [List.length_drop]; omega), List.drop_drop]
            congr 4; congr 2; omega
          have hlt := M.numOf_lt ((y.drop a).take M')
          rw [hzl] at hlt
          have hbo := M.bitsOf_numOf ((y.drop a).take M')
          rw [hzl] at hbo
          have htk : y.take a ++ (y.drop a).take M' = y.take (y.length - (L - M')) := by
            rw [show y.length - (L - M') = a + M' from by omega, List.take_add]
          obtain ⟨N, hN⟩ : ∃ N, N = numOf ((y.drop a).take M') := ⟨_, rfl⟩
          rw [← hN] at hg hlt hbo
          obtain ⟨lo, hlo⟩ : ∃ lo, lo = M' - M' / 2 := ⟨_, rfl⟩
          obtain ⟨hi, hhi⟩ : ∃ hi, hi = M' / 2 := ⟨_, rfl⟩
          have hlh : hi + lo = M' := by omega
          have hsp := M.bitsOf_split N hi lo
          rw [hlh, hbo] at hsp
          have hn13 : 2 ^ M' ≤ 2 ^ 13 := Nat.pow_le_pow_right (by decide) hM13
          have hnb : N < 8192 := by omega
          have hdiv : N / 2 ^ lo < 2 ^ hi := by
            rw [Nat.div_lt_iff_lt_mul (Nat.pow_pos (by decide)), ← Nat.pow_add, hlh]; exact hlt
          have hmod : N % 2 ^ lo < 2 ^ lo := Nat.mod_lt _ (Nat.pow_pos (by decide))
          have HG := Lib.hid (And.intro hg (And.intro hsp (And.intro htk (And.intro ha (And.intro hdiv hmod)))))
          have e1 : ((M' : Int) / 2) = (hi : Int) := by omega
          have e2 : ((M' : Int) - (hi : Int)) = (lo : Int) := by omega
          have hlo13 : lo ≤ 13 := by omega
          have hhi13 : hi ≤ 13 := by omega
          have hwp := wrap_pow (k := lo) (by omega)
          have hp1 : 1 ≤ 2 ^ lo := Nat.pow_pos (by decide)
          have hp2 : 2 ^ lo ≤ 8192 := Nat.le_trans (Nat.pow_le_pow_right (n := 2) (by decide) hlo13) (by decide)
          obtain ⟨V, hV⟩ : ∃ V, V = 2 ^ lo := ⟨_, rfl⟩
          rw [← hV] at hwp hp1 hp2
          have HV := Lib.hid hV; clear hV
          clear hg hsp htk ha hdiv hmod hzl hlt hbo hN hlo hhi hlh hn13
          go_wp2_with fail
          refine (Get_z M' N 0 (N : Int) _ 0 HR.out.1 rfl rfl (by omega) (by rw [← HG.out.2.2.2.1]; exact HG.out.1)).mono ?_
          rintro e w6 ⟨rfl, h6, o6⟩
          have fr6 := Fr.of_only o6
          have dbr : ∀ F : List Nat, (∀ q, q ∈ br :: F5 → q ∉ F) → ∀ q, q ∈ F → q ∉ [br] := fun F h q hq hb => by simp at hb; subst hb; exact h q (by simp) hq
          have H6 := Lib.hid (And.intro h6 (And.intro (HR.out.2.1.keep fr6 (dbr _ HR.out.2.2.2.2.1)) (And.intro (HR.out.2.2.1.keep fr6 (dbr _ HR.out.2.2.2.2.2.1)) (then_only HR.out.2.2.2.2.2.2 o6 HBR.out))))
          clear h6 o6 fr6 dbr
          go_wp2_with fail
          refine (Put_z (N / 2 ^ lo) hi H6.out.2.1 (Nat.le_trans H6.out.2.2.2.size (Nat.le_refl _)) (div_pow N lo) rfl (by simp only [List.length_append, List.length_take]; omega) (by omega) HG.out.2.2.2.2.1).mono ?_
          rintro e w7 ⟨rfl, F7, h7, fr7⟩
          have h17 := H6.out.2.2.1.keep fr7 HR.out.2.2.2.1
          have hr7 := H6.out.1.keep fr7 HR.out.2.2.2.2.1
          have d17 : ∀ q, q ∈ F1 → q ∉ F7 := fr7.apart HR.out.2.2.2.1 H6.out.2.2.1.lt
          have dr7 : ∀ q, q ∈ br :: F5 → q ∉ F7 := fr7.apart HR.out.2.2.2.2.1 H6.out.1.lt
          have H7 := Lib.hid (And.intro hr7 (And.intro h7 (And.intro h17 (And.intro d17 (And.intro dr7 (then_fr H6.out.2.2.2 fr7 H6.out.2.1.base))))))
          clear h7 fr7 h17 hr7 d17 dr7 H6
          go_wp2_with fail
          refine (Put_z (N % 2 ^ lo) lo H7.out.2.1 (Nat.le_trans H7.out.2.2.2.2.2.size (Nat.le_refl _)) (and_mask N lo V (by omega) HV.out (by omega)) rfl (by simp only [List.length_append, List.length_take, bitsOf_length]; omega) (by omega) HG.out.2.2.2.2.2).mono ?_
          rintro e w8 ⟨rfl, F8, h8, fr8⟩
          have h18 := H7.out.2.2.1.keep fr8 H7.out.2.2.2.1
          have hr8 := H7.out.1.keep fr8 H7.out.2.2.2.2.1
          have d18 : ∀ q, q ∈ F1 → q ∉ F8 := fr8.apart H7.out.2.2.2.1 H7.out.2.2.1.lt
          have dr8 : ∀ q, q ∈ br :: F5 → q ∉ F8 := fr8.apart H7.out.2.2.2.2.1 H7.out.1.lt
          rw [← HG.out.2.2.2.1, List.append_assoc, List.append_assoc, HG.out.2.1, HG.out.2.2.1] at h8
          have H8 := Lib.hid (And.intro hr8 (And.intro h8 (And.intro h18 (And.intro d18 (And.intro dr8 (And.intro HR.out.2.2.2.2.2.1 (then_fr H7.out.2.2.2.2.2 fr8 H7.out.2.1.base)))))))
          clear h8 fr8 h18 hr8 d18 dr8 H7
          go_wp2_with fail
          go_roundg (L - M')
          case measure => have := Hgh.out; omega
          case rel => exact ⟨L - M', rfl, by omega, by congr 1; omega, F8, H8.out⟩
        · have hL0 : L = 0 := by omega
          subst hL0
          rw [Nat.sub_zero, List.take_length] at HR
          clear hpos hL Hgh
          go_wp2_with fail
          refine (Bytes_to (nbytes (x ++ y)) HR.out.2.1 (by rw [List.length_append]; omega) rfl).mono ?_
          rintro e w6 ⟨A6, c6, rfl, r6, b6, _⟩
          have H6 := Lib.hid (And.intro r6 (And.intro (HR.out.2.2.1.below b6) (then_ HR.out.2.2.2.2.2.2 b6))); clear r6 b6 HR
          go_wp2_with fail
          refine (Bytes_to (nbytes (x ++ y)) H6.out.2.1 (by rw [List.length_append]; omega) rfl).mono ?_
          rintro e w7 ⟨A7, c7, rfl, r7, b7, _⟩
          have H7 := Lib.hid (And.intro (H6.out.1.keepd b7) (And.intro r7 (then_ H6.out.2.2 b7))); clear r7 b7 H6
          go_wp2_with fail
          refine (SameBytes_to (nbytes (x ++ y)) _ _ H7.out.1 H7.out.2.1 (fun _ _ => rfl) (by unfold nbytes; rw [List.length_append]; omega)).mono ?_
          rintro e w8 ⟨rfl, b8⟩
          have H8 := Lib.hid (then_ H7.out.2.2 b8); clear b8 H7
          go_wp2_with fail
          refine (awake_calls _).mono ?_
          rintro e w9 ⟨rfl, b9⟩
          have H9 := Lib.hid (then_ H8.out b9); clear b9 H8
          go_wp2_with fail
          go_ret
          exact ⟨rfl, H9.out⟩
end Go.Proofs.Ytgjipjnfbpfenaa
