/- ArithBegins. -/
import Derived.Test.YtdekcilfkelhlaaOpen
import Derived.Test.YtdekcilfkelhlaaAWrote
set_option linter.unusedVariables false
namespace Go.Proofs.Ytdekcilfkelhlaa
open Go.RowKit

theorem cell_lt {w : World} {a : Addr} {v : Value} (h : w.cell? a = some v) : a.block < w.heap.size := World.block_lt_of_cell? w a h
theorem IsRecs.items {w : World} {a : Option Addr} {len cap : Nat} {z : Nat → Nat → Int} (h : IsRecs [.u8, .u8, .i64] w a len cap z) :
    ∃ t : Its, Items w w.heap.size a len t ∧ len ≤ cap ∧ cap ≤ 9223372036854775807 ∧ (a = none → len = 0 ∧ cap = 0) := by
  rcases h with ⟨rfl, rfl, rfl⟩ | ⟨x, rfl, h1, h2, h3⟩
  · exact ⟨⟨fun _ => 0, fun _ => 0, fun _ => 0⟩, fun i hi => by omega, by omega, by omega, fun _ => ⟨rfl, rfl⟩⟩
  · refine ⟨⟨fun i => (z i 0).toNat, fun i => (z i 1).toNat, fun i => z i 2⟩, ?_, h1, by simpa [maxLen] using h2, fun e => by cases e⟩
    intro i hi
    obtain ⟨c0, w0⟩ := h3 i 0 .u8 hi rfl
    obtain ⟨c1, w1⟩ := h3 i 1 .u8 hi rfl
    obtain ⟨c2, w2⟩ := h3 i 2 .i64 hi rfl
    have b0 := bounds_u8 w0
    have b1 := bounds_u8 w1
    have b2 := bounds_i64 w2
    have hb : (x.add (i * 3)).block = x.block := by unfold Addr.add; split <;> rfl
    have hlt := cell_lt c0
    rw [show [IntKind.u8, IntKind.u8, IntKind.i64].length = 3 from rfl, Nat.add_zero] at c0 hlt
    rw [hb] at hlt
    refine ⟨x, rfl, hlt, ?_, ?_, c2, ?_, ?_, b2.1, b2.2⟩
    · show _ = some (Value.int .u8 ((z i 0).toNat : Int)); rw [Int.toNat_of_nonneg b0.1]; exact c0
    · show _ = some (Value.int .u8 ((z i 1).toNat : Int)); rw [Int.toNat_of_nonneg b1.1]; exact c1
    · show (z i 0).toNat < 256; omega
    · show (z i 1).toNat < 256; omega
theorem Items.less {w : World} {B n m : Nat} {A : Option Addr} {t : Its} (h : Items w B A n t) (hm : m ≤ n) : Items w B A m t := fun i hi => h i (by omega)
theorem Items.up {w : World} {B B' n : Nat} {A : Option Addr} {t : Its} (h : Items w B A n t) (hB : B ≤ B') : Items w B' A n t := by
  intro i hi
  obtain ⟨ad, e, hb, c⟩ := h i hi
  exact ⟨ad, e, Nat.lt_of_lt_of_le hb hB, c⟩
theorem nbytes_bd {s : St} (h : Live s) (hc : s.cnt ≤ 32768) : nbytes (endBits s) ≤ 66000 := by
  have h1 := h.at_
  have h2 := h.good.out
  unfold nbytes
  rw [endBits_length]
  omega
structure BgRel (w0 wr : World) (ew mb n0 n1 : Nat) (bm g : Nat → Nat) (t : Its) (m k i : Nat) (F G : List Nat) (A : Option Addr) (nb : Nat) (f : Nat → Nat) : Prop where
  ses : Ses w0 wr [encPart w0.heap.size ew F (t.fit.st (min i m)).1, kPart 11 bm g (nums2 n0 n1) (t.fit.st (min i m)).2, cPart mb (bunC bm n0 n1) 45, bPart G A nb f]
  part : k < i → nb = nbytes (endBits (t.fit.st k).1) ∧ f = M.byteOf (endBits (t.fit.st k).1)

set_option maxRecDepth 100000 in
set_option maxHeartbeats 4000000 in
theorem begins_walk (A : Option Addr) (n cap a : Nat) (t : Its) (w : World) (hi : Items w w.heap.size A n t) (hcap : n ≤ cap) (hn : cap ≤ 9223372036854775807) (ha : a < 256) :
    Calls Try.prog 5 #[.slice A n cap, .int .u8 (a : Nat)] w fun e w' => e = .returned (.bool true) ∧ Below w.heap.size w w' := by
  obtain ⟨m, hm⟩ : ∃ m : Nat, (if (60 : Int) < (n : Int) then (60 : Int) else (n : Int)) = (m : Int) := ⟨min n 60, by split <;> omega⟩
  have hm4 : m ≤ 60 ∧ m ≤ n := by split at hm <;> omega
  have hi' := hi.less hm4.2
  have hfb := Its.fit_ok hi'.bd
  obtain ⟨k, ek⟩ : ∃ k, k = a % (m + 1) := ⟨_, rfl⟩
  have hk : k ≤ m := by have := Nat.mod_lt a (show 0 < m + 1 by omega); omega
  have hk1 : (a : Int) % ((m : Int) + 1) = (k : Nat) := by rw [ek]; push_cast; rfl
  have hk2 : (a : Int).tmod ((m : Int) + 1) = (k : Nat) := by rw [Int.tmod_eq_emod_of_nonneg (by omega)]; exact hk1
  have HW := Lib.hid (And.intro hi' hfb)
  clear hi hi' hfb ek
  have HS := Lib.hid (Ses.start w)
  go_enter Try.func5, Try.ntmps5
  go_wp2_with fail
  refine (fresh_s HS.out).mono ?_
  rintro e w1 ⟨bm, g, n0, n1, rfl, h1⟩
  have H2 := Lib.hid ((h1.cells (bunC bm n0 n1) 45).enc.mv2.mv1); clear h1 HS
  rw [bunV_eq]
  go_wp2_with fail
  obtain ⟨ew, eew⟩ : ∃ ew, ew = (w1.alloc (.cells (bunC bm n0 n1) 45)).heap.size := ⟨_, rfl⟩
  have eew' : ew = w1.heap.size + 1 := by rw [eew, World.size_alloc]
  rw [← eew']
  have HE := Lib.hid eew; clear eew eew'
  go_loopg [9, 10] (m + 1) (fun gh pv iv wr => ∃ (i : Nat) (F G : List Nat) (A' : Option Addr) (nb cap' : Nat) (f : Nat → Nat), gh = m + 1 - i ∧ i ≤ m + 1 ∧ pv = .slice A' nb cap' ∧ iv = .int .i64 (i : Nat) ∧ BgRel w wr ew w1.heap.size n0 n1 bm g t m k i F G A' nb f)
  case atStart =>
    refine ⟨0, [ew], [], none, 0, 0, fun _ => 0, rfl, by omega, rfl, rfl, ?_, fun h => by omega⟩
    rw [HE.out, show min 0 m = 0 from by omega]
    have hb := H2.out.new (p := bPart [] none 0 fun _ => 0) (Below.refl _ _) ⟨Or.inl rfl, fun q hq => by simp [bPart] at hq, fun _ _ _ => Or.inl rfl⟩ (fun q hq => by simp [bPart] at hq)
    exact hb.mv3.mv3.mv3
  case round =>
    obtain ⟨i, F, G, A', nb, cap', f, hgh, hi, rfl, rfl, hR⟩ := hrel
    have Hgh := Lib.hid hgh; clear hgh
    have HR := Lib.hid hR; clear hR H2
    have hok : Ok ksz (t.fit.st (min i m)) ∧ (t.fit.st (min i m)).1.cnt ≤ 65 * min i m := Its.st_ok (HW.out.2.1.less (by omega))
    by_cases hle : i ≤ m
    · have hS0 := HR.out.ses
      rw [show min i m = i from by omega] at hS0 hok
      have HR0 := Lib.hid (And.intro hS0 HR.out.part); clear hS0 HR
      go_upto_if 42 with fail
      go_cut [9] (fun pv wx => ∃ (G : List Nat) (A' : Option Addr) (nb cap' : Nat) (f : Nat → Nat), pv = .slice A' nb cap' ∧ Ses w wx [encPart w.heap.size ew F (t.fit.st i).1, kPart 11 bm g (nums2 n0 n1) (t.fit.st i).2, cPart w1.heap.size (bunC bm n0 n1) 45, bPart G A' nb f] ∧ (k < i + 1 → nb = nbytes (endBits (t.fit.st k).1) ∧ f = M.byteOf (endBits (t.fit.st k).1)))
      case first =>
        by_cases hik : i = k
        · have hd : ((i : Int) == (k : Nat)) = true := by rw [beq_iff_eq]; omega
          have HIK := Lib.hid hik; clear hik
          go_wp2_with fail
          refine (HR0.out.1.bytes_n (by omega)).mono ?_
          rintro e w2 ⟨G2, A2, c2, rfl, _, h2⟩
          have H2 := Lib.hid h2; clear h2
          go_wp2_with fail
          go_meet
          refine ⟨G2, A2, _, c2, M.byteOf (endBits (t.fit.st i).1), rfl, ?_, fun _ => ?_⟩
          · exact H2.out.mw4.tail.mv3.mv3.mv3
          · rw [HIK.out]; exact ⟨rfl, rfl⟩
        · have hik' : ¬ (i : Int) = (k : Nat) := by omega
          go_wp2_with fail
          go_meet
          exact ⟨G, A', nb, cap', f, rfl, HR0.out.1, fun h => HR0.out.2 (by omega)⟩
      case rest =>
      obtain ⟨G, A', nb, cap', f, rfl, hS, hpt⟩ := hcut
      have HP := Lib.hid (And.intro hS hpt); clear hS hpt
      clear HR0
      by_cases hlt : i < m
      · obtain ⟨ad, rfl, hab, c0, c1, c2, b0, b1, b2, b3⟩ := (HW.out.1.below HP.out.1.bel) i hlt
        rw [add_in ad (i * 3) 1 (by omega)] at c1
        rw [add_in ad (i * 3) 2 (by omega)] at c2
        have i0' : (0 : Int) ≤ (i : Int) := by omega
        have i1' : (i : Int) < (m : Int) := by omega
        have b4 := HW.out.2.1 i hlt
        have b5 := (HW.out.2.2 i hlt).2.2
        obtain ⟨kd, ekd⟩ : ∃ k, k = t.kd i := ⟨_, rfl⟩
        obtain ⟨mm, emm⟩ : ∃ k, k = t.mm i := ⟨_, rfl⟩
        obtain ⟨ss, ess⟩ : ∃ k, k = t.ss i := ⟨_, rfl⟩
        obtain ⟨fs, efs⟩ : ∃ k, k = fitS kd mm ss := ⟨_, rfl⟩
        have eops : t.fit.ops i = opsOf kd mm fs := by rw [efs, ekd, emm, ess]; rfl
        have b4' : kd % 4 ≠ 3 → 0 ≤ fs ∧ fs < ksz (6 + mm % 5) := by rw [efs, ekd, emm, ess]; exact b4
        have b5' : -9223372036854775808 ≤ fs ∧ fs ≤ 9223372036854775807 := by rw [efs, ekd, emm, ess]; exact b5
        rw [← ekd] at c0 b0
        rw [← emm] at c1 b1
        rw [← ess] at c2 b2 b3
        have hft := fun w => fit_ok kd mm ss w b0 b1 b2 b3
        rw [← efs] at hft
        have hc65 : (t.fit.st i).1.cnt + 65 ≤ 32768 := by omega
        have hses := HP.out.1
        have HX := Lib.hid (And.intro eops (And.intro b4' (And.intro b5' (And.intro hft (And.intro hok.1 hses)))))
        have c0' := hses.drew.mv2.bun.c0
        have c1' := hses.drew.mv2.bun.c1
        have c2' := hses.drew.mv2.bun.c2
        have c3' := hses.drew.mv2.bun.c3
        have c4' := hses.drew.mv2.bun.c4
        have c5' := hses.drew.mv2.bun.c5
        have c6' := hses.drew.mv2.bun.c6
        clear eops b4 b5 b4' b5' hab efs ekd emm ess hft hok hses
        go_upto_region 13 with fail
        go_cut [57] (fun tv wx => tv = .bool false ∧ ∃ F', Ses w wx [encPart w.heap.size ew F' (t.fit.st (i + 1)).1, kPart 11 bm g (nums2 n0 n1) (t.fit.st (i + 1)).2, cPart w1.heap.size (bunC bm n0 n1) 45, bPart G A' nb f])
        case first =>
          go_region_with (first
            | ((refine (HX.out.2.2.2.1 _).mono ?_)
               (rintro e w2 ⟨rfl, hb2⟩)
               (have hS2 := HX.out.2.2.2.2.2.drew.below hb2)
               (obtain ⟨k0, k1, k2, k3, k4, k5, k6⟩ := hS2.mv2.bun)
               (have HS2 := Lib.hid hS2)
               (clear hS2 hb2))
            | ((refine (iput_ok kd mm n0 n1 fs HS2.out HX.out.2.2.2.2.1.shape hc65 b0 b1 HX.out.2.2.1.1 HX.out.2.2.1.2 HX.out.2.1).mono ?_)
               (rintro e w3 ⟨rfl, F3, h3⟩)
               (have H3 := Lib.hid h3)
               (clear h3)))
          all_goals
            go_wp2_with fail
            go_meet
            refine ⟨rfl, F3, ?_⟩
            rw [Its.st_succ, HX.out.1]
            exact H3.out
        case rest =>
        obtain ⟨rfl, F3, h3⟩ := hcut
        have H3 := Lib.hid h3
        clear h3 HX
        go_wp2_with fail
        go_roundg (m + 1 - (i + 1))
        case measure => have := Hgh.out; omega
        case rel => exact ⟨i + 1, F3, G, A', nb, cap', f, rfl, by omega, rfl, by go_num, by rw [show min (i + 1) m = i + 1 from by omega]; exact H3.out, HP.out.2⟩
      · have i1' : ¬ (i : Int) < (m : Int) := by omega
        go_upto_region 13 with fail
        go_quiet (fail)
        all_goals
          go_wp2_with fail
          go_roundg (m + 1 - (i + 1))
          case measure => have := Hgh.out; omega
          case rel => exact ⟨i + 1, F, G, A', nb, cap', f, rfl, by omega, rfl, by go_num, by rw [show min (i + 1) m = i from by omega]; exact HP.out.1.drewN _, HP.out.2⟩
    · obtain rfl : i = m + 1 := by omega
      have hle' : ¬ ((m + 1 : Nat) : Int) ≤ (m : Int) := by omega
      have hpt := HR.out.part (by omega)
      have hS := HR.out.ses
      rw [show min (m + 1) m = m from by omega] at hS hok
      obtain ⟨rfl, rfl⟩ := hpt
      have HP := Lib.hid (And.intro hS hok); clear hS hok HR hle
      have hokk := Its.st_ok (t := t.fit) (j := k) (HW.out.2.1.less hk)
      have hb1 := nbytes_bd hokk.1.live (by omega)
      have hb2 := nbytes_bd HP.out.2.1.live (by have := HP.out.2.2; omega)
      have hcnt : (t.fit.st m).1.cnt ≤ 32768 := by have := HP.out.2.2; omega
      have HB := Lib.hid (And.intro hb1 (And.intro hb2 hcnt)); clear hb1 hb2 hokk hcnt hle'
      go_wp2_with fail
      refine (wrote_ok A k cap 60 k t wr (((HW.out.1.less hk).below HP.out.1.bel).up HP.out.1.bel.size) ⟨Nat.le_refl _, by omega, Or.inl rfl⟩ (by decide) (by omega) hn).mono ?_
      rintro e w2 ⟨G2, A2, c2, v2, rfl, _, h2⟩
      have H2 := Lib.hid (HP.out.1.app h2); clear h2
      go_wp2_with fail
      refine (wrote_ok A m cap 60 m t w2 ((HW.out.1.below H2.out.bel).up H2.out.bel.size) ⟨Nat.le_refl _, by omega, Or.inl rfl⟩ (by decide) (by omega) hn).mono ?_
      rintro e w3 ⟨G3, A3, c3, v3, rfl, _, h3⟩
      have H3 := Lib.hid (H2.out.app h3); clear h3 H2 HP
      go_wp2_with fail
      refine (SameBytes_to _ _ _ (Ses.brow (H3.out.mw7)) (Ses.brow (H3.out.mv2)) (fun _ _ => rfl) (by have := HB.out.1; omega)).mono ?_
      rintro e w4 ⟨rfl, hb4⟩
      have H4 := Lib.hid ((H3.out.below hb4).mw4); clear hb4 H3
      go_wp2_with fail
      refine (H4.out.bytes_n HB.out.2.2).mono ?_
      rintro e w5 ⟨G5, A5, c5, rfl, _, h5⟩
      have H5 := Lib.hid h5; clear h5 H4
      go_wp2_with fail
      refine (SameBytes_to _ _ _ (Ses.brow H5.out) (Ses.brow (H5.out.mv2)) (fun _ _ => rfl) (by have := HB.out.2.1; omega)).mono ?_
      rintro e w6 ⟨rfl, hb6⟩
      have H6 := Lib.hid (H5.out.below hb6); clear hb6 H5
      go_wp2_with fail
      refine (awake_ok w6).mono ?_
      rintro e w7 ⟨rfl, hb7⟩
      have H7 := Lib.hid (H6.out.below hb7); clear hb7 H6
      go_wp2_with fail
      go_ret
      exact ⟨rfl, H7.out.bel⟩
end Go.Proofs.Ytdekcilfkelhlaa
