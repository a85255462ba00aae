/- ArithOnly. -/
import Derived.Test.YtdekcilfkelhlaaAParts2
import Derived.Deep.DeepCutAuto
set_option linter.unusedVariables false
namespace Go.Proofs.Ytdekcilfkelhlaa
open Go.RowKit

theorem conv_brow {w : World} {A : Option Addr} {n : Nat} {f : Nat → Nat} (h : BRow w A n f) (c : Nat) :
    (convert 22 9 (.slice A n c)).run Try.prog w = .ok (.string (strF n f)) w := by
  have hs : Try.prog.underlying 22 = some (.slice 5) := Try.underlying22
  have he : Try.prog.underlying 5 = some (.int .u8) := Try.underlying5
  have hd : Try.prog.underlying 9 = some .string := Try.underlying9
  rcases A with _ | ad
  · have h0 : n = 0 := by
      rcases Nat.eq_zero_or_pos n with h0 | h0
      · exact h0
      · obtain ⟨ad, e, _⟩ := h 0 h0; cases e
    subst h0
    exact conv_ok (Or.inl rfl) c
  · have hl : (loadCells ad n).run Try.prog w = .ok (((List.range n).map fun i => ((f i : Nat) : Int)).map (Value.int .u8)).toArray w := by
      have := run_loadCells_list (P := Try.prog) w ad (((List.range n).map fun i => ((f i : Nat) : Int)).map (Value.int .u8)) (fun j v hj => by
        rw [List.map_map, List.getElem?_map] at hj
        rcases Nat.lt_or_ge j n with hjn | hjn
        · obtain ⟨ad', e, hc⟩ := h j hjn
          obtain rfl : ad = ad' := Option.some.inj e
          rw [List.getElem?_range hjn] at hj
          rw [hc]
          rw [← hj]
          rfl
        · rw [List.getElem?_eq_none (by simpa using hjn)] at hj; cases hj)
      rw [List.length_map, List.length_map, List.length_range] at this
      exact this
    rw [run_convert_bytes_string w _ _ _ _ n c hs he hd, run_bytesToString w _ n c _ hl, foldl_push_bytes]
    simp [strOfNums, strF, ByteArray.empty, ByteArray.emptyWithCapacity]
    rfl
theorem Equal_b {A C : Option Addr} {n m ca cc : Nat} {f g : Nat → Nat} (b : Bool) (w : World) (hA : BRow w A n f) (hC : BRow w C m g) (hb : (listF n f == listF m g) = b) :
    Calls Try.prog 34 #[.slice A n ca, .slice C m cc] w fun e w' => e = .returned (.bool b) ∧ w = w' := by
  rw [← strF_list, ← strF_list] at hb
  have h1 := conv_brow hA ca
  have h2 := conv_brow hC cc
  generalize strF n f = S at *
  generalize strF m g = T at *
  clear hA hC
  go_enter Try.func34, Try.ntmps34
  go_wp2_with fail
  go_ret
  exact ⟨rfl, rfl⟩

theorem BRow.upto {w : World} {A : Option Addr} {n m : Nat} {f : Nat → Nat} (h : BRow w A n f) (hm : m ≤ n) : BRow w A m f := fun i hi => h i (by omega)
/-- A decoder and an encoder that have seen the same. -/
structure Twin (n : Nat) (f : Nat → Nat) (j : Nat) (D E : St × Bun) : Prop where
  dok : DOk (inBit n f) ksz D
  eok : Ok ksz E
  core : core D.1 = core E.1
  fr : D.2 = E.2
  cnt : E.1.cnt ≤ 65 * j
theorem Twin.start (n : Nat) (f : Nat → Nat) : Twin n f 0 (decAt (inBit n f) 32, fr0) (st0, fr0) :=
  ⟨⟨⟨live_dec' n f, shape0⟩, num_dec n f, (num_dec n f).iv.2 (by
    have := firstNum_lt (decBox 0 0 [] none n 0 f) 32
    refine ⟨by simp [decAt, baseN, M.numOf], ?_⟩
    show firstNum (inBit n f) (0 + 0 + 32) ≤ baseN [] 0 + 4294967295
    have e : (decBox 0 0 [] none n 0 f).bit = inBit n f := rfl
    rw [e] at this
    simp [baseN, M.numOf]
    omega)⟩, ok0, rfl, rfl, by simp [st0]⟩
theorem Twin.dcnt {n j : Nat} {f : Nat → Nat} {D E : St × Bun} (h : Twin n f j D E) : D.1.cnt ≤ 65 * j := by
  have := (core_iff.1 h.core).2.2.2.1
  have := h.cnt
  omega
theorem Twin.next {n j kind m : Nat} {f : Nat → Nat} {D E : St × Bun} {s : Int} (h : Twin n f j D E) (hr : Reads (inBit n f) D (opsOf kind m s)) (hf : kind % 4 ≠ 3 → 0 ≤ s ∧ s < ksz (6 + m % 5)) : Twin n f (j + 1) (steps (inBit n f) D (opsOf kind m s)) (steps zbit E (opsOf kind m s)) := by
  obtain ⟨d1, _⟩ := DOk.steps (inBit_le' n f) _ _ h.dok hr
  obtain ⟨o1, o2⟩ := opsOf_fit kind m s hf
  obtain ⟨e1, e2⟩ := h.eok.steps (bit := zbit) o1
  obtain ⟨c1, c2⟩ := core_steps (bit := inBit n f) (b := zbit) (opsOf kind m s) D E h.core h.fr
  exact ⟨d1, e1, c1, c2, by rw [e2]; have := h.cnt; omega⟩
theorem Twin.ends {n j : Nat} {f : Nat → Nat} {D E : St × Bun} (h : Twin n f j D E) : endBits D.1 = endBits E.1 := core_end h.core

/-- What End and a comparison say of the same bytes. -/
theorem end_same (code : List Bool) (n : Nat) (f : Nat → Nat) : ∃ (r : Int) (b : Bool), ((r = 0 ∧ b = true) ∨ (r = 220 ∧ b = false)) ∧ (if listF (nbytes code) (M.byteOf code) = listF n f then 0 else 220 : Int) = r ∧ (listF (nbytes code) (M.byteOf code) == listF n f) = b := by
  by_cases h : listF (nbytes code) (M.byteOf code) = listF n f
  · exact ⟨0, true, Or.inl ⟨rfl, rfl⟩, if_pos h, by rw [h]; exact beq_self_eq_true _⟩
  · exact ⟨220, false, Or.inr ⟨rfl, rfl⟩, if_neg h, by rw [beq_eq_false_iff_ne]; exact h⟩
structure ORel (w0 wr : World) (n0 n1 p0 p1 mA mB eb : Nat) (bm g bp gp : Nat → Nat) (nb : Nat) (f : Nat → Nat) (dB dw : Nat) (dG : List Nat) (dA : Option Addr) (dc j : Nat) (F1 F2 : List Nat) (D E : St × Bun) : Prop where
  ses : Ses w0 wr [decPart dB dw dG dA nb dc f F1 D.1, kPart 11 bm g (nums2 n0 n1) D.2, encPart w0.heap.size eb F2 E.1, kPart 11 bp gp (nums2 p0 p1) E.2, cPart mA (bunC bm n0 n1) 45, cPart mB (bunC bp p0 p1) 45]
  twin : Twin nb f j D E

set_option maxRecDepth 100000 in
set_option maxHeartbeats 8000000 in
theorem only_walk (A A2 : Option Addr) (n cap n2 cap2 : Nat) (f : Nat → Nat) (t : Its) (w : World) (hA : BRow w A n f) (hf : ∀ i, f i < 256) (hcap : n ≤ cap) (hn : cap ≤ 9223372036854775807) (hnil : A = none → n = 0 ∧ cap = 0) (hi : Items w w.heap.size A2 n2 t) (hcap2 : n2 ≤ cap2) (hn2 : cap2 ≤ 9223372036854775807) :
    Calls Try.prog 8 #[.slice A n cap, .slice A2 n2 cap2] w fun e w' => e = .returned (.bool true) ∧ Below w.heap.size w w' := by
  obtain ⟨nb, hnb⟩ : ∃ m : Nat, (if (300 : Int) < (n : Int) then (300 : Int) else (n : Int)) = (m : Int) := ⟨min n 300, by split <;> omega⟩
  have hnb4 : nb ≤ 300 ∧ nb ≤ n := by split at hnb <;> omega
  obtain ⟨m, hm⟩ : ∃ m : Nat, m = min n2 100 := ⟨_, rfl⟩
  have hA' := hA.upto hnb4.2
  have hi' := hi.less (show m ≤ n2 by omega)
  have hnil' : A = none → nb = 0 ∧ cap = 0 := fun e => by have := hnil e; omega
  have HW := Lib.hid (And.intro hA' (And.intro hf (And.intro hnil' hi')))
  have HS := Lib.hid (Ses.start w)
  clear hA hA' hf hnil hnil' hi hi'
  go_enter Try.func8, Try.ntmps8
  go_wp2_with fail
  refine (fresh_s HS.out).mono ?_
  rintro e w2 ⟨bm, g, n0, n1, rfl, h2⟩
  have H2 := Lib.hid (h2.cells (bunC bm n0 n1) 45); clear h2 HS
  rw [bunV_eq]
  go_wp2_with fail
  refine (fresh_s H2.out).mono ?_
  rintro e w3 ⟨bp, gp, p0, p1, rfl, h3⟩
  have H3 := Lib.hid (h3.cells (bunC bp p0 p1) 45); clear h3 H2
  rw [bunV_eq]
  go_wp2_with fail
  refine (Ses.dec H3.out (HW.out.1.keepd H3.out.bel) (by omega) (fun i _ => HW.out.2.1 i) HW.out.2.2.1).mono ?_
  rintro e w4 ⟨dB, dw, dG, dA, dc, dF, rfl, h4⟩
  -- d, cN, kN, cM, kM
  have h5 := h4.enc
  have H5 := Lib.hid (show Ses w _ [decPart dB dw dG dA nb dc f dF (decAt (inBit nb f) 32), kPart 11 bm g (nums2 n0 n1) fr0, encPart w.heap.size w4.heap.size [w4.heap.size] st0, kPart 11 bp gp (nums2 p0 p1) fr0, cPart w2.heap.size (bunC bm n0 n1) 45, cPart w3.heap.size (bunC bp p0 p1) 45] from h5.mv2.mw4.mw4.mv3.mw5.mw5); clear h4 h5 H3
  go_wp2_with fail
  go_loopg [11] m (fun gh iv wr => ∃ (j : Nat) (F1 F2 : List Nat) (D E : St × Bun), gh = m - j ∧ j ≤ m ∧ iv = .int .i64 (j : Nat) ∧ ORel w wr n0 n1 p0 p1 w2.heap.size w3.heap.size w4.heap.size bm g bp gp nb f dB dw dG dA dc j F1 F2 D E)
  case atStart => exact ⟨0, dF, [w4.heap.size], (decAt (inBit nb f) 32, fr0), (st0, fr0), by omega, by omega, rfl, H5.out, Twin.start nb f⟩
  case round =>
    obtain ⟨j, F1, F2, D, E, hgh, hj, rfl, hR⟩ := hrel
    have Hgh := Lib.hid hgh; clear hgh
    have HR := Lib.hid hR; clear hR H5
    go_upto_region 9 with fail
    go_cut [43] (fun t' wx => t' = .bool (decide (j < m)) ∧ wr = wx)
    case first =>
      by_cases hlt : j < m
      · have h3 : j < n2 := by omega
        have h4 : ((j : Nat) : Int) < 100 := by omega
        go_wp2_with fail
        go_meet
        exact ⟨congrArg Value.bool (decide_eq_true hlt).symm, rfl⟩
      · by_cases h3 : j < n2
        · have h4 : ¬ ((j : Nat) : Int) < 100 := by omega
          go_wp2_with fail
          go_meet
          exact ⟨congrArg Value.bool (decide_eq_false hlt).symm, rfl⟩
        · go_wp2_with fail
          go_meet
          exact ⟨congrArg Value.bool (decide_eq_false hlt).symm, rfl⟩
    case rest =>
    obtain ⟨rfl, rfl⟩ := hcut
    by_cases hlt : j < m
    · rw [decide_eq_true hlt]
      obtain ⟨ad, rfl, hab, c0, c1, c2, b0, b1, b2, b3⟩ := (HW.out.2.2.2.below HR.out.ses.bel) j hlt
      rw [add_in ad (j * 3) 1 (by omega)] at c1
      rw [add_in ad (j * 3) 2 (by omega)] at c2
      have i0' : (0 : Int) ≤ (j : Int) := by omega
      have i1' : (j : Int) < (n2 : Int) := by omega
      obtain ⟨kd, ekd⟩ : ∃ k, k = t.kd j := ⟨_, rfl⟩
      obtain ⟨mm, emm⟩ : ∃ k, k = t.mm j := ⟨_, rfl⟩
      obtain ⟨ss, ess⟩ : ∃ k, k = t.ss j := ⟨_, rfl⟩
      rw [← ekd] at c0 b0
      rw [← emm] at c1 b1
      rw [← ess] at c2 b2 b3
      clear hab ekd emm ess
      obtain ⟨s, s0, s1, hfit, hrd⟩ := get_some kd mm HR.out.twin.dok
      have hx := HR.out.ses.cells #[.int .u8 (kd : Int), .int .u8 (mm : Int), .int .i64 ss] 61
      obtain ⟨q0, q1, q2⟩ := Ses.it (kind := kd) (m := mm) (s := ss) hx
      obtain ⟨k0, k1, k2, k3, k4, k5, k6⟩ := hx.mw5.bun
      have hget := iget_ok kd mm n0 n1 ss s hx.mv2.mv2 HR.out.twin.dok (by have := HR.out.twin.dcnt; omega) b0 b1 s0 s1 (fun h => (hfit h).1) hrd
      have HG := Lib.hid (And.intro hget (And.intro hfit hrd)); clear hget hfit hrd hx
      go_wp2_with fail
      refine HG.out.1.mono ?_
      rintro e w6 ⟨rfl, F6, h6⟩
      have htw := HR.out.twin.next HG.out.2.2 HG.out.2.1
      have hx6 := h6.mv2
      have y2 := (Ses.it (kind := kd) (m := mm) (s := ss) hx6).c2
      have g2 := free_of_block (show _ = some (Obj.cells #[.int .u8 (kd : Int), .int .u8 (mm : Int), .int .i64 ss] 61 (0, 0)) from hx6.sep.head) 2
      have hx7 := hx6.cset 2 (.int .i64 s)
      have H6 := Lib.hid (And.intro hx7 htw); clear h6 hx6 hx7 htw k0 k1 k2 k3 k4 k5 k6 q0 q1 q2 c0 c1 c2
      go_wp2_with fail
      have hx8 := H6.out.1
      obtain ⟨q0, q1, q2⟩ := Ses.it (kind := kd) (m := mm) (s := s) hx8.drew
      obtain ⟨k0, k1, k2, k3, k4, k5, k6⟩ := hx8.drew.mw6.bun
      have hft := fun w => fit_ok kd mm s w b0 b1 s0 s1
      rw [fit_same kd mm s HG.out.2.1] at hft
      have hE := H6.out.2
      have hc65 : E.1.cnt + 65 ≤ 32768 := by have := HR.out.twin.cnt; omega
      have HF := Lib.hid (And.intro hft hx8); clear hft hx8
      go_cut [72] (fun tv wx => tv = .bool false ∧ ∃ F2', Ses w wx [decPart dB dw dG dA nb dc f F6 (steps (inBit nb f) D (opsOf kd mm s)).1, kPart 11 bm g (nums2 n0 n1) (steps (inBit nb f) D (opsOf kd mm s)).2, encPart w.heap.size w4.heap.size F2' (steps zbit E (opsOf kd mm s)).1, kPart 11 bp gp (nums2 p0 p1) (steps zbit E (opsOf kd mm s)).2, cPart w2.heap.size (bunC bm n0 n1) 45, cPart w3.heap.size (bunC bp p0 p1) 45])
      case first =>
        unfold itemV at HF
        go_region_with (first
          | ((refine (HF.out.1 _).mono ?_)
             (rintro e w8 ⟨rfl, hb8⟩)
             (have hS8 := HF.out.2.drew.below hb8)
             (obtain ⟨q0, q1, q2⟩ := Ses.it (kind := kd) (m := mm) (s := s) hS8)
             (obtain ⟨k0, k1, k2, k3, k4, k5, k6⟩ := hS8.mw6.bun)
             (have HS8 := Lib.hid hS8)
             (clear hS8 hb8))
          | ((refine (iput_ok kd mm p0 p1 s HS8.out.mw4.mw4 HR.out.twin.eok.shape hc65 b0 b1 s0 s1 HG.out.2.1).mono ?_)
             (rintro e w9 ⟨rfl, F9, h9⟩)
             (have H9 := Lib.hid h9)
             (clear h9)))
        all_goals
          go_wp2_with fail
          go_meet
          exact ⟨rfl, F9, H9.out.mv2.tail.mv3.mv3⟩
      case rest =>
      obtain ⟨rfl, F2', h10⟩ := hcut
      have hcntE : (steps zbit E (opsOf kd mm s)).1.cnt ≤ 32768 := by have := hE.cnt; omega
      have hcntD : (steps (inBit nb f) D (opsOf kd mm s)).1.cnt ≤ 32768 := by have := hE.dcnt; omega
      have H10 := Lib.hid (And.intro h10 hE); clear h10 hE HF HG H6 q0 q1 q2 k0 k1 k2 k3 k4 k5 k6
      obtain ⟨D', eD⟩ : ∃ D', D' = steps (inBit nb f) D (opsOf kd mm s) := ⟨_, rfl⟩
      obtain ⟨E', eE⟩ : ∃ E', E' = steps zbit E (opsOf kd mm s) := ⟨_, rfl⟩
      rw [← eD, ← eE] at H10
      rw [← eE] at hcntE
      rw [← eD] at hcntD
      clear eD eE HR
      obtain ⟨r, b, hrb, hr1, hr2⟩ := end_same (endBits E'.1) nb f
      have HRB := Lib.hid (And.intro hr1 hr2); clear hr1 hr2
      go_upto_region 16 with fail
      go_cut [84] (fun tv wx => tv = .bool false ∧ ORel w wx n0 n1 p0 p1 w2.heap.size w3.heap.size w4.heap.size bm g bp gp nb f dB dw dG dA dc (j + 1) F6 F2' D' E')
      case first =>
        by_cases h10 : j % 10 = 0
        · have i5 : ((j : Nat) : Int) % 10 = 0 := by omega
          have i6 : ((j : Nat) : Int).tmod 10 = 0 := by rw [Int.tmod_eq_emod_of_nonneg (by omega)]; exact i5
          clear h10
          go_wp2_with fail
          refine (H10.out.1.end_ r hcntD (by rw [H10.out.2.ends]; exact HRB.out.1)).mono ?_
          rintro e w11 ⟨rfl, h11⟩
          have H11 := Lib.hid h11.mv2; clear h11
          go_wp2_with fail
          refine (H11.out.bytes_n hcntE).mono ?_
          rintro e w12 ⟨G12, A12, c12, rfl, _, h12⟩
          have H12 := Lib.hid h12; clear h12
          go_wp2_with fail
          refine (Equal_b b w12 (Ses.brow H12.out) (HW.out.1.keepd H12.out.bel) HRB.out.2).mono ?_
          rintro e w13 ⟨rfl, rfl⟩
          rcases hrb with ⟨rfl, rfl⟩ | ⟨rfl, rfl⟩
          · go_wp2_with fail
            go_meet
            exact ⟨rfl, H12.out.tail.mv2.mv2, H10.out.2⟩
          · go_wp2_with fail
            go_meet
            exact ⟨rfl, H12.out.tail.mv2.mv2, H10.out.2⟩
        · have i5 : (((j : Nat) : Int) % 10 == 0) = false := by rw [beq_eq_false_iff_ne]; omega
          have i6 : (((j : Nat) : Int).tmod 10 == 0) = false := by rw [Int.tmod_eq_emod_of_nonneg (by omega)]; exact i5
          have i7 : ¬ (((j : Nat) : Int) % 10) = 0 := by omega
          clear h10
          go_wp2_with fail
          go_meet
          exact ⟨rfl, H10.out.1, H10.out.2⟩
      case rest =>
      obtain ⟨rfl, hOR⟩ := hcut
      have HO := Lib.hid hOR; clear hOR H10
      go_wp2_with fail
      go_roundg (m - (j + 1))
      case measure => have := Hgh.out; omega
      case rel => exact ⟨j + 1, F6, F2', D', E', rfl, by omega, by go_num, HO.out⟩
    · rw [decide_eq_false hlt]
      obtain rfl : j = m := by omega
      have hcntE : E.1.cnt ≤ 32768 := by have := HR.out.twin.cnt; omega
      have hcntD : D.1.cnt ≤ 32768 := by have := HR.out.twin.dcnt; omega
      obtain ⟨r, b, hrb, hr1, hr2⟩ := end_same (endBits E.1) nb f
      have HRB := Lib.hid (And.intro hr1 hr2); clear hr1 hr2
      go_wp2_with fail
      refine (HR.out.ses.end_ r hcntD (by rw [HR.out.twin.ends]; exact HRB.out.1)).mono ?_
      rintro e w11 ⟨rfl, h11⟩
      have H11 := Lib.hid h11.mv2; clear h11
      go_wp2_with fail
      refine (H11.out.bytes_n hcntE).mono ?_
      rintro e w12 ⟨G12, A12, c12, rfl, _, h12⟩
      have H12 := Lib.hid h12; clear h12
      go_wp2_with fail
      refine (Equal_b b w12 (Ses.brow H12.out) (HW.out.1.keepd H12.out.bel) HRB.out.2).mono ?_
      rintro e w13 ⟨rfl, rfl⟩
      have HA := Lib.hid (awake_ok w12)
      rcases hrb with ⟨rfl, rfl⟩ | ⟨rfl, rfl⟩
      · go_wp2_with fail
        refine HA.out.mono ?_
        rintro e w14 ⟨rfl, hb14⟩
        have H14 := Lib.hid (H12.out.below hb14); clear hb14
        go_wp2_with fail
        go_ret
        exact ⟨rfl, H14.out.bel⟩
      · go_wp2_with fail
        refine HA.out.mono ?_
        rintro e w14 ⟨rfl, hb14⟩
        have H14 := Lib.hid (H12.out.below hb14); clear hb14
        go_wp2_with fail
        go_ret
        exact ⟨rfl, H14.out.bel⟩
end Go.Proofs.Ytdekcilfkelhlaa
