/- ArithOrder: the walk. -/
import Derived.Test.YtdekcilfkelhlaaAOrder
import Derived.Deep.DeepCutAuto
set_option linter.unusedVariables false
namespace Go.Proofs.Ytdekcilfkelhlaa
open Go.RowKit

theorem cells_alloc' {w : World} {t : TypeId} {s : Nat} (hs : w.heap.size = s) (cs : List Value) (i : Nat) (u : Value) (h : cs[i]? = some u) : (w.alloc (.cells cs.toArray t)).cell? (Addr.add ⟨s, 0, none⟩ i) = some u := by
  subst hs
  exact cells_alloc cs i u h
structure ORow (w0 wr : World) (t t2 : Its) (k n2 j : Nat) (vp vq : Value) : Prop where
  ses : Ses w0 wr [rPart w0.heap.size vp j ((itP t).cellsTo j), rPart w0.heap.size vq j ((itQ t t2 k n2).cellsTo j)]

set_option maxRecDepth 100000 in
set_option maxHeartbeats 1200000 in
theorem order_walk (A A2 : Option Addr) (n cap n2 cap2 a : Nat) (t t2 : Its) (w : World) (hi : Items w w.heap.size A n t) (hcap : n ≤ cap) (hn : cap ≤ 9223372036854775807) (hi2 : Items w w.heap.size A2 n2 t2) (hcap2 : n2 ≤ cap2) (hn2 : cap2 ≤ 9223372036854775807) (ha : a < 256) :
    Calls Try.prog 6 #[.slice A n cap, .slice A2 n2 cap2, .int .u8 (a : Nat)] w fun e w' => e = .returned (.bool true) ∧ Below w.heap.size w w' := by
  obtain ⟨m, hm⟩ : ∃ m : Nat, (if (100 : Int) < (n : Int) then (100 : Int) else (n : Int)) = (m : Int) := ⟨min n 100, by split <;> omega⟩
  have hm4 : m ≤ 100 ∧ m ≤ n := by split at hm <;> omega
  have hi' := hi.less hm4.2
  have HA := Lib.hid (awake_ok w)
  have HS := Lib.hid (Ses.start w)
  by_cases hm0 : m = 0
  · subst hm0
    clear hi hi' hi2
    go_enter Try.func6, Try.ntmps6
    go_wp2_with fail
    refine HA.out.mono ?_
    rintro e w2 ⟨rfl, hb2⟩
    have HB := Lib.hid hb2; clear hb2
    go_wp2_with fail
    go_ret
    exact ⟨rfl, HB.out⟩
  obtain ⟨k, ek⟩ : ∃ k, k = a % m := ⟨_, rfl⟩
  have hk : k < m := by rw [ek]; exact Nat.mod_lt _ (by omega)
  have hk1 : (a : Int) % (m : Int) = (k : Nat) := by rw [ek]; push_cast; rfl
  have hk2 : (a : Int).tmod (m : Int) = (k : Nat) := by rw [Int.tmod_eq_emod_of_nonneg (by omega)]; exact hk1
  have hne : ((m : Nat) : Int) ≠ 0 := by omega
  have hq0 : (((m : Nat) : Int) == 0) = false := by rw [beq_eq_false_iff_ne]; exact hne
  obtain ⟨i0, hi1, hz0, hz1, hz2⟩ := info_parts' itinfo
  have HI := Lib.hid (And.intro hi1 (And.intro hz0 (And.intro hz1 hz2))); clear hi1 hz0 hz1 hz2
  have HW := Lib.hid (And.intro hi' (And.intro hi'.bd (And.intro hi2 hi2.bd)))
  clear hi hi' hi2 ek HA hm0
  go_enter Try.func6, Try.ntmps6
  go_wp2_with fail
  go_loopg [8, 9, 37] m (fun gh vp vq iv wr => ∃ j : Nat, gh = m - j ∧ j ≤ m ∧ iv = .int .i64 (j : Nat) ∧ ORow w wr t t2 k n2 j vp vq)
  case atStart => exact ⟨0, rfl, by omega, rfl, ⟨(HS.out.row w.heap.size).row w.heap.size⟩⟩
  case round =>
    obtain ⟨j, hgh, hj, rfl, hR⟩ := hrel
    have Hgh := Lib.hid hgh; clear hgh
    have HR := Lib.hid hR; clear hR HS
    by_cases hlt : j < m
    · obtain ⟨ad, rfl, hab, c0, c1, c2, b0, b1, b2, b3⟩ := (HW.out.1.below HR.out.ses.bel) j hlt
      rw [add_in ad (j * 3) 1 (by omega)] at c1
      rw [add_in ad (j * 3) 2 (by omega)] at c2
      have i0' : (0 : Int) ≤ (j : Int) := by omega
      have i1' : (j : Int) < (m : Int) := by omega
      obtain ⟨kd, ekd⟩ : ∃ k, k = t.kd j := ⟨_, rfl⟩
      obtain ⟨mm, emm⟩ : ∃ k, k = t.mm j := ⟨_, rfl⟩
      obtain ⟨ss, ess⟩ : ∃ k, k = t.ss j := ⟨_, rfl⟩
      obtain ⟨fs, efs⟩ : ∃ k, k = fitS 0 mm ss := ⟨_, rfl⟩
      have ecell : (itP t).cells j = [.int .u8 0, .int .u8 (mm : Nat), .int .i64 fs] := by rw [efs, emm, ess]; rfl
      have efs' : (itP t).ss j = fs := by rw [efs, emm, ess]; rfl
      have b5 := ((itP_ok HW.out.2.1).2 j hlt).2.2
      rw [efs'] at b5
      rw [← ekd] at c0 b0
      rw [← emm] at c1 b1
      rw [← ess] at c2 b2 b3
      have hft := fun w => fit_ok 0 mm ss w (by decide) b1 b2 b3
      rw [← efs] at hft
      have HX := Lib.hid (And.intro ecell (And.intro efs' hft))
      clear ecell efs' hft hab ekd efs ess emm
      have hx0 := HR.out.ses.cells #[.int .u8 0, .int .u8 (mm : Int), .int .i64 ss] 61
      have HX0 := Lib.hid hx0; clear hx0
      go_wp2_with fail
      refine (HX.out.2.2 _).mono ?_
      rintro e w2 ⟨rfl, hb2⟩
      have h2 := HX0.out.below hb2
      have hh2 : w2.heap[wr.heap.size]? = some (.cells #[.int .u8 0, .int .u8 (mm : Int), .int .i64 ss] 61 (0, 0)) := h2.sep.head
      have x0 := (cell_of_block hh2 0).trans rfl
      have x1 := (cell_of_block hh2 1).trans rfl
      have x2 := (cell_of_block hh2 2).trans rfl
      have y0 := free_of_block hh2 0
      have y1 := free_of_block hh2 1
      have y2 := free_of_block hh2 2
      have h3 := ((h2.cset 0 (.int .u8 0)).cset 1 (.int .u8 (mm : Int))).cset 2 (.int .i64 fs)
      unfold itemV
      have H3 := Lib.hid (show Ses w _ [cPart wr.heap.size #[.int .u8 0, .int .u8 (mm : Int), .int .i64 fs] 61, rPart w.heap.size u8 j ((itP t).cellsTo j), rPart w.heap.size u9 j ((itQ t t2 k n2).cellsTo j)] from h3); clear h2 h3 hh2 hb2 HX0 c0 c1 c2
      have hrp := H3.out.mv1.sep.head
      have HRP := Lib.hid (show World.ownsRow _ w.heap.size 61 3 u8 j ((itP t).cellsTo j) from hrp); clear hrp
      go_wp2_with (at_builtin; refine wpList_append_own_at _ rfl (.tmp 45) (.tmp 47) 40 rfl w.heap.size 61 i0 _ 3 16 Try.underlying40 HI.out.1 HI.out.2.1 HI.out.2.2.1 HI.out.2.2.2 rfl (by decide) _ _ _ rfl (HRP.out.alloc _) ⟨w2.heap.size, 0, none⟩ 1 1 [.int .u8 0, .int .u8 (mm : Nat), .int .i64 fs] rfl rfl ?c1 ?c2 ?c3 ?c4 ?c5 ?_)
      case c1 => exact fun i u hu => cells_alloc' (by simp [World.setCell]) [.int .u8 0, .int .u8 (mm : Nat), .int .i64 fs] i u hu
      case c2 =>
        intro u hu
        simp only [List.mem_cons, List.not_mem_nil, or_false] at hu
        rcases hu with rfl | rfl | rfl <;> rfl
      case c3 => unfold maxLen; omega
      case c4 => omega
      case c5 => have := H3.out.bel.size; simp [World.setCell] at this ⊢; omega
      intro v' w4 hown hgrow _ hat
      have h4 := (H3.out.mv1.grown hown hgrow (by simpa [World.setCell, World.size_alloc] using hat)).mv1
      have e3 : (itP t).cellsTo j ++ [.int .u8 0, .int .u8 (mm : Nat), .int .i64 fs] = (itP t).cellsTo (j + 1) := by rw [Its.cellsTo_succ, HX.out.1]
      rw [e3] at h4
      have hh4 : w4.heap[wr.heap.size]? = some (.cells #[.int .u8 0, .int .u8 (mm : Int), .int .i64 fs] 61 (0, 0)) := h4.sep.head
      have x0 := (cell_of_block hh4 0).trans rfl
      have x1 := (cell_of_block hh4 1).trans rfl
      have x2 := (cell_of_block hh4 2).trans rfl
      have y2 := free_of_block hh4 2
      have H4 := Lib.hid h4; clear h4 hown hgrow hat e3 hh4 HRP H3
      obtain ⟨s2, es2⟩ : ∃ q, q = if k ≤ j ∧ j < n2 then t2.ss j else fs := ⟨_, rfl⟩
      have HS2 := Lib.hid es2; clear es2
      go_upto_region 12 with fail
      go_cut [57] (fun tv wx => tv = .bool (decide (k ≤ j ∧ j < n2)) ∧ w4 = wx)
      case first =>
        by_cases q1 : k ≤ j
        · by_cases q2 : j < n2
          · go_wp2_with fail
            go_meet
            exact ⟨congrArg Value.bool (decide_eq_true ⟨q1, q2⟩).symm, rfl⟩
          · go_wp2_with fail
            go_meet
            exact ⟨congrArg Value.bool (decide_eq_false (fun h => q2 h.2)).symm, rfl⟩
        · go_wp2_with fail
          go_meet
          exact ⟨congrArg Value.bool (decide_eq_false (fun h => q1 h.1)).symm, rfl⟩
      case rest =>
      obtain ⟨rfl, rfl⟩ := hcut
      obtain ⟨bb, ebb⟩ : ∃ b, b = decide (k ≤ j ∧ j < n2) := ⟨_, rfl⟩
      rw [← ebb]
      go_upto_if 57 with fail
      go_cut [57] (fun tv wx => Ses w wx [cPart wr.heap.size #[.int .u8 0, .int .u8 (mm : Int), .int .i64 s2] 61, rPart w.heap.size v' (j + 1) ((itP t).cellsTo (j + 1)), rPart w.heap.size u9 j ((itQ t t2 k n2).cellsTo j)])
      case first =>
        by_cases hcd : k ≤ j ∧ j < n2
        · rw [decide_eq_true hcd] at ebb
          subst ebb
          obtain ⟨ad2, rfl, hab2, _, _, d2, _, _, _, _⟩ := (HW.out.2.2.1.below H4.out.bel) j hcd.2
          rw [add_in ad2 (j * 3) 2 (by omega)] at d2
          have i3 : ((j : Nat) : Int) < (n2 : Nat) := by have := hcd.2; omega
          have hs2 := HS2.out
          rw [if_pos hcd] at hs2
          rw [← hs2] at d2
          clear hab2 hs2 hcd
          go_wp2_with fail
          go_meet
          exact H4.out.cset 2 (.int .i64 s2)
        · rw [decide_eq_false hcd] at ebb
          subst ebb
          have hs2 := HS2.out
          rw [if_neg hcd] at hs2
          clear hcd
          go_wp2_with fail
          go_meet
          rw [hs2]
          exact H4.out
      case rest =>
      have H5 := Lib.hid hcut; clear hcut H4 x0 x1 x2 y2 ebb
      have hh5 : wc.heap[wr.heap.size]? = some (.cells #[.int .u8 0, .int .u8 (mm : Int), .int .i64 s2] 61 (0, 0)) := H5.out.sep.head
      have x0 : wc.cell? ⟨wr.heap.size, 0, none⟩ = some (.int .u8 0) := (cell_of_block hh5 0).trans rfl
      have x1 : wc.cell? ⟨wr.heap.size, 1, none⟩ = some (.int .u8 (mm : Int)) := (cell_of_block hh5 1).trans rfl
      have x2 : wc.cell? ⟨wr.heap.size, 2, none⟩ = some (.int .i64 s2) := (cell_of_block hh5 2).trans rfl
      have s2b : -9223372036854775808 ≤ s2 ∧ s2 ≤ 9223372036854775807 := by
        have := itQ_in (k := k) (n2 := n2) HW.out.2.1 HW.out.2.2.2 hlt
        rw [HX.out.2.1] at this
        rw [HS2.out]
        exact this
      obtain ⟨gs, egs⟩ : ∃ q, q = fitS 0 mm s2 := ⟨_, rfl⟩
      have hf2 := fun w => fit_ok 0 mm s2 w (by decide) b1 s2b.1 s2b.2
      rw [← egs] at hf2
      have emm : mm = t.mm j := by
        have h1 := HX.out.1
        have h2 : (itP t).cells j = [.int .u8 0, .int .u8 (t.mm j : Nat), .int .i64 ((itP t).ss j)] := rfl
        rw [h2] at h1
        injection h1 with _ h1
        injection h1 with h1 _
        injection h1 with _ h1
        omega
      have ecq : (itQ t t2 k n2).cellsTo j ++ [.int .u8 0, .int .u8 (mm : Nat), .int .i64 gs] = (itQ t t2 k n2).cellsTo (j + 1) := by
        rw [Its.cellsTo_succ]
        congr 1
        rw [egs, HS2.out, emm]
        show _ = [Value.int .u8 0, .int .u8 (t.mm j : Nat), .int .i64 (fitS 0 (t.mm j) (if k ≤ j ∧ j < n2 then t2.ss j else (itP t).ss j))]
        rw [HX.out.2.1]
      have HF2 := Lib.hid (And.intro hf2 ecq); clear hf2 ecq egs emm hh5 s2b
      go_wp2_with fail
      refine (HF2.out.1 _).mono ?_
      rintro e w6 ⟨rfl, hb6⟩
      have h6 := (H5.out.below hb6).mv2
      have hrq : w6.ownsRow w.heap.size 61 3 u9 j ((itQ t t2 k n2).cellsTo j) := h6.sep.head
      have H6 := Lib.hid (And.intro h6 hrq); clear h6 hrq hb6 x0 x1 x2 H5
      unfold itemV
      go_wp2_with (at_builtin; refine wpList_append_own_at _ rfl (.tmp 64) (.tmp 67) 40 rfl w.heap.size 61 i0 _ 3 16 Try.underlying40 HI.out.1 HI.out.2.1 HI.out.2.2.1 HI.out.2.2.2 rfl (by decide) _ _ _ rfl (H6.out.2.alloc _) ⟨w6.heap.size, 0, none⟩ 1 1 [.int .u8 0, .int .u8 (mm : Nat), .int .i64 gs] rfl rfl ?c1 ?c2 ?c3 ?c4 ?c5 ?_)
      case c1 => exact fun i u hu => cells_alloc' rfl [.int .u8 0, .int .u8 (mm : Nat), .int .i64 gs] i u hu
      case c2 =>
        intro u hu
        simp only [List.mem_cons, List.not_mem_nil, or_false] at hu
        rcases hu with rfl | rfl | rfl <;> rfl
      case c3 => unfold maxLen; omega
      case c4 => omega
      case c5 => have := H6.out.1.bel.size; simp at this ⊢; omega
      intro v'' w8 hown hgrow _ hat
      have h8 := (H6.out.1.grown hown hgrow (by rw [World.size_alloc]; exact hat))
      rw [HF2.out.2] at h8
      have H8 := Lib.hid h8.cut2.mv1; clear h8 hown hgrow hat
      go_wp2_with fail
      go_roundg (m - (j + 1))
      case measure => have := Hgh.out; omega
      case rel =>
        exact ⟨j + 1, rfl, by omega, by go_num, ⟨H8.out⟩⟩
    · obtain rfl : j = m := by omega
      clear hlt hj
      have hrp : wr.ownsRow w.heap.size 61 3 u8 j ((itP t).cellsTo j) := HR.out.ses.sep.head
      have hrq : wr.ownsRow w.heap.size 61 3 u9 j ((itQ t t2 k n2).cellsTo j) := HR.out.ses.mv1.sep.head
      obtain ⟨pA, pc, rfl, pc1, pc2, hip⟩ := row_items hrp (itP_ok HW.out.2.1).2
      obtain ⟨qA, qc, rfl, qc1, qc2, hiq⟩ := row_items hrq (itQ_ok (k := k) HW.out.2.1 HW.out.2.2.2).2
      have hwp := wrote_own pA j pc 100 j (itP t) wr hip ⟨Nat.le_refl _, by omega, Or.inl rfl⟩ (by decide) pc1 pc2
      have HWP := Lib.hid hwp; clear hwp hip hrp hrq hiq
      go_wp2_with fail
      refine HWP.out.mono ?_
      rintro e w2 ⟨va, vo, rfl, h2⟩
      have h2' := HR.out.ses.app h2
      have hrq2 : w2.ownsRow w.heap.size 61 3 (.slice qA j qc) j ((itQ t t2 k n2).cellsTo j) := h2'.mv3.sep.head
      have hwq := wrote_own qA j qc 100 j (itQ t t2 k n2) w2 (own_items hrq2 (itQ_ok (k := k) HW.out.2.1 HW.out.2.2.2).2) ⟨Nat.le_refl _, by omega, Or.inl rfl⟩ (by decide) qc1 qc2
      have H2 := Lib.hid (And.intro h2' hwq); clear h2 h2' hrq2 hwq HWP
      go_wp2_with fail
      refine H2.out.2.mono ?_
      rintro e w3 ⟨vb, vo2, rfl, h3⟩
      have h3' := H2.out.1.app h3
      -- ub, rb, ua, ra, p, q
      obtain ⟨na, ena⟩ : ∃ q, q = nbytes (endBits ((itP t).fit.st j).1) := ⟨_, rfl⟩
      obtain ⟨nb, enb⟩ : ∃ q, q = nbytes (endBits ((itQ t t2 k n2).fit.st j).1) := ⟨_, rfl⟩
      obtain ⟨fa, efa⟩ : ∃ q, q = M.byteOf (endBits ((itP t).fit.st j).1) := ⟨_, rfl⟩
      obtain ⟨fb, efb⟩ : ∃ q, q = M.byteOf (endBits ((itQ t t2 k n2).fit.st j).1) := ⟨_, rfl⟩
      rw [← ena, ← enb, ← efa, ← efb] at h3'
      have hna : 1 ≤ na ∧ na ≤ 66000 := by
        have h := Its.st_ok (t := (itP t).fit) (j := j) (Its.fit_ok (itP_ok HW.out.2.1).2).1
        have := nbytes_bd h.1.live (by omega)
        refine ⟨?_, by rw [ena]; exact this⟩
        rw [ena]; unfold nbytes; rw [endBits_length]; omega
      have hnb : 1 ≤ nb ∧ nb ≤ 66000 := by
        have h := Its.st_ok (t := (itQ t t2 k n2).fit) (j := j) (Its.fit_ok (itQ_ok (k := k) HW.out.2.1 HW.out.2.2.2).2).1
        have := nbytes_bd h.1.live (by omega)
        refine ⟨?_, by rw [enb]; exact this⟩
        rw [enb]; unfold nbytes; rw [endBits_length]; omega
      obtain ⟨N, eN⟩ : ∃ N : Nat, N = max na nb := ⟨_, rfl⟩
      obtain ⟨k1, ek1⟩ : ∃ q : Nat, q = N - na := ⟨_, rfl⟩
      obtain ⟨k2, ek2⟩ : ∃ q : Nat, q = N - nb := ⟨_, rfl⟩
      have HNm := Lib.hid eN
      have hk1' : (N : Int) - (na : Int) = (k1 : Nat) := by omega
      have hk2' : (N : Int) - (nb : Int) = (k2 : Nat) := by omega
      have hN1 : na + k1 = N := by omega
      have hN2 : nb + k2 = N := by omega
      have hNb : N ≤ 66000 := by omega
      have hlaw := fun i hi hs => order_law (N := N) (i := i) HW.out.2.1 HW.out.2.2.2 ena efa enb efb (by omega) (by omega) hi hs
      obtain ⟨ga, ca, cura, rfl, _⟩ := upart_shape (show w3.ownsRow _ 5 1 va na (bytesL na fa) from h3'.mv2.sep.head) hna.1
      obtain ⟨gb, cb, curb, rfl, _⟩ := upart_shape (show w3.ownsRow _ 5 1 vb nb (bytesL nb fb) from h3'.sep.head) hnb.1
      obtain ⟨B1, eB1⟩ : ∃ q, q = wr.heap.size := ⟨_, rfl⟩
      rw [← eB1] at h3'
      have HN := Lib.hid (And.intro hN1 hN2)
      have HL := Lib.hid hlaw
      have H3 := Lib.hid (show Ses w w3 [rPart w.heap.size (.slice pA j pc) j ((itP t).cellsTo j), rPart w.heap.size (.slice qA j qc) j ((itQ t t2 k n2).cellsTo j), uPart B1 (.slice (some ⟨ga, 0, none⟩) na ca) na fa, uPart w2.heap.size (.slice (some ⟨gb, 0, none⟩) nb cb) nb fb] from h3'.cut2.mv1.mv2.tail.mv3.mv3); clear h3' hlaw eN ek1 ek2 hN1 hN2 ena enb efa efb H2 HR
      go_wp2_with fail
      go_loopg [18, 90] j (fun gh wv iv wr => ∃ i : Nat, gh = j - i ∧ i ≤ j ∧ wv = .int .i64 0 ∧ iv = .int .i64 (i : Nat) ∧ ((∀ r, r < i → (itP t).ss r = (itQ t t2 k n2).ss r) ∧ Ses w wr [rPart w.heap.size (.slice pA j pc) j ((itP t).cellsTo j), rPart w.heap.size (.slice qA j qc) j ((itQ t t2 k n2).cellsTo j), uPart B1 (.slice (some ⟨ga, 0, none⟩) na ca) na fa, uPart w2.heap.size (.slice (some ⟨gb, 0, none⟩) nb cb) nb fb]))
      case atStart => exact ⟨0, rfl, by omega, rfl, rfl, fun r hr => by omega, H3.out⟩
      case round =>
        obtain ⟨i, hgh, hi, rfl, rfl, hR⟩ := hrel
        have Hgh := Lib.hid hgh; clear hgh
        have HR := Lib.hid hR; clear hR H3
        by_cases hlt : i < j
        · have hS1 : World.ownsRow _ w.heap.size 61 3 (.slice pA j pc) j ((itP t).cellsTo j) := HR.out.2.sep.head
          have hS2 : World.ownsRow _ w.heap.size 61 3 (.slice qA j qc) j ((itQ t t2 k n2).cellsTo j) := HR.out.2.mv1.sep.head
          obtain ⟨adp, rfl, _, _, _, d1, _, _, z0, z1⟩ := own_items hS1 (itP_ok HW.out.2.1).2 i hlt
          obtain ⟨adq, rfl, _, _, _, d2, _, _, y0, y1⟩ := own_items hS2 (itQ_ok (k := k) HW.out.2.1 HW.out.2.2.2).2 i hlt
          rw [add_in adp (i * 3) 2 (by omega)] at d1
          rw [add_in adq (i * 3) 2 (by omega)] at d2
          have hlaw := HL.out i hi HR.out.1
          obtain ⟨sp, esp⟩ : ∃ q, q = (itP t).ss i := ⟨_, rfl⟩
          obtain ⟨sq, esq⟩ : ∃ q, q = (itQ t t2 k n2).ss i := ⟨_, rfl⟩
          rw [← esp] at d1 z0 z1 hlaw
          rw [← esq] at d2 y0 y1 hlaw
          have i1 : (0 : Int) ≤ (i : Nat) := by omega
          have i2 : ((i : Nat) : Int) < (j : Nat) := by omega
          have HE := Lib.hid (And.intro esp (And.intro esq hlaw)); clear esp esq hlaw hS1 hS2
          rcases Int.lt_trichotomy sp sq with hc | hc | hc
          · have hb1 : (sp != sq) = true := by rw [bne_iff_ne]; omega
            have HC := Lib.hid (HE.out.2.2.2.1 hlt hc)
            go_wp2_with fail
            go_quiet (fail)
            rename Nat => nq1
            go_wp2_with fail
            go_quiet (fail)
            rename Nat => nq2
            go_upto_region 29 with fail
            go_cut [20] (fun nv wx => nv = .int .i64 (N : Nat) ∧ Ses w wx [rPart w.heap.size (.slice (some adp) j pc) j ((itP t).cellsTo j), rPart w.heap.size (.slice (some adq) j qc) j ((itQ t t2 k n2).cellsTo j), uPart B1 (.slice (some ⟨ga, 0, none⟩) na ca) na fa, uPart w2.heap.size (.slice (some ⟨gb, 0, none⟩) nb cb) nb fb])
            case first =>
              by_cases hab : na < nb
              · have hNb2 : N = nb := by have := HNm.out; omega
                subst hNb2
                go_wp2_with fail
                go_meet
                exact ⟨rfl, HR.out.2.drewN _⟩
              · have hNb2 : N = na := by have := HNm.out; omega
                subst hNb2
                go_wp2_with fail
                go_meet
                exact ⟨rfl, HR.out.2.drewN _⟩
            case rest =>
            obtain ⟨rfl, hS5⟩ := hcut
            obtain ⟨A5, c5, G5, w5, run5, h5⟩ := zeros_part (k := k1) (ty := 22) hS5.mv2 hna.1 (by omega) (by omega)
            obtain ⟨A6, c6, G6, w6, run6, h6⟩ := zeros_part (k := k2) (ty := 22) h5.mv3 hnb.1 (by omega) (by omega)
            have HZ := Lib.hid (And.intro run5 (And.intro run6 h6)); clear run5 run6 h5 h6 hS5
            go_wp2_with (first
              | (at_builtin; refine Lib.wpList_append_run _ rfl (.tmp 121) (.tmp 125) 22 3 rfl _ _ rfl rfl _ _ HZ.out.1 ?_)
              | (at_builtin; refine Lib.wpList_append_run _ rfl (.tmp 127) (.tmp 131) 22 3 rfl _ _ rfl rfl _ _ HZ.out.2.1 ?_))
            refine (Compare_b (-1) w6 (Ses.brow HZ.out.2.2.mv1) (Ses.brow HZ.out.2.2) (by rw [HN.out.1, HN.out.2]; exact HC.out)).mono ?_
            rintro e w7 ⟨rfl, rfl⟩
            have HAW := Lib.hid (awake_ok w6)
            go_wp2_with fail
            refine HAW.out.mono ?_
            rintro e w8 ⟨rfl, hb8⟩
            have H8 := Lib.hid (HZ.out.2.2.below hb8); clear hb8
            go_wp2_with fail
            go_ret
            exact ⟨rfl, H8.out.bel⟩
          · have hb1 : (sp != sq) = false := by rw [bne_eq_false_iff_eq]; exact hc
            have HCC := Lib.hid hc; clear hc
            go_wp2_with fail
            go_quiet (fail)
            go_wp2_with fail
            go_roundg (j - (i + 1))
            case measure => have := Hgh.out; omega
            case rel =>
              refine ⟨i + 1, rfl, by omega, rfl, by go_num, fun r hr => ?_, HR.out.2.drewN _⟩
              by_cases e : r = i
              · subst e; rw [← HE.out.1, ← HE.out.2.1]; exact HCC.out
              · exact HR.out.1 r (by omega)
          · have hb1 : (sp != sq) = true := by rw [bne_iff_ne]; omega
            have hb2 : ¬ sp < sq := by omega
            have HC := Lib.hid (HE.out.2.2.2.2 hlt hc)
            go_wp2_with fail
            go_quiet (fail)
            rename Nat => nq1
            go_wp2_with fail
            go_quiet (fail)
            rename Nat => nq2
            go_upto_region 29 with fail
            go_cut [20] (fun nv wx => nv = .int .i64 (N : Nat) ∧ Ses w wx [rPart w.heap.size (.slice (some adp) j pc) j ((itP t).cellsTo j), rPart w.heap.size (.slice (some adq) j qc) j ((itQ t t2 k n2).cellsTo j), uPart B1 (.slice (some ⟨ga, 0, none⟩) na ca) na fa, uPart w2.heap.size (.slice (some ⟨gb, 0, none⟩) nb cb) nb fb])
            case first =>
              by_cases hab : na < nb
              · have hNb2 : N = nb := by have := HNm.out; omega
                subst hNb2
                go_wp2_with fail
                go_meet
                exact ⟨rfl, HR.out.2.drewN _⟩
              · have hNb2 : N = na := by have := HNm.out; omega
                subst hNb2
                go_wp2_with fail
                go_meet
                exact ⟨rfl, HR.out.2.drewN _⟩
            case rest =>
            obtain ⟨rfl, hS5⟩ := hcut
            obtain ⟨A5, c5, G5, w5, run5, h5⟩ := zeros_part (k := k1) (ty := 22) hS5.mv2 hna.1 (by omega) (by omega)
            obtain ⟨A6, c6, G6, w6, run6, h6⟩ := zeros_part (k := k2) (ty := 22) h5.mv3 hnb.1 (by omega) (by omega)
            have HZ := Lib.hid (And.intro run5 (And.intro run6 h6)); clear run5 run6 h5 h6 hS5
            go_wp2_with (first
              | (at_builtin; refine Lib.wpList_append_run _ rfl (.tmp 121) (.tmp 125) 22 3 rfl _ _ rfl rfl _ _ HZ.out.1 ?_)
              | (at_builtin; refine Lib.wpList_append_run _ rfl (.tmp 127) (.tmp 131) 22 3 rfl _ _ rfl rfl _ _ HZ.out.2.1 ?_))
            refine (Compare_b (1) w6 (Ses.brow HZ.out.2.2.mv1) (Ses.brow HZ.out.2.2) (by rw [HN.out.1, HN.out.2]; exact HC.out)).mono ?_
            rintro e w7 ⟨rfl, rfl⟩
            have HAW := Lib.hid (awake_ok w6)
            go_wp2_with fail
            refine HAW.out.mono ?_
            rintro e w8 ⟨rfl, hb8⟩
            have H8 := Lib.hid (HZ.out.2.2.below hb8); clear hb8
            go_wp2_with fail
            go_ret
            exact ⟨rfl, H8.out.bel⟩
        · obtain rfl : i = j := by omega
          have HC := Lib.hid ((HL.out i (Nat.le_refl _) HR.out.1).1 rfl)
          clear hlt hi
          go_upto_region 29 with fail
          go_cut [20] (fun nv wx => nv = .int .i64 (N : Nat) ∧ Ses w wx [rPart w.heap.size (.slice pA i pc) i ((itP t).cellsTo i), rPart w.heap.size (.slice qA i qc) i ((itQ t t2 k n2).cellsTo i), uPart B1 (.slice (some ⟨ga, 0, none⟩) na ca) na fa, uPart w2.heap.size (.slice (some ⟨gb, 0, none⟩) nb cb) nb fb])
          case first =>
            by_cases hab : na < nb
            · have hNb2 : N = nb := by have := HNm.out; omega
              subst hNb2
              go_wp2_with fail
              go_meet
              exact ⟨rfl, HR.out.2⟩
            · have hNb2 : N = na := by have := HNm.out; omega
              subst hNb2
              go_wp2_with fail
              go_meet
              exact ⟨rfl, HR.out.2⟩
          case rest =>
          obtain ⟨rfl, hS5⟩ := hcut
          obtain ⟨A5, c5, G5, w5, run5, h5⟩ := zeros_part (k := k1) (ty := 22) hS5.mv2 hna.1 (by omega) (by omega)
          obtain ⟨A6, c6, G6, w6, run6, h6⟩ := zeros_part (k := k2) (ty := 22) h5.mv3 hnb.1 (by omega) (by omega)
          have HZ := Lib.hid (And.intro run5 (And.intro run6 h6)); clear run5 run6 h5 h6 hS5
          go_wp2_with (first
            | (at_builtin; refine Lib.wpList_append_run _ rfl (.tmp 121) (.tmp 125) 22 3 rfl _ _ rfl rfl _ _ HZ.out.1 ?_)
            | (at_builtin; refine Lib.wpList_append_run _ rfl (.tmp 127) (.tmp 131) 22 3 rfl _ _ rfl rfl _ _ HZ.out.2.1 ?_))
          refine (Compare_b (0) w6 (Ses.brow HZ.out.2.2.mv1) (Ses.brow HZ.out.2.2) (by rw [HN.out.1, HN.out.2]; exact HC.out)).mono ?_
          rintro e w7 ⟨rfl, rfl⟩
          have HAW := Lib.hid (awake_ok w6)
          go_wp2_with fail
          refine HAW.out.mono ?_
          rintro e w8 ⟨rfl, hb8⟩
          have H8 := Lib.hid (HZ.out.2.2.below hb8); clear hb8
          go_wp2_with fail
          go_ret
          exact ⟨rfl, H8.out.bel⟩
end Go.Proofs.Ytdekcilfkelhlaa
