/- The reference: a decoder at the beginning. -/
import Derived.Test.YtdekcilfkelhlaaARefA
set_option linter.unusedVariables false
namespace Go.Proofs.Ytdekcilfkelhlaa
open Go.RowKit

theorem Start_ok (w : World) : Calls Try.prog 45 #[] w fun e w' => e = .returned (.agg #[.int .i64 0, .int .i64 4294967295, .int .i64 0, .slice none 0 0, .int .i64 0, .slice none 0 0]) ∧ Below w.heap.size w w' := by
  go_enter Try.func45, Try.ntmps45
  go_wp2_with fail
  exact bodyPost_ret (v := .agg #[.int .i64 0, .int .i64 4294967295, .int .i64 0, .slice none 0 0, .int .i64 0, .slice none 0 0]) (by simp [results, Try.results45, go_sem]) rfl ⟨rfl, (Below.refl _ _).alloc (Nat.le_refl _) _⟩
theorem left_tail {w : World} {n a im : Nat} {f : Nat → Nat} {ad ad' : Addr} (h : LRow w (some ad) im (leftL n f a)) (hm : im ≠ 0) (had : 1 < im → ad' = ad.add 1) : LRow w (some ad') (im - 1) (leftL n f (a + 1)) := by
  have him : im = 8 * n - a := by rw [h.1, leftL_length]
  refine ⟨by rw [leftL_length]; omega, fun i hi => ?_⟩
  obtain rfl := had (by omega)
  obtain ⟨ad3, e3, hlt3, hc3⟩ := h.2 (i + 1) (by omega)
  cases e3
  have e4 : (ad.add 1).add i = ad.add (i + 1) := by
    unfold Addr.add
    by_cases hi0 : i = 0
    · subst hi0; simp
    · rw [if_neg hi0, if_neg (by omega), if_neg (by omega)]
      simp; omega
  refine ⟨_, rfl, by rw [add_block]; exact hlt3, ?_⟩
  rw [e4, hc3, leftL_at (by omega), leftL_at (by omega), show a + 1 + i = a + (i + 1) from by omega]
structure OpRel (w w2 wr : World) (n : Nat) (f : Nat → Nat) (b1 j : Nat) (iA : Option Addr) (im ic : Nat) : Prop where
  blk : wr.heap[b1]? = some (.cells (rC 0 4294967295 0 none 0 0 (firstNum (inBit n f) j) iA im ic) 53 (0, 0))
  res : wr.heap[w.heap.size]? = some (.cells rZ 53 (0, 0))
  row : RCo wr n f (decAt (inBit n f) j) none 0 0 iA im ic
  inew : ∀ ad, iA = some ad → w2.heap.size ≤ ad.block
  bel : Below w.heap.size w wr
set_option maxRecDepth 100000 in
set_option maxHeartbeats 4000000 in
theorem Open_ok {A : Option Addr} {n cap : Nat} {f : Nat → Nat} (w : World) (h : BRow w A n f) (hby : ∀ i, i < n → f i < 256) (hn : n ≤ 1000) :
    Calls Try.prog 19 #[.slice A n cap] w (BhPost w n f (decAt (inBit n f) 32) none none) := by
  have H := Lib.hid (And.intro h hby); clear h hby
  go_enter Try.func19, Try.ntmps19
  go_wp2_with fail
  refine (Start_ok _).mono ?_
  rintro e w1 ⟨rfl, hb1⟩
  have hs1 : w.heap.size + 1 ≤ w1.heap.size := by have := hb1.size; simp at this; omega
  have hk0 : w1.heap[w.heap.size]? = some (.cells rZ 53 (0, 0)) := (hb1.block _ (by simp)).trans (heap_alloc_new w _)
  have hbw1 : Below w.heap.size w w1 := then_ ((Below.refl _ _).alloc (Nat.le_refl _) _) hb1
  have H1 := Lib.hid (And.intro hk0 (And.intro hbw1 hs1)); clear hk0 hbw1 hb1
  go_wp2_with fail
  obtain ⟨w2, ew2⟩ : ∃ w2 : World, w2 = w1.alloc (Obj.cells #[.int .i64 0, .int .i64 4294967295, .int .i64 0, .slice none 0 0, .int .i64 0, .slice none 0 0] 53) := ⟨_, rfl⟩
  have hb12 : Below w1.heap.size w1 w2 := by rw [ew2]; exact (Below.refl _ _).alloc (Nat.le_refl _) _
  have hk1 : w2.heap[w1.heap.size]? = some (.cells (rC 0 4294967295 0 none 0 0 0 none 0 0) 53 (0, 0)) := by rw [ew2]; exact heap_alloc_new w1 _
  have hs2 : w2.heap.size = w1.heap.size + 1 := by rw [ew2]; simp
  rw [← ew2]
  clear ew2
  have hbw2 := then_ H1.out.2.1 hb12
  have hk0 := (hb12.block w.heap.size (by omega)).trans H1.out.1
  refine (Bits_ok w2 (H.out.1.keepd hbw2) H.out.2 hn).mono ?_
  rintro e w3 ⟨iA, ic, rfl, hr3, hn3, hc3, hb3⟩
  have hk1' := (hb3.block w1.heap.size (by omega)).trans hk1
  have hk0' := (hb3.block w.heap.size (by omega)).trans hk0
  have m0 : w3.cell? ⟨w1.heap.size, 5, none⟩ = some (.slice none 0 0) := (cell_of_block hk1' 5).trans rfl
  have f0 := free_of_block hk1' 5
  have ho : Only w1.heap.size w3 (w3.setCell ⟨w1.heap.size, 5, none⟩ (.slice iA (8 * n) ic)) := Only.setCell (b := w1.heap.size) (p := ⟨w1.heap.size, 5, none⟩) (Only.refl _ _) rfl _
  have hrel : OpRel w w2 (w3.setCell ⟨w1.heap.size, 5, none⟩ (.slice iA (8 * n) ic)) n f w1.heap.size 0 iA (8 * n) ic := by
    have hb4 := then_only (then_ hbw2 hb3) ho (by omega)
    refine ⟨block_setCell hk1' 5 _, (ho.block _ (by omega)).trans hk0', ?_, fun ad e => (hn3 ad e).1, hb4⟩
    refine ⟨⟨rfl, fun i hi => by omega⟩, fun _ => ⟨rfl, rfl⟩, hr3.keep (fun ad e => ho.block _ (by have := hn3 ad e; omega)) (by rw [ho.size]; exact Nat.le_refl _), hc3.1, by have := hc3.2; unfold maxLen at this; omega, (fun ad e => by cases e), fun ad e => by rw [ho.size]; exact (hn3 ad e).2⟩
  have HX := Lib.hid hrel
  have H2 := Lib.hid (And.intro hs2 hbw2)
  clear hrel hs2 hb12 hk1 hbw2 hk0 hr3 hn3 hc3 hb3 hk1' hk0' ho
  go_wp2_with fail
  go_loopg [4] 32 (fun gh iv wr => ∃ (j : Nat) (iA : Option Addr) (im ic : Nat), gh = 32 - j ∧ j ≤ 32 ∧ iv = .int .i64 (j : Nat) ∧ OpRel w w2 wr n f w1.heap.size j iA im ic)
  case atStart => exact ⟨0, iA, _, ic, rfl, by omega, rfl, HX.out⟩
  case round =>
    obtain ⟨j, iA1, im1, ic1, hgh, hj, rfl, hR⟩ := hrel
    have Hgh := Lib.hid hgh; clear hgh
    have HR := Lib.hid hR; clear hR m0 f0 HX
    have m0 : wr.cell? ⟨w1.heap.size, 0, none⟩ = some (.int .i64 0) := (cell_of_block HR.out.blk 0).trans rfl
    have m1 : wr.cell? ⟨w1.heap.size, 1, none⟩ = some (.int .i64 4294967295) := (cell_of_block HR.out.blk 1).trans rfl
    have m2 : wr.cell? ⟨w1.heap.size, 2, none⟩ = some (.int .i64 0) := (cell_of_block HR.out.blk 2).trans rfl
    have m3 : wr.cell? ⟨w1.heap.size, 3, none⟩ = some (.slice none 0 0) := (cell_of_block HR.out.blk 3).trans rfl
    have m4 : wr.cell? ⟨w1.heap.size, 4, none⟩ = some (.int .i64 (firstNum (inBit n f) j : Nat)) := (cell_of_block HR.out.blk 4).trans rfl
    have m5 : wr.cell? ⟨w1.heap.size, 5, none⟩ = some (.slice iA1 im1 ic1) := (cell_of_block HR.out.blk 5).trans rfl
    have f4 := free_of_block HR.out.blk 4
    have f5 := free_of_block HR.out.blk 5
    have him : im1 = 8 * n - j := by rw [HR.out.row.inn.1, leftL_length]; rfl
    have hnum : firstNum (inBit n f) j < 2 ^ j := firstNum_lt { B := 0, bw := 0, T := 0, G := [], A := none, n := n, cap := 0, f := f, x9 := none } j
    by_cases hlt : j < 32
    · have hp : 2 ^ j ≤ 2 ^ 31 := Nat.pow_le_pow_right (by decide) (by omega)
      have hst : firstNum (inBit n f) (j + 1) = 2 * firstNum (inBit n f) j + inBit n f j := rfl
      have hge := H1.out.2.2
      have hge2 := H2.out.1
      have hib := inBit_le n f j
      have hle := inBit_le n f j
      obtain ⟨num, enum⟩ : ∃ q, q = firstNum (inBit n f) j := ⟨_, rfl⟩
      have hnb : num < 2147483648 := by omega
      rw [← enum] at m4 hst
      have hx : ∀ wm : World, wm = wr.setCell ⟨w1.heap.size, 4, none⟩ (.int .i64 (2 * (num : Int))) → wm.heap[w1.heap.size]? = some (Obj.cells (rC 0 4294967295 0 none 0 0 (2 * num) iA1 im1 ic1) 53 (0, 0)) ∧ wm.heap[w.heap.size]? = some (.cells rZ 53 (0, 0)) ∧ LRow wm iA1 im1 (leftL n f j) ∧ (∀ ad, iA1 = some ad → ad.block < wm.heap.size) ∧ Below w.heap.size w wm := by
        rintro wm rfl
        have ho : Only w1.heap.size wr (wr.setCell ⟨w1.heap.size, 4, none⟩ (.int .i64 (2 * (num : Int)))) := Only.setCell (b := w1.heap.size) (p := ⟨w1.heap.size, 4, none⟩) (Only.refl _ _) rfl _
        refine ⟨?_, (ho.block _ (by omega)).trans HR.out.res, HR.out.row.inn.keep (fun ad e => ho.block _ (by have := HR.out.inew ad e; omega)) (by rw [ho.size]; exact Nat.le_refl _), fun ad e => by rw [ho.size]; exact HR.out.row.ilt ad e, then_only HR.out.bel ho (by omega)⟩
        have := block_setCell HR.out.blk 4 (.int .i64 (2 * (num : Int)))
        rw [show (2 * (num : Int)) = ((2 * num : Nat) : Int) from by omega] at this ⊢
        exact this
      have HX := Lib.hid (And.intro hx (And.intro enum hst)); clear hx enum hst hp
      go_upto_region 7 with fail
      obtain ⟨wm, ewm⟩ : ∃ wm : World, wm = wr.setCell ⟨w1.heap.size, 4, none⟩ (.int .i64 (2 * (num : Int))) := ⟨_, rfl⟩
      have hxm := HX.out.1 wm ewm
      rw [← ewm]
      clear ewm m0 m1 m2 m3 m4 m5 f4 f5 hnum
      have HM := Lib.hid hxm; clear hxm
      have m4 : wm.cell? ⟨w1.heap.size, 4, none⟩ = some (.int .i64 ((2 * num : Nat) : Int)) := (cell_of_block HM.out.1 4).trans rfl
      have m5 : wm.cell? ⟨w1.heap.size, 5, none⟩ = some (.slice iA1 im1 ic1) := (cell_of_block HM.out.1 5).trans rfl
      have f4 := free_of_block HM.out.1 4
      have f5 := free_of_block HM.out.1 5
      by_cases h0 : im1 = 0
      · subst h0
        have hz : inBit n f j = 0 := by unfold inBit; rw [if_neg (by omega)]
        have hfin : OpRel w w2 wm n f w1.heap.size (j + 1) iA1 0 ic1 := by
          have e : firstNum (inBit n f) (j + 1) = 2 * num := by rw [HX.out.2.2, hz]; rfl
          refine ⟨by rw [e]; exact HM.out.1, HM.out.2.1, ⟨⟨rfl, fun i hi => by omega⟩, fun _ => ⟨rfl, rfl⟩, ⟨?_, fun i hi => by omega⟩, HR.out.row.icap, HR.out.row.ibd, (fun ad e => by cases e), HM.out.2.2.2.1⟩, HR.out.inew, HM.out.2.2.2.2⟩
          rw [leftL_length]
          show 0 = 8 * n - (j + 1)
          omega
        have HF := Lib.hid hfin; clear hfin hz him hib hle
        go_wp2_with fail
        go_roundg (32 - (j + 1))
        case measure => have := Hgh.out; omega
        case rel => exact ⟨j + 1, iA1, 0, ic1, rfl, by omega, by go_num, HF.out⟩
      · obtain ⟨ad, rfl, hadlt, hc⟩ := HM.out.2.2.1.2 0 (by omega)
        rw [show ad.add 0 = ad from rfl, leftL_at (by omega), Nat.add_zero] at hc
        obtain ⟨b, eb⟩ : ∃ b, b = inBit n f j := ⟨_, rfl⟩
        rw [← eb] at hc hib
        have i1 : (0 : Int) < (im1 : Nat) := by omega
        have i3 : 0 < im1 := by omega
        have hcap := HR.out.row.icap
        have hibd := HR.out.row.ibd
        have hnew := HR.out.inew ad rfl
        have hfin : ∀ (wf : World) (ad' : Addr) (v : Nat), v = 2 * num + b → wf = ((wm.setCell ⟨w1.heap.size, 4, none⟩ (.int .i64 (v : Nat))).setCell ⟨w1.heap.size, 5, none⟩ (.slice (some ad') (im1 - 1) (ic1 - 1))).drew → (1 < im1 → ad' = ad.add 1) → ad'.block = ad.block → OpRel w w2 wf n f w1.heap.size (j + 1) (some ad') (im1 - 1) (ic1 - 1) := by
          rintro wf ad' v hv rfl had hbl
          have ho : Only w1.heap.size wm ((wm.setCell ⟨w1.heap.size, 4, none⟩ (.int .i64 (v : Nat))).setCell ⟨w1.heap.size, 5, none⟩ (.slice (some ad') (im1 - 1) (ic1 - 1))).drew := (Only.setCell (b := w1.heap.size) (p := ⟨w1.heap.size, 5, none⟩) (Only.setCell (b := w1.heap.size) (p := ⟨w1.heap.size, 4, none⟩) (Only.refl _ _) rfl _) rfl _).drewN 1
          have e : firstNum (inBit n f) (j + 1) = v := by rw [HX.out.2.2, ← eb]; exact hv.symm
          have hrow := (HM.out.2.2.1.keep (fun ad e => ho.block _ (by have := HR.out.inew ad e; omega)) (by rw [ho.size]; exact Nat.le_refl _))
          refine ⟨?_, (ho.block _ (by omega)).trans HM.out.2.1, ⟨⟨rfl, fun i hi => by omega⟩, fun _ => ⟨rfl, rfl⟩, left_tail hrow h0 had, by omega, by omega, (fun ad e => by cases e), fun a e => ?_⟩, fun a e => ?_, then_only HM.out.2.2.2.2 ho (by omega)⟩
          · rw [e]
            exact block_setCell (block_setCell HM.out.1 4 (.int .i64 (v : Nat))) 5 _
          · cases e
            rw [hbl, ho.size]; exact HM.out.2.2.2.1 ad rfl
          · cases e
            rw [hbl]; exact hnew
        have HF := Lib.hid (And.intro hfin eb); clear hfin him hle eb hnew
        go_wp2_with fail
        go_region
        all_goals go_wp2_with fail
        · rename_i hone
          have e1 : ic1 - 1 = 0 := by omega
          have e2 := HF.out.1 _ ad (2 * num + b) rfl rfl (fun h => by omega) rfl
          rw [e1, show ((2 * num + b : Nat) : Int) = 2 * (num : Int) + (b : Int) from by omega] at e2
          have HQ := Lib.hid e2; clear e2 e1
          go_roundg (32 - (j + 1))
          case measure => have := Hgh.out; omega
          case rel => exact ⟨j + 1, some ad, im1 - 1, 0, rfl, by omega, by go_num, HQ.out⟩
        · have e2 := HF.out.1 _ ⟨ad.block, ad.off + 1, none⟩ (2 * num + b) rfl rfl (fun h => rfl) rfl
          rw [show ((2 * num + b : Nat) : Int) = 2 * (num : Int) + (b : Int) from by omega] at e2
          have HQ := Lib.hid e2; clear e2
          go_roundg (32 - (j + 1))
          case measure => have := Hgh.out; omega
          case rel => exact ⟨j + 1, some ⟨ad.block, ad.off + 1, none⟩, im1 - 1, ic1 - 1, rfl, by omega, by go_num, HQ.out⟩
    · obtain rfl : j = 32 := by omega
      clear hlt hj
      have z0 : wr.cell? ⟨w.heap.size, 0, none⟩ = some (.int .i64 0) := (cell_of_block HR.out.res 0).trans rfl
      have z1 : wr.cell? ⟨w.heap.size, 1, none⟩ = some (.int .i64 0) := (cell_of_block HR.out.res 1).trans rfl
      have z2 : wr.cell? ⟨w.heap.size, 2, none⟩ = some (.int .i64 0) := (cell_of_block HR.out.res 2).trans rfl
      have z3 : wr.cell? ⟨w.heap.size, 3, none⟩ = some (.slice none 0 0) := (cell_of_block HR.out.res 3).trans rfl
      have z4 : wr.cell? ⟨w.heap.size, 4, none⟩ = some (.int .i64 0) := (cell_of_block HR.out.res 4).trans rfl
      have z5 : wr.cell? ⟨w.heap.size, 5, none⟩ = some (.slice none 0 0) := (cell_of_block HR.out.res 5).trans rfl
      have g0 := free_of_block HR.out.res 0
      have g1 := free_of_block HR.out.res 1
      have g2 := free_of_block HR.out.res 2
      have g3 := free_of_block HR.out.res 3
      have g4 := free_of_block HR.out.res 4
      have g5 := free_of_block HR.out.res 5
      clear him hnum
      have hne : w.heap.size ≠ w1.heap.size := by have := H1.out.2.2; omega
      obtain ⟨num, enum⟩ : ∃ q, q = firstNum (inBit n f) 32 := ⟨_, rfl⟩
      rw [← enum] at m4
      have hend : ∀ wf : World, wf = put6 wr w.heap.size (.int .i64 0) (.int .i64 4294967295) (.int .i64 0) (.slice none 0 0) (.int .i64 (num : Nat)) (.slice iA1 im1 ic1) → wf.heap[w.heap.size]? = some (Obj.cells (rC 0 4294967295 0 none 0 0 num iA1 im1 ic1) 53 (0, 0)) ∧ RCo wf n f (decAt (inBit n f) 32) none 0 0 iA1 im1 ic1 ∧ Below w.heap.size w wf ∧ From w none iA1 := by
        rintro wf rfl
        have ho : Only w.heap.size wr (put6 wr w.heap.size (.int .i64 0) (.int .i64 4294967295) (.int .i64 0) (.slice none 0 0) (.int .i64 (num : Nat)) (.slice iA1 im1 ic1)) := put6_only
        have hge := H1.out.2.2
        have hge2 := H2.out.1
        exact ⟨put6_blk HR.out.res, HR.out.row.keep (fun ad e => by cases e) (fun ad e => ho.block _ (by have := HR.out.inew ad e; omega)) (by rw [ho.size]; exact Nat.le_refl _), then_only HR.out.bel ho (Nat.le_refl _), fun ad e => Or.inr (by have := HR.out.inew ad e; omega)⟩
      have HE2 := Lib.hid (And.intro hend enum); clear hend enum
      go_wp2_with fail
      obtain ⟨wf, ewf⟩ : ∃ wf : World, wf = put6 wr w.heap.size (.int .i64 0) (.int .i64 4294967295) (.int .i64 0) (.slice none 0 0) (.int .i64 (num : Nat)) (.slice iA1 im1 ic1) := ⟨_, rfl⟩
      obtain ⟨y1, y2, y3, y4⟩ := HE2.out.1 wf ewf
      have enum := HE2.out.2
      unfold put6 at ewf
      rw [← ewf]
      clear ewf
      have x0 : wf.cell? ⟨w.heap.size, 0, none⟩ = some (.int .i64 0) := (cell_of_block y1 0).trans rfl
      have x1 : wf.cell? ⟨w.heap.size, 1, none⟩ = some (.int .i64 4294967295) := (cell_of_block y1 1).trans rfl
      have x2 : wf.cell? ⟨w.heap.size, 2, none⟩ = some (.int .i64 0) := (cell_of_block y1 2).trans rfl
      have x3 : wf.cell? ⟨w.heap.size, 3, none⟩ = some (.slice none 0 0) := (cell_of_block y1 3).trans rfl
      have x4 : wf.cell? ⟨w.heap.size, 4, none⟩ = some (.int .i64 (num : Nat)) := (cell_of_block y1 4).trans rfl
      have x5 : wf.cell? ⟨w.heap.size, 5, none⟩ = some (.slice iA1 im1 ic1) := (cell_of_block y1 5).trans rfl
      refine bodyPost_ret (v := .agg #[.int .i64 0, .int .i64 4294967295, .int .i64 0, .slice none 0 0, .int .i64 (num : Nat), .slice iA1 im1 ic1]) (by simp [results, Try.results19, go_sem, x0, x1, x2, x3, x4, x5]) rfl ⟨none, 0, 0, iA1, im1, ic1, ?_, y2, ⟨(fun ad e => by cases e), y4⟩, y3⟩
      rw [enum]; rfl
end Go.Proofs.Ytdekcilfkelhlaa
