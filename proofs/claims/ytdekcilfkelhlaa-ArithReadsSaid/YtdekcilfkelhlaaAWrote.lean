/- wrote: a list of items is coded. -/
import Derived.Test.YtdekcilfkelhlaaAParts
import Derived.Deep.DeepCutAuto
import Derived.Outline
set_option linter.unusedVariables false
namespace Go.Proofs.Ytdekcilfkelhlaa
open Go.RowKit

theorem info_parts' {ι : Option TypeInfo} {z : Value} {a b : Nat} (h : ι.map (fun i => (i.zero, i.size, i.bytes)) = some (some z, a, b)) : ∃ i, ι = some i ∧ i.zero = some z ∧ i.size = a ∧ i.bytes = b := by
  cases ι with
  | none => cases h
  | some i => simp only [Option.map_some, Option.some.injEq, Prod.mk.injEq] at h; exact ⟨i, rfl, h.1, h.2.1, h.2.2⟩
def bunC (bm : Nat → Nat) (n0 n1 : Nat) : Array Value := #[.pointer (some ⟨bm 6, 0, none⟩), .pointer (some ⟨bm 7, 0, none⟩), .pointer (some ⟨bm 8, 0, none⟩), .pointer (some ⟨bm 9, 0, none⟩), .pointer (some ⟨bm 10, 0, none⟩), .pointer (some ⟨n0, 0, none⟩), .pointer (some ⟨n1, 0, none⟩)]
theorem bunV_eq (bm : Nat → Nat) (n0 n1 : Nat) : bunV bm n0 n1 = .agg #[.pointer (some ⟨bm 6, 0, none⟩), .pointer (some ⟨bm 7, 0, none⟩), .pointer (some ⟨bm 8, 0, none⟩), .pointer (some ⟨bm 9, 0, none⟩), .pointer (some ⟨bm 10, 0, none⟩), .pointer (some ⟨n0, 0, none⟩), .pointer (some ⟨n1, 0, none⟩)] := rfl
/-- The cells of a set by value. -/
structure BunAt (w : World) (mb : Nat) (bm : Nat → Nat) (n0 n1 : Nat) : Prop where
  c0 : w.cell? ⟨mb, 0, none⟩ = some (.pointer (some ⟨bm 6, 0, none⟩))
  c1 : w.cell? ⟨mb, 1, none⟩ = some (.pointer (some ⟨bm 7, 0, none⟩))
  c2 : w.cell? ⟨mb, 2, none⟩ = some (.pointer (some ⟨bm 8, 0, none⟩))
  c3 : w.cell? ⟨mb, 3, none⟩ = some (.pointer (some ⟨bm 9, 0, none⟩))
  c4 : w.cell? ⟨mb, 4, none⟩ = some (.pointer (some ⟨bm 10, 0, none⟩))
  c5 : w.cell? ⟨mb, 5, none⟩ = some (.pointer (some ⟨n0, 0, none⟩))
  c6 : w.cell? ⟨mb, 6, none⟩ = some (.pointer (some ⟨n1, 0, none⟩))
theorem Ses.bun {w0 w : World} {l : List Part} {mb n0 n1 : Nat} {bm : Nat → Nat} {T : TypeId} (h : Ses w0 w (cPart mb (bunC bm n0 n1) T :: l)) : BunAt w mb bm n0 n1 := by
  have hh : w.heap[mb]? = some (.cells (bunC bm n0 n1) T (0, 0)) := h.sep.head
  exact ⟨(cell_of_block hh 0).trans rfl, (cell_of_block hh 1).trans rfl, (cell_of_block hh 2).trans rfl, (cell_of_block hh 3).trans rfl, (cell_of_block hh 4).trans rfl, (cell_of_block hh 5).trans rfl, (cell_of_block hh 6).trans rfl⟩
def itC (kind m : Nat) (s : Int) : Array Value := #[.int .u8 (kind : Int), .int .u8 (m : Int), .int .i64 s]
structure ItAt (w : World) (xb kind m : Nat) (s : Int) : Prop where
  c0 : w.cell? ⟨xb, 0, none⟩ = some (.int .u8 (kind : Int))
  c1 : w.cell? ⟨xb, 1, none⟩ = some (.int .u8 (m : Int))
  c2 : w.cell? ⟨xb, 2, none⟩ = some (.int .i64 s)
theorem Ses.it {w0 w : World} {l : List Part} {xb kind m : Nat} {s : Int} {T : TypeId} (h : Ses w0 w (cPart xb (itC kind m s) T :: l)) : ItAt w xb kind m s := by
  have hh : w.heap[xb]? = some (.cells (itC kind m s) T (0, 0)) := h.sep.head
  exact ⟨(cell_of_block hh 0).trans rfl, (cell_of_block hh 1).trans rfl, (cell_of_block hh 2).trans rfl⟩

set_option maxRecDepth 100000 in
set_option maxHeartbeats 4000000 in
theorem wrote_ok (A : Option Addr) (n cap most m : Nat) (t : Its) (w : World) (hi : Items w w.heap.size A m t) (hm : m ≤ n ∧ m ≤ most ∧ (m = n ∨ m = most)) (h300 : most ≤ 300) (hcap : n ≤ cap) (hn : cap ≤ 9223372036854775807) :
    Calls Try.prog 32 #[.slice A n cap, .int .i64 (most : Nat)] w fun e w' => ∃ G A' cap' v, e = .returned (.tuple #[.slice A' (nbytes (endBits (t.fit.st m).1)) cap', v, .bool true]) ∧ (A' = none → nbytes (endBits (t.fit.st m).1) = 0 ∧ cap' = 0) ∧ Ses w w' [bPart G A' (nbytes (endBits (t.fit.st m).1)) (M.byteOf (endBits (t.fit.st m).1)), rPart w.heap.size v m (t.fit.cellsTo m)] := by
  obtain ⟨i0, hi1, hz0, hz1, hz2⟩ := info_parts' itinfo
  have HI := Lib.hid (And.intro hi1 (And.intro hz0 (And.intro hz1 hz2))); clear hi1 hz0 hz1 hz2
  have hfb := Its.fit_ok hi.bd
  have HW := Lib.hid (And.intro hi hfb); clear hi hfb
  have HS := Lib.hid (Ses.start w)
  go_enter Try.func32, Try.ntmps32
  go_wp2_with fail
  refine (fresh_s HS.out).mono ?_
  rintro e w1 ⟨bm, g, n0, n1, rfl, h1⟩
  have H2 := Lib.hid ((((h1.cells (bunC bm n0 n1) 45).enc).row w.heap.size).mv2.mv3.mv3); clear h1 HS
  rw [bunV_eq]
  go_wp2_with fail
  obtain ⟨ew, eew⟩ : ∃ ew, ew = (w1.alloc (.cells (bunC bm n0 n1) 45)).heap.size := ⟨_, rfl⟩
  have eew' : ew = w1.heap.size + 1 := by rw [eew, World.size_alloc]
  rw [← eew'] 
  have HE := Lib.hid eew; clear eew eew'
  go_loopg [10, 11] m (fun gh v i wr => ∃ (j : Nat) (F : List Nat), gh = m - j ∧ j ≤ m ∧ i = .int .i64 (j : Nat) ∧ Ses w wr [encPart w.heap.size ew F (t.fit.st j).1, kPart 11 bm g (nums2 n0 n1) (t.fit.st j).2, cPart w1.heap.size (bunC bm n0 n1) 45, rPart w.heap.size v j (t.fit.cellsTo j)])
  case atStart => exact ⟨0, _, rfl, by omega, rfl, by rw [HE.out]; exact H2.out⟩
  case round =>
    obtain ⟨j, F, hgh, hj, rfl, hR⟩ := hrel
    have Hgh := Lib.hid hgh; clear hgh
    have HR := Lib.hid hR; clear hR H2
    go_upto_region 7 with fail
    go_cut [27] (fun t' wx => t' = .bool (decide (j < m)) ∧ wr = wx)
    case first =>
      by_cases hlt : j < m
      · have h3 : j < n := by omega
        have h4 : j < most := by omega
        go_wp2_with fail
        go_meet
        exact ⟨congrArg Value.bool (decide_eq_true hlt).symm, rfl⟩
      · by_cases h3 : j < n
        · have h4 : ¬ j < most := by omega
          go_wp2_with fail
          go_meet
          exact ⟨congrArg Value.bool (decide_eq_false hlt).symm, rfl⟩
        · go_wp2_with fail
          go_meet
          exact ⟨congrArg Value.bool (decide_eq_false hlt).symm, rfl⟩
    case rest =>
    obtain ⟨rfl, rfl⟩ := hcut
    by_cases hlt : j < m
    · rw [decide_eq_true hlt]
      obtain ⟨ad, rfl, hab, c0, c1, c2, b0, b1, b2, b3⟩ := (HW.out.1.below HR.out.bel) j hlt
      rw [add_in ad (j * 3) 1 (by omega)] at c1
      rw [add_in ad (j * 3) 2 (by omega)] at c2
      have i0' : (0 : Int) ≤ (j : Int) := by omega
      have i1' : (j : Int) < (n : Int) := by omega
      have b4 := (HW.out.2.1 j hlt)
      have b5 := (HW.out.2.2 j hlt).2.2
      obtain ⟨kd, ekd⟩ : ∃ k, k = t.kd j := ⟨_, rfl⟩
      obtain ⟨mm, emm⟩ : ∃ k, k = t.mm j := ⟨_, rfl⟩
      obtain ⟨ss, ess⟩ : ∃ k, k = t.ss j := ⟨_, rfl⟩
      obtain ⟨fs, efs⟩ : ∃ k, k = fitS kd mm ss := ⟨_, rfl⟩
      have ecell : t.fit.cells j = [.int .u8 (kd : Nat), .int .u8 (mm : Nat), .int .i64 fs] := by rw [efs, ekd, emm, ess]; rfl
      have eops : t.fit.ops j = opsOf kd mm fs := by rw [efs, ekd, emm, ess]; rfl
      have b4' : kd % 4 ≠ 3 → 0 ≤ fs ∧ fs < ksz (6 + mm % 5) := by rw [efs, ekd, emm, ess]; exact b4
      have b5' : -9223372036854775808 ≤ fs ∧ fs ≤ 9223372036854775807 := by rw [efs, ekd, emm, ess]; exact b5
      rw [← ekd] at c0 b0
      rw [← emm] at c1 b1
      rw [← ess] at c2 b2 b3
      have HX := Lib.hid (And.intro ecell (And.intro eops (And.intro b4' b5')))
      have hft := fun w => fit_ok kd mm ss w b0 b1 b2 b3
      rw [← efs] at hft
      have HFT := Lib.hid hft
      clear ecell eops b4 b5 b4' b5' hab efs ekd emm ess hft
      go_wp2_with fail
      refine (HFT.out _).mono ?_
      rintro e w2 ⟨rfl, hb2⟩
      have hS2 := (HR.out.below hb2).cells #[.int .u8 (kd : Int), .int .u8 (mm : Int), .int .i64 fs] 61
      obtain ⟨q0, q1, q2⟩ := Ses.it (kind := kd) (m := mm) (s := fs) hS2
      obtain ⟨k0, k1, k2, k3, k4, k5, k6⟩ := hS2.mv3.bun
      have HS2 := Lib.hid hS2.mv2.mv2; clear hS2 hb2 c0 c1 c2
      unfold itemV
      go_wp2_with fail
      have hst := Its.st_ok (t := t.fit) (j := j) (HW.out.2.1.less (by omega))
      refine (iput_ok kd mm n0 n1 fs HS2.out hst.1.shape (by omega) b0 b1 HX.out.2.2.2.1 HX.out.2.2.2.2 HX.out.2.2.1).mono ?_
      rintro e w3 ⟨rfl, F3, h3⟩
      have h3' : Ses w w3 [encPart w.heap.size ew F3 (t.fit.st (j + 1)).1, kPart 11 bm g (nums2 n0 n1) (t.fit.st (j + 1)).2, cPart w2.heap.size #[.int .u8 (kd : Int), .int .u8 (mm : Int), .int .i64 fs] 61, cPart w1.heap.size (bunC bm n0 n1) 45, rPart w.heap.size u10 j (t.fit.cellsTo j)] := by
        rw [Its.st_succ, HX.out.2.1]; exact h3
      obtain ⟨q0, q1, q2⟩ := Ses.it (kind := kd) (m := mm) (s := fs) h3'.mv2
      have hrow : w3.ownsRow w.heap.size 61 3 u10 j (t.fit.cellsTo j) := h3'.mw4.sep.head
      have HR3 := Lib.hid (And.intro h3'.mw4 hrow); clear h3 h3' hrow HS2 k0 k1 k2 k3 k4 k5 k6 hst
      go_wp2_with (at_builtin; refine wpList_append_own_at _ rfl _ _ 40 rfl w.heap.size 61 i0 _ 3 16 Try.underlying40 HI.out.1 HI.out.2.1 HI.out.2.2.1 HI.out.2.2.2 rfl (by decide) _ _ _ rfl (HR3.out.2.alloc _) ⟨w3.heap.size, 0, none⟩ 1 1 [.int .u8 (kd : Nat), .int .u8 (mm : Nat), .int .i64 fs] rfl rfl ?c1 ?c2 ?c3 ?c4 ?c5 ?_)
      case c1 => exact fun i u hu => cells_alloc [.int .u8 (kd : Nat), .int .u8 (mm : Nat), .int .i64 fs] i u hu
      case c2 =>
        intro u hu
        simp only [List.mem_cons, List.not_mem_nil, or_false] at hu
        rcases hu with rfl | rfl | rfl <;> rfl
      case c3 => unfold maxLen; omega
      case c4 => omega
      case c5 => have := HR3.out.1.bel.size; simp; omega
      intro v' w4 hown hgrow _ hat
      have h4 := (HR3.out.1.grown hown hgrow (by rw [World.size_alloc]; exact hat)).mv3.tail.mv3.mv3.mv3
      rw [← HX.out.1, ← Its.cellsTo_succ] at h4
      have H4 := Lib.hid h4; clear hown hgrow hat h4
      go_wp2_with fail
      go_roundg (m - (j + 1))
      case measure => have := Hgh.out; omega
      case rel => exact ⟨j + 1, F3, rfl, by omega, by go_num, H4.out⟩
    · rw [decide_eq_false hlt]
      have hjm : j = m := by omega
      subst hjm
      have hst := Its.st_ok (t := t.fit) (j := j) HW.out.2.1
      go_wp2_with fail
      refine (HR.out.bytes_n (by omega)).mono ?_
      rintro e w5 ⟨G, A', cap', rfl, hnil, h5⟩
      have H5 := Lib.hid (And.intro hnil h5.cut2.cut2.cut2); clear h5 hnil hst
      go_wp2_with fail
      refine bodyPost_ret (v := .tuple #[.slice A' (nbytes (endBits (t.fit.st j).1)) cap', u10, .bool true]) (by simp [results, Try.results32, go_sem]) rfl ?_
      exact ⟨G, A', cap', _, rfl, H5.out⟩
end Go.Proofs.Ytdekcilfkelhlaa
