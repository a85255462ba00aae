/- The reference: a string's bytes; the code of a coder. -/
import Derived.Test.YtdekcilfkelhlaaARef8
set_option linter.unusedVariables false
namespace Go.Proofs.Ytdekcilfkelhlaa
open Go.RowKit

theorem info5' : (Try.prog.info? 5).map (fun i => (i.zero, i.size, i.bytes)) = some (some (.int .u8 0), 1, 1) := by kernel_rfl
theorem take_snoc_bool (l : List Bool) (i : Nat) (h : i < l.length) : l.take (i + 1) = l.take i ++ [l.getD i false] := by
  rw [List.take_succ_eq_append_getElem h, List.getD_eq_getElem?_getD, List.getElem?_eq_getElem h]; rfl
/-- Bytes, of which those of the first bits are put. -/
structure BBlk (w : World) (g n : Nat) (l : List Bool) (cur : Array Value) : Prop where
  blk : w.heap[g]? = some (.cells cur 5 (0, 0))
  at_ : ∀ j, j < n → cur[j]? = some (.int .u8 ((M.byteOf l j : Nat) : Int))
theorem BBlk.snoc {w : World} {g n : Nat} {l : List Bool} {cur : Array Value} (h : BBlk w g n l cur) (b : Bool) (hl : l.length / 8 < n) (v : Nat) (hv : M.byteOf l (l.length / 8) ||| b.toNat * 2 ^ (7 - l.length % 8) = v) :
    BBlk (w.setCell ⟨g, l.length / 8, none⟩ (.int .u8 ((v : Nat) : Int))) g n (l ++ [b]) (cur.setIfInBounds (l.length / 8) (.int .u8 ((v : Nat) : Int))) := by
  refine ⟨block_setCell h.blk _ _, fun j hj => ?_⟩
  have hsz : l.length / 8 < cur.size := by
    have := h.at_ _ hl
    exact (Array.getElem?_eq_some_iff.1 this).1
  by_cases e : j = l.length / 8
  · subst e
    rw [Array.getElem?_setIfInBounds_self_of_lt hsz, ← hv, M.byteOf_snoc]
  · rw [Array.getElem?_setIfInBounds_ne (by omega), h.at_ j hj, M.byteOf_other l b j e]
theorem BBlk.zero {w : World} {g n : Nat} {l : List Bool} {cur : Array Value} (h : BBlk w g n l cur) : BBlk w g n (l ++ [false]) cur := by
  refine ⟨h.blk, fun j hj => ?_⟩
  rw [h.at_ j hj]
  by_cases e : j = l.length / 8
  · have := M.byteOf_snoc l false
    rw [e, ← this]; simp
  · rw [M.byteOf_other l false j e]
theorem or128 (x i : Nat) (hx : x < 256) : bits .or .u8 (x : Int) (128 / 2 ^ (i % 8)) = ((x ||| true.toNat * 2 ^ (7 - i % 8) : Nat) : Int) := by
  have h8 : i % 8 < 8 := Nat.mod_lt _ (by decide)
  generalize i % 8 = p at h8
  have e : (128 : Int) / 2 ^ p = ((true.toNat * 2 ^ (7 - p) : Nat) : Int) := by
    rcases (show p = 0 ∨ p = 1 ∨ p = 2 ∨ p = 3 ∨ p = 4 ∨ p = 5 ∨ p = 6 ∨ p = 7 from by omega) with rfl | rfl | rfl | rfl | rfl | rfl | rfl | rfl <;> decide
  have hb : true.toNat * 2 ^ (7 - p) < 256 := by
    rcases (show p = 0 ∨ p = 1 ∨ p = 2 ∨ p = 3 ∨ p = 4 ∨ p = 5 ∨ p = 6 ∨ p = 7 from by omega) with rfl | rfl | rfl | rfl | rfl | rfl | rfl | rfl <;> decide
  rw [e, u8_or_nat _ _ hx hb]
set_option maxRecDepth 100000 in
set_option maxHeartbeats 2000000 in
theorem Bytes18_ok {A : Option Addr} {n cap : Nat} (l : List Bool) (w : World) (h : LRow w A n (bitL l)) (hn : n ≤ 1000000) :
    Calls Try.prog 56 #[.slice A n cap] w fun e w' => ∃ g cap', e = .returned (.slice (some ⟨g, 0, none⟩) (nbytes l) cap') ∧ BRow w' (some ⟨g, 0, none⟩) (nbytes l) (M.byteOf l) ∧ w.heap.size ≤ g ∧ Below w.heap.size w w' := by
  have hlen : n = l.length := by rw [h.1]; unfold bitL; rw [List.length_map]
  obtain ⟨N, eN⟩ : ∃ N, N = nbytes l := ⟨_, rfl⟩
  have hN : N = (n + 7) / 8 := by rw [eN, hlen]; rfl
  obtain ⟨i0, hi, hz0, hz1, hz2⟩ := info_parts info5'
  have hmk : ∀ W : World, (Instr.makeSlice 22 (.int .i64 (N : Int)) (.int .i64 (N : Int))).run Try.prog W = .ok (.slice (some ⟨W.heap.size, 0, none⟩) N N) (W.alloc (.cells (madeCells (Value.int .u8 0).cells (N * 1)) 5)) := fun W => by
    have := run_make (P := Try.prog) W 22 5 i0 (.int .u8 0) Try.underlying22 hi hz0 .i64 .i64 (N : Int) (N : Int) (by omega) (by omega) (by rw [hz2]; omega) (by omega)
    rw [hz1] at this
    exact this
  obtain ⟨cs, ecs⟩ : ∃ cs, cs = madeCells (Value.int .u8 0).cells (N * 1) := ⟨_, rfl⟩
  rw [← ecs] at hmk
  have hcs : ∀ i, i < N → cs[i]? = some (.int .u8 0) := fun i hi => by
    rw [ecs]
    simp [madeCells, Value.cells, hi, Nat.mod_one]
  have e1 : ((n : Int) + 7) / 8 = (N : Nat) := by omega
  have e2 : ((n : Int) + 7).tdiv 8 = (N : Nat) := by rw [Int.tdiv_eq_ediv_of_nonneg (by omega)]; exact e1
  rw [← eN]
  have H := Lib.hid (And.intro h (And.intro hlen (And.intro hN (And.intro hcs eN))))
  clear hi hz0 hz1 hz2 ecs hcs h hlen hN eN
  go_enter Try.func56, Try.ntmps56
  go_wp2_with fail
  go_loopg [4] n (fun gh iv wr => ∃ (i : Nat) (ci : Array Value), gh = n - i ∧ i ≤ n ∧ iv = .int .i64 (i : Nat) ∧ (BBlk wr w.heap.size N (l.take i) ci ∧ Below w.heap.size w wr))
  case atStart =>
    refine ⟨0, cs, rfl, by omega, rfl, ⟨heap_alloc_new w _, fun j hj => ?_⟩, (Below.refl _ _).alloc (Nat.le_refl _) _⟩
    rw [H.out.2.2.2.1 j hj, List.take_zero, M.byteOf_new [] j (by simp)]; rfl
  case round =>
    obtain ⟨i, ci, hgh, hi, rfl, hR⟩ := hrel
    have Hgh := Lib.hid hgh; clear hgh
    have HR := Lib.hid hR; clear hR
    by_cases hlt : i < n
    · obtain ⟨ad, rfl, hadlt, hc⟩ := (H.out.1.below HR.out.2).2 i hlt
      have hin : i < l.length := by rw [← H.out.2.1]; exact hlt
      have hbit : (bitL l).getD i 0 = (l.getD i false).toNat := by
        unfold bitL
        simp only [List.getD_eq_getElem?_getD, List.getElem?_map]
        cases l[i]? <;> rfl
      rw [hbit] at hc
      have htk := take_snoc_bool l i hin
      have htl : (l.take i).length = i := by rw [List.length_take]; omega
      have i1 : (0 : Int) ≤ (i : Nat) := by omega
      have i2 : ((i : Nat) : Int) < (n : Nat) := by omega
      rcases hb : l.getD i false with _ | _
      · rw [hb] at hc htk
        have hc' : wr.cell? (ad.add i) = some (.int .i64 0) := hc
        have hz := HR.out.1.zero
        rw [← htk] at hz
        have HS := Lib.hid hz
        clear hc hz htk htl hb hbit hin
        go_wp2_with fail
        go_roundg (n - (i + 1))
        case measure => have := Hgh.out; omega
        case rel => exact ⟨i + 1, ci, rfl, by omega, by go_num, HS.out, HR.out.2⟩
      · rw [hb] at hc htk
        have hc' : wr.cell? (ad.add i) = some (.int .i64 1) := hc
        have hq : i / 8 < N := by rw [H.out.2.2.1]; omega
        have hs := HR.out.1.snoc true (by rw [htl]; exact hq) _ rfl
        rw [htl, ← htk] at hs
        have hcell := (cell_of_block HR.out.1.blk (i / 8)).trans (HR.out.1.at_ (i / 8) hq)
        have hfree := free_of_block HR.out.1.blk (i / 8)
        obtain ⟨x, ex⟩ : ∃ x, x = M.byteOf (l.take i) (i / 8) := ⟨_, rfl⟩
        have hx : x < 256 := by rw [ex]; exact M.byteOf_lt _ _
        rw [← ex] at hs hcell
        have i3 : (0 : Int) ≤ ((i / 8 : Nat) : Int) := by omega
        have i4 : ((i / 8 : Nat) : Int) < (N : Nat) := by omega
        have HS := Lib.hid (And.intro hs ex)
        clear hs ex hb hbit hc htk htl hin
        go_wp2_with fail
        go_region
        all_goals
          go_wp2_with fail
          rw [or128 x i hx]
          go_roundg (n - (i + 1))
          case measure => have := Hgh.out; omega
          case rel => exact ⟨i + 1, _, rfl, by omega, by go_num, ⟨HS.out.1.blk, HS.out.1.at_⟩, (then_only HR.out.2 (Only.setCell (b := w.heap.size) (p := ⟨w.heap.size, i / 8, none⟩) (Only.refl _ _) rfl _) (Nat.le_refl _)).drew⟩
    · obtain rfl : i = n := by omega
      clear hlt hi
      go_wp2_with fail
      go_ret
      refine ⟨w.heap.size, _, rfl, fun j hj => ⟨_, rfl, ?_⟩, Nat.le_refl _, HR.out.2⟩
      have h1 := HR.out.1.at_ j hj
      rw [List.take_of_length_le (by rw [← H.out.2.1]; exact Nat.le_refl _)] at h1
      rw [add_zero', cell_of_block HR.out.1.blk j]
      exact h1
theorem field_out (a b c e f : Value) (A : Option Addr) (n k : Nat) (W : World) : (Instr.field 53 (.agg #[a, b, c, .slice A n k, e, f]) 3).run Try.prog W = .ok (.slice A n k) W := by kernel_rfl
/-- The code of a coder. -/
theorem endBits_out (s : St) (b : Bool) (h : b = decide (1073741824 ≤ s.lo)) : endBits s = s.out ++ (b :: List.replicate (s.dl + 1) (!b)) := by
  subst h; rfl
set_option maxRecDepth 100000 in
set_option maxHeartbeats 2000000 in
theorem Bytes22_ok {n : Nat} {f : Nat → Nat} {s : St} {oA iA : Option Addr} {on oc im ic : Nat} (w : World) (h : RCo w n f s oA on oc iA im ic) (hl : s.out.length + s.dl + 2 ≤ 1000000) :
    Calls Try.prog 28 #[rV s.lo s.hi s.dl oA on oc s.num iA im ic] w fun e w' => ∃ g cap', e = .returned (.slice (some ⟨g, 0, none⟩) (nbytes (endBits s)) cap') ∧ BRow w' (some ⟨g, 0, none⟩) (nbytes (endBits s)) (M.byteOf (endBits s)) ∧ w.heap.size ≤ g ∧ Below w.heap.size w w' := by
  unfold rV
  have hd : s.dl ≤ 1000000 := by omega
  have ho := fun (b : Bool) (z : Int) (W : World) (hb : Below w.heap.size w W) (hz : z = (b.toNat : Nat)) => out_r (lo := s.lo) (hi := s.hi) (dl := s.dl + 1) (num := s.num) (s := { s with dl := s.dl + 1 }) b z ((h.below hb).same rfl rfl) hz rfl (by show s.out.length + (s.dl + 1) ≤ _; omega)
  unfold rV at ho
  rw [show ((s.dl + 1 : Nat) : Int) = (s.dl : Int) + 1 from by omega] at ho
  obtain ⟨b, eb⟩ : ∃ b, b = decide (1073741824 ≤ s.lo) := ⟨_, rfl⟩
  have hends := endBits_out s b eb
  have hel := endBits_length s
  have H := Lib.hid (And.intro ho (And.intro hends hel)); clear ho h hends hel
  obtain ⟨w2, ew2⟩ : ∃ w2 : World, w2 = w.alloc (Obj.cells #[.int .i64 (s.lo : Nat), .int .i64 (s.hi : Nat), .int .i64 ((s.dl : Int) + 1), .slice oA on oc, .int .i64 (s.num : Nat), .slice iA im ic] 53) := ⟨_, rfl⟩
  have hb2 : Below w.heap.size w w2 := by rw [ew2]; exact (Below.refl _ _).alloc (Nat.le_refl _) _
  have hk : w2.heap[w.heap.size]? = some (Obj.cells #[.int .i64 (s.lo : Nat), .int .i64 (s.hi : Nat), .int .i64 ((s.dl : Int) + 1), .slice oA on oc, .int .i64 (s.num : Nat), .slice iA im ic] 53 (0, 0)) := by
    rw [ew2]; exact heap_alloc_new w _
  have m0 : w2.cell? ⟨w.heap.size, 0, none⟩ = some (.int .i64 (s.lo : Nat)) := (cell_of_block hk 0).trans rfl
  have m1 : w2.cell? ⟨w.heap.size, 1, none⟩ = some (.int .i64 (s.hi : Nat)) := (cell_of_block hk 1).trans rfl
  have m2 : w2.cell? ⟨w.heap.size, 2, none⟩ = some (.int .i64 ((s.dl : Int) + 1)) := (cell_of_block hk 2).trans rfl
  have m3 : w2.cell? ⟨w.heap.size, 3, none⟩ = some (.slice oA on oc) := (cell_of_block hk 3).trans rfl
  have m4 : w2.cell? ⟨w.heap.size, 4, none⟩ = some (.int .i64 (s.num : Nat)) := (cell_of_block hk 4).trans rfl
  have m5 : w2.cell? ⟨w.heap.size, 5, none⟩ = some (.slice iA im ic) := (cell_of_block hk 5).trans rfl
  have HW := Lib.hid (And.intro ew2 hb2); clear ew2 hb2 hk
  have hfin : ∀ (W : World) (A : Option Addr) (on' oc' : Nat), Below w.heap.size w W → LRow W A on' (bitL (endBits s)) →
      Calls Try.prog 56 #[.slice A on' oc'] W fun e w' => ∃ g cap', e = .returned (.slice (some ⟨g, 0, none⟩) (nbytes (endBits s)) cap') ∧ BRow w' (some ⟨g, 0, none⟩) (nbytes (endBits s)) (M.byteOf (endBits s)) ∧ w.heap.size ≤ g ∧ Below w.heap.size w w' := by
    intro W A on' oc' hb hr
    refine (Bytes18_ok (endBits s) W hr ?_).mono ?_
    · rw [hr.1]; unfold bitL; rw [List.length_map, H.out.2.2]; omega
    · rintro e w' ⟨g, c, rfl, h1, h2, h3⟩
      exact ⟨g, c, rfl, h1, Nat.le_trans hb.size h2, then_ hb h3⟩
  have HF := Lib.hid hfin; clear hfin
  go_enter Try.func28, Try.ntmps28
  go_upto_region 2 with fail
  rw [← HW.out.1]
  by_cases hlt : s.lo < 1073741824
  · have hb : b = false := by rw [eb]; exact decide_eq_false (by omega)
    subst hb
    have d1 : decide (((s.lo : Nat) : Int) < 1073741824) = true := decide_eq_true (by omega)
    have HO := Lib.hid (H.out.1 false 0 w2 HW.out.2 rfl)
    clear hlt eb
    go_wp2_with fail
    ((with_reducible refine HO.out.mono ?_))
    rintro e w3 ⟨A', on', oc', rfl, hr3, _, hb3⟩
    have hr4 : LRow w3 A' on' (bitL (endBits s)) := by rw [H.out.2.1]; exact hr3.out
    have H3 := Lib.hid (HF.out w3 A' on' oc' (then_ HW.out.2 hb3) hr4); clear hr3 hb3 hr4
    have hfd := field_out (.int .i64 (s.lo : Nat)) (.int .i64 (s.hi : Nat)) (.int .i64 0) (.int .i64 (s.num : Nat)) (.slice iA im ic) A' on' oc'
    go_wp2_with fail
    ((with_reducible refine H3.out.mono ?_))
    rintro e w4 ⟨g, c, rfl, h1, h2, h3⟩
    have H4 := Lib.hid (And.intro h1 (And.intro h2 h3)); clear h1 h2 h3
    go_wp2_with fail
    go_ret
    exact ⟨g, c, rfl, H4.out⟩
  · have hb : b = true := by rw [eb]; exact decide_eq_true (by omega)
    subst hb
    have d1 : decide (((s.lo : Nat) : Int) < 1073741824) = false := decide_eq_false (by omega)
    have i1 : (1073741824 : Int) ≤ (s.lo : Nat) := by omega
    have HO := Lib.hid (H.out.1 true 1 w2 HW.out.2 rfl)
    clear hlt eb
    go_wp2_with fail
    ((with_reducible refine HO.out.mono ?_))
    rintro e w3 ⟨A', on', oc', rfl, hr3, _, hb3⟩
    have hr4 : LRow w3 A' on' (bitL (endBits s)) := by rw [H.out.2.1]; exact hr3.out
    have H3 := Lib.hid (HF.out w3 A' on' oc' (then_ HW.out.2 hb3) hr4); clear hr3 hb3 hr4
    have hfd := field_out (.int .i64 (s.lo : Nat)) (.int .i64 (s.hi : Nat)) (.int .i64 0) (.int .i64 (s.num : Nat)) (.slice iA im ic) A' on' oc'
    go_wp2_with fail
    ((with_reducible refine H3.out.mono ?_))
    rintro e w4 ⟨g, c, rfl, h1, h2, h3⟩
    have H4 := Lib.hid (And.intro h1 (And.intro h2 h3)); clear h1 h2 h3
    go_wp2_with fail
    go_ret
    exact ⟨g, c, rfl, H4.out⟩
end Go.Proofs.Ytdekcilfkelhlaa
