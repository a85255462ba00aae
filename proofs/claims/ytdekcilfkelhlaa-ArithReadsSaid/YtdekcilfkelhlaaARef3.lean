/- The reference: Sum, Learn, New. -/
import Derived.Test.YtdekcilfkelhlaaAOwn
set_option linter.unusedVariables false
namespace Go.Proofs.Ytdekcilfkelhlaa
open Go.RowKit

/-- A slice of ints that reads as a list. -/
def LRow (w : World) (A : Option Addr) (n : Nat) (l : List Nat) : Prop := n = l.length ∧ ∀ i, i < n → ∃ ad, A = some ad ∧ ad.block < w.heap.size ∧ w.cell? (ad.add i) = some (.int .i64 ((l.getD i 0 : Nat) : Int))
theorem LRow.below {w w' : World} {A : Option Addr} {n : Nat} {l : List Nat} (h : LRow w A n l) (hb : Below w.heap.size w w') : LRow w' A n l := by
  refine ⟨h.1, fun i hi => ?_⟩
  obtain ⟨ad, e, hlt, hc⟩ := h.2 i hi
  exact ⟨ad, e, Nat.lt_of_lt_of_le hlt hb.size, (hb.cell (by rw [add_block]; exact hlt)).trans hc⟩
theorem sum_le_at {l : List Nat} {i : Nat} (h : i < l.length) : (l.take i).sum + l.getD i 0 ≤ l.sum := take_lt h
theorem Sum_ok {A : Option Addr} {n cap : Nat} {l : List Nat} (k : Nat) (w : World) (h : LRow w A n l) (hk : k ≤ n) (hb : l.sum ≤ 1000000) (hn : n ≤ 1000000) :
    Calls Try.prog 69 #[.slice A n cap, .int .i64 (k : Nat)] w fun e w' => e = .returned (.int .i64 (((l.take k).sum : Nat) : Int)) ∧ w = w' := by
  have H := Lib.hid h; clear h
  go_enter Try.func69, Try.ntmps69
  go_wp2_with fail
  go_loopg [5, 6] k (fun gh ov iv wr => ∃ i : Nat, gh = k - i ∧ i ≤ k ∧ ov = .int .i64 (((l.take i).sum : Nat) : Int) ∧ iv = .int .i64 (i : Nat) ∧ w = wr)
  case atStart => exact ⟨0, rfl, by omega, by simp, rfl, rfl⟩
  case round =>
    obtain ⟨i, hgh, hi, rfl, rfl, rfl⟩ := hrel
    have Hgh := Lib.hid hgh; clear hgh
    by_cases hlt : i < k
    · obtain ⟨ad, rfl, _, hc⟩ := H.out.2 i (by omega)
      have hln := H.out.1
      have hs := sum_take_succ l i (by omega)
      have hle := sum_le_at (l := l) (i := i) (by omega)
      obtain ⟨x, ex⟩ : ∃ x, x = l.getD i 0 := ⟨_, rfl⟩
      obtain ⟨s, es⟩ : ∃ s, s = (l.take i).sum := ⟨_, rfl⟩
      rw [← ex] at hc hs hle
      rw [← es] at hs hle ⊢
      have i1 : (0 : Int) ≤ (i : Nat) := by omega
      have i2 : ((i : Nat) : Int) < (n : Nat) := by omega
      have hsb : s + x ≤ 1000000 := by omega
      have HX := Lib.hid hs; clear hs hle ex es hln
      go_wp2_with fail
      go_roundg (k - (i + 1))
      case measure => have := Hgh.out; omega
      case rel => exact ⟨i + 1, rfl, by omega, by rw [HX.out]; go_num, by go_num, rfl⟩
    · obtain rfl : i = k := by omega
      clear hlt hi
      go_wp2_with fail
      go_ret
      exact ⟨rfl, rfl⟩
theorem info3' : (Try.prog.info? 3).map (fun i => (i.zero, i.size, i.bytes)) = some (some (.int .i64 0), 1, 8) := by kernel_rfl
def intsL (l : List Nat) : List Value := l.map fun x => Value.int .i64 ((x : Nat) : Int)
/-- A row of ints of one's own, in a block. -/
structure IBlk (w : World) (g : Nat) (l : List Nat) (cur : Array Value) : Prop where
  blk : w.heap[g]? = some (.cells cur 3 (0, 0))
  at_ : ∀ i, i < l.length → cur[i]? = some (.int .i64 ((l.getD i 0 : Nat) : Int))
theorem IBlk.row {w : World} {g : Nat} {l : List Nat} {cur : Array Value} (h : IBlk w g l cur) : LRow w (some ⟨g, 0, none⟩) l.length l :=
  ⟨rfl, fun i hi => ⟨⟨g, 0, none⟩, rfl, lt_of_block h.blk, by rw [add_zero', cell_of_block h.blk]; exact h.at_ i hi⟩⟩
theorem IBlk.set {w : World} {g : Nat} {l : List Nat} {cur : Array Value} (h : IBlk w g l cur) {s : Nat} (hs : s < l.length) (x : Nat) : IBlk (w.setCell ⟨g, s, none⟩ (.int .i64 ((x : Nat) : Int))) g (l.set s x) (cur.setIfInBounds s (.int .i64 ((x : Nat) : Int))) := by
  refine ⟨block_setCell h.blk s _, fun i hi => ?_⟩
  rw [List.length_set] at hi
  have hsz : s < cur.size := by
    have := h.at_ s hs
    exact (Array.getElem?_eq_some_iff.1 this).1
  by_cases e : i = s
  · subst e
    rw [Array.getElem?_setIfInBounds_self_of_lt hsz]
    simp [List.getD_eq_getElem?_getD, hs]
  · rw [Array.getElem?_setIfInBounds_ne (by omega), h.at_ i hi]
    simp [List.getD_eq_getElem?_getD, List.getElem?_set_ne (show s ≠ i by omega)]

set_option maxRecDepth 100000 in
set_option maxHeartbeats 1000000 in
theorem Learn_ok {A : Option Addr} {n cap : Nat} {l : List Nat} (s : Nat) (w : World) (h : LRow w A n l) (hs : s < n) (hb : l.sum ≤ 8192) (hn : n ≤ 256) :
    Calls Try.prog 53 #[.slice A n cap, .int .i64 (s : Nat)] w fun e w' => ∃ A' cap', e = .returned (.slice A' n cap') ∧ LRow w' A' n (learn l s) ∧ (∀ ad, A' = some ad → w.heap.size ≤ ad.block ∧ ad.block < w'.heap.size) ∧ Below w.heap.size w w' := by
  obtain ⟨ad, rfl, _, _⟩ := h.2 s hs
  obtain ⟨i0, hi1, hz0, hz1, hz2⟩ := info_parts info3'
  have HI := Lib.hid (And.intro hi1 (And.intro hz0 (And.intro hz1 hz2))); clear hi1 hz0 hz1 hz2
  have hnews : ∀ o, ∀ j u, (intsL l)[j]? = some u → (w.alloc o).cell? (ad.add j) = some u := by
    intro o j u hu
    unfold intsL at hu
    rw [List.getElem?_map] at hu
    rcases Nat.lt_or_ge j n with hj | hj
    · obtain ⟨ad', e, _, hc⟩ := h.2 j hj
      obtain rfl : ad = ad' := Option.some.inj e
      rw [World.cell?_alloc_lt w o _ (World.block_lt_of_cell? w _ hc), hc]
      rw [List.getElem?_eq_getElem (by rw [← h.1]; exact hj)] at hu
      rw [List.getD_eq_getElem?_getD, List.getElem?_eq_getElem (by rw [← h.1]; exact hj)]
      simpa using hu
    · rw [List.getElem?_eq_none (by rw [← h.1]; exact hj)] at hu
      cases hu
  have H := Lib.hid (And.intro hnews h); clear hnews h
  go_enter Try.func53, Try.ntmps53
  go_wp2_with (at_builtin; refine wpList_append_own_at _ rfl _ _ 48 rfl w.heap.size 3 i0 (.int .i64 0) 1 8 Try.underlying48 HI.out.1 HI.out.2.1 HI.out.2.2.1 HI.out.2.2.2 rfl (by decide) (.slice (some ⟨w.heap.size, 0, none⟩) 0 0) 0 [] rfl ?c0 ad n cap (intsL l) rfl ?c1 ?c2 ?c3 ?c4 ?c5 ?c6 ?_)
  case c0 => exact ⟨rfl, Or.inr ⟨_, 0, _, rfl, Nat.le_refl _, heap_alloc_new w _, Nat.le_refl _, by unfold maxLen; omega, rfl, rfl⟩⟩
  case c1 => simp [intsL, H.out.2.1]
  case c2 => exact H.out.1 _
  case c3 => intro u hu; unfold intsL at hu; rw [List.mem_map] at hu; obtain ⟨i, _, rfl⟩ := hu; rfl
  case c4 => unfold maxLen; omega
  case c5 => omega
  case c6 => simp
  intro v' w1 hown hg _ hat
  obtain ⟨g, cp, cur, rfl, hblk⟩ : ∃ g cp cur, v' = .slice (some ⟨g, 0, none⟩) n cp ∧ (w.heap.size ≤ g ∧ IBlk w1 g l cur) := by
    rcases hown.2 with ⟨_, h0⟩ | ⟨g, cp, cur, rfl, hB, hh, h1, _, h3, htk⟩
    · omega
    · refine ⟨g, cp, cur, rfl, hB, hh, fun i hi => ?_⟩
      have hin : i < n := by rw [H.out.2.1]; exact hi
      have e := congrArg (fun q : List Value => q[i]?) htk
      simp only [Nat.mul_one, List.getElem?_take, hin, if_true, Array.getElem?_toList] at e
      rw [e]
      unfold intsL
      rw [List.getElem?_map, List.getElem?_eq_getElem hi, List.getD_eq_getElem?_getD, List.getElem?_eq_getElem hi]
      rfl
  have hb1 : Below w.heap.size w w1 := ((Below.refl _ _).alloc (Nat.le_refl _) _).grown hg (by simp) (by intro q hq; simp [Value.ownBlock] at hq; omega)
  have hln := H.out.2.1
  obtain ⟨x, ex⟩ : ∃ x, x = l.getD s 0 := ⟨_, rfl⟩
  have c0 : w1.cell? ⟨g, s, none⟩ = some (.int .i64 ((x : Nat) : Int)) := by rw [ex]; exact (cell_of_block hblk.2.blk s).trans (hblk.2.at_ s (by omega))
  have f0 := free_of_block hblk.2.blk s
  have hxs : x ≤ 8192 := by have := take_lt (fr := l) (i := s) (by omega); omega
  have hset := hblk.2.set (s := s) (by omega) (x + 32)
  have hsum : (l.set s (x + 32)).sum = l.sum + 32 := by rw [ex]; exact sum_set l s 32 (by omega)
  have hbel : Below w.heap.size w (w1.setCell ⟨g, s, none⟩ (.int .i64 ((x + 32 : Nat) : Int))) := then_only hb1 (Only.setCell (b := g) (p := ⟨g, s, none⟩) (Only.refl _ _) rfl _) hblk.1
  have i1 : (0 : Int) ≤ (s : Nat) := by omega
  have i2 : ((s : Nat) : Int) < (n : Nat) := by omega
  have ex32 : (x : Int) + 32 = ((x + 32 : Nat) : Int) := by omega
  rw [← ex32] at hset hbel
  have hlen : (l.set s (x + 32)).length = n := by rw [List.length_set]; omega
  have hrow : LRow (w1.setCell ⟨g, s, none⟩ (.int .i64 ((x : Int) + 32))) (some ⟨g, 0, none⟩) n (l.set s (x + 32)) := by have := hset.row; rw [hlen] at this; exact this
  have hsm := Sum_ok (cap := cp) n _ hrow (Nat.le_refl _) (by rw [hsum]; omega) (by omega)
  rw [List.take_of_length_le (by omega)] at hsm
  have hln' := Lib.hid hln; clear hln
  have HL := Lib.hid (And.intro hset (And.intro hbel (And.intro hrow (And.intro hsm (And.intro hsum (And.intro ex hblk.1)))))); clear hset hbel hrow hsm hown hg hat hb1 hblk ex ex32
  obtain ⟨L, eL⟩ : ∃ L, L = l.set s (x + 32) := ⟨_, rfl⟩
  obtain ⟨T, eT⟩ : ∃ T : Nat, T = l.sum + 32 := ⟨_, rfl⟩
  have hT : (l.set s (x + 32)).sum = T := by rw [HL.out.2.2.2.2.1, eT]
  have hsm := HL.out.2.2.2.1
  rw [hT] at hsm
  have HSM := Lib.hid hsm; clear hsm
  have hlearn : learn l s = if T ≤ 8192 then L else L.map half1 := by
    unfold learn
    rw [eL, eT, HL.out.2.2.2.2.2.1]
  have HT := Lib.hid (And.intro hlearn (And.intro eL hT)); clear hlearn eL hT eT
  go_wp2_with fail
  refine HSM.out.mono ?_
  rintro e w' ⟨rfl, rfl⟩
  by_cases hgt : 8192 < T
  · have hgt' : (8192 : Int) < (T : Nat) := by omega
    have hlr : learn l s = L.map half1 := by rw [HT.out.1, if_neg (by omega)]
    have HLR := Lib.hid hlr; clear hlr
    have hLn : L.length = n := by rw [HT.out.2.1]; exact hlen
    go_wp2_with fail
    go_loopg [6] n (fun gh iv wr => ∃ (i : Nat) (ci : Array Value), gh = n - i ∧ i ≤ n ∧ iv = .int .i64 (i : Nat) ∧ (IBlk wr g (halfUpto L i) ci ∧ Below w.heap.size w wr))
    case atStart =>
      have hset := HL.out.1
      rw [← HT.out.2.1] at hset
      exact ⟨0, _, rfl, by omega, rfl, by rw [show halfUpto L 0 = L from rfl]; exact hset, HL.out.2.1⟩
    case round =>
      obtain ⟨i, ci, hgh, hi, rfl, hR⟩ := hrel
      have Hgh := Lib.hid hgh; clear hgh
      have HR := Lib.hid hR; clear hR
      by_cases hlt : i < n
      · have hat := HR.out.1.at_ i (by rw [halfUpto_length]; omega)
        rw [halfUpto_at L i (by omega)] at hat
        obtain ⟨v, ev⟩ : ∃ v, v = L.getD i 0 := ⟨_, rfl⟩
        rw [← ev] at hat
        have c1 : wr.cell? ⟨g, i, none⟩ = some (.int .i64 ((v : Nat) : Int)) := (cell_of_block HR.out.1.blk i).trans hat
        have f1 := free_of_block HR.out.1.blk i
        have hvb : v ≤ 9000 := by
          have h1 := take_lt (fr := L) (i := i) (by omega)
          have h2 := HT.out.2.2
          rw [← HT.out.2.1] at h2
          have h3 := HL.out.2.2.2.2.1
          rw [← HT.out.2.1] at h3
          omega
        have hs1 := HR.out.1.set (s := i) (by rw [halfUpto_length]; omega) (half1 v)
        rw [ev, halfUpto_set L i (by omega), ← ev] at hs1
        have hv2 : ((v : Int) + 1) / 2 = ((half1 v : Nat) : Int) := by unfold half1; omega
        have hv3 : ((v : Int) + 1).tdiv 2 = ((half1 v : Nat) : Int) := by rw [Int.tdiv_eq_ediv_of_nonneg (by omega)]; exact hv2
        have hb2 := then_only HR.out.2 (Only.setCell (b := g) (p := ⟨g, i, none⟩) (Only.refl _ _) rfl (.int .i64 ((half1 v : Nat) : Int))) HL.out.2.2.2.2.2.2
        have i3 : (0 : Int) ≤ (i : Nat) := by omega
        have i4 : ((i : Nat) : Int) < (n : Nat) := by omega
        have HS := Lib.hid (And.intro hs1 hb2); clear hs1 hb2 hat ev
        obtain ⟨hv, ehv⟩ : ∃ q, q = half1 v := ⟨_, rfl⟩
        rw [← ehv] at hv2 hv3 HS
        clear ehv
        go_wp2_with fail
        go_roundg (n - (i + 1))
        case measure => have := Hgh.out; omega
        case rel => exact ⟨i + 1, _, rfl, by omega, by go_num, HS.out.1, HS.out.2⟩
      · obtain rfl : i = n := by omega
        clear hlt hi
        go_wp2_with fail
        go_ret
        refine ⟨_, _, rfl, ?_, (fun ad e => by cases e; exact ⟨HL.out.2.2.2.2.2.2, lt_of_block HR.out.1.blk⟩), HR.out.2⟩
        have hr := HR.out.1.row
        rw [halfUpto_length, hLn] at hr
        rw [HLR.out, ← halfUpto_all, hLn]
        exact hr
  · have hgt' : ¬ (8192 : Int) < (T : Nat) := by omega
    have hlr : learn l s = L := by rw [HT.out.1, if_pos (by omega)]
    have HLR := Lib.hid hlr; clear hlr
    go_wp2_with fail
    go_ret
    refine ⟨_, _, rfl, ?_, (fun ad e => by cases e; exact ⟨HL.out.2.2.2.2.2.2, lt_of_block HL.out.1.blk⟩), HL.out.2.1⟩
    rw [HLR.out, HT.out.2.1]
    exact HL.out.2.2.1
def onesN (n j : Nat) : List Nat := List.replicate j 1 ++ List.replicate (n - j) 0
theorem onesN_length {n j : Nat} (h : j ≤ n) : (onesN n j).length = n := by unfold onesN; simp; omega
theorem onesN_set {n j : Nat} (h : j < n) : (onesN n j).set j 1 = onesN n (j + 1) := by
  unfold onesN
  rw [List.set_append_right _ _ (by simp)]
  simp only [List.length_replicate, Nat.sub_self]
  rw [show n - j = (n - (j + 1)) + 1 from by omega, List.replicate_succ, List.set_cons_zero, List.replicate_succ', List.append_assoc]
  rfl
set_option maxRecDepth 100000 in
theorem New_ok (n : Nat) (w : World) (h1 : 1 ≤ n) (hn : n ≤ 256) :
    Calls Try.prog 44 #[.int .i64 (n : Nat)] w fun e w' => ∃ A' cap', e = .returned (.slice A' n cap') ∧ LRow w' A' n (List.replicate n 1) ∧ (∀ ad, A' = some ad → w.heap.size ≤ ad.block ∧ ad.block < w'.heap.size) ∧ Below w.heap.size w w' := by
  obtain ⟨i0, hi, hz0, hz1, hz2⟩ := info_parts info3'
  have hmk : ∀ W : World, (Instr.makeSlice 48 (.int .i64 (n : Int)) (.int .i64 (n : Int))).run Try.prog W = .ok (.slice (some ⟨W.heap.size, 0, none⟩) n n) (W.alloc (.cells (madeCells (Value.int .i64 0).cells (n * 1)) 3)) := fun W => by
    have := run_make (P := Try.prog) W 48 3 i0 (.int .i64 0) Try.underlying48 hi hz0 .i64 .i64 (n : Int) (n : Int) (by omega) (by omega) (by rw [hz2]; omega) (by omega)
    rw [hz1] at this
    exact this
  obtain ⟨cs, ecs⟩ : ∃ cs, cs = madeCells (Value.int .i64 0).cells (n * 1) := ⟨_, rfl⟩
  rw [← ecs] at hmk
  have hcs : ∀ i, i < n → cs[i]? = some (.int .i64 0) := fun i hi => by
    rw [ecs]
    simp [madeCells, Value.cells, hi, Nat.mod_one]
  clear hi hz0 hz1 hz2 ecs
  have HC := Lib.hid hcs; clear hcs
  go_enter Try.func44, Try.ntmps44
  go_wp2_with fail
  go_loopg [4] n (fun gh iv wr => ∃ (i : Nat) (ci : Array Value), gh = n - i ∧ i ≤ n ∧ iv = .int .i64 (i : Nat) ∧ (IBlk wr w.heap.size (onesN n i) ci ∧ Below w.heap.size w wr))
  case atStart =>
    refine ⟨0, cs, rfl, by omega, rfl, ⟨heap_alloc_new w _, fun i hi => ?_⟩, (Below.refl _ _).alloc (Nat.le_refl _) _⟩
    rw [onesN_length (by omega)] at hi
    rw [HC.out i hi]
    unfold onesN
    simp [List.getD_eq_getElem?_getD, hi]
  case round =>
    obtain ⟨i, ci, hgh, hi, rfl, hR⟩ := hrel
    have Hgh := Lib.hid hgh; clear hgh
    have HR := Lib.hid hR; clear hR
    by_cases hlt : i < n
    · have hat := HR.out.1.at_ i (by rw [onesN_length (by omega)]; exact hlt)
      have c1 := (cell_of_block HR.out.1.blk i).trans hat
      have f1 := free_of_block HR.out.1.blk i
      have hs1 := HR.out.1.set (s := i) (by rw [onesN_length (by omega)]; exact hlt) 1
      rw [onesN_set hlt] at hs1
      have hb2 := then_only HR.out.2 (Only.setCell (b := w.heap.size) (p := ⟨w.heap.size, i, none⟩) (Only.refl _ _) rfl (.int .i64 ((1 : Nat) : Int))) (Nat.le_refl _)
      have i3 : (0 : Int) ≤ (i : Nat) := by omega
      have i4 : ((i : Nat) : Int) < (n : Nat) := by omega
      have HS := Lib.hid (And.intro hs1 hb2); clear hs1 hb2 hat
      go_wp2_with fail
      go_roundg (n - (i + 1))
      case measure => have := Hgh.out; omega
      case rel => exact ⟨i + 1, _, rfl, by omega, by go_num, HS.out.1, HS.out.2⟩
    · obtain rfl : i = n := by omega
      clear hlt hi
      go_wp2_with fail
      go_ret
      refine ⟨_, _, rfl, ?_, (fun ad e => by cases e; exact ⟨Nat.le_refl _, lt_of_block HR.out.1.blk⟩), HR.out.2⟩
      have hr := HR.out.1.row
      rw [onesN_length (Nat.le_refl _)] at hr
      have e : onesN i i = List.replicate i 1 := by unfold onesN; simp
      rw [e] at hr
      exact hr
end Go.Proofs.Ytdekcilfkelhlaa
