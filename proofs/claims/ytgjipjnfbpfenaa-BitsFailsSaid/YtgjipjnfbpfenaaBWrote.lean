/- wrote: a list of items is written. -/
import Derived.Test.YtgjipjnfbpfenaaBAwake
import Derived.Maps.AppendAt
import Derived.Outline
set_option linter.unusedVariables false
namespace Go.Proofs.Ytgjipjnfbpfenaa
open Go.RowKit
open M (bitsOf bitsOf_length codeBits codeBits_length zig zag numOf zeros codeA)

/-- Items: for each index the kind, the number, the width or order. -/
structure Its where
  kd : Nat → Nat
  nn : Nat → Nat
  kk : Nat → Int
/-- A slice that reads as items. -/
def Items (w : World) (B : Nat) (A : Option Addr) (n : Nat) (t : Its) : Prop :=
  ∀ i, i < n → ∃ ad, A = some ad ∧ ad.block < B ∧ w.cell? (ad.add (i * 3)) = some (.int .u8 (t.kd i : Nat)) ∧ w.cell? (ad.add (i * 3 + 1)) = some (.int .u64 (t.nn i : Nat)) ∧ w.cell? (ad.add (i * 3 + 2)) = some (.int .i64 (t.kk i)) ∧
    t.kd i < 256 ∧ t.nn i < 18446744073709551616 ∧ -9223372036854775808 ≤ t.kk i ∧ t.kk i ≤ 9223372036854775807
def Its.bits (t : Its) (i : Nat) : List Bool := itemBits (t.kd i) (fitN (t.kd i) (t.nn i) (t.kk i)) (fitK (t.kd i) (t.kk i))
def Its.cells (t : Its) (i : Nat) : List Value := [.int .u8 (t.kd i : Nat), .int .u64 (fitN (t.kd i) (t.nn i) (t.kk i) : Nat), .int .i64 (fitK (t.kd i) (t.kk i) : Nat)]
def Its.bitsTo (t : Its) (j : Nat) : List Bool := (List.range j).flatMap t.bits
def Its.cellsTo (t : Its) (j : Nat) : List Value := (List.range j).flatMap t.cells
theorem Its.bitsTo_succ (t : Its) (j : Nat) : t.bitsTo (j + 1) = t.bitsTo j ++ t.bits j := by unfold Its.bitsTo; rw [List.range_succ, List.flatMap_append]; simp
theorem Its.cellsTo_succ (t : Its) (j : Nat) : t.cellsTo (j + 1) = t.cellsTo j ++ t.cells j := by unfold Its.cellsTo; rw [List.range_succ, List.flatMap_append]; simp

theorem add_in (a : Addr) (i c : Nat) (hc : 0 < c) : a.add (i + c) = ⟨(a.add i).block, (a.add i).off + c, none⟩ := by
  unfold Addr.add
  rw [if_neg (by omega)]
  split
  · rename_i h; subst h; simp
  · simp [Nat.add_assoc]
theorem info48 : (Try.prog.info? 48).map (fun i => (i.zero, i.size, i.bytes)) = some (some (.agg #[.int .u8 0, .int .u64 0, .int .i64 0]), 3, 24) := by kernel_rfl

theorem own_own_ne {w : World} {B B' : Nat} {e e' s s' n n' : Nat} {v v' : Value} {xs xs' : List Value} (h : w.ownsRow B e s v n xs) (h' : w.ownsRow B' e' s' v' n' xs') (hne : e ≠ e') {q : Nat} (hq : v.ownBlock = some q) : v'.ownBlock ≠ some q := by
  rcases h.2 with ⟨rfl, _⟩ | ⟨g, cap, cur, rfl, _, hh, _⟩
  · simp [Value.ownBlock] at hq
  · have : g = q := by simpa [Value.ownBlock] using hq
    subst this
    rcases h'.2 with ⟨rfl, _⟩ | ⟨g', cap', cur', rfl, _, hh', _⟩
    · simp [Value.ownBlock]
    · intro he
      have : g' = g := by simpa [Value.ownBlock] using he
      subst this
      rw [hh] at hh'
      injection hh' with hh'
      injection hh' with _ q
      exact hne q
theorem WOk.ne_own {w : World} {B B' bw n : Nat} {F : List Nat} {l : List Bool} {v : Value} {xs : List Value} (h : WOk w B bw F l) (ho : w.ownsRow B' 48 3 v n xs) {q : Nat} (hq : v.ownBlock = some q) : q ∉ F := by
  obtain ⟨v', ⟨hb, ho'⟩, rfl, _⟩ := h
  intro hF
  simp only [List.mem_cons, Option.mem_toList] at hF
  rcases hF with rfl | h1
  · rcases ho.2 with ⟨rfl, _⟩ | ⟨g, cap, cur, rfl, _, hh, _⟩
    · simp [Value.ownBlock] at hq
    · have : g = q := by simpa [Value.ownBlock] using hq
      subst this
      rw [hb] at hh
      injection hh with hh
      injection hh with _ e
      exact absurd e (by decide)
  · exact own_own_ne ho ho' (by decide) hq h1

theorem box_set3 {wr w1 : World} {o : Obj} (hb1 : Below (wr.alloc o).heap.size (wr.alloc o) w1) (a b c : Value) :
    Below wr.heap.size wr (((w1.setCell ⟨wr.heap.size, 0, none⟩ a).setCell ⟨wr.heap.size, 1, none⟩ b).setCell ⟨wr.heap.size, 2, none⟩ c) :=
  (((((Below.refl _ _).alloc (Nat.le_refl _) _).trans (hb1.mono (by simp))).setCell (Nat.le_refl _) _).setCell (Nat.le_refl _) _).setCell (Nat.le_refl _) _
theorem cells_set3 {w1 : World} {g : Nat} {t : TypeId} {x y z : Value} (h : w1.heap[g]? = some (.cells #[x, y, z] t (0, 0))) (a b c : Value) :
    (((w1.setCell ⟨g, 0, none⟩ a).setCell ⟨g, 1, none⟩ b).setCell ⟨g, 2, none⟩ c).heap[g]? = some (.cells #[a, b, c] t (0, 0)) := by
  have h1 := block_setCell h 0 a
  have h2 := block_setCell h1 1 b
  have h3 := block_setCell h2 2 c
  simpa using h3

theorem cells_alloc {w : World} {t : TypeId} (cs : List Value) (i : Nat) (u : Value) (h : cs[i]? = some u) : (w.alloc (.cells cs.toArray t)).cell? (Addr.add ⟨w.heap.size, 0, none⟩ i) = some u := by
  rw [add_zero', cell_of_block (heap_alloc_new w _) i]; simpa using h
theorem Fr.grown_new {F G : List Nat} {w w2 w3 : World} {o : Obj} {row : Option Nat} (h : Fr F w G w2) (hg : (w2.alloc o).grownBy w3 row) (hr : ∀ q, row = some q → w.heap.size ≤ q) : Fr F w G w3 := by
  have hs := hg.size
  simp at hs
  have hsz := h.size
  refine ⟨hg.os.trans h.os, hg.tape.trans h.tape, hg.output.trans h.output, by omega, ?_, h.own⟩
  intro q hq hF
  refine (hg.block q (by simp; omega) (fun e => by have := hr q e.symm; omega)).trans ((Below.heap_alloc _ _ _ (by omega)).trans (h.block q hq hF))
theorem WOk.grown {w2 w3 : World} {B bw : Nat} {F : List Nat} {l : List Bool} {o : Obj} {row : Option Nat} (h : WOk w2 B bw F l) (hg : (w2.alloc o).grownBy w3 row) (hr : ∀ q, q ∈ F → row ≠ some q) : WOk w3 B bw F l :=
  h.same fun q hq => (hg.block q (by have := h.lt q hq; simp; omega) (fun e => hr q hq e.symm)).trans (Below.heap_alloc _ _ _ (h.lt q hq))
theorem Its.bitsTo_le {t : Its} {j : Nat} (h : ∀ i, i < j → t.kd i < 256 ∧ t.nn i < 18446744073709551616) : (t.bitsTo j).length ≤ 129 * j := by
  induction j with
  | zero => simp [Its.bitsTo]
  | succ j ih =>
    have h1 := ih fun i hi => h i (by omega)
    have h2 := h j (by omega)
    have h3 := itemBits_le (fit_fit (t.kk j) h2.1 h2.2)
    rw [Its.bitsTo_succ, List.length_append]
    have e : (t.bits j).length ≤ 129 := h3
    omega
theorem Items.bd {w : World} {B n : Nat} {A : Option Addr} {t : Its} (h : Items w B A n t) : ∀ i, i < n → t.kd i < 256 ∧ t.nn i < 18446744073709551616 := by
  intro i hi
  obtain ⟨ad, _, _, _, _, _, a, b, _⟩ := h i hi
  exact ⟨a, b⟩

set_option maxRecDepth 100000 in
set_option maxHeartbeats 1000000 in
theorem wrote_ok (B bw : Nat) (F : List Nat) (l0 : List Bool) (A : Option Addr) (n cap m : Nat) (t : Its) (w : World) (h : WOk w B bw F l0) (hB : B ≤ w.heap.size) (hi : Items w B A m t) (hm : (if (200 : Int) < (n : Int) then (200 : Int) else (n : Int)) = (m : Int))
   (hn : n ≤ 9223372036854775807) (hl : l0.length ≤ 1000000) (hcap : n ≤ cap):
    Calls Try.prog 21 #[.pointer (some ⟨bw, 0, none⟩), .slice A n cap] w fun e w' => ∃ v F', e = .returned (.tuple #[v, .bool true]) ∧ WOk w' B bw F' (l0 ++ t.bitsTo m) ∧ Fr F w F' w' ∧ w'.ownsRow w.heap.size 48 3 v m (t.cellsTo m) := by
  have hm200 : m ≤ 200 := by split at hm <;> omega
  have hmn : m ≤ n := by split at hm <;> omega
  obtain ⟨i0, hi1, hz0, hz1, hz2⟩ := info_parts info48
  have HI := Lib.hid (And.intro hi1 (And.intro hz0 (And.intro hz1 hz2))); clear hi1 hz0 hz1 hz2
  have HW := Lib.hid (And.intro h (And.intro hB hi)); clear h hB hi
  go_enter Try.func21, Try.ntmps21
  go_wp2_with fail
  go_loopg [6, 15] m (fun gh v i wr => ∃ j : Nat, gh = m - j ∧ j ≤ m ∧ i = .int .i64 j ∧ ∃ Fj, (WOk wr B bw Fj (l0 ++ t.bitsTo j) ∧ Fr F w Fj wr ∧ wr.ownsRow w.heap.size 48 3 v j (t.cellsTo j)))
  case atStart => exact ⟨0, rfl, by omega, rfl, F, by simpa [Its.bitsTo] using HW.out.1, Fr.refl _ _, rfl, Or.inl ⟨rfl, rfl⟩⟩
  case round =>
    obtain ⟨j, hgh, hj, rfl, Fj, hR⟩ := hrel
    have Hgh := Lib.hid hgh; clear hgh
    have HR := Lib.hid hR; clear hR
    by_cases hlt : j < m
    · obtain ⟨ad, rfl, hab, c0, c1, c2, b0, b1, b2, b3⟩ := HW.out.2.2 j hlt
      have hk0 := (HR.out.2.1.below HW.out.2.1 HW.out.1.base).cell (p := ad.add (j * 3)) (by rw [Addr.add]; split <;> exact hab)
      have hk1 := (HR.out.2.1.below HW.out.2.1 HW.out.1.base).cell (p := ad.add (j * 3 + 1)) (by rw [Addr.add]; split <;> exact hab)
      have hk2 := (HR.out.2.1.below HW.out.2.1 HW.out.1.base).cell (p := ad.add (j * 3 + 2)) (by rw [Addr.add]; split <;> exact hab)
      rw [c0] at hk0
      rw [c1] at hk1
      rw [c2] at hk2
      rw [add_in ad (j * 3) 1 (by omega)] at hk1
      rw [add_in ad (j * 3) 2 (by omega)] at hk2
      clear c0 c1 c2 hab
      have i0' : (0 : Int) ≤ (j : Int) := by omega
      have i1' : (j : Int) < (m : Int) := by omega
      go_wp2_with fail
      refine (fit_ok (t.kd j) (t.nn j) (t.kk j) _ b0 b1 b2 b3).mono ?_
      rintro e w1 ⟨rfl, hb1⟩
      have hx := (hb1.block wr.heap.size (by simp)).trans (heap_alloc_new wr _)
      have x0 := (cell_of_block hx 0).trans rfl
      have x1 := (cell_of_block hx 1).trans rfl
      have x2 := (cell_of_block hx 2).trans rfl
      have y0 := free_of_block hx 0
      have y1 := free_of_block hx 1
      have y2 := free_of_block hx 2
      have hfit := fit_fit (t.kk j) b0 b1
      have HF := Lib.hid (And.intro hfit (And.intro hx hb1))
      unfold itemV
      clear hk0 hk1 hk2 b0 b1 b2 b3 hx hb1 hfit
      go_wp2_with fail
      obtain ⟨W, hW⟩ : ∃ W, W = (((w1.setCell ⟨wr.heap.size, 0, none⟩ (.int .u8 (t.kd j : Nat))).setCell ⟨wr.heap.size, 1, none⟩ (.int .u64 (fitN (t.kd j) (t.nn j) (t.kk j) : Nat))).setCell ⟨wr.heap.size, 2, none⟩ (.int .i64 (fitK (t.kd j) (t.kk j) : Nat))) := ⟨_, rfl⟩
      rw [← hW]
      have hBW := box_set3 HF.out.2.2 (.int .u8 (t.kd j : Nat)) (.int .u64 (fitN (t.kd j) (t.nn j) (t.kk j) : Nat)) (.int .i64 (fitK (t.kd j) (t.kk j) : Nat))
      have hxW := cells_set3 HF.out.2.1 (.int .u8 (t.kd j : Nat)) (.int .u64 (fitN (t.kd j) (t.nn j) (t.kk j) : Nat)) (.int .i64 (fitK (t.kd j) (t.kk j) : Nat))
      rw [← hW] at hBW hxW
      have hwW := HR.out.1.below hBW
      have HX := Lib.hid (And.intro hBW (And.intro hxW hwW))
      have hib := itemBits_le HF.out.1
      have hbl : (t.bitsTo j).length ≤ 129 * j := Its.bitsTo_le fun i hi => HW.out.2.2.bd i (by omega)
      clear hW hBW hxW hwW x0 x1 x2 y0 y1 y2
      refine (write_ok B bw Fj (l0 ++ t.bitsTo j) (t.kd j) _ _ W HX.out.2.2 (Nat.le_trans HW.out.2.1 (Nat.le_trans HR.out.2.1.size HX.out.1.size)) HF.out.1 (by rw [List.length_append]; omega)).mono ?_
      rintro e w2 ⟨rfl, F2, hw2, fr2⟩
      have hx2 := (fr2.block wr.heap.size (lt_of_block HX.out.2.1) (fun e => Nat.lt_irrefl _ (HR.out.1.lt _ e))).trans HX.out.2.1
      have x0 := (cell_of_block hx2 0).trans rfl
      have x1 := (cell_of_block hx2 1).trans rfl
      have x2 := (cell_of_block hx2 2).trans rfl
      have ho2 : w2.ownsRow w.heap.size 48 3 u6 j (t.cellsTo j) := own_kept HR.out.2.2 fun q hq => (fr2.block q (Nat.lt_of_lt_of_le (own_lt HR.out.2.2 hq).1 HX.out.1.size) (HR.out.1.ne_own HR.out.2.2 hq)).trans (HX.out.1.block q (own_lt HR.out.2.2 hq).1)
      have HQ := Lib.hid (And.intro hw2 (And.intro (((HR.out.2.1.trans (Fr.of_below HX.out.1 Fj))).trans fr2) ho2))
      clear hx2 hw2 fr2 ho2
      go_wp2_with (at_builtin; refine wpList_append_own_at _ rfl _ _ 41 rfl w.heap.size 48 i0 _ 3 24 Try.underlying41 HI.out.1 HI.out.2.1 HI.out.2.2.1 HI.out.2.2.2 rfl (by decide) _ _ _ rfl (HQ.out.2.2.alloc _) ⟨w2.heap.size, 0, none⟩ 1 1 (t.cells j) rfl rfl ?c1 ?c2 ?c3 ?c4 ?c5 ?_)
      case c1 => exact fun i u hu => cells_alloc (t.cells j) i u hu
      case c2 =>
        intro u hu
        simp only [Its.cells, List.mem_cons, List.not_mem_nil, or_false] at hu
        rcases hu with rfl | rfl | rfl <;> rfl
      case c3 => unfold maxLen; omega
      case c4 => omega
      case c5 => have := HQ.out.2.1.size; simp; omega
      intro v' w3 hown hgrow _ hat
      have hfin : WOk w3 B bw F2 (l0 ++ t.bitsTo (j + 1)) ∧ Fr F w F2 w3 ∧ w3.ownsRow w.heap.size 48 3 v' (j + 1) (t.cellsTo (j + 1)) := by
        refine ⟨?_, HQ.out.2.1.grown_new hgrow (fun q hq => (own_lt HQ.out.2.2 hq).2), ?_⟩
        · rw [Its.bitsTo_succ, ← List.append_assoc]
          exact HQ.out.1.grown hgrow fun q hq e => HQ.out.1.ne_own HQ.out.2.2 e hq
        · rw [Its.cellsTo_succ]; exact hown
      have HN := Lib.hid hfin; clear hown hgrow hat hfin
      go_wp2_with fail
      go_roundg (m - (j + 1))
      case measure => have := Hgh.out; omega
      case rel => exact ⟨j + 1, rfl, by omega, by go_num, F2, HN.out⟩
    · have hjm : j = m := by omega
      subst hjm
      go_wp2_with fail
      go_ret2
      exact ⟨_, Fj, rfl, HR.out⟩
end Go.Proofs.Ytgjipjnfbpfenaa
