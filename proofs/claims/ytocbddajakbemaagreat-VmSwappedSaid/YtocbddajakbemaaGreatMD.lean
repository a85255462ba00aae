/- vm: compile.with: the kinds of components with which there are instructions, one after the other. vm: compile.Masks. -/
import Derived.RangeFuncNested
import Derived.RangeFuncBound
import Derived.RangeFuncCalls
import Derived.RangeFuncLeaves
import Derived.Shelf.Abstract
import Derived.Shelf.RegionOpen
import Derived.WalkKit
import Derived.OwnWalkIn
import Derived.TacticsInMore
import Derived.LoopNIn
import Derived.LoopIn
import Derived.Test.YtocbddajakbemaaGreatMC
set_option linter.unusedVariables false
set_option linter.unusedSimpArgs false
set_option linter.unusedSimpArgs false
namespace Go.Proofs.YtocbddajakbemaaGreat
section
open Go.RowKit Go.Shelf
attribute [local go_sem] Oper.semAt_some
abbrev K31 := { x : Int // 1 ≤ x ∧ x ≤ 31 }
def kindOf (op : Nat) (x : Nat × Int) : Option K31 := if h : x.1 = op ∧ 1 ≤ x.2 ∧ x.2 ≤ 31 then some ⟨x.2, h.2⟩ else none
def kindsOf (op : Nat) (code : List (Nat × Int)) : List K31 := code.filterMap (kindOf op)
theorem kinds_take (op : Nat) (code : List (Nat × Int)) {k : Nat} {x : Nat × Int} (h : code[k]? = some x) : kindsOf op (code.take (k + 1)) = kindsOf op (code.take k) ++ (kindOf op x).toList := by
  unfold kindsOf
  rw [List.take_add_one, h, List.filterMap_append]
  cases e : kindOf op x <;> simp [e]
theorem kinds_len (op : Nat) (code : List (Nat × Int)) (k : Nat) : (kindsOf op (code.take k)).length ≤ k := by
  unfold kindsOf
  exact Nat.le_trans (List.length_filterMap_le _ _) (by simp; omega)
theorem kinds_take_len (op : Nat) (code : List (Nat × Int)) {k : Nat} (h : k < code.length) : (kindsOf op (code.take k)).length < code.length := Nat.lt_of_le_of_lt (kinds_len op code k) h
structure Btw (b B : Nat) (w w' : World) : Prop where
  os : w'.os = w.os
  tape : w'.tape = w.tape
  output : w'.output = w.output
  size : w.heap.size ≤ w'.heap.size
  block : ∀ q, q < B → q ≠ b → w'.heap[q]? = w.heap[q]?
theorem Btw.refl (b B : Nat) (w : World) : Btw b B w w := ⟨rfl, rfl, rfl, Nat.le_refl _, fun _ _ _ => rfl⟩
theorem Btw.trans {b B : Nat} {x y z : World} (h : Btw b B x y) (k : Btw b B y z) : Btw b B x z :=
  ⟨k.os.trans h.os, k.tape.trans h.tape, k.output.trans h.output, Nat.le_trans h.size k.size, fun q hq hn => (k.block q hq hn).trans (h.block q hq hn)⟩
theorem Btw.of_below {b B : Nat} {w w' : World} (h : Below B w w') : Btw b B w w' := ⟨h.os, h.tape, h.output, h.size, fun q hq _ => h.block q hq⟩
theorem Btw.cell {b B : Nat} {w w' : World} (h : Btw b B w w') {q i : Nat} (hq : q < B) (hn : q ≠ b) : w'.cell? ⟨q, i, none⟩ = w.cell? ⟨q, i, none⟩ := by
  unfold World.cell?; rw [h.block q hq hn]
theorem Btw.code {b B : Nat} {w w' : World} (h : Btw b B w w') {n₀ : Nat} {A : Option Addr} {code : List (Nat × Int)} (hc : CodeAt w n₀ A code) (h1 : n₀ ≤ B) (h2 : n₀ ≤ b) : CodeAt w' n₀ A code := by
  intro i x hx
  obtain ⟨cb, co, e, hl, h3, h4⟩ := hc i x hx
  exact ⟨cb, co, e, hl, (h.cell (by omega) (by omega)).trans h3, (h.cell (by omega) (by omega)).trans h4⟩
theorem grown_none {w w' : World} (h : Below w.heap.size w w') : w.grownBy w' none := ⟨h.os, h.tape, h.output, h.size, fun q hq _ => h.block q hq⟩
set_option maxRecDepth 100000 in
set_option maxHeartbeats 2000000 in
theorem with1_in (F : Fence) (n : Nat) (h76 : F.fn 93) (hro : F.round = none) (hn : 1 ≤ n) (l Bs Bk b B n₀ : Nat) (A : Option Addr) (cn cap op : Nat) (code : List (Nat × Int)) (hcn : cn = code.length) (hlen : code.length ≤ 4000)
    (hBkB : Bk < B) (hBkb : Bk ≠ b) (hnB : n₀ ≤ B) (hnb : n₀ ≤ b) (J Jx : List K31 → World → Prop) (W : World) (hBW : B ≤ W.heap.size)
    (hA : AbidesFrom W.heap.size J)
    (hY : ∀ pre x W, J pre W → pre.length < code.length → YieldAt F (n - 1) Tryz.prog l #[.int .i64 x.1] W fun e W' =>
      (e = .returned (.bool true) ∧ J (pre ++ [x]) W' ∧ Btw b B W W') ∨ (e = .returned (.bool false) ∧ Jx (pre ++ [x]) W'))
    (hBs : W.cell? ⟨Bs, 0, none⟩ = some (.slice A cn cap)) (hBk : W.cell? ⟨Bk, 0, none⟩ = some (.int .u8 op)) (hc : CodeAt W n₀ A code) (h0 : J [] W) :
    CallsIn F n Tryz.prog 93 #[.func (.yield l) #[] #[], .pointer (some ⟨Bs, 0, none⟩), .pointer (some ⟨Bk, 0, none⟩)] W fun e W' => (∃ v, e = .returned v) ∧
      ((∃ ys, ys = kindsOf op code ∧ J ys W') ∨ (∃ pre, (∃ k, k ≤ code.length ∧ pre = kindsOf op (code.take k)) ∧ Jx pre W')) := by
  refine callsIn_of_wp Tryz.func93 rfl h76 ?_ hro
  simp only [Tryz.ntmps93, List.size_toArray, List.length_cons, List.length_nil, Nat.reduceAdd, Nat.reduceSub, Array.replicate_succ, Array.replicate_zero, List.push_toArray, List.append_toArray, List.nil_append, List.cons_append]
  gi_wp2
  gi_loopw [8] (fun i wr => ∃ k : Nat, k ≤ cn ∧ i = .int .i64 k ∧ J (kindsOf op (code.take k)) wr ∧ Btw b B W wr)
    (fun i _ => cn - (intOf i).toNat)
  case atStart => exact ⟨0, Nat.zero_le _, rfl, h0, Btw.refl _ _ _⟩
  case round =>
    obtain ⟨k, hk, rfl, hJs, hnx⟩ := hrel
    by_cases hlt : k < cn
    · obtain ⟨⟨o, a⟩, hx⟩ : ∃ x, code[k]? = some x := ⟨_, List.getElem?_eq_getElem (by omega)⟩
      obtain ⟨cb, co, rfl, hcb, x0, x1⟩ := hnx.code hc hnB hnb k _ hx
      have b0 : wr.cell? ⟨Bk, 0, none⟩ = some (.int .u8 op) := (hnx.cell hBkB hBkb).trans hBk
      simp only at x0 x1
      have hb2 : Below wr.heap.size wr (wr.alloc (.cells #[.int .u8 o, .int .i64 a] 105 (0, 0))) := (Below.refl _ wr).alloc (Nat.le_refl _) _
      have hWr : W.heap.size ≤ wr.heap.size := hnx.size
      have hgW : B ≤ wr.heap.size := Nat.le_trans hBW hWr
      have hnx2 : Btw b B W (wr.alloc (.cells #[.int .u8 o, .int .i64 a] 105 (0, 0))) := hnx.trans (Btw.of_below (hb2.mono hgW))
      have hJ2 : J (kindsOf op (code.take k)) (wr.alloc (.cells #[.int .u8 o, .int .i64 a] 105 (0, 0))) := hA _ wr _ none hJs (grown_none hb2) (fun r e => by cases e)
      have htk := kinds_take op code hx
      have a0 : (wr.alloc (.cells #[.int .u8 o, .int .i64 a] 105 (0, 0))).cell? ⟨Bk, 0, none⟩ = some (.int .u8 op) := (cell_alloc_below wr _ (Nat.lt_of_lt_of_le hBkB hgW) 0).trans b0
      have hi1 : (k : Int) < (cn : Int) := by omega
      by_cases hkind : o = op ∧ 1 ≤ a ∧ a ≤ 31
      · obtain ⟨rfl, h1, h31⟩ := hkind
        have ek : kindOf o (o, a) = some ⟨a, h1, h31⟩ := by unfold kindOf; rw [dif_pos ⟨rfl, h1, h31⟩]
        rw [ek] at htk
        obtain ⟨fn, tmps, assign, body, hy, hR⟩ := hY _ ⟨a, h1, h31⟩ _ hJ2 (kinds_take_len o code (by omega))
        simp only at hy
        have HH := Lib.hid (And.intro hnx2 (And.intro htk (And.intro hlt hcn)))
        clear hb2 hJs hJ2 hnx2 htk hnx hx hBs hBk hc ek
        gi_wp2
        refine hR.mono ?_
        rintro e W3 (⟨rfl, hJ3, hk3⟩ | ⟨rfl, hJx3⟩)
        · obtain ⟨hnx2, htk, hlt, hcn⟩ := HH.out
          clear hR hy
          gi_wp2
          go_roundw
          case rel => exact ⟨k + 1, by omega, by simp, by rw [htk]; exact hJ3, hnx2.trans hk3⟩
          case measure => simp [intOf]; omega
        · obtain ⟨hnx2, htk, hlt, hcn⟩ := HH.out
          clear hR hy
          gi_wp2
          refine bodyPost_ret (results_none rfl _ _ _) rfl ?_
          exact ⟨⟨_, rfl⟩, .inr ⟨_, ⟨k + 1, by omega, htk.symm⟩, hJx3⟩⟩
      · have htk' : kindsOf op (code.take (k + 1)) = kindsOf op (code.take k) := by
          rw [htk, show kindOf op (o, a) = none from by unfold kindOf; rw [dif_neg hkind]]; simp
        have HH := Lib.hid (And.intro hnx2 (And.intro htk' (And.intro hlt (And.intro hcn (And.intro hJ2 hkind)))))
        clear hb2 hJs hJ2 hnx2 htk htk' hnx hx hBs hBk hc hkind
        by_cases ho : o = op
        · subst ho
          by_cases h1 : 1 ≤ a
          · have h31 : ¬ a ≤ 31 := fun h => HH.out.2.2.2.2.2 ⟨rfl, h1, h⟩
            gi_wp2
            refine ⟨fun _ h => (by cases h), ?_⟩
            gi_wp2
            go_roundw
            case rel => exact ⟨k + 1, by have := HH.out.2.2.1; omega, by simp, by rw [HH.out.2.1]; exact HH.out.2.2.2.2.1, HH.out.1⟩
            case measure => have := HH.out.2.2.1; simp [intOf]; omega
          · gi_wp2
            refine ⟨fun _ h => (by cases h), ?_⟩
            gi_wp2
            go_roundw
            case rel => exact ⟨k + 1, by have := HH.out.2.2.1; omega, by simp, by rw [HH.out.2.1]; exact HH.out.2.2.2.2.1, HH.out.1⟩
            case measure => have := HH.out.2.2.1; simp [intOf]; omega
        · have ho2 : ¬ (o : Int) = op := by omega
          gi_wp2
          refine ⟨fun _ h => (by cases h), ?_⟩
          gi_wp2
          go_roundw
          case rel => exact ⟨k + 1, by have := HH.out.2.2.1; omega, by simp, by rw [HH.out.2.1]; exact HH.out.2.2.2.2.1, HH.out.1⟩
          case measure => have := HH.out.2.2.1; simp [intOf]; omega
    · obtain rfl : k = cn := by omega
      gi_wp2
      go_end0
      refine ⟨⟨_, rfl⟩, .inl ⟨_, rfl, ?_⟩⟩
      rw [hcn, List.take_length] at hJs
      exact hJs
end
end Go.Proofs.YtocbddajakbemaaGreat
namespace Go.Proofs.YtocbddajakbemaaGreat
section
open Go.RowKit Go.Shelf
attribute [local go_sem] Oper.semAt_some
set_option maxHeartbeats 1000000 in
theorem with_in (F : Fence) (n : Nat) (h45 : F.fn 53) (hro : F.round = none) (A : Option Addr) (cn cap op : Nat) (w : World) :
    CallsIn F n Tryz.prog 53 #[.slice A cn cap, .int .u8 op] w fun e w' => e = .returned (.func (.func 93) #[] #[.pointer (some ⟨w.heap.size, 0, none⟩), .pointer (some ⟨w.heap.size + 1, 0, none⟩)]) ∧
      w' = (w.alloc (.cells #[.slice A cn cap] 51 (0, 0))).alloc (.cells #[.int .u8 op] 5 (0, 0)) := by
  refine callsIn_of_wp Tryz.func53 rfl h45 ?_ hro
  simp only [Tryz.ntmps53, List.size_toArray, List.length_cons, List.length_nil, Nat.reduceAdd, Nat.reduceSub, Array.replicate_succ, Array.replicate_zero, List.push_toArray, List.append_toArray, List.nil_append, List.cons_append]
  gi_wp2
  go_ret
  exact ⟨rfl, rfl⟩
theorem with_stops (F : Fence) (n : Nat) (h76 : F.fn 93) (hro : F.round = none) (hn : 1 ≤ n) (Bs Bk b B n₀ : Nat) (A : Option Addr) (cn cap op : Nat) (code : List (Nat × Int)) (hcn : cn = code.length) (hlen : code.length ≤ 4000)
    (hBkB : Bk < B) (hBkb : Bk ≠ b) (hnB : n₀ ≤ B) (hnb : n₀ ≤ b) (w : World) (hBw : B = w.heap.size)
    (hBs : w.cell? ⟨Bs, 0, none⟩ = some (.slice A cn cap)) (hBk : w.cell? ⟨Bk, 0, none⟩ = some (.int .u8 op)) (hc : CodeAt w n₀ A code) :
    SeqStopsK F n Tryz.prog 93 #[.pointer (some ⟨Bs, 0, none⟩), .pointer (some ⟨Bk, 0, none⟩)] (fun x : K31 => #[Value.int .i64 x.1]) (Btw b B) (fun ys => ys = kindsOf op code) (fun pre => ∃ k, k ≤ code.length ∧ pre = kindsOf op (code.take k)) code.length w := fun l J Jx W hW hJ _ hY h0 => by
  have l1 := World.block_lt_of_cell? w _ hBs
  have l2 := World.block_lt_of_cell? w _ hBk
  exact with1_in F n h76 hro hn l Bs Bk b B n₀ A cn cap op code hcn hlen hBkB hBkb hnB hnb J Jx W (by rw [hBw]; exact hW.size) hJ hY ((hW.cell l1).trans hBs) ((hW.cell l2).trans hBk) (hc.below (hW.mono (by omega))) h0
def orK (m : Int) (x : K31) : Int := bits .or .u32 m (IntKind.u32.wrap (2 ^ x.1.toNat))
def maskOf (ks : List K31) : Int := ks.foldl orK 0
theorem maskOf_snoc (ks : List K31) (x : K31) : maskOf (ks ++ [x]) = bits .or .u32 (maskOf ks) (IntKind.u32.wrap (2 ^ x.1.toNat)) := by
  unfold maskOf; rw [List.foldl_append]; rfl
theorem lt_of_block' {w : World} {b : Nat} {o : Obj} (h : w.heap[b]? = some o) : b < w.heap.size := (Array.getElem?_eq_some_iff.1 h).1
theorem Btw.below {b B : Nat} {w w' : World} (h : Btw b B w w') (hb : b ≤ B) : Below b w w' := ⟨h.os, h.tape, h.output, h.size, fun q hq => h.block q (by omega) (by omega)⟩
theorem own_btw (b B : Nat) (w : World) (hB : B ≤ w.heap.size) {β : Type} : OwnFrom B (fun (_ : β) W => Btw b B w W) := fun s X Y row hs hg hr =>
  hs.trans ⟨hg.os, hg.tape, hg.output, hg.size, fun q hq _ => hg.block q (Nat.lt_of_lt_of_le hq (Nat.le_trans hB hs.size)) (fun e => by have := (hr q e.symm).1; omega)⟩
theorem btw_b {b B : Nat} {w : World} (hB : B ≤ w.heap.size) (W : World) (l : Nat) (o o' : Obj) (hl : w.heap.size ≤ l) (h : W.heap[l]? = some o) (_ : o.isCells = false) (_ : o.isWalk = false) : Btw b B W (W.putObj l o') :=
  ⟨rfl, rfl, rfl, by simp, fun q hq _ => World.putObj_heap_other (fun e => by omega)⟩
set_option maxRecDepth 100000 in
set_option maxHeartbeats 2000000 in
theorem Masks_in (F : Fence) (n : Nat) (h29 : F.fn 34) (h45 : F.fn 53) (h76 : F.fn 93) (hro : F.round = none) (hn : 3 ≤ n) (A : Option Addr) (cn cap : Nat) (code : List (Nat × Int)) (hcn : cn = code.length) (hlen : code.length ≤ 4000)
    (w : World) (hc : CodeAt w w.heap.size A code) :
    CallsIn F n Tryz.prog 34 #[.slice A cn cap] w fun e W' => e = .returned (.tuple #[.int .u32 (maskOf (kindsOf 4 code)), .int .u32 (maskOf (kindsOf 5 code))]) ∧ Below w.heap.size w W' := by
  have h1 : 1 ≤ n := by omega
  have HC := Lib.hid (And.intro hcn (And.intro hlen hc)); clear hcn hlen hc
  refine callsIn_of_wp_marks Tryz.func34 rfl h29 ?_ hro
  simp only [Tryz.ntmps34, List.size_toArray, List.length_cons, List.length_nil, Nat.reduceAdd, Nat.reduceSub, Array.replicate_succ, Array.replicate_zero, List.push_toArray, List.append_toArray, List.nil_append, List.cons_append]
  gi_wp2
  refine wpIn_loop_rounds 3 ?_
  rw [roundsIn_succ]
  gi_wp2_with (gi_at_call 53; refine (with_in F (n - 1) h45 hro _ _ _ _ _).mono ?_; rintro e w' ⟨rfl, rfl⟩)
  obtain ⟨g, eg⟩ : ∃ g, g = w.heap.size := ⟨_, rfl⟩
  obtain ⟨w1, ew1⟩ : ∃ w1, w1 = ((((w.alloc (.cells #[.int .u32 0, .int .u32 0] 122 (0, 0))).alloc (.cells #[.int .u8 4, .int .u8 5] 5 (0, 0))).alloc (.cells #[.int .i64 0] 3 (0, 0))).alloc (.cells #[.slice A cn cap] 51 (0, 0))).alloc (.cells #[.int .u8 4] 5 (0, 0)) := ⟨_, rfl⟩
  rw [← eg, ← ew1]
  have hs1 : w1.heap.size = g + 5 := by rw [ew1, eg]; simp
  have hb1 : Below g w w1 := by rw [ew1, eg]; exact (((((Below.refl _ _).alloc (Nat.le_refl _) _).alloc (by simp) _).alloc (by simp; omega) _).alloc (by simp; omega) _).alloc (by simp; omega) _
  have k0 : w1.heap[g]? = some (.cells #[.int .u32 0, .int .u32 0] 122 (0, 0)) := by
    rw [ew1, eg]; exact (Below.heap_alloc _ _ _ (by simp; omega)).trans ((Below.heap_alloc _ _ _ (by simp; omega)).trans ((Below.heap_alloc _ _ _ (by simp; omega)).trans ((Below.heap_alloc _ _ _ (by simp)).trans (heap_alloc_new w _))))
  have z : ∀ (W : World) (o : Obj), (W.alloc o).heap.size = W.heap.size + 1 := fun W o => by simp
  have k1 : w1.heap[g + 1]? = some (.cells #[.int .u8 4, .int .u8 5] 5 (0, 0)) := by
    have := heap_alloc_new (w.alloc (.cells #[.int .u32 0, .int .u32 0] 122 (0, 0))) (.cells #[.int .u8 4, .int .u8 5] 5 (0, 0))
    rw [z] at this
    rw [ew1, eg]; exact (Below.heap_alloc _ _ _ (by simp only [z]; omega)).trans ((Below.heap_alloc _ _ _ (by simp only [z]; omega)).trans ((Below.heap_alloc _ _ _ (by simp only [z]; omega)).trans this))
  have k2 : w1.heap[g + 1 + 1]? = some (.cells #[.int .i64 0] 3 (0, 0)) := by
    have := heap_alloc_new ((w.alloc (.cells #[.int .u32 0, .int .u32 0] 122 (0, 0))).alloc (.cells #[.int .u8 4, .int .u8 5] 5 (0, 0))) (.cells #[.int .i64 0] 3 (0, 0))
    simp only [z] at this
    rw [ew1, eg]; exact (Below.heap_alloc _ _ _ (by simp only [z]; omega)).trans ((Below.heap_alloc _ _ _ (by simp only [z]; omega)).trans this)
  have k3 : w1.heap[g + 1 + 1 + 1]? = some (.cells #[.slice A cn cap] 51 (0, 0)) := by
    have := heap_alloc_new (((w.alloc (.cells #[.int .u32 0, .int .u32 0] 122 (0, 0))).alloc (.cells #[.int .u8 4, .int .u8 5] 5 (0, 0))).alloc (.cells #[.int .i64 0] 3 (0, 0))) (.cells #[.slice A cn cap] 51 (0, 0))
    simp only [z] at this
    rw [ew1, eg]; exact (Below.heap_alloc _ _ _ (by simp only [z]; omega)).trans this
  have k4 : w1.heap[g + 1 + 1 + 1 + 1]? = some (.cells #[.int .u8 4] 5 (0, 0)) := by
    have := heap_alloc_new ((((w.alloc (.cells #[.int .u32 0, .int .u32 0] 122 (0, 0))).alloc (.cells #[.int .u8 4, .int .u8 5] 5 (0, 0))).alloc (.cells #[.int .i64 0] 3 (0, 0))).alloc (.cells #[.slice A cn cap] 51 (0, 0))) (.cells #[.int .u8 4] 5 (0, 0))
    simp only [z] at this
    rw [ew1, eg]; exact this
  have hc1 : CodeAt w1 g A code := by have := HC.out.2.2; rw [← eg] at this; exact this.below hb1
  have HE := Lib.hid (And.intro eg hb1)
  clear ew1 z eg hb1
  refine wpIn_rangeFunc_ownF hro h1 (gf := 93) (lb := #[.pointer (some ⟨g + 1 + 1 + 1, 0, none⟩), .pointer (some ⟨g + 1 + 1 + 1 + 1, 0, none⟩)]) rfl h76 (enters_of Tryz.func93 (by kernel_rfl) rfl)
    (with_stops F (n - 1) h76 hro (by omega) (g + 1 + 1 + 1) (g + 1 + 1 + 1 + 1) g (g + 5) g A cn cap 4 code HC.out.1 HC.out.2.1 (by omega) (by omega) (by omega) (Nat.le_refl _) w1 hs1.symm ((cell_of_block k3 0).trans rfl) ((cell_of_block k4 0).trans rfl) hc1)
    Btw.trans (btw_b (by omega)) (Below.refl _ _) (fun _ => rfl)
    (fun pre W => W.heap[g]? = some (.cells #[.int .u32 (maskOf pre), .int .u32 0] 122 (0, 0)) ∧ Btw g (g + 5) w1 W)
    (fun _ _ _ => False)
    (fun s X Y row hs hg hr => ⟨(hg.block g (lt_of_block hs.1) (fun e => by have := (hr g e.symm).1; omega)).trans hs.1, own_btw (β := List K31) g (g + 5) w1 (by omega) s X Y row hs.2 hg (fun r e => by have := hr r e; rw [hs1] at this; exact this)⟩)
    (fun _ _ _ _ _ hs _ _ => hs)
    ⟨k0, Btw.refl _ _ _⟩
    (fun x => { tmps := #[.slice A cn cap, undef, .int .u32 0, .int .u32 0, .pointer (some ⟨g, 0, none⟩), .pointer (some ⟨g + 1 + 1, 0, none⟩), .int .u8 4, .int .i64 x.1, .slice (some ⟨g + 1, 0, none⟩) 2 2, .int .i64 2, .int .i64 0, .bool true, .int .i64 0, .pointer (some ⟨g + 1, 0, none⟩), .int .u8 4, .slice A cn cap, .int .u8 4, .func (.func 93) #[] #[.pointer (some ⟨g + 1 + 1 + 1, 0, none⟩), .pointer (some ⟨g + 1 + 1 + 1 + 1, 0, none⟩)], .int .i64 x.1, undef, undef, undef, undef, undef, undef, undef, undef, undef, undef, undef, undef], defers := [] }) ?assign ?body ?done ?stop
  case assign =>
    intro l x W K hK
    gi_wp2
    exact hK
  case stop =>
    rintro D c pre W _ _ h _
    exact h.elim
  case body =>
    rintro l pre x W ⟨hk, hB⟩ _
    have x1 := x.2.1
    have x2 := x.2.2
    have c0 : W.cell? ⟨g, 0, none⟩ = some (.int .u32 (maskOf pre)) := (cell_of_block hk 0).trans rfl
    have f0 : W.frozen? ⟨g, 0, none⟩ = false := free_of_block hk 0
    have cn0 : W.cell? ⟨g + 1 + 1, 0, none⟩ = some (.int .i64 0) := (hB.cell (by omega) (by omega)).trans ((cell_of_block k2 0).trans rfl)
    have HB := Lib.hid (And.intro hk hB); clear hk hB k0 k1 k2 k3 k4 hc1
    have hmx : Tryz.prog.follows .mixedOrders = true := by kernel_rfl
    gi_wp2
    gi_region_with_o (fail)
    all_goals gi_wp2
    all_goals (obtain ⟨hk, hB⟩ := HB.out)
    all_goals (have hst : Btw g (g + 5) W (W.setCell ⟨g, 0, none⟩ (.int .u32 (bits .or .u32 (maskOf pre) (IntKind.u32.wrap (2 ^ x.val.toNat))))).drew := ⟨rfl, rfl, rfl, by simp [World.setCell, World.drew], fun q _ hn => Below.heap_setCell _ _ _ _ hn⟩)
    all_goals (exact ⟨(KeepsOthers.setCell _ _ _).trans (KeepsOthers.drew _), hst, ⟨by rw [maskOf_snoc]; exact block_setCell hk 0 _, hB.trans hst⟩⟩)
  case done =>
    rintro D ys W hD rfl ⟨hk, hB⟩ hK
    have hsW : g + 5 ≤ W.heap.size := by have := hB.size; omega
    have ops0 : W.heap[g + 1]? = some (.cells #[.int .u8 4, .int .u8 5] 5 (0, 0)) := (hB.block (g + 1) (by omega) (by omega)).trans k1
    have o1 : W.cell? ⟨g + 1, 1, none⟩ = some (.int .u8 5) := (cell_of_block ops0 1).trans rfl
    have hDW : D < W.heap.size := lt_of_block' hK
    have hcW : CodeAt W g A code := hB.code hc1 (by omega) (Nat.le_refl _)
    have hbW : Below g w W := HE.out.2.trans (hB.below (by omega))
    have HW := Lib.hid (And.intro hk (And.intro hB (And.intro hK (And.intro hcW (And.intro hbW (And.intro hDW (And.intro hsW hD))))))); clear hk hB hK hcW hbW hc1 k0 k1 k2 k3 k4 ops0 hDW hsW hD
    gi_wp2
    rw [roundsIn_succ]
    gi_wp2_with (gi_at_call 53; refine (with_in F (n - 1) h45 hro _ _ _ _ _).mono ?_; rintro e w' ⟨rfl, rfl⟩)
    obtain ⟨hk, hB, hK, hcW, hbW, hDW, hsW, hD⟩ := HW.out
    clear HW
    obtain ⟨q, eq⟩ : ∃ q, q = W.heap.size := ⟨_, rfl⟩
    obtain ⟨w3, ew3⟩ : ∃ w3, w3 = ((W.alloc (.cells #[.int .i64 1] 3 (0, 0))).alloc (.cells #[.slice A cn cap] 51 (0, 0))).alloc (.cells #[.int .u8 5] 5 (0, 0)) := ⟨_, rfl⟩
    rw [← eq, ← ew3]
    have hs3 : w3.heap.size = q + 3 := by rw [ew3, eq]; simp
    have hb3 : Below q W w3 := by rw [ew3, eq]; exact (((Below.refl _ _).alloc (Nat.le_refl _) _).alloc (by simp) _).alloc (by simp; omega) _
    have z : ∀ (W : World) (o : Obj), (W.alloc o).heap.size = W.heap.size + 1 := fun W o => by simp
    have j2 : w3.heap[q]? = some (.cells #[.int .i64 1] 3 (0, 0)) := by
      rw [ew3, eq]; exact (Below.heap_alloc _ _ _ (by simp only [z]; omega)).trans ((Below.heap_alloc _ _ _ (by simp only [z]; omega)).trans (heap_alloc_new W _))
    have j3 : w3.heap[q + 1]? = some (.cells #[.slice A cn cap] 51 (0, 0)) := by
      have := heap_alloc_new (W.alloc (.cells #[.int .i64 1] 3 (0, 0))) (.cells #[.slice A cn cap] 51 (0, 0))
      simp only [z] at this
      rw [ew3, eq]; exact (Below.heap_alloc _ _ _ (by simp only [z]; omega)).trans this
    have j4 : w3.heap[q + 1 + 1]? = some (.cells #[.int .u8 5] 5 (0, 0)) := by
      have := heap_alloc_new ((W.alloc (.cells #[.int .i64 1] 3 (0, 0))).alloc (.cells #[.slice A cn cap] 51 (0, 0))) (.cells #[.int .u8 5] 5 (0, 0))
      simp only [z] at this
      rw [ew3, eq]; exact this
    have j0 : w3.heap[g]? = some (.cells #[.int .u32 (maskOf (kindsOf 4 code)), .int .u32 0] 122 (0, 0)) := (hb3.block g (by omega)).trans hk
    have jD : w3.heap[D]? = some (.deferred (some [])) := (hb3.block D (by omega)).trans hK
    have hc3 : CodeAt w3 g A code := hcW.below (hb3.mono (by omega))
    have hw3 : Below g w w3 := hbW.trans (hb3.mono (by omega))
    have hDq : D < q := by omega
    have hgq : g + 5 ≤ q := by omega
    have hgD : g ≤ D := by omega
    obtain ⟨m4, em4⟩ : ∃ m4, m4 = maskOf (kindsOf 4 code) := ⟨_, rfl⟩
    rw [← em4] at j0
    have HM := Lib.hid em4; clear em4
    clear ew3 z eq hk hB hK hcW hbW hDW hsW hD hb3 o1
    refine wpIn_rangeFunc_ownF hro h1 (gf := 93) (lb := #[.pointer (some ⟨q + 1, 0, none⟩), .pointer (some ⟨q + 1 + 1, 0, none⟩)]) rfl h76 (enters_of Tryz.func93 (by kernel_rfl) rfl)
      (with_stops F (n - 1) h76 hro (by omega) (q + 1) (q + 1 + 1) g (q + 3) g A cn cap 5 code HC.out.1 HC.out.2.1 (by omega) (by omega) (by omega) (Nat.le_refl _) w3 hs3.symm ((cell_of_block j3 0).trans rfl) ((cell_of_block j4 0).trans rfl) hc3)
      Btw.trans (btw_b (by omega)) (Below.refl _ _) (fun _ => rfl)
      (fun pre W => W.heap[g]? = some (.cells #[.int .u32 m4, .int .u32 (maskOf pre)] 122 (0, 0)) ∧ Btw g (q + 3) w3 W)
      (fun _ _ _ => False)
      (fun s X Y row hs hg hr => ⟨(hg.block g (lt_of_block hs.1) (fun e => by have := (hr g e.symm).1; omega)).trans hs.1, own_btw (β := List K31) g (q + 3) w3 (by omega) s X Y row hs.2 hg (fun r e => by have := hr r e; rw [hs3] at this; exact this)⟩)
      (fun _ _ _ _ _ hs _ _ => hs)
      ⟨j0, Btw.refl _ _ _⟩
      (fun x => { tmps := #[.slice A cn cap, undef, .int .u32 0, .int .u32 0, .pointer (some ⟨g, 0, none⟩), .pointer (some ⟨q, 0, none⟩), .int .u8 5, .int .i64 x.1, .slice (some ⟨g + 1, 0, none⟩) 2 2, .int .i64 2, .int .i64 1, .bool true, .int .i64 1, .pointer (some ⟨g + 1, 1, none⟩), .int .u8 5, .slice A cn cap, .int .u8 5, .func (.func 93) #[] #[.pointer (some ⟨q + 1, 0, none⟩), .pointer (some ⟨q + 1 + 1, 0, none⟩)], .int .i64 x.1, undef, undef, undef, undef, undef, undef, undef, .int .i64 1, undef, undef, undef, undef], defers := [] }) ?assign2 ?body2 ?done2 ?stop2
    case assign2 =>
      intro l x W K hK
      gi_wp2
      exact hK
    case stop2 =>
      rintro D c pre W _ _ h _
      exact h.elim
    case body2 =>
      rintro l pre x W ⟨hk, hB⟩ _
      have x1 := x.2.1
      have x2 := x.2.2
      have c0 : W.cell? ⟨g, 1, none⟩ = some (.int .u32 (maskOf pre)) := (cell_of_block hk 1).trans rfl
      have f0 : W.frozen? ⟨g, 1, none⟩ = false := free_of_block hk 1
      have cn0 : W.cell? ⟨q, 0, none⟩ = some (.int .i64 1) := (hB.cell (by omega) (by omega)).trans ((cell_of_block j2 0).trans rfl)
      have HB := Lib.hid (And.intro hk hB); clear hk hB j0 j2 j3 j4 jD hc3 hw3
      have hmx : Tryz.prog.follows .mixedOrders = true := by kernel_rfl
      gi_wp2
      gi_region_with_o (fail)
      all_goals gi_wp2
      all_goals (obtain ⟨hk, hB⟩ := HB.out)
      all_goals (have hst : Btw g (q + 3) W (W.setCell ⟨g, 1, none⟩ (.int .u32 (bits .or .u32 (maskOf pre) (IntKind.u32.wrap (2 ^ x.val.toNat))))).drew := ⟨rfl, rfl, rfl, by simp [World.setCell, World.drew], fun q _ hn => Below.heap_setCell _ _ _ _ hn⟩)
      all_goals (exact ⟨(KeepsOthers.setCell _ _ _).trans (KeepsOthers.drew _), hst, ⟨by rw [maskOf_snoc]; exact block_setCell hk 1 _, hB.trans hst⟩⟩)
    case done2 =>
      rintro D2 ys W2 hD2 rfl ⟨hk, hB⟩ hK2
      have c0 : W2.cell? ⟨g, 0, none⟩ = some (.int .u32 m4) := (cell_of_block hk 0).trans rfl
      have c1 : W2.cell? ⟨g, 1, none⟩ = some (.int .u32 (maskOf (kindsOf 5 code))) := (cell_of_block hk 1).trans rfl
      have hKD : W2.heap[D]? = some (.deferred (some [])) := (hB.block D (by omega) (fun e => by rw [e] at jD; rw [jD] at j0; cases j0)).trans jD
      have hbb : Below g w W2 := hw3.trans (hB.below (by omega))
      obtain ⟨m5, em5⟩ : ∃ m5, m5 = maskOf (kindsOf 5 code) := ⟨_, rfl⟩
      rw [← em5] at c1
      have HM5 := Lib.hid em5; clear em5
      have HZ := Lib.hid (And.intro hKD (And.intro hK2 (And.intro hbb (And.intro hDq (And.intro hgD hD2))))); clear hk hB hK2 hKD hbb hDq hgq hD2 hgD j0 j2 j3 j4 jD hc3 hw3
      have hmx : Tryz.prog.follows .mixedOrders = true := by kernel_rfl
      gi_wp2
      rw [roundsIn_succ]
      gi_wp2
      gi_region_with_o (fail)
      all_goals gi_wp2
      all_goals (obtain ⟨hKD, hK2, hbb, hDq, hgD, hD2⟩ := HZ.out)
      all_goals (rw [hs3] at hD2)
      all_goals (have hKD2 : (W2.drew.putObj D2 (.deferred none)).heap[D]? = some (.deferred (some [])) := (World.putObj_heap_other (by omega)).trans hKD)
      all_goals (refine ⟨by simp, .inl ⟨_, _, rfl, run_takeDeferred (w := W2.drew) hK2, ?_⟩⟩)
      all_goals (refine ⟨by simp, .inl ⟨_, _, rfl, run_takeDeferred hKD2, ?_⟩⟩)
      all_goals (refine ⟨.tuple #[.int .u32 m4, .int .u32 m5], by simp [results, Tryz.results34, go_sem], by rw [HM.out, HM5.out], ?_⟩)
      all_goals (have hg0 := HE.out.1)
      all_goals (rw [← hg0])
      all_goals (exact (hbb.drew.trans (belowK_b (w := w) (by omega) W2.drew D2 _ _ (by omega) hK2 rfl rfl)).trans (belowK_b (w := w) (by omega) _ D _ _ (by omega) hKD2 rfl rfl))
theorem Masks_calls (A : Option Addr) (cn cap : Nat) (code : List (Nat × Int)) (hcn : cn = code.length) (hlen : code.length ≤ 4000) (w : World) (hc : CodeAt w w.heap.size A code) :
    Calls Tryz.prog 34 #[.slice A cn cap] w fun e W' => e = .returned (.tuple #[.int .u32 (maskOf (kindsOf 4 code)), .int .u32 (maskOf (kindsOf 5 code))]) ∧ Below w.heap.size w W' :=
  (callsIn_wide (n := 3)).1 (Masks_in Fence.wide 3 trivial trivial trivial rfl (Nat.le_refl _) A cn cap code hcn hlen w hc)
end
end Go.Proofs.YtocbddajakbemaaGreat
