/- A Decoder of any bytes, however many. -/
import Derived.Test.YtdekcilfkelhlaaAFresh
import Derived.Test.YtdekcilfkelhlaaAParts2
set_option linter.unusedVariables false
namespace Go.Proofs.Ytdekcilfkelhlaa
open Go.RowKit

theorem Clone_big (ad : Addr) (n cap : Nat) (f : Nat → Nat) (w : World) (h : BRow w (some ad) n f) (hn : n ≤ 140737488355328) :
    Calls Try.prog 48 #[.slice (some ad) n cap] w fun e w' => ∃ v, e = .returned v ∧ NewRow w w' v n f := by
  obtain ⟨i0, hi, hz0, hz1, hz2⟩ := info_parts info5
  have HI := Lib.hid (And.intro hi (And.intro hz0 (And.intro hz1 hz2))); clear hi hz0 hz1 hz2
  have hnews : ∀ o, ∀ j u, ((List.range n).map fun i => Value.int .u8 ((f i : Nat) : Int))[j]? = some u → (w.alloc o).cell? (ad.add j) = some u := by
    intro o j u hu
    rw [List.getElem?_map] at hu
    rcases Nat.lt_or_ge j n with hj | hj
    · rw [List.getElem?_range hj, Option.map_some] at hu
      obtain ⟨ad', e, hc⟩ := h j hj
      injection e with e
      subst e
      rw [World.cell?_alloc_lt w o _ (World.block_lt_of_cell? w _ hc), hc, hu]
    · rw [List.getElem?_eq_none (by simp; omega)] at hu; simp at hu
  have H := Lib.hid hnews; clear hnews h
  have q : ∀ (w : World) (a : Option Addr) (n c n' c' : Nat), (binOp .eql 22 (.slice a n c) (.slice none n' c')).run Try.prog w = .ok (.bool a.isNone) w := fun w a n c n' c' => Lib.run_eql_slice_nil w _ _ a n c n' c' Try.underlying22
  go_enter Try.func48, Try.ntmps48
  go_wp2_with (at_builtin; refine wpList_append_own_at _ rfl _ _ 22 rfl w.heap.size 5 i0 (.int .u8 0) 1 1 Try.underlying22 HI.out.1 HI.out.2.1 HI.out.2.2.1 HI.out.2.2.2 rfl (by decide) (.slice (some ⟨w.heap.size, 0, none⟩) 0 0) 0 [] rfl ?c0 ad n cap ((List.range n).map fun i => Value.int .u8 ((f i : Nat) : Int)) rfl ?c1 ?c2 ?c3 ?c4 ?c5 ?c6 ?_)
  case c0 => exact ⟨rfl, Or.inr ⟨_, 0, _, rfl, Nat.le_refl _, heap_alloc_new w _, Nat.le_refl _, by unfold maxLen; omega, rfl, rfl⟩⟩
  case c1 => simp
  case c2 => exact H.out _
  case c3 => intro u hu; rw [List.mem_map] at hu; obtain ⟨i, _, rfl⟩ := hu; rfl
  case c4 => unfold maxLen; omega
  case c5 => omega
  case c6 => simp
  intro v' w1 hown hg _ hat
  have HN := Lib.hid (And.intro hown (And.intro hg hat)); clear hown hg hat
  go_wp2_with fail
  go_ret
  refine ⟨_, rfl, ?_, ?_⟩
  · exact row_of_own HN.out.1
  · exact ((Below.refl _ _).alloc (Nat.le_refl _) _).grown HN.out.2.1 (by simp) (by intro q hq; simp [Value.ownBlock] at hq; omega)
theorem Clone_any (A : Option Addr) (n cap : Nat) (f : Nat → Nat) (w : World) (h : BRow w A n f) (hn : n ≤ 140737488355328) (hnil : A = none → n = 0 ∧ cap = 0) :
    Calls Try.prog 48 #[.slice A n cap] w fun e w' => ∃ v, e = .returned v ∧ NewRow w w' v n f := by
  rcases A with _ | ad
  · obtain ⟨rfl, rfl⟩ := hnil rfl
    exact Clone_ok none 0 0 f w h (by omega) (fun _ => ⟨rfl, rfl⟩)
  · exact Clone_big ad n cap f w h hn

/-- The cells of a Decoder that has read some bits. -/
def dCells (z : Int) (A : Option Addr) (n cap j : Nat) : Array Value := #[.int .u64 0, .int .u64 0, .int .i64 0, .int .i64 0, .slice none 0 0, .int .i64 0, .int .u64 z, .slice A n cap, .int .i64 (j : Nat), .bool true]
theorem next_any {dw n cap a : Nat} {z : Int} {G : List Nat} {A : Option Addr} {f : Nat → Nat} (w : World) (hb : w.heap[dw]? = some (.cells (dCells z A n cap a) 90 (0, 0))) (hrow : Row w G A n f) (hby : ∀ i, i < n → f i < 256) (hn : n ≤ 140737488355328) (ha : a ≤ 1000) :
    Calls Try.prog 49 #[.pointer (some ⟨dw, 0, none⟩)] w fun e w' => ∃ v m : Nat, v ≤ 1 ∧ e = .returned (.int .u64 (v : Nat)) ∧ w' = (w.drewN m).setCell ⟨dw, 8, none⟩ (.int .i64 ((a : Int) + 1)) := by
  have c7 : w.cell? ⟨dw, 7, none⟩ = some (.slice A n cap) := (cell_of_block hb 7).trans rfl
  have c8 : w.cell? ⟨dw, 8, none⟩ = some (.int .i64 (a : Nat)) := (cell_of_block hb 8).trans rfl
  have f8 := free_of_block hb 8
  clear hb
  by_cases hlt : a < 8 * n
  · rcases hrow with h0 | ⟨g, cur, hA, hg, hh, hcur⟩
    · omega
    have hc := (cell_of_block hh (a / 8)).trans (hcur (a / 8) (by omega))
    have hb8 := hby (a / 8) (by omega)
    rw [hA] at c7
    obtain ⟨x, ex⟩ : ∃ x, x = f (a / 8) := ⟨_, rfl⟩
    rw [← ex] at hc hb8
    obtain ⟨v, ev⟩ : ∃ v, v = x / 2 ^ (7 - a % 8) % 2 := ⟨_, rfl⟩
    have hv1 : v ≤ 1 := by omega
    have i1 : (0 : Int) ≤ ((a / 8 : Nat) : Int) := by omega
    have i2 : ((a / 8 : Nat) : Int) < (n : Int) := by omega
    have s1 : IntKind.i64.wrap (7 - (a : Int) % 8) = 7 - (a : Int) % 8 := Go.IntWalk.i64_in _ (by omega)
    have s2 : (0 : Int) ≤ 7 - (a : Int) % 8 := by omega
    have hv : bits .and .u64 (IntKind.u64.wrap ((x : Int) / 2 ^ (7 - a % 8))) 1 = (v : Int) := by
      have e : (x : Int) / 2 ^ (7 - a % 8) = ((x / 2 ^ (7 - a % 8) : Nat) : Int) := by rw [Int.natCast_ediv, Int.natCast_pow]; rfl
      have hl : x / 2 ^ (7 - a % 8) < 256 := Nat.lt_of_le_of_lt (Nat.div_le_self _ _) hb8
      rw [e, ev]
      clear e ev
      generalize x / 2 ^ (7 - a % 8) = q at hl ⊢
      rw [Bv.wrap_in (by omega) (by omega), ← Nat.and_one_is_mod]
      exact u64_and_nat q 1 (by omega) (by omega)
    have HV := Lib.hid hv
    clear hv ev ex hA hh hcur hby hg
    go_enter Try.func49, Try.ntmps49
    go_wp2_with fail
    go_quiet (fail)
    go_wp2_with fail
    go_quiet (fail)
    rw [HV.out]
    go_wp2_with fail
    go_ret
    exact ⟨v, _, hv1, rfl, rfl⟩
  · clear hrow hby
    go_enter Try.func49, Try.ntmps49
    go_wp2_with fail
    go_quiet (fail)
    go_wp2_with fail
    go_ret
    exact ⟨0, _, by omega, rfl, rfl⟩
theorem dCells_next (z : Int) (A : Option Addr) (n cap j : Nat) : (dCells z A n cap j).setIfInBounds 8 (.int .i64 ((j : Int) + 1)) = dCells z A n cap (j + 1) := rfl
theorem dCells_num (z y : Int) (A : Option Addr) (n cap j : Nat) : (dCells z A n cap j).setIfInBounds 6 (.int .u64 y) = dCells y A n cap j := rfl
structure DRel (w wr : World) (z : Int) (G : List Nat) (A : Option Addr) (n cap j : Nat) (f : Nat → Nat) : Prop where
  blk : wr.heap[w.heap.size]? = some (.cells (dCells z A n cap j) 90 (0, 0))
  row : Row wr G A n f
  far : ∀ q, q ∈ G → w.heap.size < q
  bel : Below w.heap.size w wr
  lo : 0 ≤ z
  hi : z ≤ 18446744073709551615
theorem DRel.next {w wr : World} {z : Int} {G : List Nat} {A : Option Addr} {n cap j : Nat} {f : Nat → Nat} (h : DRel w wr z G A n cap j f) (m : Nat) : DRel w ((wr.drewN m).setCell ⟨w.heap.size, 8, none⟩ (.int .i64 ((j : Int) + 1))) z G A n cap (j + 1) f := by
  have hb : (wr.drewN m).heap[w.heap.size]? = some (.cells (dCells z A n cap j) 90 (0, 0)) := h.blk
  refine ⟨block_setCell hb 8 _, h.row.same fun q hq => (Below.heap_setCell _ _ _ _ (fun e => by have := h.far q hq; have e2 : q = w.heap.size := e; omega)).trans rfl, h.far, ?_, h.lo, h.hi⟩
  exact then_only (then_drewN h.bel m) (Only.setCell (b := w.heap.size) (p := ⟨w.heap.size, 8, none⟩) (Only.refl _ _) rfl _) (Nat.le_refl _)
theorem DRel.num {w wr : World} {z y : Int} {G : List Nat} {A : Option Addr} {n cap j : Nat} {f : Nat → Nat} (h : DRel w wr z G A n cap j f) (h0 : 0 ≤ y) (h1 : y ≤ 18446744073709551615) : DRel w (wr.setCell ⟨w.heap.size, 6, none⟩ (.int .u64 y)) y G A n cap j f := by
  refine ⟨block_setCell h.blk 6 _, h.row.same fun q hq => Below.heap_setCell _ _ _ _ (fun e => by have := h.far q hq; have e2 : q = w.heap.size := e; omega), h.far, ?_, h0, h1⟩
  exact then_only h.bel (Only.setCell (b := w.heap.size) (p := ⟨w.heap.size, 6, none⟩) (Only.refl _ _) rfl _) (Nat.le_refl _)

set_option maxRecDepth 100000 in
set_option maxHeartbeats 1000000 in
theorem NewDecoder_any (A : Option Addr) (n cap : Nat) (f : Nat → Nat) (w : World) (h : BRow w A n f) (hn : n ≤ 140737488355328) (hby : ∀ i, i < n → f i < 256) (hnil : A = none → n = 0 ∧ cap = 0) :
    Calls Try.prog 21 #[.slice A n cap] w fun e w' => ∃ cs, e = .returned (.pointer (some ⟨w.heap.size, 0, none⟩)) ∧ w'.heap[w.heap.size]? = some (.cells cs 90 (0, 0)) ∧ cs[9]? = some (.bool true) ∧ Below w.heap.size w w' := by
  have hcl := fun wx hb => Clone_any A n cap f wx (h.keepd (w' := wx) hb) hn hnil
  have H := Lib.hid (And.intro hcl hby); clear hcl h hby hnil
  go_enter Try.func21, Try.ntmps21
  go_wp2_with fail
  refine (H.out.1 _ ((Below.refl _ _).alloc (Nat.le_refl _) _)).mono ?_
  rintro e w1 ⟨v, rfl, hv⟩
  obtain ⟨⟨G, A', cap', rfl, hrow, hG, _⟩, hbel⟩ := hv
  have hblk : w1.heap[w.heap.size]? = some (.cells #[.int .u64 0, .int .u64 0, .int .i64 0, .int .i64 0, .slice none 0 0, .int .i64 0, .int .u64 0, .slice none 0 0, .int .i64 0, .bool true] 90 (0, 0)) := (hbel.block _ (by simp)).trans (heap_alloc_new w _)
  have hlt : ∀ q, q ∈ G → w.heap.size < q := by
    intro q hq
    have := (hG q hq).1
    rw [World.size_alloc] at this
    omega
  have hb1 : Below w.heap.size w w1 := ((Below.refl _ _).alloc (Nat.le_refl _) _).trans (hbel.mono (by simp))
  have f7 := free_of_block hblk 7
  have c7 := (cell_of_block hblk 7).trans rfl
  have hD : DRel w (w1.setCell ⟨w.heap.size, 7, none⟩ (.slice A' n cap')) 0 G A' n cap' 0 f := by
    refine ⟨block_setCell hblk 7 _, hrow.same fun q hq => Below.heap_setCell _ _ _ _ (fun e => by have := hlt q hq; have e2 : q = w.heap.size := e; omega), hlt, ?_, by decide, by decide⟩
    exact then_only hb1 (Only.setCell (b := w.heap.size) (p := ⟨w.heap.size, 7, none⟩) (Only.refl _ _) rfl _) (Nat.le_refl _)
  have H1 := Lib.hid hD; clear hD hlt hb1 hblk hbel hG hrow
  go_wp2_with fail
  go_loopg [12] 32 (fun gh i wr => ∃ (j : Nat) (z : Int), gh = 32 - j ∧ j ≤ 32 ∧ i = .int .i64 (j : Nat) ∧ DRel w wr z G A' n cap' j f)
  case atStart => exact ⟨0, 0, rfl, by omega, rfl, H1.out⟩
  case round =>
    obtain ⟨j, z, hgh, hj, rfl, hR⟩ := hrel
    have Hgh := Lib.hid hgh; clear hgh
    have HR := Lib.hid hR; clear hR c7 f7
    have z0 := HR.out.lo
    have z1 := HR.out.hi
    by_cases hlt : j < 32
    · have c6 : wr.cell? ⟨w.heap.size, 6, none⟩ = some (.int .u64 z) := (cell_of_block HR.out.blk 6).trans rfl
      have f6 := free_of_block HR.out.blk 6
      have c6' : wr.drew.cell? ⟨w.heap.size, 6, none⟩ = some (.int .u64 z) := c6
      have hnx := fun m => next_any (wr.drewN m) (show (wr.drewN m).heap[w.heap.size]? = _ from HR.out.blk) (show Row (wr.drewN m) G A' n f from HR.out.row.same fun _ _ => rfl) H.out.2 hn (by omega)
      have HN := Lib.hid hnx; clear hnx
      go_wp2_with fail
      go_region_with (
        (refine (HN.out _).mono ?_
         rintro e w3 ⟨v, mm, hv1, rfl, rfl⟩
         have hD3 := HR.out.next (1 + mm)
         have c6q : ((((wr.drewN 1).drewN mm)).setCell ⟨w.heap.size, 8, none⟩ (.int .i64 ((j : Int) + 1))).cell? ⟨w.heap.size, 6, none⟩ = some (.int .u64 z) := (cell_of_block (block_setCell (show ((wr.drewN 1).drewN mm).heap[w.heap.size]? = _ from HR.out.blk) 8 _) 6).trans rfl
         have H3 := Lib.hid hD3; clear hD3))
      all_goals
        have hE := H3.out.num (Bv.wrap_lo (IntKind.u64.wrap (2 * z) + (v : Int))) (Bv.wrap_hi _)
        have HE := Lib.hid hE; clear hE
        go_wp2_with fail
        go_roundg (32 - (j + 1))
        case measure => have := Hgh.out; omega
        case rel => exact ⟨j + 1, _, rfl, by omega, by go_num, HE.out⟩
    · obtain rfl : j = 32 := by omega
      go_wp2_with fail
      go_ret
      exact ⟨_, rfl, HR.out.blk, rfl, HR.out.bel⟩
end Go.Proofs.Ytdekcilfkelhlaa
