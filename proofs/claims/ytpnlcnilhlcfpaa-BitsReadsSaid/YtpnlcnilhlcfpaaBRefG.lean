/- marchesref18: fail, Get. -/
import Derived.Test.YtpnlcnilhlcfpaaBRefN
import Derived.Laws.Rows
set_option linter.unusedVariables false
namespace Go.Proofs.Ytpnlcnilhlcfpaa
open Go.RowKit
open M (numOf)

/-- A Reader of the reference, as a value. -/
def rR (A : Option Addr) (n cap : Nat) (bad : Nat) : Value := .agg #[.slice A n cap, .int .i64 (bad : Nat)]
/-- Its string. -/
structure RefR (w : World) (A : Option Addr) (n cap : Nat) (s : List Bool) : Prop where
  bits : BitsAt w A s
  len : n = s.length
  le : n ≤ cap
  few : n ≤ 4000000
  nil : A = none → cap = 0
  off : ∀ ad, A = some ad → ∃ b o, ad = ⟨b, o, none⟩
theorem RefR.below {w w' : World} {A : Option Addr} {n cap : Nat} {s : List Bool} (h : RefR w A n cap s) (k : Below w.heap.size w w') : RefR w' A n cap s := ⟨h.bits.below k, h.len, h.le, h.few, h.nil, h.off⟩
theorem RefR.none (w : World) : RefR w none 0 0 [] := ⟨fun i h => by simp at h, rfl, Nat.le_refl _, by omega, fun _ => rfl, fun _ h => by cases h⟩
/-- Three results, the first of them a Reader of the reference that lies in a block. -/
theorem ret_cell3 {fn : Func} {p u v : Tmp} (h : fn.results = #[.cell p 30, .tmp u, .tmp v]) (tmps : Array Value) (w : World) (g : Nat) (a b : Value)
    (hp : tmps.getD p undef = .pointer (some ⟨g, 0, none⟩)) (hg : w.heap[g]? = some (.cells #[a, b] 30 (0, 0))) :
    (results fn tmps).run Try.prog w = .ok (.tuple #[.agg #[a, b], tmps.getD u undef, tmps.getD v undef]) w := by
  have hp' : tmps[p]?.getD undef = .pointer (some ⟨g, 0, none⟩) := by simpa using hp
  have hl := run_loadVar_row (P := Try.prog) w g 30 30 #[a, b] (0, 0) _ hg Try.underlying30 rfl (by kernel_rfl)
  simp [results, h, hp', asAddr, hl]
theorem ret_cell2 {fn : Func} {p u : Tmp} (h : fn.results = #[.cell p 30, .tmp u]) (tmps : Array Value) (w : World) (g : Nat) (a b : Value)
    (hp : tmps.getD p undef = .pointer (some ⟨g, 0, none⟩)) (hg : w.heap[g]? = some (.cells #[a, b] 30 (0, 0))) :
    (results fn tmps).run Try.prog w = .ok (.tuple #[.agg #[a, b], tmps.getD u undef]) w := by
  have hp' : tmps[p]?.getD undef = .pointer (some ⟨g, 0, none⟩) := by simpa using hp
  have hl := run_loadVar_row (P := Try.prog) w g 30 30 #[a, b] (0, 0) _ hg Try.underlying30 rfl (by kernel_rfl)
  simp [results, h, hp', asAddr, hl]
theorem fail_ok (e : Nat) (w : World) :
    Calls Try.prog 36 #[.int .i64 (e : Nat)] w fun r w' => r = .returned (.tuple #[rR none 0 0 e, .int .u64 0, .int .i64 (e : Nat)]) ∧ Below w.heap.size w w' := by
  have hb := fun o : Obj => (Below.refl w.heap.size w).alloc (Nat.le_refl _) o
  have HB := Lib.hid hb; clear hb
  unfold rR
  go_enter Try.func36, Try.ntmps36
  go_wp2_with fail
  refine bodyPost_ret (ret_cell3 rfl _ _ w.heap.size _ _ rfl (heap_alloc_new w _)) rfl ?_
  exact ⟨rfl, HB.out _⟩
/-- A Reader of the reference in a block of its own. -/
theorem rr_cells {W : World} {g : Nat} {a b : Value} (h : W.heap[g]? = some (.cells #[a, b] 30 (0, 0))) :
    W.cell? ⟨g, 0, none⟩ = some a ∧ W.cell? ⟨g, 1, none⟩ = some b ∧ W.frozen? ⟨g, 0, none⟩ = false ∧ W.frozen? ⟨g, 1, none⟩ = false :=
  ⟨(cell_of_block h 0).trans rfl, (cell_of_block h 1).trans rfl, free_of_block h 0, free_of_block h 1⟩
theorem rr_store {W : World} {g : Nat} {a b : Value} (h : W.heap[g]? = some (.cells #[a, b] 30 (0, 0))) (x y : Value) :
    ((W.setCell ⟨g, 0, none⟩ x).setCell ⟨g, 1, none⟩ y).heap[g]? = some (.cells #[x, y] 30 (0, 0)) := block_setCell (block_setCell h 0 x) 1 y
theorem rr_below {w W : World} {g : Nat} (h : Below w.heap.size w W) (hg : w.heap.size ≤ g) (x y : Value) : Below w.heap.size w ((W.setCell ⟨g, 0, none⟩ x).setCell ⟨g, 1, none⟩ y) := (h.setCell hg x).setCell hg y
theorem Get18_arg (A : Option Addr) (n cap bad : Nat) (k : Int) (w : World) (hk : k < 0 ∨ 64 < k) :
    Calls Try.prog 20 #[rR A n cap bad, .int .i64 k] w fun r w' => r = .returned (.tuple #[rR A n cap bad, .int .u64 0, .int .i64 2]) ∧ Below w.heap.size w w' := by
  have hb := fun o o2 : Obj => ((Below.refl w.heap.size w).alloc (Nat.le_refl _) o).alloc (by simp) o2
  have HB := Lib.hid hb; clear hb
  unfold rR
  by_cases h : k < 0
  · go_enter Try.func20, Try.ntmps20
    go_wp2_with fail
    refine bodyPost_ret (ret_cell3 rfl _ _ (w.heap.size + 1) _ _ rfl (heap_alloc2_new w _ _)) rfl ?_
    exact ⟨rfl, HB.out _ _⟩
  · have h2 : 64 < k := by omega
    go_enter Try.func20, Try.ntmps20
    go_wp2_with fail
    refine bodyPost_ret (ret_cell3 rfl _ _ (w.heap.size + 1) _ _ rfl (heap_alloc2_new w _ _)) rfl ?_
    exact ⟨rfl, HB.out _ _⟩
theorem Get18_bad (A : Option Addr) (n cap bad : Nat) (k : Int) (w : World) (k0 : 0 ≤ k) (k1 : k ≤ 64) (hbad : bad ≠ 0) :
    Calls Try.prog 20 #[rR A n cap bad, .int .i64 k] w fun r w' => r = .returned (.tuple #[rR A n cap bad, .int .u64 0, .int .i64 (bad : Nat)]) ∧ Below w.heap.size w w' := by
  have hb := fun o o2 : Obj => (((Below.refl w.heap.size w).alloc (Nat.le_refl _) o).alloc (by simp) o2).drew
  have HB := Lib.hid hb; clear hb
  have h1 : ((bad : Int) != 0) = true := by rw [bne_iff_ne]; omega
  have h2 : ((bad : Int) == 0) = false := decide_eq_false (by omega)
  unfold rR
  go_enter Try.func20, Try.ntmps20
  go_wp2_with fail
  go_region
  all_goals (go_wp2_with fail; refine bodyPost_ret (ret_cell3 rfl _ _ (w.heap.size + 1) _ _ rfl (heap_alloc2_new w _ _)) rfl ?_; exact ⟨rfl, HB.out _ _⟩)
theorem Get18_short (A : Option Addr) (n cap : Nat) (k : Int) (w : World) (k0 : 0 ≤ k) (k1 : k ≤ 64) (hs : n < k) :
    Calls Try.prog 20 #[rR A n cap 0, .int .i64 k] w fun r w' => r = .returned (.tuple #[rR none 0 0 180, .int .u64 0, .int .i64 180]) ∧ Below w.heap.size w w' := by
  have hb := fun o o2 : Obj => (((Below.refl w.heap.size w).alloc (Nat.le_refl _) o).alloc (by simp) o2)
  have HB := Lib.hid hb; clear hb
  have F := fun W => fail_ok 180 W
  unfold rR at F ⊢
  go_enter Try.func20, Try.ntmps20
  go_wp2_with fail
  refine (F _).mono ?_
  rintro e w1 ⟨rfl, hb⟩
  have hg := (hb.block (w.heap.size + 1) (by simp)).trans (heap_alloc2_new w _ _)
  obtain ⟨c0, c1, f0, f1⟩ := rr_cells hg
  have HQ := Lib.hid (And.intro hg ((HB.out _ _).trans (hb.mono (by simp; omega)))); clear hb hg
  go_wp2_with fail
  refine bodyPost_ret (ret_cell3 rfl _ _ (w.heap.size + 1) _ _ rfl (rr_store HQ.out.1 _ _)) rfl ?_
  exact ⟨rfl, rr_below HQ.out.2 (by omega) _ _⟩
end Go.Proofs.Ytpnlcnilhlcfpaa
