/- vm, the front end: Fine: an expression is printable. -/
import Derived.Test.YtocbddajakbemaaGreatMM
set_option linter.unusedVariables false
set_option linter.unusedSimpArgs false
set_option linter.unusedSimpArgs false
namespace Go.Proofs.YtocbddajakbemaaGreat
section
open Go.RowKit
def fineM : Nat → Ex → Bool
  | 0, _ => false
  | _ + 1, .l op n s => (op == 1 && decide (0 ≤ n) && decide (s.size = 0)) || (op == 2 && decide (n = 0) && nameM s) || (op == 5 && decide (n = 0) && decide (s.size = 0))
  | d + 1, .u op n x => op == 3 && decide (1 ≤ n) && decide (n ≤ 10) && fineM d x
  | d + 1, .b op x y => (op == 10 || op == 13 || op == 14) && fineM d x && fineM d y
theorem ExAt.now {w : World} {ok : Nat → Prop} {x : Ex} {A : Option Addr} {cp : Nat} (h : ExAt w ok x A cp) : ExAt w (fun q => q < w.heap.size) x A cp := by
  induction x generalizing A cp with
  | l op n s => exact h
  | u op n x ih =>
    obtain ⟨b, A1, c1, e, hb, hc, hx⟩ := h
    exact ⟨b, A1, c1, e, hc.lt, hc, ih hx⟩
  | b op x y ihx ihy =>
    obtain ⟨b, A1, c1, A2, c2, e, hb, hc, hd, hx, hy⟩ := h
    exact ⟨b, A1, c1, A2, c2, e, hc.lt, hc, hd, ihx hx, ihy hy⟩
theorem ExAt.below {w w' : World} {x : Ex} {A : Option Addr} {cp B : Nat} (h : ExAt w (fun q => q < w.heap.size) x A cp) (hb : Below B w w') (hB : B = w.heap.size) : ExAt w' (fun q => q < w'.heap.size) x A cp :=
  h.step (fun q hq => hb.block q (by omega)) (fun q hq => by have := hb.size; omega)
theorem box_new (w : World) (op : Int) (n : Int) (s : ByteArray) (A : Option Addr) (m cp : Nat) : ∃ w1, w1 = w.alloc (.cells #[.int .u8 op, .int .i64 n, .string s, .slice A m cp] 34 (0, 0)) ∧ Below w.heap.size w w1 ∧ w1.heap.size = w.heap.size + 1 ∧
    w1.heap[w.heap.size]? = some (.cells #[.int .u8 op, .int .i64 n, .string s, .slice A m cp] 34 (0, 0)) :=
  ⟨_, rfl, (Below.refl _ _).alloc (Nat.le_refl _) _, by simp, heap_alloc_new w _⟩
set_option maxRecDepth 100000 in
set_option maxHeartbeats 4000000 in
theorem fine_1 (D n : Int) (hd : 0 < D) (hn : 0 ≤ n) (w : World) :
    Calls Tryz.prog 99 #[.agg #[.int .u8 1, .int .i64 n, .string ⟨#[]⟩, .slice none 0 0], .int .i64 D] w fun e w' => e = .returned (.bool true) ∧ Below w.heap.size w w' := by
  have hd' : ¬ D = 0 := by omega
  have hd2 : (D == 0) = false := by simp; omega
  obtain ⟨g, eg⟩ : ∃ g, g = w.heap.size := ⟨_, rfl⟩
  obtain ⟨w1, e1, hb, hs, hk⟩ := box_new w 1 n ⟨#[]⟩ none 0 0
  rw [← eg] at hk hb ⊢
  obtain ⟨d0, d1, d2, d3, z0, z1, z2, z3⟩ := ex_facts hk
  have hn' : ¬ n < 0 := by omega
  have hn2 : decide (n < 0) = false := decide_eq_false hn'
  have HB := Lib.hid hb
  clear hb hs hk hn hd
  go_enter Tryz.func99, Tryz.ntmps99
  go_upto_region 1 with fail
  rw [← e1, ← eg]
  clear e1 eg
  go_upto_region 8 with fail
  have hun : undef = Value.tuple #[] := rfl
  go_wp2_with fail
  clear hun
  go_loopg [6] 1 (fun gh iv wr => iv = .int .i64 0 ∧ w1 = wr)
  case atStart => exact ⟨rfl, rfl⟩
  case round =>
    obtain ⟨rfl, rfl⟩ := hrel
    go_wp2_with fail
    go_ret
    exact ⟨rfl, HB.out⟩
set_option maxRecDepth 100000 in
set_option maxHeartbeats 4000000 in
theorem fine_2 (D : Int) (s : ByteArray) (hd : 0 < D) (hn : nameM s = true) (w : World) :
    Calls Tryz.prog 99 #[.agg #[.int .u8 2, .int .i64 0, .string s, .slice none 0 0], .int .i64 D] w fun e w' => e = .returned (.bool true) ∧ Below w.heap.size w w' := by
  have hd' : ¬ D = 0 := by omega
  have hd2 : (D == 0) = false := by simp; omega
  obtain ⟨g, eg⟩ : ∃ g, g = w.heap.size := ⟨_, rfl⟩
  obtain ⟨w1, e1, hb, hs, hk⟩ := box_new w 2 0 s none 0 0
  have NM := Name_ok s hn w1
  rw [← eg] at hk hb ⊢
  obtain ⟨d0, d1, d2, d3, z0, z1, z2, z3⟩ := ex_facts hk
  have HB := Lib.hid (And.intro hb (And.intro hs eg))
  clear hb hs hk hn hd
  go_enter Tryz.func99, Tryz.ntmps99
  go_upto_region 1 with fail
  rw [← e1, ← eg]
  clear e1 eg
  go_upto_region 8 with fail
  have hun : undef = Value.tuple #[] := rfl
  go_wp2_with (go_at_call 64; refine NM.mono ?_; rintro e w3 ⟨rfl, hb3⟩; have HB3 := Lib.hid hb3; have e0 := (hb3.cell (World.block_lt_of_cell? _ _ d0)).trans d0; have e1 := (hb3.cell (World.block_lt_of_cell? _ _ d1)).trans d1; have e2 := (hb3.cell (World.block_lt_of_cell? _ _ d2)).trans d2; have e3 := (hb3.cell (World.block_lt_of_cell? _ _ d3)).trans d3; clear hb3)
  clear hun
  go_loopg [6] 1 (fun gh iv wr => iv = .int .i64 0 ∧ w3 = wr)
  case atStart => exact ⟨rfl, rfl⟩
  case round =>
    obtain ⟨rfl, rfl⟩ := hrel
    go_wp2_with fail
    go_ret
    exact ⟨rfl, HB.out.1.trans (HB3.out.mono (by have := HB.out.2.1; have := HB.out.2.2; omega))⟩
set_option maxRecDepth 100000 in
set_option maxHeartbeats 4000000 in
theorem fine_5 (D : Int) (hd : 0 < D) (w : World) :
    Calls Tryz.prog 99 #[.agg #[.int .u8 5, .int .i64 0, .string ⟨#[]⟩, .slice none 0 0], .int .i64 D] w fun e w' => e = .returned (.bool true) ∧ Below w.heap.size w w' := by
  have hd' : ¬ D = 0 := by omega
  have hd2 : (D == 0) = false := by simp; omega
  obtain ⟨g, eg⟩ : ∃ g, g = w.heap.size := ⟨_, rfl⟩
  obtain ⟨w1, e1, hb, hs, hk⟩ := box_new w 5 0 ⟨#[]⟩ none 0 0
  rw [← eg] at hk hb ⊢
  obtain ⟨d0, d1, d2, d3, z0, z1, z2, z3⟩ := ex_facts hk
  have HB := Lib.hid hb
  clear hb hs hk hd
  go_enter Tryz.func99, Tryz.ntmps99
  go_upto_region 1 with fail
  rw [← e1, ← eg]
  clear e1 eg
  go_upto_region 8 with fail
  have hun : undef = Value.tuple #[] := rfl
  go_wp2_with fail
  clear hun
  go_loopg [6] 1 (fun gh iv wr => iv = .int .i64 0 ∧ w1 = wr)
  case atStart => exact ⟨rfl, rfl⟩
  case round =>
    obtain ⟨rfl, rfl⟩ := hrel
    go_wp2_with fail
    go_ret
    exact ⟨rfl, HB.out⟩
end
end Go.Proofs.YtocbddajakbemaaGreat
