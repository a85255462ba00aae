/- math/big: alias, Int.Cmp, Mod, NewInt. -/
import Derived.Test.YtabgeonlodmpiaaGreatDoorDInt2
import Derived.BigQuiet
set_option linter.unusedVariables false
namespace Go.Proofs.YtabgeonlodmpiaaGreatDoor
open Go.RowKit

theorem quiet_draws {P : Program} {f : FuncId} {args : Array Value} {w : World} {n : Nat} {v : Value}
    (h : Calls P f args (w.drewN n) fun e w' => e = .returned v ∧ ∃ m, w' = (w.drewN n).drewN m) : Calls P f args (w.drewN n) fun e w'' => e = .returned v ∧ ∃ m, w'' = w.drewN m :=
  h.mono fun _ _ ⟨he, m, hm⟩ => ⟨he, n + m, by rw [hm, drewN2]⟩
theorem quiet_of_draws2 {P : Program} {f : FuncId} {args : Array Value} {w : World} {a n : Nat} {v : Value}
    (h : Calls P f args (w.drewN (a + n)) fun e w' => e = .returned v ∧ ∃ m, w' = (w.drewN (a + n)).drewN m) : Calls P f args (w.drewN (a + n)) fun e w'' => e = .returned v ∧ ∃ m, w'' = w.drewN (a + m) :=
  h.mono fun _ _ ⟨he, m, hm⟩ => ⟨he, n + m, by rw [hm, drewN2, Nat.add_assoc]⟩
theorem info99 : ∃ j, Tryz.prog.info? 62 = some j ∧ j.size ≠ 0 := by
  obtain ⟨i, h1, h2, h3, h4⟩ := info_parts' info88
  exact ⟨i, h1, by rw [h3]; decide⟩
theorem word_eql (w : World) {b b2 i i2 : Nat} {cs cs2 : Array Value} (hi : WB w b cs) (hi2 : WB w b2 cs2) (hne : b ≠ b2) :
    (binOp .eql 88 (.pointer (some ⟨b, i, none⟩)) (.pointer (some ⟨b2, i2, none⟩))).run Tryz.prog w = .ok (.bool false) w := by
  obtain ⟨j, hj, hj1⟩ := info99
  exact run_eql_ptr_other (P := Tryz.prog) w Tryz.underlying88 hj hj1 (fun e => hne (congrArg Addr.block e)) hi hi2
set_option maxRecDepth 100000 in
theorem alias_apart (w : World) (b b2 n c n2 c2 : Nat) (cs cs2 : Array Value) (hi : WB w b cs) (hi2 : WB w b2 cs2) (hne : b ≠ b2) (h1 : 1 ≤ c) (h8 : c ≤ 8) (h12 : 1 ≤ c2) (h82 : c2 ≤ 8) (hn : n ≤ c) (hn2 : n2 ≤ c2) :
    Calls Tryz.prog 46 #[.slice (some ⟨b, 0, none⟩) n c, .slice (some ⟨b2, 0, none⟩) n2 c2] w fun e w' => e = .returned (.bool false) ∧ ∃ m, w' = w.drewN m := by
  obtain ⟨k, rfl⟩ : ∃ k, c = k + 1 := ⟨c - 1, by omega⟩
  obtain ⟨k2, rfl⟩ : ∃ k, c2 = k + 1 := ⟨c2 - 1, by omega⟩
  have hq := fun m => word_eql (w.drewN m) (b := b) (b2 := b2) (i := k) (i2 := k2) (cs := cs) (cs2 := cs2) hi hi2 hne
  have hw1 : wrap64 (((k + 1 : Nat) : Int) - 1) = (k : Nat) := by unfold wrap64; omega
  have hw2 : wrap64 (((k2 + 1 : Nat) : Int) - 1) = (k2 : Nat) := by unfold wrap64; omega
  have a1 : (0 : Int) ≤ (k : Int) := by omega
  have a2 : (0 : Int) ≤ (k2 : Int) := by omega
  have a3 : (k : Int) < ((k + 1 : Nat) : Int) := by omega
  have a4 : (k2 : Int) < ((k2 + 1 : Nat) : Int) := by omega
  clear hi hi2 hne
  go_enter Tryz.func46, Tryz.ntmps46
  go_wp2_with fail
  go_quiet (fail)
  go_wp2_with fail
  go_ret
  exact ⟨rfl, _, rfl⟩
set_option maxRecDepth 100000 in
theorem int_cmp (w : World) (B g g2 x y : Nat) (hz : NumAt w B g x) (hy : NumAt w B g2 y) (hne : g ≠ g2)
    (hx2 : x < 36893488147419103232) (hy0 : 0 < y) (hy1 : y ≤ 18446744073709551616) :
    Calls Tryz.prog 28 #[.pointer (some ⟨g, 0, none⟩), .pointer (some ⟨g2, 0, none⟩)] w fun e w' => e = .returned (.int .i64 (cmpI x y)) ∧ ∃ m, w' = w.drewN m := by
  obtain ⟨hB, Az, nz, cz, hi, hs⟩ := hz
  obtain ⟨hB2, A2, n2, c2, hi2, hs2⟩ := hy
  have z0 : w.cell? ⟨g, 0, none⟩ = some (.bool false) := (cell_of_block hi 0).trans rfl
  have y0 : w.cell? ⟨g2, 0, none⟩ = some (.bool false) := (cell_of_block hi2 0).trans rfl
  have z1 : w.cell? ⟨g, 1, none⟩ = some (.slice Az nz cz) := (cell_of_block hi 1).trans rfl
  have x1 : w.cell? ⟨g2, 1, none⟩ = some (.slice A2 n2 c2) := (cell_of_block hi2 1).trans rfl
  have CM := fun m => cmp_any (w.drewN m) B B x y Az nz cz hs A2 n2 c2 hs2 hx2 hy0 hy1
  have hq := int_eql w hi hi2 hne
  clear hi hs hi2 hs2 hx2 hB hB2 hy0 hy1
  generalize cmpI x y = cc at CM
  go_enter Tryz.func28, Tryz.ntmps28
  go_wp2_with fail
  go_quiet (fail)
  go_wp2_with fail
  go_quiet ((go_at_call 45; exact quiet_of_draws2 (CM _)))
  go_wp2_with fail
  go_ret
  exact ⟨rfl, _, rfl⟩
set_option maxRecDepth 100000 in
theorem NewInt_n (w : World) (x : Nat) (h1 : 1 ≤ x) (h2 : x < 9223372036854775808) : Calls Tryz.prog 15 #[.int .i64 (x : Nat)] w fun e w' => e = .returned (.pointer (some ⟨w.heap.size + 1, 0, none⟩)) ∧
    w' = (w.alloc (.cells #[.int .u64 (x : Nat)] 62)).alloc (.cells #[.bool false, .slice (some ⟨w.heap.size, 0, none⟩) 1 1] 57) := by
  have k1 : decide ((x : Int) < 0) = false := decide_eq_false (by omega)
  have k2 : ((x : Int) == 0) = false := decide_eq_false (by omega)
  have k3 : IntKind.u64.wrap (x : Int) = (x : Nat) := Mu.wrapN x (by omega)
  have k4 : (x : Int) % 18446744073709551616 = (x : Nat) := by omega
  go_enter Tryz.func15, Tryz.ntmps15
  go_wp2_with fail
  go_ret
  exact ⟨rfl, rfl⟩
end Go.Proofs.YtabgeonlodmpiaaGreatDoor
