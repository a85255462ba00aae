/- math/big: NewInt, Uint64, words of length 1. -/
import Derived.Test.YtabgeonlodmpiaaGreatDoorBNat
import Derived.LaidEqlPtr
import Derived.Laws.IdiomCopy
set_option linter.unusedVariables false
namespace Go.Proofs.YtabgeonlodmpiaaGreatDoor
open Go.RowKit

theorem NewInt_0 (w : World) : Calls Tryz.prog 15 #[.int .i64 0] w fun e w' => e = .returned (.pointer (some ⟨w.heap.size, 0, none⟩)) ∧ w' = w.alloc (.cells #[.bool false, .slice none 0 0] 57) := by
  go_enter Tryz.func15, Tryz.ntmps15
  go_wp2_with fail
  go_ret
  exact ⟨rfl, rfl⟩
theorem NewInt_1 (w : World) : Calls Tryz.prog 15 #[.int .i64 1] w fun e w' => e = .returned (.pointer (some ⟨w.heap.size + 1, 0, none⟩)) ∧ w' = (w.alloc (.cells #[.int .u64 1] 62)).alloc (.cells #[.bool false, .slice (some ⟨w.heap.size, 0, none⟩) 1 1] 57) := by
  go_enter Tryz.func15, Tryz.ntmps15
  go_wp2_with fail
  go_ret
  exact ⟨rfl, rfl⟩
/-- A loop that runs once: sum of words. -/
theorem addVV1 (Az Ax Ay : Addr) (cz cx cy x y s t : Nat) (w : World)
    (hx : w.cell? Ax = some (.int .u64 (x : Nat))) (hy : w.cell? Ay = some (.int .u64 (y : Nat))) (hz : ∃ u, w.cell? Az = some u) (hf : w.frozen? Az = false)
    (hs : (x + y + 0) % 18446744073709551616 = s) (ht : (x + y + 0) / 18446744073709551616 = t) (hcz : 1 ≤ cz) (hcx : 1 ≤ cx) (hcy : 1 ≤ cy) :
    Calls Tryz.prog 30 #[.slice (some Az) 1 cz, .slice (some Ax) 1 cx, .slice (some Ay) 1 cy] w fun e w' => e = .returned (.int .u64 (t : Nat)) ∧ ∃ m, w' = (w.drewN m).setCell Az (.int .u64 (s : Nat)) := by
  have HA := fun W => Add_ok x y 0 s t (by decide) hs ht W
  clear hs ht
  obtain ⟨u, hz⟩ := hz
  go_enter Tryz.func30, Tryz.ntmps30
  go_wp2_with fail
  go_loopg [6, 25] 1 (fun gh c i wr => (gh = 1 ∧ c = .int .u64 0 ∧ i = .int .i64 0 ∧ w = wr) ∨ (gh = 0 ∧ c = .int .u64 (t : Nat) ∧ i = .int .i64 1 ∧ ∃ m, wr = (w.drewN m).setCell Az (.int .u64 (s : Nat))))
  case atStart => exact Or.inl ⟨rfl, rfl, rfl, rfl⟩
  case round =>
    rcases hrel with ⟨hgh, rfl, rfl, rfl⟩ | ⟨hgh, rfl, rfl, m, rfl⟩
    · have Hgh := Lib.hid hgh; clear hgh
      go_wp2_with fail
      go_quiet ((go_at_call 76; exact quiet_of_eq (HA _)))
      go_wp2_with fail
      go_roundg 0
      case measure => have := Hgh.out; omega
      case rel => exact Or.inr ⟨rfl, rfl, rfl, nq, rfl⟩
    · go_wp2_with fail
      go_ret
      exact ⟨rfl, m, rfl⟩
/-- A loop that runs once: difference of words. -/
theorem subVV1 (Az Ax Ay : Addr) (cz cx cy x y s t : Nat) (w : World)
    (hx : w.cell? Ax = some (.int .u64 (x : Nat))) (hy : w.cell? Ay = some (.int .u64 (y : Nat))) (hz : ∃ u, w.cell? Az = some u) (hf : w.frozen? Az = false)
    (hs : (x + 18446744073709551616 - y - 0) % 18446744073709551616 = s) (ht : bor x (y + 0) = t) (hcz : 1 ≤ cz) (hcx : 1 ≤ cx) (hcy : 1 ≤ cy) :
    Calls Tryz.prog 31 #[.slice (some Az) 1 cz, .slice (some Ax) 1 cx, .slice (some Ay) 1 cy] w fun e w' => e = .returned (.int .u64 (t : Nat)) ∧ ∃ m, w' = (w.drewN m).setCell Az (.int .u64 (s : Nat)) := by
  have HA := fun W => Sub_ok x y 0 s t (by decide) hs ht W
  clear hs ht
  obtain ⟨u, hz⟩ := hz
  go_enter Tryz.func31, Tryz.ntmps31
  go_wp2_with fail
  go_loopg [6, 25] 1 (fun gh c i wr => (gh = 1 ∧ c = .int .u64 0 ∧ i = .int .i64 0 ∧ w = wr) ∨ (gh = 0 ∧ c = .int .u64 (t : Nat) ∧ i = .int .i64 1 ∧ ∃ m, wr = (w.drewN m).setCell Az (.int .u64 (s : Nat))))
  case atStart => exact Or.inl ⟨rfl, rfl, rfl, rfl⟩
  case round =>
    rcases hrel with ⟨hgh, rfl, rfl, rfl⟩ | ⟨hgh, rfl, rfl, m, rfl⟩
    · have Hgh := Lib.hid hgh; clear hgh
      go_wp2_with fail
      go_quiet ((go_at_call 79; exact quiet_of_eq (HA _)))
      go_wp2_with fail
      go_roundg 0
      case measure => have := Hgh.out; omega
      case rel => exact Or.inr ⟨rfl, rfl, rfl, nq, rfl⟩
    · go_wp2_with fail
      go_ret
      exact ⟨rfl, m, rfl⟩
theorem neq_ptr_same (a : Addr) (w : World) : (binOp .neq 88 (.pointer (some a)) (.pointer (some a))).run Tryz.prog w = .ok (.bool false) w := by
  obtain ⟨j, hj, hz0, hz1, hz2⟩ := info_parts' info88
  have h : ∀ d : Nat, (Op.equalIn (d + 1) 88 (.pointer (some a)) (.pointer (some a))).run Tryz.prog w = .ok true w := fun d => by
    simp [Op.equalIn, run_underlying Tryz.underlying88, sizeOf, typeInfo, hj, run_sameAddr_same]
  simp only [binOp]
  simp [Op.equal, Op.maxDepth, h 9999]
theorem neq_ptr_other {a b : Addr} {ca cb : Array Value} {ta tb : TypeId} (w : World) (hne : a ≠ b) (ha : w.heap[a.block]? = some (.cells ca ta (0, 0))) (hb : w.heap[b.block]? = some (.cells cb tb (0, 0))) :
    (binOp .neq 88 (.pointer (some a)) (.pointer (some b))).run Tryz.prog w = .ok (.bool true) w := by
  obtain ⟨j, hj, hz0, hz1, hz2⟩ := info_parts' info88
  have hsz : j.size ≠ 0 := by rw [hz1]; decide
  have h : ∀ d : Nat, (Op.equalIn (d + 1) 88 (.pointer (some a)) (.pointer (some b))).run Tryz.prog w = .ok false w := fun d => by
    simp [Op.equalIn, run_underlying Tryz.underlying88, sizeOf, typeInfo, hj, hsz, run_sameAddr_other w hne ha hb]
  simp only [binOp]
  simp [Op.equal, Op.maxDepth, h 9999]
theorem subVW1 (A : Addr) (cz cx x y s : Nat) (w : World)
    (hx : w.cell? A = some (.int .u64 (x : Nat))) (hf : w.frozen? A = false)
    (hs : (x + 18446744073709551616 - y - 0) % 18446744073709551616 = s) (ht : bor x (y + 0) = 0) (hcz : 1 ≤ cz) (hcx : 1 ≤ cx) :
    Calls Tryz.prog 78 #[.slice (some A) 1 cz, .slice (some A) 1 cx, .int .u64 (y : Nat)] w fun e w' => e = .returned (.int .u64 0) ∧ ∃ m, w' = (w.setCell A (.int .u64 (s : Nat))).drewN m := by
  have HA := fun W => Sub_ok x y 0 s 0 (by decide) hs ht W
  have hq := neq_ptr_same A
  clear hs ht
  go_enter Tryz.func78, Tryz.ntmps78
  go_wp2_with fail
  refine (HA _).mono ?_
  rintro e w1 ⟨rfl, rfl⟩
  go_wp2_with fail
  go_quiet (fail)
  go_wp2_with fail
  go_ret
  exact ⟨rfl, _, rfl⟩
theorem addVW1 (bz iz bx ix : Nat) (kz kx : Array Value) (tz tx : TypeId) (cz cx x y s : Nat) (w : World)
    (hbz : w.heap[bz]? = some (.cells kz tz (0, 0))) (hbx : w.heap[bx]? = some (.cells kx tx (0, 0))) (hne : bz ≠ bx)
    (hx : kx[ix]? = some (.int .u64 (x : Nat))) (hz : ∃ u, kz[iz]? = some u)
    (hs : (x + y + 0) % 18446744073709551616 = s) (ht : (x + y + 0) / 18446744073709551616 = 0) (hcz : 1 ≤ cz) (hcx : 1 ≤ cx) :
    Calls Tryz.prog 75 #[.slice (some ⟨bz, iz, none⟩) 1 cz, .slice (some ⟨bx, ix, none⟩) 1 cx, .int .u64 (y : Nat)] w fun e w' => e = .returned (.int .u64 0) ∧ ∃ m, w' = (w.setCell ⟨bz, iz, none⟩ (.int .u64 (s : Nat))).drewN m := by
  have HA := fun W => Add_ok x y 0 s 0 (by decide) hs ht W
  obtain ⟨u, hz⟩ := hz
  have c1 := (cell_of_block hbx ix).trans hx
  have c2 := (cell_of_block hbz iz).trans hz
  have f2 := free_of_block hbz iz
  have hq : ∀ n, (binOp .neq 88 (.pointer (some ⟨bz, iz, none⟩)) (.pointer (some ⟨bx, ix, none⟩))).run Tryz.prog ((w.setCell ⟨bz, iz, none⟩ (.int .u64 (s : Nat))).drewN n) = .ok (.bool true) ((w.setCell ⟨bz, iz, none⟩ (.int .u64 (s : Nat))).drewN n) := fun n =>
    neq_ptr_other _ (fun e => hne (congrArg Addr.block e)) (block_setCell hbz iz _) ((Below.heap_setCell _ _ _ _ (by exact fun e => hne e.symm)).trans hbx)
  have hcp : ∀ (W : World) (d a : Option Addr) (dc sc : Nat), (Builtin.copy_ #[54, 54] 3 #[.slice d 0 dc, .slice a 0 sc]).run Tryz.prog W = .ok (goInt 0) W := fun W d a dc sc =>
    run_copy_none W 54 54 3 62 d a 0 dc 0 sc Tryz.underlying54 (by kernel_rfl) rfl
  clear hs ht hbz hbx hne hx hz
  go_enter Tryz.func75, Tryz.ntmps75
  go_wp2_with fail
  refine (HA _).mono ?_
  rintro e w1 ⟨rfl, rfl⟩
  go_wp2_with fail
  go_quiet (fail)
  go_wp2_with fail
  go_quiet (fail)
  go_wp2_with fail
  all_goals (go_ret; exact ⟨rfl, _, rfl⟩)
end Go.Proofs.YtabgeonlodmpiaaGreatDoor
