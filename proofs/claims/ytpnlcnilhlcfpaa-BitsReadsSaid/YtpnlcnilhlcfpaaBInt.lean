/- math/big: NewInt, Uint64, words of length 1. -/
import Derived.Test.YtpnlcnilhlcfpaaBNat
import Derived.LaidEqlPtr
import Derived.Laws.IdiomCopy
set_option linter.unusedVariables false
namespace Go.Proofs.Ytpnlcnilhlcfpaa
open Go.RowKit

theorem NewInt_0 (w : World) : Calls Try.prog 46 #[.int .i64 0] w fun e w' => e = .returned (.pointer (some ⟨w.heap.size, 0, none⟩)) ∧ w' = w.alloc (.cells #[.bool false, .slice none 0 0] 84) := by
  go_enter Try.func46, Try.ntmps46
  go_wp2_with fail
  go_ret
  exact ⟨rfl, rfl⟩
theorem NewInt_1 (w : World) : Calls Try.prog 46 #[.int .i64 1] w fun e w' => e = .returned (.pointer (some ⟨w.heap.size + 1, 0, none⟩)) ∧ w' = (w.alloc (.cells #[.int .u64 1] 88)).alloc (.cells #[.bool false, .slice (some ⟨w.heap.size, 0, none⟩) 1 1] 84) := by
  go_enter Try.func46, Try.ntmps46
  go_wp2_with fail
  go_ret
  exact ⟨rfl, rfl⟩
theorem Uint64_0 (g cap : Nat) (A : Option Addr) (hc : cap ≤ 100) (w : World) (h : IntAt w g (.slice A 0 cap)) :
    Calls Try.prog 38 #[.pointer (some ⟨g, 0, none⟩)] w fun e w' => e = .returned (.int .u64 0) ∧ w = w' := by
  have c1 : w.cell? ⟨g, 1, none⟩ = some (.slice A 0 cap) := (cell_of_block h 1).trans rfl
  clear h
  go_enter Try.func38, Try.ntmps38
  go_wp2_with fail
  refine (low64_0 A cap hc w).mono ?_
  rintro e w1 ⟨rfl, rfl⟩
  go_wp2_with fail
  go_ret
  exact ⟨rfl, rfl⟩
theorem Uint64_1 (g h cap v : Nat) (cs : Array Value) (hc : cap ≤ 100) (h1 : 1 ≤ cap) (w : World) (hi : IntAt w g (.slice (some ⟨h, 0, none⟩) 1 cap)) (hb : WB w h cs) (h0 : cs[0]? = some (.int .u64 (v : Nat))) :
    Calls Try.prog 38 #[.pointer (some ⟨g, 0, none⟩)] w fun e w' => e = .returned (.int .u64 (v : Nat)) ∧ w = w' := by
  have c1 : w.cell? ⟨g, 1, none⟩ = some (.slice (some ⟨h, 0, none⟩) 1 cap) := (cell_of_block hi 1).trans rfl
  have L := low64_1 h cap v cs hc h1 w hb h0
  clear hi hb h0
  go_enter Try.func38, Try.ntmps38
  go_wp2_with fail
  refine L.mono ?_
  rintro e w1 ⟨rfl, rfl⟩
  go_wp2_with fail
  go_ret
  exact ⟨rfl, rfl⟩
/-- A loop that runs once: sum of words. -/
theorem addVV1 (Az Ax Ay : Addr) (cz cx cy x y s t : Nat) (w : World)
    (hx : w.cell? Ax = some (.int .u64 (x : Nat))) (hy : w.cell? Ay = some (.int .u64 (y : Nat))) (hz : ∃ u, w.cell? Az = some u) (hf : w.frozen? Az = false)
    (hs : (x + y + 0) % 18446744073709551616 = s) (ht : (x + y + 0) / 18446744073709551616 = t) (hcz : 1 ≤ cz) (hcx : 1 ≤ cx) (hcy : 1 ≤ cy) :
    Calls Try.prog 48 #[.slice (some Az) 1 cz, .slice (some Ax) 1 cx, .slice (some Ay) 1 cy] w fun e w' => e = .returned (.int .u64 (t : Nat)) ∧ ∃ m, w' = (w.drewN m).setCell Az (.int .u64 (s : Nat)) := by
  have HA := fun W => Add_ok x y 0 s t (by decide) hs ht W
  clear hs ht
  obtain ⟨u, hz⟩ := hz
  go_enter Try.func48, Try.ntmps48
  go_wp2_with fail
  go_loopg [6, 25] 1 (fun gh c i wr => (gh = 1 ∧ c = .int .u64 0 ∧ i = .int .i64 0 ∧ w = wr) ∨ (gh = 0 ∧ c = .int .u64 (t : Nat) ∧ i = .int .i64 1 ∧ ∃ m, wr = (w.drewN m).setCell Az (.int .u64 (s : Nat))))
  case atStart => exact Or.inl ⟨rfl, rfl, rfl, rfl⟩
  case round =>
    rcases hrel with ⟨hgh, rfl, rfl, rfl⟩ | ⟨hgh, rfl, rfl, m, rfl⟩
    · have Hgh := Lib.hid hgh; clear hgh
      go_wp2_with fail
      go_quiet ((go_at_call 65; exact quiet_of_eq (HA _)))
      go_wp2_with fail
      go_roundg 0
      case measure => have := Hgh.out; omega
      case rel => exact Or.inr ⟨rfl, rfl, rfl, nq, rfl⟩
    · go_wp2_with fail
      go_ret
      exact ⟨rfl, m, rfl⟩
/-- A loop that runs once: difference of words. -/
theorem subVV1 (Az Ax Ay : Addr) (cz cx cy x y s t : Nat) (w : World)
    (hx : w.cell? Ax = some (.int .u64 (x : Nat))) (hy : w.cell? Ay = some (.int .u64 (y : Nat))) (hz : ∃ u, w.cell? Az = some u) (hf : w.frozen? Az = false)
    (hs : (x + 18446744073709551616 - y - 0) % 18446744073709551616 = s) (ht : bor x (y + 0) = t) (hcz : 1 ≤ cz) (hcx : 1 ≤ cx) (hcy : 1 ≤ cy) :
    Calls Try.prog 49 #[.slice (some Az) 1 cz, .slice (some Ax) 1 cx, .slice (some Ay) 1 cy] w fun e w' => e = .returned (.int .u64 (t : Nat)) ∧ ∃ m, w' = (w.drewN m).setCell Az (.int .u64 (s : Nat)) := by
  have HA := fun W => Sub_ok x y 0 s t (by decide) hs ht W
  clear hs ht
  obtain ⟨u, hz⟩ := hz
  go_enter Try.func49, Try.ntmps49
  go_wp2_with fail
  go_loopg [6, 25] 1 (fun gh c i wr => (gh = 1 ∧ c = .int .u64 0 ∧ i = .int .i64 0 ∧ w = wr) ∨ (gh = 0 ∧ c = .int .u64 (t : Nat) ∧ i = .int .i64 1 ∧ ∃ m, wr = (w.drewN m).setCell Az (.int .u64 (s : Nat))))
  case atStart => exact Or.inl ⟨rfl, rfl, rfl, rfl⟩
  case round =>
    rcases hrel with ⟨hgh, rfl, rfl, rfl⟩ | ⟨hgh, rfl, rfl, m, rfl⟩
    · have Hgh := Lib.hid hgh; clear hgh
      go_wp2_with fail
      go_quiet ((go_at_call 68; exact quiet_of_eq (HA _)))
      go_wp2_with fail
      go_roundg 0
      case measure => have := Hgh.out; omega
      case rel => exact Or.inr ⟨rfl, rfl, rfl, nq, rfl⟩
    · go_wp2_with fail
      go_ret
      exact ⟨rfl, m, rfl⟩
theorem neq_ptr_same (a : Addr) (w : World) : (binOp .neq 99 (.pointer (some a)) (.pointer (some a))).run Try.prog w = .ok (.bool false) w := by
  obtain ⟨j, hj, hz0, hz1, hz2⟩ := info_parts' info88
  have h : ∀ d : Nat, (Op.equalIn (d + 1) 99 (.pointer (some a)) (.pointer (some a))).run Try.prog w = .ok true w := fun d => by
    simp [Op.equalIn, run_underlying Try.underlying99, sizeOf, typeInfo, hj, run_sameAddr_same]
  simp only [binOp]
  simp [Op.equal, Op.maxDepth, h 9999]
theorem neq_ptr_other {a b : Addr} {ca cb : Array Value} {ta tb : TypeId} (w : World) (hne : a ≠ b) (ha : w.heap[a.block]? = some (.cells ca ta (0, 0))) (hb : w.heap[b.block]? = some (.cells cb tb (0, 0))) :
    (binOp .neq 99 (.pointer (some a)) (.pointer (some b))).run Try.prog w = .ok (.bool true) w := by
  obtain ⟨j, hj, hz0, hz1, hz2⟩ := info_parts' info88
  have hsz : j.size ≠ 0 := by rw [hz1]; decide
  have h : ∀ d : Nat, (Op.equalIn (d + 1) 99 (.pointer (some a)) (.pointer (some b))).run Try.prog w = .ok false w := fun d => by
    simp [Op.equalIn, run_underlying Try.underlying99, sizeOf, typeInfo, hj, hsz, run_sameAddr_other w hne ha hb]
  simp only [binOp]
  simp [Op.equal, Op.maxDepth, h 9999]
theorem subVW1 (A : Addr) (cz cx x y s : Nat) (w : World)
    (hx : w.cell? A = some (.int .u64 (x : Nat))) (hf : w.frozen? A = false)
    (hs : (x + 18446744073709551616 - y - 0) % 18446744073709551616 = s) (ht : bor x (y + 0) = 0) (hcz : 1 ≤ cz) (hcx : 1 ≤ cx) :
    Calls Try.prog 67 #[.slice (some A) 1 cz, .slice (some A) 1 cx, .int .u64 (y : Nat)] w fun e w' => e = .returned (.int .u64 0) ∧ ∃ m, w' = (w.setCell A (.int .u64 (s : Nat))).drewN m := by
  have HA := fun W => Sub_ok x y 0 s 0 (by decide) hs ht W
  have hq := neq_ptr_same A
  clear hs ht
  go_enter Try.func67, Try.ntmps67
  go_wp2_with fail
  refine (HA _).mono ?_
  rintro e w1 ⟨rfl, rfl⟩
  go_wp2_with fail
  go_quiet (fail)
  go_wp2_with fail
  go_ret
  exact ⟨rfl, _, rfl⟩
theorem addVW1 (bz iz bx ix : Nat) (kz kx : Array Value) (tz tx : TypeId) (cz cx x y s : Nat) (w : World)
    (hbz : w.heap[bz]? = some (.cells kz tz (0, 0))) (hbx : w.heap[bx]? = some (.cells kx tx (0, 0))) (hne : bz ≠ bx)
    (hx : kx[ix]? = some (.int .u64 (x : Nat))) (hz : ∃ u, kz[iz]? = some u)
    (hs : (x + y + 0) % 18446744073709551616 = s) (ht : (x + y + 0) / 18446744073709551616 = 0) (hcz : 1 ≤ cz) (hcx : 1 ≤ cx) :
    Calls Try.prog 63 #[.slice (some ⟨bz, iz, none⟩) 1 cz, .slice (some ⟨bx, ix, none⟩) 1 cx, .int .u64 (y : Nat)] w fun e w' => e = .returned (.int .u64 0) ∧ ∃ m, w' = (w.setCell ⟨bz, iz, none⟩ (.int .u64 (s : Nat))).drewN m := by
  have HA := fun W => Add_ok x y 0 s 0 (by decide) hs ht W
  obtain ⟨u, hz⟩ := hz
  have c1 := (cell_of_block hbx ix).trans hx
  have c2 := (cell_of_block hbz iz).trans hz
  have f2 := free_of_block hbz iz
  have hq : ∀ n, (binOp .neq 99 (.pointer (some ⟨bz, iz, none⟩)) (.pointer (some ⟨bx, ix, none⟩))).run Try.prog ((w.setCell ⟨bz, iz, none⟩ (.int .u64 (s : Nat))).drewN n) = .ok (.bool true) ((w.setCell ⟨bz, iz, none⟩ (.int .u64 (s : Nat))).drewN n) := fun n =>
    neq_ptr_other _ (fun e => hne (congrArg Addr.block e)) (block_setCell hbz iz _) ((Below.heap_setCell _ _ _ _ (by exact fun e => hne e.symm)).trans hbx)
  have hcp : ∀ (W : World) (d a : Option Addr) (dc sc : Nat), (Builtin.copy_ #[81, 81] 3 #[.slice d 0 dc, .slice a 0 sc]).run Try.prog W = .ok (goInt 0) W := fun W d a dc sc =>
    run_copy_none W 81 81 3 88 d a 0 dc 0 sc Try.underlying81 (by kernel_rfl) rfl
  clear hs ht hbz hbx hne hx hz
  go_enter Try.func63, Try.ntmps63
  go_wp2_with fail
  refine (HA _).mono ?_
  rintro e w1 ⟨rfl, rfl⟩
  go_wp2_with fail
  go_quiet (fail)
  go_wp2_with fail
  go_quiet (fail)
  go_wp2_with fail
  all_goals (go_ret; exact ⟨rfl, _, rfl⟩)
end Go.Proofs.Ytpnlcnilhlcfpaa
