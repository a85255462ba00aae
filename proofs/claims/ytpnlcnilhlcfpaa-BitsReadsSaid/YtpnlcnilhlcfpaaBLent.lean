/- Bytes that are lent, looked at and overwritten. -/
import Derived.Test.YtpnlcnilhlcfpaaBPort
set_option linter.unusedVariables false
namespace Go.Proofs.Ytpnlcnilhlcfpaa
open Go.RowKit

theorem info5' : (Try.prog.info? 5).map (fun i => (i.zero, i.size, i.bytes)) = some (some (.int .u8 0), 1, 1) := by kernel_rfl
def mb (k i : Nat) : Nat := (1000003 * (k + 7) + i) * 11400714819323198485 % 18446744073709551616 / 72057594037927936 % 256
theorem mb_lt (k i : Nat) : mb k i < 256 := Nat.mod_lt _ (by decide)
theorem mark_ok (k i : Nat) (w : World) (hk : k ≤ 10) (hi : i ≤ 1000000) :
    Calls Try.prog 32 #[.int .i64 (k : Nat), .int .i64 (i : Nat)] w fun e w' => e = .returned (.int .i64 (1000003 * (k + 7) + i : Nat)) ∧ w = w' := by
  have e : 1000003 * ((k : Int) + 7) + (i : Int) = ((1000003 * (k + 7) + i : Nat) : Int) := by omega
  rw [← e]
  clear e
  go_enter Try.func32, Try.ntmps32
  go_wp2_with fail
  go_ret
  exact ⟨rfl, rfl⟩
theorem mb_val (m : Nat) : IntKind.u64.wrap ((m : Int) * 11400714819323198485) / 72057594037927936 % 256 = ((m * 11400714819323198485 % 18446744073709551616 / 72057594037927936 % 256 : Nat) : Int) := by
  have e : (m : Int) * 11400714819323198485 = ((m * 11400714819323198485 : Nat) : Int) := by omega
  rw [e, IntKind.wrap_u64]
  generalize m * 11400714819323198485 = p
  omega
theorem markByte_ok (k i : Nat) (w : World) (hk : k ≤ 10) (hi : i ≤ 1000000) :
    Calls Try.prog 15 #[.int .i64 (k : Nat), .int .i64 (i : Nat)] w fun e w' => e = .returned (.int .u8 (mb k i : Nat)) ∧ w = w' := by
  have hm := mark_ok k i w hk hi
  obtain ⟨m, em⟩ : ∃ m, m = 1000003 * (k + 7) + i := ⟨_, rfl⟩
  have hmb : mb k i = m * 11400714819323198485 % 18446744073709551616 / 72057594037927936 % 256 := by rw [em]; rfl
  have hm2 : m ≤ 100000000 := by omega
  rw [← em] at hm
  have H := Lib.hid (And.intro hm hmb); clear hm hmb em hk hi
  go_enter Try.func15, Try.ntmps15
  go_wp2_with fail
  refine H.out.1.mono ?_
  rintro e w' ⟨rfl, rfl⟩
  go_wp2_with fail
  go_ret
  refine ⟨ret_congr (congrArg (Value.int .u8) ?_), rfl⟩
  rw [H.out.2]
  exact mb_val m
/-- Bytes that were lent, and those behind them. -/
def lentF (n : Nat) (f : Nat → Nat) (i : Nat) : Nat := if i < n then f i else mb 1 (i - n)
def lentL (n : Nat) (f : Nat → Nat) (t : Nat) : List Value := (List.range t).map fun i => Value.int .u8 ((lentF n f i : Nat) : Int)
theorem lentL_succ (n : Nat) (f : Nat → Nat) (t : Nat) : lentL n f (t + 1) = lentL n f t ++ [Value.int .u8 ((lentF n f t : Nat) : Int)] := by unfold lentL; rw [List.range_succ, List.map_append]; rfl
theorem lentL_one (n : Nat) (f : Nat → Nat) (t : Nat) : ∀ u ∈ lentL n f t, u.oneCell' = true := by
  intro u hu; unfold lentL at hu; rw [List.mem_map] at hu; obtain ⟨i, _, rfl⟩ := hu; rfl
theorem lentL_at {n t i : Nat} {f : Nat → Nat} (h : i < t) : (lentL n f t)[i]? = some (Value.int .u8 ((lentF n f i : Nat) : Int)) := by
  unfold lentL; rw [List.getElem?_map, List.getElem?_range h]; rfl
structure LBlk (w : World) (g n : Nat) (f : Nat → Nat) (cur : Array Value) : Prop where
  blk : w.heap[g]? = some (.cells cur 5 (0, 0))
  at_ : ∀ i, i < n + 12 → cur[i]? = some (.int .u8 ((lentF n f i : Nat) : Int))
set_option maxRecDepth 100000 in
set_option maxHeartbeats 2000000 in
theorem Lent_ok {A : Option Addr} {n cap : Nat} {f : Nat → Nat} (w : World) (h : BRow w A n f) (hnil : A = none → n = 0 ∧ cap = 0) (hn : n ≤ 1000) :
    Calls Try.prog 4 #[.slice A n cap] w fun e w' => ∃ g c' cur, e = .returned (.slice (some ⟨g, 0, none⟩) n c') ∧ LBlk w' g n f cur ∧ w.heap.size ≤ g ∧ n + 12 ≤ c' ∧ c' ≤ maxLen ∧ Below w.heap.size w w' := by
  obtain ⟨i0, hi1, hz0, hz1, hz2⟩ := info_parts info5'
  obtain ⟨N, eN⟩ : ∃ N, N = n + 12 := ⟨_, rfl⟩
  have hmk : ∀ W : World, (Instr.makeSlice 22 (.int .i64 0) (.int .i64 (N : Int))).run Try.prog W = .ok (.slice (some ⟨W.heap.size, 0, none⟩) 0 N) (W.alloc (.cells (madeCells (Value.int .u8 0).cells (N * 1)) 5)) := fun W => by
    have := run_make (P := Try.prog) W 22 5 i0 (.int .u8 0) Try.underlying22 hi1 hz0 .i64 .i64 0 (N : Int) (by omega) (by omega) (by rw [hz2]; omega) (by omega)
    rw [hz1] at this
    exact this
  obtain ⟨cs, ecs⟩ : ∃ cs, cs = madeCells (Value.int .u8 0).cells (N * 1) := ⟨_, rfl⟩
  have hcs : cs.size = N * 1 := by rw [ecs]; simp [madeCells]
  rw [← ecs] at hmk
  have hN : (n : Int) + 12 = (N : Nat) := by omega
  have HI := Lib.hid (And.intro hi1 (And.intro hz0 (And.intro hz1 (And.intro hz2 hcs)))); clear hi1 hz0 hz1 hz2 hcs ecs
  have H := Lib.hid (And.intro h (And.intro hnil eN)); clear h hnil eN
  go_enter Try.func4, Try.ntmps4
  go_wp2_with (at_builtin; refine wpList_append_any rfl (.tmp 9) (.tmp 10) 22 rfl w.heap.size 5 i0 (.int .u8 0) 1 1 Try.underlying22 HI.out.1 HI.out.2.1 HI.out.2.2.1 HI.out.2.2.2.1 rfl (by decide) _ 0 [] rfl ?c0 A n cap (lentL n f n) rfl ?c1 ?c2 ?c3 ?c4 ?c5 ?c6 ?c7 ?_)
  case c0 => exact World.ownsRow_made w cs N (Nat.le_refl _) (by unfold maxLen; omega) HI.out.2.2.2.2
  case c1 => unfold lentL; simp
  case c2 =>
    intro ad e j u hu
    have hj : j < n := by
      rcases Nat.lt_or_ge j n with hj | hj
      · exact hj
      · unfold lentL at hu
        rw [List.getElem?_eq_none (by simpa using hj)] at hu; cases hu
    rw [lentL_at hj] at hu
    obtain ⟨ad', e', hc⟩ := (H.out.1.keepd ((Below.refl _ _).alloc (Nat.le_refl _) _)) j hj
    obtain rfl : ad = ad' := Option.some.inj (e.symm.trans e')
    rw [hc, ← hu]
    unfold lentF
    rw [if_pos hj]
  case c3 => exact H.out.2.1
  case c4 => exact lentL_one _ _ _
  case c5 => unfold maxLen; omega
  case c6 => omega
  case c7 => simp
  intro v1 w1 hown1 hg1 hat1
  have hb1 : Below w.heap.size w w1 := ((Below.refl _ _).alloc (Nat.le_refl _) _).grown hg1 (by simp) (by intro q hq; simp [Value.ownBlock] at hq; omega)
  have H1 := Lib.hid (And.intro hown1 hb1); clear hown1 hb1 hg1 hat1
  go_wp2_with fail
  go_loopg [3, 4] 12 (fun gh ov iv wr => ∃ i : Nat, gh = 12 - i ∧ i ≤ 12 ∧ iv = .int .i64 (i : Nat) ∧ (wr.ownsRow w.heap.size 5 1 ov (n + i) (lentL n f (n + i)) ∧ Below w.heap.size w wr))
  case atStart => exact ⟨0, rfl, by omega, rfl, H1.out⟩
  case round =>
    obtain ⟨i, hgh, hi, rfl, hR⟩ := hrel
    have Hgh := Lib.hid hgh; clear hgh
    have HR := Lib.hid hR; clear hR H1
    by_cases hlt : i < 12
    · have hmk2 := markByte_ok 1 i wr (by omega) (by omega)
      rw [show ((1 : Nat) : Int) = 1 from rfl] at hmk2
      have hlf : lentF n f (n + i) = mb 1 i := by unfold lentF; rw [if_neg (by omega), Nat.add_sub_cancel_left]
      obtain ⟨x, ex⟩ : ∃ x, x = mb 1 i := ⟨_, rfl⟩
      rw [← ex] at hmk2 hlf
      have HM := Lib.hid (And.intro hmk2 hlf); clear hmk2 hlf ex
      go_wp2_with fail
      ((with_reducible refine HM.out.1.mono ?_))
      rintro e w' ⟨rfl, rfl⟩
      go_wp2_with (at_builtin; refine wpList_append_own_at _ rfl (.tmp 16) (.tmp 19) 22 rfl w.heap.size 5 i0 (.int .u8 0) 1 1 Try.underlying22 HI.out.1 HI.out.2.1 HI.out.2.2.1 HI.out.2.2.2.1 rfl (by decide) _ _ _ rfl (HR.out.1.alloc _) ⟨wr.heap.size, 0, none⟩ 1 1 [.int .u8 (x : Nat)] rfl ?d0 ?d1 ?d2 ?d3 ?d4 ?d5 ?_)
      case d0 => rfl
      case d1 => exact cell_one_new _ _ _
      case d2 => intro u hu; rw [List.mem_singleton] at hu; subst hu; rfl
      case d3 => unfold maxLen; omega
      case d4 => omega
      case d5 => have := HR.out.2.size; simp; omega
      intro v5 w5 hown5 hg5 _ hat5
      rw [← HM.out.2, ← lentL_succ] at hown5
      have hb5 : Below w.heap.size w w5 := (then_alloc HR.out.2 _).grown hg5 (by have := HR.out.2.size; simp; omega) (fun q hq => (own_lt HR.out.1 hq).2)
      have H5 := Lib.hid (And.intro hown5 hb5); clear hown5 hb5 hg5 hat5
      go_wp2_with fail
      go_roundg (12 - (i + 1))
      case measure => have := Hgh.out; omega
      case rel => exact ⟨i + 1, rfl, by omega, by go_num, H5.out.1, H5.out.2⟩
    · obtain rfl : i = 12 := by omega
      clear hlt hi
      obtain ⟨g, c', cur, rfl, hB, hh, hc1, hc2, htk⟩ : ∃ g c' cur, u3 = .slice (some ⟨g, 0, none⟩) (n + 12) c' ∧ w.heap.size ≤ g ∧ wr.heap[g]? = some (.cells cur 5 (0, 0)) ∧ n + 12 ≤ c' ∧ c' ≤ maxLen ∧ cur.toList.take ((n + 12) * 1) = lentL n f (n + 12) := by
        rcases HR.out.1.2 with ⟨_, h0⟩ | ⟨g, c', cur, e, hB, hh, hc1, hc2, _, htk⟩
        · omega
        · exact ⟨g, c', cur, e, hB, hh, hc1, hc2, htk⟩
      have hbl : LBlk wr g n f cur := by
        refine ⟨hh, fun i hi => ?_⟩
        have e := congrArg (fun q : List Value => q[i]?) htk
        simp only [Nat.mul_one, List.getElem?_take, hi, if_true, Array.getElem?_toList] at e
        rw [e, lentL_at hi]
      have HL := Lib.hid (And.intro hbl (And.intro hB hc2)); clear hbl hB hc2 htk hh
      have hmc : c' ≤ 9223372036854775807 := by have := HL.out.2.2; unfold maxLen at this; omega
      go_wp2_with fail
      go_ret
      exact ⟨g, c', cur, rfl, HL.out.1, HL.out.2.1, hc1, HL.out.2.2, HR.out.2⟩
set_option maxRecDepth 100000 in
set_option maxHeartbeats 2000000 in
theorem Kept_ok {A : Option Addr} {g n cap c' : Nat} {f : Nat → Nat} {cur : Array Value} (w : World) (h : BRow w A n f) (hl : LBlk w g n f cur) (hc : n + 12 ≤ c') (hc2 : c' ≤ maxLen) (hn : n ≤ 1000) (hby : ∀ i, i < n → f i < 256) :
    Calls Try.prog 7 #[.slice (some ⟨g, 0, none⟩) n c', .slice A n cap] w fun e w' => e = .returned (.bool true) ∧ ∃ m, w' = w.drewN m := by
  have hcm : c' ≤ 9223372036854775807 := by unfold maxLen at hc2; omega
  have H := Lib.hid (And.intro h (And.intro hl hby)); clear h hl hc2 hby
  go_enter Try.func7, Try.ntmps7
  go_wp2_with fail
  go_loopg [6] (n + 12) (fun gh iv wr => ∃ i m : Nat, gh = n + 12 - i ∧ i ≤ n + 12 ∧ iv = .int .i64 (i : Nat) ∧ wr = w.drewN m)
  case atStart => exact ⟨0, 0, rfl, by omega, rfl, rfl⟩
  case round =>
    obtain ⟨i, m, hgh, hi, rfl, rfl⟩ := hrel
    have Hgh := Lib.hid hgh; clear hgh
    by_cases hlt : i < n + 12
    · have hcur : w.cell? ⟨g, i, none⟩ = some (.int .u8 ((lentF n f i : Nat) : Int)) := (cell_of_block H.out.2.1.blk i).trans (H.out.2.1.at_ i hlt)
      have i1 : (0 : Int) ≤ (i : Nat) := by omega
      have i2 : ((i : Nat) : Int) < ((n : Int) + 12) := by omega
      by_cases hin : i < n
      · obtain ⟨ad, rfl, hcA⟩ := H.out.1 i hin
        have hx : lentF n f i = f i := if_pos hin
        rw [hx] at hcur
        generalize f i = x at hcur hcA
        have i3 : ((i : Nat) : Int) < (n : Nat) := by omega
        have d1 : decide (((i : Nat) : Int) < (n : Nat)) = true := decide_eq_true i3
        have d2 : decide (((n : Nat) : Int) ≤ (i : Nat)) = false := decide_eq_false (by omega)
        have d3 : decide (n ≤ i) = false := decide_eq_false (by omega)
        clear hx
        go_wp2_with fail
        go_quiet (fail)
        go_wp2_with fail
        go_roundg (n + 12 - (i + 1))
        case measure => have := Hgh.out; omega
        case rel => exact ⟨i + 1, _, rfl, by omega, by go_num, rfl⟩
      · have hx : lentF n f i = mb 1 (i - n) := if_neg hin
        rw [hx] at hcur
        have hmk := fun W => markByte_ok 1 (i - n) W (by omega) (by omega)
        obtain ⟨x, ex⟩ : ∃ x, x = mb 1 (i - n) := ⟨_, rfl⟩
        rw [← ex] at hcur hmk
        rw [show ((1 : Nat) : Int) = 1 from rfl, show ((i - n : Nat) : Int) = (i : Int) - (n : Int) from by omega] at hmk
        have d1 : decide (((i : Nat) : Int) < (n : Nat)) = false := decide_eq_false (by omega)
        have d2 : decide (((n : Nat) : Int) ≤ (i : Nat)) = true := decide_eq_true (by omega)
        have i4 : ((n : Nat) : Int) ≤ (i : Nat) := by omega
        have s1 : IntKind.i64.wrap ((i : Int) - (n : Int)) = (i : Int) - (n : Int) := IntWalk.i64_in _ (by omega)
        have HM := Lib.hid hmk; clear hmk hx ex
        go_wp2_with fail
        go_quiet ((go_at_call 15; with_reducible exact quiet_of_eq2 (HM.out _)))
        go_wp2_with fail
        go_roundg (n + 12 - (i + 1))
        case measure => have := Hgh.out; omega
        case rel => exact ⟨i + 1, _, rfl, by omega, by go_num, rfl⟩
    · obtain rfl : i = n + 12 := by omega
      clear hlt hi
      go_wp2_with fail
      go_ret
      exact ⟨rfl, m, rfl⟩
set_option maxRecDepth 100000 in
set_option maxHeartbeats 2000000 in
theorem Over_ok {g n c' : Nat} {f : Nat → Nat} {cur : Array Value} (w : World) (hl : LBlk w g n f cur) (hc : n + 12 ≤ c') (hc2 : c' ≤ maxLen) (hn : n ≤ 1000) :
    Calls Try.prog 8 #[.slice (some ⟨g, 0, none⟩) n c'] w fun e w' => e = .returned (.tuple #[]) ∧ Only g w w' := by
  have hcm : c' ≤ 9223372036854775807 := by unfold maxLen at hc2; omega
  have hmin : (if (n : Int) + 12 < (c' : Int) then (n : Int) + 12 else (c' : Int)) = (n : Int) + 12 := by split <;> omega
  have H := Lib.hid hl; clear hl hc2
  go_enter Try.func8, Try.ntmps8
  go_wp2_with fail
  go_loopg [3] (n + 12) (fun gh iv wr => ∃ (i : Nat) (ci : Array Value), gh = n + 12 - i ∧ i ≤ n + 12 ∧ iv = .int .i64 (i : Nat) ∧ (wr.heap[g]? = some (.cells ci 5 (0, 0)) ∧ ci.size = cur.size ∧ Only g w wr))
  case atStart => exact ⟨0, cur, rfl, by omega, rfl, H.out.blk, rfl, Only.refl _ _⟩
  case round =>
    obtain ⟨i, ci, hgh, hi, rfl, hR⟩ := hrel
    have Hgh := Lib.hid hgh; clear hgh
    have HR := Lib.hid hR; clear hR hmin
    by_cases hlt : i < n + 12
    · have hsz : i < ci.size := by
        rw [HR.out.2.1]
        exact (Array.getElem?_eq_some_iff.1 (H.out.at_ i hlt)).1
      have kc : wr.cell? ⟨g, i, none⟩ = some ci[i] := (cell_of_block HR.out.1 i).trans (Array.getElem?_eq_getElem hsz)
      have kf := free_of_block HR.out.1 i
      have hmk := markByte_ok 2 i wr (by omega) (by omega)
      rw [show ((2 : Nat) : Int) = 2 from rfl] at hmk
      obtain ⟨x, ex⟩ : ∃ x, x = mb 2 i := ⟨_, rfl⟩
      rw [← ex] at hmk
      have i1 : (0 : Int) ≤ (i : Nat) := by omega
      have i2 : ((i : Nat) : Int) < ((n : Int) + 12) := by omega
      have hend := And.intro (block_setCell HR.out.1 i (.int .u8 (x : Nat))) (Only.setCell (b := g) (p := ⟨g, i, none⟩) HR.out.2.2 rfl (.int .u8 (x : Nat)))
      have HM := Lib.hid (And.intro hmk hend); clear hmk ex hend
      obtain ⟨u, eu⟩ : ∃ u, u = ci[i] := ⟨_, rfl⟩
      rw [← eu] at kc
      clear eu
      go_wp2_with fail
      ((with_reducible refine HM.out.1.mono ?_))
      rintro e w' ⟨rfl, rfl⟩
      go_wp2_with fail
      go_roundg (n + 12 - (i + 1))
      case measure => have := Hgh.out; omega
      case rel => exact ⟨i + 1, _, rfl, by omega, by go_num, HM.out.2.1, (by rw [Array.size_setIfInBounds]; exact HR.out.2.1), HM.out.2.2⟩
    · obtain rfl : i = n + 12 := by omega
      clear hlt hi
      go_wp2_with fail
      go_end0
      exact ⟨rfl, HR.out.2.2⟩
end Go.Proofs.Ytpnlcnilhlcfpaa
