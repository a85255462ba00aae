/- math/big: numbers of few words in memory; nat.make, norm, low64. -/
import Derived.Test.YtabgeonlodmpiaaGreatDoorBWord
import Derived.WalkKit
import Derived.WalkSpells
import Derived.WalkLawsBesides
import Derived.Lib.Hide
import Derived.Deep.QuietTactic
import Derived.BigQuiet
import Derived.Deep.LoopGhost
import Derived.Deep.DeepCutAuto
import Derived.Laws.MakeOwn
set_option linter.unusedVariables false
namespace Go.Proofs.YtabgeonlodmpiaaGreatDoor
open Go.RowKit

/-- Block h holds cs, words of a number. -/
def WB (w : World) (h : Nat) (cs : Array Value) : Prop := w.heap[h]? = some (.cells cs 62 (0, 0))

theorem info88 : (Tryz.prog.info? 62).map (fun i => (i.zero, i.size, i.bytes)) = some (some (.int .u64 0), 1, 8) := by kernel_rfl
theorem info_parts' {t : TypeId} {z : Value} {s b : Nat} (h : (Tryz.prog.info? t).map (fun i => (i.zero, i.size, i.bytes)) = some (some z, s, b)) :
    ∃ i, Tryz.prog.info? t = some i ∧ i.zero = some z ∧ i.size = s ∧ i.bytes = b := by
  rcases e : Tryz.prog.info? t with _ | i
  · rw [e] at h; cases h
  · rw [e] at h; simp at h; exact ⟨i, rfl, h.1, h.2.1, h.2.2⟩

/-- A reslice within the capacity. -/
theorem make_in (A : Option Addr) (l n cap : Nat) (hn : n ≤ cap) (hc : cap ≤ 100) (hl : l ≤ cap) (w : World) :
    Calls Tryz.prog 51 #[.slice A l cap, .int .i64 (n : Nat)] w fun e w' => e = .returned (.slice A n cap) ∧ w = w' := by
  have k1 : decide ((n : Int) ≤ cap) = true := decide_eq_true (by omega)
  go_enter Tryz.func51, Tryz.ntmps51
  go_wp2_with fail
  go_ret
  exact ⟨rfl, rfl⟩
theorem norm_ok (A : Option Addr) (n m cap : Nat) (hnc : n ≤ cap) (hc : cap ≤ 100) (w : World) (hm : m ≤ n)
    (hz : ∀ i, m ≤ i → i < n → ∃ h, A = some ⟨h, 0, none⟩ ∧ w.cell? ⟨h, i, none⟩ = some (.int .u64 0))
    (ht : m = 0 ∨ ∃ h v, A = some ⟨h, 0, none⟩ ∧ w.cell? ⟨h, m - 1, none⟩ = some (.int .u64 (v : Nat)) ∧ 0 < v) :
    Calls Tryz.prog 53 #[.slice A n cap] w fun e w' => e = .returned (.slice A m cap) ∧ w = w' := by
  have H := Lib.hid (And.intro hz (And.intro ht (And.intro hm hnc))); clear hz ht hm hnc
  go_enter Tryz.func53, Tryz.ntmps53
  go_wp2_with fail
  go_loopg [3] n (fun gh iv wr => ∃ j : Nat, gh = j ∧ m ≤ j ∧ j ≤ n ∧ iv = .int .i64 (j : Nat) ∧ w = wr)
  case atStart => exact ⟨n, rfl, H.out.2.2.1, by omega, rfl, rfl⟩
  case round =>
    obtain ⟨j, hgh, hmj, hj, rfl, rfl⟩ := hrel
    have Hgh := Lib.hid hgh; clear hgh
    by_cases h0 : j = 0
    · subst h0
      have e0 : m = 0 := by omega
      subst e0
      go_wp2_with fail
      go_ret
      exact ⟨rfl, rfl⟩
    · have k0 : decide ((0 : Int) < j) = true := decide_eq_true (by omega)
      by_cases hlt : m < j
      · obtain ⟨h, rfl, hcell⟩ := H.out.1 (j - 1) (by omega) (by omega)
        obtain ⟨i, ei⟩ : ∃ i, j - 1 = i := ⟨_, rfl⟩
        rw [ei] at hcell
        have i0 : wrap64 ((j : Int) - 1) = (i : Nat) := by have := H.out.2.2.2; unfold wrap64; omega
        have i1 : (i : Int) < (n : Int) := by have := H.out.2.2.2; omega
        have i2 : (0 : Int) ≤ (i : Int) := by omega
        have Hi := Lib.hid ei; clear ei
        go_wp2_with fail
        go_roundg (j - 1)
        case measure => have := Hgh.out; omega
        case rel => exact ⟨i, Hi.out, by have := Hi.out; omega, by have := Hi.out; omega, by rw [i0], rfl⟩
      · have ej : j = m := by omega
        subst ej
        rcases H.out.2.1 with rfl | ⟨h, v, rfl, hcell, hv⟩
        · omega
        have i1 : (j : Int) - 1 < (n : Int) := by have := H.out.2.2.2; omega
        have i2 : (0 : Int) ≤ (j : Int) - 1 := by omega
        have hjc : j ≤ cap := by have := H.out.2.2.2; omega
        have i3 : ((v : Int) == 0) = false := by rw [beq_eq_false_iff_ne]; omega
        go_wp2_with fail
        go_ret
        exact ⟨rfl, rfl⟩
theorem low64_0 (A : Option Addr) (cap : Nat) (hc : cap ≤ 100) (w : World) :
    Calls Tryz.prog 36 #[.slice A 0 cap] w fun e w' => e = .returned (.int .u64 0) ∧ w = w' := by
  go_enter Tryz.func36, Tryz.ntmps36
  go_wp2_with fail
  go_ret
  exact ⟨rfl, rfl⟩
theorem low64_1 (h cap v : Nat) (cs : Array Value) (hc : cap ≤ 100) (h1 : 1 ≤ cap) (w : World) (hb : WB w h cs) (h0 : cs[0]? = some (.int .u64 (v : Nat))) :
    Calls Tryz.prog 36 #[.slice (some ⟨h, 0, none⟩) 1 cap] w fun e w' => e = .returned (.int .u64 (v : Nat)) ∧ w = w' := by
  have c0 : w.cell? ⟨h, 0, none⟩ = some (.int .u64 (v : Nat)) := (cell_of_block hb 0).trans h0
  clear hb h0
  go_enter Tryz.func36, Tryz.ntmps36
  go_wp2_with fail
  go_ret
  exact ⟨rfl, rfl⟩
/-- Words that are made: zeros. -/
def zw (n : Nat) : Array Value := madeCells (Value.int .u64 0).cells (n * 1)
theorem zw_at {n i : Nat} (h : i < n) : (zw n)[i]? = some (.int .u64 0) := by
  unfold zw; simp [madeCells, Value.cells, h, Nat.mod_one]
theorem mk_words (n c : Nat) (h : n ≤ c) (hc : c ≤ 100) (W : World) : (Instr.makeSlice 55 (.int .i64 (n : Int)) (.int .i64 (c : Int))).run Tryz.prog W = .ok (.slice (some ⟨W.heap.size, 0, none⟩) n c) (W.alloc (.cells (zw c) 62)) := by
  obtain ⟨i0, hi, hz0, hz1, hz2⟩ := info_parts' info88
  have := run_make (P := Tryz.prog) W 55 62 i0 (.int .u64 0) Tryz.underlying55 hi hz0 .i64 .i64 (n : Int) (c : Int) (by omega) (by omega) (by rw [hz2]; omega) (by omega)
  rw [hz1] at this
  exact this
theorem make_one (A : Option Addr) (l : Nat) (w : World) (hl : l = 0) :
    Calls Tryz.prog 51 #[.slice A l 0, .int .i64 1] w fun e w' => e = .returned (.slice (some ⟨w.heap.size, 0, none⟩) 1 1) ∧ w' = w.alloc (.cells (zw 1) 62) := by
  have hmk : ∀ W : World, (Instr.makeSlice 55 (.int .i64 1) (.int .i64 1)).run Tryz.prog W = .ok (.slice (some ⟨W.heap.size, 0, none⟩) 1 1) (W.alloc (.cells (zw 1) 62)) := mk_words 1 1 (by decide) (by decide)
  subst hl
  generalize zw 1 = z at hmk
  go_enter Tryz.func51, Tryz.ntmps51
  go_wp2_with fail
  go_ret
  exact ⟨rfl, rfl⟩
theorem make_new (A : Option Addr) (l n cap : Nat) (hn : cap < n) (h1 : 1 < n) (hc : n ≤ 90) (w : World) :
    Calls Tryz.prog 51 #[.slice A l cap, .int .i64 (n : Nat)] w fun e w' => e = .returned (.slice (some ⟨w.heap.size, 0, none⟩) n (n + 4)) ∧ w' = w.alloc (.cells (zw (n + 4)) 62) := by
  have hmk : ∀ W : World, (Instr.makeSlice 55 (.int .i64 (n : Int)) (.int .i64 ((n : Int) + 4))).run Tryz.prog W = .ok (.slice (some ⟨W.heap.size, 0, none⟩) n (n + 4)) (W.alloc (.cells (zw (n + 4)) 62)) := mk_words n (n + 4) (by omega) (by omega)
  have k1 : decide ((n : Int) ≤ cap) = false := decide_eq_false (by omega)
  have k2 : ((n : Int) == 1) = false := decide_eq_false (by omega)
  generalize zw (n + 4) = z at hmk
  go_enter Tryz.func51, Tryz.ntmps51
  go_wp2_with fail
  go_ret
  exact ⟨rfl, rfl⟩
/-- Int.Uint64. -/
def IntAt (w : World) (g : Nat) (S : Value) : Prop := w.heap[g]? = some (.cells #[.bool false, S] 57 (0, 0))
end Go.Proofs.YtabgeonlodmpiaaGreatDoor
