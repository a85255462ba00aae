/- vm, the program's own front end: right, all, Printable. -/
import Derived.Test.YtocbddajakbemaaGreatNE
import Derived.Test.YtocbddajakbemaaGreatNF
import Derived.Test.YtocbddajakbemaaGreatNG
import Derived.Test.YtocbddajakbemaaGreatNH
import Derived.Test.YtocbddajakbemaaGreatNI
set_option linter.unusedVariables false
set_option linter.unusedSimpArgs false
set_option linter.unusedSimpArgs false
namespace Go.Proofs.YtocbddajakbemaaGreat
section
open Go.RowKit
theorem right_all : ∀ (D : Nat), D ≤ 1000 → RightC D := by
  intro D
  induction D with
  | zero =>
    intro _ s EA ec BA bc LA lc w hl ha
    obtain ⟨op, n, nm, e, b, els⟩ := s
    show Calls _ _ #[.agg #[.int .u8 (op : Nat), .int .i64 n, .string nm, .slice EA e.length ec, .slice BA b.length bc, .slice LA els.length lc], .int .i64 ((0 : Nat) : Int)] w fun e w' => e = .returned (.bool false) ∧ Below w.heap.size w w'
    rcases (show op = 1 ∨ op = 2 ∨ op = 3 ∨ op = 4 ∨ op = 5 ∨ op = 6 ∨ op = 7 ∨ (op = 0 ∨ 8 ≤ op) by omega) with rfl | rfl | rfl | rfl | rfl | rfl | rfl | h
    · exact right_zero_1 n nm EA _ ec BA _ bc LA _ lc w _ (by omega)
    · exact right_zero_2 n nm EA _ ec BA _ bc LA _ lc w _ (by omega)
    · exact right_zero_3 n nm EA _ ec BA _ bc LA _ lc w _ (by omega)
    · exact right_zero_4 n nm EA _ ec BA _ bc LA _ lc w _ (by omega)
    · exact right_zero_5 n nm EA _ ec BA _ bc LA _ lc w _ (by omega)
    · exact right_zero_6 n nm EA _ ec BA _ bc LA _ lc w _ (by omega)
    · exact right_zero_7 n nm EA _ ec BA _ bc LA _ lc w _ (by omega)
    · exact right_other n nm EA _ ec BA _ bc LA _ lc w _ op h
  | succ D IH =>
    intro hD s EA ec BA bc LA lc w hl ha
    have IH := IH (by omega)
    obtain ⟨op, n, nm, e, b, els⟩ := s
    obtain ⟨h1, h2, h3, h4, h5, h6⟩ := hl
    obtain ⟨a1, a2, a3⟩ := ha
    have h4 : e.length ≤ 1000000 := h4
    have h5 : b.length ≤ 1000000 := h5
    have h6 : els.length ≤ 1000000 := h6
    have a1 : ∀ k, EsAt w k EA e := a1
    have a2 : SsAt w (D + 1) BA b := a2
    have a3 : SsAt w (D + 1) LA els := a3
    show Calls _ _ #[.agg #[.int .u8 (op : Nat), .int .i64 n, .string nm, .slice EA e.length ec, .slice BA b.length bc, .slice LA els.length lc], .int .i64 ((D + 1 : Nat) : Int)] w fun e' w' => e' = .returned (.bool (rightS (D + 1) (.mk op n nm e b els))) ∧ Below w.heap.size w w'
    have eK : ((D + 1 : Nat) : Int) - 1 = (D : Nat) := by omega
    have hq : e.any (fun y => !(fineB 40 y)) = !(e.all (fineB 40)) := by rw [List.not_all_eq_any_not]
    have CE : ∀ W, Below w.heap.size w W → Calls Tryz.prog 111 #[.slice EA e.length ec, .func (.func 112) #[] #[]] W fun e' w' => e' = .returned (.bool (!(e.all (fineB 40)))) ∧ Below W.heap.size W w' := by
      intro W hb
      rw [← hq]
      exact containsE2_ok EA e.length ec e W rfl h4 ((a1 41).below hb)
    have AB : ∀ W, Below w.heap.size w W → Calls Tryz.prog 51 #[.slice BA b.length bc, .int .i64 (((D + 1 : Nat) : Int) - 1)] W fun e' w' => e' = .returned (.bool (b.all (rightS D))) ∧ Below W.heap.size W w' := by
      intro W hb
      rw [eK]
      exact all_ok0 D IH BA b.length bc b W rfl h5 (a2.below hb)
    have AL : ∀ W, Below w.heap.size w W → Calls Tryz.prog 51 #[.slice LA els.length lc, .int .i64 (((D + 1 : Nat) : Int) - 1)] W fun e' w' => e' = .returned (.bool (els.all (rightS D))) ∧ Below W.heap.size W w' := by
      intro W hb
      rw [eK]
      exact all_ok0 D IH LA els.length lc els W rfl h6 (a3.below hb)
    have hR : rightS (D + 1) (.mk op n nm e b els) = (headS (.mk op n nm e b els) && (e.all (fineB 40) && (b.all (rightS D) && els.all (rightS D)))) := rfl
    rcases (show op = 1 ∨ op = 2 ∨ op = 3 ∨ op = 4 ∨ op = 5 ∨ op = 6 ∨ op = 7 ∨ (op = 0 ∨ 8 ≤ op) by omega) with rfl | rfl | rfl | rfl | rfl | rfl | rfl | h
    · exact right_1 D n nm EA _ ec BA _ bc LA _ lc w _ (by omega) (by omega) _ _ _ _ CE AB AL (by rw [hR]; simp [headS, wantF, S0.op, S0.n, S0.nm, S0.e, S0.b, S0.els])
    · exact right_2 D n nm EA _ ec BA _ bc LA _ lc w _ (by omega) (by omega) _ _ _ _ CE AB AL (by rw [hR]; simp [headS, wantF, S0.op, S0.n, S0.nm, S0.e, S0.b, S0.els])
    · exact right_3 D n nm EA _ ec BA _ bc LA _ lc w _ (by omega) (by omega) _ _ _ _ CE AB AL (by rw [hR]; simp [headS, wantF, S0.op, S0.n, S0.nm, S0.e, S0.b, S0.els])
    · exact right_4 D n nm EA _ ec BA _ bc LA _ lc w _ (by omega) (by omega) _ _ _ _ CE AB AL (by rw [hR]; simp [headS, wantF, S0.op, S0.n, S0.nm, S0.e, S0.b, S0.els])
    · exact right_5 D n nm EA _ ec BA _ bc LA _ lc w _ (by omega) (by omega) _ _ _ _ CE AB AL (by rw [hR]; simp [headS, wantF, S0.op, S0.n, S0.nm, S0.e, S0.b, S0.els])
    · exact right_6 D n nm EA _ ec BA _ bc LA _ lc w _ (by omega) (by omega) _ _ _ _ CE AB AL (by rw [hR]; simp [headS, wantF, S0.op, S0.n, S0.nm, S0.e, S0.b, S0.els])
    · exact right_7 D n nm EA _ ec BA _ bc LA _ lc w _ (by omega) (by omega) _ _ _ _ CE AB AL (by rw [hR]; simp [headS, wantF, S0.op, S0.n, S0.nm, S0.e, S0.b, S0.els])
    · have : rightS (D + 1) (.mk op n nm e b els) = false := by
        rw [hR]
        have : headS (.mk op n nm e b els) = false := by
          unfold headS
          rw [show decide (1 ≤ (S0.mk op n nm e b els).op ∧ (S0.mk op n nm e b els).op ≤ 7) = false from decide_eq_false (by show ¬ (1 ≤ op ∧ op ≤ 7); omega)]
          simp
        rw [this]; rfl
      rw [this]
      exact right_other n nm EA _ ec BA _ bc LA _ lc w _ op h
theorem PrintableZ_ok (A : Option Addr) (n cap : Nat) (l : List S0) (w : World) (hn : n = l.length) (hl : n ≤ 1000000) (h : SsAt w 41 A l) :
    Calls Tryz.prog 31 #[.slice A n cap] w fun e w' => e = .returned (.bool (l.all (rightS 40))) ∧ Below w.heap.size w w' := by
  have C := all_ok0 40 (right_all 40 (by omega)) A n cap l w hn hl h
  have C : Calls Tryz.prog 51 #[.slice A n cap, .int .i64 40] w fun e w' => e = .returned (.bool (l.all (rightS 40))) ∧ Below w.heap.size w w' := C
  obtain ⟨Q, eQ⟩ : ∃ Q, Q = l.all (rightS 40) := ⟨_, rfl⟩
  rw [← eQ] at C ⊢
  clear eQ hn hl h
  go_enter Tryz.func31, Tryz.ntmps31
  go_wp2_with (go_at_call 51; refine C.mono ?_; rintro e w2 ⟨rfl, hb2⟩; have H2 := Lib.hid hb2; clear hb2)
  go_ret
  exact ⟨rfl, H2.out⟩
end
end Go.Proofs.YtocbddajakbemaaGreat
