/- math/big: nat.lsh of nothing; nat.cmp. -/
import Derived.Test.YtabgeonlodmpiaaGreatDoorBLsh
set_option linter.unusedVariables false
namespace Go.Proofs.YtabgeonlodmpiaaGreatDoor
open Go.RowKit

theorem lsh_empty (A X : Option Addr) (n c cx s : Nat) (w : World) (hs : 1 ≤ s) (hn : n ≤ c) (hc : c ≤ 8) :
    Calls Tryz.prog 39 #[.slice A n c, .slice X 0 cx, .int .u64 (s : Nat)] w fun e w' => e = .returned (.slice A 0 c) ∧ w = w' := by
  have k0 : ((s : Int) == 0) = false := decide_eq_false (by omega)
  go_enter Tryz.func39, Tryz.ntmps39
  go_wp2_with fail
  go_ret
  exact ⟨rfl, rfl⟩
/-- A number of fewer words is the less one. -/
theorem cmp_less (A C : Option Addr) (n m ca cc : Nat) (w : World) (h : n < m) :
    Calls Tryz.prog 45 #[.slice A n ca, .slice C m cc] w fun e w' => e = .returned (.int .i64 (-1)) ∧ w = w' := by
  have k0 : ((n : Int) != m) = true := by rw [bne_iff_ne]; omega
  have k1 : decide ((n : Int) < m) = true := decide_eq_true (by omega)
  go_enter Tryz.func45, Tryz.ntmps45
  go_wp2_with fail
  go_ret
  exact ⟨rfl, rfl⟩
set_option maxRecDepth 100000 in
/-- nat.set in place: of one word, onto itself. -/
theorem set_self (h cap x : Nat) (cs : Array Value) (w : World) (hb : WB w h cs) (h0 : cs[0]? = some (.int .u64 (x : Nat))) (hsz : cs.size = cap) (h1 : 1 ≤ cap) (hc : cap ≤ 8) :
    Calls Tryz.prog 50 #[.slice (some ⟨h, 0, none⟩) 1 cap, .slice (some ⟨h, 0, none⟩) 1 cap] w fun e w' =>
      e = .returned (.slice (some ⟨h, 0, none⟩) 1 cap) ∧ (∃ cs', WB w' h cs' ∧ cs'[0]? = some (.int .u64 (x : Nat)) ∧ cs'.size = cap) ∧ Only h w w' := by
  have M := make_in (some ⟨h, 0, none⟩) 1 1 cap h1 (by omega) h1 w
  have c0 := (cell_of_block hb 0).trans h0
  have hcp : (Builtin.copy_ #[55, 55] 3 #[.slice (some ⟨h, 0, none⟩) 1 cap, .slice (some ⟨h, 0, none⟩) 1 cap]).run Tryz.prog w = .ok (goInt 1) (w.setCell ⟨h, 0, none⟩ (.int .u64 (x : Nat))) := by
    have := run_copy_cells (P := Tryz.prog) w 55 55 3 62 h 0 1 cap ⟨h, 0, none⟩ 1 cap [.int .u64 (x : Nat)] Tryz.underlying55 (by kernel_rfl) rfl
      (fun j v hv => by
        rcases j with _ | j
        · simp at hv; subst hv; exact c0
        · simp at hv)
      (fun j hj => by
        have : j = 0 := by simp at hj; exact hj
        subst this; rw [show (⟨h, 0 + 0, none⟩ : Addr) = ⟨h, 0, none⟩ from rfl, c0]; rfl)
      (fun j hj => by
        have : j = 0 := by simp at hj; exact hj
        subst this; exact free_of_block hb 0)
      (fun v hv => by simp at hv; subst hv; rfl)
    exact this
  have hb1 := block_setCell hb 0 (.int .u64 (x : Nat))
  have hO : Only h w (w.setCell ⟨h, 0, none⟩ (.int .u64 (x : Nat))) := (Only.refl h w).setCell rfl _
  have e0 : (cs.setIfInBounds 0 (.int .u64 (x : Nat)))[0]? = some (.int .u64 (x : Nat)) := by
    rw [Array.getElem?_setIfInBounds, if_pos rfl, if_pos (by omega)]
  have e1 : (cs.setIfInBounds 0 (.int .u64 (x : Nat))).size = cap := by rw [Array.size_setIfInBounds]; exact hsz
  generalize w.setCell ⟨h, 0, none⟩ (.int .u64 (x : Nat)) = W at hcp hb1 hO
  have H := Lib.hid (And.intro hb1 (And.intro e0 (And.intro e1 hO))); clear hb1 e0 e1 hO hb h0 hsz c0
  go_enter Tryz.func50, Tryz.ntmps50
  go_wp2_with fail
  refine M.mono ?_
  rintro e w1 ⟨rfl, rfl⟩
  go_wp2_with fail
  go_ret
  exact ⟨rfl, ⟨_, H.out.1, H.out.2.1, H.out.2.2.1⟩, H.out.2.2.2⟩
end Go.Proofs.YtabgeonlodmpiaaGreatDoor
