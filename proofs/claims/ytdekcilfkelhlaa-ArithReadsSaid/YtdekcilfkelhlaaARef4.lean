/- The reference: twice. -/
import Derived.Test.YtdekcilfkelhlaaARef3
import Derived.Deep.DeepCutAuto
set_option linter.unusedVariables false
namespace Go.Proofs.Ytdekcilfkelhlaa
open Go.RowKit

/-- A coder of the reference by value. -/
def rV (lo hi dl : Nat) (oA : Option Addr) (on oc : Nat) (num : Nat) (iA : Option Addr) (im ic : Nat) : Value := .agg #[.int .i64 (lo : Nat), .int .i64 (hi : Nat), .int .i64 (dl : Nat), .slice oA on oc, .int .i64 (num : Nat), .slice iA im ic]
set_option maxRecDepth 100000 in
set_option maxHeartbeats 1000000 in
theorem twice_nil {lo hi dl on oc num ic by_ : Nat} {oA iA : Option Addr} (w : World) (hb : by_ ≤ lo) (hlh : lo ≤ hi) (hh : hi < 4294967296) (hbn : by_ ≤ num) (hn : num < 4294967296) (hd : dl ≤ 1000000) :
    Calls Try.prog 70 #[rV lo hi dl oA on oc num iA 0 ic, .int .i64 (by_ : Nat)] w fun e w' => e = .returned (rV (2 * (lo - by_)) (2 * (hi - by_) + 1) dl oA on oc (2 * (num - by_)) iA 0 ic) ∧ Below w.heap.size w w' := by
  unfold rV
  have e1 : 2 * ((lo : Int) - (by_ : Int)) = ((2 * (lo - by_) : Nat) : Int) := by omega
  have e2 : 2 * ((hi : Int) - (by_ : Int)) + 1 = ((2 * (hi - by_) + 1 : Nat) : Int) := by omega
  have e3 : 2 * ((num : Int) - (by_ : Int)) = ((2 * (num - by_) : Nat) : Int) := by omega
  have HE := Lib.hid (And.intro e1 (And.intro e2 e3)); clear e1 e2 e3
  go_enter Try.func70, Try.ntmps70
  go_wp2_with fail
  rw [← HE.out.1, ← HE.out.2.1, ← HE.out.2.2]
  refine bodyPost_ret (v := .agg #[.int .i64 (2 * ((lo : Int) - (by_ : Int))), .int .i64 (2 * ((hi : Int) - (by_ : Int)) + 1), .int .i64 (dl : Nat), .slice oA on oc, .int .i64 (2 * ((num : Int) - (by_ : Int))), .slice iA 0 ic]) (by simp [results, Try.results70, go_sem]) rfl ⟨rfl, ?_⟩
  exact ((Below.refl _ _).alloc (Nat.le_refl _) _).alloc (by simp) _
set_option maxRecDepth 100000 in
set_option maxHeartbeats 1000000 in
theorem twice_cons {lo hi dl on oc num im ic by_ b : Nat} {oA : Option Addr} {ad : Addr} (lo' hi' num' : Nat) (w : World) (hc : w.cell? ad = some (.int .i64 (b : Nat))) (hm : 1 ≤ im) (hic : im ≤ ic) (hic2 : ic ≤ 9223372036854775807) (hb1 : b ≤ 1) (hb : by_ ≤ lo) (hlh : lo ≤ hi) (hh : hi < 4294967296) (hbn : by_ ≤ num) (hn : num < 4294967296) (hd : dl ≤ 1000000)
    (e1 : 2 * ((lo : Int) - (by_ : Int)) = (lo' : Nat)) (e2 : 2 * ((hi : Int) - (by_ : Int)) + 1 = (hi' : Nat)) (e3 : 2 * ((num : Int) - (by_ : Int)) + (b : Int) = (num' : Nat)) :
    Calls Try.prog 70 #[rV lo hi dl oA on oc num (some ad) im ic, .int .i64 (by_ : Nat)] w fun e w' => ∃ ad', e = .returned (rV lo' hi' dl oA on oc num' (some ad') (im - 1) (ic - 1)) ∧ (1 < im → ad' = ad.add 1) ∧ ad'.block = ad.block ∧ Below w.heap.size w w' := by
  unfold rV
  have HE := Lib.hid (And.intro e1 (And.intro e2 e3)); clear e1 e2 e3
  have hlt := World.block_lt_of_cell? w ad hc
  have hm0 : (0 : Int) < (im : Nat) := by omega
  have hm1 : 0 < im := by omega
  have hcW : ∀ o1 o2, ((w.alloc o1).alloc o2).drew.cell? ad = some (.int .i64 (b : Nat)) := fun o1 o2 => (World.cell?_alloc_lt (w.alloc o1) o2 ad (by rw [World.size_alloc]; omega)).trans ((World.cell?_alloc_lt w o1 ad hlt).trans hc)
  have hcV : ∀ o1 o2, ((w.alloc o1).alloc o2).cell? ad = some (.int .i64 (b : Nat)) := hcW
  have hbe : ∀ o1 o2, Below w.heap.size w ((w.alloc o1).alloc o2) := fun o1 o2 => ((Below.refl _ _).alloc (Nat.le_refl _) _).alloc (by simp) _
  have hbd : ∀ o1 o2, Below w.heap.size w ((w.alloc o1).alloc o2).drew := fun o1 o2 => (((Below.refl _ _).alloc (Nat.le_refl _) _).alloc (by simp) _).drew
  have HB := Lib.hid (And.intro hbe hbd); clear hbe hbd
  go_enter Try.func70, Try.ntmps70
  go_wp2_with fail
  go_region
  all_goals
    go_wp2_with fail
  all_goals rw [← HE.out.1, ← HE.out.2.1, ← HE.out.2.2]
  · refine bodyPost_ret (v := .agg #[.int .i64 (2 * ((lo : Int) - (by_ : Int))), .int .i64 (2 * ((hi : Int) - (by_ : Int)) + 1), .int .i64 (dl : Nat), .slice oA on oc, .int .i64 (2 * ((num : Int) - (by_ : Int)) + (b : Int)), .slice (some ad) (im - 1) 0]) (by simp [results, Try.results70, go_sem]) rfl ⟨ad, ?_, ?_, ?_, ?_⟩
    · first | rfl | rw [show ic - 1 = 0 from by omega]
    · intro _; omega
    · rfl
    · exact HB.out.2 _ _
  · refine bodyPost_ret (v := .agg #[.int .i64 (2 * ((lo : Int) - (by_ : Int))), .int .i64 (2 * ((hi : Int) - (by_ : Int)) + 1), .int .i64 (dl : Nat), .slice oA on oc, .int .i64 (2 * ((num : Int) - (by_ : Int)) + (b : Int)), .slice (some ⟨ad.block, ad.off + 1, none⟩) (im - 1) (ic - 1)]) (by simp [results, Try.results70, go_sem]) rfl ⟨_, rfl, ?_, ?_, ?_⟩
    · intro _; rfl
    · rfl
    · exact HB.out.2 _ _
end Go.Proofs.Ytdekcilfkelhlaa
