/- vm: Run in short; the five runs of awake. Operations: the reference's Eval; VmEvals but for the chapter's examples. Operations: the law's own comparison of both Evals. vm: awake. -/
import Derived.Test.YtocbddajakbemaaMB
import Derived.Test.YtocbddajakbemaaMC
import Derived.Test.YtocbddajakbemaaMF
import Derived.Test.YtocbddajakbemaaMG
import Derived.Test.YtocbddajakbemaaMS
import Derived.Test.YtocbddajakbemaaMA
import Derived.Deep.RegionHeld3
set_option linter.unusedVariables false
namespace Go.Proofs.Ytocbddajakbemaa
section
open Go.RowKit

/-- What Run gives back, in short. -/
def Gives (w : World) (ID : Int) (err left : Nat) (cs : List Cmp) (e : Ending) (w' : World) : Prop :=
  ∃ A cap, e = .returned (.tuple #[.agg #[.int .i64 ID, .slice A cs.length cap], .int .i64 (left : Nat), .int .i64 (err : Nat)]) ∧ w'.ownsRow w.heap.size 44 5 (.slice A cs.length cap) cs.length (comps cs) ∧ Below w.heap.size w w'
theorem RunGives.gives {w : World} {a : RArg} {cs : List Cmp} {r : Except (Nat × Nat) (Nat × Mst)} {e : Ending} {w' : World} (h : RunGives w a cs r e w') : Gives w a.ID (endN r) (endF r) (endC cs r) e w' := by
  obtain ⟨A, cap, h⟩ := h
  rcases r with ⟨n, f⟩ | ⟨f, σ⟩
  · exact ⟨A, cap, h⟩
  · exact ⟨A, cap, h⟩
theorem runT (a : RArg) (cs : List Cmp) (code : List (Nat × Int)) (f err left : Nat) (cs' : List Cmp) (hf : f ≤ 10000) (hL : a.L ≤ 1000) (w : World) (hn : a.n = cs.length) (hl : cs.length ≤ 1000) (hnil : a.A = none → a.n = 0 ∧ a.cap = 0) (hc : CompsAt w a.A cs)
    (s0 : 0 ≤ a.seed) (s1 : a.seed ≤ 18446744073709551615) (k0 : 0 ≤ a.key) (k1 : a.key ≤ 18446744073709551615)
    (hcode : CodeAt w w.heap.size a.cA code) (hcn : a.cn = code.length) (hcl : code.length ≤ 4000) (hop : ∀ x, x ∈ code → x.1 < 256) (hfine : Fine cs)
    (hr : (runF a.fix code f ⟨0, 0, [], List.replicate a.L 0, cs⟩).map (fun r => (endN r, endF r, endC cs r)) = some (err, left, cs')) (hs : soundF (a.L : Nat) a.R a.Wr code = some true) :
    Calls Try.prog 10 #[.agg #[.slice a.cA a.cn a.cc, .int .i64 (a.L : Nat), .int .u32 a.R, .int .u32 a.Wr], .agg #[.int .i64 a.ID, .slice a.A a.n a.cap], .agg #[.int .u64 a.seed, .int .i64 a.tick, .int .u64 a.key], .int .i64 f] w (Gives w a.ID err left cs') := by
  rcases hx : runF a.fix code f ⟨0, 0, [], List.replicate a.L 0, cs⟩ with _ | r
  · rw [hx] at hr; cases hr
  rw [hx] at hr
  simp only [Option.map_some, Option.some.injEq, Prod.mk.injEq] at hr
  obtain ⟨e1, e2, e3⟩ := hr
  subst e1 e2 e3
  refine (Run_ok a cs code r f hf hL w hn (by omega) hnil hc s0 s1 k0 k1 hcode hcn hcl hfine hx ?_).mono fun e w' h => h.gives
  intro w' hb
  exact Sound_ok a.cA a.cn a.cc (a.L : Nat) a.R a.Wr code true w' hcn hcl hop ((hcode.below hb).mono hb.size) hs
/-- The concrete runs. -/
def entA : List Cmp := [⟨2, 3, -4, 0, 0⟩, ⟨7, 1, 20, 30, 40⟩]
def entD : List Cmp := [⟨2, 3, -4, 0, 0⟩, ⟨7, 10, -3, 30, 40⟩]
section
variable (cA : Option Addr) (cc : Nat) (L R Wr sd tk ky s : Int)
theorem runA : (runF ⟨cA, 12, cc, L, R, Wr, 5, sd, tk, ky, s⟩ prog0 40 ⟨0, 0, [], [0], ent⟩).map (fun r => (endN r, endF r, endC ent r)) = some (0, 6, entA) := by kernel_rfl
theorem runB : (runF ⟨cA, 12, cc, L, R, Wr, 5, sd, tk, ky, s⟩ prog0 33 ⟨0, 0, [], [0], ent⟩).map (fun r => (endN r, endF r, endC ent r)) = some (145, 0, ent) := by kernel_rfl
theorem runG : (runF ⟨cA, 12, cc, L, R, Wr, 5, sd, tk, ky, s⟩ prog0 40 ⟨0, 0, [], [0], []⟩).map (fun r => (endN r, endF r, endC [] r)) = some (140, 33, []) := by kernel_rfl
theorem runC : (runF ⟨cA, 4, cc, L, R, Wr, 5, sd, tk, ky, s⟩ prog1 40 ⟨0, 0, [], [], ent⟩).map (fun r => (endN r, endF r, endC ent r)) = some (144, 36, ent) := by kernel_rfl
theorem runD : (runF ⟨cA, 8, cc, L, R, Wr, 5, sd, tk, ky, s⟩ prog2 40 ⟨0, 0, [], [], ent⟩).map (fun r => (endN r, endF r, endC ent r)) = some (0, 32, entD) := by kernel_rfl
end
theorem sound0 : soundF 1 0 128 prog0 = some true := by kernel_rfl
theorem sound1 : soundF 0 0 128 prog1 = some true := by kernel_rfl
theorem sound2 : soundF 0 4 128 prog2 = some true := by kernel_rfl
end
end Go.Proofs.Ytocbddajakbemaa
namespace Go.Proofs.Ytocbddajakbemaa
section
open Go.RowKit

theorem wrap_ex (q : Int) : ∃ k : Int, wrap64 q = q + 18446744073709551616 * k := by
  refine ⟨(wrap64 q - q) / 18446744073709551616, ?_⟩
  unfold wrap64; omega
theorem mod_wrap (a b q : Int) : wrap64 (a - wrap64 (wrap64 q * b)) = wrap64 (a - q * b) := by
  obtain ⟨k, hk⟩ := wrap_ex q
  have e : wrap64 q * b = q * b + 18446744073709551616 * (k * b) := by rw [hk, Int.add_mul, Int.mul_assoc]
  rw [e]
  generalize q * b = p
  generalize k * b = m
  unfold wrap64; omega
theorem mod_val (a b : Int) (h0 : -9223372036854775808 ≤ a) (h1 : a ≤ 9223372036854775807) : wrap64 (a - wrap64 (wrap64 (a.tdiv b) * b)) = a.tmod b := by
  rw [mod_wrap]
  have e : a - a.tdiv b * b = a.tmod b := by have := Int.tmod_add_mul_tdiv a b; rw [Int.mul_comm] at this; omega
  rw [e]
  have h2 : (a.tmod b).natAbs ≤ a.natAbs := by rw [Int.natAbs_tmod]; exact Nat.mod_le _ _
  have h3 : 0 ≤ a → 0 ≤ a.tmod b := fun h => Int.tmod_nonneg _ h
  have h4 : ¬ 0 ≤ a → a.tmod b ≤ 0 := fun h => by
    have := Int.tmod_nonneg (a := -a) b (by omega)
    rw [Int.neg_tmod] at this; omega
  unfold wrap64; omega
theorem rv7 (a b : Int) (w : World) : Calls Try.prog 17 #[.int .i64 7, .int .i64 a, .int .i64 b] w fun e w' => e = .returned (.tuple #[.int .i64 (evV 7 a b), .int .i64 (evE 7 b : Nat)]) ∧ w = w' := by
  go_enter Try.func17, Try.ntmps17
  go_wp2_with fail
  go_ret2
  exact ⟨rfl, rfl⟩
theorem rv10 (a b : Int) (w : World) : Calls Try.prog 17 #[.int .i64 10, .int .i64 a, .int .i64 b] w fun e w' => e = .returned (.tuple #[.int .i64 (evV 10 a b), .int .i64 (evE 10 b : Nat)]) ∧ w = w' := by
  go_enter Try.func17, Try.ntmps17
  go_wp2_with fail
  go_ret2
  exact ⟨rfl, rfl⟩
theorem rv13 (a b : Int) (w : World) : Calls Try.prog 17 #[.int .i64 13, .int .i64 a, .int .i64 b] w fun e w' => e = .returned (.tuple #[.int .i64 (evV 13 a b), .int .i64 (evE 13 b : Nat)]) ∧ w = w' := by
  go_enter Try.func17, Try.ntmps17
  go_wp2_with fail
  go_ret2
  exact ⟨rfl, rfl⟩
theorem rv14 (a b : Int) (w : World) : Calls Try.prog 17 #[.int .i64 14, .int .i64 a, .int .i64 b] w fun e w' => e = .returned (.tuple #[.int .i64 (evV 14 a b), .int .i64 (evE 14 b : Nat)]) ∧ w = w' := by
  go_enter Try.func17, Try.ntmps17
  go_wp2_with fail
  go_ret2
  exact ⟨rfl, rfl⟩
theorem rv15a (a b : Int) (w : World) (h : a < b) : Calls Try.prog 17 #[.int .i64 15, .int .i64 a, .int .i64 b] w fun e w' => e = .returned (.tuple #[.int .i64 (evV 15 a b), .int .i64 (evE 15 b : Nat)]) ∧ w = w' := by
  have hv : evV 15 a b = 1 := by unfold evV tr; simp [h]
  have H := Lib.hid hv; clear hv
  go_enter Try.func17, Try.ntmps17
  go_wp2_with fail
  go_ret2
  exact ⟨ret_congr (by rw [H.out]; rfl), rfl⟩
theorem rv15b (a b : Int) (w : World) (h : ¬ a < b) : Calls Try.prog 17 #[.int .i64 15, .int .i64 a, .int .i64 b] w fun e w' => e = .returned (.tuple #[.int .i64 (evV 15 a b), .int .i64 (evE 15 b : Nat)]) ∧ w = w' := by
  have hv : evV 15 a b = 0 := by unfold evV tr; simp; omega
  have H := Lib.hid hv; clear hv
  go_enter Try.func17, Try.ntmps17
  go_wp2_with fail
  go_ret2
  exact ⟨ret_congr (by rw [H.out]; rfl), rfl⟩
theorem rv16a (a b : Int) (w : World) (h : a ≤ b) : Calls Try.prog 17 #[.int .i64 16, .int .i64 a, .int .i64 b] w fun e w' => e = .returned (.tuple #[.int .i64 (evV 16 a b), .int .i64 (evE 16 b : Nat)]) ∧ w = w' := by
  have hv : evV 16 a b = 1 := by unfold evV tr; simp [h]
  have H := Lib.hid hv; clear hv
  go_enter Try.func17, Try.ntmps17
  go_wp2_with fail
  go_ret2
  exact ⟨ret_congr (by rw [H.out]; rfl), rfl⟩
theorem rv16b (a b : Int) (w : World) (h : ¬ a ≤ b) : Calls Try.prog 17 #[.int .i64 16, .int .i64 a, .int .i64 b] w fun e w' => e = .returned (.tuple #[.int .i64 (evV 16 a b), .int .i64 (evE 16 b : Nat)]) ∧ w = w' := by
  have hv : evV 16 a b = 0 := by unfold evV tr; simp; omega
  have H := Lib.hid hv; clear hv
  go_enter Try.func17, Try.ntmps17
  go_wp2_with fail
  go_ret2
  exact ⟨ret_congr (by rw [H.out]; rfl), rfl⟩
theorem rv17a (a b : Int) (w : World) (h : b < a) : Calls Try.prog 17 #[.int .i64 17, .int .i64 a, .int .i64 b] w fun e w' => e = .returned (.tuple #[.int .i64 (evV 17 a b), .int .i64 (evE 17 b : Nat)]) ∧ w = w' := by
  have hv : evV 17 a b = 1 := by unfold evV tr; simp [h]
  have H := Lib.hid hv; clear hv
  go_enter Try.func17, Try.ntmps17
  go_wp2_with fail
  go_ret2
  exact ⟨ret_congr (by rw [H.out]; rfl), rfl⟩
theorem rv17b (a b : Int) (w : World) (h : ¬ b < a) : Calls Try.prog 17 #[.int .i64 17, .int .i64 a, .int .i64 b] w fun e w' => e = .returned (.tuple #[.int .i64 (evV 17 a b), .int .i64 (evE 17 b : Nat)]) ∧ w = w' := by
  have hv : evV 17 a b = 0 := by unfold evV tr; simp; omega
  have H := Lib.hid hv; clear hv
  go_enter Try.func17, Try.ntmps17
  go_wp2_with fail
  go_ret2
  exact ⟨ret_congr (by rw [H.out]; rfl), rfl⟩
theorem rv18a (a b : Int) (w : World) (h : b ≤ a) : Calls Try.prog 17 #[.int .i64 18, .int .i64 a, .int .i64 b] w fun e w' => e = .returned (.tuple #[.int .i64 (evV 18 a b), .int .i64 (evE 18 b : Nat)]) ∧ w = w' := by
  have hv : evV 18 a b = 1 := by unfold evV tr; simp [h]
  have H := Lib.hid hv; clear hv
  go_enter Try.func17, Try.ntmps17
  go_wp2_with fail
  go_ret2
  exact ⟨ret_congr (by rw [H.out]; rfl), rfl⟩
theorem rv18b (a b : Int) (w : World) (h : ¬ b ≤ a) : Calls Try.prog 17 #[.int .i64 18, .int .i64 a, .int .i64 b] w fun e w' => e = .returned (.tuple #[.int .i64 (evV 18 a b), .int .i64 (evE 18 b : Nat)]) ∧ w = w' := by
  have hv : evV 18 a b = 0 := by unfold evV tr; simp; omega
  have H := Lib.hid hv; clear hv
  go_enter Try.func17, Try.ntmps17
  go_wp2_with fail
  go_ret2
  exact ⟨ret_congr (by rw [H.out]; rfl), rfl⟩
theorem rv8a (a b : Int) (w : World) (h : (a == 0) = true) : Calls Try.prog 17 #[.int .i64 8, .int .i64 a, .int .i64 b] w fun e w' => e = .returned (.tuple #[.int .i64 (evV 8 a b), .int .i64 (evE 8 b : Nat)]) ∧ w = w' := by
  have hv : evV 8 a b = 1 := by unfold evV tr; simp only [h]; rfl
  have H := Lib.hid hv; clear hv
  go_enter Try.func17, Try.ntmps17
  go_wp2_with fail
  go_ret2
  exact ⟨ret_congr (by rw [H.out]; rfl), rfl⟩
theorem rv8b (a b : Int) (w : World) (h : (a == 0) = false) : Calls Try.prog 17 #[.int .i64 8, .int .i64 a, .int .i64 b] w fun e w' => e = .returned (.tuple #[.int .i64 (evV 8 a b), .int .i64 (evE 8 b : Nat)]) ∧ w = w' := by
  have hv : evV 8 a b = 0 := by unfold evV tr; simp only [h]; rfl
  have H := Lib.hid hv; clear hv
  go_enter Try.func17, Try.ntmps17
  go_wp2_with fail
  go_ret2
  exact ⟨ret_congr (by rw [H.out]; rfl), rfl⟩
theorem rv19a (a b : Int) (w : World) (h : (a == b) = true) : Calls Try.prog 17 #[.int .i64 19, .int .i64 a, .int .i64 b] w fun e w' => e = .returned (.tuple #[.int .i64 (evV 19 a b), .int .i64 (evE 19 b : Nat)]) ∧ w = w' := by
  have hv : evV 19 a b = 1 := by unfold evV tr; simp only [h]; rfl
  have H := Lib.hid hv; clear hv
  go_enter Try.func17, Try.ntmps17
  go_wp2_with fail
  go_ret2
  exact ⟨ret_congr (by rw [H.out]; rfl), rfl⟩
theorem rv19b (a b : Int) (w : World) (h : (a == b) = false) : Calls Try.prog 17 #[.int .i64 19, .int .i64 a, .int .i64 b] w fun e w' => e = .returned (.tuple #[.int .i64 (evV 19 a b), .int .i64 (evE 19 b : Nat)]) ∧ w = w' := by
  have hv : evV 19 a b = 0 := by unfold evV tr; simp only [h]; rfl
  have H := Lib.hid hv; clear hv
  go_enter Try.func17, Try.ntmps17
  go_wp2_with fail
  go_ret2
  exact ⟨ret_congr (by rw [H.out]; rfl), rfl⟩
theorem rv20a (a b : Int) (w : World) (h : (a != b) = true) : Calls Try.prog 17 #[.int .i64 20, .int .i64 a, .int .i64 b] w fun e w' => e = .returned (.tuple #[.int .i64 (evV 20 a b), .int .i64 (evE 20 b : Nat)]) ∧ w = w' := by
  have hv : evV 20 a b = 1 := by unfold evV tr; simp only [h]; rfl
  have H := Lib.hid hv; clear hv
  go_enter Try.func17, Try.ntmps17
  go_wp2_with fail
  go_ret2
  exact ⟨ret_congr (by rw [H.out]; rfl), rfl⟩
theorem rv20b (a b : Int) (w : World) (h : (a != b) = false) : Calls Try.prog 17 #[.int .i64 20, .int .i64 a, .int .i64 b] w fun e w' => e = .returned (.tuple #[.int .i64 (evV 20 a b), .int .i64 (evE 20 b : Nat)]) ∧ w = w' := by
  have hv : evV 20 a b = 0 := by unfold evV tr; simp only [h]; rfl
  have H := Lib.hid hv; clear hv
  go_enter Try.func17, Try.ntmps17
  go_wp2_with fail
  go_ret2
  exact ⟨ret_congr (by rw [H.out]; rfl), rfl⟩
theorem rv9a (a b : Int) (w : World) (h : a < 0) : Calls Try.prog 17 #[.int .i64 9, .int .i64 a, .int .i64 b] w fun e w' => e = .returned (.tuple #[.int .i64 (evV 9 a b), .int .i64 (evE 9 b : Nat)]) ∧ w = w' := by
  have hv : evV 9 a b = wrap64 (-a) := by unfold evV; simp only []; rw [if_pos h]
  have H := Lib.hid hv; clear hv
  go_enter Try.func17, Try.ntmps17
  go_wp2_with fail
  go_ret2
  exact ⟨ret_congr (by rw [H.out]; rfl), rfl⟩
theorem rv9b (a b : Int) (w : World) (h : ¬ a < 0) : Calls Try.prog 17 #[.int .i64 9, .int .i64 a, .int .i64 b] w fun e w' => e = .returned (.tuple #[.int .i64 (evV 9 a b), .int .i64 (evE 9 b : Nat)]) ∧ w = w' := by
  have hv : evV 9 a b = a := by unfold evV; simp only []; rw [if_neg h]
  have H := Lib.hid hv; clear hv
  go_enter Try.func17, Try.ntmps17
  go_wp2_with fail
  go_ret2
  exact ⟨ret_congr (by rw [H.out]; rfl), rfl⟩
theorem rv11a (a b : Int) (w : World) (h : b = 0) : Calls Try.prog 17 #[.int .i64 11, .int .i64 a, .int .i64 b] w fun e w' => e = .returned (.tuple #[.int .i64 (evV 11 a b), .int .i64 (evE 11 b : Nat)]) ∧ w = w' := by
  subst h
  go_enter Try.func17, Try.ntmps17
  go_wp2_with fail
  go_ret2
  exact ⟨rfl, rfl⟩
theorem rv12a (a b : Int) (w : World) (h : b = 0) : Calls Try.prog 17 #[.int .i64 12, .int .i64 a, .int .i64 b] w fun e w' => e = .returned (.tuple #[.int .i64 (evV 12 a b), .int .i64 (evE 12 b : Nat)]) ∧ w = w' := by
  subst h
  go_enter Try.func17, Try.ntmps17
  go_wp2_with fail
  go_ret2
  exact ⟨rfl, rfl⟩
theorem rv11b (a b : Int) (w : World) (h : b = -1) : Calls Try.prog 17 #[.int .i64 11, .int .i64 a, .int .i64 b] w fun e w' => e = .returned (.tuple #[.int .i64 (evV 11 a b), .int .i64 (evE 11 b : Nat)]) ∧ w = w' := by
  subst h
  have hv : evV 11 a (-1) = wrap64 (-a) := by unfold evV; simp [Int.tdiv_neg]
  have H := Lib.hid hv; clear hv
  go_enter Try.func17, Try.ntmps17
  go_wp2_with fail
  go_ret2
  exact ⟨ret_congr (by rw [H.out]; rfl), rfl⟩
theorem rv11c (a b : Int) (w : World) (h : ¬ b = 0) (h2 : ¬ b = -1) : Calls Try.prog 17 #[.int .i64 11, .int .i64 a, .int .i64 b] w fun e w' => e = .returned (.tuple #[.int .i64 (evV 11 a b), .int .i64 (evE 11 b : Nat)]) ∧ w = w' := by
  have hv : evV 11 a b = wrap64 (a.tdiv b) ∧ evE 11 b = 0 := by unfold evV evE; simp [h, evOp]
  have H := Lib.hid hv; clear hv
  have h3 : (b == 0) = false := by rw [beq_eq_false_iff_ne]; exact h
  have h4 : (b != -1) = true := by rw [bne_iff_ne]; exact h2
  go_enter Try.func17, Try.ntmps17
  go_wp2_with fail
  go_ret2
  exact ⟨ret_congr (by rw [H.out.1, H.out.2]; rfl), rfl⟩
theorem rv12b (a b : Int) (w : World) (h : b = -1) (h0 : -9223372036854775808 ≤ a) (h1 : a ≤ 9223372036854775807) : Calls Try.prog 17 #[.int .i64 12, .int .i64 a, .int .i64 b] w fun e w' => e = .returned (.tuple #[.int .i64 (evV 12 a b), .int .i64 (evE 12 b : Nat)]) ∧ w = w' := by
  subst h
  have hv : evV 12 a (-1) = wrap64 (a - wrap64 (-wrap64 (-a))) := by
    have := mod_val a (-1) h0 h1
    unfold evV
    simp only []
    rw [if_neg (by decide), ← this]
    simp [Int.tdiv_neg]
  have H := Lib.hid hv; clear hv h0 h1
  go_enter Try.func17, Try.ntmps17
  go_wp2_with fail
  go_ret2
  exact ⟨ret_congr (by rw [H.out]; rfl), rfl⟩
theorem rv12c (a b : Int) (w : World) (h : ¬ b = 0) (h2 : ¬ b = -1) (h0 : -9223372036854775808 ≤ a) (h1 : a ≤ 9223372036854775807) : Calls Try.prog 17 #[.int .i64 12, .int .i64 a, .int .i64 b] w fun e w' => e = .returned (.tuple #[.int .i64 (evV 12 a b), .int .i64 (evE 12 b : Nat)]) ∧ w = w' := by
  have hv : evV 12 a b = wrap64 (a - wrap64 (wrap64 (a.tdiv b) * b)) ∧ evE 12 b = 0 := by rw [mod_val a b h0 h1]; unfold evV evE; simp [h, evOp]
  have H := Lib.hid hv; clear hv h0 h1
  have h3 : (b == 0) = false := by rw [beq_eq_false_iff_ne]; exact h
  have h4 : (b != -1) = true := by rw [bne_iff_ne]; exact h2
  go_enter Try.func17, Try.ntmps17
  go_wp2_with fail
  go_ret2
  exact ⟨ret_congr (by rw [H.out.1, H.out.2]; rfl), rfl⟩
theorem rv23a (a b : Int) (w : World) (h : b < a) : Calls Try.prog 17 #[.int .i64 23, .int .i64 a, .int .i64 b] w fun e w' => e = .returned (.tuple #[.int .i64 (evV 23 a b), .int .i64 (evE 23 b : Nat)]) ∧ w = w' := by
  have hv : evV 23 a b = b := by unfold evV; simp only []; rw [if_pos h]
  have H := Lib.hid hv; clear hv
  go_enter Try.func17, Try.ntmps17
  go_wp2_with fail
  go_ret2
  exact ⟨ret_congr (by rw [H.out]; rfl), rfl⟩
theorem rv23b (a b : Int) (w : World) (h : ¬ b < a) : Calls Try.prog 17 #[.int .i64 23, .int .i64 a, .int .i64 b] w fun e w' => e = .returned (.tuple #[.int .i64 (evV 23 a b), .int .i64 (evE 23 b : Nat)]) ∧ w = w' := by
  have hv : evV 23 a b = a := by unfold evV; simp only []; rw [if_neg h]
  have H := Lib.hid hv; clear hv
  go_enter Try.func17, Try.ntmps17
  go_wp2_with fail
  go_ret2
  exact ⟨ret_congr (by rw [H.out]; rfl), rfl⟩
theorem rv24a (a b : Int) (w : World) (h : a < b) : Calls Try.prog 17 #[.int .i64 24, .int .i64 a, .int .i64 b] w fun e w' => e = .returned (.tuple #[.int .i64 (evV 24 a b), .int .i64 (evE 24 b : Nat)]) ∧ w = w' := by
  have hv : evV 24 a b = b := by unfold evV; simp only []; rw [if_pos h]
  have H := Lib.hid hv; clear hv
  go_enter Try.func17, Try.ntmps17
  go_wp2_with fail
  go_ret2
  exact ⟨ret_congr (by rw [H.out]; rfl), rfl⟩
theorem rv24b (a b : Int) (w : World) (h : ¬ a < b) : Calls Try.prog 17 #[.int .i64 24, .int .i64 a, .int .i64 b] w fun e w' => e = .returned (.tuple #[.int .i64 (evV 24 a b), .int .i64 (evE 24 b : Nat)]) ∧ w = w' := by
  have hv : evV 24 a b = a := by unfold evV; simp only []; rw [if_neg h]
  have H := Lib.hid hv; clear hv
  go_enter Try.func17, Try.ntmps17
  go_wp2_with fail
  go_ret2
  exact ⟨ret_congr (by rw [H.out]; rfl), rfl⟩
end
end Go.Proofs.Ytocbddajakbemaa
namespace Go.Proofs.Ytocbddajakbemaa
section
open Go.RowKit

theorem refEval_ok (op : Nat) (ho : evOp op = true) (a b : Int) (h0 : -9223372036854775808 ≤ a) (h1 : a ≤ 9223372036854775807) (w : World) : Calls Try.prog 17 #[.int .i64 (op : Int), .int .i64 a, .int .i64 b] w fun e w' => e = .returned (.tuple #[.int .i64 (evV op a b), .int .i64 (evE op b : Nat)]) ∧ w = w' := by
  have h2 : op = 7 ∨ op = 8 ∨ op = 9 ∨ op = 10 ∨ op = 11 ∨ op = 12 ∨ op = 13 ∨ op = 14 ∨ op = 15 ∨ op = 16 ∨ op = 17 ∨ op = 18 ∨ op = 19 ∨ op = 20 ∨ op = 23 ∨ op = 24 := by
    unfold evOp at ho; have := of_decide_eq_true ho; omega
  rcases h2 with rfl | rfl | rfl | rfl | rfl | rfl | rfl | rfl | rfl | rfl | rfl | rfl | rfl | rfl | rfl | rfl
  · exact rv7 a b w
  · rcases h : (a == 0) with _ | _
    · exact rv8b a b w h
    · exact rv8a a b w h
  · by_cases h : a < 0
    · exact rv9a a b w h
    · exact rv9b a b w h
  · exact rv10 a b w
  · by_cases h : b = 0
    · exact rv11a a b w h
    · by_cases h2 : b = -1
      · exact rv11b a b w h2
      · exact rv11c a b w h h2
  · by_cases h : b = 0
    · exact rv12a a b w h
    · by_cases h2 : b = -1
      · exact rv12b a b w h2 h0 h1
      · exact rv12c a b w h h2 h0 h1
  · exact rv13 a b w
  · exact rv14 a b w
  · by_cases h : a < b
    · exact rv15a a b w h
    · exact rv15b a b w h
  · by_cases h : a ≤ b
    · exact rv16a a b w h
    · exact rv16b a b w h
  · by_cases h : b < a
    · exact rv17a a b w h
    · exact rv17b a b w h
  · by_cases h : b ≤ a
    · exact rv18a a b w h
    · exact rv18b a b w h
  · rcases h : (a == b) with _ | _
    · exact rv19b a b w h
    · exact rv19a a b w h
  · rcases h : (a != b) with _ | _
    · exact rv20b a b w h
    · exact rv20a a b w h
  · by_cases h : b < a
    · exact rv23a a b w h
    · exact rv23b a b w h
  · by_cases h : a < b
    · exact rv24a a b w h
    · exact rv24b a b w h
theorem evals_ok (op : Nat) (h256 : op < 256) (a b : Int) (h0 : -9223372036854775808 ≤ a) (h1 : a ≤ 9223372036854775807) (w : World) : Calls Try.prog 7 #[.int .u8 (op : Int), .int .i64 a, .int .i64 b] w fun e w' => e = .returned (.bool true) ∧ w = w' := by
  have hp : op < 7 ∨ (7 ≤ op ∧ 24 < op) ∨ (7 ≤ op ∧ op ≤ 24 ∧ op = 21) ∨ (7 ≤ op ∧ op ≤ 24 ∧ ¬ op = 21 ∧ op = 22) ∨ evOp op = true := by
    unfold evOp
    by_cases h : 7 ≤ op ∧ op ≤ 24 ∧ op ≠ 21 ∧ op ≠ 22
    · right; right; right; right; exact decide_eq_true h
    · omega
  have hE : evOp op = false → evV op a b = 0 ∧ evE op b = 2 := by
    intro hq
    have h1 : op < 7 ∨ 24 < op ∨ op = 21 ∨ op = 22 := by unfold evOp at hq; have := of_decide_eq_false hq; omega
    refine ⟨?_, ?_⟩
    · unfold evV
      split <;> first | rfl | (exfalso; omega)
    · unfold evE; rw [hq]; rfl
  have H := Eval_ok op h256 a b
  have R := fun ho => refEval_ok op ho a b h0 h1
  generalize hv : evV op a b = v at H R hE
  generalize he : evE op b = c at H R hE
  clear hv he h0 h1
  go_enter Try.func7, Try.ntmps7
  go_wp2_with fail
  refine (H _).mono ?_
  rintro e w1 ⟨rfl, rfl⟩
  rcases hp with hp | hp | hp | hp | hp
  · obtain ⟨rfl, rfl⟩ := hE (by unfold evOp; exact decide_eq_false (by omega))
    have k1 : decide ((op : Int) < 7) = true := decide_eq_true (by omega)
    go_wp2_with fail
    go_ret
    exact ⟨rfl, rfl⟩
  · obtain ⟨hp, hp2⟩ := hp
    obtain ⟨rfl, rfl⟩ := hE (by unfold evOp; exact decide_eq_false (by omega))
    have k1 : decide ((op : Int) < 7) = false := decide_eq_false (by omega)
    have k2 : decide ((24 : Int) < op) = true := decide_eq_true (by omega)
    go_wp2_with fail
    go_ret
    exact ⟨rfl, rfl⟩
  · obtain ⟨hp, hp2, rfl⟩ := hp
    obtain ⟨rfl, rfl⟩ := hE (by unfold evOp; exact decide_eq_false (by omega))
    go_wp2_with fail
    go_ret
    exact ⟨rfl, rfl⟩
  · obtain ⟨hp, hp2, hp3, rfl⟩ := hp
    obtain ⟨rfl, rfl⟩ := hE (by unfold evOp; exact decide_eq_false (by omega))
    go_wp2_with fail
    go_ret
    exact ⟨rfl, rfl⟩
  · have hp7 : 7 ≤ op ∧ op ≤ 24 ∧ op ≠ 21 ∧ op ≠ 22 := by unfold evOp at hp; exact of_decide_eq_true hp
    have k1 : decide ((op : Int) < 7) = false := decide_eq_false (by omega)
    have k2 : decide ((24 : Int) < op) = false := decide_eq_false (by omega)
    have k3 : ((op : Int) == 21) = false := decide_eq_false (by omega)
    have k4 : ((op : Int) == 22) = false := decide_eq_false (by omega)
    have k5 : wrap64 (op : Int) = op := by unfold wrap64; omega
    have k6 : (v == v) = true := by simp
    have k7 : ((c : Int) == (c : Int)) = true := by simp
    clear hE hp7
    go_wp2_with fail
    refine (R hp _).mono ?_
    rintro e w1 ⟨rfl, rfl⟩
    go_wp2_with fail
    go_ret
    exact ⟨rfl, rfl⟩
end
end Go.Proofs.Ytocbddajakbemaa
namespace Go.Proofs.Ytocbddajakbemaa
section
open Go.RowKit

theorem own2_code {w : World} {B : Nat} {v : Value} {l : List In} (h : Own2 w B v l) : ∃ A c, v = .slice A l.length c ∧ CodeAt w w.heap.size A l := by
  rcases h.2 with ⟨e, e2⟩ | ⟨g, cap, cur, e, hB, hh, r⟩
  · refine ⟨none, 0, by rw [e, e2], fun i x hx => ?_⟩
    rw [List.length_eq_zero_iff.1 e2] at hx; cases hx
  · refine ⟨some ⟨g, 0, none⟩, cap, e, fun i x hx => ?_⟩
    subst e
    obtain ⟨c0, c1⟩ := insC_at hx
    have k0 := h.cells (g := g) rfl _ _ c0
    have k1 := h.cells (g := g) rfl _ _ c1
    have ea : ∀ j, Addr.add ⟨g, 0, none⟩ j = ⟨g, j, none⟩ := fun j => by
      unfold Addr.add
      split
      · rename_i h0; rw [h0]
      · simp
    rw [ea] at k0 k1
    exact ⟨g, 0, rfl, lt_of_block hh, by rw [Nat.zero_add]; exact k0, by rw [Nat.zero_add]; exact k1⟩
theorem own_off {w : World} {B e s n m c : Nat} {A : Option Addr} {xs : List Value} (h : w.ownsRow B e s (.slice A m c) n xs) : ∀ ad, A = some ad → ad.off = 0 := by
  intro ad e'
  rcases h.2 with ⟨e, -⟩ | ⟨g, cap, cur, e, -⟩
  · injection e with e; rw [e] at e'; cases e'
  · injection e with e; rw [e] at e'; injection e' with e'; rw [← e']
/-- An entity in a box. -/
structure EBox (W : World) (q : Nat) (A : Option Addr) (n c : Nat) (cs : List Cmp) : Prop where
  blk : W.heap[q]? = some (.cells #[.int .i64 5, .slice A n c] 30 (0, 0))
  at_ : CompsAt W A cs
  len : n = cs.length
  off : ∀ ad, A = some ad → ad.off = 0
theorem EBox.below {W W' : World} {q : Nat} {A : Option Addr} {n c : Nat} {cs : List Cmp} (h : EBox W q A n c cs) (hb : Below W.heap.size W W') : EBox W' q A n c cs :=
  ⟨(hb.block q (lt_of_block h.blk)).trans h.blk, h.at_.below hb rfl, h.len, h.off⟩
theorem EBox.new {w0 W : World} {B : Nat} {A : Option Addr} {c : Nat} {cs : List Cmp} (h : W.ownsRow B 44 5 (.slice A cs.length c) cs.length (comps cs)) : EBox (W.alloc (.cells #[.int .i64 5, .slice A cs.length c] 30 (0, 0))) W.heap.size A cs.length c cs := by
  obtain ⟨A', c', e, hc, -⟩ := compsAt_own h
  simp only [Value.slice.injEq, true_and] at e
  obtain ⟨rfl, rfl⟩ := e
  exact ⟨heap_alloc_new W _, hc.alloc _, rfl, own_off h⟩
theorem fine_ent : Fine ent := ⟨by decide, by decide⟩
theorem fine_nil : Fine [] := ⟨by decide, by decide⟩
theorem z64 : (0 : Int) ≤ 18446744073709551615 := by decide
/-- The runs of awake, in any world that has the code. -/
theorem run_a {W : World} {A : Option Addr} {c b : Nat} (h : CodeAt W W.heap.size A prog0) (he : CompsAt W (some ⟨b, 0, none⟩) ent) :
    Calls Try.prog 10 #[.agg #[.slice A 12 c, .int .i64 1, .int .u32 0, .int .u32 128], .agg #[.int .i64 5, .slice (some ⟨b, 0, none⟩) 2 2], .agg #[.int .u64 0, .int .i64 0, .int .u64 0], .int .i64 40] W (Gives W 5 0 6 entA) :=
  runT ⟨A, 12, c, 1, 0, 128, 5, some ⟨b, 0, none⟩, 2, 2, 0, 0, 0⟩ ent prog0 40 0 6 entA (by decide) (by show (1 : Nat) ≤ 1000; decide) W rfl (by decide) (fun e => by cases e) he (Int.le_refl 0) z64 (Int.le_refl 0) z64 h rfl (by decide) (by decide) fine_ent (runA ..) sound0
theorem run_b {W : World} {A : Option Addr} {c b : Nat} (h : CodeAt W W.heap.size A prog0) (he : CompsAt W (some ⟨b, 0, none⟩) ent) :
    Calls Try.prog 10 #[.agg #[.slice A 12 c, .int .i64 1, .int .u32 0, .int .u32 128], .agg #[.int .i64 5, .slice (some ⟨b, 0, none⟩) 2 2], .agg #[.int .u64 0, .int .i64 0, .int .u64 0], .int .i64 33] W (Gives W 5 145 0 ent) :=
  runT ⟨A, 12, c, 1, 0, 128, 5, some ⟨b, 0, none⟩, 2, 2, 0, 0, 0⟩ ent prog0 33 145 0 ent (by decide) (by show (1 : Nat) ≤ 1000; decide) W rfl (by decide) (fun e => by cases e) he (Int.le_refl 0) z64 (Int.le_refl 0) z64 h rfl (by decide) (by decide) fine_ent (runB ..) sound0
theorem run_g {W : World} {A : Option Addr} {c : Nat} (h : CodeAt W W.heap.size A prog0) :
    Calls Try.prog 10 #[.agg #[.slice A 12 c, .int .i64 1, .int .u32 0, .int .u32 128], .agg #[.int .i64 5, .slice none 0 0], .agg #[.int .u64 0, .int .i64 0, .int .u64 0], .int .i64 40] W (Gives W 5 140 33 []) :=
  runT ⟨A, 12, c, 1, 0, 128, 5, none, 0, 0, 0, 0, 0⟩ [] prog0 40 140 33 [] (by decide) (by show (1 : Nat) ≤ 1000; decide) W rfl (by decide) (fun e => ⟨rfl, rfl⟩) (fun j u hu => by simp [comps] at hu) (Int.le_refl 0) z64 (Int.le_refl 0) z64 h rfl (by decide) (by decide) fine_nil (runG ..) sound0
theorem run_c {W : World} {A : Option Addr} {c b : Nat} (h : CodeAt W W.heap.size A prog1) (he : CompsAt W (some ⟨b, 0, none⟩) ent) :
    Calls Try.prog 10 #[.agg #[.slice A 4 c, .int .i64 0, .int .u32 0, .int .u32 128], .agg #[.int .i64 5, .slice (some ⟨b, 0, none⟩) 2 2], .agg #[.int .u64 0, .int .i64 0, .int .u64 0], .int .i64 40] W (Gives W 5 144 36 ent) :=
  runT ⟨A, 4, c, 0, 0, 128, 5, some ⟨b, 0, none⟩, 2, 2, 0, 0, 0⟩ ent prog1 40 144 36 ent (by decide) (by show (0 : Nat) ≤ 1000; decide) W rfl (by decide) (fun e => by cases e) he (Int.le_refl 0) z64 (Int.le_refl 0) z64 h rfl (by decide) (by decide) fine_ent (runC ..) sound1
theorem run_d {W : World} {A : Option Addr} {c b : Nat} (h : CodeAt W W.heap.size A prog2) (he : CompsAt W (some ⟨b, 0, none⟩) ent) :
    Calls Try.prog 10 #[.agg #[.slice A 8 c, .int .i64 0, .int .u32 4, .int .u32 128], .agg #[.int .i64 5, .slice (some ⟨b, 0, none⟩) 2 2], .agg #[.int .u64 0, .int .i64 0, .int .u64 0], .int .i64 40] W (Gives W 5 0 32 entD) :=
  runT ⟨A, 8, c, 0, 4, 128, 5, some ⟨b, 0, none⟩, 2, 2, 0, 0, 0⟩ ent prog2 40 0 32 entD (by decide) (by show (0 : Nat) ≤ 1000; decide) W rfl (by decide) (fun e => by cases e) he (Int.le_refl 0) z64 (Int.le_refl 0) z64 h rfl (by decide) (by decide) fine_ent (runD ..) sound2
theorem prog_a (W : World) : Calls Try.prog 18 #[.string text0] W fun e w' => ∃ A c, e = .returned (.agg #[.slice A 12 c, .int .i64 1, .int .u32 0, .int .u32 128]) ∧ CodeAt w' w'.heap.size A prog0 ∧ Below W.heap.size W w' := by
  refine (prog0_ok W).mono ?_
  rintro e w' ⟨v, rfl, ho, hb⟩
  obtain ⟨A, c, rfl, hc⟩ := own2_code ho
  exact ⟨A, c, by rw [mask0]; rfl, hc, hb⟩
theorem prog_c (W : World) : Calls Try.prog 18 #[.string text1] W fun e w' => ∃ A c, e = .returned (.agg #[.slice A 4 c, .int .i64 0, .int .u32 0, .int .u32 128]) ∧ CodeAt w' w'.heap.size A prog1 ∧ Below W.heap.size W w' := by
  refine (prog1_ok W).mono ?_
  rintro e w' ⟨v, rfl, ho, hb⟩
  obtain ⟨A, c, rfl, hc⟩ := own2_code ho
  exact ⟨A, c, by rw [mask1]; rfl, hc, hb⟩
theorem prog_d (W : World) : Calls Try.prog 18 #[.string text2] W fun e w' => ∃ A c, e = .returned (.agg #[.slice A 8 c, .int .i64 0, .int .u32 4, .int .u32 128]) ∧ CodeAt w' w'.heap.size A prog2 ∧ Below W.heap.size W w' := by
  refine (prog2_ok W).mono ?_
  rintro e w' ⟨v, rfl, ho, hb⟩
  obtain ⟨A, c, rfl, hc⟩ := own2_code ho
  exact ⟨A, c, by rw [mask2]; rfl, hc, hb⟩
end
end Go.Proofs.Ytocbddajakbemaa
