/- vm: Run in short; the five runs of awake. vm: awake. -/
import Derived.Test.YtocbddajakbemaaGreatMB
import Derived.Test.YtocbddajakbemaaGreatMC
import Derived.Test.YtocbddajakbemaaGreatMF
import Derived.Test.YtocbddajakbemaaGreatMG
import Derived.Test.YtocbddajakbemaaGreatMS
import Derived.Deep.RegionHeld3
set_option linter.unusedVariables false
set_option linter.unusedSimpArgs false
set_option linter.unusedSimpArgs false
namespace Go.Proofs.YtocbddajakbemaaGreat
section
open Go.RowKit
def Gives (w : World) (ID : Int) (err left : Nat) (cs : List Cmp) (e : Ending) (w' : World) : Prop :=
  ∃ A cap, e = .returned (.tuple #[.agg #[.int .i64 ID, .slice A cs.length cap], .int .i64 (left : Nat), .int .i64 (err : Nat)]) ∧ w'.ownsRow w.heap.size 48 5 (.slice A cs.length cap) cs.length (comps cs) ∧ Below w.heap.size w w'
theorem RunGives.gives {w : World} {a : RArg} {cs : List Cmp} {r : Except (Nat × Nat) (Nat × Mst)} {e : Ending} {w' : World} (h : RunGives w a cs r e w') : Gives w a.ID (endN r) (endF r) (endC cs r) e w' := by
  obtain ⟨A, cap, h⟩ := h
  rcases r with ⟨n, f⟩ | ⟨f, σ⟩
  · exact ⟨A, cap, h⟩
  · exact ⟨A, cap, h⟩
theorem runT (a : RArg) (cs : List Cmp) (code : List (Nat × Int)) (f err left : Nat) (cs' : List Cmp) (hf : f ≤ 10000) (hL : a.L ≤ 1000) (w : World) (hn : a.n = cs.length) (hl : cs.length ≤ 1000) (hnil : a.A = none → a.n = 0 ∧ a.cap = 0) (hc : CompsAt w a.A cs)
    (s0 : 0 ≤ a.seed) (s1 : a.seed ≤ 18446744073709551615) (k0 : 0 ≤ a.key) (k1 : a.key ≤ 18446744073709551615)
    (hcode : CodeAt w w.heap.size a.cA code) (hcn : a.cn = code.length) (hcl : code.length ≤ 4000) (hop : ∀ x, x ∈ code → x.1 < 256) (hfine : Fine cs)
    (hr : (runF a.fix code f ⟨0, 0, [], List.replicate a.L 0, cs⟩).map (fun r => (endN r, endF r, endC cs r)) = some (err, left, cs')) (hs : soundF (a.L : Nat) a.R a.Wr code = some true) :
    Calls Tryz.prog 15 #[.agg #[.slice a.cA a.cn a.cc, .int .i64 (a.L : Nat), .int .u32 a.R, .int .u32 a.Wr], .agg #[.int .i64 a.ID, .slice a.A a.n a.cap], .agg #[.int .u64 a.seed, .int .i64 a.tick, .int .u64 a.key], .int .i64 f] w (Gives w a.ID err left cs') := by
  rcases hx : runF a.fix code f ⟨0, 0, [], List.replicate a.L 0, cs⟩ with _ | r
  · rw [hx] at hr; cases hr
  rw [hx] at hr
  simp only [Option.map_some, Option.some.injEq, Prod.mk.injEq] at hr
  obtain ⟨e1, e2, e3⟩ := hr
  subst e1 e2 e3
  refine (Run_ok a cs code r f hf hL w hn (by omega) hnil hc s0 s1 k0 k1 hcode hcn hcl hfine hx ?_).mono fun e w' h => h.gives
  intro w' hb
  exact Sound_ok a.cA a.cn a.cc (a.L : Nat) a.R a.Wr code true w' hcn hcl hop ((hcode.below hb).mono hb.size) hs
def entA : List Cmp := [⟨2, 3, -4, 0, 0⟩, ⟨7, 1, 20, 30, 40⟩]
def entD : List Cmp := [⟨2, 3, -4, 0, 0⟩, ⟨7, 10, -3, 30, 40⟩]
section
variable (cA : Option Addr) (cc : Nat) (L R Wr sd tk ky s : Int)
theorem runA : (runF ⟨cA, 12, cc, L, R, Wr, 5, sd, tk, ky, s⟩ prog0 40 ⟨0, 0, [], [0], ent⟩).map (fun r => (endN r, endF r, endC ent r)) = some (0, 6, entA) := by kernel_rfl
theorem runB : (runF ⟨cA, 12, cc, L, R, Wr, 5, sd, tk, ky, s⟩ prog0 33 ⟨0, 0, [], [0], ent⟩).map (fun r => (endN r, endF r, endC ent r)) = some (145, 0, ent) := by kernel_rfl
theorem runG : (runF ⟨cA, 12, cc, L, R, Wr, 5, sd, tk, ky, s⟩ prog0 40 ⟨0, 0, [], [0], []⟩).map (fun r => (endN r, endF r, endC [] r)) = some (140, 33, []) := by kernel_rfl
theorem runC : (runF ⟨cA, 4, cc, L, R, Wr, 5, sd, tk, ky, s⟩ prog1 40 ⟨0, 0, [], [], ent⟩).map (fun r => (endN r, endF r, endC ent r)) = some (144, 36, ent) := by kernel_rfl
theorem runD : (runF ⟨cA, 8, cc, L, R, Wr, 5, sd, tk, ky, s⟩ prog2 40 ⟨0, 0, [], [], ent⟩).map (fun r => (endN r, endF r, endC ent r)) = some (0, 32, entD) := by kernel_rfl
end
theorem sound0 : soundF 1 0 128 prog0 = some true := by kernel_rfl
theorem sound1 : soundF 0 0 128 prog1 = some true := by kernel_rfl
theorem sound2 : soundF 0 4 128 prog2 = some true := by kernel_rfl
end
end Go.Proofs.YtocbddajakbemaaGreat
namespace Go.Proofs.YtocbddajakbemaaGreat
section
open Go.RowKit
theorem own2_code {w : World} {B : Nat} {v : Value} {l : List In} (h : Own2 w B v l) : ∃ A c, v = .slice A l.length c ∧ CodeAt w w.heap.size A l := by
  rcases h.2 with ⟨e, e2⟩ | ⟨g, cap, cur, e, hB, hh, r⟩
  · refine ⟨none, 0, by rw [e, e2], fun i x hx => ?_⟩
    rw [List.length_eq_zero_iff.1 e2] at hx; cases hx
  · refine ⟨some ⟨g, 0, none⟩, cap, e, fun i x hx => ?_⟩
    subst e
    obtain ⟨c0, c1⟩ := insC_at hx
    have k0 := h.cells (g := g) rfl _ _ c0
    have k1 := h.cells (g := g) rfl _ _ c1
    have ea : ∀ j, Addr.add ⟨g, 0, none⟩ j = ⟨g, j, none⟩ := fun j => by
      unfold Addr.add
      split
      · rename_i h0; rw [h0]
      · simp
    rw [ea] at k0 k1
    exact ⟨g, 0, rfl, lt_of_block hh, by rw [Nat.zero_add]; exact k0, by rw [Nat.zero_add]; exact k1⟩
theorem own_off {w : World} {B e s n m c : Nat} {A : Option Addr} {xs : List Value} (h : w.ownsRow B e s (.slice A m c) n xs) : ∀ ad, A = some ad → ad.off = 0 := by
  intro ad e'
  rcases h.2 with ⟨e, -⟩ | ⟨g, cap, cur, e, -⟩
  · injection e with e; rw [e] at e'; cases e'
  · injection e with e; rw [e] at e'; injection e' with e'; rw [← e']
structure EBox (W : World) (q : Nat) (A : Option Addr) (n c : Nat) (cs : List Cmp) : Prop where
  blk : W.heap[q]? = some (.cells #[.int .i64 5, .slice A n c] 25 (0, 0))
  at_ : CompsAt W A cs
  len : n = cs.length
  off : ∀ ad, A = some ad → ad.off = 0
theorem EBox.below {W W' : World} {q : Nat} {A : Option Addr} {n c : Nat} {cs : List Cmp} (h : EBox W q A n c cs) (hb : Below W.heap.size W W') : EBox W' q A n c cs :=
  ⟨(hb.block q (lt_of_block h.blk)).trans h.blk, h.at_.below hb rfl, h.len, h.off⟩
theorem EBox.new {w0 W : World} {B : Nat} {A : Option Addr} {c : Nat} {cs : List Cmp} (h : W.ownsRow B 48 5 (.slice A cs.length c) cs.length (comps cs)) : EBox (W.alloc (.cells #[.int .i64 5, .slice A cs.length c] 25 (0, 0))) W.heap.size A cs.length c cs := by
  obtain ⟨A', c', e, hc, -⟩ := compsAt_own h
  simp only [Value.slice.injEq, true_and] at e
  obtain ⟨rfl, rfl⟩ := e
  exact ⟨heap_alloc_new W _, hc.alloc _, rfl, own_off h⟩
theorem fine_ent : Fine ent := ⟨by decide, by decide⟩
theorem fine_nil : Fine [] := ⟨by decide, by decide⟩
theorem z64 : (0 : Int) ≤ 18446744073709551615 := by decide
theorem run_a {W : World} {A : Option Addr} {c b : Nat} (h : CodeAt W W.heap.size A prog0) (he : CompsAt W (some ⟨b, 0, none⟩) ent) :
    Calls Tryz.prog 15 #[.agg #[.slice A 12 c, .int .i64 1, .int .u32 0, .int .u32 128], .agg #[.int .i64 5, .slice (some ⟨b, 0, none⟩) 2 2], .agg #[.int .u64 0, .int .i64 0, .int .u64 0], .int .i64 40] W (Gives W 5 0 6 entA) :=
  runT ⟨A, 12, c, 1, 0, 128, 5, some ⟨b, 0, none⟩, 2, 2, 0, 0, 0⟩ ent prog0 40 0 6 entA (by decide) (by show (1 : Nat) ≤ 1000; decide) W rfl (by decide) (fun e => by cases e) he (Int.le_refl 0) z64 (Int.le_refl 0) z64 h rfl (by decide) (by decide) fine_ent (runA ..) sound0
theorem run_b {W : World} {A : Option Addr} {c b : Nat} (h : CodeAt W W.heap.size A prog0) (he : CompsAt W (some ⟨b, 0, none⟩) ent) :
    Calls Tryz.prog 15 #[.agg #[.slice A 12 c, .int .i64 1, .int .u32 0, .int .u32 128], .agg #[.int .i64 5, .slice (some ⟨b, 0, none⟩) 2 2], .agg #[.int .u64 0, .int .i64 0, .int .u64 0], .int .i64 33] W (Gives W 5 145 0 ent) :=
  runT ⟨A, 12, c, 1, 0, 128, 5, some ⟨b, 0, none⟩, 2, 2, 0, 0, 0⟩ ent prog0 33 145 0 ent (by decide) (by show (1 : Nat) ≤ 1000; decide) W rfl (by decide) (fun e => by cases e) he (Int.le_refl 0) z64 (Int.le_refl 0) z64 h rfl (by decide) (by decide) fine_ent (runB ..) sound0
theorem run_g {W : World} {A : Option Addr} {c : Nat} (h : CodeAt W W.heap.size A prog0) :
    Calls Tryz.prog 15 #[.agg #[.slice A 12 c, .int .i64 1, .int .u32 0, .int .u32 128], .agg #[.int .i64 5, .slice none 0 0], .agg #[.int .u64 0, .int .i64 0, .int .u64 0], .int .i64 40] W (Gives W 5 140 33 []) :=
  runT ⟨A, 12, c, 1, 0, 128, 5, none, 0, 0, 0, 0, 0⟩ [] prog0 40 140 33 [] (by decide) (by show (1 : Nat) ≤ 1000; decide) W rfl (by decide) (fun e => ⟨rfl, rfl⟩) (fun j u hu => by simp [comps] at hu) (Int.le_refl 0) z64 (Int.le_refl 0) z64 h rfl (by decide) (by decide) fine_nil (runG ..) sound0
theorem run_c {W : World} {A : Option Addr} {c b : Nat} (h : CodeAt W W.heap.size A prog1) (he : CompsAt W (some ⟨b, 0, none⟩) ent) :
    Calls Tryz.prog 15 #[.agg #[.slice A 4 c, .int .i64 0, .int .u32 0, .int .u32 128], .agg #[.int .i64 5, .slice (some ⟨b, 0, none⟩) 2 2], .agg #[.int .u64 0, .int .i64 0, .int .u64 0], .int .i64 40] W (Gives W 5 144 36 ent) :=
  runT ⟨A, 4, c, 0, 0, 128, 5, some ⟨b, 0, none⟩, 2, 2, 0, 0, 0⟩ ent prog1 40 144 36 ent (by decide) (by show (0 : Nat) ≤ 1000; decide) W rfl (by decide) (fun e => by cases e) he (Int.le_refl 0) z64 (Int.le_refl 0) z64 h rfl (by decide) (by decide) fine_ent (runC ..) sound1
theorem run_d {W : World} {A : Option Addr} {c b : Nat} (h : CodeAt W W.heap.size A prog2) (he : CompsAt W (some ⟨b, 0, none⟩) ent) :
    Calls Tryz.prog 15 #[.agg #[.slice A 8 c, .int .i64 0, .int .u32 4, .int .u32 128], .agg #[.int .i64 5, .slice (some ⟨b, 0, none⟩) 2 2], .agg #[.int .u64 0, .int .i64 0, .int .u64 0], .int .i64 40] W (Gives W 5 0 32 entD) :=
  runT ⟨A, 8, c, 0, 4, 128, 5, some ⟨b, 0, none⟩, 2, 2, 0, 0, 0⟩ ent prog2 40 0 32 entD (by decide) (by show (0 : Nat) ≤ 1000; decide) W rfl (by decide) (fun e => by cases e) he (Int.le_refl 0) z64 (Int.le_refl 0) z64 h rfl (by decide) (by decide) fine_ent (runD ..) sound2
theorem prog_a (W : World) : Calls Tryz.prog 14 #[.string text0] W fun e w' => ∃ A c, e = .returned (.agg #[.slice A 12 c, .int .i64 1, .int .u32 0, .int .u32 128]) ∧ CodeAt w' w'.heap.size A prog0 ∧ Below W.heap.size W w' := by
  refine (prog0_ok W).mono ?_
  rintro e w' ⟨v, rfl, ho, hb⟩
  obtain ⟨A, c, rfl, hc⟩ := own2_code ho
  exact ⟨A, c, by rw [mask0]; rfl, hc, hb⟩
theorem prog_c (W : World) : Calls Tryz.prog 14 #[.string text1] W fun e w' => ∃ A c, e = .returned (.agg #[.slice A 4 c, .int .i64 0, .int .u32 0, .int .u32 128]) ∧ CodeAt w' w'.heap.size A prog1 ∧ Below W.heap.size W w' := by
  refine (prog1_ok W).mono ?_
  rintro e w' ⟨v, rfl, ho, hb⟩
  obtain ⟨A, c, rfl, hc⟩ := own2_code ho
  exact ⟨A, c, by rw [mask1]; rfl, hc, hb⟩
theorem prog_d (W : World) : Calls Tryz.prog 14 #[.string text2] W fun e w' => ∃ A c, e = .returned (.agg #[.slice A 8 c, .int .i64 0, .int .u32 4, .int .u32 128]) ∧ CodeAt w' w'.heap.size A prog2 ∧ Below W.heap.size W w' := by
  refine (prog2_ok W).mono ?_
  rintro e w' ⟨v, rfl, ho, hb⟩
  obtain ⟨A, c, rfl, hc⟩ := own2_code ho
  exact ⟨A, c, by rw [mask2]; rfl, hc, hb⟩
end
end Go.Proofs.YtocbddajakbemaaGreat
