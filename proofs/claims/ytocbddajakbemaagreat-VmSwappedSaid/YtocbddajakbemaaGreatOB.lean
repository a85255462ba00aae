/- vm, Great seat: what comes in: rows of expressions. vm, Great seat: what comes in: rows of statements. -/
import Derived.Test.YtocbddajakbemaaGreatNX
import Derived.Test.YtocbddajakbemaaGreatNY
set_option linter.unusedVariables false
set_option linter.unusedSimpArgs false
set_option linter.unusedSimpArgs false
namespace Go.Proofs.YtocbddajakbemaaGreat
section
open Go.RowKit Go.Deep
theorem list4 {α : Type} {l : List α} (h : l.length = 4) : ∃ a b c d, l = [a, b, c, d] := by
  match l, h with
  | [a, b, c, d], _ => exact ⟨a, b, c, d, rfl⟩
theorem mk_list {α : Type} {P : Nat → α → Prop} : ∀ n : Nat, (∀ i, i < n → ∃ x, P i x) → ∃ l : List α, l.length = n ∧ ∀ i x, l[i]? = some x → P i x
  | 0, _ => ⟨[], rfl, fun i x h => by simp at h⟩
  | n + 1, h => by
    obtain ⟨l, hl, hp⟩ := mk_list n (fun i hi => h i (by omega))
    obtain ⟨x, hx⟩ := h n (by omega)
    refine ⟨l ++ [x], by simp [hl], fun i y hy => ?_⟩
    by_cases hi : i < n
    · rw [List.getElem?_append_left (by omega)] at hy; exact hp i y hy
    · rw [List.getElem?_append_right (by omega)] at hy
      have : i = n := by
        have := (List.getElem?_eq_some_iff.1 hy).1
        simp at this; omega
      subst this
      simp [hl] at hy
      rw [← hy]; exact hx
theorem spot_none {w : World} {a : Addr} {v : Value} (h : w.cell? a = some v) : a = ⟨a.block, a.off, none⟩ := by
  obtain ⟨b, o, s⟩ := a
  cases s with
  | none => rfl
  | some k =>
    exfalso
    unfold World.cell? at h
    simp at h
    split at h <;> simp at h
section
variable {H : Type} {enc : TypeId × Value → H} {w : World}
theorem open_exprs : ∀ (fuel : Nat) (a : Option Addr) (len cap : Nat) (y : DataW H × List MemPlace), DataW.trod enc Tryz.prog w 0 (fun _ => true) true fuel 32 [.slice a len cap] = some y →
    ∃ l : List E0, l.length = len ∧ len ≤ 9223372036854775807 ∧ (a = none → len = 0 ∧ cap = 0) ∧ ∀ d, EsZ w d a l := by
  intro fuel
  induction fuel using Nat.strongRecOn with
  | ind fuel ih =>
  intro a len cap y h
  rcases DataW.trod_slice Tryz.underlying32 h with ⟨hcs, _⟩ | ⟨x, l, c, elems, rest, n, hn, hcs, _, _, hl, hm, hel, hi, _, _⟩
  · simp at hcs
    obtain ⟨rfl, rfl, rfl⟩ := hcs
    exact ⟨[], rfl, by omega, fun _ => ⟨rfl, rfl⟩, fun d => by cases d with
      | zero => trivial
      | succ d => intro j x hj; simp at hj⟩
  · simp at hcs
    obtain ⟨rfl, rfl, rfl⟩ := hcs
    have hC : Tryz.prog.cellsOf 34 = 4 := by kernel_rfl
    have hI : Tryz.prog.cellsOf 3 = 1 := by kernel_rfl
    have hU : Tryz.prog.cellsOf 5 = 1 := by kernel_rfl
    have hS : Tryz.prog.cellsOf 9 = 1 := by kernel_rfl
    have hL : Tryz.prog.cellsOf 32 = 1 := by kernel_rfl
    have key : ∀ i, i < len → ∃ (z : E0) (A' : Option Addr) (c' : Nat), (∃ v, w.cell? (x.add (i * 4)) = some v) ∧
        (w.cell? (x.add (i * 4)) = some (.int .u8 (z.op : Nat)) ∧ w.cell? (x.add (i * 4 + 1)) = some (.int .i64 z.n) ∧ w.cell? (x.add (i * 4 + 2)) = some (.string z.nm) ∧ w.cell? (x.add (i * 4 + 3)) = some (.slice A' z.args.length c')) ∧ (A' = none → z.args.length = 0 ∧ c' = 0) ∧ EZ z ∧ ∀ d, EsZ w d A' z.args := by
      intro i him
      have e := hi i him
      rw [List.getElem?_eq_getElem (by omega), Option.bind_eq_some_iff] at e
      obtain ⟨cs', hc, htr⟩ := e
      rw [hC] at hc
      obtain ⟨_, hcl, hat⟩ := World.cells?_some hc
      obtain ⟨c0, c1, c2, c3, rfl⟩ := list4 hcl
      obtain ⟨xs, n', hn', _, _, hxl, hf⟩ := DataW.trod_struct Tryz.underlying34 htr
      have hxl : xs.length = 4 := hxl
      have g0 : DataW.trod enc Tryz.prog w 0 (fun _ => true) true n' 5 (List.take (Tryz.prog.cellsOf 5) (List.drop 0 [c0, c1, c2, c3])) = xs[0]? := hf 0 _ rfl
      have g1 : DataW.trod enc Tryz.prog w 0 (fun _ => true) true n' 3 (List.take (Tryz.prog.cellsOf 3) (List.drop 1 [c0, c1, c2, c3])) = xs[1]? := hf 1 _ rfl
      have g2 : DataW.trod enc Tryz.prog w 0 (fun _ => true) true n' 9 (List.take (Tryz.prog.cellsOf 9) (List.drop 2 [c0, c1, c2, c3])) = xs[2]? := hf 2 _ rfl
      have g3 : DataW.trod enc Tryz.prog w 0 (fun _ => true) true n' 32 (List.take (Tryz.prog.cellsOf 32) (List.drop 3 [c0, c1, c2, c3])) = xs[3]? := hf 3 _ rfl
      rw [List.getElem?_eq_getElem (by omega)] at g0 g1 g2 g3
      rw [hU] at g0
      rw [hI] at g1
      rw [hS] at g2
      rw [hL] at g3
      obtain ⟨k, hk, _, hwk⟩ := DataW.trod_int Tryz.underlying5 g0
      obtain ⟨v, hv, _, hwv⟩ := DataW.trod_int Tryz.underlying3 g1
      obtain ⟨s, hs, _, hws⟩ := DataW.trod_string Tryz.underlying9 g2
      have ek : c0 = Value.int .u8 k := (List.cons.inj hk).1
      have ev' : c1 = Value.int .i64 v := (List.cons.inj hv).1
      have es' : c2 = Value.string s := (List.cons.inj hs).1
      have bk := bounds_u8 hwk
      have bv := bounds_i64 hwv
      have g3' : DataW.trod enc Tryz.prog w 0 (fun _ => true) true n' 32 [c3] = some xs[3] := g3
      obtain ⟨A', len', cap', hc3⟩ : ∃ A' len' cap', c3 = .slice A' len' cap' := by
        rcases DataW.trod_slice Tryz.underlying32 g3' with ⟨q, _⟩ | ⟨x', l', c', _, _, _, _, q, _⟩
        · exact ⟨none, 0, 0, by simpa using q⟩
        · exact ⟨some x', l', c', by simpa using q⟩
      subst hc3
      obtain ⟨la, hla, hlm, hnil, hall⟩ := ih n' (by omega) A' len' cap' _ g3'
      have a0 := hat 0 (by omega)
      have a1 := hat 1 (by omega)
      have a2 := hat 2 (by omega)
      have a3 := hat 3 (by omega)
      rw [Go.Deep.add_add] at a0 a1 a2 a3
      refine ⟨.mk k.toNat v s la, A', cap', ⟨_, a0⟩, ⟨?_, ?_, ?_, ?_⟩, ?_, ⟨?_, ?_, ?_, ?_, ?_⟩, hall⟩
      · show w.cell? _ = some (.int .u8 ((k.toNat : Nat) : Int))
        rw [Int.toNat_of_nonneg bk.1, ← ek]; exact a0
      · rw [show (E0.mk k.toNat v s la).n = v from rfl, ← ev']; exact a1
      · rw [show (E0.mk k.toNat v s la).nm = s from rfl, ← es']; exact a2
      · rw [show (E0.mk k.toNat v s la).args = la from rfl, hla]; exact a3
      · rw [show (E0.mk k.toNat v s la).args = la from rfl, hla]; exact hnil
      · show k.toNat < 256; omega
      · exact bv.1
      · exact bv.2
      · show la.length ≤ _; omega
      · exact hws
    obtain ⟨L, hL1, hL2⟩ := mk_list len key
    refine ⟨L, hL1, by unfold maxLen at hm; omega, (fun e => by cases e), fun d => ?_⟩
    cases d with
    | zero => trivial
    | succ d =>
      intro j z hz
      have hj : 0 < len := by have := (List.getElem?_eq_some_iff.1 hz).1; omega
      obtain ⟨z0, _, _, ⟨v0, e0⟩, -⟩ := key 0 hj
      have ex : x = ⟨x.block, x.off, none⟩ := spot_none (by simpa [Addr.add] using e0)
      obtain ⟨A', c', -, ⟨q0, q1, q2, q3⟩, q4, q5, q6⟩ := hL2 j z hz
      have ead : ∀ k, x.add k = ⟨x.block, x.off + k, none⟩ := by
        intro k
        unfold Addr.add
        by_cases hk : k = 0
        · subst hk; rw [if_pos rfl]; exact ex
        · rw [if_neg hk]
      rw [ead] at q0 q1 q2 q3
      exact ⟨x.block, x.off, A', c', congrArg some ex, ⟨q0, by rw [Nat.add_assoc]; exact q1, by rw [Nat.add_assoc]; exact q2, by rw [Nat.add_assoc]; exact q3, q4, q5⟩, q6 d⟩
end
end
end Go.Proofs.YtocbddajakbemaaGreat
set_option linter.unusedSimpArgs false
namespace Go.Proofs.YtocbddajakbemaaGreat
section
open Go.RowKit Go.Deep
theorem list6 {α : Type} {l : List α} (h : l.length = 6) : ∃ a b c d e f, l = [a, b, c, d, e, f] := by
  match l, h with
  | [a, b, c, d, e, f], _ => exact ⟨a, b, c, d, e, f, rfl⟩
section
variable {H : Type} {enc : TypeId × Value → H} {w : World}
theorem slice_shape {t e : TypeId} {n : Nat} {c : Value} {y : DataW H × List MemPlace} (ht : Tryz.prog.underlying t = some (.slice e)) (h : DataW.trod enc Tryz.prog w 0 (fun _ => true) true n t [c] = some y) : ∃ A len cap, c = .slice A len cap := by
  rcases DataW.trod_slice ht h with ⟨q, _⟩ | ⟨x', l', c', _, _, _, _, q, _⟩
  · exact ⟨none, 0, 0, by simpa using q⟩
  · exact ⟨some x', l', c', by simpa using q⟩
theorem open_stmts : ∀ (fuel : Nat) (a : Option Addr) (len cap : Nat) (y : DataW H × List MemPlace), DataW.trod enc Tryz.prog w 0 (fun _ => true) true fuel 22 [.slice a len cap] = some y →
    ∃ l : List S0, l.length = len ∧ len ≤ 9223372036854775807 ∧ (a = none → len = 0 ∧ cap = 0) ∧ ∀ d, SsZ w d a l := by
  intro fuel
  induction fuel using Nat.strongRecOn with
  | ind fuel ih =>
  intro a len cap y h
  rcases DataW.trod_slice Tryz.underlying22 h with ⟨hcs, _⟩ | ⟨x, l, c, elems, rest, n, hn, hcs, _, _, hl, hm, hel, hi, _, _⟩
  · simp at hcs
    obtain ⟨rfl, rfl, rfl⟩ := hcs
    exact ⟨[], rfl, by omega, fun _ => ⟨rfl, rfl⟩, fun d => by cases d with
      | zero => trivial
      | succ d => intro j x hj; simp at hj⟩
  · simp at hcs
    obtain ⟨rfl, rfl, rfl⟩ := hcs
    have hC : Tryz.prog.cellsOf 39 = 6 := by kernel_rfl
    have hI : Tryz.prog.cellsOf 3 = 1 := by kernel_rfl
    have hU : Tryz.prog.cellsOf 5 = 1 := by kernel_rfl
    have hS : Tryz.prog.cellsOf 9 = 1 := by kernel_rfl
    have hL : Tryz.prog.cellsOf 32 = 1 := by kernel_rfl
    have hB : Tryz.prog.cellsOf 22 = 1 := by kernel_rfl
    have key : ∀ i, i < len → ∃ (z : S0) (EA : Option Addr) (ec : Nat) (BA : Option Addr) (bc : Nat) (LA : Option Addr) (lc : Nat), (∃ v, w.cell? (x.add (i * 6)) = some v) ∧
        (w.cell? (x.add (i * 6)) = some (.int .u8 (z.op : Nat)) ∧ w.cell? (x.add (i * 6 + 1)) = some (.int .i64 z.n) ∧ w.cell? (x.add (i * 6 + 2)) = some (.string z.nm) ∧ w.cell? (x.add (i * 6 + 3)) = some (.slice EA z.e.length ec) ∧
          w.cell? (x.add (i * 6 + 4)) = some (.slice BA z.b.length bc) ∧ w.cell? (x.add (i * 6 + 5)) = some (.slice LA z.els.length lc)) ∧
        (z.op < 256 ∧ -9223372036854775808 ≤ z.n ∧ z.n ≤ 9223372036854775807 ∧ z.e.length ≤ 9223372036854775807 ∧ z.b.length ≤ 9223372036854775807 ∧ z.els.length ≤ 9223372036854775807 ∧ z.nm.size ≤ 9223372036854775807) ∧
        (∀ d, EsZ w d EA z.e) ∧ (∀ d, SsZ w d BA z.b) ∧ ∀ d, SsZ w d LA z.els := by
      intro i him
      have e := hi i him
      rw [List.getElem?_eq_getElem (by omega), Option.bind_eq_some_iff] at e
      obtain ⟨cs', hc, htr⟩ := e
      rw [hC] at hc
      obtain ⟨_, hcl, hat⟩ := World.cells?_some hc
      obtain ⟨c0, c1, c2, c3, c4, c5, rfl⟩ := list6 hcl
      obtain ⟨xs, n', hn', _, _, hxl, hf⟩ := DataW.trod_struct Tryz.underlying39 htr
      have hxl : xs.length = 6 := hxl
      have g0 : DataW.trod enc Tryz.prog w 0 (fun _ => true) true n' 5 (List.take (Tryz.prog.cellsOf 5) (List.drop 0 [c0, c1, c2, c3, c4, c5])) = xs[0]? := hf 0 _ rfl
      have g1 : DataW.trod enc Tryz.prog w 0 (fun _ => true) true n' 3 (List.take (Tryz.prog.cellsOf 3) (List.drop 1 [c0, c1, c2, c3, c4, c5])) = xs[1]? := hf 1 _ rfl
      have g2 : DataW.trod enc Tryz.prog w 0 (fun _ => true) true n' 9 (List.take (Tryz.prog.cellsOf 9) (List.drop 2 [c0, c1, c2, c3, c4, c5])) = xs[2]? := hf 2 _ rfl
      have g3 : DataW.trod enc Tryz.prog w 0 (fun _ => true) true n' 32 (List.take (Tryz.prog.cellsOf 32) (List.drop 3 [c0, c1, c2, c3, c4, c5])) = xs[3]? := hf 3 _ rfl
      have g4 : DataW.trod enc Tryz.prog w 0 (fun _ => true) true n' 22 (List.take (Tryz.prog.cellsOf 22) (List.drop 4 [c0, c1, c2, c3, c4, c5])) = xs[4]? := hf 4 _ rfl
      have g5 : DataW.trod enc Tryz.prog w 0 (fun _ => true) true n' 22 (List.take (Tryz.prog.cellsOf 22) (List.drop 5 [c0, c1, c2, c3, c4, c5])) = xs[5]? := hf 5 _ rfl
      rw [List.getElem?_eq_getElem (by omega)] at g0 g1 g2 g3 g4 g5
      rw [hU] at g0
      rw [hI] at g1
      rw [hS] at g2
      rw [hL] at g3
      rw [hB] at g4 g5
      obtain ⟨k, hk, _, hwk⟩ := DataW.trod_int Tryz.underlying5 g0
      obtain ⟨v, hv, _, hwv⟩ := DataW.trod_int Tryz.underlying3 g1
      obtain ⟨s, hs, _, hws⟩ := DataW.trod_string Tryz.underlying9 g2
      have ek : c0 = Value.int .u8 k := (List.cons.inj hk).1
      have ev' : c1 = Value.int .i64 v := (List.cons.inj hv).1
      have es' : c2 = Value.string s := (List.cons.inj hs).1
      have bk := bounds_u8 hwk
      have bv := bounds_i64 hwv
      have g3' : DataW.trod enc Tryz.prog w 0 (fun _ => true) true n' 32 [c3] = some xs[3] := g3
      have g4' : DataW.trod enc Tryz.prog w 0 (fun _ => true) true n' 22 [c4] = some xs[4] := g4
      have g5' : DataW.trod enc Tryz.prog w 0 (fun _ => true) true n' 22 [c5] = some xs[5] := g5
      obtain ⟨A3, l3, p3, rfl⟩ := slice_shape Tryz.underlying32 g3'
      obtain ⟨A4, l4, p4, rfl⟩ := slice_shape Tryz.underlying22 g4'
      obtain ⟨A5, l5, p5, rfl⟩ := slice_shape Tryz.underlying22 g5'
      obtain ⟨L3, h31, h32, -, h33⟩ := open_exprs _ A3 l3 p3 _ g3'
      obtain ⟨L4, h41, h42, -, h43⟩ := ih n' (by omega) A4 l4 p4 _ g4'
      obtain ⟨L5, h51, h52, -, h53⟩ := ih n' (by omega) A5 l5 p5 _ g5'
      have a0 := hat 0 (by omega)
      have a1 := hat 1 (by omega)
      have a2 := hat 2 (by omega)
      have a3 := hat 3 (by omega)
      have a4 := hat 4 (by omega)
      have a5 := hat 5 (by omega)
      rw [Go.Deep.add_add] at a0 a1 a2 a3 a4 a5
      obtain ⟨z, ez⟩ : ∃ z, z = S0.mk k.toNat v s L3 L4 L5 := ⟨_, rfl⟩
      have z0 : z.op = k.toNat := by rw [ez]; rfl
      have z1 : z.n = v := by rw [ez]; rfl
      have z2 : z.nm = s := by rw [ez]; rfl
      have z3 : z.e = L3 := by rw [ez]; rfl
      have z4 : z.b = L4 := by rw [ez]; rfl
      have z5 : z.els = L5 := by rw [ez]; rfl
      refine ⟨z, A3, p3, A4, p4, A5, p5, ⟨_, a0⟩, ⟨?_, ?_, ?_, ?_, ?_, ?_⟩, ⟨?_, ?_, ?_, ?_, ?_, ?_, ?_⟩, ?_, ?_, ?_⟩
      · rw [z0, Int.toNat_of_nonneg bk.1, ← ek]; exact a0
      · rw [z1, ← ev']; exact a1
      · rw [z2, ← es']; exact a2
      · rw [z3, h31]; exact a3
      · rw [z4, h41]; exact a4
      · rw [z5, h51]; exact a5
      · rw [z0]; omega
      · rw [z1]; exact bv.1
      · rw [z1]; exact bv.2
      · rw [z3]; omega
      · rw [z4]; omega
      · rw [z5]; omega
      · rw [z2]; exact hws
      · rw [z3]; exact h33
      · rw [z4]; exact h43
      · rw [z5]; exact h53
    obtain ⟨L, hL1, hL2⟩ := mk_list len key
    refine ⟨L, hL1, by unfold maxLen at hm; omega, (fun e => by cases e), fun d => ?_⟩
    cases d with
    | zero => trivial
    | succ d =>
      intro j z hz
      have hj : 0 < len := by have := (List.getElem?_eq_some_iff.1 hz).1; omega
      obtain ⟨z0, _, _, _, _, _, _, ⟨v0, e0⟩, -⟩ := key 0 hj
      have ex : x = ⟨x.block, x.off, none⟩ := spot_none (by simpa [Addr.add] using e0)
      obtain ⟨EA, ec, BA, bc, LA, lc, -, ⟨q0, q1, q2, q3, q4, q5⟩, q6, q7, q8, q9⟩ := hL2 j z hz
      have ead : ∀ k, x.add k = ⟨x.block, x.off + k, none⟩ := by
        intro k
        unfold Addr.add
        by_cases hk : k = 0
        · subst hk; rw [if_pos rfl]; exact ex
        · rw [if_neg hk]
      rw [ead] at q0 q1 q2 q3 q4 q5
      exact ⟨x.block, x.off, EA, ec, BA, bc, LA, lc, congrArg some ex, ⟨q0, by rw [Nat.add_assoc]; exact q1, by rw [Nat.add_assoc]; exact q2, by rw [Nat.add_assoc]; exact q3, by rw [Nat.add_assoc]; exact q4, by rw [Nat.add_assoc]; exact q5, q6⟩, q7, q8 d, q9 d⟩
theorem open_prog0 {a : Option Addr} {len cap : Nat} {d : DataW H} {p : List MemPlace} (h : DataW.Trod enc Tryz.prog w 0 (fun _ => true) true 22 (.slice a len cap) d p) : ∃ l : List S0, l.length = len ∧ len ≤ 9223372036854775807 ∧ (a = none → len = 0 ∧ cap = 0) ∧ ∀ d, SsZ w d a l := by
  obtain ⟨fuel, hf⟩ := h
  exact open_stmts fuel a len cap _ hf
set_option maxRecDepth 100000 in
theorem open_prg {r : Reach} {b0 : Nat} {v : Value} {d : DataW H} {p : List MemPlace} (hv : Value.okWide Tryz.prog w r b0 22 v) (h : DataW.Trod enc Tryz.prog w 0 (fun _ => true) true 22 v d p) :
    ∃ A len cap l, v = .slice A len cap ∧ len = l.length ∧ len ≤ 9223372036854775807 ∧ ∀ d, SsZ w d A l := by
  obtain ⟨A, len, cap, rfl⟩ := Go.WideShapes.okWide_slice Tryz.underlying22 hv
  obtain ⟨l, h1, h2, -, h3⟩ := open_prog0 h
  exact ⟨A, len, cap, l, rfl, h1.symm, h2, h3⟩
end
end
end Go.Proofs.YtocbddajakbemaaGreat
