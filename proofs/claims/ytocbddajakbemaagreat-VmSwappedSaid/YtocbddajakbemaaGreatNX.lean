/- vm: what the walk is told of an entity that comes in. vm: what the walk is told of an environment, of three bounds that come in. -/
import Derived.Test.YtocbddajakbemaaGreatOpen
import Derived.Test.YtocbddajakbemaaGreatNS
import Derived.Deep.Strs
import Derived.Laws.IdiomArrays
set_option linter.unusedVariables false
set_option linter.unusedSimpArgs false
set_option linter.unusedSimpArgs false
namespace Go.Proofs.YtocbddajakbemaaGreat
section
open Go.ChangeShapes Go.WideShapes Go.ChangeAt Go.RowKit Go.Deep Go.Joins
theorem list5 {α : Type} {l : List α} (h : l.length = 5) : ∃ a b c d e, l = [a, b, c, d, e] := by
  match l, h with
  | [a, b, c, d, e], _ => exact ⟨a, b, c, d, e, rfl⟩
def cellV (w : World) (a : Addr) : Int := match w.cell? a with | some v => numV v | none => 0
theorem cellV_eq {w : World} {a : Addr} {k : IntKind} {n : Int} (h : w.cell? a = some (.int k n)) : cellV w a = n := by unfold cellV; rw [h]; rfl
section
variable {H : Type} {enc : TypeId × Value → H} {w : World}
theorem open_comps {a : Option Addr} {len cap : Nat} {d : DataW H} {p : List MemPlace} (h : DataW.Trod enc Tryz.prog w 0 (fun _ => true) true 23 (.slice a len cap) d p) : ∃ cs, XArg w a len cap cs := by
  obtain ⟨fuel, hf⟩ := h
  rcases open_slice Tryz.underlying23 hf with ⟨hcs, _⟩ | ⟨x, l, c, m, n, D, Pl, hcs, _, hl, hm, hmm, _, hi⟩
  · simp [Value.cells] at hcs
    obtain ⟨rfl, rfl, rfl⟩ := hcs
    exact ⟨[], rfl, fun j u hu => by simp [comps] at hu, fun c hc => by simp at hc, fun _ => ⟨rfl, rfl⟩⟩
  · simp [Value.cells] at hcs
    obtain ⟨rfl, rfl, rfl⟩ := hcs
    have hC : Tryz.prog.cellsOf 48 = 5 := by kernel_rfl
    have hI : Tryz.prog.cellsOf 3 = 1 := by kernel_rfl
    have hU : Tryz.prog.cellsOf 5 = 1 := by kernel_rfl
    have hV : Tryz.prog.cellsOf 46 = 4 := by kernel_rfl
    have key : ∀ i, i < len → ∃ (k : Nat) (v0 v1 v2 v3 : Int), k < 256 ∧ w.cell? (x.add (i * 5)) = some (.int .u8 (k : Nat)) ∧ w.cell? (x.add (i * 5 + 1)) = some (.int .i64 v0) ∧ w.cell? (x.add (i * 5 + 2)) = some (.int .i64 v1) ∧ w.cell? (x.add (i * 5 + 3)) = some (.int .i64 v2) ∧ w.cell? (x.add (i * 5 + 4)) = some (.int .i64 v3) := by
      intro i him
      obtain ⟨cs', hc, htr⟩ := hi i (by simp at hmm; omega)
      rw [hC] at hc
      obtain ⟨_, hcl, hat⟩ := World.cells?_some hc
      obtain ⟨c0, c1, c2, c3, c4, rfl⟩ := list5 hcl
      obtain ⟨y0, y1, n', _, _, h0, h1⟩ := trod_struct2 Tryz.underlying48 htr
      have h0' : DataW.trod enc Tryz.prog w 0 (fun _ => true) true n' 5 [c0] = some y0 := by
        have := h0
        simp only [hU] at this
        exact this
      have h1' : DataW.trod enc Tryz.prog w 0 (fun _ => true) true n' 46 [c1, c2, c3, c4] = some y1 := by
        have := h1
        simp only [hV] at this
        exact this
      obtain ⟨k, hk, _, hwk⟩ := DataW.trod_int Tryz.underlying5 h0'
      injection hk with hk
      obtain ⟨xs, m', _, _, _, hxl, hxi⟩ := DataW.trod_array Tryz.underlying46 h1'
      rw [hI] at hxi
      have g0 := hxi 0 (by omega)
      have g1 := hxi 1 (by omega)
      have g2 := hxi 2 (by omega)
      have g3 := hxi 3 (by omega)
      rw [List.getElem?_eq_getElem (by omega)] at g0 g1 g2 g3
      obtain ⟨v0, e0, _, _⟩ := DataW.trod_int Tryz.underlying3 g0
      obtain ⟨v1, e1, _, _⟩ := DataW.trod_int Tryz.underlying3 g1
      obtain ⟨v2, e2, _, _⟩ := DataW.trod_int Tryz.underlying3 g2
      obtain ⟨v3, e3, _, _⟩ := DataW.trod_int Tryz.underlying3 g3
      have bk := bounds_u8 hwk
      have e0 : c1 = .int .i64 v0 := by simpa using e0
      have e1 : c2 = .int .i64 v1 := by simpa using e1
      have e2 : c3 = .int .i64 v2 := by simpa using e2
      have e3 : c4 = .int .i64 v3 := by simpa using e3
      have a0 := hat 0 (by omega)
      have a1 := hat 1 (by omega)
      have a2 := hat 2 (by omega)
      have a3 := hat 3 (by omega)
      have a4 := hat 4 (by omega)
      rw [Go.Deep.add_add] at a0 a1 a2 a3 a4
      refine ⟨k.toNat, v0, v1, v2, v3, by omega, ?_, ?_, ?_, ?_, ?_⟩
      · rw [Int.toNat_of_nonneg bk.1, ← hk]; exact a0
      · rw [← e0]; exact a1
      · rw [← e1]; exact a2
      · rw [← e2]; exact a3
      · rw [← e3]; exact a4
    let f : Nat → Cmp := fun i => ⟨(cellV w (x.add (i * 5))).toNat, cellV w (x.add (i * 5 + 1)), cellV w (x.add (i * 5 + 2)), cellV w (x.add (i * 5 + 3)), cellV w (x.add (i * 5 + 4))⟩
    have hfi : ∀ i, i < len → (f i).kind < 256 ∧ ∀ k u, (f i).cells[k]? = some u → w.cell? (x.add (i * 5 + k)) = some u := by
      intro i him
      obtain ⟨k, v0, v1, v2, v3, hk, c0, c1, c2, c3, c4⟩ := key i him
      have ef : f i = ⟨k, v0, v1, v2, v3⟩ := by
        show Cmp.mk _ _ _ _ _ = _
        rw [cellV_eq c0, cellV_eq c1, cellV_eq c2, cellV_eq c3, cellV_eq c4, Int.toNat_natCast]
      rw [ef]
      refine ⟨hk, fun j u hu => ?_⟩
      match j, hu with
      | 0, hu => obtain rfl := Option.some.inj (show some (Value.int .u8 (k : Int)) = some u from hu); exact c0
      | 1, hu => obtain rfl := Option.some.inj (show some (Value.int .i64 v0) = some u from hu); exact c1
      | 2, hu => obtain rfl := Option.some.inj (show some (Value.int .i64 v1) = some u from hu); exact c2
      | 3, hu => obtain rfl := Option.some.inj (show some (Value.int .i64 v2) = some u from hu); exact c3
      | 4, hu => obtain rfl := Option.some.inj (show some (Value.int .i64 v3) = some u from hu); exact c4
      | j + 5, hu => simp [Cmp.cells] at hu
    refine ⟨(List.range len).map f, by simp, fun j u hu => ⟨x, rfl, ?_⟩, ?_, fun e => by cases e⟩
    · have hj : j < ((List.range len).map f).length * 5 := by
        have := (List.getElem?_eq_some_iff.1 hu).1
        rwa [comps_length] at this
      rw [List.length_map, List.length_range] at hj
      have hd : j = j / 5 * 5 + j % 5 := by omega
      have hm : j % 5 < 5 := Nat.mod_lt _ (by omega)
      have hq : j / 5 < len := by omega
      have hget : ((List.range len).map f)[j / 5]? = some (f (j / 5)) := by simp [hq]
      rw [hd, comps_at hget _ hm] at hu
      rw [hd]
      exact (hfi _ hq).2 _ _ hu
    · intro c hc
      simp only [List.mem_map, List.mem_range] at hc
      obtain ⟨i, hi, rfl⟩ := hc
      exact (hfi i hi).1
set_option maxRecDepth 100000 in
theorem open_ent {r : Reach} {b0 : Nat} {v : Value} {d : DataW H} {p : List MemPlace} (hv : Value.okWide Tryz.prog w r b0 25 v) (h : DataW.Trod enc Tryz.prog w 0 (fun _ => true) true 25 v d p) :
    ∃ ID A n cap cs, v = .agg #[.int .i64 ID, .slice A n cap] ∧ XArg w A n cap cs ∧ (Lit.int .i64 ID).wf = true := by
  obtain ⟨v0, v1, y0, y1, n, rfl, _, _, g0, g1⟩ := open_agg2 Tryz.underlying25 (by kernel_rfl) (by kernel_rfl) hv h
  obtain ⟨ID, e1, _, w1⟩ := DataW.trod_int Tryz.underlying3 g0
  injection e1 with e1
  subst e1
  have hsl : ∃ a l c, v1 = .slice a l c := by
    rcases open_slice Tryz.underlying23 g1 with ⟨hcs, _⟩ | ⟨x, l, c, _, _, _, _, hcs, _⟩
    · injection hcs with hcs; exact ⟨_, _, _, hcs⟩
    · injection hcs with hcs; exact ⟨_, _, _, hcs⟩
  obtain ⟨a, l, c, rfl⟩ := hsl
  obtain ⟨cs, hx⟩ := open_comps (d := y1.1) (p := y1.2) ⟨n, by simpa [Value.cells] using g1⟩
  exact ⟨ID, a, l, c, cs, rfl, hx, w1⟩
theorem open_env3 {c0 c1 c2 : Value} {n : Nat} {y : DataW H × List MemPlace} (h : DataW.trod enc Tryz.prog w 0 (fun _ => true) true n 28 [c0, c1, c2] = some y) :
    ∃ seed tick key, c0 = .int .u64 seed ∧ c1 = .int .i64 tick ∧ c2 = .int .u64 key ∧ (Lit.int .u64 seed).wf = true ∧ (Lit.int .i64 tick).wf = true ∧ (Lit.int .u64 key).wf = true := by
  have h1 : Tryz.prog.cellsOf 26 = 1 := by kernel_rfl
  have h2 : Tryz.prog.cellsOf 3 = 1 := by kernel_rfl
  obtain ⟨y0, y1, y2, m, _, _, g0, g1, g2⟩ := trod_struct3 Tryz.underlying28 h
  simp only [h1, h2] at g0 g1 g2
  obtain ⟨s, e0, _, w0⟩ := DataW.trod_int Tryz.underlying26 g0
  obtain ⟨t, e1, _, w1⟩ := DataW.trod_int Tryz.underlying3 g1
  obtain ⟨k, e2, _, w2⟩ := DataW.trod_int Tryz.underlying26 g2
  exact ⟨s, t, k, by simpa using e0, by simpa using e1, by simpa using e2, w0, w1, w2⟩
set_option maxRecDepth 100000 in
end
end
end Go.Proofs.YtocbddajakbemaaGreat
set_option linter.unusedSimpArgs false
namespace Go.Proofs.YtocbddajakbemaaGreat
section
open Go.ChangeShapes Go.WideShapes Go.ChangeAt Go.RowKit Go.Deep Go.Joins
section
variable {H : Type} {enc : TypeId × Value → H} {w : World}
theorem arr3 {cs : Array Value} (h : cs.size = 3) : ∃ a b c, cs = #[a, b, c] := by
  obtain ⟨l⟩ := cs
  match l, h with
  | [a, b, c], _ => exact ⟨a, b, c, rfl⟩
set_option maxRecDepth 100000 in
theorem open_env {r : Reach} {b0 : Nat} {v : Value} {d : DataW H} {p : List MemPlace} (hv : Value.okWide Tryz.prog w r b0 28 v) (h : DataW.Trod enc Tryz.prog w 0 (fun _ => true) true 28 v d p) :
    ∃ seed tick key, v = .agg #[.int .u64 seed, .int .i64 tick, .int .u64 key] ∧ (Lit.int .u64 seed).wf = true ∧ (Lit.int .i64 tick).wf = true ∧ (Lit.int .u64 key).wf = true := by
  have hC : Tryz.prog.cellsOf 28 = 3 := by kernel_rfl
  obtain ⟨cs, rfl, hsz⟩ := okWide_struct Tryz.underlying28 hv
  obtain ⟨c0, c1, c2, rfl⟩ := arr3 (hsz.trans hC)
  obtain ⟨fuel, hf⟩ := h
  obtain ⟨s, t, k, rfl, rfl, rfl, ws, wt, wk⟩ := open_env3 (c0 := c0) (c1 := c1) (c2 := c2) (by simpa [Value.cells] using hf)
  exact ⟨s, t, k, rfl, ws, wt, wk⟩
end
end
end Go.Proofs.YtocbddajakbemaaGreat
