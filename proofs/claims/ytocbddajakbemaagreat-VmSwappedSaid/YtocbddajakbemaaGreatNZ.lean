/- vm, Great seat: trees in blocks of a kind; rows of trees with where their parts lie. vm, Great seat: the contracts of marcheskit.CopyExpr and marcheskit.CopyExprs. vm, Great seat: the contracts of marcheskit.CopyStmt and marcheskit.CopyStmts. vm, Great seat: the copied row, one of its statements stored anew. -/
import Derived.Test.YtocbddajakbemaaGreatNY
import Derived.Test.YtocbddajakbemaaGreatNA
import Derived.Test.YtocbddajakbemaaGreatNT
set_option linter.unusedVariables false
set_option linter.unusedSimpArgs false
set_option linter.unusedSimpArgs false
namespace Go.Proofs.YtocbddajakbemaaGreat
section
open Go.RowKit
theorem cell_step {w w' : World} {b : Nat} (hb : w'.heap[b]? = w.heap[b]?) (i : Nat) : w'.cell? ⟨b, i, none⟩ = w.cell? ⟨b, i, none⟩ := by unfold World.cell?; rw [hb]
theorem ECells.step {w w' : World} {b o : Nat} {x : E0} {A : Option Addr} {c : Nat} (h : ECells w b o x A c) (hb : w'.heap[b]? = w.heap[b]?) : ECells w' b o x A c :=
  ⟨(cell_step hb _).trans h.c0, (cell_step hb _).trans h.c1, (cell_step hb _).trans h.c2, (cell_step hb _).trans h.c3, h.nil, h.lim⟩
theorem SCells.step {w w' : World} {b o : Nat} {s : S0} {EA BA LA : Option Addr} {ec bc lc : Nat} (h : SCells w b o s EA ec BA bc LA lc) (hb : w'.heap[b]? = w.heap[b]?) : SCells w' b o s EA ec BA bc LA lc :=
  ⟨(cell_step hb _).trans h.c0, (cell_step hb _).trans h.c1, (cell_step hb _).trans h.c2, (cell_step hb _).trans h.c3, (cell_step hb _).trans h.c4, (cell_step hb _).trans h.c5, h.lim⟩
def EsIn (ok : Nat → Prop) (w : World) : Nat → Option Addr → List E0 → Prop
  | 0, _, _ => True
  | d + 1, A, l => ∀ (j : Nat) (x : E0), l[j]? = some x → ∃ b o A' c, A = some ⟨b, o, none⟩ ∧ ok b ∧ ECells w b (o + j * 4) x A' c ∧ EsIn ok w d A' x.args ∧ x.args.length ≤ c
theorem EsIn.step {w w' : World} {ok ok' : Nat → Prop} (hs : ∀ q, ok q → w'.heap[q]? = w.heap[q]?) (ho : ∀ q, ok q → ok' q) : ∀ {d : Nat} {A : Option Addr} {l : List E0}, EsIn ok w d A l → EsIn ok' w' d A l := by
  intro d
  induction d with
  | zero => intro A l _; trivial
  | succ d ih =>
    intro A l h j x hj
    obtain ⟨b, o, A', c, e, h1, hc, hd, hk⟩ := h j x hj
    exact ⟨b, o, A', c, e, ho b h1, hc.step (hs b h1), ih hd, hk⟩
theorem EsIn.at_ {w : World} {ok : Nat → Prop} : ∀ {d : Nat} {A : Option Addr} {l : List E0}, EsIn ok w d A l → EsAt w d A l := by
  intro d
  induction d with
  | zero => intro A l _; trivial
  | succ d ih =>
    intro A l h j x hj
    obtain ⟨b, o, A', c, e, h1, hc, hd, hk⟩ := h j x hj
    exact ⟨b, o, A', c, e, hc, ih hd⟩
def SsIn (ok : Nat → Prop) (w : World) : Nat → Option Addr → List S0 → Prop
  | 0, _, _ => True
  | d + 1, A, l => ∀ (j : Nat) (s : S0), l[j]? = some s → ∃ b o EA ec BA bc LA lc, A = some ⟨b, o, none⟩ ∧ ok b ∧ SCells w b (o + j * 6) s EA ec BA bc LA lc ∧ (∀ k, EsIn ok w k EA s.e) ∧ SsIn ok w d BA s.b ∧ SsIn ok w d LA s.els
theorem SsIn.step {w w' : World} {ok ok' : Nat → Prop} (hs : ∀ q, ok q → w'.heap[q]? = w.heap[q]?) (ho : ∀ q, ok q → ok' q) : ∀ {d : Nat} {A : Option Addr} {l : List S0}, SsIn ok w d A l → SsIn ok' w' d A l := by
  intro d
  induction d with
  | zero => intro A l _; trivial
  | succ d ih =>
    intro A l h j x hj
    obtain ⟨b, o, EA, ec, BA, bc, LA, lc, e, h1, hc, he, hd, hd2⟩ := h j x hj
    exact ⟨b, o, EA, ec, BA, bc, LA, lc, e, ho b h1, hc.step (hs b h1), fun k => (he k).step hs ho, ih hd, ih hd2⟩
theorem SsIn.at_ {w : World} {ok : Nat → Prop} : ∀ {d : Nat} {A : Option Addr} {l : List S0}, SsIn ok w d A l → SsAt w d A l := by
  intro d
  induction d with
  | zero => intro A l _; trivial
  | succ d ih =>
    intro A l h j x hj
    obtain ⟨b, o, EA, ec, BA, bc, LA, lc, e, h1, hc, he, hd, hd2⟩ := h j x hj
    exact ⟨b, o, EA, ec, BA, bc, LA, lc, e, hc, fun k => (he k).at_, ih hd, ih hd2⟩
theorem EsIn.nil {w : World} {ok : Nat → Prop} (d : Nat) (A : Option Addr) : EsIn ok w d A [] := by
  cases d with
  | zero => trivial
  | succ d => intro j x hj; simp at hj
theorem SsIn.nil {w : World} {ok : Nat → Prop} (d : Nat) (A : Option Addr) : SsIn ok w d A [] := by
  cases d with
  | zero => trivial
  | succ d => intro j x hj; simp at hj
theorem EsAt.at1 {w : World} {A : Option Addr} {l : List E0} (h : ∀ d, EsAt w d A l) {j : Nat} {x : E0} (hj : l[j]? = some x) : ∃ b o A' c, A = some ⟨b, o, none⟩ ∧ ECells w b (o + j * 4) x A' c ∧ ∀ d, EsAt w d A' x.args := by
  obtain ⟨b, o, A', c, eA, hc, -⟩ := h 1 j x hj
  refine ⟨b, o, A', c, eA, hc, fun d => ?_⟩
  obtain ⟨b2, o2, A2, c2, eA2, hc2, hd2⟩ := h (d + 1) j x hj
  rw [eA] at eA2
  simp only [Option.some.injEq, Addr.mk.injEq] at eA2
  obtain ⟨rfl, rfl, -⟩ := eA2
  have e3 := hc.c3.symm.trans hc2.c3
  simp only [Option.some.injEq, Value.slice.injEq] at e3
  rw [e3.1]; exact hd2
theorem SsAt.at1 {w : World} {A : Option Addr} {l : List S0} (h : ∀ d, SsAt w d A l) {j : Nat} {x : S0} (hj : l[j]? = some x) : ∃ b o EA ec BA bc LA lc, A = some ⟨b, o, none⟩ ∧ SCells w b (o + j * 6) x EA ec BA bc LA lc ∧ (∀ d, EsAt w d EA x.e) ∧ (∀ d, SsAt w d BA x.b) ∧ ∀ d, SsAt w d LA x.els := by
  obtain ⟨b, o, EA, ec, BA, bc, LA, lc, eA, hc, he, -⟩ := h 1 j x hj
  have hd : ∀ d, SsAt w d BA x.b ∧ SsAt w d LA x.els := by
    intro d
    obtain ⟨b2, o2, EA2, ec2, BA2, bc2, LA2, lc2, eA2, hc2, -, hd2, hd3⟩ := h (d + 1) j x hj
    rw [eA] at eA2
    simp only [Option.some.injEq, Addr.mk.injEq] at eA2
    obtain ⟨rfl, rfl, -⟩ := eA2
    have e4 := hc.c4.symm.trans hc2.c4
    have e5 := hc.c5.symm.trans hc2.c5
    simp only [Option.some.injEq, Value.slice.injEq] at e4 e5
    rw [e4.1, e5.1]; exact ⟨hd2, hd3⟩
  exact ⟨b, o, EA, ec, BA, bc, LA, lc, eA, hc, he, fun d => (hd d).1, fun d => (hd d).2⟩
theorem flat_at {α : Type} (f : α → List Value) (k : Nat) (hf : ∀ a, (f a).length = k) : ∀ (l : List α) (j : Nat) (a : α) (i : Nat), l[j]? = some a → i < k → (l.flatMap f)[j * k + i]? = (f a)[i]? := by
  intro l
  induction l with
  | nil => intro j a i h; simp at h
  | cons c l ih =>
    intro j a i h hi
    have hc := hf c
    rw [List.flatMap_cons]
    rcases j with _ | j
    · simp at h
      subst h
      rw [Nat.zero_mul, Nat.zero_add, List.getElem?_append_left (by omega)]
    · rw [List.getElem?_append_right (by rw [hc, Nat.succ_mul]; omega), hc, show (j + 1) * k + i - k = j * k + i by rw [Nat.succ_mul]; omega]
      exact ih j a i (by simpa using h) hi
theorem flat_len {α : Type} (f : α → List Value) (k : Nat) (hf : ∀ a, (f a).length = k) (l : List α) : (l.flatMap f).length = l.length * k := by
  induction l with
  | nil => simp
  | cons c l ih => rw [List.flatMap_cons, List.length_append, hf, ih, List.length_cons, Nat.succ_mul]; omega
structure ER0 where
  x : E0
  A : Option Addr
  c : Nat
def ER0.cells (r : ER0) : List Value := [.int .u8 (r.x.op : Nat), .int .i64 r.x.n, .string r.x.nm, .slice r.A r.x.args.length r.c]
def ers0 (l : List ER0) : List Value := l.flatMap ER0.cells
theorem er0_len (r : ER0) : r.cells.length = 4 := rfl
theorem ers0_snoc (l : List ER0) (t : ER0) : ers0 (l ++ [t]) = ers0 l ++ t.cells := by simp [ers0]
theorem er0_one (t : ER0) : ∀ u ∈ t.cells, u.oneCell' = true := by
  intro u hu
  simp only [ER0.cells, List.mem_cons, List.not_mem_nil, or_false] at hu
  rcases hu with rfl | rfl | rfl | rfl <;> rfl
def RowE0 (w : World) (ok : Nat → Prop) (l : List ER0) : Prop := ∀ r, r ∈ l → (∀ d, EsIn ok w d r.A r.x.args) ∧ ((r.A = none → r.x.args.length = 0 ∧ r.c = 0) ∧ r.x.args.length ≤ r.c) ∧ ELim r.x
theorem RowE0.step {w w' : World} {ok ok' : Nat → Prop} {l : List ER0} (h : RowE0 w ok l) (hs : ∀ q, ok q → w'.heap[q]? = w.heap[q]?) (ho : ∀ q, ok q → ok' q) : RowE0 w' ok' l :=
  fun r hr => ⟨fun d => ((h r hr).1 d).step hs ho, (h r hr).2.1, (h r hr).2.2⟩
theorem own_cap {w : World} {B T k n m c : Nat} {A : Option Addr} {xs : List Value} (h : w.ownsRow B T k (.slice A m c) n xs) : n ≤ c := by
  rcases h.2 with ⟨e, hn⟩ | ⟨g, cap, cur, e, -, -, hc, -⟩
  · omega
  · rw [Value.slice.injEq] at e
    obtain ⟨-, -, rfl⟩ := e
    exact hc
theorem row_es0 {w : World} {B : Nat} {v : Value} {l : List ER0} {ok : Nat → Prop} (h : w.ownsRow B 34 4 v l.length (ers0 l)) (hr : RowE0 w ok l) (ho : ∀ q, B ≤ q → q < w.heap.size → ok q) :
    ∃ A c, v = .slice A l.length c ∧ (∀ d, EsIn ok w d A (l.map ER0.x)) ∧ (A = none → l.length = 0 ∧ c = 0) ∧ l.length ≤ c := by
  rcases l with _ | ⟨c, l⟩
  · rcases h.2 with ⟨rfl, -⟩ | ⟨g, cap, cur, rfl, r⟩
    · exact ⟨none, 0, rfl, fun d => EsIn.nil d _, fun _ => ⟨rfl, rfl⟩, Nat.le_refl _⟩
    · exact ⟨_, cap, rfl, fun d => EsIn.nil d _, (fun e => (by cases e)), Nat.zero_le _⟩
  · obtain ⟨b, cp, rfl, hb, hcell⟩ := row_own h (by rw [ers0, flat_len _ 4 er0_len]; simp)
    refine ⟨_, cp, rfl, fun d => ?_, (fun e => (by cases e)), own_cap h⟩
    rcases d with _ | d
    · trivial
    intro j s hj
    rw [List.getElem?_map] at hj
    rcases hx : (c :: l)[j]? with _ | r
    · rw [hx] at hj; cases hj
    rw [hx] at hj
    injection hj with hj
    subst hj
    have hk : ∀ k, k < 4 → ∀ u, r.cells[k]? = some u → w.cell? ⟨b, 0 + j * 4 + k, none⟩ = some u := fun k hk u hu => by rw [Nat.zero_add]; exact hcell _ u ((flat_at _ 4 er0_len _ j r k hx hk).trans hu)
    obtain ⟨h1, ⟨h2, h4⟩, h3⟩ := hr r (List.mem_of_getElem? hx)
    exact ⟨b, 0, r.A, r.c, rfl, ho b hb.1 hb.2, ⟨hk 0 (by omega) _ rfl, hk 1 (by omega) _ rfl, hk 2 (by omega) _ rfl, hk 3 (by omega) _ rfl, h2, h3⟩, h1 d, h4⟩
structure Grw (B : Nat) (wr w5 : World) (ov v5 : Value) (w3 : World) : Prop where
  keep : ∀ q, (B ≤ q ∧ q < wr.heap.size) ∧ ov.ownBlock ≠ some q → w5.heap[q]? = wr.heap[q]?
  keep3 : ∀ q, wr.heap.size ≤ q ∧ q < w3.heap.size → w5.heap[q]? = w3.heap[q]?
  ok : ∀ q, (B ≤ q ∧ q < wr.heap.size) ∧ ov.ownBlock ≠ some q → (B ≤ q ∧ q < w5.heap.size) ∧ v5.ownBlock ≠ some q
  ok3 : ∀ q, wr.heap.size ≤ q ∧ q < w3.heap.size → (B ≤ q ∧ q < w5.heap.size) ∧ v5.ownBlock ≠ some q
theorem grw {B T k n : Nat} {wr w3 w4 w5 : World} {ov v5 : Value} {xs : List Value} (hown : wr.ownsRow B T k ov n xs) (hB : B ≤ wr.heap.size) (hb3 : Below wr.heap.size wr w3) (h34 : Below w3.heap.size w3 w4) (hg5 : w4.grownBy w5 ov.ownBlock)
    (hat : v5.ownBlock = ov.ownBlock ∨ v5.ownBlock = some w4.heap.size) : Grw B wr w5 ov v5 w3 := by
  have s3 := hb3.size
  have s4 := h34.size
  have s5 := hg5.size
  have hq : ∀ q, q < w3.heap.size → ov.ownBlock ≠ some q → w5.heap[q]? = w3.heap[q]? := fun q h1 h2 => (hg5.block q (by omega) (fun e => h2 e.symm)).trans (h34.block q h1)
  have hn : ∀ q, q < w3.heap.size → ov.ownBlock ≠ some q → v5.ownBlock ≠ some q := by
    intro q h1 h2 e
    rcases hat with h | h
    · exact h2 (h ▸ e)
    · rw [h] at e; injection e with e; omega
  have hnew : ∀ q, wr.heap.size ≤ q → ov.ownBlock ≠ some q := fun q h1 e => by have := (own_lt hown e).1; omega
  exact ⟨fun q h => (hq q (by omega) h.2).trans (hb3.block q h.1.2), fun q h => hq q h.2 (hnew q h.1), fun q h => ⟨⟨h.1.1, by omega⟩, hn q (by omega) h.2⟩, fun q h => ⟨⟨by omega, by omega⟩, hn q h.2 (hnew q h.1)⟩⟩
theorem RowE0.more {B : Nat} {wr w3 w5 : World} {ov v5 : Value} {recs : List ER0} {t : ER0} (hr : RowE0 wr (fun q => (B ≤ q ∧ q < wr.heap.size) ∧ ov.ownBlock ≠ some q) recs) (g : Grw B wr w5 ov v5 w3) (ht : RowE0 w3 (fun q => wr.heap.size ≤ q ∧ q < w3.heap.size) [t]) :
    RowE0 w5 (fun q => (B ≤ q ∧ q < w5.heap.size) ∧ v5.ownBlock ≠ some q) (recs ++ [t]) := by
  intro r hm
  rcases List.mem_append.1 hm with hm | hm
  · exact hr.step g.keep g.ok r hm
  · exact ht.step g.keep3 g.ok3 r hm
structure SR0 where
  s : S0
  EA : Option Addr
  ec : Nat
  BA : Option Addr
  bc : Nat
  LA : Option Addr
  lc : Nat
def SR0.cells (r : SR0) : List Value := [.int .u8 (r.s.op : Nat), .int .i64 r.s.n, .string r.s.nm, .slice r.EA r.s.e.length r.ec, .slice r.BA r.s.b.length r.bc, .slice r.LA r.s.els.length r.lc]
def srs0 (l : List SR0) : List Value := l.flatMap SR0.cells
theorem sr0_len (r : SR0) : r.cells.length = 6 := rfl
theorem srs0_snoc (l : List SR0) (t : SR0) : srs0 (l ++ [t]) = srs0 l ++ t.cells := by simp [srs0]
theorem sr0_one (t : SR0) : ∀ u ∈ t.cells, u.oneCell' = true := by
  intro u hu
  simp only [SR0.cells, List.mem_cons, List.not_mem_nil, or_false] at hu
  rcases hu with rfl | rfl | rfl | rfl | rfl | rfl <;> rfl
def RowS0 (w : World) (ok : Nat → Prop) (l : List SR0) : Prop := ∀ r, r ∈ l → ((∀ d, EsIn ok w d r.EA r.s.e) ∧ (∀ d, SsIn ok w d r.BA r.s.b) ∧ (∀ d, SsIn ok w d r.LA r.s.els)) ∧ SLim r.s
theorem RowS0.step {w w' : World} {ok ok' : Nat → Prop} {l : List SR0} (h : RowS0 w ok l) (hs : ∀ q, ok q → w'.heap[q]? = w.heap[q]?) (ho : ∀ q, ok q → ok' q) : RowS0 w' ok' l :=
  fun r hr => ⟨⟨fun d => ((h r hr).1.1 d).step hs ho, fun d => ((h r hr).1.2.1 d).step hs ho, fun d => ((h r hr).1.2.2 d).step hs ho⟩, (h r hr).2⟩
theorem RowS0.more {B : Nat} {wr w3 w5 : World} {ov v5 : Value} {recs : List SR0} {t : SR0} (hr : RowS0 wr (fun q => (B ≤ q ∧ q < wr.heap.size) ∧ ov.ownBlock ≠ some q) recs) (g : Grw B wr w5 ov v5 w3) (ht : RowS0 w3 (fun q => wr.heap.size ≤ q ∧ q < w3.heap.size) [t]) :
    RowS0 w5 (fun q => (B ≤ q ∧ q < w5.heap.size) ∧ v5.ownBlock ≠ some q) (recs ++ [t]) := by
  intro r hm
  rcases List.mem_append.1 hm with hm | hm
  · exact hr.step g.keep g.ok r hm
  · exact ht.step g.keep3 g.ok3 r hm
theorem row_ss0 {w : World} {B : Nat} {v : Value} {l : List SR0} {ok : Nat → Prop} (h : w.ownsRow B 39 6 v l.length (srs0 l)) (hr : RowS0 w ok l) (ho : ∀ q, B ≤ q → q < w.heap.size → ok q) :
    ∃ A c, v = .slice A l.length c ∧ ∀ d, SsIn ok w d A (l.map SR0.s) := by
  rcases l with _ | ⟨c, l⟩
  · rcases h.2 with ⟨rfl, -⟩ | ⟨g, cap, cur, rfl, r⟩
    · exact ⟨none, 0, rfl, fun d => SsIn.nil d _⟩
    · exact ⟨_, cap, rfl, fun d => SsIn.nil d _⟩
  · obtain ⟨b, cp, rfl, hb, hcell⟩ := row_own h (by rw [srs0, flat_len _ 6 sr0_len]; simp)
    refine ⟨_, cp, rfl, fun d => ?_⟩
    rcases d with _ | d
    · trivial
    intro j s hj
    rw [List.getElem?_map] at hj
    rcases hx : (c :: l)[j]? with _ | r
    · rw [hx] at hj; cases hj
    rw [hx] at hj
    injection hj with hj
    subst hj
    have hk : ∀ k, k < 6 → ∀ u, r.cells[k]? = some u → w.cell? ⟨b, 0 + j * 6 + k, none⟩ = some u := fun k hk u hu => by rw [Nat.zero_add]; exact hcell _ u ((flat_at _ 6 sr0_len _ j r k hx hk).trans hu)
    obtain ⟨⟨h1, h2, h3⟩, h4⟩ := hr r (List.mem_of_getElem? hx)
    exact ⟨b, 0, r.EA, r.ec, r.BA, r.bc, r.LA, r.lc, rfl, ho b hb.1 hb.2, ⟨hk 0 (by omega) _ rfl, hk 1 (by omega) _ rfl, hk 2 (by omega) _ rfl, hk 3 (by omega) _ rfl, hk 4 (by omega) _ rfl, hk 5 (by omega) _ rfl, h4⟩, h1, h2 d, h3 d⟩
end
end Go.Proofs.YtocbddajakbemaaGreat
set_option linter.unusedSimpArgs false
namespace Go.Proofs.YtocbddajakbemaaGreat
section
open Go.RowKit
theorem ret_ex1 {fn : Func} {p : Tmp} (h : fn.results = #[.cell p 34]) (tmps : Array Value) (w : World) (g : Nat) (a b c d : Value)
    (hp : tmps.getD p undef = .pointer (some ⟨g, 0, none⟩)) (hg : w.heap[g]? = some (.cells #[a, b, c, d] 34 (0, 0))) :
    (results fn tmps).run Tryz.prog w = .ok (.agg #[a, b, c, d]) w := by
  have hp' : tmps[p]?.getD undef = .pointer (some ⟨g, 0, none⟩) := by simpa using hp
  have hl := run_loadVar_row (P := Tryz.prog) w g 34 34 #[a, b, c, d] (0, 0) _ hg Tryz.underlying34 rfl (by kernel_rfl)
  simp [results, h, hp', asAddr, hl]
def CpR (w : World) (x : E0) (e : Ending) (w' : World) : Prop :=
  ∃ A' c', e = .returned (.agg #[.int .u8 (x.op : Nat), .int .i64 x.n, .string x.nm, .slice A' x.args.length c']) ∧ (∀ d, EsIn (fun q => w.heap.size ≤ q ∧ q < w'.heap.size) w' d A' x.args) ∧ ((A' = none → x.args.length = 0 ∧ c' = 0) ∧ x.args.length ≤ c') ∧ Below w.heap.size w w'
def CpsR (w : World) (l : List E0) (e : Ending) (w' : World) : Prop :=
  ∃ A' c', e = .returned (.slice A' l.length c') ∧ (∀ d, EsIn (fun q => w.heap.size ≤ q ∧ q < w'.heap.size) w' d A' l) ∧ ((A' = none → l.length = 0 ∧ c' = 0) ∧ l.length ≤ c') ∧ Below w.heap.size w w'
def CpE (s : Nat) : Prop := ∀ (x : E0) (A : Option Addr) (c : Nat) (w : World), SizeOf.sizeOf x ≤ s → x.args.length ≤ 1000000 → (∀ d, EsAt w d A x.args) →
  Calls Tryz.prog 54 #[.agg #[.int .u8 (x.op : Nat), .int .i64 x.n, .string x.nm, .slice A x.args.length c]] w (CpR w x)
def CpEs (s : Nat) : Prop := ∀ (l : List E0) (A : Option Addr) (c : Nat) (w : World), SizeOf.sizeOf l ≤ s → l.length ≤ 1000000 → (∀ d, EsAt w d A l) →
  Calls Tryz.prog 35 #[.slice A l.length c] w (CpsR w l)
set_option maxRecDepth 100000 in
set_option maxHeartbeats 4000000 in
theorem copyE_succ (s : Nat) (IH : CpEs s) : CpE (s + 1) := by
  intro x A c w hs hm h
  obtain ⟨op, n, nm, args⟩ := x
  unfold CpR
  obtain ⟨m, em⟩ : ∃ m, m = args.length := ⟨_, rfl⟩
  show Calls Tryz.prog 54 #[.agg #[.int .u8 (op : Nat), .int .i64 n, .string nm, .slice A args.length c]] w fun e w' => ∃ A' c', e = .returned (.agg #[.int .u8 (op : Nat), .int .i64 n, .string nm, .slice A' args.length c']) ∧ (∀ d, EsIn (fun q => w.heap.size ≤ q ∧ q < w'.heap.size) w' d A' args) ∧ ((A' = none → args.length = 0 ∧ c' = 0) ∧ args.length ≤ c') ∧ Below w.heap.size w w'
  obtain ⟨g, eg⟩ : ∃ g, g = w.heap.size := ⟨_, rfl⟩
  obtain ⟨w2, e2⟩ : ∃ w2, w2 = (w.alloc (.cells #[.int .u8 (op : Nat), .int .i64 n, .string nm, .slice A m c] 34 (0, 0))).alloc (.cells #[.int .u8 0, .int .i64 0, .string ⟨#[]⟩, .slice none 0 0] 34 (0, 0)) := ⟨_, rfl⟩
  have hb2 : Below g w w2 := by rw [e2, eg]; exact ((Below.refl _ w).alloc (Nat.le_refl _) _).alloc (by simp) _
  have hs2 : w2.heap.size = g + 2 := by rw [e2, eg]; simp
  have k0 : w2.heap[g]? = some (.cells #[.int .u8 (op : Nat), .int .i64 n, .string nm, .slice A m c] 34 (0, 0)) := by rw [e2, eg]; exact heap_alloc_fst w _ _
  have k1 : w2.heap[g + 1]? = some (.cells #[.int .u8 0, .int .i64 0, .string ⟨#[]⟩, .slice none 0 0] 34 (0, 0)) := by rw [e2, eg]; exact heap_alloc_snd w _ _
  have F := IH args A c w2 (by simp only [E0.mk.sizeOf_spec] at hs; omega) hm (fun d => (h d).below (by rw [← eg]; exact hb2))
  unfold CpsR at F
  rw [← em] at F ⊢
  obtain ⟨f0, f1, f2, f3, -⟩ := ex_facts k0
  have H := Lib.hid (And.intro hb2 (And.intro hs2 (And.intro k0 (And.intro k1 eg))))
  rw [← eg]
  clear hb2 hs2 k0 k1 hs hm h em IH
  go_enter Tryz.func54, Tryz.ntmps54
  go_upto_region 1 with fail
  rw [← e2, ← eg]
  clear e2 eg
  go_wp2_with (go_at_call 35; refine F.mono ?_; rintro e w3 ⟨A', c', rfl, hes, hnil, hb3⟩; have k3 := (hb3.block g (by have := H.out.2.1; omega)).trans H.out.2.2.1; have k4 := (hb3.block (g + 1) (by have := H.out.2.1; omega)).trans H.out.2.2.2.1; obtain ⟨d0, d1, d2, d3, z0, z1, z2, z3⟩ := ex_facts k3; obtain ⟨r0, r1, r2, r3, y0, y1, y2, y3⟩ := ex_facts k4; have HR := Lib.hid (And.intro hes (And.intro hnil (And.intro hb3 (And.intro k3 k4)))); clear hes hnil hb3 k3 k4 f0 f1 f2 f3 F)
  obtain ⟨hb2, hs2, k0, k1, eg⟩ := H.out
  obtain ⟨hes, hnil, hb3, k3, k4⟩ := HR.out
  have hs3 := hb3.size
  have hX : (w3.setCell ⟨g, 3, none⟩ (.slice A' m c')).heap[g + 1]? = some (.cells #[.int .u8 0, .int .i64 0, .string ⟨#[]⟩, .slice none 0 0] 34 (0, 0)) := (Below.heap_setCell _ _ _ _ (by simp)).trans k4
  refine bodyPost_ret (ret_ex1 rfl _ _ (g + 1) _ _ _ _ rfl (put4_block (.int .u8 (op : Nat)) (.int .i64 n) (.string nm) (.slice A' m c') hX)) rfl ?_
  refine ⟨A', c', rfl, fun d => (hes d).step (fun q hq => (put4_ne _ _ _ _ _ _ (by omega)).trans (Below.heap_setCell _ _ _ _ (by simp; omega))) (fun q hq => ⟨by omega, (by show q < (put4 _ _ _ _ _ _).heap.size; rw [put4_size]; simp; omega)⟩), hnil, ?_⟩
  exact put4_below _ _ _ _ ((hb2.trans (hb3.mono (by omega))).setCell (p := ⟨g, 3, none⟩) (Nat.le_refl _) _) (Nat.le_succ g)
set_option maxRecDepth 100000 in
set_option maxHeartbeats 4000000 in
theorem copyEs_succ (s : Nat) (IH : CpE s) : CpEs (s + 1) := by
  intro l A c w hs hm h
  unfold CpsR
  obtain ⟨n, en⟩ : ∃ n, n = l.length := ⟨_, rfl⟩
  obtain ⟨g, eg⟩ : ∃ g, g = w.heap.size := ⟨_, rfl⟩
  rw [← en, ← eg]
  obtain ⟨i9, hi9, hz0, hz1, hz2⟩ := info_parts infoExpr
  have HI := Lib.hid (And.intro hi9 (And.intro hz0 (And.intro hz1 hz2)))
  have H := Lib.hid (And.intro en (And.intro hm (And.intro h (And.intro IH (And.intro hs eg)))))
  clear en hm h IH hs eg hi9 hz0 hz1 hz2
  go_enter Tryz.func35, Tryz.ntmps35
  go_wp2_with fail
  go_loopg [3, 4] n (fun gh ov iv wr => ∃ (recs : List ER0), gh + recs.length = n ∧ iv = .int .i64 ((recs.length : Nat) : Int) ∧ recs.map ER0.x = l.take recs.length ∧ wr.ownsRow g 34 4 ov recs.length (ers0 recs) ∧ RowE0 wr (fun q => (g ≤ q ∧ q < wr.heap.size) ∧ ov.ownBlock ≠ some q) recs ∧ Below g w wr)
  case atStart => exact ⟨[], rfl, rfl, rfl, ⟨rfl, Or.inl ⟨rfl, rfl⟩⟩, fun r hr => (by cases hr), Below.refl _ _⟩
  case round =>
    obtain ⟨recs, hg, rfl, hmap, hown, hrow, hW⟩ := hrel
    obtain ⟨W, eW⟩ : ∃ W, W = wr := ⟨_, rfl⟩
    rw [← eW] at hown hrow hW ⊢
    clear eW
    obtain ⟨en, hm, h, IH, hs, eg⟩ := H.out
    obtain ⟨j, ej⟩ : ∃ j, j = recs.length := ⟨_, rfl⟩
    rw [← ej] at hg hmap hown ⊢
    by_cases hlt : j < n
    · have i2 : decide (j < n) = true := decide_eq_true hlt
      obtain ⟨x, hx⟩ : ∃ x, l[j]? = some x := ⟨_, List.getElem?_eq_getElem (by omega)⟩
      obtain ⟨b, o, A', c', eA, hc, hd⟩ := EsAt.at1 h hx
      subst eA
      have hbW : Below w.heap.size w W := by rw [← eg]; exact hW
      have hWs := hbW.size
      have F := IH x A' c' W (by have := List.sizeOf_lt_of_mem (List.mem_of_getElem? hx); omega) hc.lim.2.2.2 (fun d => (hd d).below hbW)
      unfold CpR at F
      obtain ⟨c0, c1, c2, c3, -, hlim⟩ := hc.below hbW
      have i0 : (0 : Int) ≤ (j : Int) := by omega
      have i1 : (j : Int) < (n : Int) := by omega
      have u2 : wrap64 ((j : Int) + 1) = ((j + 1 : Nat) : Int) := by unfold wrap64; omega
      obtain ⟨k, ek⟩ : ∃ k, k = x.args.length := ⟨_, rfl⟩
      rw [← ek] at c3 F
      have HQ := Lib.hid (And.intro hg (And.intro hmap (And.intro hown (And.intro hrow (And.intro hW (And.intro hlt (And.intro hx (And.intro hlim (And.intro ek ej)))))))))
      clear hg hmap hown hrow hW hlt hx hc hd hbW hWs en hm h IH hs hlim ek ej
      go_upto_region 6 with (go_at_call 54; refine F.mono ?_; rintro e w3 ⟨A1, q1, rfl, hes, hnil, hb3⟩; have HR := Lib.hid (And.intro hes (And.intro hnil hb3)); clear hes hnil hb3)
      clear F c0 c1 c2 c3
      obtain ⟨nw, enw⟩ : ∃ nw, nw = ER0.cells ⟨x, A1, q1⟩ := ⟨_, rfl⟩
      have hbW := HQ.out.2.2.2.2.1
      have hWs : g ≤ W.heap.size := by rw [eg]; exact hbW.size
      have hb3 := HR.out.2.2
      have HN1 := Lib.hid (show nw.length = 1 * 4 from by rw [enw]; rfl)
      have HN2 := Lib.hid (show ∀ j u, nw[j]? = some u → ((w3.alloc (.cells #[.int .u8 (x.op : Nat), .int .i64 x.n, .string x.nm, .slice A1 k q1] 34 (0, 0))).alloc (.cells #[.int .u8 (x.op : Nat), .int .i64 x.n, .string x.nm, .slice A1 k q1] 34 (0, 0))).cell? ((⟨w3.heap.size + 1, 0, none⟩ : Addr).add j) = some u from by rw [enw, HQ.out.2.2.2.2.2.2.2.2.1]; exact news_new (w3.alloc _) _ _ _ (by simp))
      have HN3 := Lib.hid (show ∀ u ∈ nw, u.oneCell' = true from by rw [enw]; exact er0_one _)
      have HN4 := Lib.hid (show j + 1 ≤ maxLen ∧ (j + 1) * 56 ≤ 140737488355328 from by have := HQ.out.2.2.2.2.2.1; have := H.out.1; have := H.out.2.1; unfold maxLen; omega)
      have HN5 := Lib.hid (show ∀ A B, g ≤ ((w3.alloc A).alloc B).heap.size from fun A B => by have := hb3.size; simp; omega)
      have h34 : ∀ A B, Below w3.heap.size w3 ((w3.alloc A).alloc B) := fun A B => ((Below.refl _ _).alloc (Nat.le_refl _) _).alloc (by simp) _
      have HO := Lib.hid (show ∀ A B, ((w3.alloc A).alloc B).ownsRow g 34 4 u3 j (ers0 recs) from fun A B => ((own_same HQ.out.2.2.1 fun q hq => hb3.block q (by omega)).alloc _).alloc _)
      have HEN := Lib.hid (And.intro enw (And.intro hWs h34)); clear enw hbW hWs hb3 h34 eg
      go_wp2_with (at_builtin; refine wpList_append_own_at _ rfl (.tmp 17) (.tmp 19) 32 rfl g 34 i9 _ 4 56 Tryz.underlying32 HI.out.1 HI.out.2.1 HI.out.2.2.1 HI.out.2.2.2 rfl (by decide) u3 j (ers0 recs) rfl (HO.out _ _) ⟨w3.heap.size + 1, 0, none⟩ 1 1 nw rfl HN1.out HN2.out HN3.out HN4.out.1 HN4.out.2 (HN5.out _ _) ?_)
      intro v5 w5 hown5 hg5 _ hat5
      have HV := Lib.hid (And.intro hown5 (And.intro hg5 hat5)); clear hown5 hg5 hat5
      go_wp2_with fail
      go_roundg (n - (j + 1))
      case measure => have := HQ.out.1; have := HQ.out.2.2.2.2.2.1; omega
      case rel =>
        obtain ⟨hg, hmap, hown, hrow, hW, hlt, hx, hlim, ek, ej⟩ := HQ.out
        obtain ⟨hown5, hg5, hat5⟩ := HV.out
        obtain ⟨enw, hWs, h34⟩ := HEN.out
        obtain ⟨hes, hnil, hb3⟩ := HR.out
        have hl : (recs ++ [(⟨x, A1, q1⟩ : ER0)]).length = j + 1 := by rw [List.length_append, ← ej]; rfl
        refine ⟨recs ++ [⟨x, A1, q1⟩], by rw [hl]; omega, by rw [hl, u2], ?_, ?_, ?_, ?_⟩
        · rw [hl, List.map_append, hmap, List.take_add_one, hx]; rfl
        · rw [hl, ers0_snoc, ← enw]; exact hown5
        · refine hrow.more (grw hown hWs hb3 (h34 _ _) hg5 (hat5.imp_right fun h => by rw [h]; simp)) ?_
          intro r hr
          simp only [List.mem_singleton] at hr
          subst hr
          exact ⟨hes, ⟨(fun e => by rw [← ek]; exact hnil.1 e), by rw [← ek]; exact hnil.2⟩, hlim⟩
        · exact ((hW.trans (hb3.mono hWs)).trans ((h34 _ _).mono (by have := hb3.size; omega))).grown hg5 (HN5.out _ _) (fun q hq => (own_lt hown hq).2)
    · have i2 : decide (j < n) = false := decide_eq_false hlt
      have ho : ∀ q, g ≤ q → q < W.heap.size → (fun q => g ≤ q ∧ q < W.heap.size) q := fun q h1 h2 => ⟨h1, h2⟩
      rw [ej] at hown
      obtain ⟨A1, c1, rfl, hes, hnil⟩ := row_es0 (ok := fun q => g ≤ q ∧ q < W.heap.size) hown (hrow.step (fun q _ => rfl) (fun q h => h.1)) (fun q h1 h2 => ⟨h1, h2⟩)
      have hl : recs.map ER0.x = l := by rw [hmap, List.take_of_length_le (by omega)]
      have hjn : recs.length = n := by rw [en, ← hl]; simp
      rw [hl] at hes
      rw [hjn] at hnil ⊢
      have HX := Lib.hid (And.intro hes (And.intro hnil hW))
      clear hlt hg hmap hown hrow hW en hm h IH hs eg ej hes hnil hl hjn ho
      go_wp2_with fail
      go_ret
      obtain ⟨hes, hnil, hW⟩ := HX.out
      exact ⟨A1, c1, rfl, hes, hnil, hW⟩
theorem copyE_all : ∀ s, CpE s ∧ CpEs s := by
  intro s
  induction s with
  | zero =>
    refine ⟨fun x A c w hs => ?_, fun l A c w hs => ?_⟩
    · exfalso
      cases x
      simp only [E0.mk.sizeOf_spec] at hs
      omega
    · exfalso
      cases l <;> simp at hs
  | succ s ih => exact ⟨copyE_succ s ih.2, copyEs_succ s ih.1⟩
theorem CopyExprs_ok (l : List E0) (A : Option Addr) (c : Nat) (w : World) (hm : l.length ≤ 1000000) (h : ∀ d, EsAt w d A l) :
    Calls Tryz.prog 35 #[.slice A l.length c] w (CpsR w l) := (copyE_all _).2 l A c w (Nat.le_refl _) hm h
end
end Go.Proofs.YtocbddajakbemaaGreat
set_option linter.unusedSimpArgs false
namespace Go.Proofs.YtocbddajakbemaaGreat
section
open Go.RowKit
theorem ret_st1 {fn : Func} {p : Tmp} (h : fn.results = #[.cell p 39]) (tmps : Array Value) (w : World) (g : Nat) (a b c d e f : Value)
    (hp : tmps.getD p undef = .pointer (some ⟨g, 0, none⟩)) (hg : w.heap[g]? = some (.cells #[a, b, c, d, e, f] 39 (0, 0))) :
    (results fn tmps).run Tryz.prog w = .ok (.agg #[a, b, c, d, e, f]) w := by
  have hp' : tmps[p]?.getD undef = .pointer (some ⟨g, 0, none⟩) := by simpa using hp
  have hl := run_loadVar_row (P := Tryz.prog) w g 39 39 #[a, b, c, d, e, f] (0, 0) _ hg Tryz.underlying39 rfl (by kernel_rfl)
  simp [results, h, hp', asAddr, hl]
def CsR (w : World) (s : S0) (e : Ending) (w' : World) : Prop :=
  ∃ EA ec BA bc LA lc, e = .returned (.agg #[.int .u8 (s.op : Nat), .int .i64 s.n, .string s.nm, .slice EA s.e.length ec, .slice BA s.b.length bc, .slice LA s.els.length lc]) ∧
    ((∀ d, EsIn (fun q => w.heap.size ≤ q ∧ q < w'.heap.size) w' d EA s.e) ∧ (∀ d, SsIn (fun q => w.heap.size ≤ q ∧ q < w'.heap.size) w' d BA s.b) ∧ ∀ d, SsIn (fun q => w.heap.size ≤ q ∧ q < w'.heap.size) w' d LA s.els) ∧ Below w.heap.size w w'
def CssR (w : World) (l : List S0) (e : Ending) (w' : World) : Prop :=
  ∃ (v : Value) (recs : List SR0), e = .returned v ∧ recs.map SR0.s = l ∧ w'.ownsRow w.heap.size 39 6 v l.length (srs0 recs) ∧ RowS0 w' (fun q => (w.heap.size ≤ q ∧ q < w'.heap.size) ∧ v.ownBlock ≠ some q) recs ∧ Below w.heap.size w w'
theorem CssR.read {w w' : World} {l : List S0} {e : Ending} (h : CssR w l e w') : ∃ A c, e = .returned (.slice A l.length c) ∧ (∀ d, SsIn (fun q => w.heap.size ≤ q ∧ q < w'.heap.size) w' d A l) ∧ Below w.heap.size w w' := by
  obtain ⟨v, recs, rfl, rfl, hown, hrow, hb⟩ := h
  rw [List.length_map] at hown ⊢
  obtain ⟨A, c, rfl, hss⟩ := row_ss0 (ok := fun q => w.heap.size ≤ q ∧ q < w'.heap.size) hown (hrow.step (fun q _ => rfl) (fun q h => h.1)) (fun q h1 h2 => ⟨h1, h2⟩)
  exact ⟨A, c, rfl, hss, hb⟩
def CpS (s : Nat) : Prop := ∀ (x : S0) (EA : Option Addr) (ec : Nat) (BA : Option Addr) (bc : Nat) (LA : Option Addr) (lc : Nat) (w : World), SizeOf.sizeOf x ≤ s → SLim x → (∀ d, EsAt w d EA x.e) → (∀ d, SsAt w d BA x.b) → (∀ d, SsAt w d LA x.els) →
  Calls Tryz.prog 22 #[.agg #[.int .u8 (x.op : Nat), .int .i64 x.n, .string x.nm, .slice EA x.e.length ec, .slice BA x.b.length bc, .slice LA x.els.length lc]] w (CsR w x)
def CpSs (s : Nat) : Prop := ∀ (l : List S0) (A : Option Addr) (c : Nat) (w : World), SizeOf.sizeOf l ≤ s → l.length ≤ 1000000 → (∀ d, SsAt w d A l) →
  Calls Tryz.prog 13 #[.slice A l.length c] w (CssR w l)
structure CsIn (w W : World) (g : Nat) (cs : Array Value) : Prop where
  k0 : W.heap[g]? = some (.cells cs 39 (0, 0))
  k1 : W.heap[g + 1]? = some (.cells #[.int .u8 0, .int .i64 0, .string ⟨#[]⟩, .slice none 0 0, .slice none 0 0, .slice none 0 0] 39 (0, 0))
  b : Below g w W
theorem CsIn.below {w W W' : World} {g : Nat} {cs : Array Value} (h : CsIn w W g cs) (hb : Below W.heap.size W W') : CsIn w W' g cs :=
  ⟨(hb.block g (lt_of_block h.k0)).trans h.k0, (hb.block (g + 1) (lt_of_block h.k1)).trans h.k1, h.b.trans (hb.mono (Nat.le_of_lt (lt_of_block h.k0)))⟩
theorem CsIn.set {w W : World} {g : Nat} {cs : Array Value} (h : CsIn w W g cs) (i : Nat) (v : Value) : CsIn w (W.setCell ⟨g, i, none⟩ v) g (cs.setIfInBounds i v) :=
  ⟨block_setCell h.k0 i v, (Below.heap_setCell _ _ _ _ (by simp)).trans h.k1, h.b.setCell (p := ⟨g, i, none⟩) (Nat.le_refl _) _⟩
structure Stay (g : Nat) (W W' : World) : Prop where
  size : W.heap.size ≤ W'.heap.size
  blk : ∀ q, g + 1 < q → q < W.heap.size → W'.heap[q]? = W.heap[q]?
theorem Stay.trans {g : Nat} {W W' W'' : World} (h : Stay g W W') (h' : Stay g W' W'') : Stay g W W'' :=
  ⟨Nat.le_trans h.size h'.size, fun q h1 h2 => (h'.blk q h1 (Nat.lt_of_lt_of_le h2 h.size)).trans (h.blk q h1 h2)⟩
theorem Stay.below {g : Nat} {W W' : World} (h : Below W.heap.size W W') : Stay g W W' := ⟨h.size, fun q _ h2 => h.block q h2⟩
theorem Stay.set {g : Nat} {W : World} (i : Nat) (v : Value) : Stay g W (W.setCell ⟨g, i, none⟩ v) := ⟨by simp, fun q h1 h2 => Below.heap_setCell _ _ _ _ (by simp; omega)⟩
theorem Stay.put {g : Nat} {W : World} (a b c d e f : Value) : Stay g W (put6 W (g + 1) a b c d e f) := ⟨by rw [put6_size]; exact Nat.le_refl _, fun q h1 h2 => put6_ne _ _ _ _ _ _ _ _ (by omega)⟩
set_option maxRecDepth 100000 in
set_option maxHeartbeats 4000000 in
theorem copyS_succ (s : Nat) (IH : CpSs s) : CpS (s + 1) := by
  intro x EA ec BA bc LA lc w hs hlim hE hB hL
  obtain ⟨op, n, nm, es, bs, ls⟩ := x
  have hlim2 : es.length ≤ 1000000 ∧ bs.length ≤ 1000000 ∧ ls.length ≤ 1000000 := hlim.2.2.2
  have hsz : SizeOf.sizeOf bs ≤ s ∧ SizeOf.sizeOf ls ≤ s := by simp only [S0.mk.sizeOf_spec] at hs; omega
  have hE : ∀ d, EsAt w d EA es := hE
  have hB : ∀ d, SsAt w d BA bs := hB
  have hL : ∀ d, SsAt w d LA ls := hL
  unfold CsR
  show Calls Tryz.prog 22 #[.agg #[.int .u8 (op : Nat), .int .i64 n, .string nm, .slice EA es.length ec, .slice BA bs.length bc, .slice LA ls.length lc]] w fun e w' => ∃ EA ec BA bc LA lc, e = .returned (.agg #[.int .u8 (op : Nat), .int .i64 n, .string nm, .slice EA es.length ec, .slice BA bs.length bc, .slice LA ls.length lc]) ∧
    ((∀ d, EsIn (fun q => w.heap.size ≤ q ∧ q < w'.heap.size) w' d EA es) ∧ (∀ d, SsIn (fun q => w.heap.size ≤ q ∧ q < w'.heap.size) w' d BA bs) ∧ ∀ d, SsIn (fun q => w.heap.size ≤ q ∧ q < w'.heap.size) w' d LA ls) ∧ Below w.heap.size w w'
  obtain ⟨en, een⟩ : ∃ m, m = es.length := ⟨_, rfl⟩
  obtain ⟨bn, ebn⟩ : ∃ m, m = bs.length := ⟨_, rfl⟩
  obtain ⟨ln, eln⟩ : ∃ m, m = ls.length := ⟨_, rfl⟩
  obtain ⟨g, eg⟩ : ∃ g, g = w.heap.size := ⟨_, rfl⟩
  obtain ⟨w2, e2⟩ : ∃ w2, w2 = (w.alloc (.cells #[.int .u8 (op : Nat), .int .i64 n, .string nm, .slice EA en ec, .slice BA bn bc, .slice LA ln lc] 39 (0, 0))).alloc (.cells #[.int .u8 0, .int .i64 0, .string ⟨#[]⟩, .slice none 0 0, .slice none 0 0, .slice none 0 0] 39 (0, 0)) := ⟨_, rfl⟩
  have hb2 : Below g w w2 := by rw [e2, eg]; exact ((Below.refl _ w).alloc (Nat.le_refl _) _).alloc (by simp) _
  have hs2 : w2.heap.size = g + 2 := by rw [e2, eg]; simp
  have C2 : CsIn w w2 g #[.int .u8 (op : Nat), .int .i64 n, .string nm, .slice EA en ec, .slice BA bn bc, .slice LA ln lc] := ⟨by rw [e2, eg]; exact heap_alloc_fst w _ _, by rw [e2, eg]; exact heap_alloc_snd w _ _, hb2⟩
  have F := CopyExprs_ok es EA ec w2 hlim2.1 (fun d => (hE d).below (by rw [← eg]; exact hb2))
  have FB : ∀ W, Below g w W → Calls Tryz.prog 13 #[.slice BA bn bc] W (CssR W bs) := fun W hW => by rw [ebn]; exact IH bs BA bc W hsz.1 hlim2.2.1 (fun d => (hB d).below (by rw [← eg]; exact hW))
  have FL : ∀ W, Below g w W → Calls Tryz.prog 13 #[.slice LA ln lc] W (CssR W ls) := fun W hW => by rw [eln]; exact IH ls LA lc W hsz.2 hlim2.2.2 (fun d => (hL d).below (by rw [← eg]; exact hW))
  unfold CpsR at F
  rw [← een] at F ⊢
  rw [← ebn, ← eln, ← eg]
  obtain ⟨⟨f0, f1, f2, f3, f4, f5⟩, -⟩ := st_facts C2.k0
  have H := Lib.hid (And.intro C2 (And.intro hs2 (And.intro eg (And.intro FB (And.intro FL (And.intro ebn eln))))))
  clear hb2 hs2 C2 hs hlim hlim2 hsz hE hB hL IH een ebn eln FB FL
  go_enter Tryz.func22, Tryz.ntmps22
  go_upto_region 1 with fail
  rw [← e2, ← eg]
  clear e2 eg
  go_upto_region 2 with (go_at_call 35; refine F.mono ?_; rintro e w3 ⟨A3, c3, rfl, hes, hnil, hb3⟩; obtain ⟨⟨d0, d1, d2, d3, d4, d5⟩, z0, z1, z2, z3, z4, z5⟩ := st_facts (H.out.1.below hb3).k0; have HR := Lib.hid (And.intro hes (And.intro hnil hb3)); clear hes hnil hb3 f0 f1 f2 f3 f4 f5 F)
  clear d0 d1 d2 d3 d4 d5 z0 z1 z2 z3 z4 z5
  obtain ⟨w4, e4⟩ : ∃ w4, w4 = w3.setCell ⟨g, 3, none⟩ (.slice A3 en c3) := ⟨_, rfl⟩
  have C4 : CsIn w w4 g #[.int .u8 (op : Nat), .int .i64 n, .string nm, .slice A3 en c3, .slice BA bn bc, .slice LA ln lc] := by rw [e4]; exact (H.out.1.below HR.out.2.2).set 3 _
  have S4 : Stay g w3 w4 := by rw [e4]; exact Stay.set 3 _
  rw [← e4]
  clear e4
  have F := H.out.2.2.2.1 w4 C4.b
  obtain ⟨⟨f0, f1, f2, f3, f4, f5⟩, -⟩ := st_facts C4.k0
  have H4 := Lib.hid (And.intro C4 S4)
  clear C4 S4
  go_upto_region 3 with (go_at_call 13; refine F.mono ?_; rintro e w5 hcs; obtain ⟨A5, c5, rfl, hss, hb5⟩ := hcs.read; obtain ⟨⟨d0, d1, d2, d3, d4, d5⟩, z0, z1, z2, z3, z4, z5⟩ := st_facts (H4.out.1.below hb5).k0; have HR5 := Lib.hid (And.intro hss hb5); rw [← H.out.2.2.2.2.2.1]; clear hcs hss hb5 f0 f1 f2 f3 f4 f5 F)
  clear d0 d1 d2 d3 d4 d5 z0 z1 z2 z3 z4 z5
  obtain ⟨w6, e6⟩ : ∃ w6, w6 = w5.setCell ⟨g, 4, none⟩ (.slice A5 bn c5) := ⟨_, rfl⟩
  have C6 : CsIn w w6 g #[.int .u8 (op : Nat), .int .i64 n, .string nm, .slice A3 en c3, .slice A5 bn c5, .slice LA ln lc] := by rw [e6]; exact (H4.out.1.below HR5.out.2).set 4 _
  have S6 : Stay g w5 w6 := by rw [e6]; exact Stay.set 4 _
  rw [← e6]
  clear e6
  have F := H.out.2.2.2.2.1 w6 C6.b
  obtain ⟨⟨f0, f1, f2, f3, f4, f5⟩, -⟩ := st_facts C6.k0
  have H6 := Lib.hid (And.intro C6 S6)
  clear C6 S6
  go_upto_region 4 with (go_at_call 13; refine F.mono ?_; rintro e w7 hcs; obtain ⟨A7, c7, rfl, hss, hb7⟩ := hcs.read; obtain ⟨⟨d0, d1, d2, d3, d4, d5⟩, z0, z1, z2, z3, z4, z5⟩ := st_facts (H6.out.1.below hb7).k0; have HR7 := Lib.hid (And.intro hss hb7); rw [← H.out.2.2.2.2.2.2]; clear hcs hss hb7 f0 f1 f2 f3 f4 f5 F)
  clear d0 d1 d2 d3 d4 d5 z0 z1 z2 z3 z4 z5
  obtain ⟨w8, e8⟩ : ∃ w8, w8 = w7.setCell ⟨g, 5, none⟩ (.slice A7 ln c7) := ⟨_, rfl⟩
  have C8 : CsIn w w8 g #[.int .u8 (op : Nat), .int .i64 n, .string nm, .slice A3 en c3, .slice A5 bn c5, .slice A7 ln c7] := by rw [e8]; exact (H6.out.1.below HR7.out.2).set 5 _
  have S8 : Stay g w7 w8 := by rw [e8]; exact Stay.set 5 _
  rw [← e8]
  clear e8
  obtain ⟨⟨f0, f1, f2, f3, f4, f5⟩, -⟩ := st_facts C8.k0
  obtain ⟨⟨d0, d1, d2, d3, d4, d5⟩, z0, z1, z2, z3, z4, z5⟩ := st_facts C8.k1
  have H8 := Lib.hid (And.intro C8 S8)
  clear C8 S8
  go_wp2_with fail
  obtain ⟨C2, hs2, eg, -, -, ebn, eln⟩ := H.out
  obtain ⟨hes, hnil, hb3⟩ := HR.out
  obtain ⟨C4, S4⟩ := H4.out
  obtain ⟨hb, hb5⟩ := HR5.out
  obtain ⟨C6, S6⟩ := H6.out
  obtain ⟨hl, hb7⟩ := HR7.out
  obtain ⟨C8, S8⟩ := H8.out
  refine bodyPost_ret (ret_st1 rfl _ _ (g + 1) _ _ _ _ _ _ rfl (put6_block (.int .u8 (op : Nat)) (.int .i64 n) (.string nm) (.slice A3 en c3) (.slice A5 bn c5) (.slice A7 ln c7) C8.k1)) rfl ?_
  have P9 : Stay g w8 (put6 w8 (g + 1) (.int .u8 (op : Nat)) (.int .i64 n) (.string nm) (.slice A3 en c3) (.slice A5 bn c5) (.slice A7 ln c7)) := Stay.put _ _ _ _ _ _
  have P7 := S8.trans P9
  have P5 := S6.trans ((Stay.below hb7).trans P7)
  have P3 := S4.trans ((Stay.below hb5).trans P5)
  have s4 := S4.size
  have s6 := S6.size
  have t3 := hb3.size
  have t5 := hb5.size
  refine ⟨A3, c3, A5, c5, A7, c7, rfl, ⟨fun d => (hes d).step (fun q hq => P3.blk q (by omega) hq.2) (fun q hq => ⟨by omega, Nat.lt_of_lt_of_le hq.2 P3.size⟩), fun d => (hb d).step (fun q hq => P5.blk q (by omega) hq.2) (fun q hq => ⟨by omega, Nat.lt_of_lt_of_le hq.2 P5.size⟩), fun d => (hl d).step (fun q hq => P7.blk q (by omega) hq.2) (fun q hq => ⟨by omega, Nat.lt_of_lt_of_le hq.2 P7.size⟩)⟩, ?_⟩
  exact put6_below _ _ _ _ _ _ C8.b (by omega)
set_option maxRecDepth 100000 in
set_option maxHeartbeats 4000000 in
theorem copySs_succ (s : Nat) (IH : CpS s) : CpSs (s + 1) := by
  intro l A c w hs hm h
  unfold CssR
  obtain ⟨n, en⟩ : ∃ n, n = l.length := ⟨_, rfl⟩
  obtain ⟨g, eg⟩ : ∃ g, g = w.heap.size := ⟨_, rfl⟩
  rw [← en, ← eg]
  obtain ⟨i9, hi9, hz0, hz1, hz2⟩ := info_parts infoStmt
  have HI := Lib.hid (And.intro hi9 (And.intro hz0 (And.intro hz1 hz2)))
  have H := Lib.hid (And.intro en (And.intro hm (And.intro h (And.intro IH (And.intro hs eg)))))
  clear en hm h IH hs eg hi9 hz0 hz1 hz2
  go_enter Tryz.func13, Tryz.ntmps13
  go_wp2_with fail
  go_loopg [3, 4] n (fun gh ov iv wr => ∃ (recs : List SR0), gh + recs.length = n ∧ iv = .int .i64 ((recs.length : Nat) : Int) ∧ recs.map SR0.s = l.take recs.length ∧ wr.ownsRow g 39 6 ov recs.length (srs0 recs) ∧ RowS0 wr (fun q => (g ≤ q ∧ q < wr.heap.size) ∧ ov.ownBlock ≠ some q) recs ∧ Below g w wr)
  case atStart => exact ⟨[], rfl, rfl, rfl, ⟨rfl, Or.inl ⟨rfl, rfl⟩⟩, fun r hr => (by cases hr), Below.refl _ _⟩
  case round =>
    obtain ⟨recs, hg, rfl, hmap, hown, hrow, hW⟩ := hrel
    obtain ⟨W, eW⟩ : ∃ W, W = wr := ⟨_, rfl⟩
    rw [← eW] at hown hrow hW ⊢
    clear eW
    obtain ⟨en, hm, h, IH, hs, eg⟩ := H.out
    obtain ⟨j, ej⟩ : ∃ j, j = recs.length := ⟨_, rfl⟩
    rw [← ej] at hg hmap hown ⊢
    by_cases hlt : j < n
    · have i2 : decide (j < n) = true := decide_eq_true hlt
      obtain ⟨x, hx⟩ : ∃ x, l[j]? = some x := ⟨_, List.getElem?_eq_getElem (by omega)⟩
      obtain ⟨b, o, EA, ec, BA, bc, LA, lc, eA, hc, hdE, hdB, hdL⟩ := SsAt.at1 h hx
      subst eA
      have hbW : Below w.heap.size w W := by rw [← eg]; exact hW
      have hWs := hbW.size
      have F := IH x EA ec BA bc LA lc W (by have := List.sizeOf_lt_of_mem (List.mem_of_getElem? hx); omega) hc.lim (fun d => (hdE d).below hbW) (fun d => (hdB d).below hbW) (fun d => (hdL d).below hbW)
      unfold CsR at F
      obtain ⟨c0, c1, c2, c3, c4, c5, hlim⟩ := hc.below hbW
      have i0 : (0 : Int) ≤ (j : Int) := by omega
      have i1 : (j : Int) < (n : Int) := by omega
      have u2 : wrap64 ((j : Int) + 1) = ((j + 1 : Nat) : Int) := by unfold wrap64; omega
      obtain ⟨ke, eke⟩ : ∃ k, k = x.e.length := ⟨_, rfl⟩
      obtain ⟨kb, ekb⟩ : ∃ k, k = x.b.length := ⟨_, rfl⟩
      obtain ⟨kl, ekl⟩ : ∃ k, k = x.els.length := ⟨_, rfl⟩
      rw [← eke] at c3 F
      rw [← ekb] at c4 F
      rw [← ekl] at c5 F
      have HQ := Lib.hid (And.intro hg (And.intro hmap (And.intro hown (And.intro hrow (And.intro hW (And.intro hlt (And.intro hx (And.intro hlim (And.intro ej (And.intro eke (And.intro ekb ekl)))))))))))
      clear hg hmap hown hrow hW hlt hx hc hdE hdB hdL hbW hWs en hm h IH hs hlim ej eke ekb ekl
      go_upto_region 6 with (go_at_call 22; refine F.mono ?_; rintro e w3 ⟨A1, q1, A2, q2, A3, q3, rfl, hes, hb3⟩; have HR := Lib.hid (And.intro hes hb3); clear hes hb3)
      clear F c0 c1 c2 c3 c4 c5
      obtain ⟨nw, enw⟩ : ∃ nw, nw = SR0.cells ⟨x, A1, q1, A2, q2, A3, q3⟩ := ⟨_, rfl⟩
      have hbW := HQ.out.2.2.2.2.1
      have hWs : g ≤ W.heap.size := by rw [eg]; exact hbW.size
      have hb3 := HR.out.2
      have HN1 := Lib.hid (show nw.length = 1 * 6 from by rw [enw]; rfl)
      have HN2 := Lib.hid (show ∀ j u, nw[j]? = some u → ((w3.alloc (.cells #[.int .u8 (x.op : Nat), .int .i64 x.n, .string x.nm, .slice A1 ke q1, .slice A2 kb q2, .slice A3 kl q3] 39 (0, 0))).alloc (.cells #[.int .u8 (x.op : Nat), .int .i64 x.n, .string x.nm, .slice A1 ke q1, .slice A2 kb q2, .slice A3 kl q3] 39 (0, 0))).cell? ((⟨w3.heap.size + 1, 0, none⟩ : Addr).add j) = some u from by
        have q := HQ.out.2.2.2.2.2.2.2.2.2
        rw [enw, q.1, q.2.1, q.2.2]; exact news_new (w3.alloc _) _ _ _ (by simp))
      have HN3 := Lib.hid (show ∀ u ∈ nw, u.oneCell' = true from by rw [enw]; exact sr0_one _)
      have HN4 := Lib.hid (show j + 1 ≤ maxLen ∧ (j + 1) * 104 ≤ 140737488355328 from by have := HQ.out.2.2.2.2.2.1; have := H.out.1; have := H.out.2.1; unfold maxLen; omega)
      have HN5 := Lib.hid (show ∀ A B, g ≤ ((w3.alloc A).alloc B).heap.size from fun A B => by have := hb3.size; simp; omega)
      have h34 : ∀ A B, Below w3.heap.size w3 ((w3.alloc A).alloc B) := fun A B => ((Below.refl _ _).alloc (Nat.le_refl _) _).alloc (by simp) _
      have HO := Lib.hid (show ∀ A B, ((w3.alloc A).alloc B).ownsRow g 39 6 u3 j (srs0 recs) from fun A B => ((own_same HQ.out.2.2.1 fun q hq => hb3.block q (by omega)).alloc _).alloc _)
      have HEN := Lib.hid (And.intro enw (And.intro hWs h34)); clear enw hbW hWs hb3 h34 eg
      go_wp2_with (at_builtin; refine wpList_append_own_at _ rfl (.tmp 17) (.tmp 19) 22 rfl g 39 i9 _ 6 104 Tryz.underlying22 HI.out.1 HI.out.2.1 HI.out.2.2.1 HI.out.2.2.2 rfl (by decide) u3 j (srs0 recs) rfl (HO.out _ _) ⟨w3.heap.size + 1, 0, none⟩ 1 1 nw rfl HN1.out HN2.out HN3.out HN4.out.1 HN4.out.2 (HN5.out _ _) ?_)
      intro v5 w5 hown5 hg5 _ hat5
      have HV := Lib.hid (And.intro hown5 (And.intro hg5 hat5)); clear hown5 hg5 hat5
      go_wp2_with fail
      go_roundg (n - (j + 1))
      case measure => have := HQ.out.1; have := HQ.out.2.2.2.2.2.1; omega
      case rel =>
        obtain ⟨hg, hmap, hown, hrow, hW, hlt, hx, hlim, ej, -⟩ := HQ.out
        obtain ⟨hown5, hg5, hat5⟩ := HV.out
        obtain ⟨enw, hWs, h34⟩ := HEN.out
        obtain ⟨hes, hb3⟩ := HR.out
        have hl : (recs ++ [(⟨x, A1, q1, A2, q2, A3, q3⟩ : SR0)]).length = j + 1 := by rw [List.length_append, ← ej]; rfl
        refine ⟨recs ++ [⟨x, A1, q1, A2, q2, A3, q3⟩], by rw [hl]; omega, by rw [hl, u2], ?_, ?_, ?_, ?_⟩
        · rw [hl, List.map_append, hmap, List.take_add_one, hx]; rfl
        · rw [hl, srs0_snoc, ← enw]; exact hown5
        · refine hrow.more (grw hown hWs hb3 (h34 _ _) hg5 (hat5.imp_right fun h => by rw [h]; simp)) ?_
          intro r hr
          simp only [List.mem_singleton] at hr
          subst hr
          exact ⟨hes, hlim⟩
        · exact ((hW.trans (hb3.mono hWs)).trans ((h34 _ _).mono (by have := hb3.size; omega))).grown hg5 (HN5.out _ _) (fun q hq => (own_lt hown hq).2)
    · have i2 : decide (j < n) = false := decide_eq_false hlt
      have hl : recs.map SR0.s = l := by rw [hmap, List.take_of_length_le (by omega)]
      have hjn : j = n := by rw [ej, en, ← hl]; simp
      rw [hjn] at hown
      have HX := Lib.hid (And.intro hl (And.intro hown (And.intro hrow hW)))
      clear hg hmap hown hrow hW en hm h IH hs eg ej hl hjn
      go_wp2_with fail
      go_ret
      obtain ⟨hl, hown, hrow, hW⟩ := HX.out
      exact ⟨_, recs, rfl, hl, hown, hrow, hW⟩
theorem copyS_all : ∀ s, CpS s ∧ CpSs s := by
  intro s
  induction s with
  | zero =>
    refine ⟨fun x EA ec BA bc LA lc w hs => ?_, fun l A c w hs => ?_⟩
    · exfalso
      cases x
      simp only [S0.mk.sizeOf_spec] at hs
      omega
    · exfalso
      cases l <;> simp at hs
  | succ s ih => exact ⟨copyS_succ s ih.2, copySs_succ s ih.1⟩
theorem CopyStmts_ok (l : List S0) (A : Option Addr) (c : Nat) (w : World) (hm : l.length ≤ 1000000) (h : ∀ d, SsAt w d A l) :
    Calls Tryz.prog 13 #[.slice A l.length c] w (CssR w l) := (copyS_all _).2 l A c w (Nat.le_refl _) hm h
end
end Go.Proofs.YtocbddajakbemaaGreat
set_option linter.unusedSimpArgs false
namespace Go.Proofs.YtocbddajakbemaaGreat
section
open Go.RowKit
def MRow (W : World) (B : Nat) (v : Value) (l : List S0) : Prop :=
  ∃ recs : List SR0, recs.map SR0.s = l ∧ W.ownsRow B 39 6 v l.length (srs0 recs) ∧ RowS0 W (fun q => (B ≤ q ∧ q < W.heap.size) ∧ v.ownBlock ≠ some q) recs
theorem MRow.below {W W' : World} {B : Nat} {v : Value} {l : List S0} (h : MRow W B v l) (hb : Below W.heap.size W W') : MRow W' B v l := by
  obtain ⟨recs, h1, h2, h3⟩ := h
  have hs := hb.size
  exact ⟨recs, h1, own_same h2 (fun q hq => hb.block q hq), h3.step (fun q hq => hb.block q hq.1.2) (fun q hq => ⟨⟨hq.1.1, by omega⟩, hq.2⟩)⟩
theorem MRow.read {W : World} {B : Nat} {v : Value} {l : List S0} (h : MRow W B v l) : ∃ A c, v = .slice A l.length c ∧ ∀ d, SsAt W d A l := by
  obtain ⟨recs, rfl, hown, hrow⟩ := h
  rw [List.length_map] at hown ⊢
  obtain ⟨A, c, rfl, hss⟩ := row_ss0 (ok := fun q => B ≤ q ∧ q < W.heap.size) hown (hrow.step (fun q _ => rfl) (fun q h => h.1)) (fun q h1 h2 => ⟨h1, h2⟩)
  exact ⟨A, c, rfl, fun d => (hss d).at_⟩
theorem MRow.shape {W : World} {B : Nat} {v : Value} {l : List S0} (h : MRow W B v l) (hl : 0 < l.length) : ∃ rb c, v = .slice (some ⟨rb, 0, none⟩) l.length c ∧ B ≤ rb ∧ rb < W.heap.size := by
  obtain ⟨recs, rfl, hown, -⟩ := h
  rw [List.length_map] at hl hown ⊢
  obtain ⟨b, cp, e, hb, -⟩ := row_own hown (by rw [srs0, flat_len _ 6 sr0_len]; omega)
  exact ⟨b, cp, e, hb⟩
theorem MRow.cells {W : World} {B rb n c : Nat} {l : List S0} {j : Nat} {s : S0} (h : MRow W B (.slice (some ⟨rb, 0, none⟩) n c) l) (hj : l[j]? = some s) :
    ∃ EA ec BA bc LA lc, SCells W rb (j * 6) s EA ec BA bc LA lc ∧ (∀ k, W.frozen? ⟨rb, k, none⟩ = false) ∧ (∀ d, EsIn (fun q => (B ≤ q ∧ q < W.heap.size) ∧ rb ≠ q) W d EA s.e) ∧ (∀ d, SsIn (fun q => (B ≤ q ∧ q < W.heap.size) ∧ rb ≠ q) W d BA s.b) ∧ ∀ d, SsIn (fun q => (B ≤ q ∧ q < W.heap.size) ∧ rb ≠ q) W d LA s.els := by
  obtain ⟨recs, rfl, hown, hrow⟩ := h
  rw [List.getElem?_map] at hj
  rcases hx : recs[j]? with _ | r
  · rw [hx] at hj; cases hj
  rw [hx] at hj
  injection hj with hj
  subst hj
  have hlt := (List.getElem?_eq_some_iff.1 hx).1
  rw [List.length_map] at hown
  obtain ⟨b, cp, e, hb, hcell⟩ := row_own hown (by rw [srs0, flat_len _ 6 sr0_len]; omega)
  simp only [Value.slice.injEq, Option.some.injEq, Addr.mk.injEq, and_true] at e
  obtain ⟨rfl, rfl, rfl⟩ := e
  have hk : ∀ k, k < 6 → ∀ u, r.cells[k]? = some u → W.cell? ⟨rb, j * 6 + k, none⟩ = some u := fun k hk u hu => hcell _ u ((flat_at _ 6 sr0_len _ j r k hx hk).trans hu)
  obtain ⟨⟨h1, h2, h3⟩, h4⟩ := hrow r (List.mem_of_getElem? hx)
  have hi : ∀ q, ((B ≤ q ∧ q < W.heap.size) ∧ (Value.slice (some ⟨rb, 0, none⟩) recs.length c).ownBlock ≠ some q) → (B ≤ q ∧ q < W.heap.size) ∧ rb ≠ q := fun q h => ⟨h.1, fun e => h.2 (by rw [e]; rfl)⟩
  exact ⟨r.EA, r.ec, r.BA, r.bc, r.LA, r.lc, ⟨hk 0 (by omega) _ rfl, hk 1 (by omega) _ rfl, hk 2 (by omega) _ rfl, hk 3 (by omega) _ rfl, hk 4 (by omega) _ rfl, hk 5 (by omega) _ rfl, h4⟩, fun k => hown.frozenAt k,
    fun d => (h1 d).step (fun q _ => rfl) hi, fun d => (h2 d).step (fun q _ => rfl) hi, fun d => (h3 d).step (fun q _ => rfl) hi⟩
theorem set6 (p : List Value) (a0 a1 a2 a3 a4 a5 b0 b1 b2 b3 b4 b5 : Value) (q : List Value) (o : Nat) (h : p.length = o) :
    ((((((p ++ [a0, a1, a2, a3, a4, a5] ++ q).set o b0).set (o + 1) b1).set (o + 2) b2).set (o + 3) b3).set (o + 4) b4).set (o + 5) b5 = p ++ [b0, b1, b2, b3, b4, b5] ++ q := by
  subst h
  induction p with
  | nil => rfl
  | cons x p ih =>
    simp only [List.length_cons, List.cons_append]
    have e : ∀ k, p.length + 1 + k = (p.length + k) + 1 := fun k => by omega
    rw [e, e, e, e, e]
    simp only [List.set_cons_succ]
    rw [← ih]
theorem srs0_set {recs : List SR0} {j : Nat} {r t : SR0} (h : recs[j]? = some r) : ((((((srs0 recs).set (j * 6) (.int .u8 (t.s.op : Nat))).set (j * 6 + 1) (.int .i64 t.s.n)).set (j * 6 + 2) (.string t.s.nm)).set (j * 6 + 3) (.slice t.EA t.s.e.length t.ec)).set (j * 6 + 4) (.slice t.BA t.s.b.length t.bc)).set (j * 6 + 5) (.slice t.LA t.s.els.length t.lc) = srs0 (recs.set j t) := by
  have hlt := (List.getElem?_eq_some_iff.1 h).1
  have e : recs = recs.take j ++ r :: recs.drop (j + 1) := by
    have h2 := (List.getElem?_eq_some_iff.1 h).2
    rw [← h2, List.getElem_cons_drop, List.take_append_drop]
  have e1 : srs0 recs = srs0 (recs.take j) ++ r.cells ++ srs0 (recs.drop (j + 1)) := by
    conv => lhs; rw [e]
    simp [srs0]
  have e2 : srs0 (recs.set j t) = srs0 (recs.take j) ++ t.cells ++ srs0 (recs.drop (j + 1)) := by
    rw [List.set_eq_take_append_cons_drop, if_pos hlt]
    simp [srs0]
  rw [e1, e2]
  exact set6 _ _ _ _ _ _ _ _ _ _ _ _ _ _ _ (by rw [srs0, flat_len _ 6 sr0_len, List.length_take]; congr 1; omega)
def put6o (w : World) (g o : Nat) (a b c d e f : Value) : World := (((((w.setCell ⟨g, o, none⟩ a).setCell ⟨g, o + 1, none⟩ b).setCell ⟨g, o + 2, none⟩ c).setCell ⟨g, o + 3, none⟩ d).setCell ⟨g, o + 4, none⟩ e).setCell ⟨g, o + 5, none⟩ f
theorem put6o_ne (w : World) (g o : Nat) (a b c d e f : Value) {q : Nat} (hq : q ≠ g) : (put6o w g o a b c d e f).heap[q]? = w.heap[q]? := by
  unfold put6o
  rw [Below.heap_setCell _ _ _ _ hq, Below.heap_setCell _ _ _ _ hq, Below.heap_setCell _ _ _ _ hq, Below.heap_setCell _ _ _ _ hq, Below.heap_setCell _ _ _ _ hq, Below.heap_setCell _ _ _ _ hq]
theorem put6o_size (w : World) (g o : Nat) (a b c d e f : Value) : (put6o w g o a b c d e f).heap.size = w.heap.size := by unfold put6o; simp
theorem put6o_below {B : Nat} {w w' : World} {g : Nat} (o : Nat) (a b c d e f : Value) (h : Below B w w') (hg : B ≤ g) : Below B w (put6o w' g o a b c d e f) := by
  unfold put6o
  exact (((((h.setCell (p := ⟨g, o, none⟩) hg _).setCell (p := ⟨g, o + 1, none⟩) hg _).setCell (p := ⟨g, o + 2, none⟩) hg _).setCell (p := ⟨g, o + 3, none⟩) hg _).setCell (p := ⟨g, o + 4, none⟩) hg _).setCell (p := ⟨g, o + 5, none⟩) hg _
theorem put6o_own {w : World} {B T g n cap : Nat} {xs : List Value} (o : Nat) (a b c d e f : Value) (h : w.ownsRow B T 6 (.slice (some ⟨g, 0, none⟩) n cap) n xs) :
    (put6o w g o a b c d e f).ownsRow B T 6 (.slice (some ⟨g, 0, none⟩) n cap) n ((((((xs.set o a).set (o + 1) b).set (o + 2) c).set (o + 3) d).set (o + 4) e).set (o + 5) f) := by
  unfold put6o
  exact (((((((h.stored o a).1).stored (o + 1) b).1.stored (o + 2) c).1.stored (o + 3) d).1.stored (o + 4) e).1.stored (o + 5) f).1
theorem MRow.set {W : World} {B rb n c j : Nat} {l : List S0} {s : S0} (h : MRow W B (.slice (some ⟨rb, 0, none⟩) n c) l) (hj : j < l.length) (EA : Option Addr) (ec : Nat) (BA : Option Addr) (bc : Nat) (LA : Option Addr) (lc : Nat) (hl : SLim s)
    (hE : ∀ d, EsIn (fun q => (B ≤ q ∧ q < W.heap.size) ∧ rb ≠ q) W d EA s.e) (hB : ∀ d, SsIn (fun q => (B ≤ q ∧ q < W.heap.size) ∧ rb ≠ q) W d BA s.b) (hL : ∀ d, SsIn (fun q => (B ≤ q ∧ q < W.heap.size) ∧ rb ≠ q) W d LA s.els) :
    MRow (put6o W rb (j * 6) (.int .u8 (s.op : Nat)) (.int .i64 s.n) (.string s.nm) (.slice EA s.e.length ec) (.slice BA s.b.length bc) (.slice LA s.els.length lc)) B (.slice (some ⟨rb, 0, none⟩) n c) (l.set j s) := by
  obtain ⟨recs, rfl, hown, hrow⟩ := h
  rw [List.length_map] at hj hown
  have hx : recs[j]? = some recs[j] := List.getElem?_eq_getElem hj
  have hn : n = recs.length := by
    rcases hown.2 with ⟨e, -⟩ | ⟨g, cap, cur, e, -⟩
    · cases e
    · simp only [Value.slice.injEq] at e
      exact e.2.1
  subst hn
  refine ⟨recs.set j ⟨s, EA, ec, BA, bc, LA, lc⟩, by rw [List.map_set], ?_, ?_⟩
  · rw [List.length_set, List.length_map]
    have := put6o_own (j * 6) (.int .u8 (s.op : Nat)) (.int .i64 s.n) (.string s.nm) (.slice EA s.e.length ec) (.slice BA s.b.length bc) (.slice LA s.els.length lc) hown
    rw [srs0_set (t := ⟨s, EA, ec, BA, bc, LA, lc⟩) hx] at this
    exact this
  · have hi : ∀ q, (B ≤ q ∧ q < W.heap.size) ∧ rb ≠ q → (B ≤ q ∧ q < (put6o W rb (j * 6) (.int .u8 (s.op : Nat)) (.int .i64 s.n) (.string s.nm) (.slice EA s.e.length ec) (.slice BA s.b.length bc) (.slice LA s.els.length lc)).heap.size) ∧ (Value.slice (some ⟨rb, 0, none⟩) recs.length c).ownBlock ≠ some q := fun q h => ⟨by rw [put6o_size]; exact h.1, fun e => h.2 (by
      have : some rb = some q := e
      injection this)⟩
    have hq : ∀ q, (B ≤ q ∧ q < W.heap.size) ∧ rb ≠ q → (put6o W rb (j * 6) (.int .u8 (s.op : Nat)) (.int .i64 s.n) (.string s.nm) (.slice EA s.e.length ec) (.slice BA s.b.length bc) (.slice LA s.els.length lc)).heap[q]? = W.heap[q]? := fun q h => put6o_ne _ _ _ _ _ _ _ _ _ (fun e => h.2 e.symm)
    intro r hr
    rcases List.mem_or_eq_of_mem_set hr with hr | hr
    · exact (hrow.step (ok' := fun q => (B ≤ q ∧ q < W.heap.size) ∧ rb ≠ q) (fun q _ => rfl) (fun q h => ⟨h.1, fun e => h.2 (by rw [e]; rfl)⟩)).step hq hi r hr
    · subst hr
      exact ⟨⟨fun d => (hE d).step hq hi, fun d => (hB d).step hq hi, fun d => (hL d).step hq hi⟩, hl⟩
theorem block_cells {W : World} {sb o ob : Nat} {l : List S0} {LA : Option Addr} {lc : Nat} (h0 : W.cell? ⟨sb, o, none⟩ = some (.int .u8 4)) (h1 : W.cell? ⟨sb, o + 1, none⟩ = some (.int .i64 0)) (h2 : W.cell? ⟨sb, o + 2, none⟩ = some (.string ⟨#[]⟩))
    (h3 : W.cell? ⟨sb, o + 3, none⟩ = some (.slice (some ⟨ob, 0, none⟩) 1 1)) (h4 : W.cell? ⟨sb, o + 4, none⟩ = some (.slice LA l.length lc)) (h5 : W.cell? ⟨sb, o + 5, none⟩ = some (.slice none 0 0)) (hl : l.length ≤ 1000000) : SCells W sb o (blockS l) (some ⟨ob, 0, none⟩) 1 LA lc none 0 :=
  ⟨h0, h1, h2, h3, h4, h5, ⟨(by decide : (4 : Nat) < 256), (by decide : -9223372036854775808 ≤ (0 : Int)), (by decide : (0 : Int) ≤ 9223372036854775807), (by decide : (1 : Nat) ≤ 1000000), hl, (by decide : (0 : Nat) ≤ 1000000)⟩⟩
theorem one_in {W : World} {ob : Nat} {ok : Nat → Prop} (h : W.heap[ob]? = some (.cells #[.int .u8 1, .int .i64 1, .string ⟨#[]⟩, .slice none 0 0] 34 (0, 0))) (hob : ok ob) : ∀ k, EsIn ok W k (some ⟨ob, 0, none⟩) [oneE] := by
  intro k
  rcases k with _ | k
  · trivial
  intro j x hj
  rcases j with _ | j
  · simp at hj
    subst hj
    exact ⟨ob, 0, none, 0, rfl, hob, ⟨(cell_of_block h 0).trans rfl, (cell_of_block h 1).trans rfl, (cell_of_block h 2).trans rfl, (cell_of_block h 3).trans rfl, fun _ => ⟨rfl, rfl⟩, by decide⟩, EsIn.nil k _, Nat.zero_le _⟩
  · simp at hj
theorem loop_row {W : World} {sb ob : Nat} {ok : Nat → Prop} {x : S0} {EA BA EL : Option Addr} {ke kb kl ec bc el : Nat} (hb : W.heap[sb]? = some (.cells #[.int .u8 4, .int .i64 0, .string ⟨#[]⟩, .slice (some ⟨ob, 0, none⟩) 1 1, .slice BA kb bc, .slice none 0 0, .int .u8 (x.op : Nat), .int .i64 x.n, .string x.nm, .slice EA ke ec, .slice BA kb bc, .slice EL kl el] 39 (0, 0)))
    (ho : W.heap[ob]? = some (.cells #[.int .u8 1, .int .i64 1, .string ⟨#[]⟩, .slice none 0 0] 34 (0, 0))) (hsb : ok sb) (hob : ok ob) (eke : ke = x.e.length) (ekb : kb = x.b.length) (ekl : kl = x.els.length) (hE : ∀ d, EsIn ok W d EA x.e) (hB : ∀ d, SsIn ok W d BA x.b) (hL : ∀ d, SsIn ok W d EL x.els) (hl : SLim x) : ∀ d, SsIn ok W d (some ⟨sb, 0, none⟩) [blockS x.b, x] := by
  subst eke ekb ekl
  intro d
  rcases d with _ | d
  · trivial
  intro j s hj
  rcases j with _ | _ | j
  · simp at hj
    subst hj
    exact ⟨sb, 0, _, _, _, _, _, _, rfl, hsb, block_cells ((cell_of_block hb 0).trans rfl) ((cell_of_block hb 1).trans rfl) ((cell_of_block hb 2).trans rfl) ((cell_of_block hb 3).trans rfl) ((cell_of_block hb 4).trans rfl) ((cell_of_block hb 5).trans rfl) hl.2.2.2.2.1, one_in ho hob, hB d, SsIn.nil d _⟩
  · simp at hj
    subst hj
    exact ⟨sb, 0, _, _, _, _, _, _, rfl, hsb, ⟨(cell_of_block hb 6).trans rfl, (cell_of_block hb 7).trans rfl, (cell_of_block hb 8).trans rfl, (cell_of_block hb 9).trans rfl, (cell_of_block hb 10).trans rfl, (cell_of_block hb 11).trans rfl, hl⟩, hE, hB d, hL d⟩
  · simp at hj
end
end Go.Proofs.YtocbddajakbemaaGreat
