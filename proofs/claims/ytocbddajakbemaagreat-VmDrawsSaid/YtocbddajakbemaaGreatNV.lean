/- vm, plain: programs that draw up to three numbers. vm: what VmDraws' walk holds. -/
import Derived.Test.YtocbddajakbemaaGreatNT
import Derived.Test.YtocbddajakbemaaGreatNU
import Derived.Test.YtocbddajakbemaaGreatMU
set_option linter.unusedVariables false
set_option linter.unusedSimpArgs false
set_option linter.unusedSimpArgs false
namespace Go.Proofs.YtocbddajakbemaaGreat
section
open Go.RowKit

theorem drawV_range (s k n : Int) (n0 : 1 ≤ n) (n1 : n ≤ 2147483648) : 0 ≤ drawV s k n ∧ drawV s k n < n := by
  unfold drawV foldV
  rw [if_pos (J_ok s k n (by omega) (by omega))]
  unfold M.rem
  rw [if_neg (by omega)]
  have : (wordI s (wrap64 (k + (J s k n : Nat)))).toNat % n.toNat < n.toNat := Nat.mod_lt _ (by omega)
  omega
def drawS (i n : Int) : S0 := .mk 3 7 ⟨#[]⟩ [.mk 1 i ⟨#[]⟩ [], .mk 6 0 ⟨#[]⟩ [.mk 1 n ⟨#[]⟩ []]] [] []
/-- A program with k draws. -/
def progD (b : Nat → Int) : Nat → List S0
  | 0 => []
  | k + 1 => progD b k ++ [drawS (k : Nat) (b k)]
def codeD (b : Nat → Int) : Nat → List (Nat × Int)
  | 0 => []
  | k + 1 => codeD b k ++ [(1, ((k : Nat) : Int)), (1, b k), (8, 0), (5, 7)]
theorem codeD_len (b : Nat → Int) (k : Nat) : (codeD b k).length = 4 * k := by
  induction k with
  | zero => rfl
  | succ k ih => simp [codeD, ih]; omega
theorem drawS_code (i n : Int) (ν : List ByteArray) (p : Nat) : stmtC 40 (drawS i n) ν p = [(1, i), (1, n), (8, 0), (5, 7)] := by
  rfl
theorem namesD (b : Nat → Int) (k : Nat) : namesV (progD b k) [] = [] := by
  induction k with
  | zero => rfl
  | succ k ih => rw [progD, namesV_snoc, ih]; rfl
theorem codeD_P (b : Nat → Int) (k : Nat) : codeP (progD b k) = codeD b k := by
  unfold codeP
  induction k with
  | zero => rfl
  | succ k ih => rw [progD, listC_snoc, ih, drawS_code]; rfl
theorem progD_len (b : Nat → Int) (k : Nat) : (progD b k).length = k := by
  induction k with
  | zero => rfl
  | succ k ih => simp [progD, ih]
theorem drawS_right (i n : Int) (hi : 0 ≤ i) (hn : 0 ≤ n) : rightS 40 (drawS i n) = true := by
  simp [rightS, drawS, headS, wantF, S0.op, S0.e, S0.n, S0.nm, S0.b, S0.els, kindB, fineB, manyF, E0.op, E0.n, E0.nm, E0.args, hi, hn]
  exact ⟨rfl, Or.inl rfl⟩
theorem okD (b : Nat → Int) (hb : ∀ i, 1 ≤ b i) (k : Nat) (hk : k ≤ 3) : okP (progD b k) = true := by
  have h1 : ∀ k, (progD b k).all (rightS 40) = true := by
    intro k
    induction k with
    | zero => rfl
    | succ k ih =>
      rw [progD, List.all_append, ih, List.all_cons, drawS_right _ _ (by omega) (by have := hb k; omega)]
      rfl
  have h2 : ∀ k, listG (stmtG 40) (progD b k) [] = true := by
    intro k
    induction k with
    | zero => rfl
    | succ k ih =>
      rw [progD, listG_snoc, ih, namesD]
      simp [stmtG, drawS, S0.op, S0.e, exprG, E0.op, E0.args]
  unfold okP
  rw [h1, h2, codeD_P, codeD_len, decide_eq_true (by omega)]
  rfl
/-- Where the draws are, and what is drawn. -/
noncomputable def kD (s : Int) (b : Nat → Int) : Nat → Int
  | 0 => 0
  | i + 1 => drawK s (kD s b i) (b i)
noncomputable def vD (s : Int) (b : Nat → Int) (i : Nat) : Int := drawV s (kD s b i) (b i)
/-- The numbers behind k draws. -/
noncomputable def cD (s : Int) (b : Nat → Int) : Nat → Cmp
  | 0 => ⟨7, 0, 0, 0, 0⟩
  | k + 1 => (cD s b k).set k (vD s b k)
theorem cD_kind (s : Int) (b : Nat → Int) (k : Nat) : (cD s b k).kind = 7 := by
  induction k with
  | zero => rfl
  | succ k ih => rw [cD, put_kind, ih]
theorem idx_one {c : Cmp} (h : c.kind = 7) : idxC [c] 7 = 0 := by
  unfold idxC
  rw [List.findIdx_cons, h]
  rfl
theorem run_step {S : Fix} {code : List (Nat × Int)} {σ σ' : Mst} {p : Nat} {x : Nat × Int} (hp : σ.at_ = (p : Nat)) (hx : code[p]? = some x) (hd : deedF S x.1 x.2 { σ with at_ := (p : Int) + 1 } = some (.ok σ')) (f : Nat) : runF S code (f + 1) σ = runF S code f σ' := by
  have hlt := (List.getElem?_eq_some_iff.1 hx).1
  rw [runF.eq_def]
  simp only
  rw [if_neg (by omega), if_neg (by omega)]
  have e1 : σ.at_.toNat = p := by omega
  rw [e1, hx]
  simp only
  have e2 : { σ with at_ := σ.at_ + 1 } = { σ with at_ := (p : Int) + 1 } := by rw [hp]
  rw [e2, hd]
theorem draw_step {S : Fix} {code : List (Nat × Int)} {p : Nat} {i : Nat} {n : Int} (hi : i ≤ 3) (n0 : 1 ≤ n) (n1 : n ≤ 2147483648) (hc : SegAt code p [(1, ((i : Nat) : Int)), (1, n), (8, 0), (5, 7)]) (f : Nat) (k : Int) (ls : List Int) (c : Cmp) (hk : c.kind = 7) :
    runF S code (f + 4) ⟨(p : Nat), k, [], ls, [c]⟩ = runF S code f ⟨((p + 4 : Nat) : Int), drawK S.s k n, [], ls, [c.set i (drawV S.s k n)]⟩ := by
  have c0 := hc.head
  have c1 := hc.tail.head
  have c2 := hc.tail.tail.head
  have c3 := hc.tail.tail.tail.head
  rw [run_step (σ' := ⟨((p + 1 : Nat) : Int), k, [((i : Nat) : Int)], ls, [c]⟩) rfl c0 (by simp [deedF]) (f + 3)]
  rw [run_step (σ' := ⟨((p + 1 + 1 : Nat) : Int), k, [n, ((i : Nat) : Int)], ls, [c]⟩) rfl c1 (by simp [deedF]) (f + 2)]
  rw [run_step (σ' := ⟨((p + 1 + 1 + 1 : Nat) : Int), drawK S.s k n, [drawV S.s k n, ((i : Nat) : Int)], ls, [c]⟩) rfl c2 (by
    simp only [deedF]
    rw [if_neg (by simp), if_neg (by omega)]
    rfl) (f + 1)]
  rw [run_step (σ' := ⟨((p + 1 + 1 + 1 + 1 : Nat) : Int), drawK S.s k n, [], ls, [c.set i (drawV S.s k n)]⟩) rfl c3 (by
    simp only [deedF]
    rw [if_neg (by simp), idx_one hk]
    simp only [List.getElem?_cons_zero, List.set_cons_zero]
    rw [if_neg (by omega), Int.toNat_natCast]
    rfl) f]
theorem run_draws (S : Fix) (b : Nat → Int) (hb : ∀ i, 1 ≤ b i ∧ b i ≤ 2147483648) (code : List (Nat × Int)) (ls : List Int) : ∀ (k : Nat), k ≤ 4 → (∀ (j : Nat) (x : Nat × Int), (codeD b k)[j]? = some x → code[j]? = some x) → ∀ f : Nat, runF S code (f + 4 * k) ⟨0, 0, [], ls, [cD S.s b 0]⟩ = runF S code f ⟨((4 * k : Nat) : Int), kD S.s b k, [], ls, [cD S.s b k]⟩ := by
  intro k
  induction k with
  | zero => intro _ _ f; rfl
  | succ k ih =>
    intro hk hc f
    have hc1 : ∀ (j : Nat) (x : Nat × Int), (codeD b k)[j]? = some x → code[j]? = some x := fun j x hj => hc j x (by rw [codeD, List.getElem?_append_left (List.getElem?_eq_some_iff.1 hj).1]; exact hj)
    have hc2 : SegAt code (4 * k) [(1, ((k : Nat) : Int)), (1, b k), (8, 0), (5, 7)] := fun j x hj => by
      refine hc _ x ?_
      rw [codeD, List.getElem?_append_right (by rw [codeD_len]; omega), codeD_len]
      simpa using hj
    rw [show f + 4 * (k + 1) = (f + 4) + 4 * k by omega, ih (by omega) hc1 (f + 4), draw_step (by omega) (hb k).1 (hb k).2 hc2 f _ ls _ (cD_kind _ b k)]
    rfl
/-- A run of a program with k draws. -/
theorem run_progD (b : Nat → Int) (hb : ∀ i, 1 ≤ b i ∧ b i ≤ 2147483648) (k : Nat) (hk : k ≤ 3) (ID seed tick key : Int) : ∃ r, runF (fixP (progD b k) ID seed tick key) (codeP (progD b k)) 10000 (start (localsP (progD b k)) [⟨7, 0, 0, 0, 0⟩]) = some r ∧ endN r = 0 ∧ endC [⟨7, 0, 0, 0, 0⟩] r = [cD (newI seed tick ID key) b k] := by
  have h := run_draws (fixP (progD b k) ID seed tick key) b hb (codeP (progD b k)) (List.replicate (localsP (progD b k)) 0) k (by omega) (by rw [codeD_P]; exact fun _ _ h => h) (10000 - 4 * k)
  rw [show 10000 - 4 * k + 4 * k = 10000 by omega] at h
  refine ⟨.ok (10000 - 4 * k, ⟨((4 * k : Nat) : Int), kD (newI seed tick ID key) b k, [], List.replicate (localsP (progD b k)) 0, [cD (newI seed tick ID key) b k]⟩), h.trans ?_, rfl, rfl⟩
  rw [runF.eq_def]
  simp only
  rw [if_neg (by omega), if_pos (by rw [codeD_P, codeD_len]; exact Int.le_refl _)]
  rfl
theorem cD_get (s : Int) (b : Nat → Int) (k : Nat) (hk : k ≤ 3) (j : Nat) (hj : j < k) : (cD s b k).get j = vD s b j := by
  match k, hk with
  | 0, _ => omega
  | 1, _ =>
    obtain rfl : j = 0 := by omega
    rfl
  | 2, _ =>
    rcases (show j = 0 ∨ j = 1 by omega) with rfl | rfl <;> rfl
  | 3, _ =>
    rcases (show j = 0 ∨ j = 1 ∨ j = 2 by omega) with rfl | rfl | rfl <;> rfl
end
end Go.Proofs.YtocbddajakbemaaGreat
set_option linter.unusedSimpArgs false
namespace Go.Proofs.YtocbddajakbemaaGreat
section
open Go.RowKit

def bdF (u0 u1 u2 : Int) (i : Nat) : Int := if i = 0 then u0 else if i = 1 then u1 else u2
def bF (u0 u1 u2 : Int) (i : Nat) : Int := 1 + bdF u0 u1 u2 i % 2147483648
/-- The boxes of VmDraws: the environment, the bounds; the entity and its component. -/
structure DrIn (w W : World) (g cb : Nat) (seed tick key ID u0 u1 u2 : Int) : Prop where
  v : W.heap[g]? = some (.cells #[.int .u64 seed, .int .i64 tick, .int .u64 key] 28 (0, 0))
  d : W.heap[g + 1]? = some (.cells #[.int .u32 u0, .int .u32 u1, .int .u32 u2] 45 (0, 0))
  c : W.heap[cb]? = some (.cells #[.int .u8 7, .int .i64 0, .int .i64 0, .int .i64 0, .int .i64 0] 48 (0, 0))
  x : W.heap[cb + 1]? = some (.cells #[.int .i64 ID, .slice (some ⟨cb, 0, none⟩) 1 1] 25 (0, 0))
  b : Below g w W
  l : g + 2 ≤ cb
theorem DrIn.keep {w W W' : World} {g cb : Nat} {seed tick key ID u0 u1 u2 : Int} (h : DrIn w W g cb seed tick key ID u0 u1 u2) (hb : Below (cb + 2) W W') : DrIn w W' g cb seed tick key ID u0 u1 u2 := by
  have hl := h.l
  exact ⟨(hb.block _ (by omega)).trans h.v, (hb.block _ (by omega)).trans h.d, (hb.block _ (by omega)).trans h.c, (hb.block _ (by omega)).trans h.x, h.b.trans (hb.mono (by omega)), hl⟩
theorem DrIn.facts {w W : World} {g cb : Nat} {seed tick key ID u0 u1 u2 : Int} (h : DrIn w W g cb seed tick key ID u0 u1 u2) :
    (W.cell? ⟨g, 0, none⟩ = some (.int .u64 seed) ∧ W.cell? ⟨g, 1, none⟩ = some (.int .i64 tick) ∧ W.cell? ⟨g, 2, none⟩ = some (.int .u64 key)) ∧ (W.cell? ⟨cb + 1, 0, none⟩ = some (.int .i64 ID) ∧ W.cell? ⟨cb + 1, 1, none⟩ = some (.slice (some ⟨cb, 0, none⟩) 1 1)) :=
  ⟨⟨(cell_of_block h.v 0).trans rfl, (cell_of_block h.v 1).trans rfl, (cell_of_block h.v 2).trans rfl⟩, (cell_of_block h.x 0).trans rfl, (cell_of_block h.x 1).trans rfl⟩
theorem DrIn.bound {w W : World} {g cb : Nat} {seed tick key ID u0 u1 u2 : Int} (h : DrIn w W g cb seed tick key ID u0 u1 u2) (i : Nat) (hi : i ≤ 2) : W.cell? ⟨g + 1, i, none⟩ = some (.int .u32 (bdF u0 u1 u2 i)) := by
  rw [cell_of_block h.d i]
  rcases (show i = 0 ∨ i = 1 ∨ i = 2 by omega) with rfl | rfl | rfl <;> rfl
/-- The entities so far. -/
structure DrGot (W : World) (q i : Nat) (ID s : Int) (b : Nat → Int) (cs : Array Value) : Prop where
  blk : W.heap[q]? = some (.cells cs 49 (0, 0))
  size : cs.size = 6
  got : ∀ j, j < i → cs[j * 2]? = some (.int .i64 ID) ∧ ∃ eb c, q < eb ∧ cs[j * 2 + 1]? = some (.slice (some ⟨eb, 0, none⟩) 1 c) ∧ W.ownsRow eb 48 5 (.slice (some ⟨eb, 0, none⟩) 1 c) 1 (comps [cD s b (j + 1)])
theorem DrGot.keep {W W' : World} {q i : Nat} {ID s : Int} {b : Nat → Int} {cs : Array Value} (h : DrGot W q i ID s b cs) (hb : Below W.heap.size W W') : DrGot W' q i ID s b cs := by
  refine ⟨(hb.block _ (lt_of_block h.blk)).trans h.blk, h.size, fun j hj => ?_⟩
  obtain ⟨h1, eb, c, h2, h3, h4⟩ := h.got j hj
  exact ⟨h1, eb, c, h2, h3, own_blk h4 (fun k hk => hb.block k (own_lt h4 hk).1)⟩
/-- The statements so far. -/
structure DrRow (W : World) (B i : Nat) (b : Nat → Int) (lv : Value) (xs : List Value) : Prop where
  row : W.ownsRow B 39 6 lv i xs
  at_ : ∀ j, j < i → ∃ eb fb, (∀ k, k < 6 → xs[j * 6 + k]? = #[Value.int .u8 3, .int .i64 7, .string ⟨#[]⟩, .slice (some ⟨eb, 0, none⟩) 2 2, .slice none 0 0, .slice none 0 0][k]?) ∧
    W.heap[eb]? = some (.cells #[.int .u8 1, .int .i64 ((j : Nat) : Int), .string ⟨#[]⟩, .slice none 0 0, .int .u8 6, .int .i64 0, .string ⟨#[]⟩, .slice (some ⟨fb, 0, none⟩) 1 1] 34 (0, 0)) ∧
    W.heap[fb]? = some (.cells #[.int .u8 1, .int .i64 (b j), .string ⟨#[]⟩, .slice none 0 0] 34 (0, 0))
theorem DrRow.keep {W W' : World} {B i : Nat} {b : Nat → Int} {lv : Value} {xs : List Value} (h : DrRow W B i b lv xs) (hb : Below W.heap.size W W') : DrRow W' B i b lv xs := by
  refine ⟨own_blk h.row (fun k hk => hb.block k (own_lt h.row hk).1), fun j hj => ?_⟩
  obtain ⟨eb, fb, h1, h2, h3⟩ := h.at_ j hj
  exact ⟨eb, fb, h1, (hb.block _ (lt_of_block h2)).trans h2, (hb.block _ (lt_of_block h3)).trans h3⟩
theorem DrGot.grown {W W8 w6 : World} {q i m : Nat} {ID s : Int} {b : Nat → Int} {cs : Array Value} {u : Value} {xs : List Value} (h : DrGot W q i ID s b cs) (hb : Below W.heap.size W W8) (hr : W.ownsRow (q + 1) 39 6 u m xs) (hg : W8.grownBy w6 u.ownBlock) : DrGot w6 q i ID s b cs := by
  have h8 := h.keep hb
  have hr8 : W8.ownsRow (q + 1) 39 6 u m xs := own_blk hr (fun k hk => hb.block k (own_lt hr hk).1)
  refine ⟨(hg.block q (lt_of_block h8.blk) (fun e => own_neq hr8 h8.blk (by decide) e.symm)).trans h8.blk, h8.size, fun j hj => ?_⟩
  obtain ⟨h1, eb, c, h2, h3, h4⟩ := h8.got j hj
  exact ⟨h1, eb, c, h2, h3, own_blk h4 (fun k hk => hg.block k (own_lt h4 hk).1 (fun e => own_own_ne h4 hr8 (by decide) hk e.symm))⟩
theorem DrIn.grown {w W W8 w6 : World} {g cb q m : Nat} {seed tick key ID u0 u1 u2 : Int} {u : Value} {xs : List Value} (h : DrIn w W g cb seed tick key ID u0 u1 u2) (hb : Below W.heap.size W W8) (hq : q = cb + 2) (hr : W.ownsRow (q + 1) 39 6 u m xs) (hg : W8.grownBy w6 u.ownBlock) : DrIn w w6 g cb seed tick key ID u0 u1 u2 := by
  have hl := lt_of_block h.x
  have hs := hb.size
  refine h.keep ⟨hg.os.trans hb.os, hg.tape.trans hb.tape, hg.output.trans hb.output, Nat.le_trans hs hg.size, fun k hk => ?_⟩
  refine (hg.block k (by omega) (fun e => ?_)).trans (hb.block k (by omega))
  have := (own_lt hr e.symm).2
  omega
theorem DrRow.grown {W W8 w6 : World} {q i : Nat} {b : Nat → Int} {u v : Value} {xs : List Value} {eb fb : Nat} (h : DrRow W (q + 1) i b u xs) (hb : Below W.heap.size W W8) (hg : W8.grownBy w6 u.ownBlock)
    (he : W8.heap[eb]? = some (.cells #[.int .u8 1, .int .i64 ((i : Nat) : Int), .string ⟨#[]⟩, .slice none 0 0, .int .u8 6, .int .i64 0, .string ⟨#[]⟩, .slice (some ⟨fb, 0, none⟩) 1 1] 34 (0, 0)))
    (hf : W8.heap[fb]? = some (.cells #[.int .u8 1, .int .i64 (b i), .string ⟨#[]⟩, .slice none 0 0] 34 (0, 0)))
    (ho : w6.ownsRow (q + 1) 39 6 v (i + 1) (xs ++ [.int .u8 3, .int .i64 7, .string ⟨#[]⟩, .slice (some ⟨eb, 0, none⟩) 2 2, .slice none 0 0, .slice none 0 0])) : DrRow w6 (q + 1) (i + 1) b v (xs ++ [.int .u8 3, .int .i64 7, .string ⟨#[]⟩, .slice (some ⟨eb, 0, none⟩) 2 2, .slice none 0 0, .slice none 0 0]) := by
  have h8 := h.keep hb
  have hx : xs.length = i * 6 := h.row.1
  have keep : ∀ (k : Nat) (cs : Array Value), W8.heap[k]? = some (.cells cs 34 (0, 0)) → w6.heap[k]? = some (.cells cs 34 (0, 0)) := fun k cs hk => (hg.block k (lt_of_block hk) (fun e => own_neq h8.row hk (by decide) e.symm)).trans hk
  refine ⟨ho, fun j hj => ?_⟩
  by_cases hji : j < i
  · obtain ⟨eb', fb', h1, h2, h3⟩ := h8.at_ j hji
    refine ⟨eb', fb', fun k hk => ?_, keep _ _ h2, keep _ _ h3⟩
    rw [List.getElem?_append_left (by omega)]
    exact h1 k hk
  · obtain rfl : j = i := by omega
    refine ⟨eb, fb, fun k hk => ?_, keep _ _ he, keep _ _ hf⟩
    rw [List.getElem?_append_right (by omega), show j * 6 + k - xs.length = k by omega]
    rcases (show k = 0 ∨ k = 1 ∨ k = 2 ∨ k = 3 ∨ k = 4 ∨ k = 5 by omega) with rfl | rfl | rfl | rfl | rfl | rfl <;> rfl
theorem progD_at (b : Nat → Int) : ∀ (k j : Nat) (s : S0), (progD b k)[j]? = some s → j < k ∧ s = drawS ((j : Nat) : Int) (b j) := by
  intro k
  induction k with
  | zero => intro j s h; simp [progD] at h
  | succ k ih =>
    intro j s h
    rw [progD] at h
    by_cases hj : j < k
    · rw [List.getElem?_append_left (by rw [progD_len]; exact hj)] at h
      obtain ⟨h1, h2⟩ := ih j s h
      exact ⟨by omega, h2⟩
    · have hlt := (List.getElem?_eq_some_iff.1 h).1
      rw [List.length_append, progD_len] at hlt
      simp at hlt
      obtain rfl : j = k := by omega
      rw [List.getElem?_append_right (by rw [progD_len]; omega), progD_len, Nat.sub_self] at h
      simp at h
      exact ⟨by omega, h.symm⟩
theorem DrRow.ssat {W : World} {B i rb cap : Nat} {b : Nat → Int} {xs : List Value} (h : DrRow W B i b (.slice (some ⟨rb, 0, none⟩) i cap) xs) (hi : i ≤ 3) (hb : ∀ j, 1 ≤ b j ∧ b j ≤ 2147483648) : ∀ d, SsAt W d (some ⟨rb, 0, none⟩) (progD b i) := by
  intro d
  rcases d with _ | d
  · trivial
  intro j s hs
  obtain ⟨hj, rfl⟩ := progD_at b i j s hs
  obtain ⟨eb, fb, h1, h2, h3⟩ := h.at_ j hj
  have hx : xs.length = i * 6 := h.row.1
  have hc : ∀ k, k < 6 → W.cell? ⟨rb, 0 + j * 6 + k, none⟩ = #[Value.int .u8 3, .int .i64 7, .string ⟨#[]⟩, .slice (some ⟨eb, 0, none⟩) 2 2, .slice none 0 0, .slice none 0 0][k]? := by
    intro k hk
    rw [← h1 k hk, Nat.zero_add]
    exact h.row.cellAt (j * 6 + k) (by omega)
  have hbj := hb j
  refine ⟨rb, 0, some ⟨eb, 0, none⟩, 2, none, 0, none, 0, rfl, ⟨hc 0 (by omega), hc 1 (by omega), hc 2 (by omega), hc 3 (by omega), hc 4 (by omega), hc 5 (by omega), by show 3 < 256; omega, by show -9223372036854775808 ≤ (7 : Int); omega, by show (7 : Int) ≤ 9223372036854775807; omega, by show 2 ≤ 1000000; omega, by show 0 ≤ 1000000; omega, by show 0 ≤ 1000000; omega⟩, ?_, ?_, ?_⟩
  · intro k
    rcases k with _ | k
    · trivial
    intro e x hx
    have nil : ∀ k, EsAt W k none [] := fun k => by
      rcases k with _ | k
      · trivial
      · intro j x h; simp at h
    have hx : ([E0.mk 1 ((j : Nat) : Int) ⟨#[]⟩ [], E0.mk 6 0 ⟨#[]⟩ [E0.mk 1 (b j) ⟨#[]⟩ []]] : List E0)[e]? = some x := hx
    rcases e with _ | _ | e
    · simp at hx
      subst hx
      exact ⟨eb, 0, none, 0, rfl, ⟨(cell_of_block h2 0).trans rfl, (cell_of_block h2 1).trans rfl, (cell_of_block h2 2).trans rfl, (cell_of_block h2 3).trans rfl, fun _ => ⟨rfl, rfl⟩, by show 1 < 256; omega, by show -9223372036854775808 ≤ ((j : Nat) : Int); omega, by show ((j : Nat) : Int) ≤ 9223372036854775807; omega, by show 0 ≤ 1000000; omega⟩, nil k⟩
    · simp at hx
      subst hx
      refine ⟨eb, 0, some ⟨fb, 0, none⟩, 1, rfl, ⟨(cell_of_block h2 4).trans rfl, (cell_of_block h2 5).trans rfl, (cell_of_block h2 6).trans rfl, (cell_of_block h2 7).trans rfl, fun h => (by cases h), by show 6 < 256; omega, by show -9223372036854775808 ≤ (0 : Int); omega, by show (0 : Int) ≤ 9223372036854775807; omega, by show 1 ≤ 1000000; omega⟩, ?_⟩
      rcases k with _ | k
      · trivial
      intro e x hx
      have hx : ([E0.mk 1 (b j) ⟨#[]⟩ []] : List E0)[e]? = some x := hx
      rcases e with _ | e
      · simp at hx
        subst hx
        exact ⟨fb, 0, none, 0, rfl, ⟨(cell_of_block h3 0).trans rfl, (cell_of_block h3 1).trans rfl, (cell_of_block h3 2).trans rfl, (cell_of_block h3 3).trans rfl, fun _ => ⟨rfl, rfl⟩, by show 1 < 256; omega, by show -9223372036854775808 ≤ b j; omega, by show b j ≤ 9223372036854775807; omega, by show 0 ≤ 1000000; omega⟩, nil k⟩
      · simp at hx
    · simp at hx
  · rcases d with _ | d
    · trivial
    · intro e x hx
      have : ([] : List S0)[e]? = some x := hx
      simp at this
  · rcases d with _ | d
    · trivial
    · intro e x hx
      have : ([] : List S0)[e]? = some x := hx
      simp at this
theorem bF_range (u0 u1 u2 : Int) (i : Nat) : 1 ≤ bF u0 u1 u2 i ∧ bF u0 u1 u2 i ≤ 2147483648 := by unfold bF; omega
/-- The run of the program so far. -/
theorem draws_run {w W : World} {g cb B i rb cap : Nat} {seed tick key ID u0 u1 u2 : Int} {xs : List Value} (hD : DrIn w W g cb seed tick key ID u0 u1 u2) (hR : DrRow W B i (bF u0 u1 u2) (.slice (some ⟨rb, 0, none⟩) i cap) xs) (hi : i ≤ 3) (s0 : 0 ≤ seed) (s1 : seed ≤ 18446744073709551615) (k0 : 0 ≤ key) (k1 : key ≤ 18446744073709551615) :
    Calls Tryz.prog 11 #[.slice (some ⟨rb, 0, none⟩) i cap, .agg #[.int .i64 ID, .slice (some ⟨cb, 0, none⟩) 1 1], .agg #[.int .u64 seed, .int .i64 tick, .int .u64 key]] W fun e w' => ∃ ab cap', e = .returned (.tuple #[.agg #[.int .i64 ID, .slice (some ⟨ab, 0, none⟩) 1 cap'], .int .i64 0, .bool true]) ∧ W.heap.size ≤ ab ∧ w'.ownsRow ab 48 5 (.slice (some ⟨ab, 0, none⟩) 1 cap') 1 (comps [cD (newI seed tick ID key) (bF u0 u1 u2) i]) ∧ Below W.heap.size W w' := by
  obtain ⟨r, hr, e1, e2⟩ := run_progD (bF u0 u1 u2) (bF_range u0 u1 u2) i hi ID seed tick key
  have a : RunArg W (progD (bF u0 u1 u2) i) (some ⟨rb, 0, none⟩) i (some ⟨cb, 0, none⟩) 1 1 [⟨7, 0, 0, 0, 0⟩] seed key := by
    refine ⟨(progD_len _ _).symm, by omega, hR.ssat hi (bF_range u0 u1 u2) 41, fun _ => by rw [codeD_P, codeD_len]; omega, ⟨rfl, ?_, fun c hc => (by simp at hc; subst hc; decide), fun h => (by cases h)⟩, by decide, s0, s1, k0, k1⟩
    intro j u hu
    refine ⟨⟨cb, 0, none⟩, rfl, ?_⟩
    rw [Addr.add_mid, Nat.zero_add, cell_of_block hD.c j]
    have hu : ([.int .u8 7, .int .i64 0, .int .i64 0, .int .i64 0, .int .i64 0] : List Value)[j]? = some u := hu
    simpa using hu
  refine (lrun_ok (progD (bF u0 u1 u2) i) (some ⟨rb, 0, none⟩) i cap ID (some ⟨cb, 0, none⟩) 1 1 [⟨7, 0, 0, 0, 0⟩] seed tick key W a (okD _ (fun j => (bF_range u0 u1 u2 j).1) i hi) r hr).mono fun e w' h => ?_
  obtain ⟨A', cap', h1, h2, h3⟩ := h
  rw [e1, e2] at h1
  rw [e2] at h2
  obtain ⟨ab, cap2, cur, e3, hB, hh, r1, r2, r3, r4⟩ := own_shape h2 (by show 0 < 1; omega)
  rw [Value.slice.injEq] at e3
  obtain ⟨rfl, -, rfl⟩ := e3
  exact ⟨ab, cap', h1, hB, ⟨h2.1, Or.inr ⟨ab, cap', cur, rfl, Nat.le_refl _, hh, r1, r2, r3, r4⟩⟩, h3⟩
theorem two_sets {cs : Array Value} {i : Nat} (hi : i * 2 + 1 < cs.size) (a b : Value) (j : Nat) : ((cs.setIfInBounds (i * 2) a).setIfInBounds (i * 2 + 1) b)[j]? = if j = i * 2 + 1 then some b else if j = i * 2 then some a else cs[j]? := by
  rw [Array.getElem?_setIfInBounds, Array.getElem?_setIfInBounds]
  by_cases h1 : i * 2 + 1 = j
  · subst h1; simp [hi]
  · rw [if_neg h1, if_neg (show ¬ j = i * 2 + 1 from fun e => h1 e.symm)]
    by_cases h2 : i * 2 = j
    · subst h2; simp; omega
    · rw [if_neg h2, if_neg (show ¬ j = i * 2 from fun e => h2 e.symm)]
theorem DrGot.stored {W : World} {q i ab c : Nat} {ID s : Int} {b : Nat → Int} {cs : Array Value} (h : DrGot W q i ID s b cs) (hi : i < 3) (hab : q < ab) (ho : W.ownsRow ab 48 5 (.slice (some ⟨ab, 0, none⟩) 1 c) 1 (comps [cD s b (i + 1)])) :
    DrGot ((W.setCell ⟨q, i * 2, none⟩ (.int .i64 ID)).setCell ⟨q, i * 2 + 1, none⟩ (.slice (some ⟨ab, 0, none⟩) 1 c)) q (i + 1) ID s b ((cs.setIfInBounds (i * 2) (.int .i64 ID)).setIfInBounds (i * 2 + 1) (.slice (some ⟨ab, 0, none⟩) 1 c)) := by
  have hsz := h.size
  have hO : Only q W ((W.setCell ⟨q, i * 2, none⟩ (.int .i64 ID)).setCell ⟨q, i * 2 + 1, none⟩ (.slice (some ⟨ab, 0, none⟩) 1 c)) := ((Only.refl q W).setCell (p := ⟨q, i * 2, none⟩) rfl _).setCell (p := ⟨q, i * 2 + 1, none⟩) rfl _
  refine ⟨block_setCell (block_setCell h.blk _ _) _ _, by simp [hsz], fun j hj => ?_⟩
  have keep : ∀ {eb c' : Nat} {k : Nat}, q < eb → W.ownsRow eb 48 5 (.slice (some ⟨eb, 0, none⟩) 1 c') 1 (comps [cD s b k]) → ((W.setCell ⟨q, i * 2, none⟩ (.int .i64 ID)).setCell ⟨q, i * 2 + 1, none⟩ (.slice (some ⟨ab, 0, none⟩) 1 c)).ownsRow eb 48 5 (.slice (some ⟨eb, 0, none⟩) 1 c') 1 (comps [cD s b k]) := by
    intro eb c' k hq ho
    exact own_only ho hO (by simp [Value.ownBlock]; omega)
  by_cases hji : j < i
  · obtain ⟨h1, eb, c', h2, h3, h4⟩ := h.got j hji
    refine ⟨?_, eb, c', h2, ?_, keep h2 h4⟩
    · rw [two_sets (by omega), if_neg (by omega), if_neg (by omega)]; exact h1
    · rw [two_sets (by omega), if_neg (by omega), if_neg (by omega)]; exact h3
  · obtain rfl : j = i := by omega
    refine ⟨?_, ab, c, hab, ?_, keep hab ho⟩
    · rw [two_sets (by omega), if_neg (by omega), if_pos rfl]
    · rw [two_sets (by omega), if_pos rfl]
theorem DrRow.only {W W' : World} {q i : Nat} {b : Nat → Int} {lv : Value} {xs : List Value} {cs : Array Value} (h : DrRow W (q + 1) i b lv xs) (hO : Only q W W') (hq : W.heap[q]? = some (.cells cs 49 (0, 0))) : DrRow W' (q + 1) i b lv xs := by
  refine ⟨own_only h.row hO (own_neq h.row hq (by decide)), fun j hj => ?_⟩
  obtain ⟨eb, fb, h1, h2, h3⟩ := h.at_ j hj
  have ne : ∀ {k : Nat} {xs : Array Value}, W.heap[k]? = some (.cells xs 34 (0, 0)) → k ≠ q := by
    intro k xs hk e
    subst e
    rw [hq] at hk
    injection hk with hk
    injection hk with _ hk
    exact absurd hk (by decide)
  exact ⟨eb, fb, h1, (hO.block _ (ne h2)).trans h2, (hO.block _ (ne h3)).trans h3⟩
/-- The number k of a run's component. -/
theorem drawn_cell {W : World} {eb c i k : Nat} {s : Int} {b : Nat → Int} (ho : W.ownsRow eb 48 5 (.slice (some ⟨eb, 0, none⟩) 1 c) 1 (comps [cD s b i])) (hi : i ≤ 3) (hk : k < i) : W.cell? ⟨eb, 1 + k, none⟩ = some (.int .i64 (vD s b k)) := by
  have := comp_num (cs := [cD s b i]) ho (i := 0) (c := cD s b i) rfl k (by omega)
  rw [cD_get s b i hi k hk] at this
  rw [← this]
theorem vD_range (s : Int) (u0 u1 u2 : Int) (k : Nat) : 0 ≤ vD s (bF u0 u1 u2) k ∧ vD s (bF u0 u1 u2) k < bF u0 u1 u2 k := drawV_range _ _ _ (bF_range u0 u1 u2 k).1 (bF_range u0 u1 u2 k).2
end
end Go.Proofs.YtocbddajakbemaaGreat
