/- RngWeighs. -/
import Derived.Test.YtcljjpdggbkjfaaFair
import Derived.Maps.AppendAt
import Derived.Deep.RegionLaw
set_option linter.unusedVariables false
namespace Go.Proofs.Ytcljjpdggbkjfaa
open Go.RowKit

theorem block_of_cell {w : World} {p : Addr} {v : Value} (h : w.cell? p = some v) : p.block < w.heap.size := by
  rcases Nat.lt_or_ge p.block w.heap.size with h1 | h1
  · exact h1
  · simp [World.cell?, Array.getElem?_eq_none h1] at h

/-- Numbers of 16 bits that came in: the first n of a row. -/
def Shorts (w : World) (ad : Addr) (ws : List Int) : Prop := ∀ j, j < ws.length → w.cell? (ad.add j) = some (.int .u16 (ws.getD j 0)) ∧ 0 ≤ ws.getD j 0 ∧ ws.getD j 0 ≤ 65535

def cellsOf (ws : List Int) : List Value := ws.map (Value.int .i64)
theorem cellsOf_one (ws : List Int) : ∀ u ∈ cellsOf ws, u.oneCell' = true := by
  intro u h; simp only [cellsOf, List.mem_map] at h; obtain ⟨x, _, rfl⟩ := h; rfl
theorem cellsOf_snoc (ws : List Int) (x : Int) : cellsOf (ws ++ [x]) = cellsOf ws ++ [.int .i64 x] := by simp [cellsOf]

/-- An owned row of ints of one element at least: its shape, and that it reads as the list. -/
theorem owned_ints {w : World} {B n : Nat} {v : Value} {ws : List Int} (h : w.ownsRow B 3 1 v n (cellsOf ws)) (hn : 0 < n) :
    ∃ g cap, v = .slice (some ⟨g, 0, none⟩) n cap ∧ n ≤ cap ∧ B ≤ g ∧ g < w.heap.size ∧ ws.length = n ∧ ∀ j, j < n → w.cell? ⟨g, j, none⟩ = some (.int .i64 (ws.getD j 0)) := by
  obtain ⟨hl, h2⟩ := h
  have hl2 : ws.length = n := by simpa [cellsOf] using hl
  rcases h2 with ⟨_, h0⟩ | ⟨g, cap, cur, rfl, hB, hh, hc, _, hsz, htk⟩
  · omega
  · refine ⟨g, cap, rfl, hc, hB, lt_of_block hh, hl2, fun j hj => ?_⟩
    have e := congrArg (fun l : List Value => l[j]?) htk
    simp only [Nat.mul_one, List.getElem?_take, hj, if_true, Array.getElem?_toList] at e
    rw [cell_of_block hh j, e]
    simp [cellsOf, List.getD_eq_getElem?_getD, hl2, hj]
theorem ints_of {w : World} {g n : Nat} {ws : List Int} (hl : ws.length = n) (h : ∀ j, j < n → w.cell? ⟨g, j, none⟩ = some (.int .i64 (ws.getD j 0))) : Ints w (some ⟨g, 0, none⟩) ws := by
  intro j hj
  refine ⟨_, rfl, ?_⟩
  have e2 : (Addr.add ⟨g, 0, none⟩ j) = ⟨g, j, none⟩ := by unfold Addr.add; split <;> simp_all
  rw [e2]
  exact h j (by omega)

/-- Two rows of the call's own do not lie in one block. -/
def Apart (v u : Value) : Prop := ∀ g, v.ownBlock = some g → u.ownBlock ≠ some g

theorem own_lt {w : World} {B : Nat} {e : TypeId} {size n : Nat} {v : Value} {xs : List Value} (h : w.ownsRow B e size v n xs) {g : Nat} (hg : v.ownBlock = some g) : g < w.heap.size ∧ B ≤ g := by
  rcases h.2 with ⟨rfl, _⟩ | ⟨g', cap, cur, rfl, hB, hh, _⟩
  · simp [Value.ownBlock] at hg
  · simp [Value.ownBlock] at hg
    subst hg
    exact ⟨lt_of_block hh, hB⟩
theorem Apart.ne {v u : Value} (h : Apart v u) : u.ownBlock = none ∨ u.ownBlock ≠ v.ownBlock := by
  cases e : u.ownBlock with
  | none => exact Or.inl rfl
  | some g =>
    refine Or.inr fun h2 => ?_
    exact h g h2.symm e
theorem second_kept {B j : Nat} {wr w1 : World} {v u : Value} {ys : List Value} {Z1 : Obj} (hu : wr.ownsRow B 3 1 u j ys) (ha : Apart v u) (g1 : (wr.alloc Z1).grownBy w1 v.ownBlock) : w1.ownsRow B 3 1 u j ys :=
  (hu.alloc Z1).kept g1 ha.ne
theorem both_step {B j n m : Nat} {wr w1 w2 : World} {v u v1 u1 : Value} {xs ys xs' ys' : List Value} {Z1 Z2 : Obj} (hB : B ≤ wr.heap.size) (hv : wr.ownsRow B 3 1 v j xs) (hu : wr.ownsRow B 3 1 u j ys) (ha : Apart v u)
    (h1 : w1.ownsRow B 3 1 v1 n xs') (g1 : (wr.alloc Z1).grownBy w1 v.ownBlock) (at1 : v1.ownBlock = v.ownBlock ∨ v1.ownBlock = some (wr.alloc Z1).heap.size)
    (h2 : w2.ownsRow B 3 1 u1 m ys') (g2 : (w1.alloc Z2).grownBy w2 u.ownBlock) (at2 : u1.ownBlock = u.ownBlock ∨ u1.ownBlock = some (w1.alloc Z2).heap.size) :
    w2.ownsRow B 3 1 v1 n xs' ∧ Apart v1 u1 ∧ Below B wr w2 := by
  have s1 : wr.heap.size < w1.heap.size := by have := g1.size; simp at this; omega
  have a1 : Apart v1 u := by
    intro g hg hu2
    rcases at1 with e | e
    · exact ha g (by rw [← e, hg]) hu2
    · have := (own_lt hu hu2).1
      rw [hg] at e
      injection e with e
      simp at e
      omega
  refine ⟨(h1.alloc Z2).kept g2 ?_, ?_, ?_⟩
  · cases e : v1.ownBlock with
    | none => exact Or.inl rfl
    | some g => exact Or.inr fun h => a1 g e h.symm
  · intro g hg hu2
    rcases at2 with e | e
    · exact a1 g hg (by rw [← e, hu2])
    · have := (own_lt h1 hg).1
      rw [hu2] at e
      injection e with e
      simp at e
      omega
  · refine Below.grown ((((Below.refl B wr).alloc hB Z1).grown g1 (by simp; omega) fun q hq => (own_lt hv hq).2).alloc (by omega) Z2) g2 (by simp; omega) fun q hq => (own_lt hu hq).2

theorem pre_take (ws : List Int) (n : Nat) : ∀ i, i ≤ n → pre (ws.take n) i = pre ws i := by
  intro i
  induction i with
  | zero => intro _; rfl
  | succ i ih =>
    intro h
    simp only [pre]
    rw [ih (by omega)]
    congr 1
    simp [List.getD_eq_getElem?_getD, show i < n from by omega]

section
variable {P : Program} (w : World)
/-- An append onto a row of the call's own, as one step of a region that draws its order; where the new row lies is told. -/
theorem step_append_at {ops : Array Oper} {o : Oper} {a : Act} {K : Act → World → Prop} {Q : Exit → Act → World → Prop} {E : Prop} (hgd : o.guard = none) (s x : Operand) (t : TypeId)
    (ho : o.op = .call { callee := .builtin .append, args := #[s, x], argTypes := #[t, t] })
    (base : Nat) (e : TypeId) (i : TypeInfo) (z : Value) (size bytes : Nat) (ht : P.underlying t = some (.slice e)) (hi : P.info? e = some i) (hz : i.zero = some z)
    (hsize : i.size = size) (hby : i.bytes = bytes) (hzs : z.cells.size = size) (hsz : 0 < size)
    (v : Value) (n : Nat) (xs : List Value) (hs : a.eval s = v) (hown : w.ownsRow base e size v n xs)
    (ad : Addr) (m c : Nat) (news : List Value) (hx : a.eval x = .slice (some ad) m c) (hl : news.length = m * size) (hnews : ∀ j u, news[j]? = some u → w.cell? (ad.add j) = some u) (h1 : ∀ u ∈ news, u.oneCell' = true)
    (h63 : n + m ≤ maxLen) (hbytes : (n + m) * bytes ≤ 140737488355328) (hbase : base ≤ w.heap.size)
    (h : ∀ v' w', w'.ownsRow base e size v' (n + m) (xs ++ news) → w.grownBy w' v.ownBlock → (v'.ownBlock = v.ownBlock ∨ v'.ownBlock = some w.heap.size) → K (a.put o.dst v') w') :
    if Region.wanted o (yielded ops a.tmps) = true then Oper.wp P o a w K Q else E := by
  have hw : Region.wanted o (yielded ops a.tmps) = true := by simp [Region.wanted, hgd]
  rw [if_pos hw]
  obtain ⟨v', w', hr, h2, h3, _, h5⟩ := run_append_own_at (P := P) w base t o.type e i z size bytes ht hi hz hsize hby hzs hsz v n xs hown ad m c news hl hnews h1 h63 hbytes hbase
  unfold Oper.wp execOp
  simp only [ho, resolve, invoke, builtin, Sem.run_bind, Sem.run_pure, Result.andThen_ok, List.map_toArray, List.map_cons, List.map_nil, hs, hx, hr]
  exact h v' w' h2 h3 h5
end

theorem step_ints {ops : Array Oper} {o : Oper} {a : Act} {w : World} {K : Act → World → Prop} {Q : Exit → Act → World → Prop} {E : Prop} (s x : Operand) (B n m : Nat) (xs news : List Value) (hgd : o.guard = none)
    (ho : o.op = .call { callee := .builtin .append, args := #[s, x], argTypes := #[39, 39] }) (hown : w.ownsRow B 3 1 (a.eval s) n xs)
    (hsrc : ∃ ad c, a.eval x = .slice (some ad) m c ∧ ∀ j u, news[j]? = some u → w.cell? (ad.add j) = some u) (hl : news.length = m) (h1 : ∀ u ∈ news, u.oneCell' = true) (hnm : n + m ≤ 1000) (hbase : B ≤ w.heap.size)
    (h : ∀ v' w', w'.ownsRow B 3 1 v' (n + m) (xs ++ news) → Below B w w' → (∀ b, b < w.heap.size → (a.eval s).ownBlock ≠ some b → w'.heap[b]? = w.heap[b]?) → K (a.put o.dst v') w') :
    if Region.wanted o (yielded ops a.tmps) = true then Oper.wp Try.prog o a w K Q else E := by
  obtain ⟨i0, hi, hz0, hz1, hz2⟩ := info_parts info3
  obtain ⟨ad, c, hx, hc⟩ := hsrc
  refine step_append_at _ hgd s x 39 ho B 3 i0 (.int .i64 0) 1 8 Try.underlying39 hi hz0 hz1 hz2 rfl (by decide) _ n xs rfl hown ad m c news hx (by omega) hc h1 (by unfold maxLen; omega) (by omega) hbase ?_
  intro v' w' h2 h3 _
  refine h v' w' h2 ((Below.refl B w).grown h3 hbase fun q hq => (own_lt hown hq).2) fun b hb hne => h3.block b hb fun e => hne e.symm

theorem zero_kept {W wa : World} {b : Nat} {own : Option Nat} (K : ∀ b, b < W.heap.size → own ≠ some b → wa.heap[b]? = W.heap[b]?) (hne : own ≠ some b) (hz : W.heap[b]? = some (.cells #[.int .i64 0] 3 (0, 0))) :
    ∀ (j : Nat) (u : Value), [Value.int .i64 0][j]? = some u → wa.cell? (Addr.add ⟨b, 0, none⟩ j) = some u := by
  intro j u hu
  match j, hu with
  | 0, hu =>
    simp at hu; subst hu
    exact (cell_of_block ((K b (lt_of_block hz) hne).trans hz) 0).trans rfl
  | j + 1, hu => simp at hu

theorem own_empty (B : Nat) (w : World) (h : B ≤ w.heap.size) : (w.alloc (.cells #[] 3)).ownsRow B 3 1 (.slice (some ⟨w.heap.size, 0, none⟩) 0 0) 0 [] :=
  ⟨rfl, Or.inr ⟨_, 0, #[], rfl, h, heap_alloc_new w _, Nat.le_refl _, by decide, rfl, rfl⟩⟩

theorem second_new (w : World) (O Z : Obj) : ((w.alloc O).alloc Z).heap[w.heap.size + 1]? = some Z := by
  have := heap_alloc_new (w.alloc O) Z
  simpa using this
theorem own_emptyW {B b : Nat} {W : World} (hb : B ≤ b) (h : W.heap[b]? = some (.cells #[] 3 (0, 0))) : W.ownsRow B 3 1 (.slice (some ⟨b, 0, none⟩) 0 0) 0 [] :=
  ⟨rfl, Or.inr ⟨_, 0, #[], rfl, hb, h, Nat.le_refl _, by decide, rfl, rfl⟩⟩

/-- A list of ints in a block of its own. -/
def MoreAt (w5 wx : World) (v : Value) (l : List Int) : Prop := ∃ g cap, v = .slice (some ⟨g, 0, none⟩) l.length cap ∧ Ints wx (some ⟨g, 0, none⟩) l ∧ g < wx.heap.size ∧ Below w5.heap.size w5 wx

/-- The list with a nought put in. -/
def more (ws : List Int) (p : Nat) : List Int := ws.take p ++ [0] ++ ws.drop p

theorem more_length (ws : List Int) (p : Nat) (h : p ≤ ws.length) : (more ws p).length = ws.length + 1 := by
  simp only [more, List.length_append, List.length_take, List.length_drop, List.length_cons, List.length_nil]; omega
theorem more_at {w5 wx : World} {v : Value} {ws : List Int} {p j n : Nat} (hl : ws.length = j) (hp : p ≤ j)
    (h : wx.ownsRow w5.heap.size 3 1 v n ([] ++ cellsOf ((ws.drop 0).take p) ++ [.int .i64 0] ++ cellsOf ((ws.drop p).take (j - p)))) (hb : Below w5.heap.size w5 wx) : MoreAt w5 wx v (more ws p) := by
  have e : [] ++ cellsOf ((ws.drop 0).take p) ++ [.int .i64 0] ++ cellsOf ((ws.drop p).take (j - p)) = cellsOf (more ws p) := by
    rw [List.take_of_length_le (l := ws.drop p) (by rw [List.length_drop]; omega)]
    simp [cellsOf, more]
  rw [e] at h
  have hn : (more ws p).length = n := by simpa [cellsOf] using h.1
  obtain ⟨g, cap, rfl, _, _, hlt, _, hc⟩ := owned_ints h (by rw [more_length ws p (by omega)] at hn; omega)
  refine ⟨g, cap, by rw [hn], ints_of hn hc, hlt, hb⟩
theorem more_at' {w5 wx : World} {v : Value} {ws : List Int} {j n : Nat} (hl : ws.length = j)
    (h : wx.ownsRow w5.heap.size 3 1 v n ([] ++ cellsOf ((ws.drop 0).take j) ++ [.int .i64 0] ++ [])) (hb : Below w5.heap.size w5 wx) : MoreAt w5 wx v (more ws j) := by
  refine more_at hl (Nat.le_refl _) (n := n) ?_ hb
  rw [Nat.sub_self]; exact h
theorem more_getD (ws : List Int) (p i : Nat) (h : p ≤ ws.length) : (more ws p).getD i 0 = if i < p then ws.getD i 0 else if i = p then 0 else ws.getD (i - 1) 0 := by
  have hl : (ws.take p).length = p := by rw [List.length_take]; omega
  simp only [more, List.getD_eq_getElem?_getD, List.append_assoc]
  by_cases h1 : i < p
  · rw [List.getElem?_append_left (by omega), if_pos h1, List.getElem?_take, if_pos h1]
  · rw [List.getElem?_append_right (by omega), if_neg h1, hl]
    by_cases h2 : i = p
    · rw [if_pos h2, h2, Nat.sub_self]; rfl
    · rw [if_neg h2, List.getElem?_append_right (by simp; omega)]
      simp only [List.length_cons, List.length_nil, List.getElem?_drop]
      rw [show p + (i - p - (0 + 1)) = i - 1 from by omega]
theorem pre_more (ws : List Int) (p : Nat) (h : p ≤ ws.length) (i : Nat) : pre (more ws p) i = if i ≤ p then pre ws i else pre ws (i - 1) := by
  induction i with
  | zero => simp [pre]
  | succ i ih =>
    simp only [pre]
    rw [ih, more_getD ws p i h]
    by_cases h1 : i < p
    · rw [if_pos (by omega), if_pos h1, if_pos (by omega)]
    · by_cases h2 : i = p
      · rw [if_pos (by omega), if_neg h1, if_pos h2, if_neg (by omega)]; simp
      · rw [if_neg (by omega), if_neg h1, if_neg h2, if_neg (by omega)]
        obtain ⟨m, rfl⟩ : ∃ m, i = m + 1 := ⟨i - 1, by omega⟩
        simp only [Nat.add_sub_cancel, pre]
theorem more_ok {ws : List Int} {p j : Nat} (hl : ws.length = j) (hp : p ≤ j) (hg : ∀ i, i < j → okW ws i = true) : ∀ i, i < (more ws p).length → okW (more ws p) i = true := by
  intro i hi
  rw [more_length ws p (by omega)] at hi
  rw [okW_iff, more_getD ws p i (by omega)]
  by_cases h1 : i < p
  · rw [if_pos h1]; exact okW_iff.1 (hg i (by omega))
  · rw [if_neg h1]
    by_cases h2 : i = p
    · rw [if_pos h2]; decide
    · rw [if_neg h2]; exact okW_iff.1 (hg (i - 1) (by omega))

theorem src_cells {w5 W : World} {g : Nat} {ws : List Int} {M p m : Nat} (hb : Below w5.heap.size w5 W) (hg : g < w5.heap.size) (hl : ws.length = M) (h : ∀ j, j < M → w5.cell? ⟨g, j, none⟩ = some (.int .i64 (ws.getD j 0))) :
    ∀ j u, (cellsOf ((ws.drop p).take m))[j]? = some u → W.cell? (Addr.add ⟨g, p, none⟩ j) = some u := by
  intro j u hu
  simp only [cellsOf, List.getElem?_map, List.getElem?_take, List.getElem?_drop] at hu
  split at hu
  · have hlt : p + j < ws.length := by
      rcases Nat.lt_or_ge (p + j) ws.length with h1 | h1
      · exact h1
      · rw [List.getElem?_eq_none h1] at hu; simp at hu
    have e2 : (Addr.add ⟨g, p, none⟩ j) = ⟨g, p + j, none⟩ := by unfold Addr.add; split <;> simp_all
    rw [e2, hb.cell (p := ⟨g, p + j, none⟩) hg, h _ (by omega)]
    simp only [List.getElem?_eq_getElem hlt, Option.map_some] at hu
    rw [← hu]
    simp [List.getD_eq_getElem?_getD, hlt]
  · simp at hu

theorem pick_spec (ws : List Int) (M : Nat) (D : Int) (hg : ∀ j, j < M → okW ws j = true) (h0 : 0 ≤ D) (h1 : D < pre ws M) :
    pick ws D < M ∧ pre ws (pick ws D) ≤ D ∧ D < pre ws (pick ws D) + ws.getD (pick ws D) 0 := by
  have hM : 0 < M := by
    rcases Nat.eq_zero_or_pos M with h | h
    · subst h; simp [pre] at h1; omega
    · exact h
  have hex : (fun i => decide (D < pre ws (i + 1))) (M - 1) = true := by
    show decide (D < pre ws (M - 1 + 1)) = true
    rw [show M - 1 + 1 = M from by omega]; exact decide_eq_true h1
  have hs := first_spec (p := fun i => decide (D < pre ws (i + 1))) ⟨M - 1, hex⟩
  have hl := first_le (p := fun i => decide (D < pre ws (i + 1))) hex
  have e : pick ws D = first fun i => decide (D < pre ws (i + 1)) := rfl
  rw [← e] at hs hl
  have h2 : D < pre ws (pick ws D + 1) := of_decide_eq_true hs.1
  refine ⟨by omega, ?_, h2⟩
  rcases Nat.eq_zero_or_pos (pick ws D) with h | h
  · rw [h]; exact h0
  · have := hs.2 (pick ws D - 1) (by omega)
    simp only [decide_eq_false_iff_not] at this
    rw [show pick ws D - 1 + 1 = pick ws D from by omega] at this
    omega
theorem pick_eq {ws : List Int} {D : Int} {i : Nat} (h1 : D < pre ws (i + 1)) (h2 : ∀ m, m < i → pre ws (m + 1) ≤ D) : pick ws D = i :=
  first_eq (decide_eq_true h1) fun m hm => decide_eq_false (by have := h2 m hm; omega)
theorem pre_ones (n : Nat) : ∀ i, i ≤ n → pre (List.replicate n 1) i = i := by
  intro i
  induction i with
  | zero => intro _; rfl
  | succ i ih =>
    intro h
    simp only [pre]
    rw [ih (by omega)]
    simp [List.getD_eq_getElem?_getD, show i < n from by omega]
theorem pick_ones (n : Nat) (C : Int) (h0 : 0 ≤ C) (h1 : C < n) : ((pick (List.replicate n 1) C : Nat) : Int) = C := by
  have e : pick (List.replicate n 1) C = C.toNat := by
    refine pick_eq ?_ ?_
    · rw [pre_ones n _ (by omega)]; omega
    · intro m hm; rw [pre_ones n _ (by omega)]; omega
  rw [e]; omega
theorem ones_ok (n j : Nat) (h : j < n) : okW (List.replicate n 1) j = true := by
  rw [okW_iff]; simp [List.getD_eq_getElem?_getD, h]

theorem pick_more {ws : List Int} {p j q : Nat} {D : Int} (hl : ws.length = j) (hp : p ≤ j) (hg : ∀ i, i < j → okW ws i = true) (hq : q < j) (h1 : pre ws q ≤ D) (h2 : D < pre ws q + ws.getD q 0) :
    pick (more ws p) D = if p ≤ q then q + 1 else q := by
  have h3 : D < pre ws (q + 1) := h2
  by_cases h : p ≤ q
  · rw [if_pos h]
    refine pick_eq ?_ ?_
    · rw [pre_more ws p (by omega), if_neg (by omega)]; exact h3
    · intro m hm
      rw [pre_more ws p (by omega)]
      split
      · exact Int.le_trans (pre_mono ws (m + 1) q (by omega) fun i hi => hg i (by omega)) h1
      · exact Int.le_trans (pre_mono ws (m + 1 - 1) q (by omega) fun i hi => hg i (by omega)) h1
  · rw [if_neg h]
    refine pick_eq ?_ ?_
    · rw [pre_more ws p (by omega), if_pos (by omega)]; exact h3
    · intro m hm
      rw [pre_more ws p (by omega), if_pos (by omega)]
      exact Int.le_trans (pre_mono ws (m + 1) q (by omega) fun i hi => hg i (by omega)) h1

set_option maxRecDepth 100000 in
set_option maxHeartbeats 4000000 in
theorem weighs_walk (s k : Int) (ad : Addr) (len cap : Nat) (ws : List Int) (t : Int) (M : Nat) (w : World) (k0 : -9223372036854775808 ≤ k) (k1 : k ≤ 9223372036854775807) (t0 : 0 ≤ t) (t1 : t ≤ 255)
    (hlc : len ≤ cap) (hcm : cap ≤ 9223372036854775807) (hM : (if (50 : Int) < (len : Int) then (50 : Int) else (len : Int)) = (M : Int)) (hMl : M ≤ len) (hM50 : M ≤ 50) (hws : ws.length = M) (hS : Shorts w ad ws) (hpos : 0 < M) :
    Calls Try.prog 6 #[.int .u64 s, .int .i64 k, .slice (some ad) len cap, .int .u8 t] w fun e w' => e = .returned (.bool true) ∧ Below w.heap.size w w' := by
  obtain ⟨i0, hi, hz0, hz1, hz2⟩ := info_parts info3
  have HI := Lib.hid (And.intro hi (And.intro hz0 (And.intro hz1 hz2))); clear hi hz0 hz1 hz2
  have HW := Lib.hid (And.intro hws hS)
  clear hws hS
  go_enter Try.func6, Try.ntmps6
  go_wp2_with fail
  go_loopg [10, 11, 12, 46] M (fun gh v u sm i wr => ∃ j : Nat, gh = M - j ∧ j ≤ M ∧ i = .int .i64 j ∧ sm = .int .i64 (pre ws j) ∧
      (wr.ownsRow w.heap.size 3 1 v j (cellsOf (ws.take j)) ∧ wr.ownsRow w.heap.size 3 1 u j (cellsOf (List.replicate j 1)) ∧ Apart v u ∧ Below w.heap.size w wr))
  case atStart => exact ⟨0, rfl, by omega, rfl, rfl, World.ownsRow_nil _ _ _ _, World.ownsRow_nil _ _ _ _, fun g h => by simp [Value.ownBlock] at h, Below.refl _ _⟩
  case round =>
    obtain ⟨j, hgh, hj, rfl, rfl, hR⟩ := hrel
    have Hgh := Lib.hid hgh; clear hgh
    have HR := Lib.hid hR; clear hR
    have hp := pre_bd ws j (fun i hi => by
      have := HW.out.2 i (by rw [HW.out.1]; omega)
      exact okW_iff.2 ⟨this.2.1, by omega⟩)
    by_cases hlt : j < M
    · obtain ⟨hc0, x0, x1⟩ := HW.out.2 j (by rw [HW.out.1]; exact hlt)
      have hc := (HR.out.2.2.2.cell (p := ad.add j) (block_of_cell hc0)).trans hc0
      obtain ⟨x, hx⟩ : ∃ x, x = ws.getD j 0 := ⟨_, rfl⟩
      rw [← hx] at hc x0 x1
      have HX := Lib.hid hx
      have hbs : w.heap.size ≤ wr.heap.size := HR.out.2.2.2.size
      clear hc0 hx hj
      go_wp2_with (first | (at_builtin; refine wpList_append_own_at _ rfl (.tmp 50) (.tmp 53) _ rfl w.heap.size 3 i0 (.int .i64 0) 1 8 Try.underlying39 HI.out.1 HI.out.2.1 HI.out.2.2.1 HI.out.2.2.2 rfl (by decide) _ _ _ rfl (HR.out.1.alloc _) ⟨wr.heap.size, 0, none⟩ 1 1 [.int .i64 x] rfl rfl (cell_one_new _ _ _) (by intro u hu; simp at hu; subst hu; rfl) (by unfold maxLen; omega) (by omega) (by simp; omega) ?_; intro v1 w1 hown1 hgrow1 hnil1 hat1; have HN1 := Lib.hid (And.intro hown1 (And.intro hgrow1 hat1)); clear hown1 hgrow1 hnil1 hat1) | (at_builtin; refine wpList_append_own_at _ rfl (.tmp 55) (.tmp 56) _ rfl w.heap.size 3 i0 (.int .i64 0) 1 8 Try.underlying39 HI.out.1 HI.out.2.1 HI.out.2.2.1 HI.out.2.2.2 rfl (by decide) _ _ _ rfl ((second_kept HR.out.2.1 HR.out.2.2.1 HN1.out.2.1).alloc _) ⟨w1.heap.size, 0, none⟩ 1 1 [.int .i64 1] rfl rfl (cell_one_new _ _ _) (by intro u hu; simp at hu; subst hu; rfl) (by unfold maxLen; omega) (by omega) (by have := HN1.out.2.1.size; simp at this ⊢; omega) ?_; intro u1 w2 hown2 hgrow2 hnil2 hat2; have HN2 := Lib.hid (And.intro hown2 (And.intro hgrow2 hat2)); clear hown2 hgrow2 hnil2 hat2))
      have HT := Lib.hid (both_step hbs HR.out.1 HR.out.2.1 HR.out.2.2.1 HN1.out.1 HN1.out.2.1 HN1.out.2.2 HN2.out.1 HN2.out.2.1 HN2.out.2.2)
      go_wp2_with fail
      go_roundg (M - (j + 1))
      case measure => have := Hgh.out; omega
      case rel =>
        have htk : ws.take (j + 1) = ws.take j ++ [x] := by
          have hj2 : j < ws.length := by rw [HW.out.1]; exact hlt
          rw [List.take_succ_eq_append_getElem hj2, HX.out]
          simp [List.getD_eq_getElem?_getD, hj2]
        refine ⟨j + 1, rfl, by omega, by go_num, by simp only [pre, ← HX.out], ?_, ?_, HT.out.2.1, HR.out.2.2.2.trans HT.out.2.2⟩
        · rw [htk, cellsOf_snoc]; exact HT.out.1
        · rw [List.replicate_succ', cellsOf_snoc]; exact HN2.out.1
    · have hjM : j = M := by omega
      subst hjM
      have hl := HW.out.1
      have hg : ∀ i, i < j → okW ws i = true := fun i hi => by
        have := HW.out.2 i (by rw [hl]; exact hi)
        exact okW_iff.2 ⟨this.2.1, by omega⟩
      have hR1 := HR.out.1
      have hR2 := HR.out.2.1
      rw [List.take_of_length_le (by omega)] at hR1
      obtain ⟨g, cp, rfl, hgc, hgB, hgs, -, hgi⟩ := owned_ints hR1 hpos
      obtain ⟨h, cq, rfl, hhc, hhB, hhs, -, hhi⟩ := owned_ints hR2 hpos
      have iv := ints_of hl hgi
      have iu := ints_of (by simp) hhi
      have bv : ∀ ad, some (Addr.mk g 0 none) = some ad → ad.block < wr.heap.size := fun ad e => by injection e with e; subst e; exact hgs
      have bu : ∀ ad, some (Addr.mk h 0 none) = some ad → ad.block < wr.heap.size := fun ad e => by injection e with e; subst e; exact hhs
      have HB := Lib.hid HR.out.2.2.2
      have HV := Lib.hid (And.intro hl (And.intro hg (And.intro iv (And.intro iu (And.intro bv (And.intro bu (And.intro hgi hhi)))))))
      clear hl hg iv iu bv bu hgi hhi hR1 hR2 HR hj hlt Hgh
      by_cases hz : pre ws j = 0
      · have hw := fun w h1 => Weigh_zero (some ⟨g, 0, none⟩) cp ws s k w h1 (by rw [HV.out.1]; omega) (fun i hi => HV.out.2.1 i (by rw [HV.out.1] at hi; exact hi)) (by rw [HV.out.1]; exact hz)
        rw [HV.out.1] at hw
        have HWc := Lib.hid hw
        rw [hz]
        clear hw hz hp
        go_wp2_with fail
        refine (HWc.out _ HV.out.2.2.1).mono ?_
        rintro e w2 ⟨rfl, hb⟩
        have HB2 := Lib.hid (then_ HB.out hb); clear hb HB
        go_wp2_with fail
        refine (awake_calls _).mono ?_
        rintro e w9 ⟨rfl, hb⟩
        have HB9 := Lib.hid (then_ HB2.out hb); clear hb HB2
        go_wp2_with fail
        go_ret
        exact ⟨rfl, HB9.out⟩
      · obtain ⟨S, hS⟩ : ∃ S, S = pre ws j := ⟨_, rfl⟩
        rw [← hS] at hp hz ⊢
        have d0 := drawV_lo s k S
        have d1 := drawV_lt s k S (by omega)
        have hps := pick_spec ws j (drawV s k S) HV.out.2.1 d0 (by rw [← hS]; exact d1)
        have c1 := fun w h1 h2 => Weigh_calls (some ⟨g, 0, none⟩) cp ws s k w k0 k1 h1 h2 (by rw [HV.out.1]; omega) (fun i hi => HV.out.2.1 i (by rw [HV.out.1] at hi; exact hi)) (by rw [HV.out.1, ← hS]; omega)
        rw [HV.out.1, ← hS] at c1
        have c2 := fun w => Below_calls s k S w k0 k1 (by omega) (by omega)
        have c3 := fun w h1 h2 => Weigh_calls (some ⟨h, 0, none⟩) cq (List.replicate j 1) s k w k0 k1 h1 h2 (by simp; omega) (fun i hi => ones_ok j i (by simpa using hi)) (by rw [List.length_replicate, pre_ones j j (Nat.le_refl _)]; omega)
        rw [List.length_replicate, pre_ones j j (Nat.le_refl _), pick_ones j _ (drawV_lo _ _ _) (drawV_lt _ _ _ (by omega))] at c3
        have c4 := fun w => Below_calls s k j w k0 k1 (by omega) (by omega)
        obtain ⟨I, hI⟩ : ∃ I, I = pick ws (drawV s k S) := ⟨_, rfl⟩
        rw [← hI] at c1 hps
        obtain ⟨D, hD⟩ : ∃ D, D = drawV s k S := ⟨_, rfl⟩
        rw [← hD] at c2 hps d0 d1
        generalize drawK s k S = K at c1 c2
        generalize drawV s k j = C at c3 c4
        generalize drawK s k j = F at c3 c4
        obtain ⟨p1, p2, p3⟩ := hps
        obtain ⟨x, hx⟩ : ∃ x, x = ws.getD I 0 := ⟨_, rfl⟩
        rw [← hx] at p3
        have xb : x ≤ 1099511627776 := by rw [hx]; exact (okW_iff.1 (HV.out.2.1 I p1)).2
        obtain ⟨hp0, hp1⟩ := hp
        have hcI := HV.out.2.2.2.2.2.2.1 I p1
        rw [← hx] at hcI
        obtain ⟨P0, hP0⟩ : ∃ P0, P0 = pre ws I := ⟨_, rfl⟩
        rw [← hP0] at p2 p3
        have HC := Lib.hid (And.intro c1 (And.intro c2 (And.intro c3 c4)))
        have HE := Lib.hid (And.intro hS (And.intro hI (And.intro hD (And.intro hx (And.intro hP0 hcI)))))
        have hzb : (S == 0) = false := by simpa using hz
        have i0' : (0 : Int) ≤ (I : Int) := by omega
        have i1' : (I : Int) < (j : Int) := by omega
        clear c1 c2 c3 c4 hS hI hD hx hP0 hcI hz
        go_wp2_with fail
        refine (HC.out.1 _ HV.out.2.2.1 HV.out.2.2.2.2.1).mono ?_
        rintro e w2 ⟨rfl, hb⟩
        have HB2 := Lib.hid hb; clear hb
        go_wp2_with fail
        refine (HC.out.2.1 _).mono ?_
        rintro e w3 ⟨rfl, hb⟩
        have HB3 := Lib.hid (then_ HB2.out hb); clear hb HB2
        have hc3 := (HB3.out.cell (p := ⟨g, I, none⟩) hgs).trans HE.out.2.2.2.2.2
        have hxp : 0 < x := by omega
        have hxn : (x == 0) = false := by rw [beq_eq_false_iff_ne]; omega
        go_wp2_with fail
        go_loopg [24, 134] I (fun gh up i wx => ∃ q : Nat, gh = I - q ∧ q ≤ I ∧ i = .int .i64 q ∧ up = .int .i64 (pre ws q) ∧ wx = w3)
        case atStart => exact ⟨0, rfl, by omega, rfl, rfl, rfl⟩
        case round =>
          obtain ⟨q, hgh, hq, rfl, rfl, rfl⟩ := hrel
          have Hg2 := Lib.hid hgh; clear hgh
          have hpq := pre_bd ws q (fun i hi => HV.out.2.1 i (by omega))
          by_cases hlt : q < I
          · have hcq := (HB3.out.cell (p := ⟨g, q, none⟩) hgs).trans (HV.out.2.2.2.2.2.2.1 q (by omega))
            obtain ⟨y, hy⟩ : ∃ y, y = ws.getD q 0 := ⟨_, rfl⟩
            have hy2 := okW_iff.1 (HV.out.2.1 q (by omega))
            rw [← hy] at hcq hy2
            obtain ⟨y0, y1⟩ := hy2
            have HY := Lib.hid hy
            clear hy hq
            go_wp2_with fail
            go_roundg (I - (q + 1))
            case measure => have := Hg2.out; omega
            case rel => exact ⟨q + 1, rfl, by omega, by go_num, by simp only [pre, ← HY.out], rfl⟩
          · have hqI : q = I := by omega
            subst hqI
            rw [← HE.out.2.2.2.2.1]
            clear hlt hq hpq Hg2
            go_wp2_with fail
            refine (HC.out.2.2.1 _ (HV.out.2.2.2.1.below HV.out.2.2.2.2.2.1 HB3.out) (fun ad e => Nat.lt_of_lt_of_le (HV.out.2.2.2.2.2.1 ad e) HB3.out.size)).mono ?_
            rintro e w4 ⟨rfl, hb⟩
            have HB4 := Lib.hid (then_ HB3.out hb); clear hb HB3
            go_wp2_with fail
            refine (HC.out.2.2.2 _).mono ?_
            rintro e w5 ⟨rfl, hb⟩
            have HB5 := Lib.hid (then_ HB4.out hb); clear hb HB4 hc3
            have hc5 := (HB5.out.cell (p := ⟨g, q, none⟩) hgs).trans HE.out.2.2.2.2.2
            obtain ⟨P, hP, hPj⟩ : ∃ P : Nat, t % ((j : Int) + 1) = (P : Int) ∧ P ≤ j := by
              have a := Int.emod_nonneg t (show (j : Int) + 1 ≠ 0 by omega)
              have b := Int.emod_lt_of_pos t (show (0 : Int) < (j : Int) + 1 by omega)
              exact ⟨(t % ((j : Int) + 1)).toNat, by omega, by omega⟩
            have P1 : (P : Int) ≤ (j : Int) := by omega
            have hg5 : ∀ i, i < j → w5.cell? ⟨g, i, none⟩ = some (.int .i64 (ws.getD i 0)) := fun i hi => (HB5.out.cell (p := ⟨g, i, none⟩) hgs).trans (HV.out.2.2.2.2.2.2.1 i hi)
            have hgs5 : g < w5.heap.size := Nat.lt_of_lt_of_le hgs HB5.out.size
            have HG := Lib.hid (And.intro hg5 hgs5)
            clear hg5 hgs5
            go_upto_region 27 with fail
            rw [hP]
            clear hP hc5
            go_cut [34] (fun v wx => MoreAt w5 wx v (more ws P))
            case first =>
              have hPc : P ≤ cp := by omega
              have hPj : P ≤ j := by omega
              by_cases hcp : cp = P
              · have hjP : j = P := by omega
                subst hjP
                subst hcp
                go_region_law (first | (refine step_ints (.tmp 191) (.tmp 194) w5.heap.size 0 cp [] (cellsOf ((ws.drop 0).take cp)) ?_ ?_ ?_ ?_ ?_ ?_ ?_ ?_ ?_; rfl; rfl; (first | exact own_emptyW (Nat.le_refl _) (heap_alloc_new w5 _) | exact own_emptyW (Nat.le_refl _) ((Below.heap_alloc (w5.alloc _) _ _ (by simp)).trans (heap_alloc_new w5 _)) | exact own_emptyW (Nat.le_succ _) (second_new w5 _ _)); exact ⟨_, _, rfl, src_cells (by repeat (first | exact Below.refl _ _ | apply Below.drew | refine then_alloc ?_ _)) HG.out.2 HV.out.1 HG.out.1⟩; (simp only [cellsOf, List.length_map, List.length_take, List.length_drop, HV.out.1]; omega); exact cellsOf_one _; omega; exact Below.size (B := w5.heap.size) (w := w5) (by repeat (first | exact Below.refl _ _ | apply Below.drew | refine then_alloc ?_ _)); intro v1 wa hown1 hbel1 hkeep1; have HN1 := Lib.hid (And.intro hown1 hkeep1); have HBa := Lib.hid (Below.trans (a := w5) (by repeat (first | exact Below.refl _ _ | apply Below.drew | refine then_alloc ?_ _)) hbel1); clear hown1 hbel1 hkeep1) | (refine step_ints (.tmp 195) (.tmp 196) w5.heap.size (0 + cp) 1 ([] ++ cellsOf ((ws.drop 0).take cp)) [.int .i64 0] ?_ ?_ ?_ ?_ ?_ ?_ ?_ ?_ ?_; rfl; rfl; (first | exact HN1.out.1 | exact HN1.out.1.alloc _); (first | exact ⟨_, _, rfl, cell_one_new _ _ _⟩ | exact ⟨_, _, rfl, zero_kept HN1.out.2 (by intro e; exact absurd (Option.some.inj e) (by simp)) (second_new w5 _ _)⟩ | exact ⟨_, _, rfl, zero_kept HN1.out.2 (by intro e; exact absurd (Option.some.inj e) (by simp)) ((Below.heap_alloc (w5.alloc _) _ _ (by simp)).trans (heap_alloc_new w5 _))⟩); rfl; (intro u hu; simp at hu; subst hu; rfl); omega; (first | exact HBa.out.size | exact Nat.le_trans HBa.out.size (by simp)); intro v2 wb hown2 hbel2 hkeep2; have HN2 := Lib.hid hown2; have HBb := Lib.hid (Below.trans (a := w5) (by first | exact HBa.out | exact HBa.out.alloc HBa.out.size _) hbel2); clear hown2 hbel2 hkeep2) | (refine step_ints (.tmp 197) (.tmp 200) w5.heap.size (0 + cp + 1) 0 ([] ++ cellsOf ((ws.drop 0).take cp) ++ [.int .i64 0]) [] ?_ ?_ ?_ ?_ ?_ ?_ ?_ ?_ ?_; rfl; rfl; exact HN2.out; (exact ⟨_, _, rfl, fun j u hu => by simp at hu⟩); rfl; (intro u hu; cases hu); omega; exact HBb.out.size; intro v3 wc3 hown3 hbel3 hkeep3; have HN3 := Lib.hid hown3; have HBc := Lib.hid (HBb.out.trans hbel3); clear hown3 hbel3 hkeep3))
                all_goals go_wp2_with fail
                all_goals go_meet
                all_goals exact more_at' HV.out.1 HN3.out HBc.out
              · go_region_law (first | (refine step_ints (.tmp 191) (.tmp 194) w5.heap.size 0 P [] (cellsOf ((ws.drop 0).take P)) ?_ ?_ ?_ ?_ ?_ ?_ ?_ ?_ ?_; rfl; rfl; (first | exact own_emptyW (Nat.le_refl _) (heap_alloc_new w5 _) | exact own_emptyW (Nat.le_refl _) ((Below.heap_alloc (w5.alloc _) _ _ (by simp)).trans (heap_alloc_new w5 _)) | exact own_emptyW (Nat.le_succ _) (second_new w5 _ _)); exact ⟨_, _, rfl, src_cells (by repeat (first | exact Below.refl _ _ | apply Below.drew | refine then_alloc ?_ _)) HG.out.2 HV.out.1 HG.out.1⟩; (simp only [cellsOf, List.length_map, List.length_take, List.length_drop, HV.out.1]; omega); exact cellsOf_one _; omega; exact Below.size (B := w5.heap.size) (w := w5) (by repeat (first | exact Below.refl _ _ | apply Below.drew | refine then_alloc ?_ _)); intro v1 wa hown1 hbel1 hkeep1; have HN1 := Lib.hid (And.intro hown1 hkeep1); have HBa := Lib.hid (Below.trans (a := w5) (by repeat (first | exact Below.refl _ _ | apply Below.drew | refine then_alloc ?_ _)) hbel1); clear hown1 hbel1 hkeep1) | (refine step_ints (.tmp 195) (.tmp 196) w5.heap.size (0 + P) 1 ([] ++ cellsOf ((ws.drop 0).take P)) [.int .i64 0] ?_ ?_ ?_ ?_ ?_ ?_ ?_ ?_ ?_; rfl; rfl; (first | exact HN1.out.1 | exact HN1.out.1.alloc _); (first | exact ⟨_, _, rfl, cell_one_new _ _ _⟩ | exact ⟨_, _, rfl, zero_kept HN1.out.2 (by intro e; exact absurd (Option.some.inj e) (by simp)) (second_new w5 _ _)⟩ | exact ⟨_, _, rfl, zero_kept HN1.out.2 (by intro e; exact absurd (Option.some.inj e) (by simp)) ((Below.heap_alloc (w5.alloc _) _ _ (by simp)).trans (heap_alloc_new w5 _))⟩); rfl; (intro u hu; simp at hu; subst hu; rfl); omega; (first | exact HBa.out.size | exact Nat.le_trans HBa.out.size (by simp)); intro v2 wb hown2 hbel2 hkeep2; have HN2 := Lib.hid hown2; have HBb := Lib.hid (Below.trans (a := w5) (by first | exact HBa.out | exact HBa.out.alloc HBa.out.size _) hbel2); clear hown2 hbel2 hkeep2) | (refine step_ints (.tmp 197) (.tmp 200) w5.heap.size (0 + P + 1) (j - P) ([] ++ cellsOf ((ws.drop 0).take P) ++ [.int .i64 0]) (cellsOf ((ws.drop P).take (j - P))) ?_ ?_ ?_ ?_ ?_ ?_ ?_ ?_ ?_; rfl; rfl; exact HN2.out; (exact ⟨_, _, rfl, src_cells (by first | exact HBb.out | exact HBb.out.drew) HG.out.2 HV.out.1 HG.out.1⟩); (simp only [cellsOf, List.length_map, List.length_take, List.length_drop, HV.out.1]; omega); exact cellsOf_one _; omega; exact HBb.out.size; intro v3 wc3 hown3 hbel3 hkeep3; have HN3 := Lib.hid hown3; have HBc := Lib.hid (HBb.out.trans hbel3); clear hown3 hbel3 hkeep3))
                all_goals go_wp2_with fail
                all_goals go_meet
                all_goals exact more_at HV.out.1 hPj HN3.out HBc.out
            case rest =>
              obtain ⟨g', cap', rfl, hI, hlt, hbz⟩ := hcut
              have hwm := Weigh_calls (some ⟨g', 0, none⟩) cap' (more ws P) s k wc k0 k1 hI (fun ad e => by injection e with e; subst e; exact hlt) (by rw [more_length ws P (by rw [HV.out.1]; exact hPj), HV.out.1]; omega) (more_ok HV.out.1 hPj HV.out.2.1) (by
                rw [more_length ws P (by rw [HV.out.1]; exact hPj), HV.out.1, pre_more ws P (by rw [HV.out.1]; exact hPj), if_neg (by omega), Nat.add_sub_cancel, ← HE.out.1]; omega)
              rw [more_length ws P (by rw [HV.out.1]; exact hPj), HV.out.1, pre_more ws P (by rw [HV.out.1]; exact hPj), if_neg (by omega), Nat.add_sub_cancel, ← HE.out.1, ← HE.out.2.2.1,
                pick_more HV.out.1 hPj HV.out.2.1 p1 (by rw [← HE.out.2.2.2.2.1]; exact p2) (by rw [← HE.out.2.2.2.2.1, ← HE.out.2.2.2.1]; exact p3)] at hwm
              have hbz2 := then_ HB5.out hbz
              have HBZ := Lib.hid (then_ HB.out hbz2)
              rw [more_length ws P (by rw [HV.out.1]; exact hPj), HV.out.1]
              generalize drawK s k S = K2 at hwm
              by_cases hpq : P ≤ q
              · rw [if_pos hpq] at hwm
                have HWM := Lib.hid hwm
                clear hwm hI hbz hbz2 hlt
                go_wp2_with fail
                refine HWM.out.mono ?_
                rintro e w8 ⟨rfl, hb⟩
                have HB8 := Lib.hid (then_ HBZ.out hb); clear hb HBZ
                go_wp2_with fail
                refine (awake_calls _).mono ?_
                rintro e w9 ⟨rfl, hb⟩
                have HB9 := Lib.hid (then_ HB8.out hb); clear hb HB8
                go_wp2_with fail
                go_ret
                exact ⟨rfl, HB9.out⟩
              · rw [if_neg hpq] at hwm
                have HWM := Lib.hid hwm
                clear hwm hI hbz hbz2 hlt
                go_wp2_with fail
                refine HWM.out.mono ?_
                rintro e w8 ⟨rfl, hb⟩
                have HB8 := Lib.hid (then_ HBZ.out hb); clear hb HBZ
                go_wp2_with fail
                refine (awake_calls _).mono ?_
                rintro e w9 ⟨rfl, hb⟩
                have HB9 := Lib.hid (then_ HB8.out hb); clear hb HB8
                go_wp2_with fail
                go_ret
                exact ⟨rfl, HB9.out⟩
end Go.Proofs.Ytcljjpdggbkjfaa
