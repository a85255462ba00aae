/- vm, plain: loops, branches, two programs. vm: the law's own run: a program by its statements. -/
import Derived.Test.YtocbddajakbemaaGreatNK
import Derived.Test.YtocbddajakbemaaGreatNR
import Derived.Test.YtocbddajakbemaaGreatNS
set_option linter.unusedVariables false
set_option linter.unusedSimpArgs false
set_option linter.unusedSimpArgs false
namespace Go.Proofs.YtocbddajakbemaaGreat
section
open Go.RowKit
theorem cons_cases {N : Env0} {n : Nat} {s : S0} {l : List S0} {st : Pst} {o : Out} (h : exL N (n + 1) (s :: l) st = some o) :
    (s.op = 6 ∧ o = .stop st.cs) ∨ (s.op = 7 ∧ o = .err 144) ∨ (s.op ≠ 6 ∧ s.op ≠ 7 ∧ ∃ a es, s.e = a :: es ∧ ((∃ e, ev N st a st.k = .error e ∧ o = .err e) ∨ ∃ v k, ev N st a st.k = .ok (v, k) ∧
      ((s.op = 1 ∧ exL N n l ⟨st.ν ++ [s.nm], st.ρ ++ [v], k, st.cs⟩ = some o) ∨ (s.op = 2 ∧ exL N n l ⟨st.ν, st.ρ.set (idxM st.ν s.nm).toNat v, k, st.cs⟩ = some o) ∨
       (s.op = 3 ∧ ∃ b, es = [b] ∧ ((∃ e, ev N st b k = .error e ∧ o = .err e) ∨ ∃ u k2, ev N st b k = .ok (u, k2) ∧ ((st.cs[idxC st.cs s.n]? = none ∧ o = .err 140) ∨ ∃ c, st.cs[idxC st.cs s.n]? = some c ∧ (((v < 0 ∨ 3 < v) ∧ o = .err 141) ∨ (¬ (v < 0 ∨ 3 < v) ∧ exL N n l ⟨st.ν, st.ρ, k2, st.cs.set (idxC st.cs s.n) (c.set v.toNat u)⟩ = some o))))) ∨
       (s.op = 4 ∧ ((∃ st', exL N n (if v = 0 then s.els else s.b) ⟨st.ν, st.ρ, k, st.cs⟩ = some (.norm st') ∧ exL N n l (back st st') = some o) ∨ (o.ends ∧ exL N n (if v = 0 then s.els else s.b) ⟨st.ν, st.ρ, k, st.cs⟩ = some o))) ∨
       (s.op = 5 ∧ ((v = 0 ∧ exL N n l ⟨st.ν, st.ρ, k, st.cs⟩ = some o) ∨ (v ≠ 0 ∧ ((∃ st', exL N n s.b ⟨st.ν, st.ρ, k, st.cs⟩ = some (.norm st') ∧ exL N n (s :: l) (back st st') = some o) ∨ (o.ends ∧ exL N n s.b ⟨st.ν, st.ρ, k, st.cs⟩ = some o)))))))) := by
  rw [exL] at h
  by_cases c6 : s.op = 6
  · rw [if_pos c6] at h; injection h with h; exact Or.inl ⟨c6, h.symm⟩
  rw [if_neg c6] at h
  by_cases c7 : s.op = 7
  · rw [if_pos c7] at h; injection h with h; exact Or.inr (Or.inl ⟨c7, h.symm⟩)
  rw [if_neg c7] at h
  right; right
  refine ⟨c6, c7, ?_⟩
  rcases he : s.e with _ | ⟨a, es⟩
  · rw [he] at h; cases h
  rw [he] at h
  simp only at h
  refine ⟨a, es, rfl, ?_⟩
  rcases hv : ev N st a st.k with e | ⟨v, k⟩
  · rw [hv] at h; injection h with h; exact Or.inl ⟨e, rfl, h.symm⟩
  rw [hv] at h
  simp only at h
  right
  refine ⟨v, k, rfl, ?_⟩
  by_cases c1 : s.op = 1
  · rw [if_pos c1] at h; exact Or.inl ⟨c1, h⟩
  rw [if_neg c1] at h
  right
  by_cases c2 : s.op = 2
  · rw [if_pos c2] at h; exact Or.inl ⟨c2, h⟩
  rw [if_neg c2] at h
  right
  by_cases c3 : s.op = 3
  · rw [if_pos c3] at h
    left
    refine ⟨c3, ?_⟩
    rcases es with _ | ⟨b, es⟩
    · cases h
    rcases es with _ | ⟨b2, es⟩
    · simp only at h
      refine ⟨b, rfl, ?_⟩
      rcases hu : ev N st b k with e | ⟨u, k2⟩
      · rw [hu] at h; injection h with h; exact Or.inl ⟨e, rfl, h.symm⟩
      rw [hu] at h
      simp only at h
      right
      refine ⟨u, k2, rfl, ?_⟩
      rcases hc : st.cs[idxC st.cs s.n]? with _ | c
      · rw [hc] at h; injection h with h; exact Or.inl ⟨rfl, h.symm⟩
      rw [hc] at h
      simp only at h
      right
      refine ⟨c, rfl, ?_⟩
      by_cases c4 : v < 0 ∨ 3 < v
      · rw [if_pos c4] at h; injection h with h; exact Or.inl ⟨c4, h.symm⟩
      · rw [if_neg c4] at h; exact Or.inr ⟨c4, h⟩
    · cases h
  rw [if_neg c3] at h
  right
  by_cases c4 : s.op = 4
  · rw [if_pos c4] at h
    left
    refine ⟨c4, ?_⟩
    rcases hb : exL N n (if v = 0 then s.els else s.b) ⟨st.ν, st.ρ, k, st.cs⟩ with _ | o1
    · rw [hb] at h; cases h
    rw [hb] at h
    rcases o1 with st' | _ | _
    · exact Or.inl ⟨st', rfl, h⟩
    · injection h with h; rw [← h]; exact Or.inr ⟨trivial, rfl⟩
    · injection h with h; rw [← h]; exact Or.inr ⟨trivial, rfl⟩
  rw [if_neg c4] at h
  right
  by_cases c5 : s.op = 5
  · rw [if_pos c5] at h
    refine ⟨c5, ?_⟩
    by_cases cv : v = 0
    · rw [if_pos cv] at h; exact Or.inl ⟨cv, h⟩
    rw [if_neg cv] at h
    right
    refine ⟨cv, ?_⟩
    rcases hb : exL N n s.b ⟨st.ν, st.ρ, k, st.cs⟩ with _ | o1
    · rw [hb] at h; cases h
    rw [hb] at h
    rcases o1 with st' | _ | _
    · exact Or.inl ⟨st', rfl, h⟩
    · injection h with h; rw [← h]; exact Or.inr ⟨trivial, rfl⟩
    · injection h with h; rw [← h]; exact Or.inr ⟨trivial, rfl⟩
  rw [if_neg c5] at h; cases h
theorem exL_len (N : Env0) : ∀ (n : Nat) (l : List S0) (st st' : Pst), exL N n l st = some (.norm st') → st.ρ.length ≤ st'.ρ.length := by
  intro n
  induction n with
  | zero => intro l st st' h; rw [exL] at h; cases h
  | succ n ih =>
    intro l st st' h
    rcases l with _ | ⟨s, l⟩
    · rw [exL] at h; injection h with h; injection h with h; rw [h]; exact Nat.le_refl _
    rcases cons_cases h with ⟨-, h⟩ | ⟨-, h⟩ | ⟨-, -, a, es, -, ⟨e, -, h⟩ | ⟨v, k, -, h⟩⟩
    · cases h
    · cases h
    · cases h
    rcases h with ⟨-, h⟩ | ⟨-, h⟩ | ⟨-, b, -, ⟨e, -, h⟩ | ⟨u, k2, -, ⟨-, h⟩ | ⟨c, -, ⟨-, h⟩ | ⟨-, h⟩⟩⟩⟩ | ⟨-, ⟨s1, h1, h⟩ | ⟨h, -⟩⟩ | ⟨-, ⟨-, h⟩ | ⟨-, ⟨s1, h1, h⟩ | ⟨h, -⟩⟩⟩
    · have := ih _ _ _ h; simp at this; omega
    · have := ih _ _ _ h; simpa using this
    · cases h
    · cases h
    · cases h
    · have := ih _ _ _ h; exact this
    · have h2 := ih _ _ _ h
      have h3 := ih _ _ _ h1
      simp only [back, List.length_take] at h2
      simp only at h3
      omega
    · exact h.elim
    · have := ih _ _ _ h; exact this
    · have h2 := ih _ _ _ h
      have h3 := ih _ _ _ h1
      simp only [back, List.length_take] at h2
      simp only at h3
      omega
    · exact h.elim
theorem back_len {N : Env0} {n : Nat} {l : List S0} {st st' : Pst} {k : Int} {cs : List Cmp} (h : exL N n l ⟨st.ν, st.ρ, k, cs⟩ = some (.norm st')) : (back st st').ν = st.ν ∧ (back st st').ρ.length = st.ρ.length := by
  refine ⟨rfl, ?_⟩
  have := exL_len N _ _ _ _ h
  simp only at this
  simp only [back, List.length_take]
  omega
theorem cons_congr {N : Env0} {n : Nat} {s : S0} {l l' : List S0} {st : Pst} {o : Out} (h : exL N (n + 1) (s :: l) st = some o) (hl : ∀ st o, exL N n l st = some o → Does N l' st o) (hw : s.op = 5 → ∀ st o, exL N n (s :: l) st = some o → Does N (s :: l') st o) : Does N (s :: l') st o := by
  rcases cons_cases h with ⟨c, rfl⟩ | ⟨c, rfl⟩ | ⟨c6, c7, a, es, he, ⟨e, hv, rfl⟩ | ⟨v, k, hv, h⟩⟩
  · exact does_stop c
  · exact does_fail c
  · exact does_bad c6 c7 he hv
  rcases h with ⟨c, h⟩ | ⟨c, h⟩ | ⟨c, b, rfl, ⟨e, hu, rfl⟩ | ⟨u, k2, hu, ⟨hc, rfl⟩ | ⟨c', hc, ⟨hw', rfl⟩ | ⟨hw', h⟩⟩⟩⟩ | ⟨c, ⟨s1, h1, h⟩ | ⟨ho, h⟩⟩ | ⟨c, ⟨rfl, h⟩ | ⟨hz, ⟨s1, h1, h⟩ | ⟨ho, h⟩⟩⟩
  · exact does_let c he hv (hl _ _ h)
  · exact does_set c he hv (hl _ _ h)
  · exact does_put_bad c he hv hu
  · exact does_put_none c he hv hu hc
  · exact does_put_out c he hv hu hc hw'
  · exact does_put c he hv hu hc hw' (hl _ _ h)
  · exact does_if c he hv ⟨n, h1⟩ (hl _ _ h)
  · exact does_if_end c he hv ⟨n, h⟩ ho
  · exact does_while_out c he hv (hl _ _ h)
  · exact does_while c he hv hz ⟨n, h1⟩ (hw c _ _ h)
  · exact does_while_end c he hv hz ⟨n, h⟩ ho
def oneE : E0 := .mk 1 1 ⟨#[]⟩ []
theorem ev_one' (N : Env0) (st : Pst) (k : Int) : ev N st oneE k = .ok (1, k) := by
  unfold ev
  rw [evX, if_pos (show oneE.op = 1 from rfl)]; rfl
def blockS (l : List S0) : S0 := .mk 4 0 ⟨#[]⟩ [oneE] l []
theorem does_block {N : Env0} {l r : List S0} {st st' : Pst} {o : Out} (h : Does N l ⟨st.ν, st.ρ, st.k, st.cs⟩ (.norm st')) (hd : Does N r (back st st') o) : Does N (blockS l :: r) st o :=
  does_if (s := blockS l) rfl rfl (ev_one' N st st.k) (by rw [if_neg (by decide)]; exact h) hd
theorem does_block_end {N : Env0} {l r : List S0} {st : Pst} {o : Out} (h : Does N l ⟨st.ν, st.ρ, st.k, st.cs⟩ o) (ho : o.ends) : Does N (blockS l :: r) st o :=
  does_if_end (s := blockS l) rfl rfl (ev_one' N st st.k) (by rw [if_neg (by decide)]; exact h) ho
theorem while_split {N : Env0} {s : S0} {l : List S0} (c : s.op = 5) : ∀ (n : Nat) (st : Pst) (o : Out), exL N n (s :: l) st = some o →
    (∃ st3, Does N [s] st (.norm st3) ∧ st3.ν = st.ν ∧ st3.ρ.length = st.ρ.length ∧ Does N l st3 o) ∨ (o.ends ∧ Does N [s] st o) := by
  intro n
  induction n with
  | zero => intro st o h; rw [exL] at h; cases h
  | succ n ih =>
    intro st o h
    rcases cons_cases h with ⟨c', -⟩ | ⟨c', -⟩ | ⟨c6, c7, a, es, he, ⟨e, hv, rfl⟩ | ⟨v, k, hv, h⟩⟩
    · omega
    · omega
    · exact Or.inr ⟨trivial, does_bad c6 c7 he hv⟩
    rcases h with ⟨c', -⟩ | ⟨c', -⟩ | ⟨c', -⟩ | ⟨c', -⟩ | ⟨-, ⟨rfl, h⟩ | ⟨hz, ⟨s1, h1, h⟩ | ⟨ho, h⟩⟩⟩
    · omega
    · omega
    · omega
    · omega
    · exact Or.inl ⟨_, does_while_out c he hv does_nil, rfl, rfl, ⟨n, h⟩⟩
    · obtain ⟨b1, b2⟩ := back_len h1
      rcases ih _ _ h with ⟨st3, k1, k2, k3, k4⟩ | ⟨ho, k1⟩
      · exact Or.inl ⟨st3, does_while c he hv hz ⟨n, h1⟩ k1, k2.trans b1, k3.trans b2, k4⟩
      · exact Or.inr ⟨ho, does_while c he hv hz ⟨n, h1⟩ k1⟩
    · exact Or.inr ⟨ho, does_while_end c he hv hz ⟨n, h⟩ ho⟩
def unrollS (s : S0) : S0 := .mk 4 0 ⟨#[]⟩ s.e [blockS s.b, s] []
theorem back_same (st st3 : Pst) (h1 : st3.ν = st.ν) (h2 : st3.ρ.length = st.ρ.length) : back st st3 = st3 := by
  unfold back
  rw [← h1, ← h2, List.take_length]
theorem unroll_does {N : Env0} {s : S0} {l : List S0} (c : s.op = 5) (st : Pst) (o : Out) (h : Does N (s :: l) st o) : Does N (unrollS s :: l) st o := by
  obtain ⟨n, h⟩ := h
  rcases n with _ | n
  · rw [exL] at h; cases h
  rcases cons_cases h with ⟨c', -⟩ | ⟨c', -⟩ | ⟨c6, c7, a, es, he, ⟨e, hv, rfl⟩ | ⟨v, k, hv, h⟩⟩
  · omega
  · omega
  · exact does_bad (s := unrollS s) (by show (4 : Nat) ≠ 6; decide) (by show (4 : Nat) ≠ 7; decide) he hv
  rcases h with ⟨c', -⟩ | ⟨c', -⟩ | ⟨c', -⟩ | ⟨c', -⟩ | ⟨-, ⟨rfl, h⟩ | ⟨hz, ⟨s1, h1, h⟩ | ⟨ho, h⟩⟩⟩
  · omega
  · omega
  · omega
  · omega
  · refine does_if (s := unrollS s) rfl he hv (st' := ⟨st.ν, st.ρ, k, st.cs⟩) (by rw [if_pos rfl]; exact does_nil) ?_
    rw [back_same st ⟨st.ν, st.ρ, k, st.cs⟩ rfl rfl]
    exact ⟨n, h⟩
  · obtain ⟨b1, b2⟩ := back_len h1
    have hbb : back ⟨st.ν, st.ρ, k, st.cs⟩ s1 = back st s1 := rfl
    rcases while_split c n _ _ h with ⟨st3, k1, k2, k3, k4⟩ | ⟨ho, k1⟩
    · refine does_if (s := unrollS s) rfl he hv (st' := st3) ?_ ?_
      · rw [if_neg hz]
        show Does N [blockS s.b, s] _ _
        refine does_block ⟨n, h1⟩ ?_
        rw [hbb]
        exact k1
      · rw [back_same st st3 (k2.trans b1) (k3.trans b2)]
        exact k4
    · refine does_if_end (s := unrollS s) rfl he hv ?_ ho
      rw [if_neg hz]
      show Does N [blockS s.b, s] _ _
      refine does_block ⟨n, h1⟩ ?_
      rw [hbb]
      exact k1
  · refine does_if_end (s := unrollS s) rfl he hv ?_ ho
    rw [if_neg hz]
    show Does N [blockS s.b, s] _ _
    exact does_block_end ⟨n, h⟩ ho
def notE (t : E0) : E0 := match t.args with
  | [a, b] => if t.op = 22 then .mk 21 0 ⟨#[]⟩ [.mk 8 0 ⟨#[]⟩ [a], .mk 8 0 ⟨#[]⟩ [b]] else .mk 8 0 ⟨#[]⟩ [t]
  | _ => .mk 8 0 ⟨#[]⟩ [t]
theorem tr_not (b : Bool) : tr (tr b == 0) = tr (!b) := by cases b <;> rfl
theorem tr_ne (b : Bool) : tr (tr b != 0) = tr b := by cases b <;> rfl
theorem tr_zero (b : Bool) : tr b = 0 ↔ b = false := by cases b <;> simp [tr]
theorem evX_not (N : Env0) (ν : List ByteArray) (ρ : List Int) (cs : List Cmp) (n : Nat) (t : E0) (k : Int) : evX N ν ρ cs (n + 1) (.mk 8 0 ⟨#[]⟩ [t]) k = (match evX N ν ρ cs n t k with
    | .error e => .error e
    | .ok (v, k1) => .ok (tr (v == 0), k1)) := by
  rw [evX]
  have o1 : (E0.mk 8 0 ⟨#[]⟩ [t]).op = 8 := rfl
  have o2 : (E0.mk 8 0 ⟨#[]⟩ [t]).args = [t] := rfl
  rw [o1, o2]
  rw [if_neg (by decide), if_neg (by decide), if_neg (by decide), if_neg (by decide)]
  show (match evX N ν ρ cs n t k with | Except.error e => (Except.error e : Except Nat (Int × Int)) | Except.ok (v, k1) => ev1 N cs 8 0 v k1) = _
  rcases evX N ν ρ cs n t k with e | ⟨v, k1⟩
  · rfl
  · rfl
theorem fine_not {n : Nat} {t : E0} (h : fineB (n + 1) (.mk 8 0 ⟨#[]⟩ [t]) = true) : fineB n t = true := by
  rcases fine_cases h with ⟨h1, -⟩ | ⟨-, a, ha, hf⟩ | ⟨h1, -⟩
  · have : (8 : Nat) = 1 ∨ (8 : Nat) = 2 ∨ (8 : Nat) = 4 ∨ (8 : Nat) = 5 := h1
    omega
  · have : [t] = [a] := ha
    injection this with this
    rw [this]; exact hf
  · have : 10 ≤ 8 ∧ 8 ≤ 24 := h1
    omega
theorem ev_not (N : Env0) (st : Pst) (t : E0) (k : Int) (hf : fineB 40 t = true) (hg : fineB 40 (notE t) = true) : ev N st (notE t) k = (match ev N st t k with
    | .error e => .error e
    | .ok (v, k1) => .ok (tr (v == 0), k1)) := by
  unfold ev
  have plain : notE t = .mk 8 0 ⟨#[]⟩ [t] → evX N st.ν st.ρ st.cs 40 (notE t) k = (match evX N st.ν st.ρ st.cs 40 t k with
    | .error e => .error e
    | .ok (v, k1) => .ok (tr (v == 0), k1)) := by
    intro e
    rw [e] at hg ⊢
    rw [evX_not, evX_more N st.ν st.ρ st.cs 39 40 t k (fine_not hg) (by omega)]
  rcases ht : t.args with _ | ⟨a, _ | ⟨b, _ | ⟨c, r⟩⟩⟩
  · exact plain (by unfold notE; rw [ht])
  · exact plain (by unfold notE; rw [ht])
  · by_cases c22 : t.op = 22
    · have e : notE t = .mk 21 0 ⟨#[]⟩ [.mk 8 0 ⟨#[]⟩ [a], .mk 8 0 ⟨#[]⟩ [b]] := by unfold notE; rw [ht]; simp only [c22, if_true]
      rw [e] at hg ⊢
      have fab : fineB 38 a = true ∧ fineB 38 b = true := by
        rcases fine_cases hg with ⟨h1, -⟩ | ⟨h1, -⟩ | ⟨-, x, y, hxy, hx, hy⟩
        · have : (21 : Nat) = 1 ∨ (21 : Nat) = 2 ∨ (21 : Nat) = 4 ∨ (21 : Nat) = 5 := h1
          omega
        · have : ((21 : Nat) = 3 ∧ _) ∨ (6 ≤ 21 ∧ 21 ≤ 9) := h1
          omega
        · have hxy : [E0.mk 8 0 ⟨#[]⟩ [a], E0.mk 8 0 ⟨#[]⟩ [b]] = [x, y] := hxy
          injection hxy with e1 e2
          injection e2 with e2
          subst e1 e2
          exact ⟨fine_not hx, fine_not hy⟩
      have A := fun k => evX_more N st.ν st.ρ st.cs 38 39 a k fab.1 (by omega)
      have B := fun k => evX_more N st.ν st.ρ st.cs 38 39 b k fab.2 (by omega)
      have o1 : (E0.mk 21 0 ⟨#[]⟩ [E0.mk 8 0 ⟨#[]⟩ [a], E0.mk 8 0 ⟨#[]⟩ [b]]).op = 21 := rfl
      have o2 : (E0.mk 21 0 ⟨#[]⟩ [E0.mk 8 0 ⟨#[]⟩ [a], E0.mk 8 0 ⟨#[]⟩ [b]]).args = [E0.mk 8 0 ⟨#[]⟩ [a], E0.mk 8 0 ⟨#[]⟩ [b]] := rfl
      have L : evX N st.ν st.ρ st.cs 40 t k = (match evX N st.ν st.ρ st.cs 38 a k with
        | .error e => .error e
        | .ok (v, k1) => if v ≠ 0 then .ok (1, k1) else (match evX N st.ν st.ρ st.cs 38 b k1 with
          | .error e => .error e
          | .ok (u, k2) => .ok (tr (u != 0), k2))) := by
        rw [evX, ht, c22, if_neg (by decide), if_neg (by decide), if_neg (by decide), if_neg (by decide)]
        simp only
        rw [A]
        rcases evX N st.ν st.ρ st.cs 38 a k with e | ⟨v, k1⟩
        · rfl
        by_cases hv : v = 0
        · subst hv
          simp only [ne_eq, not_true_eq_false, and_false, if_false, Nat.reduceEqDiff, false_and]
          rw [B]
          rcases evX N st.ν st.ρ st.cs 38 b k1 with e | ⟨u, k2⟩
          · rfl
          · simp [ev2]
        · simp [hv]
      have R : evX N st.ν st.ρ st.cs 40 (.mk 21 0 ⟨#[]⟩ [.mk 8 0 ⟨#[]⟩ [a], .mk 8 0 ⟨#[]⟩ [b]]) k = (match evX N st.ν st.ρ st.cs 38 a k with
        | .error e => .error e
        | .ok (v, k1) => if v ≠ 0 then .ok (0, k1) else (match evX N st.ν st.ρ st.cs 38 b k1 with
          | .error e => .error e
          | .ok (u, k2) => .ok (tr (u == 0), k2))) := by
        rw [evX, o1, o2, if_neg (by decide), if_neg (by decide), if_neg (by decide), if_neg (by decide)]
        simp only
        rw [evX_not]
        rcases evX N st.ν st.ρ st.cs 38 a k with e | ⟨v, k1⟩
        · rfl
        by_cases hv : v = 0
        · subst hv
          have : ¬ tr ((0 : Int) == 0) = 0 := by decide
          simp only [this, ne_eq, not_true_eq_false, and_false, if_false, Nat.reduceEqDiff, false_and]
          rw [evX_not]
          rcases evX N st.ν st.ρ st.cs 38 b k1 with e | ⟨u, k2⟩
          · rfl
          · simp [ev2, tr_ne]
        · have h0 : (v == 0) = false := by simpa using hv
          have : tr (v == 0) = 0 := (tr_zero _).2 h0
          simp [this, hv]
      rw [L, R]
      rcases evX N st.ν st.ρ st.cs 38 a k with e | ⟨v, k1⟩
      · rfl
      simp only
      by_cases hv : v ≠ 0
      · rw [if_pos hv, if_pos hv]; rfl
      · rw [if_neg hv, if_neg hv]
        rcases evX N st.ν st.ρ st.cs 38 b k1 with e | ⟨u, k2⟩
        · rfl
        · simp only; rw [tr_not]; unfold bne; rw [Bool.not_not]
    · exact plain (by unfold notE; rw [ht]; simp only [c22, if_false])
  · exact plain (by unfold notE; rw [ht])
def flipS (s : S0) : S0 := match s.e with
  | [t] => if s.op = 4 then .mk 4 s.n s.nm [notE t] s.els s.b else s
  | _ => s
theorem flip_does {N : Env0} : ∀ (n : Nat) (l : List S0), (∀ s, s ∈ l → ∀ t, s.op = 4 → s.e = [t] → fineB 40 t = true ∧ fineB 40 (notE t) = true) → ∀ (st : Pst) (o : Out), exL N n l st = some o → Does N (l.map flipS) st o := by
  intro n
  induction n with
  | zero => intro l _ st o h; rw [exL] at h; cases h
  | succ n ih =>
    intro l hl st o h
    rcases l with _ | ⟨s, l⟩
    · exact ⟨_, h⟩
    have hl' : ∀ u, u ∈ l → ∀ t, u.op = 4 → u.e = [t] → fineB 40 t = true ∧ fineB 40 (notE t) = true := fun u hu => hl u (List.mem_cons_of_mem _ hu)
    rw [List.map_cons]
    by_cases hs : s.op = 4 ∧ ∃ t, s.e = [t]
    · obtain ⟨c4, t, het⟩ := hs
      obtain ⟨f1, f2⟩ := hl s (List.mem_cons_self ..) t c4 het
      have ef : flipS s = .mk 4 s.n s.nm [notE t] s.els s.b := by unfold flipS; rw [het]; simp only [c4, if_true]
      rw [ef]
      rcases cons_cases h with ⟨c', -⟩ | ⟨c', -⟩ | ⟨c6, c7, a, es, he, h⟩
      · omega
      · omega
      rw [het] at he
      injection he with e1 e2
      subst e1 e2
      have hn := ev_not N st t st.k f1 f2
      rcases h with ⟨e, hv, rfl⟩ | ⟨v, k, hv, h⟩
      · rw [hv] at hn
        exact does_bad (s := .mk 4 s.n s.nm [notE t] s.els s.b) (by show (4 : Nat) ≠ 6; decide) (by show (4 : Nat) ≠ 7; decide) rfl hn
      rw [hv] at hn
      simp only at hn
      have hsw : (if tr (v == 0) = 0 then s.b else s.els) = (if v = 0 then s.els else s.b) := by
        by_cases hz : v = 0
        · subst hz; rfl
        · rw [if_pos ((tr_zero _).2 (by simpa using hz)), if_neg hz]
      rcases h with ⟨c', -⟩ | ⟨c', -⟩ | ⟨c', -⟩ | ⟨-, ⟨s1, h1, h⟩ | ⟨ho, h⟩⟩ | ⟨c', -⟩
      · omega
      · omega
      · omega
      · exact does_if (s := .mk 4 s.n s.nm [notE t] s.els s.b) rfl rfl hn (st' := s1) (by show Does N (if tr (v == 0) = 0 then s.b else s.els) _ _; rw [hsw]; exact ⟨n, h1⟩) (ih l hl' _ _ h)
      · exact does_if_end (s := .mk 4 s.n s.nm [notE t] s.els s.b) rfl rfl hn (by show Does N (if tr (v == 0) = 0 then s.b else s.els) _ _; rw [hsw]; exact ⟨n, h⟩) ho
      · omega
    · have ef : flipS s = s := by
        unfold flipS
        split
        · rename_i t ht
          rw [if_neg (fun c => hs ⟨c, t, ht⟩)]
        · rfl
      rw [ef]
      refine cons_congr h (fun st o h => ih l hl' st o h) (fun _ st o h => ?_)
      have := ih (s :: l) hl st o h
      rwa [List.map_cons, ef] at this
end
end Go.Proofs.YtocbddajakbemaaGreat
set_option linter.unusedSimpArgs false
namespace Go.Proofs.YtocbddajakbemaaGreat
section
open Go.RowKit
def outN : Out → Nat
  | .err n => n
  | _ => 0
def outC (cs : List Cmp) : Out → List Cmp
  | .norm st => st.cs
  | .stop c => c
  | .err _ => cs
theorem deedF_congr {S S' : Fix} (h1 : S.cn = S'.cn) (h2 : S.tick = S'.tick) (h3 : S.ID = S'.ID) (h4 : S.s = S'.s) (op : Nat) (a : Int) (σ : Mst) : deedF S op a σ = deedF S' op a σ := by
  unfold deedF
  simp only [h1, h2, h3, h4]
theorem runF_congr {S S' : Fix} (h1 : S.cn = S'.cn) (h2 : S.tick = S'.tick) (h3 : S.ID = S'.ID) (h4 : S.s = S'.s) (code : List (Nat × Int)) : ∀ (f : Nat) (σ : Mst), runF S code f σ = runF S' code f σ := by
  intro f
  induction f with
  | zero => intro σ; rw [runF.eq_def, runF.eq_def]
  | succ f ih =>
    intro σ
    rw [runF.eq_def, runF.eq_def S']
    simp only [deedF_congr h1 h2 h3 h4, ih]
theorem listL_32 (m : Nat) (l : List S0) (hs : ∀ s, s ∈ l → ∀ ν, stmtG m s ν = true → stmtL m s ν ≤ 32) : ∀ ν, listG (stmtG m) l ν = true → listL (stmtL m) l ν ≤ 32 := by
  induction l with
  | nil => intro ν _; simp [listL]
  | cons s l ih =>
    intro ν h
    rw [listG, Bool.and_eq_true] at h
    have h1 := hs s (List.mem_cons_self ..) ν h.1
    have h2 := ih (fun t ht => hs t (List.mem_cons_of_mem _ ht)) (nextV s ν) h.2
    rw [listL]; omega
theorem stmtL_32 : ∀ (m : Nat) (s : S0) (ν : List ByteArray), stmtG m s ν = true → stmtL m s ν ≤ 32 := by
  intro m
  induction m with
  | zero => intro s ν _; simp [stmtL]
  | succ m ih =>
    intro s ν h
    rw [stmtG, Bool.and_eq_true] at h
    rw [stmtL]
    by_cases k1 : s.op = 1
    · rw [if_pos k1] at h ⊢
      have := h.2
      rw [Bool.and_eq_true] at this
      have := of_decide_eq_true this.2
      omega
    rw [if_neg k1] at h ⊢
    by_cases k45 : s.op = 4 ∨ s.op = 5
    · rw [if_pos k45]
      have h := h.2
      rw [if_neg (by omega), if_pos k45, Bool.and_eq_true] at h
      have h1 := listL_32 m s.b (fun t _ ν hg => ih t ν hg) ν h.1
      have h2 := listL_32 m s.els (fun t _ ν hg => ih t ν hg) ν h.2
      omega
    · rw [if_neg k45]; omega
structure OkP (l : List S0) : Prop where
  right : ∀ s, s ∈ l → rightS 40 s = true
  good : listG (stmtG 40) l [] = true
  len : (codeP l).length ≤ 4000
  locals : localsP l ≤ 32
  sound : soundF (localsP l : Nat) (maskP 4 l) (maskP 5 l) (codeP l) = some true
  op : ∀ x, x ∈ codeP l → x.1 < 256
theorem okP_use {l : List S0} (h : okP l = true) : OkP l := by
  unfold okP at h
  rw [Bool.and_eq_true, Bool.and_eq_true, List.all_eq_true] at h
  obtain ⟨h1, h2, h3⟩ := h
  have h32 := listL_32 40 l (fun t _ ν hg => stmtL_32 40 t ν hg) [] h2
  refine ⟨h1, h2, of_decide_eq_true h3, h32, sound_true 40 l h1 h2 (localsP l) (Nat.le_refl _) h32 (codeP l) rfl, fun x hx => ?_⟩
  have := right_op (o := x.1) (a := x.2) (list_right (localsP l) (codeP l).length 40 l h1 [] 0 h2 (Nat.le_refl _) (Nat.zero_le _) (by show 0 + (codeP l).length ≤ _; omega) x hx)
  omega
def fixP (l : List S0) (ID seed tick key : Int) : Fix := ⟨none, (codeP l).length, 0, 0, 0, 0, ID, seed, tick, key, newI seed tick ID key⟩
def envP (ID seed tick key : Int) : Env0 := ⟨tick, ID, newI seed tick ID key⟩
end
end Go.Proofs.YtocbddajakbemaaGreat
