/- vm, plain: what a program's code is, and what a program does. vm, plain: the code of an expression computes its value. vm, plain: the code of a row of statements does what they say. -/
import Derived.Test.YtocbddajakbemaaGreatNA
import Derived.Test.YtocbddajakbemaaGreatMG
set_option linter.unusedVariables false
set_option linter.unusedSimpArgs false
set_option linter.unusedSimpArgs false
namespace Go.Proofs.YtocbddajakbemaaGreat
section
open Go.RowKit
def rowC (f : E0 → Nat → List (Nat × Int)) : List E0 → Nat → List (Nat × Int)
  | [], _ => []
  | x :: l, b => f x b ++ rowC f l (b + (f x b).length)
def lastI (x : E0) : Nat × Int := if x.op = 3 then (4, x.n) else if x.op = 6 then (8, 0) else (9, (x.op : Nat))
def exprC (ν : List ByteArray) : Nat → E0 → Nat → List (Nat × Int)
  | 0, _, _ => []
  | n + 1, x, b =>
    if x.op = 1 then [(1, x.n)]
    else if x.op = 2 then [(2, idxM ν x.nm)]
    else if x.op = 4 then [(6, 0)]
    else if x.op = 5 then [(7, 0)]
    else if x.op = 21 ∨ x.op = 22 then
      match x.args with
      | [a, c] => exprC ν n a b ++ ((if x.op = 21 then 12 else 13, ((b + (exprC ν n a b).length + 1 + (exprC ν n c (b + (exprC ν n a b).length + 1)).length + 2 : Nat) : Int)) ::
          (exprC ν n c (b + (exprC ν n a b).length + 1) ++ [(10, 0), (11, ((b + (exprC ν n a b).length + 1 + (exprC ν n c (b + (exprC ν n a b).length + 1)).length + 3 : Nat) : Int)), (1, if x.op = 21 then 0 else 1)]))
      | _ => []
    else rowC (exprC ν n) x.args b ++ [lastI x]
def exprG (ν : List ByteArray) : Nat → E0 → Bool
  | 0, _ => true
  | n + 1, x => (if x.op = 2 then decide (0 ≤ idxM ν x.nm) else true) && x.args.all (exprG ν n)
structure Env0 where
  tick : Int
  ID : Int
  s : Int
def Fix.env0 (S : Fix) : Env0 := ⟨S.tick, S.ID, S.s⟩
noncomputable def ev1 (S : Env0) (cs : List Cmp) (op : Nat) (num v k : Int) : Except Nat (Int × Int) :=
  if op = 3 then (match cs[idxC cs num]? with
    | none => .error 140
    | some c => if v < 0 ∨ 3 < v then .error 141 else .ok (c.get v.toNat, k))
  else if op = 6 then (if v < 1 ∨ 2147483648 < v then .error 143 else .ok (drawV S.s k v, drawK S.s k v))
  else .ok (evV op v 0, k)
def ev2 (op : Nat) (v u k : Int) : Except Nat (Int × Int) :=
  if op = 21 ∨ op = 22 then .ok (tr (u != 0), k) else if evE op u = 0 then .ok (evV op v u, k) else .error (evE op u)
noncomputable def evX (S : Env0) (ν : List ByteArray) (ρ : List Int) (cs : List Cmp) : Nat → E0 → Int → Except Nat (Int × Int)
  | 0, _, _ => .error 0
  | n + 1, x, k =>
    if x.op = 1 then .ok (x.n, k)
    else if x.op = 2 then .ok (ρ.getD (idxM ν x.nm).toNat 0, k)
    else if x.op = 4 then .ok (S.tick, k)
    else if x.op = 5 then .ok (S.ID, k)
    else match x.args with
    | [a] => (match evX S ν ρ cs n a k with
      | .error e => .error e
      | .ok (v, k1) => ev1 S cs x.op x.n v k1)
    | [a, b] => (match evX S ν ρ cs n a k with
      | .error e => .error e
      | .ok (v, k1) => if x.op = 21 ∧ v = 0 then .ok (0, k1) else if x.op = 22 ∧ v ≠ 0 then .ok (1, k1) else
        (match evX S ν ρ cs n b k1 with
        | .error e => .error e
        | .ok (u, k2) => ev2 x.op v u k2))
    | _ => .error 0
theorem fine_cases {n : Nat} {x : E0} (h : fineB (n + 1) x = true) : ((x.op = 1 ∨ x.op = 2 ∨ x.op = 4 ∨ x.op = 5) ∧ x.args = []) ∨ (((x.op = 3 ∧ 1 ≤ x.n ∧ x.n ≤ 10) ∨ (6 ≤ x.op ∧ x.op ≤ 9)) ∧ ∃ a, x.args = [a] ∧ fineB n a = true) ∨ ((10 ≤ x.op ∧ x.op ≤ 24) ∧ ∃ a b, x.args = [a, b] ∧ fineB n a = true ∧ fineB n b = true) := by
  rw [fineB, Bool.and_eq_true, Bool.and_eq_true, Bool.and_eq_true] at h
  obtain ⟨⟨⟨h1, h2⟩, h3⟩, h4⟩ := h
  have h1 : manyF x.op = (x.args.length : Int) := by simpa using h1
  unfold manyF at h1
  by_cases c1 : x.op = 1 ∨ x.op = 2 ∨ x.op = 4 ∨ x.op = 5
  · rw [if_pos c1] at h1
    exact Or.inl ⟨c1, List.eq_nil_of_length_eq_zero (by omega)⟩
  rw [if_neg c1] at h1
  rw [if_neg (by omega), Bool.and_eq_true] at h4
  obtain ⟨h4, h5⟩ := h4
  rw [List.all_eq_true] at h5
  right
  by_cases c2 : x.op = 3 ∨ (6 ≤ x.op ∧ x.op ≤ 9)
  · rw [if_pos c2] at h1
    obtain ⟨a, ha⟩ := List.length_eq_one_iff.1 (show x.args.length = 1 by omega)
    left
    refine ⟨?_, a, ha, h5 a (by rw [ha]; simp)⟩
    rcases c2 with c2 | c2
    · rw [if_pos c2] at h4
      unfold kindB at h4
      simp at h4
      exact Or.inl ⟨c2, h4⟩
    · exact Or.inr c2
  rw [if_neg c2] at h1
  by_cases c3 : 10 ≤ x.op ∧ x.op ≤ 24
  · rw [if_pos c3] at h1
    obtain ⟨a, b, ha⟩ : ∃ a b, x.args = [a, b] := by
      match hm : x.args, (show x.args.length = 2 by omega) with
      | [a, b], _ => exact ⟨a, b, rfl⟩
    exact Or.inr ⟨c3, a, b, ha, h5 a (by rw [ha]; simp), h5 b (by rw [ha]; simp)⟩
  · rw [if_neg c3] at h1; omega
theorem evX_more (S : Env0) (ν : List ByteArray) (ρ : List Int) (cs : List Cmp) : ∀ (n m : Nat) (x : E0) (k : Int), fineB n x = true → n ≤ m → evX S ν ρ cs m x k = evX S ν ρ cs n x k := by
  intro n
  induction n with
  | zero => intro m x k h; simp [fineB] at h
  | succ n ih =>
    intro m x k h hm
    obtain ⟨m, rfl⟩ : ∃ m', m = m' + 1 := ⟨m - 1, by omega⟩
    rcases fine_cases h with ⟨h1, h2⟩ | ⟨h1, a, ha, hf⟩ | ⟨h1, a, b, ha, hf, hg⟩
    · rw [evX, evX]
      rcases h1 with h1 | h1 | h1 | h1 <;> simp [h1]
    · rw [evX, evX, ha]
      simp only
      rw [ih m a k hf (by omega)]
    · rw [evX, evX, ha]
      simp only
      rw [ih m a k hf (by omega)]
      simp only [fun k => ih m b k hg (by omega)]
def nextV (s : S0) (ν : List ByteArray) : List ByteArray := if s.op = 1 then ν ++ [s.nm] else ν
def listC (f : S0 → List ByteArray → Nat → List (Nat × Int)) : List S0 → List ByteArray → Nat → List (Nat × Int)
  | [], _, _ => []
  | s :: l, ν, b => f s ν b ++ listC f l (nextV s ν) (b + (f s ν b).length)
def stmtC : Nat → S0 → List ByteArray → Nat → List (Nat × Int)
  | 0, _, _, _ => []
  | n + 1, s, ν, b =>
    rowC (exprC ν 40) s.e b ++
    ((if s.op = 1 then [(3, ((ν.length : Nat) : Int))]
    else if s.op = 2 then [(3, idxM ν s.nm)]
    else if s.op = 3 then [(5, s.n)]
    else if s.op = 4 then
      (if s.els = [] then
        (12, ((b + (rowC (exprC ν 40) s.e b).length + 1 + (listC (stmtC n) s.b ν (b + (rowC (exprC ν 40) s.e b).length + 1)).length : Nat) : Int)) :: listC (stmtC n) s.b ν (b + (rowC (exprC ν 40) s.e b).length + 1)
      else
        (12, ((b + (rowC (exprC ν 40) s.e b).length + 1 + (listC (stmtC n) s.b ν (b + (rowC (exprC ν 40) s.e b).length + 1)).length + 1 : Nat) : Int)) :: (listC (stmtC n) s.b ν (b + (rowC (exprC ν 40) s.e b).length + 1) ++
          ((11, ((b + (rowC (exprC ν 40) s.e b).length + 1 + (listC (stmtC n) s.b ν (b + (rowC (exprC ν 40) s.e b).length + 1)).length + 1 + (listC (stmtC n) s.els ν (b + (rowC (exprC ν 40) s.e b).length + 1 + (listC (stmtC n) s.b ν (b + (rowC (exprC ν 40) s.e b).length + 1)).length + 1)).length : Nat) : Int)) ::
            listC (stmtC n) s.els ν (b + (rowC (exprC ν 40) s.e b).length + 1 + (listC (stmtC n) s.b ν (b + (rowC (exprC ν 40) s.e b).length + 1)).length + 1))))
    else if s.op = 5 then
      (12, ((b + (rowC (exprC ν 40) s.e b).length + 1 + (listC (stmtC n) s.b ν (b + (rowC (exprC ν 40) s.e b).length + 1)).length + 1 : Nat) : Int)) :: (listC (stmtC n) s.b ν (b + (rowC (exprC ν 40) s.e b).length + 1) ++ [(11, ((b : Nat) : Int))])
    else if s.op = 6 then [(14, 0)]
    else if s.op = 7 then [(15, 0)] else []) : List (Nat × Int))
def listL (f : S0 → List ByteArray → Nat) : List S0 → List ByteArray → Nat
  | [], _ => 0
  | s :: l, ν => max (f s ν) (listL f l (nextV s ν))
def stmtL : Nat → S0 → List ByteArray → Nat
  | 0, _, _ => 0
  | n + 1, s, ν => if s.op = 1 then ν.length + 1 else if s.op = 4 ∨ s.op = 5 then max (listL (stmtL n) s.b ν) (listL (stmtL n) s.els ν) else 0
def listG (f : S0 → List ByteArray → Bool) : List S0 → List ByteArray → Bool
  | [], _ => true
  | s :: l, ν => f s ν && listG f l (nextV s ν)
def stmtG : Nat → S0 → List ByteArray → Bool
  | 0, _, _ => true
  | n + 1, s, ν => s.e.all (exprG ν 40) && (if s.op = 1 then !(hasM ν s.nm) && decide (ν.length < 32) else if s.op = 2 then decide (0 ≤ idxM ν s.nm) else if s.op = 4 ∨ s.op = 5 then listG (stmtG n) s.b ν && listG (stmtG n) s.els ν else true)
structure Pst where
  ν : List ByteArray
  ρ : List Int
  k : Int
  cs : List Cmp
inductive Out where
  | norm (st : Pst)
  | stop (cs : List Cmp)
  | err (n : Nat)
noncomputable def ev (S : Env0) (st : Pst) (x : E0) (k : Int) : Except Nat (Int × Int) := evX S st.ν st.ρ st.cs 40 x k
def back (st st' : Pst) : Pst := ⟨st.ν, st'.ρ.take st.ρ.length, st'.k, st'.cs⟩
noncomputable def exL (S : Env0) : Nat → List S0 → Pst → Option Out
  | 0, _, _ => none
  | _ + 1, [], st => some (.norm st)
  | n + 1, s :: l, st =>
    if s.op = 6 then some (.stop st.cs) else if s.op = 7 then some (.err 144) else
    match s.e with
    | [] => none
    | a :: es => (match ev S st a st.k with
      | .error e => some (.err e)
      | .ok (v, k) =>
        if s.op = 1 then exL S n l ⟨st.ν ++ [s.nm], st.ρ ++ [v], k, st.cs⟩
        else if s.op = 2 then exL S n l ⟨st.ν, st.ρ.set (idxM st.ν s.nm).toNat v, k, st.cs⟩
        else if s.op = 3 then (match es with
          | [b] => (match ev S st b k with
            | .error e => some (.err e)
            | .ok (u, k2) => (match st.cs[idxC st.cs s.n]? with
              | none => some (.err 140)
              | some c => if v < 0 ∨ 3 < v then some (.err 141) else exL S n l ⟨st.ν, st.ρ, k2, st.cs.set (idxC st.cs s.n) (c.set v.toNat u)⟩))
          | _ => none)
        else if s.op = 4 then (match exL S n (if v = 0 then s.els else s.b) ⟨st.ν, st.ρ, k, st.cs⟩ with
          | some (.norm st') => exL S n l (back st st')
          | r => r)
        else if s.op = 5 then (if v = 0 then exL S n l ⟨st.ν, st.ρ, k, st.cs⟩ else match exL S n s.b ⟨st.ν, st.ρ, k, st.cs⟩ with
          | some (.norm st') => exL S n (s :: l) (back st st')
          | r => r)
        else none)
theorem exL_succ (S : Env0) : ∀ (n : Nat) (l : List S0) (st : Pst) (o : Out), exL S n l st = some o → exL S (n + 1) l st = some o := by
  intro n
  induction n with
  | zero => intro l st o h; rw [exL] at h; cases h
  | succ n ih =>
    intro l st o h
    rcases l with _ | ⟨s, l⟩
    · rw [exL] at h ⊢; exact h
    rw [exL] at h ⊢
    by_cases c6 : s.op = 6
    · rw [if_pos c6] at h ⊢; exact h
    rw [if_neg c6] at h ⊢
    by_cases c7 : s.op = 7
    · rw [if_pos c7] at h ⊢; exact h
    rw [if_neg c7] at h ⊢
    rcases he : s.e with _ | ⟨a, es⟩
    · rw [he] at h; cases h
    rw [he] at h
    simp only at h ⊢
    rcases hv : ev S st a st.k with e | ⟨v, k⟩
    · rw [hv] at h; exact h
    rw [hv] at h
    simp only at h ⊢
    by_cases c1 : s.op = 1
    · rw [if_pos c1] at h ⊢; exact ih _ _ _ h
    rw [if_neg c1] at h ⊢
    by_cases c2 : s.op = 2
    · rw [if_pos c2] at h ⊢; exact ih _ _ _ h
    rw [if_neg c2] at h ⊢
    by_cases c3 : s.op = 3
    · rw [if_pos c3] at h ⊢
      rcases es with _ | ⟨b, es⟩
      · cases h
      rcases es with _ | ⟨b2, es⟩
      · simp only at h ⊢
        rcases hu : ev S st b k with e | ⟨u, k2⟩
        · rw [hu] at h; exact h
        rw [hu] at h
        simp only at h ⊢
        rcases hc : st.cs[idxC st.cs s.n]? with _ | c
        · rw [hc] at h; exact h
        rw [hc] at h
        simp only at h ⊢
        by_cases c4 : v < 0 ∨ 3 < v
        · rw [if_pos c4] at h ⊢; exact h
        rw [if_neg c4] at h ⊢
        exact ih _ _ _ h
      · cases h
    rw [if_neg c3] at h ⊢
    by_cases c4 : s.op = 4
    · rw [if_pos c4] at h ⊢
      rcases hb : exL S n (if v = 0 then s.els else s.b) ⟨st.ν, st.ρ, k, st.cs⟩ with _ | o1
      · rw [hb] at h; cases h
      rw [hb] at h
      rw [ih _ _ _ hb]
      rcases o1 with st' | _ | _
      · exact ih _ _ _ h
      · exact h
      · exact h
    rw [if_neg c4] at h ⊢
    by_cases c5 : s.op = 5
    · rw [if_pos c5] at h ⊢
      by_cases cv : v = 0
      · rw [if_pos cv] at h ⊢; exact ih _ _ _ h
      rw [if_neg cv] at h ⊢
      rcases hb : exL S n s.b ⟨st.ν, st.ρ, k, st.cs⟩ with _ | o1
      · rw [hb] at h; cases h
      rw [hb] at h
      rw [ih _ _ _ hb]
      rcases o1 with st' | _ | _
      · exact ih _ _ _ h
      · exact h
      · exact h
    rw [if_neg c5] at h; cases h
def Does (S : Env0) (l : List S0) (st : Pst) (o : Out) : Prop := ∃ n, exL S n l st = some o
theorem exL_more {S : Env0} {n m : Nat} {l : List S0} {st : Pst} {o : Out} (h : exL S n l st = some o) (hm : n ≤ m) : exL S m l st = some o := by
  obtain ⟨k, rfl⟩ := Nat.le.dest hm
  clear hm
  induction k with
  | zero => exact h
  | succ k ih => exact exL_succ S _ _ _ _ ih
theorem Does.one {S : Env0} {l : List S0} {st : Pst} {o o' : Out} (h : Does S l st o) (h' : Does S l st o') : o = o' := by
  obtain ⟨n, h⟩ := h
  obtain ⟨m, h'⟩ := h'
  have := (exL_more h (Nat.le_max_left n m)).symm.trans (exL_more h' (Nat.le_max_right n m))
  injection this
end
end Go.Proofs.YtocbddajakbemaaGreat
set_option linter.unusedSimpArgs false
namespace Go.Proofs.YtocbddajakbemaaGreat
section
open Go.RowKit
def SegAt (code : List (Nat × Int)) (b : Nat) (c : List (Nat × Int)) : Prop := ∀ (j : Nat) (x : Nat × Int), c[j]? = some x → code[b + j]? = some x
theorem SegAt.left {code c d : List (Nat × Int)} {b : Nat} (h : SegAt code b (c ++ d)) : SegAt code b c := fun j x hj => h j x (by rw [List.getElem?_append_left (List.getElem?_eq_some_iff.1 hj).1]; exact hj)
theorem SegAt.right {code c d : List (Nat × Int)} {b : Nat} (h : SegAt code b (c ++ d)) : SegAt code (b + c.length) d := fun j x hj => by
  have := h (c.length + j) x (by rw [List.getElem?_append_right (by omega)]; simpa using hj)
  rwa [← Nat.add_assoc] at this
theorem SegAt.head {code d : List (Nat × Int)} {x : Nat × Int} {b : Nat} (h : SegAt code b (x :: d)) : code[b]? = some x := h 0 x rfl
theorem SegAt.tail {code d : List (Nat × Int)} {x : Nat × Int} {b : Nat} (h : SegAt code b (x :: d)) : SegAt code (b + 1) d := fun j y hj => by
  have := h (j + 1) y (by simpa using hj)
  rwa [show b + 1 + j = b + (j + 1) by omega]
abbrev Rrs := Except (Nat × Nat) (Nat × Mst)
def Leads (S : Fix) (code : List (Nat × Int)) (σ σ' : Mst) : Prop := ∀ (F : Nat) (r : Rrs), runF S code F σ = some r → endN r ≠ 145 → ∃ F', F' < F ∧ runF S code F' σ' = some r
def Fails (S : Fix) (code : List (Nat × Int)) (σ : Mst) (e : Nat) : Prop := ∀ (F : Nat) (r : Rrs), runF S code F σ = some r → endN r ≠ 145 → ∃ f, r = .error (e, f)
theorem Leads.trans {S : Fix} {code : List (Nat × Int)} {a b c : Mst} (h : Leads S code a b) (k : Leads S code b c) : Leads S code a c := fun F r hr hn => by
  obtain ⟨F1, h1, h2⟩ := h F r hr hn
  obtain ⟨F2, h3, h4⟩ := k F1 r h2 hn
  exact ⟨F2, by omega, h4⟩
theorem Leads.fails {S : Fix} {code : List (Nat × Int)} {a b : Mst} {e : Nat} (h : Leads S code a b) (k : Fails S code b e) : Fails S code a e := fun F r hr hn => by
  obtain ⟨F1, h1, h2⟩ := h F r hr hn
  exact k F1 r h2 hn
theorem run_one {S : Fix} {code : List (Nat × Int)} {σ : Mst} {b : Nat} {x : Nat × Int} (hb : σ.at_ = (b : Nat)) (hx : code[b]? = some x) {F : Nat} {r : Rrs} (hr : runF S code F σ = some r) (hn : endN r ≠ 145) :
    ∃ F', F' < F ∧ ∃ d, deedF S x.1 x.2 { σ with at_ := (b : Int) + 1 } = some d ∧ match d with
      | .error n => r = .error (n, F')
      | .ok σ' => runF S code F' σ' = some r := by
  have hlt := (List.getElem?_eq_some_iff.1 hx).1
  rw [runF.eq_def] at hr
  rcases F with _ | F
  · simp only at hr
    rw [if_neg (by omega), if_neg (by omega)] at hr
    injection hr with hr; subst hr
    exact absurd rfl hn
  · simp only at hr
    rw [if_neg (by omega), if_neg (by omega)] at hr
    have e1 : σ.at_.toNat = b := by omega
    rw [e1, hx] at hr
    simp only at hr
    have e2 : { σ with at_ := σ.at_ + 1 } = { σ with at_ := (b : Int) + 1 } := by rw [hb]
    rw [e2] at hr
    refine ⟨F, by omega, ?_⟩
    rcases hd : deedF S x.1 x.2 { σ with at_ := (b : Int) + 1 } with _ | d
    · rw [hd] at hr; cases hr
    refine ⟨d, rfl, ?_⟩
    rw [hd] at hr
    rcases d with n | σ'
    · simp only at hr ⊢
      injection hr with hr; exact hr.symm
    · simp only at hr ⊢
      exact hr
theorem leads_one {S : Fix} {code : List (Nat × Int)} {σ σ' : Mst} {b : Nat} {x : Nat × Int} (hb : σ.at_ = (b : Nat)) (hx : code[b]? = some x) (hd : ∀ d, deedF S x.1 x.2 { σ with at_ := (b : Int) + 1 } = some d → d = .ok σ') : Leads S code σ σ' := fun F r hr hn => by
  obtain ⟨F', hF, d, h1, h2⟩ := run_one hb hx hr hn
  obtain rfl := hd d h1
  exact ⟨F', hF, h2⟩
theorem fails_one {S : Fix} {code : List (Nat × Int)} {σ : Mst} {e b : Nat} {x : Nat × Int} (hb : σ.at_ = (b : Nat)) (hx : code[b]? = some x) (hd : ∀ d, deedF S x.1 x.2 { σ with at_ := (b : Int) + 1 } = some d → d = .error e) : Fails S code σ e := fun F r hr hn => by
  obtain ⟨F', hF, d, h1, h2⟩ := run_one hb hx hr hn
  obtain rfl := hd d h1
  exact ⟨F', h2⟩
def Vars (ν : List ByteArray) (ρ ls : List Int) : Prop := ν.length = ρ.length ∧ ∀ (i : Nat) (v : Int), ρ[i]? = some v → ls[i]? = some v
def XRun (S : Fix) (code : List (Nat × Int)) (σ : Mst) (b : Nat) : Except Nat (Int × Int) → Prop
  | .error e => Fails S code σ e
  | .ok (v, k) => Leads S code σ { σ with at_ := (b : Nat), rs := v :: σ.rs, drawn := k }
theorem idxM_lt {ν : List ByteArray} {s : ByteArray} (h : 0 ≤ idxM ν s) : (idxM ν s).toNat < ν.length ∧ idxM ν s = ((idxM ν s).toNat : Int) := by
  unfold idxM at h ⊢
  split
  · rename_i h1; simp only [Int.toNat_natCast]; exact ⟨h1, trivial⟩
  · rename_i h1; rw [if_neg h1] at h; omega
theorem rowC_one (f : E0 → Nat → List (Nat × Int)) (a : E0) (b : Nat) : rowC f [a] b = f a b := by simp [rowC]
theorem rowC_two (f : E0 → Nat → List (Nat × Int)) (a c : E0) (b : Nat) : rowC f [a, c] b = f a b ++ f c (b + (f a b).length) := by simp [rowC]
set_option maxHeartbeats 1000000 in
theorem expr_run (S : Fix) (code : List (Nat × Int)) (ν : List ByteArray) (ρ : List Int) : ∀ (n : Nat) (x : E0), fineB n x = true → exprG ν n x = true → ∀ (b : Nat) (σ : Mst), SegAt code b (exprC ν n x b) → σ.at_ = (b : Nat) → Vars ν ρ σ.ls →
    XRun S code σ (b + (exprC ν n x b).length) (evX S.env0 ν ρ σ.cs n x σ.drawn) := by
  intro n
  induction n with
  | zero => intro x h; simp [fineB] at h
  | succ n ih =>
    intro x hf hg b σ hs hb hv
    obtain ⟨at_, drawn, rs, ls, cs⟩ := σ
    simp only at hb hv
    subst hb
    rw [exprG, Bool.and_eq_true, List.all_eq_true] at hg
    obtain ⟨hg1, hg2⟩ := hg
    rcases fine_cases hf with ⟨h1, h2⟩ | ⟨h1, a, ha, hfa⟩ | ⟨h1, a, c, ha, hfa, hfc⟩
    · rcases h1 with h1 | h1 | h1 | h1
      · rw [exprC, if_pos h1] at hs ⊢
        rw [evX, if_pos h1]
        refine leads_one rfl hs.head fun d hd => ?_
        simp only [deedF] at hd
        split at hd
        · cases hd
        · injection hd with hd; rw [← hd]; rfl
      · rw [exprC, if_neg (by omega), if_pos h1] at hs ⊢
        rw [evX, if_neg (by omega), if_pos h1]
        rw [if_pos h1] at hg1
        obtain ⟨i1, i2⟩ := idxM_lt (of_decide_eq_true hg1)
        refine leads_one rfl hs.head fun d hd => ?_
        simp only [deedF] at hd
        split at hd
        · cases hd
        try rw [if_neg (by omega)] at hd
        have hl : (idxM ν x.nm).toNat < ρ.length := by rw [← hv.1]; exact i1
        have := hv.2 _ _ (List.getElem?_eq_getElem hl)
        rw [this] at hd
        simp only at hd
        injection hd with hd; rw [← hd, List.getD_eq_getElem?_getD, List.getElem?_eq_getElem hl]; rfl
      · rw [exprC, if_neg (by omega), if_neg (by omega), if_pos h1] at hs ⊢
        rw [evX, if_neg (by omega), if_neg (by omega), if_pos h1]
        refine leads_one rfl hs.head fun d hd => ?_
        simp only [deedF] at hd
        split at hd
        · cases hd
        · injection hd with hd; rw [← hd]; rfl
      · rw [exprC, if_neg (by omega), if_neg (by omega), if_neg (by omega), if_pos h1] at hs ⊢
        rw [evX, if_neg (by omega), if_neg (by omega), if_neg (by omega), if_pos h1]
        refine leads_one rfl hs.head fun d hd => ?_
        simp only [deedF] at hd
        split at hd
        · cases hd
        · injection hd with hd; rw [← hd]; rfl
    · rw [exprC, if_neg (by omega), if_neg (by omega), if_neg (by omega), if_neg (by omega), if_neg (by omega), ha, rowC_one] at hs ⊢
      rw [evX, if_neg (by omega), if_neg (by omega), if_neg (by omega), if_neg (by omega), ha]
      have X := ih a hfa (hg2 a (by rw [ha]; simp)) b ⟨(b : Nat), drawn, rs, ls, cs⟩ hs.left rfl hv
      simp only at X ⊢
      rcases he : evX S.env0 ν ρ cs n a drawn with e | ⟨v, k1⟩
      · rw [he] at X; exact X
      rw [he] at X
      simp only at ⊢
      have X : Leads S code ⟨(b : Nat), drawn, rs, ls, cs⟩ ⟨((b + (exprC ν n a b).length : Nat) : Int), k1, v :: rs, ls, cs⟩ := X
      have hx := hs.right.head
      rw [List.length_append, show ([lastI x] : List (Nat × Int)).length = 1 from rfl]
      have eI : ((b + (exprC ν n a b).length : Nat) : Int) + 1 = ((b + ((exprC ν n a b).length + 1) : Nat) : Int) := by omega
      unfold lastI at hx
      unfold ev1
      by_cases c3 : x.op = 3
      · rw [if_pos c3] at hx ⊢
        rcases hc : cs[idxC cs x.n]? with _ | c
        · refine X.fails (fails_one rfl hx fun d hd => ?_)
          simp only [deedF] at hd
          split at hd
          · cases hd
          rw [hc] at hd; injection hd with hd; exact hd.symm
        · by_cases cv : v < 0 ∨ 3 < v
          · simp only [if_pos cv]
            refine X.fails (fails_one rfl hx fun d hd => ?_)
            simp only [deedF] at hd
            split at hd
            · cases hd
            rw [hc] at hd; simp only at hd; try rw [if_pos cv] at hd
            injection hd with hd; exact hd.symm
          · simp only [if_neg cv]
            refine X.trans (leads_one rfl hx fun d hd => ?_)
            simp only [deedF] at hd
            split at hd
            · cases hd
            rw [hc] at hd; simp only at hd; try rw [if_neg cv] at hd
            injection hd with hd; rw [← hd, eI]
      rw [if_neg c3] at hx ⊢
      by_cases c6 : x.op = 6
      · rw [if_pos c6] at hx ⊢
        by_cases cv : v < 1 ∨ 2147483648 < v
        · simp only [if_pos cv]
          refine X.fails (fails_one rfl hx fun d hd => ?_)
          simp only [deedF] at hd
          split at hd
          · cases hd
          try rw [if_pos cv] at hd
          injection hd with hd; exact hd.symm
        · simp only [if_neg cv]
          refine X.trans (leads_one rfl hx fun d hd => ?_)
          simp only [deedF] at hd
          split at hd
          · cases hd
          try rw [if_neg cv] at hd
          injection hd with hd; rw [← hd, eI]; rfl
      rw [if_neg c6] at hx ⊢
      refine X.trans (leads_one rfl hx fun d hd => ?_)
      simp only [deedF] at hd
      split at hd
      · cases hd
      rw [if_neg (by omega), if_pos (by omega)] at hd
      have : evE ((x.op : Nat) : Int).toNat 0 = 0 := by rw [Int.toNat_natCast]; exact ev_one (by omega) (by omega)
      rw [if_pos this] at hd
      injection hd with hd; rw [← hd, eI, Int.toNat_natCast]
    · by_cases cl : x.op = 21 ∨ x.op = 22
      · rw [evX, if_neg (by omega), if_neg (by omega), if_neg (by omega), if_neg (by omega)]
        rw [exprC, if_neg (by omega), if_neg (by omega), if_neg (by omega), if_neg (by omega), if_pos cl] at hs ⊢
        rw [ha] at hs ⊢
        simp only at hs ⊢
        obtain ⟨ca, eca⟩ : ∃ ca, ca = exprC ν n a b := ⟨_, rfl⟩
        rw [← eca] at hs ⊢
        obtain ⟨cc, ecc⟩ : ∃ cc, cc = exprC ν n c (b + ca.length + 1) := ⟨_, rfl⟩
        rw [← ecc] at hs ⊢
        have X := ih a hfa (hg2 a (by rw [ha]; simp)) b ⟨(b : Nat), drawn, rs, ls, cs⟩ (eca ▸ hs.left) rfl hv
        rw [← eca] at X
        simp only at X
        have hJ := hs.right.head
        have hC := hs.right.tail.left
        have hE := hs.right.tail.right
        have hlen : (ca ++ ((if x.op = 21 then 12 else 13, ((b + ca.length + 1 + cc.length + 2 : Nat) : Int)) :: (cc ++ [(10, 0), (11, ((b + ca.length + 1 + cc.length + 3 : Nat) : Int)), (1, if x.op = 21 then 0 else 1)]))).length = ca.length + 1 + cc.length + 3 := by simp; omega
        rw [hlen]
        clear hlen
        rcases he : evX S.env0 ν ρ cs n a drawn with e | ⟨v, k1⟩
        · rw [he] at X; exact X
        rw [he] at X
        simp only at ⊢
        have X : Leads S code ⟨(b : Nat), drawn, rs, ls, cs⟩ ⟨((b + ca.length : Nat) : Int), k1, v :: rs, ls, cs⟩ := X
        have hN : code[b + ca.length + 1 + cc.length + 2]? = some (1, if x.op = 21 then 0 else 1) := hE.tail.tail.head
        have hB := hE.head
        have hJ2 := hE.tail.head
        -- the short way
        have short : ((x.op = 21 ∧ v = 0) ∨ (x.op = 22 ∧ v ≠ 0)) → Leads S code ⟨(b : Nat), drawn, rs, ls, cs⟩ ⟨((b + (ca.length + 1 + cc.length + 3) : Nat) : Int), k1, (if x.op = 21 then 0 else 1) :: rs, ls, cs⟩ := by
          intro hsv
          refine X.trans (Leads.trans (b := ⟨((b + ca.length + 1 + cc.length + 2 : Nat) : Int), k1, rs, ls, cs⟩) (leads_one rfl hJ fun d hd => ?_) (leads_one rfl hN fun d hd => ?_))
          · rcases hsv with ⟨h21, hv0⟩ | ⟨h22, hv0⟩
            · rw [if_pos h21] at hd
              simp only [deedF] at hd
              split at hd
              · cases hd
              try rw [if_pos hv0] at hd
              injection hd with hd; exact hd.symm
            · rw [if_neg (by omega)] at hd
              simp only [deedF] at hd
              split at hd
              · cases hd
              try rw [if_pos hv0] at hd
              injection hd with hd; exact hd.symm
          · simp only [deedF] at hd
            split at hd
            · cases hd
            injection hd with hd; rw [← hd]
            congr 2
            omega
        by_cases cA : x.op = 21 ∧ v = 0
        · rw [if_pos cA]
          have := short (Or.inl cA)
          rw [if_pos cA.1] at this
          exact this
        rw [if_neg cA]
        by_cases cB : x.op = 22 ∧ v ≠ 0
        · rw [if_pos cB]
          have := short (Or.inr cB)
          rw [if_neg (by omega)] at this
          exact this
        rw [if_neg cB]
        clear short
        have X2 : Leads S code ⟨(b : Nat), drawn, rs, ls, cs⟩ ⟨((b + ca.length + 1 : Nat) : Int), k1, rs, ls, cs⟩ := by
          refine X.trans (leads_one rfl hJ fun d hd => ?_)
          rcases cl with cl | cl
          · rw [if_pos cl] at hd
            simp only [deedF] at hd
            split at hd
            · cases hd
            try rw [if_neg (by omega)] at hd
            injection hd with hd; rw [← hd]; rfl
          · rw [if_neg (by omega)] at hd
            simp only [deedF] at hd
            split at hd
            · cases hd
            try rw [if_neg (by omega)] at hd
            injection hd with hd; rw [← hd]; rfl
        have Y := ih c hfc (hg2 c (by rw [ha]; simp)) (b + ca.length + 1) ⟨((b + ca.length + 1 : Nat) : Int), k1, rs, ls, cs⟩ (ecc ▸ hC) rfl hv
        rw [← ecc] at Y
        simp only at Y
        rcases hu : evX S.env0 ν ρ cs n c k1 with e | ⟨u, k2⟩
        · rw [hu] at Y; exact X2.fails Y
        rw [hu] at Y
        have Y : Leads S code ⟨((b + ca.length + 1 : Nat) : Int), k1, rs, ls, cs⟩ ⟨((b + ca.length + 1 + cc.length : Nat) : Int), k2, u :: rs, ls, cs⟩ := Y
        simp only [ev2, if_pos cl]
        refine X2.trans (Y.trans (Leads.trans (b := ⟨((b + ca.length + 1 + cc.length + 1 : Nat) : Int), k2, tr (u != 0) :: rs, ls, cs⟩) (leads_one rfl hB fun d hd => ?_) (leads_one rfl hJ2 fun d hd => ?_)))
        · simp only [deedF] at hd
          split at hd
          · cases hd
          injection hd with hd; rw [← hd]; rfl
        · simp only [deedF] at hd
          split at hd
          · cases hd
          injection hd with hd; rw [← hd]
          congr 2
          omega
      · rw [evX, if_neg (by omega), if_neg (by omega), if_neg (by omega), if_neg (by omega)]
        rw [exprC, if_neg (by omega), if_neg (by omega), if_neg (by omega), if_neg (by omega), if_neg cl] at hs ⊢
        rw [ha] at hs ⊢
        rw [rowC_two] at hs ⊢
        simp only at hs ⊢
        obtain ⟨ca, eca⟩ : ∃ ca, ca = exprC ν n a b := ⟨_, rfl⟩
        rw [← eca] at hs ⊢
        obtain ⟨cc, ecc⟩ : ∃ cc, cc = exprC ν n c (b + ca.length) := ⟨_, rfl⟩
        rw [← ecc] at hs ⊢
        have X := ih a hfa (hg2 a (by rw [ha]; simp)) b ⟨(b : Nat), drawn, rs, ls, cs⟩ (eca ▸ hs.left.left) rfl hv
        rw [← eca] at X
        simp only at X
        rcases he : evX S.env0 ν ρ cs n a drawn with e | ⟨v, k1⟩
        · rw [he] at X; exact X
        rw [he] at X
        simp only at ⊢
        have X : Leads S code ⟨(b : Nat), drawn, rs, ls, cs⟩ ⟨((b + ca.length : Nat) : Int), k1, v :: rs, ls, cs⟩ := X
        rw [if_neg (by omega), if_neg (by omega)]
        have Y := ih c hfc (hg2 c (by rw [ha]; simp)) (b + ca.length) ⟨((b + ca.length : Nat) : Int), k1, v :: rs, ls, cs⟩ (ecc ▸ hs.left.right) rfl hv
        rw [← ecc] at Y
        simp only at Y
        rcases hu : evX S.env0 ν ρ cs n c k1 with e | ⟨u, k2⟩
        · rw [hu] at Y; exact X.fails Y
        rw [hu] at Y
        have Y : Leads S code ⟨((b + ca.length : Nat) : Int), k1, v :: rs, ls, cs⟩ ⟨((b + ca.length + cc.length : Nat) : Int), k2, u :: v :: rs, ls, cs⟩ := Y
        have hL : code[b + ca.length + cc.length]? = some (lastI x) := by
          have := hs.right.head
          rwa [List.length_append, ← Nat.add_assoc] at this
        unfold lastI at hL
        rw [if_neg (by omega), if_neg (by omega)] at hL
        have eI : ((b + ca.length + cc.length : Nat) : Int) + 1 = ((b + (ca ++ cc ++ [lastI x]).length : Nat) : Int) := by simp; omega
        simp only [ev2, if_neg cl]
        by_cases ce : evE x.op u = 0
        · rw [if_pos ce]
          refine X.trans (Y.trans (leads_one rfl hL fun d hd => ?_))
          simp only [deedF] at hd
          split at hd
          · cases hd
          rw [if_neg (by omega), if_neg (by omega), Int.toNat_natCast, if_pos ce] at hd
          injection hd with hd; rw [← hd, eI]
        · rw [if_neg ce]
          refine X.fails (Y.fails (fails_one rfl hL fun d hd => ?_))
          simp only [deedF] at hd
          split at hd
          · cases hd
          rw [if_neg (by omega), if_neg (by omega), Int.toNat_natCast, if_neg ce] at hd
          injection hd with hd; exact hd.symm
end
end Go.Proofs.YtocbddajakbemaaGreat
set_option linter.unusedSimpArgs false
namespace Go.Proofs.YtocbddajakbemaaGreat
section
open Go.RowKit
theorem right_cases {m : Nat} {s : S0} (h : rightS m s = true) : ∃ m', m = m' + 1 ∧ (∀ x, x ∈ s.e → fineB 40 x = true) ∧ (∀ t, t ∈ s.b → rightS m' t = true) ∧ (∀ t, t ∈ s.els → rightS m' t = true) ∧ 1 ≤ s.op ∧ s.op ≤ 7 ∧ s.e.length = wantF s.op ∧ (s.op = 3 → 1 ≤ s.n ∧ s.n ≤ 10) ∧ (s.op ≠ 4 → s.els = []) ∧ (s.op ≠ 4 → s.op ≠ 5 → s.b = []) := by
  rcases m with _ | m
  · simp [rightS] at h
  rw [rightS, Bool.and_eq_true, Bool.and_eq_true, Bool.and_eq_true, List.all_eq_true, List.all_eq_true, List.all_eq_true] at h
  obtain ⟨hh, h1, h2, h3⟩ := h
  unfold headS at hh
  rw [Bool.and_eq_true, Bool.and_eq_true, Bool.and_eq_true, Bool.and_eq_true, Bool.and_eq_true] at hh
  obtain ⟨⟨⟨⟨⟨g1, g2⟩, g3⟩, g4⟩, g5⟩, g6⟩ := hh
  have g1 := of_decide_eq_true g1
  refine ⟨m, rfl, h1, h2, h3, g1.1, g1.2, by simpa using g2, fun e => ?_, fun e => ?_, fun e e' => ?_⟩
  · rw [if_pos e] at g4; unfold kindB at g4; simpa using g4
  · simp [e] at g6; exact g6
  · simp [e, e'] at g5; exact g5
theorem want_one {s : S0} (h : s.e.length = wantF s.op) (h1 : s.op = 1 ∨ s.op = 2 ∨ s.op = 4 ∨ s.op = 5) : ∃ a, s.e = [a] := by
  have : wantF s.op = 1 := by unfold wantF; rw [if_neg (by omega), if_neg (by omega)]
  rw [this] at h
  exact List.length_eq_one_iff.1 h
theorem want_two {s : S0} (h : s.e.length = wantF s.op) (h1 : s.op = 3) : ∃ a b, s.e = [a, b] := by
  have : wantF s.op = 2 := by unfold wantF; rw [if_pos h1]
  rw [this] at h
  match hm : s.e, h with
  | [a, b], _ => exact ⟨a, b, rfl⟩
theorem want_none {s : S0} (h : s.e.length = wantF s.op) (h1 : s.op = 6 ∨ s.op = 7) : s.e = [] := by
  have : wantF s.op = 0 := by unfold wantF; rw [if_neg (by omega), if_pos h1]
  rw [this] at h
  exact List.eq_nil_of_length_eq_zero h
section rules
variable {N : Env0} {s : S0} {l : List S0} {st : Pst} {o : Out} {a b : E0} {es : List E0} {v k u k2 : Int} {e : Nat}
theorem does_nil : Does N [] st (.norm st) := ⟨1, rfl⟩
theorem does_stop (h : s.op = 6) : Does N (s :: l) st (.stop st.cs) := ⟨1, by rw [exL, if_pos h]⟩
theorem does_fail (h : s.op = 7) : Does N (s :: l) st (.err 144) := ⟨1, by rw [exL, if_neg (by omega), if_pos h]⟩
theorem does_bad (h6 : s.op ≠ 6) (h7 : s.op ≠ 7) (he : s.e = a :: es) (hv : ev N st a st.k = .error e) : Does N (s :: l) st (.err e) := ⟨1, by rw [exL, if_neg h6, if_neg h7, he]; simp only [hv]⟩
theorem does_let (h : s.op = 1) (he : s.e = a :: es) (hv : ev N st a st.k = .ok (v, k)) (hd : Does N l ⟨st.ν ++ [s.nm], st.ρ ++ [v], k, st.cs⟩ o) : Does N (s :: l) st o := by
  obtain ⟨n, hd⟩ := hd
  exact ⟨n + 1, by rw [exL, if_neg (by omega), if_neg (by omega), he]; simp only [hv]; rw [if_pos h]; exact hd⟩
theorem does_set (h : s.op = 2) (he : s.e = a :: es) (hv : ev N st a st.k = .ok (v, k)) (hd : Does N l ⟨st.ν, st.ρ.set (idxM st.ν s.nm).toNat v, k, st.cs⟩ o) : Does N (s :: l) st o := by
  obtain ⟨n, hd⟩ := hd
  exact ⟨n + 1, by rw [exL, if_neg (by omega), if_neg (by omega), he]; simp only [hv]; rw [if_neg (by omega), if_pos h]; exact hd⟩
theorem does_put_bad (h : s.op = 3) (he : s.e = [a, b]) (hv : ev N st a st.k = .ok (v, k)) (hu : ev N st b k = .error e) : Does N (s :: l) st (.err e) :=
  ⟨1, by rw [exL, if_neg (by omega), if_neg (by omega), he]; simp only [hv]; rw [if_neg (by omega), if_neg (by omega), if_pos h]; simp only [hu]⟩
theorem does_put_none (h : s.op = 3) (he : s.e = [a, b]) (hv : ev N st a st.k = .ok (v, k)) (hu : ev N st b k = .ok (u, k2)) (hc : st.cs[idxC st.cs s.n]? = none) : Does N (s :: l) st (.err 140) :=
  ⟨1, by rw [exL, if_neg (by omega), if_neg (by omega), he]; simp only [hv]; rw [if_neg (by omega), if_neg (by omega), if_pos h]; simp only [hu]; rw [hc]⟩
theorem does_put_out {c : Cmp} (h : s.op = 3) (he : s.e = [a, b]) (hv : ev N st a st.k = .ok (v, k)) (hu : ev N st b k = .ok (u, k2)) (hc : st.cs[idxC st.cs s.n]? = some c) (hw : v < 0 ∨ 3 < v) : Does N (s :: l) st (.err 141) :=
  ⟨1, by rw [exL, if_neg (by omega), if_neg (by omega), he]; simp only [hv]; rw [if_neg (by omega), if_neg (by omega), if_pos h]; simp only [hu]; rw [hc]; simp only [if_pos hw]⟩
theorem does_put {c : Cmp} (h : s.op = 3) (he : s.e = [a, b]) (hv : ev N st a st.k = .ok (v, k)) (hu : ev N st b k = .ok (u, k2)) (hc : st.cs[idxC st.cs s.n]? = some c) (hw : ¬ (v < 0 ∨ 3 < v)) (hd : Does N l ⟨st.ν, st.ρ, k2, st.cs.set (idxC st.cs s.n) (c.set v.toNat u)⟩ o) : Does N (s :: l) st o := by
  obtain ⟨n, hd⟩ := hd
  exact ⟨n + 1, by rw [exL, if_neg (by omega), if_neg (by omega), he]; simp only [hv]; rw [if_neg (by omega), if_neg (by omega), if_pos h]; simp only [hu]; rw [hc]; simp only [if_neg hw]; exact hd⟩
def Out.ends : Out → Prop
  | .norm _ => False
  | _ => True
theorem does_if {st' : Pst} (h : s.op = 4) (he : s.e = a :: es) (hv : ev N st a st.k = .ok (v, k)) (hb : Does N (if v = 0 then s.els else s.b) ⟨st.ν, st.ρ, k, st.cs⟩ (.norm st')) (hd : Does N l (back st st') o) : Does N (s :: l) st o := by
  obtain ⟨n, hb⟩ := hb
  obtain ⟨m, hd⟩ := hd
  refine ⟨max n m + 1, ?_⟩
  rw [exL, if_neg (by omega), if_neg (by omega), he]; simp only [hv]; rw [if_neg (by omega), if_neg (by omega), if_neg (by omega), if_pos h, exL_more hb (Nat.le_max_left _ _)]
  exact exL_more hd (Nat.le_max_right _ _)
theorem does_if_end (h : s.op = 4) (he : s.e = a :: es) (hv : ev N st a st.k = .ok (v, k)) (hb : Does N (if v = 0 then s.els else s.b) ⟨st.ν, st.ρ, k, st.cs⟩ o) (ho : o.ends) : Does N (s :: l) st o := by
  obtain ⟨n, hb⟩ := hb
  refine ⟨n + 1, ?_⟩
  rw [exL, if_neg (by omega), if_neg (by omega), he]; simp only [hv]; rw [if_neg (by omega), if_neg (by omega), if_neg (by omega), if_pos h, hb]
  cases o with
  | norm st => exact ho.elim
  | stop cs => rfl
  | err n => rfl
theorem does_while_out (h : s.op = 5) (he : s.e = a :: es) (hv : ev N st a st.k = .ok (0, k)) (hd : Does N l ⟨st.ν, st.ρ, k, st.cs⟩ o) : Does N (s :: l) st o := by
  obtain ⟨m, hd⟩ := hd
  refine ⟨m + 1, ?_⟩
  rw [exL, if_neg (by omega), if_neg (by omega), he]; simp only [hv]; rw [if_neg (by omega), if_neg (by omega), if_neg (by omega), if_neg (by omega), if_pos h]
  simp only [if_true]
  exact hd
theorem does_while {st' : Pst} (h : s.op = 5) (he : s.e = a :: es) (hv : ev N st a st.k = .ok (v, k)) (hz : v ≠ 0) (hb : Does N s.b ⟨st.ν, st.ρ, k, st.cs⟩ (.norm st')) (hd : Does N (s :: l) (back st st') o) : Does N (s :: l) st o := by
  obtain ⟨n, hb⟩ := hb
  obtain ⟨m, hd⟩ := hd
  refine ⟨max n m + 1, ?_⟩
  rw [exL, if_neg (by omega), if_neg (by omega), he]; simp only [hv]; rw [if_neg (by omega), if_neg (by omega), if_neg (by omega), if_neg (by omega), if_pos h, if_neg hz, exL_more hb (Nat.le_max_left _ _)]
  exact exL_more hd (Nat.le_max_right _ _)
theorem does_while_end (h : s.op = 5) (he : s.e = a :: es) (hv : ev N st a st.k = .ok (v, k)) (hz : v ≠ 0) (hb : Does N s.b ⟨st.ν, st.ρ, k, st.cs⟩ o) (ho : o.ends) : Does N (s :: l) st o := by
  obtain ⟨n, hb⟩ := hb
  refine ⟨n + 1, ?_⟩
  rw [exL, if_neg (by omega), if_neg (by omega), he]; simp only [hv]; rw [if_neg (by omega), if_neg (by omega), if_neg (by omega), if_neg (by omega), if_pos h, if_neg hz, hb]
  cases o with
  | norm st => exact ho.elim
  | stop cs => rfl
  | err n => rfl
end rules
def Goes (S : Fix) (code : List (Nat × Int)) (F : Nat) (r : Rrs) (n0 b : Nat) : Out → Prop
  | .norm st => n0 ≤ st.ρ.length ∧ ∃ (F' : Nat) (σ : Mst), F' ≤ F ∧ σ.at_ = ((b : Nat) : Int) ∧ σ.rs = [] ∧ Vars st.ν st.ρ σ.ls ∧ σ.drawn = st.k ∧ σ.cs = st.cs ∧ runF S code F' σ = some r
  | .stop cs => ∃ f σ, r = .ok (f, σ) ∧ σ.cs = cs
  | .err n => ∃ f, r = .error (n, f)
theorem Goes.more {S : Fix} {code : List (Nat × Int)} {F F' : Nat} {r : Rrs} {n0 n1 b : Nat} {o : Out} (h : Goes S code F r n0 b o) (hF : F ≤ F') (hn : n1 ≤ n0) : Goes S code F' r n1 b o := by
  cases o with
  | norm st =>
    obtain ⟨h0, F1, σ, h1, h2⟩ := h
    exact ⟨by omega, F1, σ, by omega, h2⟩
  | stop cs => exact h
  | err n => exact h
theorem Goes.same {S : Fix} {code : List (Nat × Int)} {F F' : Nat} {r : Rrs} {n0 n1 b b' : Nat} {o : Out} (h : Goes S code F r n0 b o) (ho : o.ends) : Goes S code F' r n1 b' o := by
  cases o with
  | norm st => exact ho.elim
  | stop cs => exact h
  | err n => exact h
theorem Vars.back {ν ν' : List ByteArray} {ρ ρ' ls : List Int} (h : Vars ν' ρ' ls) (hn : ν.length = ρ.length) (hl : ρ.length ≤ ρ'.length) : Vars ν (ρ'.take ρ.length) ls := by
  refine ⟨by rw [List.length_take]; omega, fun i v hi => h.2 i v ?_⟩
  rw [List.getElem?_take] at hi
  split at hi
  · exact hi
  · cases hi
theorem Vars.push {ν : List ByteArray} {ρ ls : List Int} (h : Vars ν ρ ls) (s : ByteArray) (v : Int) (hl : ν.length < ls.length) : Vars (ν ++ [s]) (ρ ++ [v]) (ls.set ν.length v) := by
  refine ⟨by simp [h.1], fun i u hi => ?_⟩
  by_cases hi2 : i < ρ.length
  · rw [List.getElem?_append_left hi2] at hi
    rw [List.getElem?_set_ne (by have := h.1; omega)]
    exact h.2 i u hi
  · have hlt := (List.getElem?_eq_some_iff.1 hi).1
    simp at hlt
    obtain rfl : i = ρ.length := by omega
    rw [List.getElem?_append_right (Nat.le_refl _)] at hi
    simp at hi
    subst hi
    rw [← h.1, List.getElem?_set_self hl]
theorem Vars.set {ν : List ByteArray} {ρ ls : List Int} (h : Vars ν ρ ls) (j : Nat) (v : Int) (hl : j < ls.length) : Vars ν (ρ.set j v) (ls.set j v) := by
  refine ⟨by simp [h.1], fun i u hi => ?_⟩
  by_cases hj : j = i
  · subst hj
    rw [List.getElem?_set_self hl]
    have hlt := (List.getElem?_eq_some_iff.1 hi).1
    simp at hlt
    rw [List.getElem?_set_self hlt] at hi
    exact hi
  · rw [List.getElem?_set_ne hj] at hi ⊢
    exact h.2 i u hi
theorem run_test {S : Fix} {code : List (Nat × Int)} {p t : Nat} (hx : code[p]? = some (12, (t : Int))) {at_ drawn v : Int} {rs ls : List Int} {cs : List Cmp} (ha : at_ = (p : Nat)) : Leads S code ⟨at_, drawn, v :: rs, ls, cs⟩ ⟨if v = 0 then (t : Int) else ((p + 1 : Nat) : Int), drawn, rs, ls, cs⟩ := by
  refine leads_one ha hx fun d hd => ?_
  simp only [deedF] at hd
  split at hd
  · cases hd
  injection hd with hd
  rw [← hd]
  rfl
theorem run_jump {S : Fix} {code : List (Nat × Int)} {p t : Nat} (hx : code[p]? = some (11, (t : Int))) {at_ drawn : Int} {rs ls : List Int} {cs : List Cmp} (ha : at_ = (p : Nat)) : Leads S code ⟨at_, drawn, rs, ls, cs⟩ ⟨(t : Int), drawn, rs, ls, cs⟩ := by
  refine leads_one ha hx fun d hd => ?_
  simp only [deedF] at hd
  split at hd
  · cases hd
  injection hd with hd
  rw [← hd]
theorem listC_cons (f : S0 → List ByteArray → Nat → List (Nat × Int)) (s : S0) (l : List S0) (ν : List ByteArray) (b : Nat) : listC f (s :: l) ν b = f s ν b ++ listC f l (nextV s ν) (b + (f s ν b).length) := rfl
set_option maxHeartbeats 2000000 in
theorem list_run (S : Fix) (code : List (Nat × Int)) (hcn : S.cn = code.length) : ∀ (F : Nat) (l : List S0) (m : Nat) (ν : List ByteArray) (ρ : List Int) (b : Nat) (σ : Mst), (∀ s, s ∈ l → rightS m s = true) → listG (stmtG m) l ν = true → SegAt code b (listC (stmtC m) l ν b) → σ.at_ = (b : Nat) → σ.rs = [] → Vars ν ρ σ.ls →
    ∀ r : Rrs, runF S code F σ = some r → endN r ≠ 145 → ∃ o, Does S.env0 l ⟨ν, ρ, σ.drawn, σ.cs⟩ o ∧ Goes S code F r ρ.length (b + (listC (stmtC m) l ν b).length) o := by
  intro F
  induction F using Nat.strongRecOn with
  | _ F IH =>
  intro l m ν ρ b σ hr hg hs hb hrs hv r hrun hn
  rcases l with _ | ⟨s, l⟩
  · exact ⟨_, does_nil, Nat.le_refl _, F, σ, Nat.le_refl _, hb, hrs, hv, rfl, rfl, hrun⟩
  have again : ∀ (F' : Nat) (σ' : Mst) (ρ' : List Int), F' < F → σ'.at_ = (b : Nat) → σ'.rs = [] → Vars ν ρ' σ'.ls → ρ'.length = ρ.length → runF S code F' σ' = some r → ∃ o, Does S.env0 (s :: l) ⟨ν, ρ', σ'.drawn, σ'.cs⟩ o ∧ Goes S code F r ρ.length (b + (listC (stmtC m) (s :: l) ν b).length) o := by
    intro F' σ' ρ' hF h1 h2 h3 h4 h5
    obtain ⟨o, d1, d2⟩ := IH F' hF (s :: l) m ν ρ' b σ' hr hg hs h1 h2 h3 r h5 hn
    exact ⟨o, d1, d2.more (Nat.le_of_lt hF) (Nat.le_of_eq h4.symm)⟩
  obtain ⟨m, rfl, hfe, hrb, hrl, ho1, ho7, hw, h3, hels, hbod⟩ := right_cases (hr s (List.mem_cons_self ..))
  have hr' : ∀ t, t ∈ l → rightS (m + 1) t = true := fun t ht => hr t (List.mem_cons_of_mem _ ht)
  obtain ⟨at_, drawn, rs, ls, cs⟩ := σ
  simp only at hb hrs hv ⊢
  subst hb hrs
  rw [listG, Bool.and_eq_true] at hg
  obtain ⟨hg, hgl⟩ := hg
  rw [stmtG, Bool.and_eq_true, List.all_eq_true] at hg
  obtain ⟨hge, hg⟩ := hg
  rw [listC_cons] at hs again ⊢
  obtain ⟨c1, ec1⟩ : ∃ c1, c1 = stmtC (m + 1) s ν b := ⟨_, rfl⟩
  rw [← ec1] at hs again ⊢
  have hs1 := hs.left
  have hs2 := hs.right
  rw [List.length_append, ← Nat.add_assoc] at again ⊢
  rw [stmtC] at ec1
  -- what lies behind the statement
  have rest : ∀ (F' : Nat) (σ' : Mst) (ρ' : List Int), F' < F → σ'.at_ = ((b + c1.length : Nat) : Int) → σ'.rs = [] → Vars (nextV s ν) ρ' σ'.ls → ρ.length ≤ ρ'.length → runF S code F' σ' = some r → ∃ o, Does S.env0 l ⟨nextV s ν, ρ', σ'.drawn, σ'.cs⟩ o ∧ Goes S code F r ρ.length (b + c1.length + (listC (stmtC (m + 1)) l (nextV s ν) (b + c1.length)).length) o := by
    intro F' σ' ρ' hF h1 h2 h3 h4 h5
    obtain ⟨o, d1, d2⟩ := IH F' hF l (m + 1) (nextV s ν) ρ' (b + c1.length) σ' hr' hgl hs2 h1 h2 h3 r h5 hn
    exact ⟨o, d1, d2.more (Nat.le_of_lt hF) h4⟩
  clear hs hs2 hgl hr' hr
  by_cases k6 : s.op = 6
  · rw [want_none hw (Or.inl k6), rowC, List.nil_append, if_neg (by omega), if_neg (by omega), if_neg (by omega), if_neg (by omega), if_neg (by omega), if_pos k6] at ec1
    rw [ec1] at hs1
    refine ⟨_, does_stop k6, ?_⟩
    obtain ⟨F', hF, d, hd, hd2⟩ := run_one rfl hs1.head hrun hn
    simp only [deedF] at hd
    rw [if_neg (by simp)] at hd
    injection hd with hd
    subst hd
    simp only at hd2
    rw [runF.eq_def] at hd2
    simp only at hd2
    rw [if_neg (by omega), if_pos (by rw [hcn]; exact Int.le_refl _)] at hd2
    injection hd2 with hd2
    exact ⟨_, _, hd2.symm, rfl⟩
  by_cases k7 : s.op = 7
  · rw [want_none hw (Or.inr k7), rowC, List.nil_append, if_neg (by omega), if_neg (by omega), if_neg (by omega), if_neg (by omega), if_neg (by omega), if_neg (by omega), if_pos k7] at ec1
    rw [ec1] at hs1
    refine ⟨_, does_fail k7, ?_⟩
    refine fails_one rfl hs1.head (fun d hd => ?_) F r hrun hn
    simp only [deedF] at hd
    rw [if_neg (by simp)] at hd
    injection hd with hd
    exact hd.symm
  by_cases k3 : s.op = 3
  · obtain ⟨a, a2, he⟩ := want_two hw k3
    rw [he, rowC_two, if_neg (by omega), if_neg (by omega), if_pos k3] at ec1
    rw [ec1] at hs1
    obtain ⟨ca, eca⟩ : ∃ ca, ca = exprC ν 40 a b := ⟨_, rfl⟩
    rw [← eca] at hs1 ec1
    obtain ⟨cb, ecb⟩ : ∃ cb, cb = exprC ν 40 a2 (b + ca.length) := ⟨_, rfl⟩
    rw [← ecb] at hs1 ec1
    have X := expr_run S code ν ρ 40 a (hfe a (by rw [he]; simp)) (hge a (by rw [he]; simp)) b ⟨(b : Nat), drawn, [], ls, cs⟩ (eca ▸ hs1.left.left) rfl hv
    rw [← eca] at X
    simp only at X
    rcases hea : evX S.env0 ν ρ cs 40 a drawn with e | ⟨v, k⟩
    · rw [hea] at X
      exact ⟨_, does_bad k6 k7 he hea, X F r hrun hn⟩
    rw [hea] at X
    have Y := expr_run S code ν ρ 40 a2 (hfe a2 (by rw [he]; simp)) (hge a2 (by rw [he]; simp)) (b + ca.length) ⟨((b + ca.length : Nat) : Int), k, [v], ls, cs⟩ (ecb ▸ hs1.left.right) rfl hv
    rw [← ecb] at Y
    simp only at Y
    obtain ⟨F1, f1, hrun⟩ := X F r hrun hn
    rcases heb : evX S.env0 ν ρ cs 40 a2 k with e | ⟨u, k2⟩
    · rw [heb] at Y
      exact ⟨_, does_put_bad k3 he hea heb, Y F1 r hrun hn⟩
    rw [heb] at Y
    obtain ⟨F2, f2, hrun⟩ := Y F1 r hrun hn
    have hP : code[b + ca.length + cb.length]? = some (5, s.n) := by
      have := hs1.right.head
      rwa [List.length_append, ← Nat.add_assoc] at this
    rcases hc : cs[idxC cs s.n]? with _ | c
    · refine ⟨_, does_put_none k3 he hea heb hc, fails_one rfl hP (fun d hd => ?_) F2 r hrun hn⟩
      simp only [deedF] at hd
      rw [if_neg (by simp), hc] at hd
      injection hd with hd
      exact hd.symm
    by_cases cv : v < 0 ∨ 3 < v
    · refine ⟨_, does_put_out k3 he hea heb hc cv, fails_one rfl hP (fun d hd => ?_) F2 r hrun hn⟩
      simp only [deedF] at hd
      rw [if_neg (by simp), hc] at hd
      simp only at hd
      rw [if_pos cv] at hd
      injection hd with hd
      exact hd.symm
    obtain ⟨F3, f3, hrun⟩ := leads_one (σ' := ⟨((b + c1.length : Nat) : Int), k2, [], ls, cs.set (idxC cs s.n) (c.set v.toNat u)⟩) rfl hP (fun d hd => by
      simp only [deedF] at hd
      rw [if_neg (by simp), hc] at hd
      simp only at hd
      rw [if_neg cv] at hd
      injection hd with hd
      rw [← hd, ec1]
      congr 2
      simp; omega) F2 r hrun hn
    obtain ⟨o, d1, d2⟩ := rest F3 _ ρ (by omega) rfl rfl (by unfold nextV; rw [if_neg (by omega)]; exact hv) (Nat.le_refl _) hrun
    refine ⟨o, does_put k3 he hea heb hc cv ?_, d2⟩
    unfold nextV at d1
    rw [if_neg (by omega)] at d1
    exact d1
  obtain ⟨a, he⟩ := want_one hw (by omega)
  rw [he, rowC_one] at ec1
  obtain ⟨ca, eca⟩ : ∃ ca, ca = exprC ν 40 a b := ⟨_, rfl⟩
  rw [← eca] at ec1
  have hsa : SegAt code b ca := by rw [ec1] at hs1; exact hs1.left
  have X := expr_run S code ν ρ 40 a (hfe a (by rw [he]; simp)) (hge a (by rw [he]; simp)) b ⟨(b : Nat), drawn, [], ls, cs⟩ (eca ▸ hsa) rfl hv
  rw [← eca] at X
  simp only at X
  rcases hea : evX S.env0 ν ρ cs 40 a drawn with e | ⟨v, k⟩
  · rw [hea] at X
    exact ⟨_, does_bad k6 k7 he hea, X F r hrun hn⟩
  rw [hea] at X
  obtain ⟨F1, f1, hrun⟩ := X F r hrun hn
  clear X hsa
  by_cases k1 : s.op = 1
  · rw [if_pos k1] at ec1
    rw [ec1] at hs1
    have hlen : c1.length = ca.length + 1 := by rw [ec1]; simp
    obtain ⟨F2, f2, d, hd, hd2⟩ := run_one rfl hs1.right.head hrun hn
    simp only [deedF] at hd
    rw [if_neg (by simp), if_neg (by omega), Int.toNat_natCast] at hd
    by_cases hl : ν.length < ls.length
    · rw [if_pos hl] at hd
      injection hd with hd
      subst hd
      simp only at hd2
      obtain ⟨o, d1, d2⟩ := rest F2 _ (ρ ++ [v]) (by omega) (by simp only [hlen]; omega) rfl (by unfold nextV; rw [if_pos k1]; exact hv.push s.nm v hl) (by simp) hd2
      refine ⟨o, does_let k1 he hea ?_, d2⟩
      unfold nextV at d1
      rw [if_pos k1] at d1
      exact d1
    · rw [if_neg hl] at hd; cases hd
  rw [if_neg k1] at ec1
  by_cases k2 : s.op = 2
  · rw [if_pos k2] at ec1
    rw [ec1] at hs1
    rw [if_neg k1, if_pos k2] at hg
    obtain ⟨i1, i2⟩ := idxM_lt (of_decide_eq_true hg)
    have hlen : c1.length = ca.length + 1 := by rw [ec1]; simp
    obtain ⟨F2, f2, d, hd, hd2⟩ := run_one rfl hs1.right.head hrun hn
    simp only [deedF] at hd
    rw [if_neg (by simp), if_neg (by omega)] at hd
    by_cases hl : (idxM ν s.nm).toNat < ls.length
    · rw [if_pos hl] at hd
      injection hd with hd
      subst hd
      simp only at hd2
      obtain ⟨o, d1, d2⟩ := rest F2 _ (ρ.set (idxM ν s.nm).toNat v) (by omega) (by simp only [hlen]; omega) rfl (by unfold nextV; rw [if_neg k1]; exact hv.set _ v hl) (by simp) hd2
      refine ⟨o, does_set k2 he hea ?_, d2⟩
      unfold nextV at d1
      rw [if_neg k1] at d1
      exact d1
    · rw [if_neg hl] at hd; cases hd
  rw [if_neg k2, if_neg k3] at ec1
  have hnx : nextV s ν = ν := by unfold nextV; rw [if_neg k1]
  rw [hnx] at rest again ⊢
  rw [if_neg k1, if_neg k2] at hg
  by_cases k4 : s.op = 4
  · rw [if_pos (Or.inl k4), Bool.and_eq_true] at hg
    rw [if_pos k4] at ec1
    obtain ⟨cb, ecb⟩ : ∃ cb, cb = listC (stmtC m) s.b ν (b + ca.length + 1) := ⟨_, rfl⟩
    rw [← ecb] at ec1
    by_cases ke : s.els = []
    · rw [if_pos ke] at ec1
      have hlen : c1.length = ca.length + 1 + cb.length := by rw [ec1]; simp; omega
      rw [ec1] at hs1
      obtain ⟨F2, f2, hrun⟩ := run_test hs1.right.head rfl F1 r hrun hn
      by_cases hz : v = 0
      · rw [if_pos hz] at hrun
        obtain ⟨o, d1, d2⟩ := rest F2 _ ρ (by omega) (by simp only [hlen]; omega) rfl hv (Nat.le_refl _) hrun
        refine ⟨o, does_if k4 he hea (st' := ⟨ν, ρ, k, cs⟩) (by rw [if_pos hz, ke]; exact does_nil) ?_, d2⟩
        simp only [back, List.take_length]
        exact d1
      · rw [if_neg hz] at hrun
        obtain ⟨o, d1, d2⟩ := IH F2 (by omega) s.b m ν ρ (b + ca.length + 1) _ hrb hg.1 (ecb ▸ hs1.right.tail) rfl rfl hv r hrun hn
        rw [← ecb] at d2
        by_cases ho : o.ends
        · exact ⟨o, does_if_end k4 he hea (by rw [if_neg hz]; exact d1) ho, d2.same ho⟩
        · rcases o with st' | _ | _
          · obtain ⟨g0, F3, σ3, g1, g2, g3, g4, g5, g6, g7⟩ := d2
            obtain ⟨o, e1, e2⟩ := rest F3 σ3 (st'.ρ.take ρ.length) (by omega) (by rw [g2, hlen]; omega) g3 (g4.back hv.1 g0) (by rw [List.length_take]; omega) g7
            refine ⟨o, does_if k4 he hea (st' := st') (by rw [if_neg hz]; exact d1) ?_, e2⟩
            simp only [back]
            rw [← g5, ← g6]
            exact e1
          · exact absurd trivial ho
          · exact absurd trivial ho
    · rw [if_neg ke] at ec1
      obtain ⟨cl, ecl⟩ : ∃ cl, cl = listC (stmtC m) s.els ν (b + ca.length + 1 + cb.length + 1) := ⟨_, rfl⟩
      rw [← ecl] at ec1
      have hlen : c1.length = ca.length + 1 + cb.length + 1 + cl.length := by rw [ec1]; simp; omega
      rw [ec1] at hs1
      have hJ := hs1.right.tail.right.head
      have hE := hs1.right.tail.right.tail
      obtain ⟨F2, f2, hrun⟩ := run_test hs1.right.head rfl F1 r hrun hn
      by_cases hz : v = 0
      · rw [if_pos hz] at hrun
        obtain ⟨o, d1, d2⟩ := IH F2 (by omega) s.els m ν ρ (b + ca.length + 1 + cb.length + 1) _ hrl hg.2 (ecl ▸ hE) rfl rfl hv r hrun hn
        rw [← ecl] at d2
        by_cases ho : o.ends
        · exact ⟨o, does_if_end k4 he hea (by rw [if_pos hz]; exact d1) ho, d2.same ho⟩
        · rcases o with st' | _ | _
          · obtain ⟨g0, F3, σ3, g1, g2, g3, g4, g5, g6, g7⟩ := d2
            obtain ⟨o, e1, e2⟩ := rest F3 σ3 (st'.ρ.take ρ.length) (by omega) (by rw [g2, hlen]; omega) g3 (g4.back hv.1 g0) (by rw [List.length_take]; omega) g7
            refine ⟨o, does_if k4 he hea (st' := st') (by rw [if_pos hz]; exact d1) ?_, e2⟩
            simp only [back]
            rw [← g5, ← g6]
            exact e1
          · exact absurd trivial ho
          · exact absurd trivial ho
      · rw [if_neg hz] at hrun
        obtain ⟨o, d1, d2⟩ := IH F2 (by omega) s.b m ν ρ (b + ca.length + 1) _ hrb hg.1 (ecb ▸ hs1.right.tail.left) rfl rfl hv r hrun hn
        rw [← ecb] at d2
        by_cases ho : o.ends
        · exact ⟨o, does_if_end k4 he hea (by rw [if_neg hz]; exact d1) ho, d2.same ho⟩
        · rcases o with st' | _ | _
          · obtain ⟨g0, F3, ⟨at3, dr3, rs3, ls3, cs3⟩, g1, g2, g3, g4, g5, g6, g7⟩ := d2
            simp only at g2 g3 g4 g5 g6
            subst g3
            obtain ⟨F4, f4, g7⟩ := run_jump hJ g2 F3 r g7 hn
            obtain ⟨o, e1, e2⟩ := rest F4 _ (st'.ρ.take ρ.length) (by omega) (by simp only [hlen]; omega) rfl (g4.back hv.1 g0) (by rw [List.length_take]; omega) g7
            refine ⟨o, does_if k4 he hea (st' := st') (by rw [if_neg hz]; exact d1) ?_, e2⟩
            simp only [back]
            rw [← g5, ← g6]
            exact e1
          · exact absurd trivial ho
          · exact absurd trivial ho
  have k5 : s.op = 5 := by omega
  rw [if_pos (Or.inr k5), Bool.and_eq_true] at hg
  rw [if_neg k4, if_pos k5] at ec1
  obtain ⟨cb, ecb⟩ : ∃ cb, cb = listC (stmtC m) s.b ν (b + ca.length + 1) := ⟨_, rfl⟩
  rw [← ecb] at ec1
  have hlen : c1.length = ca.length + 1 + cb.length + 1 := by rw [ec1]; simp; omega
  rw [ec1] at hs1
  have hJ := hs1.right.tail.right.head
  obtain ⟨F2, f2, hrun⟩ := run_test hs1.right.head rfl F1 r hrun hn
  by_cases hz : v = 0
  · rw [if_pos hz] at hrun
    obtain ⟨o, d1, d2⟩ := rest F2 _ ρ (by omega) (by simp only [hlen]; omega) rfl hv (Nat.le_refl _) hrun
    subst hz
    exact ⟨o, does_while_out k5 he hea d1, d2⟩
  · rw [if_neg hz] at hrun
    obtain ⟨o, d1, d2⟩ := IH F2 (by omega) s.b m ν ρ (b + ca.length + 1) _ hrb hg.1 (ecb ▸ hs1.right.tail.left) rfl rfl hv r hrun hn
    rw [← ecb] at d2
    by_cases ho : o.ends
    · exact ⟨o, does_while_end k5 he hea hz d1 ho, d2.same ho⟩
    · rcases o with st' | _ | _
      · obtain ⟨g0, F3, ⟨at3, dr3, rs3, ls3, cs3⟩, g1, g2, g3, g4, g5, g6, g7⟩ := d2
        simp only at g2 g3 g4 g5 g6
        subst g3
        obtain ⟨F4, f4, g7⟩ := run_jump hJ g2 F3 r g7 hn
        obtain ⟨o, e1, e2⟩ := again F4 _ (st'.ρ.take ρ.length) (by omega) rfl rfl (g4.back hv.1 g0) (by rw [List.length_take]; omega) g7
        refine ⟨o, does_while k5 he hea hz (st' := st') d1 ?_, e2⟩
        simp only [back]
        rw [← g5, ← g6]
        exact e1
      · exact absurd trivial ho
      · exact absurd trivial ho
end
end Go.Proofs.YtocbddajakbemaaGreat
