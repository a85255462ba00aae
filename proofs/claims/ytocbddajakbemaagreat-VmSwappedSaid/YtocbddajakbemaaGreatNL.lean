/- vm, plain: the code of a program is sound: depths. vm, plain: the code of a program that has one is sound. -/
import Derived.Test.YtocbddajakbemaaGreatNK
set_option linter.unusedVariables false
set_option linter.unusedSimpArgs false
set_option linter.unusedSimpArgs false
namespace Go.Proofs.YtocbddajakbemaaGreat
section
open Go.RowKit
def OkD (D : Nat → Int) (p : Nat) (x : Nat × Int) : Prop := takesX x ≤ D p ∧ D p + (addsF x.1 - takesX x) ≤ 64 ∧ ∀ t, t ∈ nextN x p → D t = D p + (addsF x.1 - takesX x)
def SegK (K : Nat → Int → Prop) (c : List (Nat × Int)) (b : Nat) (d e : Int) : Prop :=
  ∃ ds : List Int, ds.length = c.length ∧ (ds ++ [e])[0]? = some d ∧ (∀ v, v ∈ ds → 0 ≤ v) ∧ ∀ D : Nat → Int, (∀ p v, K p v → D p = v) → (∀ (j : Nat) (v : Int), ds[j]? = some v → D (b + j) = v) → D (b + c.length) = e → ∀ (j : Nat) (x : Nat × Int), c[j]? = some x → OkD D (b + j) x
theorem SegK.mono {K K' : Nat → Int → Prop} {c : List (Nat × Int)} {b : Nat} {d e : Int} (h : SegK K c b d e) (hk : ∀ p v, K p v → K' p v) : SegK K' c b d e := by
  obtain ⟨ds, h1, h2, h3, h4⟩ := h
  exact ⟨ds, h1, h2, h3, fun D hD => h4 D fun p v h => hD p v (hk p v h)⟩
theorem head_fits {ds : List Int} {d e : Int} {D : Nat → Int} {b n : Nat} (hn : ds.length = n) (h : (ds ++ [e])[0]? = some d) (hf : ∀ (j : Nat) (v : Int), ds[j]? = some v → D (b + j) = v) (he : D (b + n) = e) : D b = d := by
  rcases ds with _ | ⟨v, ds⟩
  · simp at h hn; subst hn; simpa [h] using he
  · simp at h; subst h; exact hf 0 v rfl
theorem SegK.app {K : Nat → Int → Prop} {c1 c2 : List (Nat × Int)} {b : Nat} {d e f : Int} (h1 : SegK (fun p v => K p v ∨ (p = b + c1.length ∧ v = e)) c1 b d e) (h2 : SegK (fun p v => K p v ∨ (p = b + c1.length ∧ v = e)) c2 (b + c1.length) e f) : SegK K (c1 ++ c2) b d f := by
  obtain ⟨d1, a1, a2, a3, a4⟩ := h1
  obtain ⟨d2, b1, b2, b3, b4⟩ := h2
  refine ⟨d1 ++ d2, by simp [a1, b1], ?_, fun v hv => (List.mem_append.1 hv).elim (a3 v) (b3 v), fun D hK hF hE j x hx => ?_⟩
  · rcases d1 with _ | ⟨v, d1⟩
    · simp at a2; subst a2; simpa using b2
    · simpa using a2
  · have f1 : ∀ (j : Nat) (v : Int), d1[j]? = some v → D (b + j) = v := fun j v hj => hF j v (by rw [List.getElem?_append_left (List.getElem?_eq_some_iff.1 hj).1]; exact hj)
    have f2 : ∀ (j : Nat) (v : Int), d2[j]? = some v → D (b + c1.length + j) = v := fun j v hj => by
      rw [Nat.add_assoc, ← a1]
      exact hF (d1.length + j) v (by rw [List.getElem?_append_right (by omega)]; simpa using hj)
    rw [List.length_append, ← Nat.add_assoc] at hE
    have hm : D (b + c1.length) = e := head_fits b1 b2 f2 hE
    have hK' : ∀ p v, (K p v ∨ (p = b + c1.length ∧ v = e)) → D p = v := by
      rintro p v (h | ⟨rfl, rfl⟩)
      · exact hK p v h
      · exact hm
    by_cases hj : j < c1.length
    · rw [List.getElem?_append_left hj] at hx
      exact a4 D hK' f1 hm j x hx
    · rw [List.getElem?_append_right (by omega)] at hx
      have := b4 D hK' f2 hE (j - c1.length) x hx
      rwa [show b + c1.length + (j - c1.length) = b + j by omega] at this
theorem SegK.ends {K : Nat → Int → Prop} {c : List (Nat × Int)} {b : Nat} {d e : Int} (h : SegK (fun p v => K p v ∨ (p = b ∧ v = d) ∨ (p = b + c.length ∧ v = e)) c b d e) : SegK K c b d e := by
  obtain ⟨ds, h1, h2, h3, h4⟩ := h
  refine ⟨ds, h1, h2, h3, fun D hK hF hE => h4 D ?_ hF hE⟩
  rintro p v (h | ⟨rfl, rfl⟩ | ⟨rfl, rfl⟩)
  · exact hK p v h
  · exact head_fits h1 h2 hF hE
  · exact hE
theorem SegK.nil {K : Nat → Int → Prop} {b : Nat} {d : Int} : SegK K [] b d d := ⟨[], rfl, rfl, fun v h => (by cases h), fun D _ _ _ j x h => (by simp at h)⟩
theorem SegK.one {K : Nat → Int → Prop} {x : Nat × Int} {b : Nat} {d e : Int} (h0 : 0 ≤ d) (ht : takesX x ≤ d) (h64 : d + (addsF x.1 - takesX x) ≤ 64) (hn : ∀ t, t ∈ nextN x b → (t = b + 1 ∧ e = d + (addsF x.1 - takesX x)) ∨ K t (d + (addsF x.1 - takesX x))) : SegK K [x] b d e := by
  refine ⟨[d], rfl, rfl, fun v hv => by simp at hv; omega, fun D hK hF hE j y hy => ?_⟩
  have hD : D b = d := hF 0 d rfl
  obtain ⟨rfl, rfl⟩ : j = 0 ∧ x = y := by
    rcases j with _ | j
    · exact ⟨rfl, by simpa using hy⟩
    · simp at hy
  refine ⟨by rw [Nat.add_zero, hD]; exact ht, by rw [Nat.add_zero, hD]; exact h64, fun t htm => ?_⟩
  rw [Nat.add_zero] at htm ⊢
  rw [hD]
  rcases hn t htm with ⟨rfl, rfl⟩ | h
  · exact hE
  · exact hK _ _ h
theorem nextN_else {o p : Nat} {a : Int} (h : o ≠ 11 ∧ o ≠ 12 ∧ o ≠ 13 ∧ o ≠ 14 ∧ o ≠ 15) : nextN (o, a) p = [p + 1] := by
  unfold nextN; rw [next_else o p a h]; simp
theorem SegK.plain {K : Nat → Int → Prop} {o : Nat} {a : Int} {b : Nat} {d e : Int} (hn : o ≠ 11 ∧ o ≠ 12 ∧ o ≠ 13 ∧ o ≠ 14 ∧ o ≠ 15) (h0 : 0 ≤ d) (ht : takesX (o, a) ≤ d) (he : e = d + (addsF o - takesX (o, a))) (h64 : e ≤ 64) : SegK K [(o, a)] b d e :=
  SegK.one h0 ht (he ▸ h64) fun t h => by rw [nextN_else hn] at h; simp at h; exact Or.inl ⟨h, he⟩
theorem SegK.jump {K : Nat → Int → Prop} {t b : Nat} {d e : Int} (h0 : 0 ≤ d) (h64 : d ≤ 64) (hk : K t d) : SegK K [(11, (t : Int))] b d e := by
  have e1 : takesX (11, (t : Int)) = 0 := by simp [takesX, takesF, effI]
  have e2 : addsF 11 = 0 := by simp [addsF, effI]
  refine SegK.one h0 (by rw [e1]; exact h0) (by rw [e1, e2]; omega) fun u h => ?_
  have : u = t := by simpa [nextN, nextF] using h
  subst this
  right
  rw [e1, e2]
  simpa using hk
theorem SegK.test {K : Nat → Int → Prop} {o t b : Nat} {d : Int} (ho : o = 12 ∨ o = 13) (h0 : 0 ≤ d) (h64 : d ≤ 64) (hk : K t d) : SegK K [(o, (t : Int))] b (d + 1) d := by
  have e1 : takesX (o, (t : Int)) = 1 := by rcases ho with rfl | rfl <;> simp [takesX, takesF, effI]
  have e2 : addsF o = 0 := by rcases ho with rfl | rfl <;> simp [addsF, effI]
  have e3 : ∀ u, u ∈ nextN (o, (t : Int)) b → u = b + 1 ∨ u = t := by
    intro u h
    rcases ho with rfl | rfl <;> (simp [nextN, nextF] at h; rcases h with h | h <;> omega)
  refine SegK.one (by omega) (by rw [e1]; omega) (by rw [e1, e2]; omega) fun u h => ?_
  rcases e3 u h with rfl | rfl
  · left; exact ⟨rfl, by rw [e1, e2]; omega⟩
  · right; rw [e1, e2, show d + 1 + ((0 : Int) - 1) = d by omega]; exact hk
theorem expr_seg (ν : List ByteArray) : ∀ (n : Nat) (x : E0), fineB n x = true → ∀ (K : Nat → Int → Prop) (b : Nat) (d : Int), 0 ≤ d → d + n ≤ 64 → SegK K (exprC ν n x b) b d (d + 1) := by
  intro n
  induction n with
  | zero => intro x h; simp [fineB] at h
  | succ n ih =>
    intro x hf K b d h0 h64
    rcases fine_cases hf with ⟨h1, h2⟩ | ⟨h1, a, ha, hfa⟩ | ⟨h1, a, c, ha, hfa, hfc⟩
    · rw [exprC]
      rcases h1 with h1 | h1 | h1 | h1
      · rw [if_pos h1]; exact SegK.plain (by decide) h0 (by simp [takesX, takesF, effI]; omega) (by simp [takesX, takesF, addsF, effI]) (by omega)
      · rw [if_neg (by omega), if_pos h1]; exact SegK.plain (by decide) h0 (by simp [takesX, takesF, effI]; omega) (by simp [takesX, takesF, addsF, effI]) (by omega)
      · rw [if_neg (by omega), if_neg (by omega), if_pos h1]; exact SegK.plain (by decide) h0 (by simp [takesX, takesF, effI]; omega) (by simp [takesX, takesF, addsF, effI]) (by omega)
      · rw [if_neg (by omega), if_neg (by omega), if_neg (by omega), if_pos h1]; exact SegK.plain (by decide) h0 (by simp [takesX, takesF, effI]; omega) (by simp [takesX, takesF, addsF, effI]) (by omega)
    · rw [exprC, if_neg (by omega), if_neg (by omega), if_neg (by omega), if_neg (by omega), if_neg (by omega), ha, rowC_one]
      refine SegK.app (ih a hfa _ b d h0 (by omega)) ?_
      unfold lastI
      by_cases c3 : x.op = 3
      · rw [if_pos c3]; exact SegK.plain (by decide) (by omega) (by simp [takesX, takesF, effI]; omega) (by simp [takesX, takesF, addsF, effI]) (by omega)
      rw [if_neg c3]
      by_cases c6 : x.op = 6
      · rw [if_pos c6]; exact SegK.plain (by decide) (by omega) (by simp [takesX, takesF, effI]; omega) (by simp [takesX, takesF, addsF, effI]) (by omega)
      rw [if_neg c6]
      have e1 : takesX (9, ((x.op : Nat) : Int)) = 1 := by unfold takesX; rw [if_neg (by simp; omega)]; simp [takesF, effI]
      exact SegK.plain (by decide) (by omega) (by rw [e1]; omega) (by rw [e1]; simp [addsF, effI]) (by omega)
    · by_cases cl : x.op = 21 ∨ x.op = 22
      · rw [exprC, if_neg (by omega), if_neg (by omega), if_neg (by omega), if_neg (by omega), if_pos cl, ha]
        simp only
        obtain ⟨ca, eca⟩ : ∃ ca, ca = exprC ν n a b := ⟨_, rfl⟩
        rw [← eca]
        obtain ⟨cc, ecc⟩ : ∃ cc, cc = exprC ν n c (b + ca.length + 1) := ⟨_, rfl⟩
        rw [← ecc]
        have A := fun K => ih a hfa K b d h0 (by omega)
        rw [← eca] at A
        have C := fun K => ih c hfc K (b + ca.length + 1) d h0 (by omega)
        rw [← ecc] at C
        refine SegK.ends ?_
        have hlen : (ca ++ ((if x.op = 21 then 12 else 13, ((b + ca.length + 1 + cc.length + 2 : Nat) : Int)) :: (cc ++ [(10, 0), (11, ((b + ca.length + 1 + cc.length + 3 : Nat) : Int)), (1, if x.op = 21 then 0 else 1)]))).length = ca.length + 1 + cc.length + 3 := by simp; omega
        rw [hlen]
        -- parted as code, then the number of the short way
        have hpart : ca ++ ((if x.op = 21 then 12 else 13, ((b + ca.length + 1 + cc.length + 2 : Nat) : Int)) :: (cc ++ [(10, 0), (11, ((b + ca.length + 1 + cc.length + 3 : Nat) : Int)), (1, if x.op = 21 then 0 else 1)])) =
            (ca ++ ([(if x.op = 21 then 12 else 13, ((b + ca.length + 1 + cc.length + 2 : Nat) : Int))] ++ (cc ++ ([(10, 0)] ++ [(11, ((b + ca.length + 1 + cc.length + 3 : Nat) : Int))])))) ++ [(1, if x.op = 21 then 0 else 1)] := by simp
        rw [hpart]
        have hl1 : (ca ++ ([(if x.op = 21 then 12 else 13, ((b + ca.length + 1 + cc.length + 2 : Nat) : Int))] ++ (cc ++ ([(10, 0)] ++ [(11, ((b + ca.length + 1 + cc.length + 3 : Nat) : Int))])))).length = ca.length + 1 + cc.length + 2 := by simp; omega
        refine SegK.app (e := d) ?_ (SegK.plain (by decide) h0 (by simp [takesX, takesF, effI]; omega) (by simp [takesX, takesF, addsF, effI]) (by omega))
        rw [hl1]
        refine SegK.app (e := d + 1) (A _) (SegK.app (e := d) (SegK.test (by split <;> simp) h0 (by omega) ?_) (SegK.app (e := d + 1) ?_ (SegK.app (e := d + 1) (SegK.plain (by decide) (by omega) (by simp [takesX, takesF, effI]; omega) (by simp [takesX, takesF, addsF, effI]) (by omega)) (SegK.jump (by omega) (by omega) ?_))))
        · left; left; right; exact ⟨by omega, rfl⟩
        · have := C; exact this _
        · left; left; left; left; left; right; right; exact ⟨by omega, rfl⟩
      · rw [exprC, if_neg (by omega), if_neg (by omega), if_neg (by omega), if_neg (by omega), if_neg cl, ha, rowC_two]
        refine SegK.app (SegK.app (ih a hfa _ b d h0 (by omega)) (ih c hfc _ (b + (exprC ν n a b).length) (d + 1) (by omega) (by omega))) ?_
        unfold lastI
        rw [if_neg (by omega), if_neg (by omega)]
        have e1 : takesX (9, ((x.op : Nat) : Int)) = 2 := by unfold takesX; rw [if_pos ⟨rfl, by simp; omega⟩]
        exact SegK.plain (by decide) (by omega) (by rw [e1]; omega) (by rw [e1]; simp [addsF, effI]; omega) (by omega)
theorem stmt_seg : ∀ (m : Nat) (s : S0), rightS m s = true → ∀ (K : Nat → Int → Prop) (ν : List ByteArray) (b : Nat), SegK K (stmtC m s ν b) b 0 0 := by
  intro m
  induction m with
  | zero => intro s h; simp [rightS] at h
  | succ m ih =>
    intro s hr K ν b
    obtain ⟨m', hm, hfe, hrb, hrl, ho1, ho7, hw, h3, hels, hbod⟩ := right_cases hr
    obtain rfl : m = m' := by omega
    have L : ∀ (l : List S0), (∀ t, t ∈ l → rightS m t = true) → ∀ (K : Nat → Int → Prop) (ν : List ByteArray) (b : Nat), SegK K (listC (stmtC m) l ν b) b 0 0 := by
      intro l
      induction l with
      | nil => intro _ K ν b; exact SegK.nil
      | cons t l ihl =>
        intro ht K ν b
        rw [listC_cons]
        exact SegK.app (ih t (ht t (List.mem_cons_self ..)) _ ν b) (ihl (fun u hu => ht u (List.mem_cons_of_mem _ hu)) _ _ _)
    rw [stmtC]
    by_cases k6 : s.op = 6
    · rw [want_none hw (Or.inl k6), rowC, List.nil_append, if_neg (by omega), if_neg (by omega), if_neg (by omega), if_neg (by omega), if_neg (by omega), if_pos k6]
      exact SegK.one (Int.le_refl _) (by simp [takesX, takesF, effI]) (by simp [takesX, takesF, addsF, effI]) fun t h => by simp [nextN, nextF] at h
    by_cases k7 : s.op = 7
    · rw [want_none hw (Or.inr k7), rowC, List.nil_append, if_neg (by omega), if_neg (by omega), if_neg (by omega), if_neg (by omega), if_neg (by omega), if_neg (by omega), if_pos k7]
      exact SegK.one (Int.le_refl _) (by simp [takesX, takesF, effI]) (by simp [takesX, takesF, addsF, effI]) fun t h => by simp [nextN, nextF] at h
    by_cases k3 : s.op = 3
    · obtain ⟨a, c, he⟩ := want_two hw k3
      rw [he, rowC_two, if_neg (by omega), if_neg (by omega), if_pos k3]
      exact SegK.app (SegK.app (expr_seg ν 40 a (hfe a (by rw [he]; simp)) _ b 0 (by omega) (by omega)) (expr_seg ν 40 c (hfe c (by rw [he]; simp)) _ _ (0 + 1) (by omega) (by omega))) (SegK.plain (by decide) (by omega) (by simp [takesX, takesF, effI]) (by simp [takesX, takesF, addsF, effI]) (by omega))
    obtain ⟨a, he⟩ := want_one hw (by omega)
    rw [he, rowC_one]
    have A := fun K => expr_seg ν 40 a (hfe a (by rw [he]; simp)) K b 0 (by omega) (by omega)
    obtain ⟨ca, eca⟩ : ∃ ca, ca = exprC ν 40 a b := ⟨_, rfl⟩
    rw [← eca] at A ⊢
    by_cases k1 : s.op = 1
    · rw [if_pos k1]
      exact SegK.app (A _) (SegK.plain (by decide) (by omega) (by simp [takesX, takesF, effI]) (by simp [takesX, takesF, addsF, effI]) (by omega))
    rw [if_neg k1]
    by_cases k2 : s.op = 2
    · rw [if_pos k2]
      exact SegK.app (A _) (SegK.plain (by decide) (by omega) (by simp [takesX, takesF, effI]) (by simp [takesX, takesF, addsF, effI]) (by omega))
    rw [if_neg k2, if_neg k3]
    obtain ⟨cb, ecb⟩ : ∃ cb, cb = listC (stmtC m) s.b ν (b + ca.length + 1) := ⟨_, rfl⟩
    rw [← ecb]
    have B := fun K => L s.b hrb K ν (b + ca.length + 1)
    rw [← ecb] at B
    by_cases k4 : s.op = 4
    · rw [if_pos k4]
      by_cases ke : s.els = []
      · rw [if_pos ke]
        refine SegK.ends (SegK.app (e := 0 + 1) (A _) (SegK.app (c1 := [_]) (e := 0) (SegK.test (Or.inl rfl) (by omega) (by omega) ?_) (B _)))
        left; left; right; right
        exact ⟨by simp; omega, rfl⟩
      · rw [if_neg ke]
        obtain ⟨cl, ecl⟩ : ∃ cl, cl = listC (stmtC m) s.els ν (b + ca.length + 1 + cb.length + 1) := ⟨_, rfl⟩
        rw [← ecl]
        have Z := fun K => L s.els hrl K ν (b + ca.length + 1 + cb.length + 1)
        rw [← ecl] at Z
        refine SegK.ends ?_
        have hlen : (ca ++ ((12, ((b + ca.length + 1 + cb.length + 1 : Nat) : Int)) :: (cb ++ ((11, ((b + ca.length + 1 + cb.length + 1 + cl.length : Nat) : Int)) :: cl)))).length = ca.length + 1 + cb.length + 1 + cl.length := by simp; omega
        rw [hlen]
        have hpart : ca ++ ((12, ((b + ca.length + 1 + cb.length + 1 : Nat) : Int)) :: (cb ++ ((11, ((b + ca.length + 1 + cb.length + 1 + cl.length : Nat) : Int)) :: cl))) = (ca ++ ([(12, ((b + ca.length + 1 + cb.length + 1 : Nat) : Int))] ++ (cb ++ [(11, ((b + ca.length + 1 + cb.length + 1 + cl.length : Nat) : Int))]))) ++ cl := by simp
        rw [hpart]
        have hl1 : (ca ++ ([(12, ((b + ca.length + 1 + cb.length + 1 : Nat) : Int))] ++ (cb ++ [(11, ((b + ca.length + 1 + cb.length + 1 + cl.length : Nat) : Int))]))).length = ca.length + 1 + cb.length + 1 := by simp; omega
        refine SegK.app (e := 0) ?_ ?_
        · rw [hl1]
          refine SegK.app (e := 0 + 1) (A _) (SegK.app (e := 0) (SegK.test (Or.inl rfl) (by omega) (by omega) ?_) (SegK.app (e := 0) (B _) (SegK.jump (by omega) (by omega) ?_)))
          · left; left; right; exact ⟨by omega, rfl⟩
          · left; left; left; left; right; right; exact ⟨by omega, rfl⟩
        · rw [hl1, ← Nat.add_assoc, ← Nat.add_assoc, ← Nat.add_assoc]; exact Z _
    rw [if_neg k4, if_pos (by omega)]
    refine SegK.ends ?_
    have hlen : (ca ++ ((12, ((b + ca.length + 1 + cb.length + 1 : Nat) : Int)) :: (cb ++ [(11, ((b : Nat) : Int))]))).length = ca.length + 1 + cb.length + 1 := by simp; omega
    rw [hlen]
    refine SegK.app (e := 0 + 1) (A _) (SegK.app (c1 := [_]) (e := 0) (SegK.test (Or.inl rfl) (by omega) (by omega) ?_) (SegK.app (e := 0) (B _) (SegK.jump (by omega) (by omega) ?_)))
    · left; left; right; right; exact ⟨by omega, rfl⟩
    · left; left; left; right; left; exact ⟨rfl, rfl⟩
theorem list_seg (m : Nat) (l : List S0) (h : ∀ t, t ∈ l → rightS m t = true) : ∀ (K : Nat → Int → Prop) (ν : List ByteArray) (b : Nat), SegK K (listC (stmtC m) l ν b) b 0 0 := by
  induction l with
  | nil => intro K ν b; exact SegK.nil
  | cons t l ihl =>
    intro K ν b
    rw [listC_cons]
    exact SegK.app (stmt_seg m t (h t (List.mem_cons_self ..)) _ ν b) (ihl (fun u hu => h u (List.mem_cons_of_mem _ hu)) _ _ _)
end
end Go.Proofs.YtocbddajakbemaaGreat
set_option linter.unusedSimpArgs false
namespace Go.Proofs.YtocbddajakbemaaGreat
section
open Go.RowKit
theorem right_plain {L n o : Nat} (h : o = 6 ∨ o = 7 ∨ o = 8 ∨ o = 10 ∨ o = 14 ∨ o = 15) : rightF L n (o, 0) = true := by
  rcases h with rfl | rfl | rfl | rfl | rfl | rfl <;> rfl
theorem right_num {L n : Nat} (a : Int) : rightF L n (1, a) = true := rfl
theorem right_slot {L n o : Nat} {a : Int} (ho : o = 2 ∨ o = 3) (h0 : 0 ≤ a) (h1 : a < (L : Int)) : rightF L n (o, a) = true := by
  rcases ho with rfl | rfl <;> (simp [rightF]; omega)
theorem right_comp {L n o : Nat} {a : Int} (ho : o = 4 ∨ o = 5) (h0 : 1 ≤ a) (h1 : a ≤ 10) : rightF L n (o, a) = true := by
  rcases ho with rfl | rfl <;> (simp [rightF]; omega)
theorem right_to {L n o t : Nat} (ho : o = 11 ∨ o = 12 ∨ o = 13) (h1 : t ≤ n) : rightF L n (o, (t : Int)) = true := by
  rcases ho with rfl | rfl | rfl <;> (simp [rightF]; omega)
theorem right_do {L n op : Nat} (h : (7 ≤ op ∧ op ≤ 20) ∨ op = 23 ∨ op = 24) : rightF L n (9, (op : Int)) = true := by
  simp [rightF]; omega
theorem expr_right (ν : List ByteArray) (L nn : Nat) (hL : ν.length ≤ L) : ∀ (n : Nat) (x : E0), fineB n x = true → exprG ν n x = true → ∀ (b : Nat), b + (exprC ν n x b).length ≤ nn → ∀ y, y ∈ exprC ν n x b → rightF L nn y = true := by
  intro n
  induction n with
  | zero => intro x h; simp [fineB] at h
  | succ n ih =>
    intro x hf hg b hb y hy
    rw [exprG, Bool.and_eq_true, List.all_eq_true] at hg
    obtain ⟨hg1, hg2⟩ := hg
    rcases fine_cases hf with ⟨h1, h2⟩ | ⟨h1, a, ha, hfa⟩ | ⟨h1, a, c, ha, hfa, hfc⟩
    · rw [exprC] at hy
      rcases h1 with h1 | h1 | h1 | h1
      · rw [if_pos h1] at hy; simp at hy; subst hy; exact right_num _
      · rw [if_neg (by omega), if_pos h1] at hy; simp at hy; subst hy
        rw [if_pos h1] at hg1
        obtain ⟨i1, i2⟩ := idxM_lt (of_decide_eq_true hg1)
        exact right_slot (Or.inl rfl) (by omega) (by omega)
      · rw [if_neg (by omega), if_neg (by omega), if_pos h1] at hy; simp at hy; subst hy; exact right_plain (by simp)
      · rw [if_neg (by omega), if_neg (by omega), if_neg (by omega), if_pos h1] at hy; simp at hy; subst hy; exact right_plain (by simp)
    · rw [exprC, if_neg (by omega), if_neg (by omega), if_neg (by omega), if_neg (by omega), if_neg (by omega), ha, rowC_one] at hy hb
      rw [List.length_append] at hb
      rcases List.mem_append.1 hy with hy | hy
      · exact ih a hfa (hg2 a (by rw [ha]; simp)) b (by omega) y hy
      · have : y = lastI x := by simpa using hy
        subst this
        unfold lastI
        by_cases c3 : x.op = 3
        · rw [if_pos c3]; exact right_comp (Or.inl rfl) (by omega) (by omega)
        rw [if_neg c3]
        by_cases c6 : x.op = 6
        · rw [if_pos c6]; exact right_plain (by simp)
        rw [if_neg c6]
        exact right_do (by omega)
    · by_cases cl : x.op = 21 ∨ x.op = 22
      · rw [exprC, if_neg (by omega), if_neg (by omega), if_neg (by omega), if_neg (by omega), if_pos cl, ha] at hy hb
        simp only at hy hb
        obtain ⟨ca, eca⟩ : ∃ ca, ca = exprC ν n a b := ⟨_, rfl⟩
        rw [← eca] at hy hb
        obtain ⟨cc, ecc⟩ : ∃ cc, cc = exprC ν n c (b + ca.length + 1) := ⟨_, rfl⟩
        rw [← ecc] at hy hb
        have hlen : (ca ++ ((if x.op = 21 then 12 else 13, ((b + ca.length + 1 + cc.length + 2 : Nat) : Int)) :: (cc ++ [(10, 0), (11, ((b + ca.length + 1 + cc.length + 3 : Nat) : Int)), (1, if x.op = 21 then 0 else 1)]))).length = ca.length + 1 + cc.length + 3 := by simp; omega
        rw [hlen] at hb
        rcases List.mem_append.1 hy with hy | hy
        · rw [eca] at hy
          exact ih a hfa (hg2 a (by rw [ha]; simp)) b (by rw [← eca]; omega) y hy
        rcases List.mem_cons.1 hy with rfl | hy
        · exact right_to (by split <;> simp) (by omega)
        rcases List.mem_append.1 hy with hy | hy
        · rw [ecc] at hy
          exact ih c hfc (hg2 c (by rw [ha]; simp)) _ (by rw [← ecc]; omega) y hy
        rcases List.mem_cons.1 hy with rfl | hy
        · exact right_plain (by simp)
        rcases List.mem_cons.1 hy with rfl | hy
        · exact right_to (by simp) (by omega)
        · have : y = (1, if x.op = 21 then 0 else 1) := by simpa using hy
          subst this
          exact right_num _
      · rw [exprC, if_neg (by omega), if_neg (by omega), if_neg (by omega), if_neg (by omega), if_neg cl, ha, rowC_two] at hy hb
        rw [List.length_append, List.length_append] at hb
        rcases List.mem_append.1 hy with hy | hy
        · rcases List.mem_append.1 hy with hy | hy
          · exact ih a hfa (hg2 a (by rw [ha]; simp)) b (by omega) y hy
          · exact ih c hfc (hg2 c (by rw [ha]; simp)) _ (by omega) y hy
        · have : y = lastI x := by simpa using hy
          subst this
          unfold lastI
          rw [if_neg (by omega), if_neg (by omega)]
          exact right_do (by omega)
theorem next_le_L {s : S0} {m : Nat} {ν : List ByteArray} {L : Nat} (h : ν.length ≤ L) (hs : stmtL (m + 1) s ν ≤ L) : (nextV s ν).length ≤ L := by
  unfold nextV
  split
  · rename_i h1
    rw [stmtL, if_pos h1] at hs
    simpa using hs
  · exact h
theorem stmt_right (L nn : Nat) : ∀ (m : Nat) (s : S0), rightS m s = true → ∀ (ν : List ByteArray) (b : Nat), stmtG m s ν = true → stmtL m s ν ≤ L → ν.length ≤ L → b + (stmtC m s ν b).length ≤ nn → ∀ y, y ∈ stmtC m s ν b → rightF L nn y = true := by
  intro m
  induction m with
  | zero => intro s h; simp [rightS] at h
  | succ m ih =>
    intro s hr ν b hg hl hL hb y hy
    obtain ⟨m', hm, hfe, hrb, hrl, ho1, ho7, hw, h3, hels, hbod⟩ := right_cases hr
    obtain rfl : m = m' := by omega
    have LL : ∀ (l : List S0), (∀ t, t ∈ l → rightS m t = true) → ∀ (ν : List ByteArray) (b : Nat), listG (stmtG m) l ν = true → listL (stmtL m) l ν ≤ L → ν.length ≤ L → b + (listC (stmtC m) l ν b).length ≤ nn → ∀ y, y ∈ listC (stmtC m) l ν b → rightF L nn y = true := by
      intro l
      induction l with
      | nil => intro _ ν b _ _ _ _ y hy; cases hy
      | cons t l ihl =>
        intro ht ν b hg hl hL hb y hy
        rw [listC_cons] at hy hb
        rw [listG, Bool.and_eq_true] at hg
        rw [listL] at hl
        rw [List.length_append, ← Nat.add_assoc] at hb
        have hrt := ht t (List.mem_cons_self ..)
        obtain ⟨mm, rfl, -⟩ := right_cases hrt
        have hnl : (nextV t ν).length ≤ L := next_le_L (m := mm) hL (by omega)
        rcases List.mem_append.1 hy with hy | hy
        · exact ih t hrt ν b hg.1 (by omega) hL (by omega) y hy
        · exact ihl (fun u hu => ht u (List.mem_cons_of_mem _ hu)) _ _ hg.2 (by omega) hnl hb y hy
    rw [stmtC] at hy hb
    rw [stmtG, Bool.and_eq_true, List.all_eq_true] at hg
    obtain ⟨hge, hg⟩ := hg
    rw [stmtL] at hl
    by_cases k6 : s.op = 6
    · rw [want_none hw (Or.inl k6), rowC, List.nil_append, if_neg (by omega), if_neg (by omega), if_neg (by omega), if_neg (by omega), if_neg (by omega), if_pos k6] at hy
      have : y = (14, 0) := by simpa using hy
      subst this
      exact right_plain (by simp)
    by_cases k7 : s.op = 7
    · rw [want_none hw (Or.inr k7), rowC, List.nil_append, if_neg (by omega), if_neg (by omega), if_neg (by omega), if_neg (by omega), if_neg (by omega), if_neg (by omega), if_pos k7] at hy
      have : y = (15, 0) := by simpa using hy
      subst this
      exact right_plain (by simp)
    by_cases k3 : s.op = 3
    · obtain ⟨a, c, he⟩ := want_two hw k3
      rw [he, rowC_two, if_neg (by omega), if_neg (by omega), if_pos k3] at hy hb
      rw [List.length_append, List.length_append] at hb
      rcases List.mem_append.1 hy with hy | hy
      · rcases List.mem_append.1 hy with hy | hy
        · exact expr_right ν L nn hL 40 a (hfe a (by rw [he]; simp)) (hge a (by rw [he]; simp)) b (by omega) y hy
        · exact expr_right ν L nn hL 40 c (hfe c (by rw [he]; simp)) (hge c (by rw [he]; simp)) _ (by omega) y hy
      · have : y = (5, s.n) := by simpa using hy
        subst this
        exact right_comp (Or.inr rfl) (h3 k3).1 (h3 k3).2
    obtain ⟨a, he⟩ := want_one hw (by omega)
    rw [he, rowC_one] at hy hb
    obtain ⟨ca, eca⟩ : ∃ ca, ca = exprC ν 40 a b := ⟨_, rfl⟩
    rw [← eca] at hy hb
    have A : b + ca.length ≤ nn → ∀ y, y ∈ ca → rightF L nn y = true := by
      intro hbn y hy
      rw [eca] at hy
      exact expr_right ν L nn hL 40 a (hfe a (by rw [he]; simp)) (hge a (by rw [he]; simp)) b (by rw [← eca]; exact hbn) y hy
    rw [List.length_append] at hb
    rcases List.mem_append.1 hy with hy | hy
    · exact A (by omega) y hy
    by_cases k1 : s.op = 1
    · rw [if_pos k1] at hy hl
      have : y = (3, ((ν.length : Nat) : Int)) := by simpa using hy
      subst this
      exact right_slot (Or.inr rfl) (by omega) (by omega)
    rw [if_neg k1] at hy hg hb hl
    by_cases k2 : s.op = 2
    · rw [if_pos k2] at hy hg
      have : y = (3, idxM ν s.nm) := by simpa using hy
      subst this
      obtain ⟨i1, i2⟩ := idxM_lt (of_decide_eq_true hg)
      exact right_slot (Or.inr rfl) (by omega) (by omega)
    rw [if_neg k2] at hy hg hb
    rw [if_neg k3] at hy hb
    rw [if_pos (by omega), Bool.and_eq_true] at hg
    rw [if_pos (by omega)] at hl
    obtain ⟨cb, ecb⟩ : ∃ cb, cb = listC (stmtC m) s.b ν (b + ca.length + 1) := ⟨_, rfl⟩
    rw [← ecb] at hy hb
    have B : b + ca.length + 1 + cb.length ≤ nn → ∀ y, y ∈ cb → rightF L nn y = true := by
      intro hbn y hy
      rw [ecb] at hy
      exact LL s.b hrb ν _ hg.1 (by omega) hL (by rw [← ecb]; exact hbn) y hy
    by_cases k4 : s.op = 4
    · rw [if_pos k4] at hy hb
      by_cases ke : s.els = []
      · rw [if_pos ke] at hy hb
        simp only [List.length_cons] at hb
        rcases List.mem_cons.1 hy with rfl | hy
        · exact right_to (by simp) (by omega)
        · exact B (by omega) y hy
      · rw [if_neg ke] at hy hb
        obtain ⟨cl, ecl⟩ : ∃ cl, cl = listC (stmtC m) s.els ν (b + ca.length + 1 + cb.length + 1) := ⟨_, rfl⟩
        rw [← ecl] at hy hb
        simp only [List.length_cons, List.length_append] at hb
        rcases List.mem_cons.1 hy with rfl | hy
        · exact right_to (by simp) (by omega)
        rcases List.mem_append.1 hy with hy | hy
        · exact B (by omega) y hy
        rcases List.mem_cons.1 hy with rfl | hy
        · exact right_to (by simp) (by omega)
        · rw [ecl] at hy
          exact LL s.els hrl ν _ hg.2 (by omega) hL (by rw [← ecl]; omega) y hy
    · rw [if_neg k4, if_pos (show s.op = 5 by omega)] at hy hb
      simp only [List.length_cons, List.length_append, List.length_nil] at hb
      rcases List.mem_cons.1 hy with rfl | hy
      · exact right_to (by simp) (by omega)
      rcases List.mem_append.1 hy with hy | hy
      · exact B (by omega) y hy
      · have : y = (11, ((b : Nat) : Int)) := by simpa using hy
        subst this
        exact right_to (by simp) (by omega)
theorem list_right (L nn m : Nat) (l : List S0) (ht : ∀ t, t ∈ l → rightS m t = true) : ∀ (ν : List ByteArray) (b : Nat), listG (stmtG m) l ν = true → listL (stmtL m) l ν ≤ L → ν.length ≤ L → b + (listC (stmtC m) l ν b).length ≤ nn → ∀ y, y ∈ listC (stmtC m) l ν b → rightF L nn y = true := by
  induction l with
  | nil => intro ν b _ _ _ _ y hy; cases hy
  | cons t l ihl =>
    intro ν b hg hl hL hb y hy
    rw [listC_cons] at hy hb
    rw [listG, Bool.and_eq_true] at hg
    rw [listL] at hl
    rw [List.length_append, ← Nat.add_assoc] at hb
    have hrt := ht t (List.mem_cons_self ..)
    obtain ⟨mm, rfl, -⟩ := right_cases hrt
    have hnl : (nextV t ν).length ≤ L := next_le_L (m := mm) hL (by omega)
    rcases List.mem_append.1 hy with hy | hy
    · exact stmt_right L nn _ t hrt ν b hg.1 (by omega) hL (by omega) y hy
    · exact ihl (fun u hu => ht u (List.mem_cons_of_mem _ hu)) _ _ hg.2 (by omega) hnl hb y hy
theorem visit_true (D : Nat → Int) (d : Int) : ∀ (l : List Nat) (ds : List Int) (rt : List Nat), (∀ t : Nat, t ∈ l → t < ds.length ∧ D t + 1 = d) → (∀ (j : Nat) (v : Int), ds[j]? = some v → v = 0 ∨ v = D j + 1) → ∃ ds' rt', visit d l (ds, rt) = some (ds', rt') ∧ ∀ (j : Nat) (v : Int), ds'[j]? = some v → v = 0 ∨ v = D j + 1 := by
  intro l
  induction l with
  | nil => intro ds rt _ h; exact ⟨ds, rt, rfl, h⟩
  | cons t l ih =>
    intro ds rt ht h
    obtain ⟨h1, h2⟩ := ht t (List.mem_cons_self ..)
    rw [visit]
    have hv : ds[t]? = some (ds[t]'h1) := List.getElem?_eq_getElem h1
    obtain ⟨v, ev⟩ : ∃ v, v = ds[t]'h1 := ⟨_, rfl⟩
    rw [← ev] at hv
    rw [hv]
    simp only
    by_cases hz : v = 0
    · rw [if_pos hz]
      refine ih _ _ (fun u hu => ?_) (fun j u hj => ?_)
      · have := ht u (List.mem_cons_of_mem _ hu)
        simpa using this
      · by_cases hjt : t = j
        · subst hjt
          rw [List.getElem?_set_self h1] at hj
          injection hj with hj
          right; omega
        · rw [List.getElem?_set_ne hjt] at hj
          exact h j u hj
    · rw [if_neg hz]
      have : v = d := by
        rcases h t v hv with h' | h'
        · exact absurd h' hz
        · omega
      rw [if_pos this]
      exact ih _ _ (fun u hu => ht u (List.mem_cons_of_mem _ hu)) h
theorem soundL_true (L : Nat) (code : List (Nat × Int)) (hr : ∀ x, x ∈ code → rightF L code.length x = true) (D : Nat → Int) (hD : ∀ p, 0 ≤ D p) (hend : D code.length = 0) (hok : ∀ (j : Nat) (x : Nat × Int), code[j]? = some x → OkD D j x) :
    ∀ (f : Nat) (ds : List Int) (rt : List Nat) (b : Bool), ds.length = code.length + 1 → (∀ (j : Nat) (v : Int), ds[j]? = some v → v = 0 ∨ v = D j + 1) → (∀ i : Nat, i ∈ rt → i ≤ code.length ∧ ds[i]? = some (D i + 1)) → soundL code f (ds, rt) = some b → b = true := by
  intro f
  induction f with
  | zero => intro ds rt b _ _ _ h; cases h
  | succ f ih =>
    intro ds rt b hl hv hrt h
    rcases rt with _ | ⟨i, rt⟩
    · rw [soundL, List.getElem?_eq_getElem (show code.length < ds.length by omega)] at h
      simp only at h
      injection h with h
      rw [← h]
      have := hv code.length _ (List.getElem?_eq_getElem (show code.length < ds.length by omega))
      rw [decide_eq_true_eq]
      omega
    rw [soundL] at h
    obtain ⟨hi1, hi2⟩ := hrt i (List.mem_cons_self ..)
    have hrt' : ∀ j : Nat, j ∈ rt → j ≤ code.length ∧ ds[j]? = some (D j + 1) := fun j hj => hrt j (List.mem_cons_of_mem _ hj)
    by_cases hi : i = code.length
    · rw [if_pos hi] at h
      exact ih ds rt b hl hv hrt' h
    rw [if_neg hi] at h
    have hx : code[i]? = some (code[i]'(by omega)) := List.getElem?_eq_getElem (by omega)
    obtain ⟨x, ex⟩ : ∃ x, x = code[i]'(by omega) := ⟨_, rfl⟩
    rw [← ex] at hx
    rw [hx, hi2] at h
    simp only at h
    have hxr := hr x (List.mem_of_getElem? hx)
    obtain ⟨o1, o2, o3⟩ := hok i x hx
    have hxb := takes_le x (right_op (o := x.1) (a := x.2) hxr).2
    rw [if_neg (by omega), if_neg (by omega)] at h
    obtain ⟨d, ed⟩ : ∃ d, d = D i + 1 - 1 + (addsF x.1 - takesX x) + 1 := ⟨_, rfl⟩
    rw [← ed] at h
    have hd : d ≠ 0 := by omega
    have hnx : ∀ t : Nat, t ∈ nextN x i → t < ds.length ∧ D t + 1 = d := by
      intro t ht
      refine ⟨?_, by rw [o3 t ht]; omega⟩
      unfold nextN at ht
      rw [List.mem_map] at ht
      obtain ⟨u, hu, rfl⟩ := ht
      have := next_le (o := x.1) (a := x.2) hxr (show i < code.length by omega) u hu
      omega
    obtain ⟨ds', rt', hw, hv'⟩ := visit_true D d (nextN x i) ds rt hnx hv
    rw [hw] at h
    simp only at h
    obtain ⟨k1, k2, k3, k4, k5, k6⟩ := visit_keeps d hd _ _ _ _ _ hw
    refine ih ds' rt' b (by rw [k1, hl]) hv' (fun j hm => ?_) h
    rcases k6 j hm with h' | h'
    · obtain ⟨g1, g2⟩ := hrt' j h'
      exact ⟨g1, k2 j _ g2 (by have := hD j; omega)⟩
    · obtain ⟨g1, g2⟩ := hnx j h'
      exact ⟨by omega, by rw [k3 j h', g2]⟩
theorem sound_true (m : Nat) (l : List S0) (hr : ∀ t, t ∈ l → rightS m t = true) (hg : listG (stmtG m) l [] = true) (L : Nat) (hL : listL (stmtL m) l [] ≤ L) (h32 : L ≤ 32) (code : List (Nat × Int)) (hc : code = listC (stmtC m) l [] 0) :
    soundF L (maskOf (kindsOf 4 code)) (maskOf (kindsOf 5 code)) code = some true := by
  obtain ⟨b, hb⟩ := sound_total L (maskOf (kindsOf 4 code)) (maskOf (kindsOf 5 code)) code
  rw [hb]
  congr 1
  have hall : ∀ x, x ∈ code → rightF L code.length x = true := by
    rw [hc]
    exact list_right L _ m l hr [] 0 hg hL (Nat.zero_le _) (by omega)
  obtain ⟨ds, d1, d2, d3, d4⟩ := list_seg m l hr (fun _ _ => False) [] 0
  rw [← hc] at d1 d4
  have hsf := hb
  unfold soundF at hsf
  rw [if_neg (by omega), if_neg (by rw [List.all_eq_true.2 (by rw [Int.toNat_natCast]; exact hall)]; simp), if_neg (by simp), if_neg (by simp)] at hsf
  obtain ⟨D, eD⟩ : ∃ D : Nat → Int, D = fun p => ds.getD p 0 := ⟨_, rfl⟩
  have hfit : ∀ (j : Nat) (v : Int), ds[j]? = some v → D (0 + j) = v := by
    intro j v hj
    rw [eD, Nat.zero_add]
    simp [List.getD_eq_getElem?_getD, hj]
  have hend : D (0 + code.length) = 0 := by
    rw [eD, Nat.zero_add, ← d1]
    simp [List.getD_eq_getElem?_getD]
  have hok := d4 D (fun _ _ h => h.elim) hfit hend
  have h0 : D 0 = 0 := head_fits d1 d2 hfit hend
  refine soundL_true L code hall D (fun p => ?_) (by simpa using hend) (fun j x hx => by simpa using hok j x hx) _ _ _ b (by simp) (fun j v hj => ?_) (fun i hi => ?_) hsf
  · rw [eD]
    simp only [List.getD_eq_getElem?_getD]
    rcases hp : ds[p]? with _ | v
    · simp
    · simpa using d3 v (List.mem_of_getElem? hp)
  · rcases j with _ | j
    · simp at hj; right; omega
    · simp [List.getElem?_replicate] at hj; left; omega
  · have : i = 0 := by simpa using hi
    subst this
    exact ⟨Nat.zero_le _, by simp [h0]⟩
end
end Go.Proofs.YtocbddajakbemaaGreat
