/- What an order that is drawn holds: each number once; its last number is the first draw; the others are the next order, moved. -/
import Derived.Test.YtcljjpdggbkjfaaMore
set_option linter.unusedVariables false
namespace Go.Proofs.Ytcljjpdggbkjfaa

theorem swp_getD {l : List Nat} {i b j : Nat} (hi : i < l.length) (hb : b < l.length) (hj : j < l.length) : (swp l i b).getD j 0 = if b = j then l.getD i 0 else if i = j then l.getD b 0 else l.getD j 0 := by
  unfold swp
  simp only [List.getD_eq_getElem?_getD, List.getElem?_set, List.length_set]
  by_cases e1 : b = j
  · subst e1; simp [hb]
  · by_cases e2 : i = j
    · subst e2; simp [e1, hi]
    · simp [e1, e2]

theorem count_swp {l : List Nat} {i b : Nat} (hi : i < l.length) (hb : b < l.length) (c : Nat) : (swp l i b).count c = l.count c := by
  unfold swp
  have e1 : l.getD i 0 = l[i] := by simp [List.getD_eq_getElem?_getD, hi]
  have e2 : l.getD b 0 = l[b] := by simp [List.getD_eq_getElem?_getD, hb]
  rw [e1, e2]
  have hb1 : b < (l.set i l[b]).length := by simpa using hb
  rw [List.count_set (h := hb1), List.count_set (h := hi)]
  have e3 : (l.set i l[b])[b] = l[b] := by
    rw [List.getElem_set]
    split
    · rfl
    · rfl
  rw [e3]
  have hp : l[i] = c → 1 ≤ l.count c := fun h => by rw [← h]; exact List.count_pos_iff.2 (List.getElem_mem hi)
  by_cases h1 : l[i] = c <;> by_cases h2 : l[b] = c <;> simp [h1, h2] <;> first | omega | (have := hp h1; omega)

theorem shuf_count (s : Int) (c : Nat) (i : Nat) : ∀ l k, i < l.length → (shuf s i l k).1.count c = l.count c := by
  induction i with
  | zero => intro l k _; rfl
  | succ i ih =>
    intro l k h
    have a := drawV_lo s k ((i : Int) + 1 + 1)
    have b := drawV_lt s k ((i : Int) + 1 + 1) (by omega)
    simp only [shuf]
    rw [ih _ _ (by rw [swp_length]; omega), count_swp h (by omega)]

theorem count_range (c n : Nat) : (List.range n).count c = if c < n then 1 else 0 := by
  induction n with
  | zero => simp
  | succ n ih =>
    rw [List.range_succ, List.count_append, ih]
    by_cases h : n = c
    · subst h; simp
    · by_cases h2 : c < n
      · have : c < n + 1 := by omega
        simp [h, h2, this]
      · have : ¬ c < n + 1 := by omega
        simp [h, h2, this]

theorem permF_count (s k : Int) (n c : Nat) (h : 1 ≤ n) : (permF s k n).1.count c = if c < n then 1 else 0 := by
  unfold permF
  rw [shuf_count s c _ _ _ (by rw [List.length_range]; omega), count_range]
theorem permF_lt (s k : Int) (n : Nat) (h : 1 ≤ n) (j : Nat) (hj : j < n) : (permF s k n).1.getD j 0 < n := by
  have hl := permF_length s k n
  have hm : (permF s k n).1.getD j 0 ∈ (permF s k n).1 := by
    have e : (permF s k n).1.getD j 0 = (permF s k n).1[j] := by simp [List.getD_eq_getElem?_getD, hl, hj]
    rw [e]; exact List.getElem_mem _
  have hc := List.count_pos_iff.2 hm
  rw [permF_count s k n _ h] at hc
  split at hc
  · assumption
  · omega

theorem shuf_snd (s : Int) (i : Nat) : ∀ l l' k, (shuf s i l k).2 = (shuf s i l' k).2 := by
  induction i with
  | zero => intro l l' k; rfl
  | succ i ih => intro l l' k; simp only [shuf]; exact ih _ _ _

theorem shuf_far (s : Int) (i j : Nat) : ∀ l k, i < j → j < l.length → (shuf s i l k).1.getD j 0 = l.getD j 0 := by
  induction i with
  | zero => intro l k _ _; rfl
  | succ i ih =>
    intro l k h hj
    have a := drawV_lo s k ((i : Int) + 1 + 1)
    have b := drawV_lt s k ((i : Int) + 1 + 1) (by omega)
    simp only [shuf]
    rw [ih _ _ (by omega) (by rw [swp_length]; exact hj), swp_getD (by omega) (by omega) hj, if_neg (by omega), if_neg (by omega)]

theorem shuf_map (s : Int) (f : Nat → Nat) (m : Nat) (i : Nat) : ∀ l r k, i ≤ m → m < l.length → m < r.length → (∀ j, j ≤ m → l.getD j 0 = f (r.getD j 0)) → ∀ j, j ≤ m → (shuf s i l k).1.getD j 0 = f ((shuf s i r k).1.getD j 0) := by
  induction i with
  | zero => intro l r k _ _ _ h j hj; exact h j hj
  | succ i ih =>
    intro l r k hi hl hr h j hj
    have a := drawV_lo s k ((i : Int) + 1 + 1)
    have b := drawV_lt s k ((i : Int) + 1 + 1) (by omega)
    simp only [shuf]
    refine ih _ _ _ (by omega) (by rw [swp_length]; exact hl) (by rw [swp_length]; exact hr) ?_ j hj
    intro q hq
    rw [swp_getD (by omega) (by omega) (by omega), swp_getD (by omega) (by omega) (by omega)]
    split
    · exact h _ (by omega)
    · split
      · exact h _ (by omega)
      · exact h _ hq

theorem range_getD {n j : Nat} (h : j < n) : (List.range n).getD j 0 = j := by simp [List.getD_eq_getElem?_getD, h]

/-- The order of n + 2 numbers and the draw of its last one. -/
theorem permF_step (s k : Int) (n : Nat) :
    (permF s k (n + 2)).2 = (permF s (drawK s k ((n : Int) + 2)) (n + 1)).2 ∧
    (((permF s k (n + 2)).1.getD (n + 1) 0 : Nat) : Int) = drawV s k ((n : Int) + 2) ∧
    ∀ j, j ≤ n → (permF s k (n + 2)).1.getD j 0 = if (((permF s (drawK s k ((n : Int) + 2)) (n + 1)).1.getD j 0 : Nat) : Int) = drawV s k ((n : Int) + 2) then n + 1 else (permF s (drawK s k ((n : Int) + 2)) (n + 1)).1.getD j 0 := by
  have a := drawV_lo s k ((n : Int) + 2)
  have b := drawV_lt s k ((n : Int) + 2) (by omega)
  have e : permF s k (n + 2) = shuf s n (swp (List.range (n + 2)) (n + 1) (drawV s k ((n : Int) + 2)).toNat) (drawK s k ((n : Int) + 2)) :=
    shuf_step s (n + 1) n (List.range (n + 2)) k _ _ ((n : Int) + 2) rfl (by omega) rfl rfl
  have e2 : permF s (drawK s k ((n : Int) + 2)) (n + 1) = shuf s n (List.range (n + 1)) (drawK s k ((n : Int) + 2)) := rfl
  rw [e, e2]
  generalize drawK s k ((n : Int) + 2) = K
  obtain ⟨V, hV⟩ : ∃ V : Nat, drawV s k ((n : Int) + 2) = V := ⟨_, (Int.toNat_of_nonneg a).symm⟩
  rw [hV] at a b ⊢
  rw [Int.toNat_natCast]
  refine ⟨shuf_snd s n _ _ _, ?_, ?_⟩
  · rw [shuf_far s n (n + 1) _ _ (by omega) (by rw [swp_length, List.length_range]; omega), swp_getD (by rw [List.length_range]; omega) (by rw [List.length_range]; omega) (by rw [List.length_range]; omega)]
    split
    · rw [range_getD (by omega)]; omega
    · rw [if_pos rfl, range_getD (by omega)]
  · intro j hj
    have h := shuf_map s (fun v => if v = V then n + 1 else v) n n (swp (List.range (n + 2)) (n + 1) V) (List.range (n + 1)) K (Nat.le_refl _) (by rw [swp_length, List.length_range]; omega) (by rw [List.length_range]; omega) (by
      intro q hq
      rw [swp_getD (by rw [List.length_range]; omega) (by rw [List.length_range]; omega) (by rw [List.length_range]; omega), range_getD (by omega), range_getD (n := n + 1) (by omega)]
      by_cases e1 : V = q
      · rw [if_pos e1, if_pos e1.symm]
      · rw [if_neg e1, if_neg (show ¬ n + 1 = q by omega), if_neg (show ¬ q = V from fun h => e1 h.symm), range_getD (by omega)]) j hj
    rw [h]
    by_cases e1 : (shuf s n (List.range (n + 1)) K).1.getD j 0 = V
    · rw [if_pos e1, if_pos (by omega)]
    · rw [if_neg e1, if_neg (by omega)]
end Go.Proofs.Ytcljjpdggbkjfaa
