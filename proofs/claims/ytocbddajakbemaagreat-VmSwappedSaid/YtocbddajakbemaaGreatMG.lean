/- vm, plain: a code that Sound takes runs to an end: no instruction finds too little. vm, plain: a sound program's run: it ends; how its fuel matters. -/
import Derived.Test.YtocbddajakbemaaGreatMF
set_option linter.unusedVariables false
set_option linter.unusedSimpArgs false
set_option linter.unusedSimpArgs false
namespace Go.Proofs.YtocbddajakbemaaGreat
section
open Go.RowKit
theorem visit_keeps (d : Int) (hd : d ≠ 0) : ∀ (l : List Nat) (ds : List Int) (rt : List Nat) (ds' : List Int) (rt' : List Nat), visit d l (ds, rt) = some (ds', rt') →
    ds'.length = ds.length ∧ (∀ (j : Nat) (v : Int), ds[j]? = some v → v ≠ 0 → ds'[j]? = some v) ∧ (∀ t : Nat, t ∈ l → ds'[t]? = some d) ∧ (∀ (j : Nat) (v : Int), ds'[j]? = some v → v ≠ 0 → ds[j]? = some v ∨ (j ∈ rt' ∧ v = d)) ∧ (∀ j : Nat, j ∈ rt → j ∈ rt') ∧ (∀ j : Nat, j ∈ rt' → j ∈ rt ∨ j ∈ l) := by
  intro l
  induction l with
  | nil =>
    intro ds rt ds' rt' h
    rw [visit] at h
    injection h with h
    injection h with h1 h2
    subst h1 h2
    exact ⟨rfl, fun j v h _ => h, fun t ht => (by cases ht), fun j v h _ => Or.inl h, fun j h => h, fun j h => Or.inl h⟩
  | cons t l ih =>
    intro ds rt ds' rt' h
    rw [visit] at h
    rcases hv : ds[t]? with _ | v
    · rw [hv] at h; cases h
    rw [hv] at h
    simp only at h
    have htl := (List.getElem?_eq_some_iff.1 hv).1
    by_cases hz : v = 0
    · rw [if_pos hz] at h
      obtain ⟨h1, h2, h3, h4, h5, h6⟩ := ih _ _ _ _ h
      have hset : (ds.set t d)[t]? = some d := by rw [List.getElem?_set_self htl]
      refine ⟨by rw [h1, List.length_set], fun j u hj hu => ?_, fun u hu => ?_, fun j u hj hu => ?_, fun j hj => h5 j (List.mem_cons_of_mem _ hj), fun j hj => ?_⟩
      · refine h2 j u ?_ hu
        have hne : t ≠ j := by
          rintro rfl
          rw [hv] at hj
          injection hj with hj
          exact hu (hj ▸ hz)
        rw [List.getElem?_set_ne hne]; exact hj
      · rcases List.mem_cons.1 hu with rfl | hu
        · exact h2 _ _ hset hd
        · exact h3 _ hu
      · rcases h4 j u hj hu with h | h
        · by_cases hne : t = j
          · subst hne
            rw [hset] at h
            injection h with h
            exact Or.inr ⟨h5 _ (List.mem_cons_self ..), h.symm⟩
          · rw [List.getElem?_set_ne hne] at h
            exact Or.inl h
        · exact Or.inr h
      · rcases h6 j hj with h | h
        · rcases List.mem_cons.1 h with rfl | h
          · exact Or.inr (List.mem_cons_self ..)
          · exact Or.inl h
        · exact Or.inr (List.mem_cons_of_mem _ h)
    · rw [if_neg hz] at h
      by_cases he : v = d
      · rw [if_pos he] at h
        obtain ⟨h1, h2, h3, h4, h5, h6⟩ := ih _ _ _ _ h
        subst he
        refine ⟨h1, h2, fun u hu => ?_, h4, h5, fun j hj => ?_⟩
        · rcases List.mem_cons.1 hu with rfl | hu
          · exact h2 _ _ hv hd
          · exact h3 _ hu
        · rcases h6 j hj with h | h
          · exact Or.inl h
          · exact Or.inr (List.mem_cons_of_mem _ h)
      · rw [if_neg he] at h; cases h
def Closed (code : List (Nat × Int)) (ds : List Int) (i : Nat) : Prop :=
  ∀ v, ds[i]? = some v → v ≠ 0 → ∃ x, code[i]? = some x ∧ takesX x ≤ v - 1 ∧ v - 1 + (addsF x.1 - takesX x) ≤ 64 ∧ ∀ t : Nat, t ∈ nextN x i → ds[t]? = some (v - 1 + (addsF x.1 - takesX x) + 1)
theorem takes_le (x : Nat × Int) (h : x.1 ≤ 15) : 0 ≤ takesX x ∧ takesX x ≤ 2 ∧ 0 ≤ addsF x.1 ∧ addsF x.1 ≤ 1 := by
  have := eff_bounds x.1 h
  unfold takesX
  split <;> omega
structure SInv (code : List (Nat × Int)) (ds : List Int) (rt : List Nat) : Prop where
  len : ds.length = code.length + 1
  pos : ∀ (j : Nat) (v : Int), ds[j]? = some v → 0 ≤ v
  zero : ds[0]? = some 1
  done : ∀ j : Nat, j < code.length → j ∈ rt ∨ Closed code ds j
theorem Closed.keep {code : List (Nat × Int)} {ds ds' : List Int} {i : Nat} {d : Int} {rt rt' l : List Nat} (h : Closed code ds i) (hpos : ∀ (j : Nat) (v : Int), ds[j]? = some v → 0 ≤ v)
    (h2 : ∀ (j : Nat) (v : Int), ds[j]? = some v → v ≠ 0 → ds'[j]? = some v) (hi : i ∉ rt') (h4 : ∀ (j : Nat) (v : Int), ds'[j]? = some v → v ≠ 0 → ds[j]? = some v ∨ (j ∈ rt' ∧ v = d)) (hb : ∀ x, x ∈ code → x.1 ≤ 15) : Closed code ds' i := by
  intro v hv hz
  rcases h4 i v hv hz with h' | h'
  · obtain ⟨x, hx, ht, h64, hn⟩ := h v h' hz
    have hxb := takes_le x (hb x (List.mem_of_getElem? hx))
    refine ⟨x, hx, ht, h64, fun t hm => h2 t _ (hn t hm) ?_⟩
    omega
  · exact absurd h'.1 hi
theorem sound_inv (code : List (Nat × Int)) (hb : ∀ x, x ∈ code → x.1 ≤ 15) : ∀ (f : Nat) (ds : List Int) (rt : List Nat), SInv code ds rt → soundL code f (ds, rt) = some true →
    ∃ ds', ds'.length = code.length + 1 ∧ (∀ (j : Nat) (v : Int), ds'[j]? = some v → 0 ≤ v) ∧ ds'[0]? = some 1 ∧ ∀ j : Nat, j < code.length → Closed code ds' j := by
  intro f
  induction f with
  | zero => intro ds rt _ h; cases h
  | succ f ih =>
    intro ds rt I h
    rcases rt with _ | ⟨i, rt⟩
    · exact ⟨ds, I.len, I.pos, I.zero, fun j hj => (I.done j hj).resolve_left (by simp)⟩
    rw [soundL] at h
    by_cases hi : i = code.length
    · rw [if_pos hi] at h
      refine ih ds rt ⟨I.len, I.pos, I.zero, fun j hj => ?_⟩ h
      rcases I.done j hj with h | h
      · rcases List.mem_cons.1 h with rfl | h
        · omega
        · exact Or.inl h
      · exact Or.inr h
    rw [if_neg hi] at h
    rcases hx : code[i]? with _ | x
    · rw [hx] at h; cases h
    rcases hv : ds[i]? with _ | v
    · rw [hx, hv] at h; cases h
    rw [hx, hv] at h
    simp only at h
    by_cases h1 : v - 1 < takesX x
    · rw [if_pos h1] at h; cases h
    rw [if_neg h1] at h
    by_cases h2 : 64 < v - 1 + (addsF x.1 - takesX x)
    · rw [if_pos h2] at h; cases h
    rw [if_neg h2] at h
    have hxb := takes_le x (hb x (List.mem_of_getElem? hx))
    obtain ⟨d, ed⟩ : ∃ d, d = v - 1 + (addsF x.1 - takesX x) + 1 := ⟨_, rfl⟩
    rw [← ed] at h
    have hd : d ≠ 0 := by omega
    rcases hw : visit d (nextN x i) (ds, rt) with _ | ⟨ds', rt'⟩
    · rw [hw] at h; cases h
    rw [hw] at h
    simp only at h
    obtain ⟨k1, k2, k3, k4, k5, k6⟩ := visit_keeps d hd _ _ _ _ _ hw
    refine ih ds' rt' ⟨by rw [k1, I.len], fun j u hj => ?_, k2 _ _ I.zero (by omega), fun j hj => ?_⟩ h
    · by_cases hu : u = 0
      · omega
      · rcases k4 j u hj hu with h | ⟨-, rfl⟩
        · exact I.pos j u h
        · omega
    · by_cases hm : j ∈ rt'
      · exact Or.inl hm
      right
      by_cases hji : j = i
      · subst hji
        intro u hu hz
        rcases k4 _ u hu hz with h' | h'
        · rw [hv] at h'
          injection h' with h'
          subst h'
          exact ⟨x, hx, by omega, by omega, fun t ht => by rw [k3 t ht, ed]⟩
        · exact absurd h'.1 hm
      · rcases I.done j hj with h' | h'
        · rcases List.mem_cons.1 h' with e | h'
          · exact absurd e hji
          · exact absurd (k5 j h') hm
        · exact h'.keep (rt := rt) (l := []) I.pos k2 hm k4 hb
structure Depths (L : Int) (code : List (Nat × Int)) (ds : List Int) : Prop where
  len : ds.length = code.length + 1
  pos : ∀ (j : Nat) (v : Int), ds[j]? = some v → 0 ≤ v
  zero : ds[0]? = some 1
  closed : ∀ j : Nat, j < code.length → Closed code ds j
  l0 : 0 ≤ L
  l1 : L ≤ 32
  right : ∀ x, x ∈ code → rightF L.toNat code.length x = true
theorem sound_means {L R Wr : Int} {code : List (Nat × Int)} (h : soundF L R Wr code = some true) : (∃ ds, Depths L code ds) ∧ maskOf (kindsOf 4 code) = R ∧ maskOf (kindsOf 5 code) = Wr := by
  unfold soundF at h
  by_cases h1 : L < 0 ∨ 32 < L
  · rw [if_pos h1] at h; cases h
  rw [if_neg h1] at h
  by_cases h2 : code.all (rightF L.toNat code.length) = false
  · rw [if_pos h2] at h; cases h
  rw [if_neg h2] at h
  by_cases h3 : maskOf (kindsOf 4 code) ≠ R
  · rw [if_pos h3] at h; cases h
  rw [if_neg h3] at h
  by_cases h4 : maskOf (kindsOf 5 code) ≠ Wr
  · rw [if_pos h4] at h; cases h
  rw [if_neg h4] at h
  have hall : ∀ x, x ∈ code → rightF L.toNat code.length x = true := by
    have : code.all (rightF L.toNat code.length) = true := by simpa using h2
    exact fun x hx => (List.all_eq_true.1 this) x hx
  have hb : ∀ x, x ∈ code → x.1 ≤ 15 := fun x hx => (right_op (o := x.1) (a := x.2) (hall x hx)).2
  have I0 : SInv code (1 :: List.replicate code.length 0) [0] := by
    refine ⟨by simp, fun j v hj => ?_, rfl, fun j hj => ?_⟩
    · rcases j with _ | j
      · simp at hj; omega
      · simp [List.getElem?_replicate] at hj; omega
    · rcases j with _ | j
      · left; simp
      · right
        intro v hv hz
        simp [List.getElem?_replicate] at hv
        omega
  obtain ⟨ds, d1, d2, d3, d4⟩ := sound_inv code hb _ _ _ I0 h
  exact ⟨⟨ds, d1, d2, d3, d4, by omega, by omega, hall⟩, by simpa using h3, by simpa using h4⟩
def zerosN (ds : List Int) : Nat := (ds.filter (· == 0)).length
theorem zerosN_set {d : Int} (hd : d ≠ 0) : ∀ (ds : List Int) (t : Nat), ds[t]? = some 0 → zerosN (ds.set t d) + 1 = zerosN ds := by
  intro ds
  induction ds with
  | nil => intro t h; simp at h
  | cons v ds ih =>
    intro t h
    rcases t with _ | t
    · simp at h
      subst h
      simp [zerosN, hd]
    · have := ih t (by simpa using h)
      by_cases hv : v = 0
      · simp [zerosN, hv] at this ⊢; omega
      · simp [zerosN, hv] at this ⊢; omega
theorem visit_zeros (d : Int) (hd : d ≠ 0) : ∀ (l : List Nat) (ds : List Int) (rt : List Nat) (s : List Int × List Nat), visit d l (ds, rt) = some s → zerosN s.1 + s.2.length = zerosN ds + rt.length := by
  intro l
  induction l with
  | nil =>
    intro ds rt s h
    rw [visit] at h
    injection h with h
    subst h; rfl
  | cons t l ih =>
    intro ds rt s h
    rw [visit] at h
    rcases hv : ds[t]? with _ | v
    · rw [hv] at h; cases h
    rw [hv] at h
    simp only at h
    by_cases hz : v = 0
    · rw [if_pos hz] at h
      subst hz
      rw [ih _ _ _ h]
      have := zerosN_set hd ds t hv
      simp; omega
    · rw [if_neg hz] at h
      by_cases he : v = d
      · rw [if_pos he] at h; exact ih _ _ _ h
      · rw [if_neg he] at h; cases h
theorem sound_ends (L : Nat) (code : List (Nat × Int)) (hr : ∀ x, x ∈ code → rightF L code.length x = true) : ∀ (f : Nat) (ds : List Int) (rt : List Nat), ds.length = code.length + 1 → (∀ (j : Nat) (v : Int), ds[j]? = some v → 0 ≤ v) → (∀ j : Nat, j ∈ rt → j ≤ code.length) →
    zerosN ds + rt.length < f → ∃ b, soundL code f (ds, rt) = some b := by
  intro f
  induction f with
  | zero => intro ds rt _ _ _ h; omega
  | succ f ih =>
    intro ds rt hl hpos hj hf
    rcases rt with _ | ⟨i, rt⟩
    · rw [soundL]
      rw [List.getElem?_eq_getElem (by omega)]
      exact ⟨_, rfl⟩
    rw [soundL]
    have hil := hj i (List.mem_cons_self ..)
    have hj' : ∀ j : Nat, j ∈ rt → j ≤ code.length := fun j h => hj j (List.mem_cons_of_mem _ h)
    by_cases hi : i = code.length
    · rw [if_pos hi]
      exact ih ds rt hl hpos hj' (by simp at hf; omega)
    rw [if_neg hi]
    have hx : code[i]? = some (code[i]'(by omega)) := List.getElem?_eq_getElem (by omega)
    have hv : ds[i]? = some (ds[i]'(by omega)) := List.getElem?_eq_getElem (by omega)
    obtain ⟨x, ex⟩ : ∃ x, x = code[i]'(by omega) := ⟨_, rfl⟩
    obtain ⟨v, ev⟩ : ∃ v, v = ds[i]'(by omega) := ⟨_, rfl⟩
    rw [← ex] at hx
    rw [← ev] at hv
    rw [hx, hv]
    simp only
    have hxr := hr x (List.mem_of_getElem? hx)
    by_cases h1 : v - 1 < takesX x
    · rw [if_pos h1]; exact ⟨_, rfl⟩
    rw [if_neg h1]
    by_cases h2 : 64 < v - 1 + (addsF x.1 - takesX x)
    · rw [if_pos h2]; exact ⟨_, rfl⟩
    rw [if_neg h2]
    have hxb := takes_le x (right_op (o := x.1) (a := x.2) hxr).2
    obtain ⟨d, ed⟩ : ∃ d, d = v - 1 + (addsF x.1 - takesX x) + 1 := ⟨_, rfl⟩
    rw [← ed]
    have hd : d ≠ 0 := by omega
    rcases hw : visit d (nextN x i) (ds, rt) with _ | ⟨ds', rt'⟩
    · exact ⟨_, rfl⟩
    simp only
    obtain ⟨k1, k2, k3, k4, k5, k6⟩ := visit_keeps d hd _ _ _ _ _ hw
    have kz := visit_zeros d hd _ _ _ _ hw
    refine ih ds' rt' (by rw [k1, hl]) (fun j u hju => ?_) (fun j hm => ?_) (by simp at hf kz; omega)
    · by_cases hu : u = 0
      · omega
      · rcases k4 j u hju hu with h | ⟨-, rfl⟩
        · exact hpos j u h
        · omega
    · rcases k6 j hm with h | h
      · exact hj' j h
      · unfold nextN at h
        rw [List.mem_map] at h
        obtain ⟨u, hu, rfl⟩ := h
        have := next_le (o := x.1) (a := x.2) hxr (show i < code.length by omega) u hu
        omega
theorem sound_total (L R Wr : Int) (code : List (Nat × Int)) : ∃ b, soundF L R Wr code = some b := by
  unfold soundF
  by_cases h1 : L < 0 ∨ 32 < L
  · rw [if_pos h1]; exact ⟨_, rfl⟩
  rw [if_neg h1]
  by_cases h2 : code.all (rightF L.toNat code.length) = false
  · rw [if_pos h2]; exact ⟨_, rfl⟩
  rw [if_neg h2]
  by_cases h3 : maskOf (kindsOf 4 code) ≠ R
  · rw [if_pos h3]; exact ⟨_, rfl⟩
  rw [if_neg h3]
  by_cases h4 : maskOf (kindsOf 5 code) ≠ Wr
  · rw [if_pos h4]; exact ⟨_, rfl⟩
  rw [if_neg h4]
  have hall : ∀ x, x ∈ code → rightF L.toNat code.length x = true := by
    have : code.all (rightF L.toNat code.length) = true := by simpa using h2
    exact fun x hx => (List.all_eq_true.1 this) x hx
  refine sound_ends L.toNat code hall _ _ _ (by simp) (fun j v hj => ?_) (fun j hj => by simp at hj; omega) ?_
  · rcases j with _ | j
    · simp at hj; omega
    · simp [List.getElem?_replicate] at hj; omega
  · have : zerosN (1 :: List.replicate code.length 0) ≤ code.length := by
      unfold zerosN
      rw [List.filter_cons_of_neg (by decide)]
      exact Nat.le_trans (List.length_filter_le _ _) (by simp)
    simp; omega
end
end Go.Proofs.YtocbddajakbemaaGreat
namespace Go.Proofs.YtocbddajakbemaaGreat
section
open Go.RowKit
theorem ev_one {a : Nat} (h : 7 ≤ a) (h2 : a < 10) : evE a 0 = 0 := by
  rcases (show a = 7 ∨ a = 8 ∨ a = 9 by omega) with rfl | rfl | rfl <;> decide
theorem deed_sound (S : Fix) (L n o i : Nat) (a : Int) (hr : rightF L n (o, a) = true) (hcn : S.cn = n) (σ : Mst) (hi : σ.at_ = (i : Int) + 1) (hls : σ.ls.length = L) (hrs : takesX (o, a) ≤ (σ.rs.length : Int)) (hlen : σ.rs.length ≤ 64) :
    ∃ r, deedF S o a σ = some r ∧ ∀ σ', r = .ok σ' → σ'.ls.length = L ∧ (σ'.at_ = (n : Int) ∨ ((∃ t : Nat, t ∈ nextN (o, a) i ∧ σ'.at_ = (t : Int)) ∧ (σ'.rs.length : Int) = σ.rs.length + (addsF o - takesX (o, a)))) := by
  obtain ⟨at_, drawn, rs, ls, cs⟩ := σ
  simp only at hi hls hrs hlen
  have hob := right_op hr
  unfold deedF
  simp only
  rw [if_neg (by omega)]
  rcases (show o = 1 ∨ o = 2 ∨ o = 3 ∨ o = 4 ∨ o = 5 ∨ o = 6 ∨ o = 7 ∨ o = 8 ∨ o = 9 ∨ o = 10 ∨ o = 11 ∨ o = 12 ∨ o = 13 ∨ o = 14 ∨ o = 15 from by omega) with rfl | rfl | rfl | rfl | rfl | rfl | rfl | rfl | rfl | rfl | rfl | rfl | rfl | rfl | rfl
  · refine ⟨_, rfl, ?_⟩
    rintro σ' ⟨⟩
    exact ⟨hls, Or.inr ⟨⟨i + 1, by simp [nextN, nextF], by simpa using hi⟩, by simp [addsF, takesX, takesF, effI] <;> omega⟩⟩
  · have h2 : 0 ≤ a ∧ a ≤ (L : Int) - 1 := by simpa [rightF] using hr
    simp only
    rw [if_neg (by omega), List.getElem?_eq_getElem (show a.toNat < ls.length by omega)]
    refine ⟨_, rfl, ?_⟩
    rintro σ' ⟨⟩
    exact ⟨hls, Or.inr ⟨⟨i + 1, by simp [nextN, nextF], by simpa using hi⟩, by simp [addsF, takesX, takesF, effI] <;> omega⟩⟩
  · have h2 : 0 ≤ a ∧ a ≤ (L : Int) - 1 := by simpa [rightF] using hr
    have ht : takesX (3, a) = 1 := by simp [takesX, takesF, effI]
    rcases rs with _ | ⟨x, rs⟩
    · simp at hrs; omega
    simp only
    rw [if_neg (by omega), if_pos (show a.toNat < ls.length by omega)]
    refine ⟨_, rfl, ?_⟩
    rintro σ' ⟨⟩
    exact ⟨by simpa using hls, Or.inr ⟨⟨i + 1, by simp [nextN, nextF], by simpa using hi⟩, by simp [addsF, takesX, takesF, effI] <;> omega⟩⟩
  · have ht : takesX (4, a) = 1 := by simp [takesX, takesF, effI]
    rcases rs with _ | ⟨x, rs⟩
    · simp at hrs; omega
    simp only
    rcases hc : cs[idxC cs a]? with _ | c
    · exact ⟨_, rfl, fun σ' h => by cases h⟩
    · simp only
      by_cases hx : x < 0 ∨ 3 < x
      · rw [if_pos hx]; exact ⟨_, rfl, fun σ' h => by cases h⟩
      rw [if_neg hx]
      refine ⟨_, rfl, ?_⟩
      rintro σ' ⟨⟩
      exact ⟨hls, Or.inr ⟨⟨i + 1, by simp [nextN, nextF], by simpa using hi⟩, by simp [addsF, takesX, takesF, effI] <;> omega⟩⟩
  · have ht : takesX (5, a) = 2 := by simp [takesX, takesF, effI]
    rcases rs with _ | ⟨v, _ | ⟨x, rs⟩⟩
    · simp at hrs; omega
    · simp at hrs; omega
    simp only
    rcases hc : cs[idxC cs a]? with _ | c
    · exact ⟨_, rfl, fun σ' h => by cases h⟩
    · simp only
      by_cases hx : x < 0 ∨ 3 < x
      · rw [if_pos hx]; exact ⟨_, rfl, fun σ' h => by cases h⟩
      rw [if_neg hx]
      refine ⟨_, rfl, ?_⟩
      rintro σ' ⟨⟩
      exact ⟨hls, Or.inr ⟨⟨i + 1, by simp [nextN, nextF], by simpa using hi⟩, by simp [addsF, takesX, takesF, effI] <;> omega⟩⟩
  · refine ⟨_, rfl, ?_⟩
    rintro σ' ⟨⟩
    exact ⟨hls, Or.inr ⟨⟨i + 1, by simp [nextN, nextF], by simpa using hi⟩, by simp [addsF, takesX, takesF, effI] <;> omega⟩⟩
  · refine ⟨_, rfl, ?_⟩
    rintro σ' ⟨⟩
    exact ⟨hls, Or.inr ⟨⟨i + 1, by simp [nextN, nextF], by simpa using hi⟩, by simp [addsF, takesX, takesF, effI] <;> omega⟩⟩
  · have ht : takesX (8, a) = 1 := by simp [takesX, takesF, effI]
    rcases rs with _ | ⟨x, rs⟩
    · simp at hrs; omega
    simp only
    by_cases hx : x < 1 ∨ 2147483648 < x
    · rw [if_pos hx]; exact ⟨_, rfl, fun σ' h => by cases h⟩
    rw [if_neg hx]
    refine ⟨_, rfl, ?_⟩
    rintro σ' ⟨⟩
    exact ⟨hls, Or.inr ⟨⟨i + 1, by simp [nextN, nextF], by simpa using hi⟩, by simp [addsF, takesX, takesF, effI] <;> omega⟩⟩
  · have h2 : (7 ≤ a ∧ a ≤ 20) ∨ (23 ≤ a ∧ a ≤ 24) := by simpa [rightF] using hr
    simp only
    rw [if_neg (show ¬ (a < 0 ∨ 255 < a) by omega)]
    by_cases h10 : a < 10
    · rw [if_pos h10]
      have ht : takesX (9, a) = 1 := by simp [takesX, takesF, effI]; omega
      rcases rs with _ | ⟨x, rs⟩
      · simp at hrs; omega
      simp only
      rw [if_pos (ev_one (by omega) (by omega))]
      refine ⟨_, rfl, ?_⟩
      rintro σ' ⟨⟩
      exact ⟨hls, Or.inr ⟨⟨i + 1, by simp [nextN, nextF], by simpa using hi⟩, by rw [ht]; simp [addsF, effI]⟩⟩
    · rw [if_neg h10]
      have ht : takesX (9, a) = 2 := by simp [takesX]; omega
      rcases rs with _ | ⟨y, _ | ⟨x, rs⟩⟩
      · simp at hrs; omega
      · simp at hrs; omega
      simp only
      by_cases he : evE a.toNat y = 0
      · rw [if_pos he]
        refine ⟨_, rfl, ?_⟩
        rintro σ' ⟨⟩
        exact ⟨hls, Or.inr ⟨⟨i + 1, by simp [nextN, nextF], by simpa using hi⟩, by rw [ht]; simp [addsF, effI]; omega⟩⟩
      · rw [if_neg he]; exact ⟨_, rfl, fun σ' h => by cases h⟩
  · have ht : takesX (10, a) = 1 := by simp [takesX, takesF, effI]
    rcases rs with _ | ⟨x, rs⟩
    · simp at hrs; omega
    refine ⟨_, rfl, ?_⟩
    rintro σ' ⟨⟩
    exact ⟨hls, Or.inr ⟨⟨i + 1, by simp [nextN, nextF], by simpa using hi⟩, by simp [addsF, takesX, takesF, effI] <;> omega⟩⟩
  · have h2 : 0 ≤ a ∧ a ≤ (n : Int) := by simpa [rightF] using hr
    refine ⟨_, rfl, ?_⟩
    rintro σ' ⟨⟩
    exact ⟨hls, Or.inr ⟨⟨a.toNat, by simp [nextN, nextF], by simp; omega⟩, by simp [addsF, takesX, takesF, effI] <;> omega⟩⟩
  · have h2 : 0 ≤ a ∧ a ≤ (n : Int) := by simpa [rightF] using hr
    have ht : takesX (12, a) = 1 := by simp [takesX, takesF, effI]
    rcases rs with _ | ⟨x, rs⟩
    · simp at hrs; omega
    refine ⟨_, rfl, ?_⟩
    rintro σ' ⟨⟩
    refine ⟨hls, Or.inr ⟨?_, by simp [addsF, takesX, takesF, effI] <;> omega⟩⟩
    by_cases hx : x = 0
    · exact ⟨a.toNat, by simp [nextN, nextF], by simp [hx]; omega⟩
    · exact ⟨i + 1, by simp [nextN, nextF], by simpa [hx] using hi⟩
  · have h2 : 0 ≤ a ∧ a ≤ (n : Int) := by simpa [rightF] using hr
    have ht : takesX (13, a) = 1 := by simp [takesX, takesF, effI]
    rcases rs with _ | ⟨x, rs⟩
    · simp at hrs; omega
    refine ⟨_, rfl, ?_⟩
    rintro σ' ⟨⟩
    refine ⟨hls, Or.inr ⟨?_, by simp [addsF, takesX, takesF, effI] <;> omega⟩⟩
    by_cases hx : x = 0
    · exact ⟨i + 1, by simp [nextN, nextF], by simpa [hx] using hi⟩
    · exact ⟨a.toNat, by simp [nextN, nextF], by simp [hx]; omega⟩
  · refine ⟨_, rfl, ?_⟩
    rintro σ' ⟨⟩
    exact ⟨hls, Or.inl (by simp [hcn])⟩
  · exact ⟨_, rfl, fun σ' h => by cases h⟩
def MInv (L : Int) (code : List (Nat × Int)) (ds : List Int) (σ : Mst) : Prop :=
  (σ.ls.length : Int) = L ∧ (σ.at_ = (code.length : Int) ∨ ∃ i v, i < code.length ∧ σ.at_ = ((i : Nat) : Int) ∧ ds[i]? = some v ∧ v ≠ 0 ∧ (σ.rs.length : Int) = v - 1 ∧ σ.rs.length ≤ 64)
theorem inv_start {L : Int} {code : List (Nat × Int)} {ds : List Int} (hd : Depths L code ds) (cs : List Cmp) : MInv L code ds ⟨0, 0, [], List.replicate L.toNat 0, cs⟩ := by
  refine ⟨by have := hd.l0; simp; omega, ?_⟩
  by_cases h : code.length = 0
  · exact Or.inl (by simp [h])
  · exact Or.inr ⟨0, 1, by omega, rfl, hd.zero, by decide, rfl, by simp⟩
theorem inv_step {S : Fix} {L : Int} {code : List (Nat × Int)} {ds : List Int} (hd : Depths L code ds) (hcn : S.cn = code.length) {σ : Mst} (I : MInv L code ds σ) (hlt : ¬ (code.length : Int) ≤ σ.at_) :
    ∃ x r, code[σ.at_.toNat]? = some x ∧ 0 ≤ σ.at_ ∧ deedF S x.1 x.2 { σ with at_ := σ.at_ + 1 } = some r ∧ ∀ σ', r = .ok σ' → MInv L code ds σ' := by
  obtain ⟨hls, hat⟩ := I
  rcases hat with hat | ⟨i, v, hi, hat, hv, hz, hrs, hr64⟩
  · omega
  obtain ⟨⟨o, a⟩, hx, ht, h64, hn⟩ := hd.closed i hi v hv hz
  have hr := hd.right _ (List.mem_of_getElem? hx)
  have hxb := takes_le (o, a) (right_op hr).2
  have h0 := hd.l0
  obtain ⟨r, h1, h2⟩ := deed_sound S L.toNat code.length o i a hr hcn { σ with at_ := σ.at_ + 1 } (by simp [hat]) (by simp; omega) (by simp only; omega) (by simp only; omega)
  refine ⟨(o, a), r, by rw [hat, Int.toNat_natCast]; exact hx, by omega, h1, fun σ' e => ?_⟩
  obtain ⟨k1, k2⟩ := h2 σ' e
  refine ⟨by rw [k1]; exact Int.toNat_of_nonneg h0, ?_⟩
  rcases k2 with k2 | ⟨⟨t, ht', k3⟩, k4⟩
  · exact Or.inl k2
  · have hdt := hn t ht'
    have htl := (List.getElem?_eq_some_iff.1 hdt).1
    rw [hd.len] at htl
    by_cases hte : t = code.length
    · exact Or.inl (by rw [k3, hte])
    · simp only at k4 h64 hxb
      exact Or.inr ⟨t, _, by omega, k3, hdt, by simp only; omega, by simp only; omega, by omega⟩
theorem run_total (S : Fix) {L : Int} {code : List (Nat × Int)} {ds : List Int} (hd : Depths L code ds) (hcn : S.cn = code.length) : ∀ (f : Nat) (σ : Mst), MInv L code ds σ → ∃ r, runF S code f σ = some r := by
  intro f
  induction f with
  | zero =>
    intro σ I
    rw [runF.eq_def]
    simp only
    have h0 : ¬ σ.at_ < 0 := by rcases I.2 with h | ⟨i, v, _, h, _⟩ <;> omega
    rw [if_neg h0]
    split <;> exact ⟨_, rfl⟩
  | succ f ih =>
    intro σ I
    rw [runF.eq_def]
    simp only
    have h0 : ¬ σ.at_ < 0 := by rcases I.2 with h | ⟨i, v, _, h, _⟩ <;> omega
    rw [if_neg h0]
    by_cases hlt : (code.length : Int) ≤ σ.at_
    · rw [if_pos hlt]; exact ⟨_, rfl⟩
    rw [if_neg hlt]
    obtain ⟨x, r, hx, -, hr, hk⟩ := inv_step hd hcn I hlt
    rw [hx]
    simp only
    rw [hr]
    rcases r with n | σ'
    · exact ⟨_, rfl⟩
    · exact ih σ' (hk σ' rfl)
theorem run_start (S : Fix) {L : Int} {code : List (Nat × Int)} {ds : List Int} (hd : Depths L code ds) (hcn : S.cn = code.length) (f : Nat) (cs : List Cmp) : ∃ r, runF S code f ⟨0, 0, [], List.replicate L.toNat 0, cs⟩ = some r :=
  run_total S hd hcn f _ (inv_start hd cs)
def endN : Except (Nat × Nat) (Nat × Mst) → Nat
  | .ok _ => 0
  | .error (n, _) => n
def endF : Except (Nat × Nat) (Nat × Mst) → Nat
  | .ok (f, _) => f
  | .error (_, f) => f
def endC (cs : List Cmp) : Except (Nat × Nat) (Nat × Mst) → List Cmp
  | .ok (_, σ) => σ.cs
  | .error _ => cs
end
end Go.Proofs.YtocbddajakbemaaGreat
