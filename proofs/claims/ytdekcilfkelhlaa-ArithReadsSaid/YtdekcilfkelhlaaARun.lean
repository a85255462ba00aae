/- Runs of symbols; ints as symbols. -/
import Derived.Test.YtdekcilfkelhlaaATheo
set_option linter.unusedVariables false
namespace Go.Proofs.Ytdekcilfkelhlaa
open M (blen zig zag)

abbrev Op := Nat × Nat
abbrev Bun := Nat → List Nat
def upd (fr : Bun) (j : Nat) (l : List Nat) : Bun := fun i => if i = j then l else fr i
theorem upd_at (fr : Bun) (j : Nat) (l : List Nat) : upd fr j l j = l := if_pos rfl
theorem upd_far {fr : Bun} {i j : Nat} {l : List Nat} (h : i ≠ j) : upd fr j l i = fr i := if_neg h
/-- A symbol is coded; the model learns. -/
def step (bit : Nat → Nat) (c : St × Bun) (o : Op) : St × Bun := (codeSt bit (c.2 o.1) o.2 c.1, upd c.2 o.1 (learn (c.2 o.1) o.2))
def steps (bit : Nat → Nat) (c : St × Bun) (l : List Op) : St × Bun := l.foldl (step bit) c
structure Shape (sz : Nat → Nat) (fr : Bun) : Prop where
  fine : ∀ j, Fine (fr j)
  len : ∀ j, (fr j).length = sz j
def Fit (sz : Nat → Nat) (o : Op) : Prop := o.2 < sz o.1
theorem Shape.learn {sz : Nat → Nat} {fr : Bun} (h : Shape sz fr) {j i : Nat} (hi : i < sz j) : Shape sz (upd fr j (learn (fr j) i)) := by
  refine ⟨fun q => ?_, fun q => ?_⟩
  · by_cases e : q = j
    · subst e; rw [upd_at]; exact (h.fine q).learn (by rw [h.len]; exact hi)
    · rw [upd_far e]; exact h.fine q
  · by_cases e : q = j
    · subst e; rw [upd_at, learn_length]; exact h.len q
    · rw [upd_far e]; exact h.len q
structure Ok (sz : Nat → Nat) (c : St × Bun) : Prop where
  live : Live c.1
  shape : Shape sz c.2
section
variable {sz : Nat → Nat} {bit b : Nat → Nat}
theorem Ok.step {c : St × Bun} {o : Op} (h : Ok sz c) (ho : Fit sz o) : Ok sz (step bit c o) ∧ (step bit c o).1.cnt = c.1.cnt + 1 := by
  obtain ⟨h1, h2⟩ := code_live (bit := bit) h.live (h.shape.fine o.1).one (h.shape.fine o.1).tot (i := o.2) (by rw [h.shape.len]; exact ho)
  exact ⟨⟨h1, h.shape.learn ho⟩, h2⟩
theorem Ok.steps {l : List Op} : ∀ {c : St × Bun}, Ok sz c → (∀ o, o ∈ l → Fit sz o) → Ok sz (steps bit c l) ∧ (steps bit c l).1.cnt = c.1.cnt + l.length := by
  induction l with
  | nil => intro c h _; exact ⟨h, rfl⟩
  | cons o l ih =>
    intro c h hl
    obtain ⟨h1, h2⟩ := h.step (bit := bit) (hl o (by simp))
    obtain ⟨h3, h4⟩ := ih h1 (fun q hq => hl q (by simp [hq]))
    refine ⟨h3, ?_⟩
    have e : Proofs.Ytdekcilfkelhlaa.steps bit c (o :: l) = Proofs.Ytdekcilfkelhlaa.steps bit (Proofs.Ytdekcilfkelhlaa.step bit c o) l := rfl
    rw [e, h4, h2, List.length_cons]
    omega
theorem steps_append (c : St × Bun) (l m : List Op) : steps bit c (l ++ m) = steps bit (steps bit c l) m := List.foldl_append
theorem inside_steps (hb : ∀ a, bit a ≤ 1) (l : List Op) : ∀ c, Ok sz c → (∀ o, o ∈ l → Fit sz o) → Inside bit (steps b c l).1 → Inside bit c.1 := by
  induction l with
  | nil => intro c _ _ h; exact h
  | cons o l ih =>
    intro c h hl hi
    have ho := hl o (by simp)
    have h2 := ih _ (h.step (bit := b) ho).1 (fun q hq => hl q (by simp [hq])) hi
    exact inside_narrow h.live (h.shape.fine _) (by rw [h.shape.len]; exact ho) ((inside_code (b := b) hb h.live (h.shape.fine _) (by rw [h.shape.len]; exact ho)).1 h2)
/-- A decoder finds these symbols. -/
def Reads (bit : Nat → Nat) : St × Bun → List Op → Prop
  | _, [] => True
  | c, o :: l => decSym (c.2 o.1) c.1 = o.2 ∧ Reads bit (step bit c o) l
theorem reads_append (l m : List Op) : ∀ c, Reads bit c (l ++ m) ↔ Reads bit c l ∧ Reads bit (steps bit c l) m := by
  induction l with
  | nil => intro c; exact ⟨fun h => ⟨trivial, h⟩, fun h => h.2⟩
  | cons o l ih =>
    intro c
    have := ih (step bit c o)
    exact ⟨fun h => ⟨⟨h.1, (this.1 h.2).1⟩, (this.1 h.2).2⟩, fun h => ⟨h.1.1, this.2 ⟨h.1.2, h.2⟩⟩⟩
/-- A state of a decoder. -/
structure DOk (bit : Nat → Nat) (sz : Nat → Nat) (c : St × Bun) : Prop where
  ok : Ok sz c
  num : Num bit c.1
  iv : InIv c.1
theorem DOk.step (hb : ∀ a, bit a ≤ 1) {c : St × Bun} {o : Op} (h : DOk bit sz c) (hr : decSym (c.2 o.1) c.1 = o.2) : DOk bit sz (step bit c o) ∧ Fit sz o := by
  obtain ⟨h1, h2, h3⟩ := iv_code hb h.ok.live h.iv (h.ok.shape.fine o.1)
  rw [hr] at h1 h2 h3
  have hf : Fit sz o := by rw [h.ok.shape.len] at h2; exact h2
  exact ⟨⟨(h.ok.step hf).1, (code_num hb h.ok.live (h.ok.shape.fine o.1) h2 h3).2 h.num, h1⟩, hf⟩
theorem DOk.steps (hb : ∀ a, bit a ≤ 1) (l : List Op) : ∀ c, DOk bit sz c → Reads bit c l → DOk bit sz (steps bit c l) ∧ (∀ o, o ∈ l → Fit sz o) := by
  induction l with
  | nil => intro c h _; exact ⟨h, fun o ho => absurd ho (by simp)⟩
  | cons o l ih =>
    intro c h hr
    obtain ⟨h1, h2⟩ := h.step hb hr.1
    obtain ⟨h3, h4⟩ := ih _ h1 hr.2
    refine ⟨h3, fun q hq => ?_⟩
    rcases List.mem_cons.1 hq with rfl | hq
    · exact h2
    · exact h4 q hq
theorem reads_of_inside (hb : ∀ a, bit a ≤ 1) (l : List Op) : ∀ c, Ok sz c → Num bit c.1 → (∀ o, o ∈ l → Fit sz o) → Inside bit (steps bit c l).1 → DOk bit sz c ∧ Reads bit c l := by
  induction l with
  | nil => intro c h hn _ hi; exact ⟨⟨h, hn, hn.iv.2 hi⟩, trivial⟩
  | cons o l ih =>
    intro c h hn hl hi
    have ho := hl o (by simp)
    have hlen : o.2 < (c.2 o.1).length := by rw [h.shape.len]; exact ho
    have h2 := inside_steps (b := bit) hb l _ (h.step (bit := bit) ho).1 (fun q hq => hl q (by simp [hq])) hi
    have h3 := (inside_code (b := bit) hb h.live (h.shape.fine _) hlen).1 h2
    have h4 : InIv (narrow (c.2 o.1) o.2 c.1) := (hn.narrow _ _).iv.2 h3
    obtain ⟨_, h6⟩ := code_num hb h.live (h.shape.fine _) hlen h4
    obtain ⟨_, h8⟩ := ih _ (h.step (bit := bit) ho).1 (h6 hn) (fun q hq => hl q (by simp [hq])) hi
    exact ⟨⟨h, hn, hn.iv.2 (inside_narrow h.live (h.shape.fine _) hlen h3)⟩, decSym_eq h.live (h.shape.fine _) hlen h4, h8⟩
theorem core_steps (l : List Op) : ∀ c d : St × Bun, core c.1 = core d.1 → c.2 = d.2 → core (steps bit c l).1 = core (steps b d l).1 ∧ (steps bit c l).2 = (steps b d l).2 := by
  induction l with
  | nil => intro c d h1 h2; exact ⟨h1, h2⟩
  | cons o l ih =>
    intro c d h1 h2
    refine ih _ _ ?_ ?_
    · show core (codeSt bit (c.2 o.1) o.2 c.1) = core (codeSt b (d.2 o.1) o.2 d.1)
      rw [h2]
      exact core_code _ _ h1
    · show upd c.2 o.1 (learn (c.2 o.1) o.2) = upd d.2 o.1 (learn (d.2 o.1) o.2)
      rw [h2]

/-- The lower bits of a number of k bits as symbols; the models are b + 1 and b + 2. -/
def lowOps (b k z : Nat) : Nat → List Op
  | 0 => []
  | i + 1 => (if i + 2 = k then b + 1 else b + 2, z / 2 ^ i % 2) :: lowOps b k z i
/-- A number as symbols. -/
def zops (b z : Nat) : List Op := (b, blen z) :: lowOps b (blen z) z (blen z - 1)
theorem lowOps_length (b k z i : Nat) : (lowOps b k z i).length = i := by
  induction i with
  | zero => rfl
  | succ i ih => simp only [lowOps, List.length_cons, ih]
structure IntSz (sz : Nat → Nat) (b : Nat) : Prop where
  s0 : sz b = 65
  s1 : sz (b + 1) = 2
  s2 : sz (b + 2) = 2
theorem lowOps_fit {b : Nat} (h : IntSz sz b) (k z i : Nat) : ∀ o, o ∈ lowOps b k z i → Fit sz o := by
  induction i with
  | zero => intro o ho; exact absurd ho (by simp [lowOps])
  | succ i ih =>
    intro o ho
    rcases List.mem_cons.1 ho with rfl | ho
    · unfold Fit
      simp only []
      split
      · rw [h.s1]; omega
      · rw [h.s2]; omega
    · exact ih o ho
theorem zops_fit {b z : Nat} (h : IntSz sz b) (hz : z < 2 ^ 64) : (∀ o, o ∈ zops b z → Fit sz o) ∧ (zops b z).length ≤ 65 ∧ 1 ≤ (zops b z).length := by
  have hk := M.blen_le hz
  refine ⟨fun o ho => ?_, ?_, ?_⟩
  · rcases List.mem_cons.1 ho with rfl | ho
    · unfold Fit; rw [h.s0]; simp only []; omega
    · exact lowOps_fit h _ _ _ o ho
  · unfold zops; rw [List.length_cons, lowOps_length]; omega
  · unfold zops; rw [List.length_cons]; omega
theorem reads_low (hb : ∀ a, bit a ≤ 1) {q : Nat} (hs : IntSz sz q) (k i : Nat) : ∀ c zc, DOk bit sz c → ∃ z, z / 2 ^ i = zc ∧ Reads bit c (lowOps q k z i) := by
  induction i with
  | zero => intro c zc _; exact ⟨zc, by simp, trivial⟩
  | succ i ih =>
    intro c zc h
    obtain ⟨j, ej⟩ : ∃ j, j = if i + 2 = k then q + 1 else q + 2 := ⟨_, rfl⟩
    have hj : sz j = 2 := by rw [ej]; split; exact hs.s1; exact hs.s2
    obtain ⟨h1, h2⟩ := h.step hb (o := (j, decSym (c.2 j) c.1)) rfl
    have h3 : decSym (c.2 j) c.1 < 2 := by have : decSym (c.2 j) c.1 < sz j := h2; rw [hj] at this; exact this
    obtain ⟨z, e1, e2⟩ := ih _ (2 * zc + decSym (c.2 j) c.1) h1
    have e3 : z / 2 ^ i % 2 = decSym (c.2 j) c.1 := by rw [e1]; omega
    refine ⟨z, ?_, ?_⟩
    · rw [Nat.pow_succ, ← Nat.div_div_eq_div_mul, e1]; omega
    · unfold lowOps
      rw [← ej, e3]
      exact ⟨rfl, e2⟩
/-- A decoder finds some int. -/
theorem reads_int (hb : ∀ a, bit a ≤ 1) {q : Nat} (hs : IntSz sz q) {c : St × Bun} (h : DOk bit sz c) : ∃ z, z < 2 ^ 64 ∧ Reads bit c (zops q z) := by
  obtain ⟨k, ek⟩ : ∃ k, k = decSym (c.2 q) c.1 := ⟨_, rfl⟩
  obtain ⟨h1, h2⟩ := h.step hb (o := (q, k)) ek.symm
  have hk : k < 65 := by have : k < sz q := h2; rw [hs.s0] at this; exact this
  rcases Nat.eq_zero_or_pos k with h0 | h0
  · refine ⟨0, by decide, ?_⟩
    have : blen 0 = 0 := rfl
    unfold zops
    rw [this]
    exact ⟨by rw [← ek, h0], trivial⟩
  · obtain ⟨z, e1, e2⟩ := reads_low hb hs k (k - 1) _ 1 h1
    have hp := Nat.two_pow_pos (k - 1)
    have e4 : 2 ^ (k - 1) ≤ z ∧ z < 2 ^ k := by
      have e5 := Nat.div_add_mod z (2 ^ (k - 1))
      have e6 := Nat.mod_lt z hp
      rw [e1] at e5
      have : 2 ^ k = 2 ^ (k - 1) * 2 := by rw [← Nat.pow_succ]; congr 1; omega
      omega
    have e5 : blen z = k := by
      have := M.blen_eq (k := k - 1) e4.1 (by rw [show k - 1 + 1 = k from by omega]; exact e4.2)
      omega
    refine ⟨z, Nat.lt_of_lt_of_le e4.2 (Nat.pow_le_pow_right (by decide) (by omega)), ?_⟩
    unfold zops
    rw [e5]
    exact ⟨ek.symm, e2⟩
theorem low_unique {q k : Nat} (i : Nat) : ∀ c z y, Reads bit c (lowOps q k z i) → Reads bit c (lowOps q k y i) → z / 2 ^ i = y / 2 ^ i → z = y := by
  induction i with
  | zero => intro c z y _ _ h; simpa using h
  | succ i ih =>
    intro c z y h1 h2 h
    have e : z / 2 ^ i % 2 = y / 2 ^ i % 2 := h1.1.symm.trans h2.1
    refine ih _ z y h1.2 (by rw [e]; exact h2.2) ?_
    rw [Nat.pow_succ, ← Nat.div_div_eq_div_mul, ← Nat.div_div_eq_div_mul] at h
    omega
theorem top_bit {z : Nat} (h : 0 < z) : z / 2 ^ (blen z - 1) = 1 := by
  obtain ⟨h1, h2, h3⟩ := M.blen_bd h
  have : 2 ^ blen z = 2 * 2 ^ (blen z - 1) := by rw [Nat.mul_comm, ← Nat.pow_succ]; congr 1; omega
  rw [this] at h2
  rw [Nat.div_eq_iff (Nat.two_pow_pos _)]
  omega
theorem blen_pos {z : Nat} (h : blen z ≠ 0) : 0 < z := by
  rcases Nat.eq_zero_or_pos z with rfl | h0
  · exact absurd rfl h
  · exact h0
/-- It finds one int. -/
theorem int_unique {c : St × Bun} {q z y : Nat} (h1 : Reads bit c (zops q z)) (h2 : Reads bit c (zops q y)) : z = y := by
  have e : blen z = blen y := h1.1.symm.trans h2.1
  by_cases h0 : blen z = 0
  · have hz : z = 0 := by
      rcases Nat.eq_zero_or_pos z with h | h
      · exact h
      · have := (M.blen_bd h).2.2; omega
    have hy : y = 0 := by
      rcases Nat.eq_zero_or_pos y with h | h
      · exact h
      · have := (M.blen_bd h).2.2; omega
    rw [hz, hy]
  · have hz := blen_pos h0
    have hy := blen_pos (z := y) (by omega)
    have r1 := h1.2
    have r2 := h2.2
    rw [← e] at r2
    refine low_unique (blen z - 1) _ z y r1 r2 ?_
    rw [top_bit hz]
    have := top_bit hy
    rw [← e] at this
    rw [this]
end
end Go.Proofs.Ytdekcilfkelhlaa
