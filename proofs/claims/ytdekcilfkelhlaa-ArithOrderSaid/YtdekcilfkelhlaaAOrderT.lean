/- The order of codes. -/
import Derived.Test.YtdekcilfkelhlaaADecode
import Derived.Lib.Bytealg
set_option linter.unusedVariables false
namespace Go.Proofs.Ytdekcilfkelhlaa

theorem firstNum_inj {p q : Nat → Nat} (hp : ∀ a, p a ≤ 1) (hq : ∀ a, q a ≤ 1) (n : Nat) : firstNum p n = firstNum q n → ∀ i, i < n → p i = q i := by
  induction n with
  | zero => intro _ i hi; omega
  | succ n ih =>
    intro h i hi
    simp only [firstNum] at h
    have h1 := hp n
    have h2 := hq n
    have h3 : firstNum p n = firstNum q n := by omega
    rcases Nat.lt_or_ge i n with hl | hl
    · exact ih h3 i hl
    · obtain rfl : i = n := by omega
      omega
theorem first_diff {p q : Nat → Nat} (hp : ∀ a, p a ≤ 1) (hq : ∀ a, q a ≤ 1) (n : Nat) : firstNum p n < firstNum q n → ∃ k, k < n ∧ (∀ i, i < k → p i = q i) ∧ p k < q k := by
  induction n with
  | zero => intro h; simp [firstNum] at h
  | succ n ih =>
    intro h
    simp only [firstNum] at h
    have h1 := hp n
    have h2 := hq n
    by_cases hl : firstNum p n < firstNum q n
    · obtain ⟨k, hk, e1, e2⟩ := ih hl
      exact ⟨k, by omega, e1, e2⟩
    · have h3 : firstNum p n = firstNum q n := by omega
      exact ⟨n, by omega, firstNum_inj hp hq n h3, by omega⟩
theorem byte_eq {x y : Nat} (hx : x < 256) (hy : y < 256) (h : ∀ r, r < 8 → x / 2 ^ (7 - r) % 2 = y / 2 ^ (7 - r) % 2) : x = y := by
  have h0 := h 0 (by decide)
  have h1 := h 1 (by decide)
  have h2 := h 2 (by decide)
  have h3 := h 3 (by decide)
  have h4 := h 4 (by decide)
  have h5 := h 5 (by decide)
  have h6 := h 6 (by decide)
  have h7 := h 7 (by decide)
  simp at h0 h1 h2 h3 h4 h5 h6 h7
  omega
theorem byte_lt {x y r : Nat} (hx : x < 256) (hy : y < 256) (hr : r < 8) (h : ∀ q, q < r → x / 2 ^ (7 - q) % 2 = y / 2 ^ (7 - q) % 2) (hl : x / 2 ^ (7 - r) % 2 < y / 2 ^ (7 - r) % 2) : x < y := by
  have : r = 0 ∨ r = 1 ∨ r = 2 ∨ r = 3 ∨ r = 4 ∨ r = 5 ∨ r = 6 ∨ r = 7 := by omega
  rcases this with rfl | rfl | rfl | rfl | rfl | rfl | rfl | rfl
  · simp at hl; omega
  · have h0 := h 0 (by decide); simp at h0 hl; omega
  · have h0 := h 0 (by decide); have h1 := h 1 (by decide); simp at h0 h1 hl; omega
  · have h0 := h 0 (by decide); have h1 := h 1 (by decide); have h2 := h 2 (by decide); simp at h0 h1 h2 hl; omega
  · have h0 := h 0 (by decide); have h1 := h 1 (by decide); have h2 := h 2 (by decide); have h3 := h 3 (by decide); simp at h0 h1 h2 h3 hl; omega
  · have h0 := h 0 (by decide); have h1 := h 1 (by decide); have h2 := h 2 (by decide); have h3 := h 3 (by decide); have h4 := h 4 (by decide); simp at h0 h1 h2 h3 h4 hl; omega
  · have h0 := h 0 (by decide); have h1 := h 1 (by decide); have h2 := h 2 (by decide); have h3 := h 3 (by decide); have h4 := h 4 (by decide); have h5 := h 5 (by decide); simp at h0 h1 h2 h3 h4 h5 hl; omega
  · have h0 := h 0 (by decide); have h1 := h 1 (by decide); have h2 := h 2 (by decide); have h3 := h 3 (by decide); have h4 := h 4 (by decide); have h5 := h 5 (by decide); have h6 := h 6 (by decide); simp at h0 h1 h2 h3 h4 h5 h6 hl; omega
/-- Strings of bytes, of which the lesser comes first. -/
def Less (n : Nat) (f g : Nat → Nat) : Prop := ∃ i, i < n ∧ (∀ j, j < i → f j = g j) ∧ f i < g i
theorem less_of_num {n m : Nat} {f g : Nat → Nat} (hf : ∀ i, i < n → f i < 256) (hg : ∀ i, i < n → g i < 256) (h : firstNum (inBit n f) m < firstNum (inBit n g) m) : Less n f g := by
  obtain ⟨k, _, e1, e2⟩ := first_diff (inBit_le' n f) (inBit_le' n g) m h
  have hk : k < 8 * n := by
    rcases Nat.lt_or_ge k (8 * n) with h | h
    · exact h
    · unfold inBit at e2
      rw [if_neg (by omega), if_neg (by omega)] at e2
      omega
  have bit : ∀ (p : Nat → Nat) (i r : Nat), r < 8 → i < n → inBit n p (8 * i + r) = p i / 2 ^ (7 - r) % 2 := by
    intro p i r hr hi
    unfold inBit
    rw [if_pos (by omega), show (8 * i + r) / 8 = i from by omega, show (8 * i + r) % 8 = r from by omega]
  refine ⟨k / 8, by omega, fun j hj => ?_, ?_⟩
  · refine byte_eq (hf j (by omega)) (hg j (by omega)) fun r hr => ?_
    have := e1 (8 * j + r) (by omega)
    rw [bit f j r hr (by omega), bit g j r hr (by omega)] at this
    exact this
  · refine byte_lt (r := k % 8) (hf _ (by omega)) (hg _ (by omega)) (by omega) (fun q hq => ?_) ?_
    · have := e1 (8 * (k / 8) + q) (by omega)
      rw [bit f (k / 8) q (by omega) (by omega), bit g (k / 8) q (by omega) (by omega)] at this
      exact this
    · have e : k = 8 * (k / 8) + k % 8 := by omega
      rw [e, bit f (k / 8) (k % 8) (by omega) (by omega), bit g (k / 8) (k % 8) (by omega) (by omega)] at e2
      exact e2
theorem take_mono (fr : List Nat) {a b : Nat} (h : a ≤ b) : (fr.take a).sum ≤ (fr.take b).sum := by
  have := sum_take_le (fr.take b) a
  rw [List.take_take, Nat.min_eq_left h] at this
  exact this
/-- The intervals of symbols lie in the symbols' order. -/
theorem narrow_order {p q : Nat → Nat} {fr : List Nat} {x y : Nat} {s : St} (hl : Live s) (hf : Fine fr) (hx : x < y) (hy : y < fr.length) (h1 : Inside p (narrow fr x s)) (h2 : Inside q (narrow fr y s)) : firstNum p (s.out.length + s.dl + 32) < firstNum q (s.out.length + s.dl + 32) := by
  obtain ⟨p1, p2, _⟩ := pick_none hl.none
  obtain ⟨c1, _, _, _⟩ := code_nums (s.hi - s.lo + 1) ((fr.take x).sum) (fr.getD x 0) fr.sum (by omega) (by have := hl.good.hi; omega) (getD_pos hf.one (by omega)) (take_lt (by omega)) hf.tot
  have hs := sum_take_succ fr x (by omega)
  have hm := take_mono fr (show x + 1 ≤ y by omega)
  rw [hs] at hm
  have hd : (s.hi - s.lo + 1) * ((fr.take x).sum + fr.getD x 0) / fr.sum ≤ (s.hi - s.lo + 1) * (fr.take y).sum / fr.sum := Nat.div_le_div_right (Nat.mul_le_mul_left _ hm)
  have h1' : firstNum p (s.out.length + s.dl + 32) ≤ baseN s.out s.dl + (s.lo + (s.hi - s.lo + 1) * ((fr.take x).sum + fr.getD x 0) / fr.sum - 1) := h1.2
  have h2' : baseN s.out s.dl + (s.lo + (s.hi - s.lo + 1) * (fr.take y).sum / fr.sum) ≤ firstNum q (s.out.length + s.dl + 32) := h2.1
  generalize (s.hi - s.lo + 1) * (fr.take x).sum / fr.sum = qa at *
  generalize (s.hi - s.lo + 1) * ((fr.take x).sum + fr.getD x 0) / fr.sum = qb at *
  generalize (s.hi - s.lo + 1) * (fr.take y).sum / fr.sum = qc at *
  omega
/-- From a code that goes on, to the interval of one of its symbols. -/
theorem inside_at {sz : Nat → Nat} {fr : Bun} (hs : Shape sz fr) {o : Nat → List Op} {N n i m x : Nat} {f : Nat → Nat} (hf : ∀ j, j < N → ∀ p, p ∈ o j → Fit sz p) (hb : Begins (inBit n f) (endBits (encTo fr o N).1)) (hi : i < N) (ho : o i = [(m, x)]) :
    Inside (inBit n f) (narrow ((encTo fr o i).2 m) x (encTo fr o i).1) := by
  have hfit := seqTo_fit hf
  have hok : ∀ j, j ≤ N → Ok sz (encTo fr o j) := fun j hj => (Ok.steps (c := (st0, fr)) (bit := zbit) ⟨live0, hs⟩ (hfit j hj)).1
  have hin : Inside (inBit n f) (encTo fr o N).1 := inside_end (inBit_le' n f) (hok N (Nat.le_refl _)).live hb
  have back : ∀ r j, j + r = N → Inside (inBit n f) (encTo fr o j).1 := by
    intro r
    induction r with
    | zero =>
      intro j hj
      obtain rfl : j = N := by omega
      exact hin
    | succ r ih =>
      intro j hj
      have h := ih (j + 1) (by omega)
      rw [encTo_succ] at h
      exact inside_steps (b := zbit) (inBit_le' n f) (o j) _ (hok j (by omega)) (hf j (by omega)) h
  have h1 := back (N - (i + 1)) (i + 1) (by omega)
  rw [encTo_succ, ho] at h1
  have hx : x < ((encTo fr o i).2 m).length := by
    rw [(hok i (by omega)).shape.len]
    exact hf i hi (m, x) (by rw [ho]; simp)
  exact (inside_code (b := zbit) (inBit_le' n f) (hok i (by omega)).live ((hok i (by omega)).shape.fine m) hx).1 h1
/-- Two codes that begin alike: the one with the lesser symbol is less. -/
theorem code_less {sz : Nat → Nat} {fr : Bun} (hs : Shape sz fr) {o r : Nat → List Op} {N n i m x y : Nat} {f g : Nat → Nat} (ho : ∀ j, j < N → ∀ p, p ∈ o j → Fit sz p) (hr : ∀ j, j < N → ∀ p, p ∈ r j → Fit sz p)
    (hbo : Begins (inBit n f) (endBits (encTo fr o N).1)) (hbr : Begins (inBit n g) (endBits (encTo fr r N).1)) (hf : ∀ i, i < n → f i < 256) (hg : ∀ i, i < n → g i < 256) (hi : i < N) (hsame : ∀ j, j < i → o j = r j) (e1 : o i = [(m, x)]) (e2 : r i = [(m, y)]) (hxy : x < y) : Less n f g := by
  have he : encTo fr o i = encTo fr r i := by
    have : ∀ j, j ≤ i → encTo fr o j = encTo fr r j := by
      intro j
      induction j with
      | zero => intro _; rfl
      | succ j ih => intro hj; rw [encTo_succ, encTo_succ, ih (by omega), hsame j (by omega)]
    exact this i (Nat.le_refl _)
  have h1 := inside_at hs ho hbo hi e1
  have h2 := inside_at hs hr hbr hi e2
  rw [he] at h1
  have hok : Ok sz (encTo fr r i) := (Ok.steps (c := (st0, fr)) (bit := zbit) ⟨live0, hs⟩ (seqTo_fit hr i (by omega))).1
  have hy : y < ((encTo fr r i).2 m).length := by
    rw [hok.shape.len]
    exact hr i hi (m, y) (by rw [e2]; simp)
  exact less_of_num hf hg (narrow_order hok.live (hok.shape.fine m) hxy hy h1 h2)
end Go.Proofs.Ytdekcilfkelhlaa
