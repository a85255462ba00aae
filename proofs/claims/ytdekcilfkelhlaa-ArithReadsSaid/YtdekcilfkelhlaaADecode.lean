/- What was coded is decoded; how long a code is. -/
import Derived.Test.YtdekcilfkelhlaaARun
import Derived.Test.YtdekcilfkelhlaaASes
set_option linter.unusedVariables false
namespace Go.Proofs.Ytdekcilfkelhlaa
open M (blen zig zag)

/-- The first symbols of a sequence of parts. -/
def seqTo (o : Nat → List Op) (j : Nat) : List Op := (List.range j).flatMap o
theorem seqTo_succ (o : Nat → List Op) (j : Nat) : seqTo o (j + 1) = seqTo o j ++ o j := by unfold seqTo; rw [List.range_succ, List.flatMap_append]; simp
theorem seqTo_fit {sz : Nat → Nat} {o : Nat → List Op} {N : Nat} (h : ∀ j, j < N → ∀ p, p ∈ o j → Fit sz p) : ∀ j, j ≤ N → ∀ p, p ∈ seqTo o j → Fit sz p := by
  intro j hj p hp
  unfold seqTo at hp
  obtain ⟨i, hi, hp⟩ := List.mem_flatMap.1 hp
  exact h i (by have := List.mem_range.1 hi; omega) p hp
theorem inBit_le' (n : Nat) (f : Nat → Nat) (a : Nat) : inBit n f a ≤ 1 := by unfold inBit; split <;> omega
theorem begins_bytes {l : List Bool} {n : Nat} {f : Nat → Nat} (hn : nbytes l ≤ n) (hf : ∀ i, i < nbytes l → f i = M.byteOf l i) : Begins (inBit n f) l := by
  intro k hk
  have h8 : k / 8 < nbytes l := by unfold nbytes; omega
  unfold inBit
  rw [if_pos (by omega), hf _ h8, M.byteOf_bit]
theorem num_dec (n : Nat) (f : Nat → Nat) : Num (inBit n f) (decAt (inBit n f) 32) := ⟨by simp [decAt, baseN, M.numOf], rfl⟩
theorem live_dec' (n : Nat) (f : Nat → Nat) : Live (decAt (inBit n f) 32) := live_dec (decBox 0 0 [] none n 0 f)
theorem core_dec (n : Nat) (f : Nat → Nat) : core (decAt (inBit n f) 32) = core st0 := rfl
/-- A decoder behind the first parts. -/
def decTo (n : Nat) (f : Nat → Nat) (fr : Bun) (o : Nat → List Op) (j : Nat) : St × Bun := steps (inBit n f) (decAt (inBit n f) 32, fr) (seqTo o j)
def encTo (fr : Bun) (o : Nat → List Op) (j : Nat) : St × Bun := steps zbit (st0, fr) (seqTo o j)
theorem decTo_succ (n : Nat) (f : Nat → Nat) (fr : Bun) (o : Nat → List Op) (j : Nat) : decTo n f fr o (j + 1) = steps (inBit n f) (decTo n f fr o j) (o j) := by unfold decTo; rw [seqTo_succ, steps_append]
theorem encTo_succ (fr : Bun) (o : Nat → List Op) (j : Nat) : encTo fr o (j + 1) = steps zbit (encTo fr o j) (o j) := by unfold encTo; rw [seqTo_succ, steps_append]
theorem dec_core (n : Nat) (f : Nat → Nat) (fr : Bun) (o : Nat → List Op) (j : Nat) : core (decTo n f fr o j).1 = core (encTo fr o j).1 ∧ (decTo n f fr o j).2 = (encTo fr o j).2 := core_steps _ _ _ (core_dec n f) rfl
theorem enc_ok {sz : Nat → Nat} {fr : Bun} (hs : Shape sz fr) {o : Nat → List Op} {N c : Nat} (hf : ∀ j, j < N → ∀ p, p ∈ o j → Fit sz p) (hc : ∀ j, j < N → (o j).length ≤ c) {j : Nat} (hj : j ≤ N) : Ok sz (encTo fr o j) ∧ (encTo fr o j).1.cnt ≤ c * j := by
  induction j with
  | zero => exact ⟨⟨live0, hs⟩, Nat.zero_le _⟩
  | succ j ih =>
    obtain ⟨h1, h2⟩ := ih (by omega)
    obtain ⟨h3, h4⟩ := h1.steps (bit := zbit) (hf j (by omega))
    rw [encTo_succ]
    refine ⟨h3, ?_⟩
    rw [h4, Nat.mul_succ]
    have := hc j (by omega)
    omega
/-- The theorem of the stage: what was coded is decoded. -/
theorem decode_all {sz : Nat → Nat} {fr : Bun} (hs : Shape sz fr) {o : Nat → List Op} {N n : Nat} {f : Nat → Nat} (hf : ∀ j, j < N → ∀ p, p ∈ o j → Fit sz p) (hb : Begins (inBit n f) (endBits (encTo fr o N).1)) :
    ∀ j, j ≤ N → DOk (inBit n f) sz (decTo n f fr o j) ∧ (j < N → Reads (inBit n f) (decTo n f fr o j) (o j)) := by
  have hfit := seqTo_fit hf
  have hfin : Ok sz (encTo fr o N) := (Ok.steps (c := (st0, fr)) (bit := zbit) ⟨live0, hs⟩ (hfit N (Nat.le_refl _))).1
  have hin : Inside (inBit n f) (decTo n f fr o N).1 := (core_inside (dec_core n f fr o N).1).2 (inside_end (inBit_le' n f) hfin.live hb)
  have key : ∀ r j, j + r = N → DOk (inBit n f) sz (decTo n f fr o j) ∧ (j < N → Reads (inBit n f) (decTo n f fr o j) (o j)) := by
    have hrd := (reads_of_inside (inBit_le' n f) (seqTo o N) (decAt (inBit n f) 32, fr) ⟨live_dec' n f, hs⟩ (num_dec n f) (hfit N (Nat.le_refl _)) hin)
    have pre : ∀ j, j ≤ N → Reads (inBit n f) (decAt (inBit n f) 32, fr) (seqTo o j) := by
      intro j hj
      obtain ⟨r, rfl⟩ : ∃ r, N = j + r := ⟨N - j, by omega⟩
      clear hj
      have h := hrd.2
      clear hrd hin hfin hfit hb hf
      induction r with
      | zero => exact h
      | succ r ih => rw [← Nat.add_assoc, seqTo_succ] at h; exact ih ((reads_append _ _ _).1 h).1
    intro r j hj
    refine ⟨(DOk.steps (inBit_le' n f) _ _ hrd.1 (pre j (by omega))).1, fun hlt => ?_⟩
    have := pre (j + 1) (by omega)
    rw [seqTo_succ] at this
    exact ((reads_append _ _ _).1 this).2
  intro j hj
  exact key (N - j) j (by omega)
theorem dec_cnt (n : Nat) (f : Nat → Nat) (fr : Bun) (o : Nat → List Op) (j : Nat) : (decTo n f fr o j).1.cnt = (encTo fr o j).1.cnt := (core_iff.1 (dec_core n f fr o j).1).2.2.2.1
theorem dec_end (n : Nat) (f : Nat → Nat) (fr : Bun) (o : Nat → List Op) (j : Nat) : endBits (decTo n f fr o j).1 = endBits (encTo fr o j).1 := core_end (dec_core n f fr o j).1

/-- The bits that a coder has made. -/
def made (s : St) : Nat := s.out.length + s.dl
def wide (s : St) : Nat := s.hi - s.lo + 1
theorem scaleN_wide {b : Nat → Nat} (k : Nat) : ∀ s, Good s → ∃ m, made (scaleN b k s) = made s + m ∧ wide (scaleN b k s) = wide s * 2 ^ m := by
  induction k with
  | zero => intro s _; exact ⟨0, rfl, by simp [scaleN]⟩
  | succ k ih =>
    intro s hg
    rcases hp : pick s with _ | ⟨x, o, d⟩
    · rw [scaleN_none hp]; exact ⟨0, rfl, by simp⟩
    · rw [scaleN_some hp]
      obtain ⟨g1, g2, _⟩ := shift_good (bit := b) hp hg
      obtain ⟨m, e1, e2⟩ := ih _ g1
      obtain ⟨_, _, q3, _⟩ := pick_some hp hg.le hg.hi
      refine ⟨m + 1, ?_, ?_⟩
      · rw [e1]; unfold made; simp only [shift]; omega
      · rw [e2, Nat.pow_succ]
        have g2' : wide (shift b s x o d) = 2 * wide s := g2
        rw [g2', Nat.mul_comm (2 ^ m) 2, ← Nat.mul_assoc, Nat.mul_comm (wide s) 2]
theorem narrow_wide {fr : List Nat} {i : Nat} {s : St} (hl : Live s) (hf : Fine fr) (hi : i < fr.length) : wide s * 131071 ≤ wide (narrow fr i s) * 1073741824 := by
  obtain ⟨p1, p2, p3⟩ := pick_none hl.none
  have hh := hl.good.hi
  have h0 := hf.sum
  obtain ⟨c1, c2, _, _⟩ := code_nums (s.hi - s.lo + 1) ((fr.take i).sum) (fr.getD i 0) fr.sum (by omega) (by omega) (getD_pos hf.one hi) (take_lt hi) hf.tot
  have e1 := div_add_le ((s.hi - s.lo + 1) * (fr.take i).sum) (s.hi - s.lo + 1) fr.sum h0
  have e2 : ((s.hi - s.lo + 1) * (fr.take i).sum + (s.hi - s.lo + 1)) / fr.sum ≤ (s.hi - s.lo + 1) * ((fr.take i).sum + fr.getD i 0) / fr.sum := by
    refine Nat.div_le_div_right ?_
    rw [Nat.mul_add]
    have := Nat.mul_le_mul_left (s.hi - s.lo + 1) (getD_pos hf.one hi)
    omega
  have e3 : (s.hi - s.lo + 1) / 8192 ≤ (s.hi - s.lo + 1) / fr.sum := Nat.div_le_div_left hf.tot h0
  have hw : wide (narrow fr i s) = (s.lo + (s.hi - s.lo + 1) * ((fr.take i).sum + fr.getD i 0) / fr.sum - 1) - (s.lo + (s.hi - s.lo + 1) * (fr.take i).sum / fr.sum) + 1 := rfl
  have hw0 : wide s = s.hi - s.lo + 1 := rfl
  rw [hw, hw0]
  generalize (s.hi - s.lo + 1) * (fr.take i).sum / fr.sum = qa at *
  generalize (s.hi - s.lo + 1) * ((fr.take i).sum + fr.getD i 0) / fr.sum = qb at *
  generalize ((s.hi - s.lo + 1) * (fr.take i).sum + (s.hi - s.lo + 1)) / fr.sum = qc at *
  generalize (s.hi - s.lo + 1) / fr.sum = qd at *
  omega
theorem code_wide {b : Nat → Nat} {fr : List Nat} {i : Nat} {s : St} (hl : Live s) (hf : Fine fr) (hi : i < fr.length) : ∃ m, made (codeSt b fr i s) = made s + m ∧ 2 ^ m * (wide s * 131071) ≤ wide (codeSt b fr i s) * 1073741824 := by
  obtain ⟨g, _⟩ := narrow_good hl.good hl.none hf.one hf.tot hi
  obtain ⟨m, e1, e2⟩ := scaleN_wide (b := b) 16 _ g
  have hn := narrow_wide hl hf hi
  refine ⟨m, e1, ?_⟩
  have e3 : wide (codeSt b fr i s) = wide (narrow fr i s) * 2 ^ m := e2
  rw [e3, Nat.mul_right_comm, Nat.mul_comm (2 ^ m)]
  exact Nat.mul_le_mul_right _ hn
theorem steps_wide {b : Nat → Nat} {sz : Nat → Nat} (l : List Op) : ∀ c, Ok sz c → (∀ o, o ∈ l → Fit sz o) → ∃ m, made (steps b c l).1 = made c.1 + m ∧ 2 ^ m * (wide c.1 * 131071 ^ l.length) ≤ wide (steps b c l).1 * 1073741824 ^ l.length := by
  induction l with
  | nil => intro c _ _; exact ⟨0, rfl, by simp [steps]⟩
  | cons o l ih =>
    intro c h hl
    have ho := hl o (by simp)
    obtain ⟨m1, a1, a2⟩ := code_wide (b := b) h.live (h.shape.fine o.1) (i := o.2) (by rw [h.shape.len]; exact ho)
    obtain ⟨m2, b1, b2⟩ := ih _ (h.step (bit := b) ho).1 (fun q hq => hl q (by simp [hq]))
    have e : steps b c (o :: l) = steps b (step b c o) l := rfl
    have a1' : made (step b c o).1 = made c.1 + m1 := a1
    have a2' : 2 ^ m1 * (wide c.1 * 131071) ≤ wide (step b c o).1 * 1073741824 := a2
    rw [e]
    refine ⟨m1 + m2, by rw [b1, a1', Nat.add_assoc], ?_⟩
    rw [List.length_cons, Nat.pow_succ, Nat.pow_succ]
    calc 2 ^ (m1 + m2) * (wide c.1 * (131071 ^ l.length * 131071)) = 2 ^ m2 * (131071 ^ l.length * (2 ^ m1 * (wide c.1 * 131071))) := by
          rw [Nat.pow_add]; simp only [Nat.mul_comm, Nat.mul_left_comm, Nat.mul_assoc]
      _ ≤ 2 ^ m2 * (131071 ^ l.length * (wide (step b c o).1 * 1073741824)) := Nat.mul_le_mul_left _ (Nat.mul_le_mul_left _ a2')
      _ = (2 ^ m2 * (wide (step b c o).1 * 131071 ^ l.length)) * 1073741824 := by simp only [Nat.mul_comm, Nat.mul_left_comm]
      _ ≤ (wide (steps b (step b c o) l).1 * 1073741824 ^ l.length) * 1073741824 := Nat.mul_le_mul_right _ b2
      _ = wide (steps b (step b c o) l).1 * (1073741824 ^ l.length * 1073741824) := Nat.mul_assoc _ _ _
theorem bernoulli (n : Nat) (h : n ≤ 65536) : 131072 ^ n * (131072 - n) ≤ 131071 ^ n * 131072 := by
  induction n with
  | zero => simp
  | succ n ih =>
    have ih' := ih (by omega)
    rw [Nat.pow_succ, Nat.pow_succ]
    have e : 131072 * (131072 - (n + 1)) ≤ 131071 * (131072 - n) := by omega
    calc 131072 ^ n * 131072 * (131072 - (n + 1)) = 131072 ^ n * (131072 * (131072 - (n + 1))) := Nat.mul_assoc _ _ _
      _ ≤ 131072 ^ n * (131071 * (131072 - n)) := Nat.mul_le_mul_left _ e
      _ = (131072 ^ n * (131072 - n)) * 131071 := by rw [Nat.mul_comm 131071, ← Nat.mul_assoc]
      _ ≤ (131071 ^ n * 131072) * 131071 := Nat.mul_le_mul_right _ ih'
      _ = 131071 ^ n * 131071 * 131072 := by rw [Nat.mul_right_comm]
theorem steps_bits {b : Nat → Nat} {sz : Nat → Nat} {l : List Op} {c : St × Bun} (h : Ok sz c) (hl : ∀ o, o ∈ l → Fit sz o) (hn : l.length ≤ 65536) : made (steps b c l).1 ≤ made c.1 + 13 * l.length + 3 := by
  obtain ⟨m, e1, e2⟩ := steps_wide (b := b) l c h hl
  have hok := (h.steps (bit := b) hl).1
  obtain ⟨p1, p2, p3⟩ := pick_none h.live.none
  have hw : 1073741824 ≤ wide c.1 := by unfold wide; omega
  have hw2 : wide (steps b c l).1 ≤ 4294967296 := by have := hok.live.good.hi; unfold wide; omega
  have hB := bernoulli l.length hn
  generalize l.length = n at *
  have hB2 : 131072 ^ n ≤ 131071 ^ n * 2 := by
    have h1 : 131072 ^ n * 65536 ≤ 131072 ^ n * (131072 - n) := Nat.mul_le_mul_left _ (by omega)
    have h2 : 131072 ^ n * 65536 ≤ (131071 ^ n * 2) * 65536 := by
      rw [Nat.mul_assoc]; exact Nat.le_trans h1 hB
    exact Nat.le_of_mul_le_mul_right h2 (by decide)
  have h3 : 2 ^ m * (1073741824 * 131072 ^ n) ≤ 2 ^ m * (wide c.1 * 131071 ^ n) * 2 := by
    rw [Nat.mul_assoc]
    refine Nat.mul_le_mul_left _ ?_
    rw [Nat.mul_assoc]
    exact Nat.mul_le_mul hw hB2
  have h4 : 2 ^ m * (1073741824 * 131072 ^ n) ≤ 4294967296 * 1073741824 ^ n * 2 :=
    Nat.le_trans h3 (Nat.mul_le_mul_right _ (Nat.le_trans e2 (Nat.mul_le_mul_right _ hw2)))
  rw [e1]
  have q1 : 2 ^ m * (1073741824 * 131072 ^ n) = 2 ^ (m + (30 + 17 * n)) := by
    rw [show (131072 : Nat) = 2 ^ 17 from rfl, show (1073741824 : Nat) = 2 ^ 30 from rfl, ← Nat.pow_mul, ← Nat.pow_add, ← Nat.pow_add]
  have q2 : 4294967296 * 1073741824 ^ n * 2 = 2 ^ (32 + 30 * n + 1) := by
    rw [show (4294967296 : Nat) = 2 ^ 32 from rfl, show (1073741824 : Nat) = 2 ^ 30 from rfl, ← Nat.pow_mul, ← Nat.pow_add, ← Nat.pow_succ]
  rw [q1, q2] at h4
  have := (Nat.pow_le_pow_iff_right (by decide)).1 h4
  omega
end Go.Proofs.Ytdekcilfkelhlaa
