/- The plain law of coding: intervals and numbers. -/
import Derived.Test.YtdekcilfkelhlaaAEnd
set_option linter.unusedVariables false
namespace Go.Proofs.Ytdekcilfkelhlaa
open M (numOf numOf_snoc blen)

theorem numOf_append (a b : List Bool) : numOf (a ++ b) = numOf a * 2 ^ b.length + numOf b := by
  refine M.snocInd (P := fun b => numOf (a ++ b) = numOf a * 2 ^ b.length + numOf b) ?_ ?_ b
  · simp [numOf]
  · intro s x ih
    have ih' : numOf (a ++ s) = numOf a * 2 ^ s.length + numOf s := ih
    show numOf (a ++ (s ++ [x])) = _
    rw [← List.append_assoc, numOf_snoc, numOf_snoc, ih', List.length_append, List.length_singleton, Nat.pow_succ, ← Nat.mul_assoc]
    generalize numOf a * 2 ^ s.length = y
    omega
theorem numOf_false (d : Nat) : numOf (List.replicate d false) = 0 := by
  induction d with
  | zero => rfl
  | succ d ih => rw [List.replicate_succ', numOf_snoc, ih]; rfl
theorem numOf_true (d : Nat) : numOf (List.replicate d true) = 2 ^ d - 1 := by
  induction d with
  | zero => rfl
  | succ d ih =>
    rw [List.replicate_succ', numOf_snoc, ih, Nat.pow_succ]
    have := Nat.two_pow_pos d
    simp; omega
theorem numOf_cons (x : Bool) (l : List Bool) : numOf (x :: l) = x.toNat * 2 ^ l.length + numOf l := by
  have := numOf_append [x] l
  rw [List.singleton_append] at this
  rw [this]
  cases x <;> simp [numOf]
/-- The number whose bits a coder has put out, with those that are delayed. -/
def baseN (o : List Bool) (d : Nat) : Nat := 4294967296 * (numOf o * 2 ^ d) + 2147483648 * (2 ^ d - 1)
theorem pick_base {s : St} {x : Nat} {o : List Bool} {d : Nat} (h : pick s = some (x, o, d)) : baseN o d = 2 * (baseN s.out s.dl + x) := by
  have hp := Nat.two_pow_pos s.dl
  unfold pick at h
  split at h
  · injection h with h; injection h with h1 h; injection h with h2 h3
    subst h1 h2 h3
    unfold baseN
    rw [numOf_append, numOf_cons, numOf_true, List.length_cons, List.length_replicate, Nat.pow_succ, show numOf s.out * (2 ^ s.dl * 2) = numOf s.out * 2 ^ s.dl * 2 from (Nat.mul_assoc _ _ _).symm]
    generalize numOf s.out * 2 ^ s.dl = y
    generalize 2 ^ s.dl = p at *
    simp; omega
  split at h
  · injection h with h; injection h with h1 h; injection h with h2 h3
    subst h1 h2 h3
    unfold baseN
    rw [numOf_append, numOf_cons, numOf_false, List.length_cons, List.length_replicate, Nat.pow_succ, show numOf s.out * (2 ^ s.dl * 2) = numOf s.out * 2 ^ s.dl * 2 from (Nat.mul_assoc _ _ _).symm]
    generalize numOf s.out * 2 ^ s.dl = y
    generalize 2 ^ s.dl = p at *
    simp; omega
  split at h
  · injection h with h; injection h with h1 h; injection h with h2 h3
    subst h1 h2 h3
    unfold baseN
    rw [Nat.pow_succ, show numOf s.out * (2 ^ s.dl * 2) = numOf s.out * 2 ^ s.dl * 2 from (Nat.mul_assoc _ _ _).symm]
    generalize numOf s.out * 2 ^ s.dl = y
    generalize 2 ^ s.dl = p at *
    omega
  · cases h

section
variable {bit b : Nat → Nat}
/-- An input is in the interval of a state. -/
def Inside (bit : Nat → Nat) (s : St) : Prop := baseN s.out s.dl + s.lo ≤ firstNum bit (s.out.length + s.dl + 32) ∧ firstNum bit (s.out.length + s.dl + 32) ≤ baseN s.out s.dl + s.hi
theorem inside_shift (hb : ∀ a, bit a ≤ 1) {s : St} {x : Nat} {o : List Bool} {d : Nat} (hp : pick s = some (x, o, d)) (h1 : s.lo ≤ s.hi) (h2 : s.hi < 4294967296) : Inside bit (shift b s x o d) ↔ Inside bit s := by
  obtain ⟨q1, q2, q3, _⟩ := pick_some hp h1 h2
  have hB := pick_base hp
  have hn : o.length + d + 32 = (s.out.length + s.dl + 32) + 1 := by omega
  unfold Inside
  simp only [shift]
  rw [hn, hB]
  simp only [firstNum]
  have := hb (s.out.length + s.dl + 32)
  omega
theorem inside_scaleN (hb : ∀ a, bit a ≤ 1) (k : Nat) : ∀ s, Good s → (Inside bit (scaleN b k s) ↔ Inside bit s) := by
  induction k with
  | zero => intro s _; exact Iff.rfl
  | succ k ih =>
    intro s hg
    rcases hp : pick s with _ | ⟨x, o, d⟩
    · rw [scaleN_none hp]
    · rw [scaleN_some hp]
      exact (ih _ (shift_good hp hg).1).trans (inside_shift hb hp hg.le hg.hi)
/-- The frequencies of a model. -/
structure Fine (fr : List Nat) : Prop where
  pos : 0 < fr.length
  few : fr.length ≤ 256
  one : ∀ x, x ∈ fr → 1 ≤ x
  tot : fr.sum ≤ 8192
theorem Fine.sum {fr : List Nat} (h : Fine fr) : 0 < fr.sum := by
  have := take_lt (fr := fr) (i := 0) h.pos
  have := getD_pos h.one h.pos
  omega
theorem Fine.learn {fr : List Nat} (h : Fine fr) {i : Nat} (hi : i < fr.length) : Fine (learn fr i) := by
  obtain ⟨h1, h2⟩ := learn_good hi h.few h.one h.tot
  exact ⟨by rw [learn_length]; exact h.pos, by rw [learn_length]; exact h.few, h1, h2⟩
theorem Fine.new {n : Nat} (h1 : 1 ≤ n) (h2 : n ≤ 256) : Fine (List.replicate n 1) :=
  ⟨by rw [List.length_replicate]; omega, by rw [List.length_replicate]; exact h2, fun x hx => by rw [List.eq_of_mem_replicate hx]; exact Nat.le_refl _, by rw [sum_replicate]; omega⟩
theorem inside_narrow {fr : List Nat} {i : Nat} {s : St} (hl : Live s) (hf : Fine fr) (hi : i < fr.length) (h : Inside bit (narrow fr i s)) : Inside bit s := by
  obtain ⟨_, _, h1, h2⟩ := narrow_good hl.good hl.none hf.one hf.tot hi
  unfold Inside at *
  have e1 : (narrow fr i s).out = s.out := rfl
  have e2 : (narrow fr i s).dl = s.dl := rfl
  rw [e1, e2] at h
  omega
theorem inside_code (hb : ∀ a, bit a ≤ 1) {fr : List Nat} {i : Nat} {s : St} (hl : Live s) (hf : Fine fr) (hi : i < fr.length) : Inside bit (codeSt b fr i s) ↔ Inside bit (narrow fr i s) := by
  obtain ⟨g, _⟩ := narrow_good hl.good hl.none hf.one hf.tot hi
  exact inside_scaleN (b := b) hb 16 _ g

/-- A decoder's number is what its input and its output make it. -/
structure Num (bit : Nat → Nat) (s : St) : Prop where
  eq : s.num + baseN s.out s.dl = firstNum bit s.at_
  at_ : s.at_ = s.out.length + s.dl + 32
theorem Num.iv {s : St} (h : Num bit s) : InIv s ↔ Inside bit s := by
  have h1 := h.eq
  unfold Inside
  rw [← h.at_]
  constructor
  · intro h; have := h.lo; have := h.hi; omega
  · rintro ⟨h2, h3⟩; exact ⟨by omega, by omega⟩
theorem Num.narrow {s : St} (h : Num bit s) (fr : List Nat) (i : Nat) : Num bit (narrow fr i s) := ⟨h.eq, h.at_⟩
theorem shift_num {s : St} {x : Nat} {o : List Bool} {d : Nat} (hb : ∀ a, bit a ≤ 1) (hp : pick s = some (x, o, d)) (hg : Good s) (h : InIv s) : (shift bit s x o d).num = 2 * (s.num - x) + bit s.at_ ∧ InIv (shift bit s x o d) := by
  obtain ⟨h1, h2, _, h4⟩ := pick_some hp hg.le hg.hi
  have e1 := h.lo
  have e2 := h.hi
  have e3 := hb s.at_
  have e4 := hg.hi
  have e : (shift bit s x o d).num = 2 * (s.num - x) + bit s.at_ := by
    simp only [shift]
    omega
  refine ⟨e, ?_, ?_⟩
  · rw [e]; simp only [shift]; omega
  · rw [e]; simp only [shift]; omega
theorem Num.shift (hb : ∀ a, bit a ≤ 1) {s : St} {x : Nat} {o : List Bool} {d : Nat} (hp : pick s = some (x, o, d)) (hg : Good s) (hi : InIv s) (h : Num bit s) : Num bit (shift bit s x o d) := by
  obtain ⟨q1, q2, q3, _⟩ := pick_some hp hg.le hg.hi
  have hB := pick_base hp
  have e1 := hi.lo
  have h1 := h.eq
  have h2 := h.at_
  refine ⟨?_, ?_⟩
  · rw [(shift_num hb hp hg hi).1]
    simp only [Proofs.Ytdekcilfkelhlaa.shift]
    rw [hB]
    simp only [firstNum]
    omega
  · simp only [Proofs.Ytdekcilfkelhlaa.shift]
    omega
theorem scaleN_num (hb : ∀ a, bit a ≤ 1) (k : Nat) : ∀ s, Good s → InIv s → InIv (scaleN bit k s) ∧ (Num bit s → Num bit (scaleN bit k s)) := by
  induction k with
  | zero => intro s _ h; exact ⟨h, id⟩
  | succ k ih =>
    intro s hg h
    rcases hp : pick s with _ | ⟨x, o, d⟩
    · rw [scaleN_none hp]; exact ⟨h, id⟩
    · rw [scaleN_some hp]
      obtain ⟨i1, i2⟩ := ih _ (shift_good hp hg).1 (shift_num hb hp hg h).2
      exact ⟨i1, fun hn => i2 (hn.shift hb hp hg h)⟩
theorem code_num (hb : ∀ a, bit a ≤ 1) {fr : List Nat} {i : Nat} {s : St} (hl : Live s) (hf : Fine fr) (hi : i < fr.length) (h : InIv (narrow fr i s)) : InIv (codeSt bit fr i s) ∧ (Num bit s → Num bit (codeSt bit fr i s)) := by
  obtain ⟨g, _⟩ := narrow_good hl.good hl.none hf.one hf.tot hi
  obtain ⟨h1, h2⟩ := scaleN_num hb 16 _ g h
  exact ⟨⟨h1.lo, h1.hi⟩, fun hn => ⟨(h2 (hn.narrow fr i)).eq, (h2 (hn.narrow fr i)).at_⟩⟩
/-- In the interval of a symbol a decoder finds it. -/
theorem decSym_eq {fr : List Nat} {i : Nat} {s : St} (hl : Live s) (hf : Fine fr) (hi : i < fr.length) (h : InIv (narrow fr i s)) : decSym fr s = i := by
  obtain ⟨_, _, h1, h2⟩ := narrow_good hl.good hl.none hf.one hf.tot hi
  have h0 := hf.sum
  have e1 := h.lo
  have e2 := h.hi
  obtain ⟨p1, p2, _⟩ := pick_none hl.none
  obtain ⟨c1, c2, _, _⟩ := code_nums (s.hi - s.lo + 1) ((fr.take i).sum) (fr.getD i 0) fr.sum (by omega) (by have := hl.good.hi; omega) (getD_pos hf.one hi) (take_lt hi) hf.tot
  have e1' : s.lo + (s.hi - s.lo + 1) * (fr.take i).sum / fr.sum ≤ s.num := e1
  have e2' : s.num ≤ s.lo + (s.hi - s.lo + 1) * ((fr.take i).sum + fr.getD i 0) / fr.sum - 1 := e2
  unfold decSym
  have hsz : 0 < s.hi - s.lo + 1 := by omega
  have hm : (s.num - s.lo + 1) * fr.sum = (s.num - s.lo + 1) * fr.sum := rfl
  have hpos : 1 * fr.sum ≤ (s.num - s.lo + 1) * fr.sum := Nat.mul_le_mul_right _ (by omega)
  refine symOf_eq fr _ i ?_ ?_
  · unfold decAt_
    rw [Nat.le_div_iff_mul_le hsz]
    have : (s.hi - s.lo + 1) * (fr.take i).sum / fr.sum < s.num - s.lo + 1 := by
      generalize (s.hi - s.lo + 1) * (fr.take i).sum / fr.sum = qa at *
      omega
    rw [Nat.div_lt_iff_lt_mul h0] at this
    rw [Nat.mul_comm (fr.take i).sum]
    omega
  · unfold decAt_
    rw [Nat.div_lt_iff_lt_mul hsz]
    have : s.num - s.lo + 1 ≤ (s.hi - s.lo + 1) * ((fr.take i).sum + fr.getD i 0) / fr.sum := by
      generalize (s.hi - s.lo + 1) * (fr.take i).sum / fr.sum = qa at *
      generalize (s.hi - s.lo + 1) * ((fr.take i).sum + fr.getD i 0) / fr.sum = qb at *
      omega
    rw [Nat.le_div_iff_mul_le h0] at this
    rw [Nat.mul_comm ((fr.take i).sum + _)]
    omega
theorem iv_code (hb : ∀ a, bit a ≤ 1) {fr : List Nat} {s : St} (hl : Live s) (h : InIv s) (hf : Fine fr) : InIv (codeSt bit fr (decSym fr s) s) ∧ decSym fr s < fr.length ∧ InIv (narrow fr (decSym fr s) s) := by
  obtain ⟨e1, e2, e3⟩ := symOf_spec fr (decAt_ fr s) (decAt_lt h hf.sum)
  have hn := narrow_iv h hf.sum e2 e3
  exact ⟨(code_num hb hl hf e1 hn).1, e1, hn⟩
end

/-- What does not depend on an input. -/
def core (s : St) : St := { s with num := 0, at_ := 0 }
theorem core_pick {s d : St} (h : core s = core d) : pick s = pick d := by
  have h1 := congrArg St.lo h
  have h2 := congrArg St.hi h
  have h3 := congrArg St.dl h
  have h4 := congrArg St.out h
  simp only [core] at h1 h2 h3 h4
  unfold pick
  rw [h1, h2, h3, h4]
theorem core_iff {s d : St} : core s = core d ↔ s.lo = d.lo ∧ s.hi = d.hi ∧ s.dl = d.dl ∧ s.cnt = d.cnt ∧ s.out = d.out := by
  constructor
  · intro h
    exact ⟨(congrArg St.lo h :), (congrArg St.hi h :), (congrArg St.dl h :), (congrArg St.cnt h :), (congrArg St.out h :)⟩
  · rintro ⟨h1, h2, h3, h4, h5⟩
    simp only [core, h1, h2, h3, h4, h5]
theorem core_scaleN {bit b : Nat → Nat} (k : Nat) : ∀ s d, core s = core d → core (scaleN bit k s) = core (scaleN b k d) := by
  induction k with
  | zero => intro s d h; exact h
  | succ k ih =>
    intro s d h
    have hq := core_pick h
    rcases hp : pick s with _ | ⟨x, o, e⟩
    · rw [scaleN_none hp, scaleN_none (by rw [← hq, hp])]; exact h
    · rw [scaleN_some hp, scaleN_some (by rw [← hq, hp])]
      refine ih _ _ ?_
      obtain ⟨h1, h2, h3, h4, h5⟩ := core_iff.1 h
      rw [core_iff]
      simp only [shift, h1, h2, h4]
      simp
theorem core_code {bit b : Nat → Nat} {s d : St} (fr : List Nat) (i : Nat) (h : core s = core d) : core (codeSt bit fr i s) = core (codeSt b fr i d) := by
  have h0 := core_iff.1 h
  have hn : core (narrow fr i s) = core (narrow fr i d) := by
    rw [core_iff]
    simp only [narrow, h0.1, h0.2.1, h0.2.2.1, h0.2.2.2.1, h0.2.2.2.2]
    simp
  have := core_iff.1 (core_scaleN (bit := bit) (b := b) 16 _ _ hn)
  rw [core_iff]
  exact ⟨this.1, this.2.1, this.2.2.1, congrArg (· + 1) h0.2.2.2.1, this.2.2.2.2⟩
theorem core_end {s d : St} (h : core s = core d) : endBits s = endBits d := by
  obtain ⟨h1, h2, h3, h4, h5⟩ := core_iff.1 h
  unfold endBits
  rw [h1, h3, h5]
theorem core_inside {bit : Nat → Nat} {s d : St} (h : core s = core d) : Inside bit s ↔ Inside bit d := by
  obtain ⟨h1, h2, h3, h4, h5⟩ := core_iff.1 h
  unfold Inside
  rw [h1, h2, h3, h5]

/-- An input that begins with the code of a state is in its interval. -/
def Begins (bit : Nat → Nat) (l : List Bool) : Prop := ∀ k, k < l.length → bit k = (l.getD k false).toNat
theorem begins_num {bit : Nat → Nat} (l : List Bool) : Begins bit l → firstNum bit l.length = numOf l := by
  refine M.snocInd (P := fun l => Begins bit l → firstNum bit l.length = numOf l) ?_ ?_ l
  · intro _; rfl
  · intro s x ih h
    rw [List.length_append, List.length_singleton, numOf_snoc]
    show 2 * firstNum bit s.length + bit s.length = _
    have h1 := ih (fun k hk => by
      have := h k (by simp; omega)
      rw [this, M.getD_snoc, if_neg (by omega)])
    have h2 := h s.length (by simp)
    rw [M.getD_snoc, if_pos rfl] at h2
    rw [h1, h2]
theorem firstNum_more {bit : Nat → Nat} (hb : ∀ a, bit a ≤ 1) (m r : Nat) : firstNum bit m * 2 ^ r ≤ firstNum bit (m + r) ∧ firstNum bit (m + r) < (firstNum bit m + 1) * 2 ^ r := by
  induction r with
  | zero => simp
  | succ r ih =>
    have := hb (m + r)
    rw [← Nat.add_assoc]
    simp only [firstNum]
    rw [Nat.pow_succ, ← Nat.mul_assoc, ← Nat.mul_assoc]
    omega
theorem inside_end {bit : Nat → Nat} (hb : ∀ a, bit a ≤ 1) {s : St} (hl : Live s) (h : Begins bit (endBits s)) : Inside bit s := by
  have hn := begins_num _ h
  rw [endBits_length] at hn
  obtain ⟨p1, p2, p3⟩ := pick_none hl.none
  obtain ⟨f1, f2⟩ := firstNum_more hb (s.out.length + s.dl + 2) 30
  rw [hn] at f1 f2
  unfold Inside
  rw [show s.out.length + s.dl + 32 = s.out.length + s.dl + 2 + 30 from by omega]
  have hp := Nat.two_pow_pos s.dl
  unfold endBits at f1 f2
  unfold baseN
  rw [numOf_append, numOf_cons, List.length_cons, List.length_replicate, Nat.pow_succ, Nat.pow_succ, ← Nat.mul_assoc, ← Nat.mul_assoc] at f1 f2
  by_cases hq : 1073741824 ≤ s.lo
  · rw [decide_eq_true hq, Bool.not_true, numOf_false] at f1 f2
    generalize numOf s.out * 2 ^ s.dl = y at *
    generalize 2 ^ s.dl = p at *
    simp at f1 f2
    omega
  · rw [decide_eq_false hq, Bool.not_false, numOf_true, Nat.pow_succ] at f1 f2
    generalize numOf s.out * 2 ^ s.dl = y at *
    generalize 2 ^ s.dl = p at *
    simp at f1 f2
    omega
end Go.Proofs.Ytdekcilfkelhlaa
