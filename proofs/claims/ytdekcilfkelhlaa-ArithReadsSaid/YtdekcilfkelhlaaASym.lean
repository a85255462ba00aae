/- symbol, Get. -/
import Derived.Test.YtdekcilfkelhlaaADec
set_option linter.unusedVariables false
namespace Go.Proofs.Ytdekcilfkelhlaa
open Go.RowKit

/-- The symbol whose part of the whole holds a number. -/
def symOf : List Nat → Nat → Nat
  | [], _ => 0
  | x :: xs, v => if v < x then 0 else symOf xs (v - x) + 1
theorem symOf_spec (l : List Nat) : ∀ v, v < l.sum → symOf l v < l.length ∧ (l.take (symOf l v)).sum ≤ v ∧ v < (l.take (symOf l v)).sum + l.getD (symOf l v) 0 := by
  induction l with
  | nil => intro v h; simp at h
  | cons x xs ih =>
    intro v h
    unfold symOf
    split
    · simpa using ‹v < x›
    · rename_i hx
      obtain ⟨h1, h2, h3⟩ := ih (v - x) (by simp at h; omega)
      refine ⟨by simp; omega, ?_, ?_⟩
      · simp only [List.take_succ_cons, List.sum_cons]; omega
      · simp only [List.take_succ_cons, List.sum_cons, List.getD_cons_succ]; omega
theorem symOf_eq (l : List Nat) : ∀ v j, (l.take j).sum ≤ v → v < (l.take j).sum + l.getD j 0 → symOf l v = j := by
  induction l with
  | nil => intro v j h1 h2; simp at h2
  | cons x xs ih =>
    intro v j h1 h2
    cases j with
    | zero => unfold symOf; rw [if_pos (by simpa using h2)]
    | succ j =>
      simp only [List.take_succ_cons, List.sum_cons, List.getD_cons_succ] at h1 h2
      unfold symOf
      rw [if_neg (by omega), ih (v - x) j (by omega) (by omega)]
/-- What a decoder's number says. -/
def decAt_ (fr : List Nat) (s : St) : Nat := ((s.num - s.lo + 1) * fr.sum - 1) / (s.hi - s.lo + 1)
def decSym (fr : List Nat) (s : St) : Nat := symOf fr (decAt_ fr s)
structure InIv (s : St) : Prop where
  lo : s.lo ≤ s.num
  hi : s.num ≤ s.hi
theorem decAt_lt {fr : List Nat} {s : St} (h : InIv s) (h0 : 0 < fr.sum) : decAt_ fr s < fr.sum := by
  unfold decAt_
  have h1 := h.lo
  have h2 := h.hi
  rw [Nat.div_lt_iff_lt_mul (by omega)]
  have : (s.num - s.lo + 1) * fr.sum ≤ (s.hi - s.lo + 1) * fr.sum := Nat.mul_le_mul_right _ (by omega)
  have h3 : 1 * fr.sum ≤ (s.num - s.lo + 1) * fr.sum := Nat.mul_le_mul_right _ (by omega)
  rw [Nat.mul_comm fr.sum]
  omega
theorem iv_narrow (d t sz a b : Nat) (hd : d < sz) (h0 : 0 < t) (h1 : a ≤ ((d + 1) * t - 1) / sz) (h2 : ((d + 1) * t - 1) / sz < b) : sz * a / t ≤ d ∧ d + 1 ≤ sz * b / t := by
  have hp : 1 * t ≤ (d + 1) * t := Nat.mul_le_mul_right _ (by omega)
  constructor
  · rw [Nat.le_div_iff_mul_le (by omega)] at h1
    have : sz * a / t < d + 1 := by
      rw [Nat.div_lt_iff_lt_mul h0, Nat.mul_comm sz a]
      omega
    omega
  · rw [Nat.div_lt_iff_lt_mul (by omega)] at h2
    rw [Nat.le_div_iff_mul_le h0, Nat.mul_comm sz b]
    omega
theorem narrow_iv {fr : List Nat} {i : Nat} {s : St} (h : InIv s) (h0 : 0 < fr.sum) (h1 : (fr.take i).sum ≤ decAt_ fr s) (h2 : decAt_ fr s < (fr.take i).sum + fr.getD i 0) : InIv (narrow fr i s) := by
  have e1 := h.lo
  have e2 := h.hi
  obtain ⟨q1, q2⟩ := iv_narrow (s.num - s.lo) fr.sum (s.hi - s.lo + 1) _ _ (by omega) h0 h1 h2
  constructor
  · show s.lo + (s.hi - s.lo + 1) * (fr.take i).sum / fr.sum ≤ s.num
    omega
  · show s.num ≤ s.lo + (s.hi - s.lo + 1) * ((fr.take i).sum + fr.getD i 0) / fr.sum - 1
    omega
theorem shift_iv (X : Box) {s : St} {x : Nat} {o : List Bool} {d : Nat} (hp : pick s = some (x, o, d)) (hg : Good s) (h : InIv s) : InIv (shift X.bit s x o d) := by
  obtain ⟨h1, h2, _, h4⟩ := pick_some hp hg.le hg.hi
  have e1 := h.lo
  have e2 := h.hi
  have e3 := X.bit_le s.at_
  have e4 := hg.hi
  have e : (shift X.bit s x o d).num = 2 * (s.num - x) + X.bit s.at_ := by
    simp only [shift]
    omega
  constructor
  · rw [e]; simp only [shift]; omega
  · rw [e]; simp only [shift]; omega
theorem scaleN_iv (X : Box) (k : Nat) : ∀ s, Good s → InIv s → InIv (scaleN X.bit k s) := by
  induction k with
  | zero => intro s _ h; exact h
  | succ k ih =>
    intro s hg h
    rcases hp : pick s with _ | ⟨x, o, d⟩
    · rw [scaleN_none hp]; exact h
    · rw [scaleN_some hp]
      exact ih _ (shift_good hp hg).1 (shift_iv X hp hg h)
theorem code_iv (X : Box) {fr : List Nat} {s : St} (hl : Live s) (h : InIv s) (h1 : ∀ x, x ∈ fr → 1 ≤ x) (h2 : fr.sum ≤ 8192) (h0 : 0 < fr.sum) : InIv (codeSt X.bit fr (decSym fr s) s) ∧ decSym fr s < fr.length := by
  obtain ⟨e1, e2, e3⟩ := symOf_spec fr (decAt_ fr s) (decAt_lt h h0)
  have hn := narrow_iv h h0 e2 e3
  have hg := (narrow_good hl.good hl.none h1 h2 e1).1
  have := scaleN_iv X 16 _ hg hn
  exact ⟨⟨this.lo, this.hi⟩, e1⟩

set_option maxRecDepth 100000 in
set_option maxHeartbeats 1000000 in
theorem symbol_ok {X : Box} {F : List Nat} {st : St} {bm g : Nat} {fr : List Nat} (w : World) (h : EOk X w F st) (hiv : InIv st) (hc : st.cnt < 32768) (hm : MOk w bm g fr) (hF : bm ∉ F ∧ g ∉ F) (hG : bm ∉ X.G ∧ g ∉ X.G) :
    Calls Try.prog 62 #[.pointer (some ⟨X.bw, 0, none⟩), .pointer (some ⟨bm, 0, none⟩)] w fun e w' => e = .returned (.int .i64 (decSym fr st : Nat)) ∧ ∃ F', EOk X w' F' (codeSt X.bit fr (decSym fr st) st) ∧ InIv (codeSt X.bit fr (decSym fr st) st) ∧ MOk w' bm g (learn fr (decSym fr st)) ∧ Fr (F ++ [bm, g]) w (F' ++ [bm, g]) w' := by
  have h0 : 0 < fr.sum := by
    have := take_lt (fr := fr) (i := 0) hm.pos
    have := getD_pos hm.one hm.pos
    omega
  obtain ⟨civ, hsl⟩ := code_iv X h.live hiv hm.one hm.tot h0
  have hvt := decAt_lt hiv h0
  have htot := hm.tot
  have hfew := hm.few
  have hpos := hm.pos
  have hgood := h.live.good
  have hhi := hgood.hi
  have hiv1 := hiv.lo
  have hiv2 := hiv.hi
  obtain ⟨k0, _, _, _, k6, _, _, _⟩ := h.c.cells
  have m0 := hm.c0
  have m1 := hm.c1
  have g0 := hm.at_ hm.pos
  have hhigh := fun n => high_ok st.hi (w.drewN n) (h.c.drewN n) (by omega)
  have hv : decAt_ fr st = ((st.num - st.lo + 1) * fr.sum - 1) / (st.hi - st.lo + 1) := rfl
  have hf0 : (fr.take 0).sum + fr.getD 0 0 ≤ fr.sum := take_lt hm.pos
  obtain ⟨v, ev⟩ : ∃ v, v = decAt_ fr st := ⟨_, rfl⟩
  obtain ⟨t, et⟩ : ∃ t, t = fr.sum := ⟨_, rfl⟩
  obtain ⟨n, en⟩ : ∃ n, n = fr.length := ⟨_, rfl⟩
  obtain ⟨x0, ex0⟩ : ∃ x, x = fr.getD 0 0 := ⟨_, rfl⟩
  obtain ⟨lo, elo⟩ : ∃ l, l = st.lo := ⟨_, rfl⟩
  obtain ⟨hi, ehi⟩ : ∃ l, l = st.hi := ⟨_, rfl⟩
  obtain ⟨num, enum⟩ : ∃ l, l = st.num := ⟨_, rfl⟩
  rw [← ev, ← enum, ← elo, ← et, ← ehi] at hv
  rw [← ev, ← et] at hvt
  rw [← et] at htot m1 h0 hf0
  rw [← en] at hfew hpos m0
  rw [← ex0] at g0 hf0
  rw [← elo] at k0 hiv1
  rw [← enum] at k6 hiv1 hiv2
  rw [← ehi] at hiv2 hhi hhigh
  obtain ⟨sz, esz⟩ : ∃ sz, sz = hi - lo + 1 := ⟨_, rfl⟩
  obtain ⟨p, ep⟩ : ∃ p, p = (num - lo + 1) * t := ⟨_, rfl⟩
  rw [← esz, ← ep] at hv
  have hp1 : 1 ≤ p := by rw [ep]; exact Nat.mul_pos (by omega) h0
  have hp2 : p ≤ 35184372088832 := by
    rw [ep]
    calc (num - lo + 1) * t ≤ 4294967296 * 8192 := Nat.mul_le_mul (by omega) htot
      _ = 35184372088832 := rfl
  have r0 : (hi : Int) - (lo : Int) + 1 = (sz : Nat) := by omega
  obtain ⟨d, ed⟩ : ∃ d, d = num - lo := ⟨_, rfl⟩
  have r1 : (num : Int) - (lo : Int) = (d : Nat) := by omega
  have r2 : ((d : Int) + 1) * (t : Int) = (p : Nat) := by rw [ep, ← ed]; push_cast; rfl
  have r3 : ((p : Int) - 1) / (sz : Int) = (v : Nat) := by
    rw [hv, show ((p : Int) - 1) = ((p - 1 : Nat) : Int) from by omega]; rfl
  have hdb : d < 4294967296 := by omega
  have hszb : 1 ≤ sz := by omega
  have hx0 : x0 ≤ 8192 := by omega
  have hlh : lo ≤ hi := by omega
  have H := Lib.hid (And.intro h (And.intro hm (And.intro civ hsl)))
  have HE := Lib.hid (And.intro ev (And.intro et (And.intro en (And.intro ex0 hhigh))))
  clear h hm civ hsl ev et en ex0 elo ehi enum esz ep hv hhigh hgood hiv ed
  go_enter Try.func62, Try.ntmps62
  go_wp2_with fail
  go_quiet ((go_at_call 65; exact quiet_of_eq (HE.out.2.2.2.2 _)))
  rename Nat => nq1
  go_wp2_with fail
  go_quiet (fail)
  rename Nat => nq2
  go_wp2_with fail
  go_quiet (fail)
  rename Nat => nq3
  go_wp2_with fail
  rw [r3]
  have hz1 : EOk X (((w.drewN nq1).drewN nq2).drewN nq3) F st := ⟨((H.out.1.c.drewN _).drewN _).drewN _, H.out.1.live, H.out.1.base⟩
  have hz2 : MOk (((w.drewN nq1).drewN nq2).drewN nq3) bm g fr := H.out.2.1.same rfl rfl
  have hz3 : Fr F w F (((w.drewN nq1).drewN nq2).drewN nq3) := (((Fr.refl _ _).drewN _).drewN _).drewN _
  obtain ⟨wz, ewz⟩ : ∃ wz, wz = (((w.drewN nq1).drewN nq2).drewN nq3) := ⟨_, rfl⟩
  rw [← ewz] at hz1 hz2 hz3 ⊢
  have HZ := Lib.hid (And.intro hz1 (And.intro hz2 hz3))
  clear ewz hz1 hz2 hz3 k0 k6 m0 m1 g0 r0 r1 r2 r3
  go_loopg [7, 8] n (fun gh sv uv wr => ∃ j U : Nat, gh = n - j ∧ j < n ∧ sv = .int .i64 (j : Nat) ∧ uv = .int .u64 (U : Nat) ∧ (U = (fr.take j).sum + fr.getD j 0 ∧ (fr.take j).sum ≤ v ∧ wr = wz))
  case atStart => exact ⟨0, x0, rfl, hpos, rfl, rfl, by rw [HE.out.2.2.2.1]; simp, by simp, rfl⟩
  case round =>
    obtain ⟨j, U, hgh, hj, rfl, rfl, hU, hjv, rfl⟩ := hrel
    have Hgh := Lib.hid hgh; clear hgh
    have hUb : U ≤ t := by rw [hU, HE.out.2.1]; exact take_lt (by rw [← HE.out.2.2.1]; exact hj)
    by_cases hle : U ≤ v
    · have hj1 : j + 1 < n := by
        rcases Nat.lt_or_ge (j + 1) n with h | h
        · exact h
        · have e1 : (fr.take (j + 1)).sum = U := by rw [hU, sum_take_succ fr j (by rw [← HE.out.2.2.1]; exact hj)]
          rw [List.take_of_length_le (by rw [← HE.out.2.2.1]; omega), ← HE.out.2.1] at e1
          omega
      have m0 := HZ.out.2.1.c0
      rw [← HE.out.2.2.1] at m0
      have g1 := HZ.out.2.1.at_ (i := j + 1) (by rw [← HE.out.2.2.1]; exact hj1)
      have hs2 := sum_take_succ fr j (by rw [← HE.out.2.2.1]; exact hj)
      have hb2 : (fr.take (j + 1)).sum + fr.getD (j + 1) 0 ≤ t := by rw [HE.out.2.1]; exact take_lt (by rw [← HE.out.2.2.1]; exact hj1)
      obtain ⟨x1, ex1⟩ : ∃ x, x = fr.getD (j + 1) 0 := ⟨_, rfl⟩
      rw [← ex1] at g1 hb2
      rw [hs2, ← hU] at hb2
      have i1 : (U : Int) ≤ (v : Nat) := by omega
      have i2 : (0 : Int) ≤ ((j + 1 : Nat) : Int) := by omega
      have i3 : ((j + 1 : Nat) : Int) < (n : Nat) := by omega
      have HJ := Lib.hid (And.intro hU (And.intro hs2 ex1)); clear hU hs2 ex1
      obtain ⟨j1, ej1⟩ : ∃ q, q = j + 1 := ⟨_, rfl⟩
      rw [← ej1] at g1 i2 i3 hj1
      have r5 : (j : Int) + 1 = (j1 : Nat) := by omega
      have EJ := Lib.hid ej1; clear ej1 hjv hle
      go_wp2_with fail
      go_roundg (n - j1)
      case measure => have := Hgh.out; have := EJ.out; omega
      case rel =>
        refine ⟨j1, U + x1, rfl, hj1, rfl, by go_num, ?_, ?_, rfl⟩
        · rw [EJ.out, HJ.out.2.1, ← HJ.out.1, HJ.out.2.2]
        · rw [EJ.out, HJ.out.2.1, ← HJ.out.1]; omega
    · have i1 : (v : Int) < (U : Nat) := by omega
      have hsym : decSym fr st = j := symOf_eq fr _ j (by rw [← HE.out.1]; exact hjv) (by rw [← HE.out.1, ← hU]; omega)
      have HS := Lib.hid hsym; clear hsym hU hjv hle
      go_wp2_with fail
      have hcode := codes_ok (decSym fr st) wr HZ.out.1 hc HZ.out.2.1 H.out.2.2.2 hF hG
      rw [HS.out] at hcode
      have HC := Lib.hid hcode; clear hcode
      refine HC.out.mono ?_
      rintro e w4 ⟨rfl, F4, h4, hm4, fr4⟩
      have H4 := Lib.hid (And.intro h4 (And.intro hm4 fr4)); clear h4 hm4 fr4
      go_wp2_with fail
      go_ret
      rw [HS.out]
      have hciv := H.out.2.2.1
      rw [HS.out] at hciv
      refine ⟨rfl, F4, H4.out.1, hciv, H4.out.2.1, (HZ.out.2.2.more [bm, g]).trans H4.out.2.2⟩
end Go.Proofs.Ytdekcilfkelhlaa
