/- code. -/
import Derived.Test.YtdekcilfkelhlaaAScale
import Derived.BigQuiet
import Derived.BigRegion
set_option linter.unusedVariables false
namespace Go.Proofs.Ytdekcilfkelhlaa
open Go.RowKit

theorem quiet_of_eq2 {P : Program} {f : FuncId} {args : Array Value} {w : World} {a n : Nat} {v : Value}
    (h : Calls P f args (w.drewN (a + n)) fun e w' => e = .returned v ∧ w.drewN (a + n) = w') : Calls P f args (w.drewN (a + n)) fun e w'' => e = .returned v ∧ ∃ m, w'' = w.drewN (a + m) :=
  h.mono fun _ _ ⟨he, hm⟩ => ⟨he, n, hm.symm⟩
theorem pick_none {s : St} (h : pick s = none) : 2147483648 ≤ s.hi ∧ s.lo < 2147483648 ∧ (s.lo < 1073741824 ∨ 3221225472 ≤ s.hi) := by
  unfold pick at h
  split at h
  · cases h
  split at h
  · cases h
  split at h
  · cases h
  omega
theorem scaleN_cnt (bit : Nat → Nat) (k : Nat) : ∀ s, (scaleN bit k s).cnt = s.cnt := by
  induction k with
  | zero => intro s; rfl
  | succ k ih =>
    intro s
    simp only [scaleN]
    split
    · rfl
    · rw [ih]; rfl
/-- The interval of a symbol. -/
def narrow (fr : List Nat) (i : Nat) (s : St) : St :=
  { s with lo := s.lo + (s.hi - s.lo + 1) * (fr.take i).sum / fr.sum, hi := s.lo + (s.hi - s.lo + 1) * ((fr.take i).sum + fr.getD i 0) / fr.sum - 1 }
def codeSt (bit : Nat → Nat) (fr : List Nat) (i : Nat) (s : St) : St :=
  { scaleN bit 16 (narrow fr i s) with cnt := s.cnt + 1 }
theorem div_add_le (a b t : Nat) (ht : 0 < t) : a / t + b / t ≤ (a + b) / t := by
  rw [Nat.le_div_iff_mul_le ht, Nat.add_mul]
  exact Nat.add_le_add (Nat.div_mul_le_self a t) (Nat.div_mul_le_self b t)
theorem getD_pos {fr : List Nat} (h : ∀ x, x ∈ fr → 1 ≤ x) {i : Nat} (hi : i < fr.length) : 1 ≤ fr.getD i 0 := by
  rw [List.getD_eq_getElem?_getD, List.getElem?_eq_getElem hi]
  exact h _ (List.getElem_mem hi)
/-- The numbers of code. -/
theorem code_nums (sz a x t : Nat) (h1 : 1073741824 < sz) (h2 : sz ≤ 4294967296) (hx : 1 ≤ x) (ht : a + x ≤ t) (h3 : t ≤ 8192) :
    sz * a / t + 131072 ≤ sz * (a + x) / t ∧ sz * (a + x) / t ≤ sz ∧ sz * (a + x) ≤ 35184372088832 ∧ sz * a ≤ 35184372088832 := by
  have h0 : 0 < t := by omega
  refine ⟨?_, ?_, ?_, ?_⟩
  · have e1 : 131072 ≤ sz / t := by rw [Nat.le_div_iff_mul_le h0]; omega
    have e2 := div_add_le (sz * a) sz t h0
    have e3 : (sz * a + sz) / t ≤ sz * (a + x) / t := by
      refine Nat.div_le_div_right ?_
      rw [Nat.mul_add]
      have := Nat.mul_le_mul_left sz hx
      omega
    omega
  · rw [Nat.div_le_iff_le_mul_add_pred h0]
    have := Nat.mul_le_mul_left sz ht
    rw [Nat.mul_comm t sz]
    omega
  · calc sz * (a + x) ≤ 4294967296 * 8192 := Nat.mul_le_mul h2 (by omega)
      _ = 35184372088832 := rfl
  · calc sz * a ≤ 4294967296 * 8192 := Nat.mul_le_mul h2 (by omega)
      _ = 35184372088832 := rfl
theorem take_lt {fr : List Nat} {i : Nat} (hi : i < fr.length) : (fr.take i).sum + fr.getD i 0 ≤ fr.sum := by
  have := sum_take_le fr (i + 1)
  rw [sum_take_succ fr i hi] at this
  exact this
theorem narrow_good {fr : List Nat} {i : Nat} {s : St} (hg : Good s) (hs : pick s = none) (h1 : ∀ x, x ∈ fr → 1 ≤ x) (h2 : fr.sum ≤ 8192) (hi : i < fr.length) :
    Good (narrow fr i s) ∧ 131072 ≤ (narrow fr i s).hi - (narrow fr i s).lo + 1 ∧ s.lo ≤ (narrow fr i s).lo ∧ (narrow fr i s).hi ≤ s.hi := by
  obtain ⟨p1, p2, p3⟩ := pick_none hs
  have hh := hg.hi
  obtain ⟨c1, c2, _, _⟩ := code_nums (s.hi - s.lo + 1) ((fr.take i).sum) (fr.getD i 0) fr.sum (by omega) (by omega) (getD_pos h1 hi) (take_lt hi) h2
  have ho := hg.out
  have hn := hg.num
  unfold narrow
  generalize (s.hi - s.lo + 1) * (fr.take i).sum / fr.sum = qa at c1 ⊢
  generalize (s.hi - s.lo + 1) * ((fr.take i).sum + fr.getD i 0) / fr.sum = qb at c1 c2 ⊢
  refine ⟨⟨?_, ?_, ho, hn⟩, ?_, ?_, ?_⟩ <;> (simp only []; omega)

set_option maxRecDepth 100000 in
set_option maxHeartbeats 1000000 in
theorem code_ok {X : Box} {F : List Nat} {st : St} {bm g : Nat} {fr : List Nat} (i : Nat) (w : World) (h : COk X w F st (4294967295 - st.hi)) (hB : X.B ≤ w.heap.size) (hg : Good st) (hset : pick st = none) (hm : MOk w bm g fr) (hi : i < fr.length)
    (hF : bm ∉ F ∧ g ∉ F) (hG : bm ∉ X.G ∧ g ∉ X.G) (ha : st.at_ ≤ 900000) (hc : st.cnt ≤ 1000000) :
    Calls Try.prog 42 #[.pointer (some ⟨X.bw, 0, none⟩), .pointer (some ⟨bm, 0, none⟩), .int .i64 (i : Nat)] w fun e w' => e = .returned (.tuple #[]) ∧ ∃ F', COk X w' F' (codeSt X.bit fr i st) (4294967295 - (codeSt X.bit fr i st).hi) ∧ MOk w' bm g (learn fr i) ∧ Fr (F ++ [bm, g]) w (F' ++ [bm, g]) w' := by
  obtain ⟨ng, nr, nl, nh⟩ := narrow_good hg hset hm.one hm.tot hi
  obtain ⟨p1, p2, p3⟩ := pick_none hset
  have hhi := hg.hi
  obtain ⟨c1, c2, c3, c4⟩ := code_nums (st.hi - st.lo + 1) ((fr.take i).sum) (fr.getD i 0) fr.sum (by omega) (by omega) (getD_pos hm.one hi) (take_lt hi) hm.tot
  have htot := hm.tot
  have hfew := hm.few
  have htk := take_lt hi
  have hx1 := getD_pos hm.one hi
  have hbel := fun n => below_ok i (w.drewN n) (hm.same rfl rfl) (Nat.le_of_lt hi)
  have hhigh := fun n => high_ok st.hi (w.drewN n) (h.drewN n) (by omega)
  have hnar : narrow fr i st = { st with lo := st.lo + (st.hi - st.lo + 1) * (fr.take i).sum / fr.sum, hi := st.lo + (st.hi - st.lo + 1) * ((fr.take i).sum + fr.getD i 0) / fr.sum - 1 } := rfl
  obtain ⟨m0, m1⟩ := And.intro hm.c0 hm.c1
  have mi := hm.at_ hi
  obtain ⟨a, ea⟩ : ∃ a, a = (fr.take i).sum := ⟨_, rfl⟩
  obtain ⟨x, ex⟩ : ∃ x, x = fr.getD i 0 := ⟨_, rfl⟩
  obtain ⟨t, et⟩ : ∃ t, t = fr.sum := ⟨_, rfl⟩
  obtain ⟨n, en⟩ : ∃ n, n = fr.length := ⟨_, rfl⟩
  rw [← ea, ← ex, ← et] at c1 c2 hnar
  rw [← ea, ← ex] at c3
  rw [← ea] at c4
  rw [← ea, ← ex, ← et] at htk
  rw [← ea] at hbel
  rw [← ex] at mi hx1
  rw [← et] at m1 htot
  rw [← en] at m0 hfew
  have hin : i < n := by omega
  obtain ⟨lo, elo⟩ : ∃ l, l = st.lo := ⟨_, rfl⟩
  obtain ⟨hh, ehh⟩ : ∃ l, l = st.hi := ⟨_, rfl⟩
  obtain ⟨k0, k1, _, k3, _, _, _, kf⟩ := h.cells
  have f0 := kf 0
  have f1 := kf 1
  have f3 := kf 3
  rw [← elo] at k0
  rw [← elo, ← ehh] at c1 c2 c3 c4 hnar p3
  rw [← ehh] at p1
  rw [← elo] at p2
  rw [← ehh] at k1 hhigh hhi
  obtain ⟨sz, esz⟩ : ∃ sz, sz = hh - lo + 1 := ⟨_, rfl⟩
  rw [← esz] at c1 c2 c3 c4 hnar
  obtain ⟨pb, epb⟩ : ∃ p, p = sz * (a + x) := ⟨_, rfl⟩
  obtain ⟨pa, epa⟩ : ∃ p, p = sz * a := ⟨_, rfl⟩
  rw [← epb, ← epa] at c1
  rw [← epb] at c2 c3 
  rw [← epa] at c4
  rw [← epb, ← epa] at hnar
  obtain ⟨qb, eqb⟩ : ∃ p, p = pb / t := ⟨_, rfl⟩
  obtain ⟨qa, eqa⟩ : ∃ p, p = pa / t := ⟨_, rfl⟩
  rw [← eqb, ← eqa] at c1 hnar
  rw [← eqb] at c2
  have r1 : (sz : Int) * ((a : Int) + (x : Int)) = (pb : Nat) := by rw [epb]; push_cast; rfl
  have r2 : (sz : Int) * (a : Int) = (pa : Nat) := by rw [epa]; push_cast; rfl
  have r3 : (pb : Int) / (t : Int) = (qb : Nat) := by rw [eqb]; rfl
  have r4 : (pa : Int) / (t : Int) = (qa : Nat) := by rw [eqa]; rfl
  have hsz : (hh : Int) - (lo : Int) + 1 = (sz : Nat) := by omega
  have H := Lib.hid (And.intro h (And.intro hm (And.intro hnar (And.intro ng (And.intro nr hB)))))
  have HC := Lib.hid (And.intro hbel hhigh)
  have HE := Lib.hid (And.intro elo (And.intro ehh esz))
  clear h hm hnar ng nr hB hbel hhigh elo ehh epb epa eqb eqa ea ex et en hg hset nl nh kf
  have hl1 : lo ≤ hh := by omega
  clear p1 p2 p3 esz
  go_enter Try.func42, Try.ntmps42
  go_wp2_with fail
  go_quiet ((go_at_call 64; exact quiet_of_eq (HC.out.1 _)))
  rename Nat => nq1
  go_wp2_with fail
  go_quiet ((go_at_call 65; exact quiet_of_eq2 (HC.out.2 _)))
  rename Nat => nq2
  go_wp2_with fail
  go_quiet (fail)
  rename Nat => nq3
  go_upto_region 4 with fail
  have hz1 : COk X (((w.drewN nq1).drewN nq2).drewN nq3) F st (4294967295 - st.hi) := ((H.out.1.drewN _).drewN _).drewN _
  have hz2 : MOk (((w.drewN nq1).drewN nq2).drewN nq3) bm g fr := H.out.2.1.same rfl rfl
  have hz3 : Fr F w F (((w.drewN nq1).drewN nq2).drewN nq3) := (((Fr.refl _ _).drewN _).drewN _).drewN _
  have hz4 : X.B ≤ (((w.drewN nq1).drewN nq2).drewN nq3).heap.size := H.out.2.2.2.2.2
  obtain ⟨wz, ewz⟩ : ∃ wz, wz = (((w.drewN nq1).drewN nq2).drewN nq3) := ⟨_, rfl⟩
  rw [← ewz] at hz1 hz2 hz3 hz4 ⊢
  clear ewz k0 k1 f0 f1
  obtain ⟨k0, k1, _, _, _, _, _, kf⟩ := hz1.cells
  have f0 := kf 0
  have f1 := kf 1
  rw [← HE.out.1] at k0
  rw [← HE.out.2.1] at k1
  have HZ := Lib.hid (And.intro hz1 (And.intro hz2 (And.intro hz3 hz4)))
  clear hz1 hz2 hz3 hz4 kf f3 k3
  go_cut [] (fun wx => COk X wx F (narrow fr i st) (4294967295 - (narrow fr i st).hi) ∧ Fr F w F wx ∧ MOk wx bm g fr)
  case first =>
    go_region
    all_goals
      go_wp2_with fail
      go_meet
      have e1 : (4294967295 : Int) - ((lo : Int) + (qb : Int) - 1) = ((4294967295 - (lo + qb - 1) : Nat) : Int) := by omega
      rw [e1]
      have hne : ∀ q, q ∉ F → X.bw ≠ q := fun q hq e => hq (by rw [← e]; exact HZ.out.1.head)
      refine ⟨?_, ((HZ.out.2.2.1.store HZ.out.1.head 0 _).store HZ.out.1.head 1 _).drewN 1, ?_⟩
      · rw [H.out.2.2.1]
        exact (((HZ.out.1.set_lo (lo + qa)).set_sh (4294967295 - (lo + qb - 1))).hi _).drew
      · refine HZ.out.2.1.same ?_ ?_
        · exact (Below.heap_setCell _ _ _ _ (hne bm hF.1).symm).trans (Below.heap_setCell _ _ _ _ (hne bm hF.1).symm)
        · exact (Below.heap_setCell _ _ _ _ (hne g hF.2).symm).trans (Below.heap_setCell _ _ _ _ (hne g hF.2).symm)
  case rest =>
    have HW := Lib.hid hcut; clear hcut k0 k1 f0 f1 r1 r2 r3 r4 hsz
    go_wp2_with fail
    refine (scale_ok wc HW.out.1 (by have := H.out.2.2.2.1.hi; omega) (Nat.le_trans H.out.2.2.2.2.2 HW.out.2.1.size) H.out.2.2.2.1 H.out.2.2.2.2.1 ha).mono ?_
    rintro e w1 ⟨rfl, F1, h1, fr1⟩
    have hb1 : bm ∉ F ∧ g ∉ F := hF
    have hm1 := HW.out.2.2.keep fr1 hF.1 hF.2
    have H1 := Lib.hid (And.intro h1 (And.intro fr1 hm1)); clear h1 fr1 hm1
    go_wp2_with fail
    refine (learn_ok i w1 H1.out.2.2 hi).mono ?_
    rintro e w2 ⟨rfl, hm2, fr2⟩
    have hF1 : bm ∉ F1 ∧ g ∉ F1 := by
      have hl := H1.out.2.1.apart (H := [bm, g]) (by intro q hq; simp at hq; rcases hq with rfl | rfl; exact hF.1; exact hF.2) (by intro q hq; simp at hq; rcases hq with rfl | rfl; exact lt_of_block HW.out.2.2.blk; exact lt_of_block HW.out.2.2.row)
      exact ⟨hl bm (by simp), hl g (by simp)⟩
    have h2 := H1.out.1.keep fr2 (by intro q hq h; simp at h; rcases h with rfl | rfl; exact hF1.1 hq; exact hF1.2 hq) (by intro q hq h; simp at h; rcases h with rfl | rfl; exact hG.1 hq; exact hG.2 hq)
    obtain ⟨_, _, _, k3, _, _, _, kf⟩ := h2.cells
    have f3 := kf 3
    have hcnt : (scaleN X.bit 16 (narrow fr i st)).cnt = st.cnt := (scaleN_cnt _ _ _).trans rfl
    rw [hcnt] at k3
    have H2 := Lib.hid (And.intro h2 (And.intro fr2 (And.intro hm2 (And.intro hF1 hcnt)))); clear h2 fr2 hm2 kf hF1 hcnt
    go_wp2_with fail
    go_end0
    refine ⟨rfl, F1, ?_, ?_, ?_⟩
    · have := H2.out.1.set_cnt (st.cnt + 1)
      exact this
    · refine H2.out.2.2.1.same ?_ ?_
      · exact Below.heap_setCell _ _ _ _ (fun e => H2.out.2.2.2.1.1 (by rw [e]; exact H2.out.1.head))
      · exact Below.heap_setCell _ _ _ _ (fun e => H2.out.2.2.2.1.2 (by rw [e]; exact H2.out.1.head))
    · have q1 : Fr (F ++ [bm, g]) w (F1 ++ [bm, g]) w1 := (HW.out.2.1.trans H1.out.2.1).more [bm, g]
      have q2 : Fr (F1 ++ [bm, g]) w1 (F1 ++ [bm, g]) w2 := ⟨H2.out.2.1.os, H2.out.2.1.tape, H2.out.2.1.output, H2.out.2.1.size, fun q hq hn => H2.out.2.1.block q hq (fun e => hn (List.mem_append_right _ e)), fun q hq => Or.inl hq⟩
      exact (q1.trans q2).store (List.mem_append_left _ H2.out.1.head) 3 _
end Go.Proofs.Ytdekcilfkelhlaa
