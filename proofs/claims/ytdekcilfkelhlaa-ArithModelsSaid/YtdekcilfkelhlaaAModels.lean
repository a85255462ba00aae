/- ArithModels: the walk. -/
import Derived.Test.YtdekcilfkelhlaaAAwake
import Derived.Deep.DeepCutAuto
set_option linter.unusedVariables false
namespace Go.Proofs.Ytdekcilfkelhlaa
open Go.RowKit

theorem BRow.at_ {w : World} {A : Option Addr} {n : Nat} {f : Nat → Nat} (h : BRow w A n f) {i : Nat} (hi : i < n) : ∃ ad, A = some ad ∧ w.cell? (ad.add i) = some (.int .u8 ((f i : Nat) : Int)) := h i hi
theorem BRow.less {w : World} {A : Option Addr} {n m : Nat} {f : Nat → Nat} (h : BRow w A n f) (hm : m ≤ n) : BRow w A m f := fun i hi => h i (by omega)
theorem learn_at (fr : List Nat) (s t : Nat) (hs : s < fr.length) (ht : t < fr.length) :
    (learn fr s).getD t 0 = if fr.sum + 32 ≤ 8192 then (if s = t then fr.getD s 0 + 32 else fr.getD t 0) else (if s = t then (fr.getD s 0 + 32 + 1) / 2 else (fr.getD t 0 + 1) / 2) := by
  unfold learn
  by_cases hst : s = t
  · subst hst
    split <;> simp [List.getD_eq_getElem?_getD, hs, half1]
  · split <;> simp [List.getD_eq_getElem?_getD, ht, hs, hst, half1, List.getElem?_set_ne hst]
theorem learn_sum (fr : List Nat) (s : Nat) (hs : s < fr.length) (h : fr.sum + 32 ≤ 8192) : (learn fr s).sum = fr.sum + 32 := by
  unfold learn; rw [if_pos h, sum_set fr s 32 hs]

theorem Ses.mv4 {w0 w : World} {l : List Part} {a b c d x : Part} (h : Ses w0 w (a :: b :: c :: d :: x :: l)) : Ses w0 w (x :: a :: b :: c :: d :: l) := h.perm (List.perm_middle (l₁ := [a, b, c, d]))
/-- The second model is put by one Encoder or the other. -/
theorem put_second {w0 w : World} {ma ga mb gb b1 b2 b3 bs : Nat} {fr fr' F1 F2 F3 : List Nat} {s1 s2 s3 : St} (i : Nat) (h : Ses w0 w [encPart w0.heap.size b1 F1 s1, mPart ma ga fr', encPart w0.heap.size b2 F2 s2, mPart mb gb fr, encPart w0.heap.size b3 F3 s3])
    (c2 : s2.cnt < 32768) (c3 : s3.cnt < 32768) (hi : i < fr.length) (hb : bs = b2 ∨ bs = b3) :
    Calls Try.prog 15 #[.pointer (some ⟨bs, 0, none⟩), .pointer (some ⟨mb, 0, none⟩), .int .i64 (i : Nat)] w fun e w' => e = .returned (.int .i64 0) ∧ ∃ F2' F3' s2' s3', Ses w0 w' [encPart w0.heap.size b1 F1 s1, mPart ma ga fr', encPart w0.heap.size b2 F2' s2', mPart mb gb (learn fr i), encPart w0.heap.size b3 F3' s3'] ∧ s2'.cnt ≤ s2.cnt + 1 ∧ s3'.cnt ≤ s3.cnt + 1 := by
  rcases hb with rfl | rfl
  · refine (h.mv3.mv3.put i c2 hi).mono ?_
    rintro e w' ⟨rfl, F', h'⟩
    exact ⟨rfl, F', F3, _, s3, h'.mv3.mv3, Nat.le_refl _, by omega⟩
  · refine (h.mv3.mv4.put i c3 hi).mono ?_
    rintro e w' ⟨rfl, F', h'⟩
    exact ⟨rfl, F2, F', s2, _, h'.mv1.mv4.mv4.mv4, by omega, Nat.le_refl _⟩

structure MRel (w0 wr : World) (n ma ga mb gb b1 b2 b3 j : Nat) (fr : List Nat) (F1 F2 F3 : List Nat) (s1 s2 s3 : St) : Prop where
  ses : Ses w0 wr [encPart w0.heap.size b1 F1 s1, mPart ma ga fr, encPart w0.heap.size b2 F2 s2, mPart mb gb fr, encPart w0.heap.size b3 F3 s3]
  len : fr.length = n
  one : ∀ x, x ∈ fr → 1 ≤ x
  tot : fr.sum ≤ 8192
  c1 : s1.cnt ≤ j
  c2 : s2.cnt ≤ j
  c3 : s3.cnt ≤ j

set_option maxRecDepth 100000 in
set_option maxHeartbeats 2000000 in
theorem models_walk (k : Nat) (A : Option Addr) (n cap : Nat) (f : Nat → Nat) (w : World) (hk : k ≤ 255) (hA : BRow w A n f) (hf : ∀ i, f i < 256) (hn : n ≤ cap) (hc : cap ≤ 9223372036854775807) :
    Calls Try.prog 3 #[.int .u8 (k : Nat), .slice A n cap] w fun e w' => e = .returned (.bool true) ∧ Below w.heap.size w w' := by
  obtain ⟨m, hm⟩ : ∃ m : Nat, (if (400 : Int) < (n : Int) then (400 : Int) else (n : Int)) = (m : Int) := ⟨min n 400, by split <;> omega⟩
  have hm4 : m ≤ 400 ∧ m ≤ n := by split at hm <;> omega
  have hA' := hA.less hm4.2
  have H := Lib.hid (And.intro hA' hf)
  clear hA hA' hf
  obtain ⟨sz, esz⟩ : ∃ sz, sz = 1 + k := ⟨_, rfl⟩
  have hsz : (1 : Int) + (k : Int) = (sz : Nat) := by omega
  have hsz1 : 1 ≤ sz ∧ sz ≤ 256 := by omega
  have HS := Lib.hid (Ses.start w)
  clear esz
  go_enter Try.func3, Try.ntmps3
  go_wp2_with fail
  refine (HS.out.model sz hsz1.1 hsz1.2).mono ?_
  rintro e w1 ⟨ma, ga, rfl, h1⟩
  have H1 := Lib.hid h1; clear h1 HS
  go_wp2_with fail
  refine (H1.out.model sz hsz1.1 hsz1.2).mono ?_
  rintro e w2 ⟨mb, gb, rfl, h2⟩
  have h3 := h2.enc.enc.enc
  rw [World.size_alloc, World.size_alloc] at h3
  have H3 := Lib.hid h3; clear h2 h3 H1
  go_wp2_with fail
  go_loopg [52] m (fun gh i wr => ∃ (j : Nat) (fr F1 F2 F3 : List Nat) (s1 s2 s3 : St), gh = m - j ∧ j ≤ m ∧ i = .int .i64 (j : Nat) ∧ MRel w wr sz ma ga mb gb w2.heap.size (w2.heap.size + 1) (w2.heap.size + 1 + 1) j fr F1 F2 F3 s1 s2 s3)
  case atStart =>
    refine ⟨0, List.replicate sz 1, [w2.heap.size], [w2.heap.size + 1], [w2.heap.size + 1 + 1], st0, st0, st0, by omega, by omega, rfl, ⟨H3.out.mv3.mv2.mv4.mv4, by simp, fun x hx => by rw [List.eq_of_mem_replicate hx]; exact Nat.le_refl _, by rw [sum_replicate]; omega, Nat.le_refl _, Nat.le_refl _, Nat.le_refl _⟩⟩
  case round =>
    obtain ⟨j, fr, F1, F2, F3, s1, s2, s3, hgh, hj, rfl, hR⟩ := hrel
    have Hgh := Lib.hid hgh; clear hgh
    have HR := Lib.hid hR; clear hR H3
    by_cases hlt : j < m
    · obtain ⟨ad, rfl, hc0⟩ := (H.out.1.keepd HR.out.ses.bel).at_ hlt
      obtain ⟨ad', ead, hc1⟩ := (H.out.1.keepd HR.out.ses.bel).at_ (i := m - 1 - j) (by omega)
      injection ead with ead
      subst ead
      obtain ⟨x, ex⟩ : ∃ x, x = f j := ⟨_, rfl⟩
      obtain ⟨y, ey⟩ : ∃ y, y = f (m - 1 - j) := ⟨_, rfl⟩
      rw [← ex] at hc0
      rw [← ey] at hc1
      have hx : x < 256 := by rw [ex]; exact H.out.2 _
      have hy : y < 256 := by rw [ey]; exact H.out.2 _
      clear ex ey
      obtain ⟨q, eq⟩ : ∃ q, q = m - 1 - j := ⟨_, rfl⟩
      rw [← eq] at hc1
      have hq : (m : Int) - 1 - (j : Int) = (q : Nat) := by omega
      have hq1 : q < m := by omega
      have i0 : (0 : Int) ≤ (j : Int) := by omega
      have i1 : (j : Int) < (m : Int) := by omega
      have i2 : (0 : Int) ≤ (q : Int) := by omega
      have i3 : (q : Int) < (m : Int) := by omega
      obtain ⟨s, es⟩ : ∃ s, s = x % sz := ⟨_, rfl⟩
      obtain ⟨t, et⟩ : ∃ t, t = y % sz := ⟨_, rfl⟩
      have hss : s < sz := by rw [es]; exact Nat.mod_lt _ (by omega)
      have htt : t < sz := by rw [et]; exact Nat.mod_lt _ (by omega)
      have hs : (x : Int) % (sz : Int) = (s : Nat) := by rw [es]; rfl
      have ht : (y : Int) % (sz : Int) = (t : Nat) := by rw [et]; rfl
      clear es et eq
      go_wp2_with fail
      go_quiet (fail)
      rename Nat => nq
      have hse := HR.out.ses.drewN nq
      have HE := Lib.hid hse; clear hse
      have hfs := HR.out.len
      have hone := HR.out.one
      have hsum := HR.out.tot
      have hw1 := learn_at fr s s (by omega) (by omega)
      have hw2 := learn_at fr s t (by omega) (by omega)
      obtain ⟨hg1, hg2⟩ := learn_good (fr := fr) (s := s) (by omega) (by omega) hone hsum
      have hn1 : 1 ≤ (learn fr s).getD s 0 := getD_pos hg1 (by rw [learn_length]; omega)
      have hn2 : 1 ≤ (learn fr s).getD t 0 := getD_pos hg1 (by rw [learn_length]; omega)
      have hls := fun h => learn_sum fr s (by omega) h
      have hb1 : fr.getD s 0 ≤ fr.sum := by have := take_lt (fr := fr) (i := s) (by omega); omega
      have hb2 : fr.getD t 0 ≤ fr.sum := by have := take_lt (fr := fr) (i := t) (by omega); omega
      obtain ⟨was, ewas⟩ : ∃ v, v = fr.getD s 0 := ⟨_, rfl⟩
      obtain ⟨wit, ewit⟩ : ∃ v, v = fr.getD t 0 := ⟨_, rfl⟩
      obtain ⟨tot, etot⟩ : ∃ v, v = fr.sum := ⟨_, rfl⟩
      obtain ⟨now, enow⟩ : ∃ v, v = (learn fr s).getD s 0 := ⟨_, rfl⟩
      obtain ⟨thn, ethn⟩ : ∃ v, v = (learn fr s).getD t 0 := ⟨_, rfl⟩
      obtain ⟨tot', etot'⟩ : ∃ v, v = (learn fr s).sum := ⟨_, rfl⟩
      rw [← enow, ← ewas, ← etot] at hw1
      rw [← ethn, ← ewas, ← ewit, ← etot] at hw2
      rw [← enow] at hn1
      rw [← ethn] at hn2
      rw [← etot'] at hg2
      rw [← etot', ← etot] at hls
      rw [← ewas, ← etot] at hb1
      rw [← ewit, ← etot] at hb2
      rw [← etot] at hsum
      rw [if_pos rfl, if_pos rfl] at hw1
      have HF := Lib.hid (And.intro ewas (And.intro ewit (And.intro etot (And.intro enow (And.intro ethn (And.intro etot' (And.intro hw1 (And.intro hw2 (And.intro hls (And.intro hg1 hfs))))))))))
      clear ewas ewit etot enow ethn etot' hw1 hw2 hls hone hg1 hfs
      go_wp2_with fail
      refine (HE.out.mv1.freq (s : Int) (was : Int) (by rw [if_pos (by omega), Int.toNat_natCast, HF.out.1])).mono ?_
      rintro e w5 ⟨rfl, rfl⟩
      go_wp2_with fail
      refine (HE.out.mv1.freq (t : Int) (wit : Int) (by rw [if_pos (by omega), Int.toNat_natCast, HF.out.2.1])).mono ?_
      rintro e w5 ⟨rfl, rfl⟩
      go_wp2_with fail
      refine (HE.out.mv1.total (tot : Int) (by rw [HF.out.2.2.1])).mono ?_
      rintro e w5 ⟨rfl, rfl⟩
      go_upto_if 82 with fail
      go_cut [21] (fun v wx => (∃ bs : Nat, v = .pointer (some ⟨bs, 0, none⟩) ∧ (bs = w2.heap.size + 1 ∨ bs = w2.heap.size + 1 + 1)) ∧ wx = wr.drewN nq)
      case first =>
        by_cases hx2 : x % 2 = 1
        · have hd : ((x : Int) % 2 == 1) = true := by rw [beq_iff_eq]; omega
          clear hx2
          go_wp2_with fail
          go_meet
          exact ⟨⟨_, rfl, Or.inr rfl⟩, rfl⟩
        · have hd : ((x : Int) % 2 == 1) = false := by rw [beq_eq_false_iff_ne]; omega
          clear hx2
          go_wp2_with fail
          go_meet
          exact ⟨⟨_, rfl, Or.inl rfl⟩, rfl⟩
      case rest =>
        obtain ⟨⟨bs, rfl, hbs⟩, hwc⟩ := hcut
        subst hwc
        have HB := Lib.hid hbs; clear hbs
        go_wp2_with fail
        refine (HE.out.put s (by have := HR.out.c1; omega) (by rw [HF.out.2.2.2.2.2.2.2.2.2.2]; exact hss)).mono ?_
        rintro e w6 ⟨rfl, F1', h6⟩
        have H6 := Lib.hid h6; clear h6
        go_wp2_with fail
        refine (put_second (bs := bs) s H6.out (by have := HR.out.c2; omega) (by have := HR.out.c3; omega) (by rw [HF.out.2.2.2.2.2.2.2.2.2.2]; exact hss) HB.out).mono ?_
        rintro e w7 ⟨rfl, F2', F3', s2', s3', h7, hc2, hc3⟩
        have H7 := Lib.hid (And.intro h7 (And.intro hc2 hc3)); clear h7 hc2 hc3
        go_wp2_with fail
        refine (H7.out.1.mv1.freq (s : Int) (now : Int) (by rw [if_pos (by omega), Int.toNat_natCast, HF.out.2.2.2.1])).mono ?_
        rintro e w8 ⟨rfl, rfl⟩
        go_wp2_with fail
        refine (H7.out.1.mv1.freq (t : Int) (thn : Int) (by rw [if_pos (by omega), Int.toNat_natCast, HF.out.2.2.2.2.1])).mono ?_
        rintro e w8 ⟨rfl, rfl⟩
        have d1 : decide ((8192 : Int) < (tot' : Nat)) = false := decide_eq_false (by omega)
        have d2 : decide (((now : Nat) : Int) < 1) = false := decide_eq_false (by omega)
        have d3 : decide (((thn : Nat) : Int) < 1) = false := decide_eq_false (by omega)
        go_wp2_with fail
        refine (H7.out.1.mv1.total (tot' : Int) (by rw [HF.out.2.2.2.2.2.1])).mono ?_
        rintro e w8 ⟨rfl, rfl⟩
        go_wp2_with fail
        refine (H7.out.1.mv1.total (tot' : Int) (by rw [HF.out.2.2.2.2.2.1])).mono ?_
        rintro e w8 ⟨rfl, rfl⟩
        go_wp2_with fail
        refine (H7.out.1.mv3.total (tot' : Int) (by rw [HF.out.2.2.2.2.2.1])).mono ?_
        rintro e w8 ⟨rfl, rfl⟩
        go_wp2_with fail
        refine (H7.out.1.mv3.freq (s : Int) (now : Int) (by rw [if_pos (by omega), Int.toNat_natCast, HF.out.2.2.2.1])).mono ?_
        rintro e w8 ⟨rfl, rfl⟩
        by_cases hsm : tot + 32 ≤ 8192
        · have q1 := HF.out.2.2.2.2.2.2.1
          have q2 := HF.out.2.2.2.2.2.2.2.1
          have q3 := HF.out.2.2.2.2.2.2.2.2.1 hsm
          rw [if_pos hsm] at q1 q2
          have d4 : decide ((tot : Int) + 32 ≤ 8192) = true := decide_eq_true (by omega)
          have e1 : ((now : Int) != (was : Int) + 32) = false := by rw [bne_eq_false_iff_eq]; omega
          have e2 : ((tot' : Int) != (tot : Int) + 32) = false := by rw [bne_eq_false_iff_eq]; omega
          by_cases hst : s = t
          · have e3 : ((s : Int) != (t : Int)) = false := by rw [bne_eq_false_iff_eq]; omega
            clear hst q1 q2 q3
            go_wp2_with fail
            refine (H7.out.1.mv1.total (tot' : Int) (by rw [HF.out.2.2.2.2.2.1])).mono ?_
            rintro e w8 ⟨rfl, rfl⟩
            go_wp2_with fail
            go_roundg (m - (j + 1))
            case measure => have := Hgh.out; omega
            case rel =>
              refine ⟨j + 1, learn fr s, F1', F2', F3', _, s2', s3', rfl, by omega, by go_num, H7.out.1, by rw [learn_length]; exact HF.out.2.2.2.2.2.2.2.2.2.2, HF.out.2.2.2.2.2.2.2.2.2.1, by rw [← HF.out.2.2.2.2.2.1]; exact hg2, ?_, ?_, ?_⟩
              · show s1.cnt + 1 ≤ j + 1; have := HR.out.c1; omega
              · have := HR.out.c2; have := H7.out.2.1; omega
              · have := HR.out.c3; have := H7.out.2.2; omega
          · rw [if_neg hst] at q2
            have e3 : ((s : Int) != (t : Int)) = true := by rw [bne_iff_ne]; omega
            have e4 : ((thn : Int) != (wit : Int)) = false := by rw [bne_eq_false_iff_eq]; omega
            clear hst q1 q2 q3
            go_wp2_with fail
            refine (H7.out.1.mv1.total (tot' : Int) (by rw [HF.out.2.2.2.2.2.1])).mono ?_
            rintro e w8 ⟨rfl, rfl⟩
            go_wp2_with fail
            go_roundg (m - (j + 1))
            case measure => have := Hgh.out; omega
            case rel =>
              refine ⟨j + 1, learn fr s, F1', F2', F3', _, s2', s3', rfl, by omega, by go_num, H7.out.1, by rw [learn_length]; exact HF.out.2.2.2.2.2.2.2.2.2.2, HF.out.2.2.2.2.2.2.2.2.2.1, by rw [← HF.out.2.2.2.2.2.1]; exact hg2, ?_, ?_, ?_⟩
              · show s1.cnt + 1 ≤ j + 1; have := HR.out.c1; omega
              · have := HR.out.c2; have := H7.out.2.1; omega
              · have := HR.out.c3; have := H7.out.2.2; omega
        · have q1 := HF.out.2.2.2.2.2.2.1
          have q2 := HF.out.2.2.2.2.2.2.2.1
          rw [if_neg hsm] at q1 q2
          have d4 : decide ((tot : Int) + 32 ≤ 8192) = false := decide_eq_false (by omega)
          have e1 : ((now : Int) != ((was : Int) + 32 + 1) / 2) = false := by rw [bne_eq_false_iff_eq]; omega
          by_cases hst : s = t
          · have e3 : ((s : Int) != (t : Int)) = false := by rw [bne_eq_false_iff_eq]; omega
            clear hst q1 q2
            go_wp2_with fail
            go_roundg (m - (j + 1))
            case measure => have := Hgh.out; omega
            case rel =>
              refine ⟨j + 1, learn fr s, F1', F2', F3', _, s2', s3', rfl, by omega, by go_num, H7.out.1, by rw [learn_length]; exact HF.out.2.2.2.2.2.2.2.2.2.2, HF.out.2.2.2.2.2.2.2.2.2.1, by rw [← HF.out.2.2.2.2.2.1]; exact hg2, ?_, ?_, ?_⟩
              · show s1.cnt + 1 ≤ j + 1; have := HR.out.c1; omega
              · have := HR.out.c2; have := H7.out.2.1; omega
              · have := HR.out.c3; have := H7.out.2.2; omega
          · rw [if_neg hst] at q2
            have e3 : ((s : Int) != (t : Int)) = true := by rw [bne_iff_ne]; omega
            have e4 : ((thn : Int) != ((wit : Int) + 1) / 2) = false := by rw [bne_eq_false_iff_eq]; omega
            clear hst q1 q2
            go_wp2_with fail
            go_roundg (m - (j + 1))
            case measure => have := Hgh.out; omega
            case rel =>
              refine ⟨j + 1, learn fr s, F1', F2', F3', _, s2', s3', rfl, by omega, by go_num, H7.out.1, by rw [learn_length]; exact HF.out.2.2.2.2.2.2.2.2.2.2, HF.out.2.2.2.2.2.2.2.2.2.1, by rw [← HF.out.2.2.2.2.2.1]; exact hg2, ?_, ?_, ?_⟩
              · show s1.cnt + 1 ≤ j + 1; have := HR.out.c1; omega
              · have := HR.out.c2; have := H7.out.2.1; omega
              · have := HR.out.c3; have := H7.out.2.2; omega
    · obtain rfl : j = m := by omega
      obtain ⟨fr0, efr0⟩ : ∃ fr0, fr0 = fr := ⟨_, rfl⟩
      have hl := HR.out.len
      have ht0 := HR.out.tot
      go_wp2_with fail
      go_loopg [24, 170] sz (fun gh v i wx => ∃ (q S : Nat), gh = sz - q ∧ q ≤ sz ∧ i = .int .i64 (q : Nat) ∧ v = .int .i64 (S : Nat) ∧ (S = (fr.take q).sum ∧ wx = wr))
      case atStart => exact ⟨0, 0, by omega, by omega, rfl, rfl, by simp, rfl⟩
      case round =>
        obtain ⟨q, S, hgh, hq, rfl, rfl, hS, rfl⟩ := hrel
        have Hg2 := Lib.hid hgh; clear hgh
        have hSb : S ≤ 8192 := by rw [hS]; exact Nat.le_trans (sum_take_le _ _) ht0
        by_cases hlt2 : q < sz
        · have hss := sum_take_succ fr q (by omega)
          have hbx := take_lt (fr := fr) (i := q) (by omega)
          obtain ⟨v, ev⟩ : ∃ v, v = fr.getD q 0 := ⟨_, rfl⟩
          rw [← ev] at hss hbx
          rw [← hS] at hss hbx
          have hvb : v ≤ 8192 := by omega
          have HV := Lib.hid (And.intro ev (And.intro hss hS)); clear ev hss hS efr0 hbx
          go_wp2_with fail
          refine (HR.out.ses.mv1.freq (q : Int) (v : Int) (by rw [if_pos (by omega), Int.toNat_natCast, HV.out.1])).mono ?_
          rintro e w8 ⟨rfl, rfl⟩
          go_wp2_with fail
          go_roundg (sz - (q + 1))
          case measure => have := Hg2.out; omega
          case rel => exact ⟨q + 1, S + v, by omega, by omega, by go_num, by go_num, HV.out.2.1.symm, rfl⟩
        · obtain rfl : q = sz := by omega
          rw [List.take_of_length_le (by omega)] at hS
          have HV := Lib.hid hS; clear hS efr0 hl
          go_wp2_with fail
          refine (HR.out.ses.mv1.total (S : Int) (by rw [HV.out])).mono ?_
          rintro e w8 ⟨rfl, rfl⟩
          go_wp2_with fail
          refine (HR.out.ses.mv1.freq (-1) 0 (by rw [if_neg (by decide)]; rfl)).mono ?_
          rintro e w8 ⟨rfl, rfl⟩
          go_wp2_with fail
          refine (HR.out.ses.mv1.freq (q : Int) 0 (by rw [if_pos (by omega), Int.toNat_natCast, List.getD_eq_getElem?_getD, List.getElem?_eq_none (by rw [HR.out.len]; exact Nat.le_refl _)]; rfl)).mono ?_
          rintro e w8 ⟨rfl, rfl⟩
          go_wp2_with fail
          refine (awake_ok _).mono ?_
          rintro e w9 ⟨rfl, hb9⟩
          have HB9 := Lib.hid (then_ HR.out.ses.bel hb9); clear hb9
          go_wp2_with fail
          go_ret
          exact ⟨rfl, HB9.out⟩
end Go.Proofs.Ytdekcilfkelhlaa
