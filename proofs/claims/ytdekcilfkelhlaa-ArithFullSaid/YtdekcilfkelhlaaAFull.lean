/- ArithFull. -/
import Derived.Test.YtdekcilfkelhlaaAInts
set_option linter.unusedVariables false
namespace Go.Proofs.Ytdekcilfkelhlaa
open Go.RowKit
open M (blen zig zag)

def fsz (j : Nat) : Nat := [65, 2, 2].getD j 2
def fr1 : Bun := fun j => List.replicate (fsz j) 1
theorem fsz_bd (j : Nat) : 1 ≤ fsz j ∧ fsz j ≤ 256 := by
  unfold fsz
  rcases Nat.lt_or_ge j 3 with h | h
  · have : j = 0 ∨ j = 1 ∨ j = 2 := by omega
    rcases this with rfl | rfl | rfl <;> decide
  · rw [List.getD_eq_getElem?_getD, List.getElem?_eq_none (by simpa using h)]; decide
theorem shape1 : Shape fsz fr1 := ⟨fun j => Fine.new (fsz_bd j).1 (fsz_bd j).2, fun j => by simp [fr1]⟩
theorem intSz1 : IntSz fsz 0 := ⟨rfl, rfl, rfl⟩
/-- The symbols of the statement: one int, the others of model 3. -/
def fOps (k : Nat) : List Op := if k = 32703 then zops 0 0 else [(3, k / 5 % 2)]
theorem fOps_fit (k : Nat) : (∀ p, p ∈ fOps k → Fit fsz p) ∧ (fOps k).length = 1 := by
  unfold fOps
  split
  · refine ⟨fun p hp => ?_, rfl⟩
    have h0 : p = (0, 0) := by simpa [zops, lowOps, blen] using hp
    subst h0
    unfold Fit fsz
    decide
  · refine ⟨fun p hp => ?_, rfl⟩
    rw [List.mem_singleton] at hp
    subst hp
    unfold Fit
    show k / 5 % 2 < 2
    omega
abbrev fEnc (j : Nat) : St × Bun := encTo fr1 fOps j
theorem fEnc_ok (j : Nat) : Ok fsz (fEnc j) ∧ (fEnc j).1.cnt = j := by
  induction j with
  | zero => exact ⟨⟨live0, shape1⟩, rfl⟩
  | succ j ih =>
    obtain ⟨h1, h2⟩ := ih
    obtain ⟨h3, h4⟩ := h1.steps (bit := zbit) (fOps_fit j).1
    unfold fEnc
    rw [encTo_succ]
    refine ⟨h3, ?_⟩
    rw [h4, (fOps_fit j).2]
    exact congrArg (· + 1) h2
section
variable {w0 w w' : World} {l : List Part} {K : Nat} {bm g : Nat → Nat} {nums : List (Nat × Nat)} {fr fr' : Bun}
theorem Ses.kcongr (h : Ses w0 w (kPart K bm g nums fr :: l)) (hf : ∀ j, j < K → fr' j = fr j) : Ses w0 w (kPart K bm g nums fr' :: l) := by
  have hk : KAt w K bm g nums fr := h.sep.head
  refine h.step1 (p' := kPart K bm g nums fr') (Fr.refl _ _) (KAt.part ⟨fun j hj => ?_, hk.apart, hk.num⟩)
  rw [hf j hj]
  exact hk.mod j hj
theorem putInt_full {bw b : Nat} {F : List Nat} {s : St} (nb : Nat) (n : Int) (h : Ses w0 w (encPart w0.heap.size bw F s :: kPart K bm g nums fr :: l)) (hn : (nb, b) ∈ nums) (hc : 32703 < s.cnt) :
    Calls Try.prog 36 #[.pointer (some ⟨bw, 0, none⟩), .pointer (some ⟨nb, 0, none⟩), .int .i64 n] w fun e w' => e = .returned (.int .i64 4) ∧ w = w' := by
  have he : EOk (encBox w0.heap.size bw) w F s := h.sep.head
  have hk : KAt w K bm g nums fr := h.sep.tail.head
  obtain ⟨hnum, hK⟩ := hk.num _ hn
  simp only at hnum hK
  have k3 : w.cell? ⟨bw, 3, none⟩ = some (.int .i64 (s.cnt : Nat)) := he.c.cells.2.2.2.1
  have hth := Nthere_ok w hnum (hk.mod b (by omega))
  have d1 : decide ((32703 : Int) < (s.cnt : Nat)) = true := decide_eq_true (by omega)
  have H := Lib.hid hth
  clear h hth he hk hnum
  go_enter Try.func36, Try.ntmps36
  go_wp2_with fail
  refine H.out.mono ?_
  rintro e w' ⟨rfl, rfl⟩
  go_wp2_with fail
  go_ret
  exact ⟨rfl, rfl⟩
theorem getInt_full {B bw n cap b : Nat} {G F : List Nat} {A : Option Addr} {f : Nat → Nat} {s : St} (nb : Nat) (h : Ses w0 w (decPart B bw G A n cap f F s :: kPart K bm g nums fr :: l)) (hn : (nb, b) ∈ nums) (hc : 32703 < s.cnt) :
    Calls Try.prog 37 #[.pointer (some ⟨bw, 0, none⟩), .pointer (some ⟨nb, 0, none⟩)] w fun e w' => e = .returned (.tuple #[.int .i64 0, .int .i64 4]) ∧ w = w' := by
  have he : EOk (decBox B bw G A n cap f) w F s := h.sep.head
  have hk : KAt w K bm g nums fr := h.sep.tail.head
  obtain ⟨hnum, hK⟩ := hk.num _ hn
  simp only at hnum hK
  have k3 : w.cell? ⟨bw, 3, none⟩ = some (.int .i64 (s.cnt : Nat)) := he.c.cells.2.2.2.1
  have hth := Nthere_ok w hnum (hk.mod b (by omega))
  have hdt := End_there w he.c rfl
  have d1 : decide ((32703 : Int) < (s.cnt : Nat)) = true := decide_eq_true (by omega)
  have H := Lib.hid (And.intro hth hdt)
  clear h hth he hk hnum hdt
  go_enter Try.func37, Try.ntmps37
  go_wp2_with fail
  refine H.out.2.mono ?_
  rintro e w' ⟨rfl, rfl⟩
  go_wp2_with fail
  refine H.out.1.mono ?_
  rintro e w' ⟨rfl, rfl⟩
  go_wp2_with fail
  go_ret2
  exact ⟨rfl, rfl⟩
end
section
variable {w0 w w' : World} {l : List Part}
theorem Ses.number1 (h : Ses w0 w l) :
    Calls Try.prog 35 #[] w fun e w' => ∃ bm g nb, e = .returned (.pointer (some ⟨nb, 0, none⟩)) ∧ Ses w0 w' (kPart 3 bm g [(nb, 0)] fr1 :: l) := by
  refine (NewNumber_ok w).mono ?_
  rintro e w1 ⟨nb, b0, g0, b1, g1, b2, g2, rfl, hn, m0, m1, m2, hd, hq, hb⟩
  obtain ⟨bm, g, _, k1⟩ := (KNew.zero w fr1).number hn m0 m1 m2 hd hq hb
  exact ⟨bm, g, nb, rfl, h.kit k1⟩
/-- A symbol of model 3 is coded, or decoded, beside a Number. -/
theorem full_put {bw bi gi nb bx gx : Nat} {bm g : Nat → Nat} {F : List Nat} {c : St × Bun} (i : Nat) (x : Int) (h : Ses w0 w (encPart w0.heap.size bw F c.1 :: kPart 3 bm g [(nb, 0)] c.2 :: mPart bx gx (c.2 3) :: l)) (hx : x = (i : Nat)) (hc : c.1.cnt < 32768) (hi : i < (c.2 3).length) :
    Calls Try.prog 15 #[.pointer (some ⟨bw, 0, none⟩), .pointer (some ⟨bx, 0, none⟩), .int .i64 x] w fun e w' => e = .returned (.int .i64 0) ∧ ∃ F', Ses w0 w' (encPart w0.heap.size bw F' (steps zbit c [(3, i)]).1 :: kPart 3 bm g [(nb, 0)] (steps zbit c [(3, i)]).2 :: mPart bx gx ((steps zbit c [(3, i)]).2 3) :: l) := by
  subst hx
  refine (h.mv2.mv1.put i hc hi).mono ?_
  rintro e w' ⟨rfl, F', h1⟩
  have e1 : (steps zbit c [(3, i)]).2 3 = learn (c.2 3) i := by
    show upd c.2 3 (learn (c.2 3) i) 3 = _
    exact upd_at _ _ _
  refine ⟨rfl, F', ?_⟩
  rw [e1]
  have h2 := (h1.mv2.kcongr (fr' := (steps zbit c [(3, i)]).2) (fun j hj => by
    show upd c.2 3 (learn (c.2 3) i) j = _
    exact upd_far (by omega))).mv1
  exact h2
theorem full_get {B bw bi gi nb bx gx n cap : Nat} {G F : List Nat} {A : Option Addr} {f : Nat → Nat} {bm g : Nat → Nat} {c : St × Bun} (i : Nat) (h : Ses w0 w (decPart B bw G A n cap f F c.1 :: kPart 3 bm g [(nb, 0)] c.2 :: mPart bx gx (c.2 3) :: l)) (hc : c.1.cnt < 32768) (hd : DOk (inBit n f) fsz c) (hr : Reads (inBit n f) c [(3, i)]) :
    Calls Try.prog 38 #[.pointer (some ⟨bw, 0, none⟩), .pointer (some ⟨bx, 0, none⟩)] w fun e w' => e = .returned (.tuple #[.int .i64 (i : Nat), .int .i64 0]) ∧ ∃ F', Ses w0 w' (decPart B bw G A n cap f F' (steps (inBit n f) c [(3, i)]).1 :: kPart 3 bm g [(nb, 0)] (steps (inBit n f) c [(3, i)]).2 :: mPart bx gx ((steps (inBit n f) c [(3, i)]).2 3) :: l) := by
  have hi : decSym (c.2 3) c.1 = i := hr.1
  have hg := h.mv2.mv1.get hc hd.iv
  rw [hi] at hg
  refine hg.mono ?_
  rintro e w' ⟨rfl, F', h1, _⟩
  have e1 : (steps (inBit n f) c [(3, i)]).2 3 = learn (c.2 3) i := by
    show upd c.2 3 (learn (c.2 3) i) 3 = _
    exact upd_at _ _ _
  refine ⟨rfl, F', ?_⟩
  rw [e1]
  exact (h1.mv2.kcongr (fr' := (steps (inBit n f) c [(3, i)]).2) (fun j hj => by
    show upd c.2 3 (learn (c.2 3) i) j = _
    exact upd_far (by omega))).mv1
theorem zops0 : zops 0 0 = [(0, 0)] := rfl
theorem full_three (bit : Nat → Nat) (c : St × Bun) : (steps bit c (zops 0 0)).2 3 = c.2 3 := by
  rw [zops0]
  show upd c.2 0 (learn (c.2 0) 0) 3 = _
  exact upd_far (by decide)
end
theorem fdiv (k : Nat) : (((k : Nat) : Int) / 5) % 2 = ((k / 5 % 2 : Nat) : Int) := by omega
theorem fdivt (k : Nat) : (((k : Nat) : Int).tdiv 5).tmod 2 = ((k / 5 % 2 : Nat) : Int) := by
  rw [Int.tdiv_eq_ediv_of_nonneg (by omega), Int.tmod_eq_emod_of_nonneg (by omega)]; omega

set_option maxRecDepth 100000 in
set_option maxHeartbeats 2000000 in
theorem full_walk (w : World) : Calls Try.prog 10 #[] w fun e w' => e = .returned (.bool true) ∧ Below w.heap.size w w' := by
  have HS := Lib.hid (Ses.start w)
  go_enter Try.func10, Try.ntmps10
  go_wp2_with fail
  refine (HS.out.model 2 (by decide) (by decide)).mono ?_
  rintro e w1 ⟨mx, gx, rfl, h1⟩
  have H1 := Lib.hid h1; clear h1 HS
  go_wp2_with fail
  refine (H1.out.model 2 (by decide) (by decide)).mono ?_
  rintro e w2 ⟨my, gy, rfl, h2⟩
  have H2 := Lib.hid h2.enc; clear h2 H1
  go_wp2_with fail
  refine H2.out.number1.mono ?_
  rintro e w3 ⟨bi, gi, ni, rfl, h3⟩
  have H3 := Lib.hid h3; clear h3 H2
  go_wp2_with fail
  refine H3.out.number1.mono ?_
  rintro e w4 ⟨bj, gj, nj, rfl, h4⟩
  -- kJ, kI, enc, my, mx
  obtain ⟨ew, eew⟩ : ∃ ew, ew = w2.heap.size := ⟨_, rfl⟩
  have H4 := Lib.hid (show Ses w w4 [encPart w.heap.size w2.heap.size [w2.heap.size] (fEnc 0).1, kPart 3 bi gi [(ni, 0)] (fEnc 0).2, mPart mx gx ((fEnc 0).2 3), mPart my gy (fr1 3), kPart 3 bj gj [(nj, 0)] fr1] from h4.mv3.mw4.mv3.mw4); clear h4 H3
  rw [← eew] at H4 ⊢
  clear eew
  go_wp2_with fail
  go_loopg [36] 32768 (fun gh iv wr => ∃ (k : Nat) (F : List Nat), gh = 32768 - k ∧ k ≤ 32768 ∧ iv = .int .i64 (k : Nat) ∧ Ses w wr [encPart w.heap.size ew F (fEnc k).1, kPart 3 bi gi [(ni, 0)] (fEnc k).2, mPart mx gx ((fEnc k).2 3), mPart my gy (fr1 3), kPart 3 bj gj [(nj, 0)] fr1])
  case atStart => exact ⟨0, [ew], rfl, by omega, rfl, H4.out⟩
  case round =>
    obtain ⟨k, F, hgh, hk, rfl, hR⟩ := hrel
    have Hgh := Lib.hid hgh; clear hgh
    have HR := Lib.hid hR; clear hR H4
    have hok := fEnc_ok k
    have HK := Lib.hid hok; clear hok
    by_cases hlt : k < 32768
    · have hlt' : ((k : Nat) : Int) < 32768 := by omega
      by_cases he : k = 32703
      · have q1 : (((k : Nat) : Int) == 32703) = true := by rw [beq_iff_eq]; omega
        have q2 : decide ((32703 : Int) < ((k : Nat) : Int)) = false := decide_eq_false (by omega)
        have q3 : (((k : Nat) : Int) != 32703) = false := by rw [bne_eq_false_iff_eq]; omega
        have hp := HR.out.putInt (sz := fsz) (b := 0) ni 0 (by simp) (by rw [HK.out.2]; omega) HK.out.1.shape intSz1 (by decide) (by decide)
        rw [show zig (wordOf 0) = 0 from by decide] at hp
        have ho : fOps k = zops 0 0 := if_pos he
        have HP := Lib.hid (And.intro hp ho); clear hp ho he
        go_wp2_with fail
        refine HP.out.1.mono ?_
        rintro e w5 ⟨rfl, F5, h5⟩
        have H5 := Lib.hid h5; clear h5
        go_wp2_with fail
        go_roundg (32768 - (k + 1))
        case measure => have := Hgh.out; omega
        case rel =>
          refine ⟨k + 1, F5, rfl, by omega, by go_num, ?_⟩
          have e1 : fEnc (k + 1) = steps zbit (fEnc k) (zops 0 0) := by
            have := encTo_succ fr1 fOps k
            rw [HP.out.2] at this
            exact this
          rw [e1, full_three]
          exact H5.out
      · have q1 : (((k : Nat) : Int) == 32703) = false := by rw [beq_eq_false_iff_ne]; omega
        have q3 : (((k : Nat) : Int) != 32703) = true := by rw [bne_iff_ne]; omega
        have ho : fOps k = [(3, k / 5 % 2)] := if_neg he
        have hp := fun x hx => full_put (bi := 0) (gi := 0) (k / 5 % 2) x HR.out hx (by rw [HK.out.2]; omega) (by rw [HK.out.1.shape.len]; show k / 5 % 2 < 2; omega)
        have e1 : fEnc (k + 1) = steps zbit (fEnc k) [(3, k / 5 % 2)] := by
          have := encTo_succ fr1 fOps k
          rw [ho] at this
          exact this
        rw [← e1] at hp
        by_cases hg : 32703 < k
        · have q2 : decide ((32703 : Int) < ((k : Nat) : Int)) = true := decide_eq_true (by omega)
          have hfl := putInt_full ni 0 HR.out (b := 0) (by simp) (by rw [HK.out.2]; exact hg)
          have HP := Lib.hid (And.intro hp hfl); clear hp hfl ho he e1
          go_wp2_with fail
          refine HP.out.2.mono ?_
          rintro e w5 ⟨rfl, rfl⟩
          go_wp2_with fail
          refine (HP.out.1 _ (by first | exact fdiv k | exact fdivt k)).mono ?_
          rintro e w5 ⟨rfl, F5, h5⟩
          have H5 := Lib.hid h5; clear h5
          go_wp2_with fail
          go_roundg (32768 - (k + 1))
          case measure => have := Hgh.out; omega
          case rel => exact ⟨k + 1, F5, rfl, by omega, by go_num, H5.out⟩
        · have q2 : decide ((32703 : Int) < ((k : Nat) : Int)) = false := decide_eq_false (by omega)
          have HP := Lib.hid hp; clear hp ho he e1
          go_wp2_with fail
          refine (HP.out _ (by first | exact fdiv k | exact fdivt k)).mono ?_
          rintro e w5 ⟨rfl, F5, h5⟩
          have H5 := Lib.hid h5; clear h5
          go_wp2_with fail
          go_roundg (32768 - (k + 1))
          case measure => have := Hgh.out; omega
          case rel => exact ⟨k + 1, F5, rfl, by omega, by go_num, H5.out⟩
    · obtain rfl : k = 32768 := by omega
      clear hlt hk
      go_wp2_with fail
      have hcE : (fEnc 32768).1.cnt ≤ 32768 := by rw [HK.out.2]; exact Nat.le_refl _
      have hnb := nbytes_bd HK.out.1.live hcE
      have hdec := decode_all (n := nbytes (endBits (fEnc 32768).1)) (f := M.byteOf (endBits (fEnc 32768).1)) (sz := fsz) (fr := fr1) shape1 (o := fOps) (N := 32768) (fun i _ => (fOps_fit i).1) (begins_bytes (Nat.le_refl _) (fun _ _ => rfl))
      obtain ⟨E, eE⟩ : ∃ E, E = fEnc 32768 := ⟨_, rfl⟩
      have hS := HR.out
      have hcE3 : E.1.cnt = 32768 := by rw [eE]; exact HK.out.2
      have hE3 : 0 < (E.2 3).length := by rw [eE, HK.out.1.shape.len]; decide
      rw [← eE] at hS hnb hdec hcE
      obtain ⟨code, ecode⟩ : ∃ c, c = endBits E.1 := ⟨_, rfl⟩
      rw [← ecode] at hnb hdec
      obtain ⟨nn, enn⟩ : ∃ c, c = nbytes code := ⟨_, rfl⟩
      rw [← enn] at hnb hdec
      have hcode : ∀ k, k ≤ 32768 → (decTo nn (M.byteOf code) fr1 fOps k).1.cnt = k := fun k _ => by rw [dec_cnt]; exact (fEnc_ok k).2
      have hend : endBits (decTo nn (M.byteOf code) fr1 fOps 32768).1 = code := by rw [dec_end, ecode, eE]
      have HQ := Lib.hid (And.intro hS (And.intro hdec (And.intro hcode (And.intro hend (And.intro ecode (And.intro enn (And.intro hcE (And.intro hcE3 hE3)))))))); clear hS hdec hcode hend hcE hcE3 hE3 HR HK eE
      refine (HQ.out.1.bytes_n HQ.out.2.2.2.2.2.2.1).mono ?_
      rintro e w6 ⟨G6, A6, c6, rfl, hnil, h6⟩
      rw [← ecode, ← enn] at h6 hnil ⊢
      clear ecode enn
      have H6 := Lib.hid (And.intro h6 hnil); clear h6 hnil
      go_wp2_with fail
      refine (Ses.dec H6.out.1 (Ses.brow H6.out.1) (by omega) (fun i _ => M.byteOf_lt _ _) H6.out.2).mono ?_
      rintro e w7 ⟨dB, dw, dG, dA, dc, dF, rfl, h7⟩
      have H7 := Lib.hid (show Ses w w7 [decPart dB dw dG dA nn dc (M.byteOf code) dF (decTo nn (M.byteOf code) fr1 fOps 0).1, kPart 3 bj gj [(nj, 0)] (decTo nn (M.byteOf code) fr1 fOps 0).2, mPart my gy ((decTo nn (M.byteOf code) fr1 fOps 0).2 3), bPart G6 A6 nn (M.byteOf code), encPart w.heap.size ew F E.1, kPart 3 bi gi [(ni, 0)] E.2, mPart mx gx (E.2 3)] from h7.mw5.mw6.mv2); clear h7 H6
      go_wp2_with fail
      go_loopg [67] 32768 (fun gh iv wr => ∃ (k : Nat) (F2 : List Nat), gh = 32768 - k ∧ k ≤ 32768 ∧ iv = .int .i64 (k : Nat) ∧ Ses w wr [decPart dB dw dG dA nn dc (M.byteOf code) F2 (decTo nn (M.byteOf code) fr1 fOps k).1, kPart 3 bj gj [(nj, 0)] (decTo nn (M.byteOf code) fr1 fOps k).2, mPart my gy ((decTo nn (M.byteOf code) fr1 fOps k).2 3), bPart G6 A6 nn (M.byteOf code), encPart w.heap.size ew F E.1, kPart 3 bi gi [(ni, 0)] E.2, mPart mx gx (E.2 3)])
      case atStart => exact ⟨0, dF, rfl, by omega, rfl, H7.out⟩
      case round =>
        obtain ⟨k, F2, hgh, hk, rfl, hR⟩ := hrel
        have Hgh := Lib.hid hgh; clear hgh
        have HR := Lib.hid hR; clear hR H7
        obtain ⟨hdk, hrd⟩ := HQ.out.2.1 k hk
        have hck := HQ.out.2.2.1 k hk
        by_cases hlt : k < 32768
        · have hlt' : ((k : Nat) : Int) < 32768 := by omega
          have hrd' := hrd hlt
          have es := decTo_succ nn (M.byteOf code) fr1 fOps k
          by_cases he : k = 32703
          · have q1 : (((k : Nat) : Int) == 32703) = true := by rw [beq_iff_eq]; omega
            have ho : fOps k = zops 0 0 := if_pos he
            rw [ho] at hrd' es
            have hp := HR.out.getInt (b := 0) nj 0 (by simp) (by rw [hck]; omega) intSz1 hdk hrd' (by decide)
            rw [show sOf (zag 0) = 0 from by decide] at hp
            have HP := Lib.hid (And.intro hp es); clear hp ho he es hdk hrd hrd' hck
            go_wp2_with fail
            refine HP.out.1.mono ?_
            rintro e w8 ⟨rfl, F8, h8⟩
            have H8 := Lib.hid h8; clear h8
            go_wp2_with fail
            go_roundg (32768 - (k + 1))
            case measure => have := Hgh.out; omega
            case rel =>
              refine ⟨k + 1, F8, rfl, by omega, by go_num, ?_⟩
              rw [HP.out.2, full_three]
              exact H8.out
          · have q1 : (((k : Nat) : Int) == 32703) = false := by rw [beq_eq_false_iff_ne]; omega
            have ho : fOps k = [(3, k / 5 % 2)] := if_neg he
            rw [ho] at hrd' es
            have hp := full_get (bi := 0) (gi := 0) (k / 5 % 2) HR.out (by rw [hck]; exact hlt) hdk hrd'
            rw [← es] at hp
            have z1 := fdiv k
            have z2 := fdivt k
            obtain ⟨v, ev⟩ : ∃ v, v = k / 5 % 2 := ⟨_, rfl⟩
            rw [← ev] at hp z1 z2
            by_cases hg : 32703 < k
            · have q2 : decide ((32703 : Int) < ((k : Nat) : Int)) = true := decide_eq_true (by omega)
              have hfl := getInt_full nj HR.out (b := 0) (by simp) (by rw [hck]; exact hg)
              have HP := Lib.hid (And.intro hp hfl); clear hp hfl ho he es hdk hrd hrd' hck ev
              go_wp2_with fail
              refine HP.out.2.mono ?_
              rintro e w8 ⟨rfl, rfl⟩
              go_wp2_with fail
              refine HP.out.1.mono ?_
              rintro e w8 ⟨rfl, F8, h8⟩
              have H8 := Lib.hid h8; clear h8
              go_wp2_with fail
              go_roundg (32768 - (k + 1))
              case measure => have := Hgh.out; omega
              case rel => exact ⟨k + 1, F8, rfl, by omega, by go_num, H8.out⟩
            · have q2 : decide ((32703 : Int) < ((k : Nat) : Int)) = false := decide_eq_false (by omega)
              have HP := Lib.hid hp; clear hp ho he es hdk hrd hrd' hck ev
              go_wp2_with fail
              refine HP.out.mono ?_
              rintro e w8 ⟨rfl, F8, h8⟩
              have H8 := Lib.hid h8; clear h8
              go_wp2_with fail
              go_roundg (32768 - (k + 1))
              case measure => have := Hgh.out; omega
              case rel => exact ⟨k + 1, F8, rfl, by omega, by go_num, H8.out⟩
        · obtain rfl : k = 32768 := by omega
          clear hlt hk hrd hdk
          go_wp2_with fail
          have e1 : EOk (decBox dB dw dG dA nn dc (M.byteOf code)) wr F2 (decTo nn (M.byteOf code) fr1 fOps 32768).1 := HR.out.sep.head
          have e2 : MOk wr my gy ((decTo nn (M.byteOf code) fr1 fOps 32768).2 3) := HR.out.mv2.sep.head
          have e3 : EOk (encBox w.heap.size ew) wr F E.1 := HR.out.mw4.sep.head
          have e4 : MOk wr mx gx (E.2 3) := HR.out.mw6.sep.head
          have hgf := Get_full wr e1 rfl (by rw [hck]; exact Nat.le_refl _) e2
          have hpf := Put_full 0 wr e3 (by rw [HQ.out.2.2.2.2.2.2.2.1]; exact Nat.le_refl _) e4 HQ.out.2.2.2.2.2.2.2.2
          have HF := Lib.hid (And.intro hgf hpf); clear hgf hpf e1 e2 e3 e4
          refine HF.out.1.mono ?_
          rintro e w9 ⟨rfl, rfl⟩
          go_wp2_with fail
          refine HF.out.2.mono ?_
          rintro e w9 ⟨rfl, rfl⟩
          go_wp2_with fail
          refine (HR.out.mw4.bytes_n HQ.out.2.2.2.2.2.2.1).mono ?_
          rintro e w10 ⟨G10, A10, c10, rfl, _, h10⟩
          have hb1 := Ses.brow h10
          rw [← HQ.out.2.2.2.2.1, ← HQ.out.2.2.2.2.2.1] at hb1 ⊢
          have H10 := Lib.hid (And.intro h10 hb1); clear h10 hb1
          go_wp2_with fail
          refine (SameBytes_to nn (M.byteOf code) (M.byteOf code) H10.out.2 (Ses.brow H10.out.1.mw5) (fun _ _ => rfl) (by omega)).mono ?_
          rintro e w11 ⟨rfl, hb11⟩
          have H11 := Lib.hid ((H10.out.1.below hb11).mv2); clear hb11 H10
          go_wp2_with fail
          refine (H11.out.end_ 0 (by rw [hck]; exact Nat.le_refl _) (by rw [HQ.out.2.2.2.1, ← HQ.out.2.2.2.2.2.1, if_pos rfl])).mono ?_
          rintro e w12 ⟨rfl, h12⟩
          have H12 := Lib.hid h12; clear h12 H11
          go_wp2_with fail
          refine (awake_ok w12).mono ?_
          rintro e w13 ⟨rfl, hb13⟩
          have H13 := Lib.hid (H12.out.below hb13); clear hb13
          go_wp2_with fail
          go_ret
          exact ⟨rfl, H13.out.bel⟩
end Go.Proofs.Ytdekcilfkelhlaa
