/- awake. -/
import Derived.Test.YtdekcilfkelhlaaASes
set_option linter.unusedVariables false
namespace Go.Proofs.Ytdekcilfkelhlaa
open Go.RowKit

abbrev r1 : List Nat := List.replicate 1 1
abbrev r2 : List Nat := List.replicate 2 1
def ta : St := codeSt zbit r2 1 st0
def tb : St := codeSt zbit (learn r2 1) 1 ta
def tc : St := codeSt zbit r2 0 st0
def lone : Nat → List Nat
  | 0 => r1
  | k + 1 => learn (lone k) 0
def tone : Nat → St
  | 0 => st0
  | k + 1 => codeSt zbit (lone k) 0 (tone k)
theorem lone_length (k : Nat) : (lone k).length = 1 := by
  induction k with
  | zero => rfl
  | succ k ih => simp only [lone, learn_length, ih]
theorem tone_cnt (k : Nat) : (tone k).cnt = k := by
  induction k with
  | zero => rfl
  | succ k ih => simp only [tone, codeSt, ih]
def f160 : Nat → Nat := fun _ => 160
def td0 : St := decAt (inBit 1 f160) 32
def td1 : St := codeSt (inBit 1 f160) r2 1 td0
def td2 : St := codeSt (inBit 1 f160) (learn r2 1) 1 td1

theorem e_st0 : nbytes (endBits st0) = 1 ∧ M.byteOf (endBits st0) 0 = 64 := by decide +kernel
theorem e_ta : nbytes (endBits ta) = 1 ∧ M.byteOf (endBits ta) 0 = 160 := by decide +kernel
theorem e_tb : nbytes (endBits tb) = 1 ∧ M.byteOf (endBits tb) 0 = 160 := by decide +kernel
theorem e_tc : nbytes (endBits tc) = 1 ∧ M.byteOf (endBits tc) 0 = 32 := by decide +kernel
theorem e_t9 : nbytes (endBits (tone 9)) = 1 ∧ M.byteOf (endBits (tone 9)) 0 = 64 := by decide +kernel
theorem e_td : decSym r2 td0 = 1 ∧ decSym (learn r2 1) td1 = 1 ∧ nbytes (endBits td2) = 1 ∧ M.byteOf (endBits td2) 0 = 160 := by decide +kernel
theorem e_iv : td0.lo ≤ td0.num ∧ td0.num ≤ td0.hi := by decide +kernel

section
variable {w0 w : World} {l : List Part} {a b c x : Part}
theorem Ses.mv1 (h : Ses w0 w (a :: x :: l)) : Ses w0 w (x :: a :: l) := h.perm (List.perm_middle (l₁ := [a]))
theorem Ses.mv2 (h : Ses w0 w (a :: b :: x :: l)) : Ses w0 w (x :: a :: b :: l) := h.perm (List.perm_middle (l₁ := [a, b]))
theorem Ses.mv3 (h : Ses w0 w (a :: b :: c :: x :: l)) : Ses w0 w (x :: a :: b :: c :: l) := h.perm (List.perm_middle (l₁ := [a, b, c]))
/-- One byte that a code is, against a byte. -/
theorem Ses.same {A : Option Addr} {cap : Nat} {f : Nat → Nat} (v : Nat) (h : Ses w0 w l) (hr : BRow w A 1 f) (hv : f 0 = v) (W : World) (hW : W = w.alloc (.cells #[.int .u8 (v : Nat)] 5)) :
    Calls Try.prog 27 #[.slice A 1 cap, .slice (some ⟨w.heap.size, 0, none⟩) 1 1] W fun e w' => e = .returned (.bool true) ∧ Ses w0 w' l := by
  subst hW
  refine (SameBytes_to 1 f (fun _ => v) (hr.keepd ((Below.refl _ _).alloc (Nat.le_refl _) _)) (BRow.lit (heap_alloc_new w _) (by intro i hi; (obtain rfl : i = 0 := by omega); rfl)) (by intro i hi; (obtain rfl : i = 0 := by omega); exact hv) (by decide)).mono ?_
  rintro e w' ⟨rfl, hb⟩
  exact ⟨rfl, (h.alloc _).below hb⟩
end
theorem ta_cnt : ta.cnt = 1 := rfl
theorem tb_cnt : tb.cnt = 2 := rfl

set_option maxRecDepth 100000 in
set_option maxHeartbeats 1000000 in
theorem awake_ok (w : World) : Calls Try.prog 16 #[] w fun e w' => e = .returned (.bool true) ∧ Below w.heap.size w w' := by
  have HS := Lib.hid (Ses.start w)
  go_enter Try.func16, Try.ntmps16
  go_wp2_with fail
  refine (HS.out.model 2 (by decide) (by decide)).mono ?_
  rintro e w1 ⟨m2, g2, rfl, h1⟩
  have H1 := Lib.hid h1; clear h1 HS
  go_wp2_with fail
  refine (H1.out.model 1 (by decide) (by decide)).mono ?_
  rintro e w2 ⟨m1, g1, rfl, h2⟩
  have h3 := h2.enc.enc
  rw [World.size_alloc] at h3
  have H3 := Lib.hid h3.mv1; clear h2 h3 H1
  go_wp2_with fail
  refine (H3.out.bytes 1 (by decide) e_st0.1).mono ?_
  rintro e w4 ⟨A4, c4, rfl, r4, _, h4⟩
  have H4 := Lib.hid (And.intro r4 h4); clear r4 h4 H3
  go_wp2_with fail
  refine (H4.out.2.same 64 H4.out.1 e_st0.2 _ rfl).mono ?_
  rintro e w5 ⟨rfl, h5⟩
  have H5 := Lib.hid h5.mv3.mv1; clear h5 H4
  go_wp2_with fail
  refine (H5.out.put 1 (by decide) (by decide)).mono ?_
  rintro e w6 ⟨rfl, F6, h6⟩
  have H6 := Lib.hid (show Ses w w6 (encPart w.heap.size w2.heap.size F6 ta :: mPart m2 g2 (learn r2 1) :: _) from h6); clear h6 H5
  go_wp2_with fail
  refine (H6.out.bytes 1 (by decide) e_ta.1).mono ?_
  rintro e w7 ⟨A7, c7, rfl, r7, _, h7⟩
  have H7 := Lib.hid (And.intro r7 h7); clear r7 h7 H6
  go_wp2_with fail
  refine (H7.out.2.same 160 H7.out.1 e_ta.2 _ rfl).mono ?_
  rintro e w8 ⟨rfl, h8⟩
  have H8 := Lib.hid h8; clear h8 H7
  go_wp2_with fail
  refine (H8.out.mv1.freq 1 33 (by decide +kernel)).mono ?_
  rintro e w9 ⟨rfl, rfl⟩
  go_wp2_with fail
  refine (H8.out.mv1.total 34 (by decide +kernel)).mono ?_
  rintro e w9 ⟨rfl, rfl⟩
  go_wp2_with fail
  refine (H8.out.put 1 (by decide) (by decide +kernel)).mono ?_
  rintro e w10 ⟨rfl, F10, h10⟩
  have H10 := Lib.hid (show Ses w w10 (encPart w.heap.size w2.heap.size F10 tb :: mPart m2 g2 (learn (learn r2 1) 1) :: _) from h10); clear h10 H8
  go_wp2_with fail
  refine (H10.out.bytes 1 (by decide) e_tb.1).mono ?_
  rintro e w11 ⟨A11, c11, rfl, r11, _, h11⟩
  have H11 := Lib.hid (And.intro r11 h11); clear r11 h11 H10
  go_wp2_with fail
  refine (H11.out.2.same 160 H11.out.1 e_tb.2 _ rfl).mono ?_
  rintro e w12 ⟨rfl, h12⟩
  have H12 := Lib.hid h12.mv2.mv3.mv1; clear h12 H11
  go_wp2_with fail
  obtain ⟨bb, ebb⟩ : ∃ b, b = w2.heap.size + 1 := ⟨_, rfl⟩
  go_loopg [67] 9 (fun gh i wr => ∃ (j : Nat) (F : List Nat), gh = 9 - j ∧ j ≤ 9 ∧ i = .int .i64 (j : Nat) ∧ Ses w wr [encPart w.heap.size (w2.heap.size + 1) F (tone j), mPart m1 g1 (lone j), encPart w.heap.size w2.heap.size F10 tb, mPart m2 g2 (learn (learn r2 1) 1)])
  case atStart => exact ⟨0, _, rfl, by omega, rfl, H12.out⟩
  case round =>
    obtain ⟨j, F, hgh, hj, rfl, hR⟩ := hrel
    have Hgh := Lib.hid hgh; clear hgh
    have HR := Lib.hid hR; clear hR H12 ebb
    by_cases hlt : j < 9
    · go_wp2_with fail
      refine (HR.out.put 0 (by rw [tone_cnt]; omega) (by rw [lone_length]; decide)).mono ?_
      rintro e w13 ⟨rfl, F13, h13⟩
      have H13 := Lib.hid (show Ses w w13 (encPart w.heap.size (w2.heap.size + 1) F13 (tone (j + 1)) :: mPart m1 g1 (lone (j + 1)) :: _) from h13); clear h13
      go_wp2_with fail
      go_roundg (9 - (j + 1))
      case measure => have := Hgh.out; omega
      case rel => exact ⟨j + 1, F13, rfl, by omega, by go_num, H13.out⟩
    · obtain rfl : j = 9 := by omega
      clear hlt hj
      go_wp2_with fail
      refine (HR.out.model 2 (by decide) (by decide)).mono ?_
      rintro e w14 ⟨m3, g3, rfl, h14⟩
      have H14 := Lib.hid h14.enc; clear h14 HR
      go_wp2_with fail
      refine (H14.out.put 0 (by decide) (by decide)).mono ?_
      rintro e w15 ⟨rfl, F15, h15⟩
      have H15 := Lib.hid (show Ses w w15 (encPart w.heap.size w14.heap.size F15 tc :: mPart m3 g3 (learn r2 0) :: _) from h15); clear h15 H14
      go_wp2_with fail
      refine (H15.out.bytes 1 (by decide) e_tc.1).mono ?_
      rintro e w16 ⟨A16, c16, rfl, r16, _, h16⟩
      have H16 := Lib.hid (And.intro r16 h16); clear r16 h16 H15
      go_wp2_with fail
      refine (H16.out.2.same 32 H16.out.1 e_tc.2 _ rfl).mono ?_
      rintro e w17 ⟨rfl, h17⟩
      have H17 := Lib.hid h17.mv2; clear h17 H16
      go_wp2_with fail
      refine (H17.out.bytes 1 (by decide) e_t9.1).mono ?_
      rintro e w18 ⟨A18, c18, rfl, r18, _, h18⟩
      have H18 := Lib.hid (And.intro r18 h18); clear r18 h18 H17
      go_wp2_with fail
      refine (H18.out.2.same 64 H18.out.1 e_t9.2 _ rfl).mono ?_
      rintro e w19 ⟨rfl, h19⟩
      have H19 := Lib.hid h19; clear h19 H18
      go_wp2_with fail
      refine (H19.out.model 2 (by decide) (by decide)).mono ?_
      rintro e w20 ⟨m4, g4, rfl, h20⟩
      have H20 := Lib.hid (h20.alloc (.cells #[.int .u8 160] 5)); clear h20 H19
      go_wp2_with fail
      refine (H20.out.dec (A := some ⟨w20.heap.size, 0, none⟩) (n := 1) (cap := 1) (f := f160) (BRow.lit (heap_alloc_new w20 _) (by intro i hi; (obtain rfl : i = 0 := by omega); rfl)) (by decide) (fun _ _ => by show 160 < 256; decide) (fun e => by cases e)).mono ?_
      rintro e w21 ⟨B, bw, G, A21, c21, F21, rfl, h21⟩
      have H21 := Lib.hid (show Ses w w21 (decPart B bw G A21 1 c21 f160 F21 td0 :: _) from h21); clear h21 H20
      go_wp2_with fail
      refine (H21.out.get (by decide) ⟨e_iv.1, e_iv.2⟩).mono ?_
      rintro e w22 ⟨rfl, F22, h22, iv22⟩
      rw [e_td.1] at h22 iv22 ⊢
      have H22 := Lib.hid (And.intro (show Ses w w22 (decPart B bw G A21 1 c21 f160 F22 td1 :: mPart m4 g4 (learn r2 1) :: _) from h22) (show InIv td1 from iv22)); clear h22 iv22 H21
      go_wp2_with fail
      refine (H22.out.1.get (by decide) H22.out.2).mono ?_
      rintro e w23 ⟨rfl, F23, h23, iv23⟩
      rw [e_td.2.1] at h23 iv23 ⊢
      have H23 := Lib.hid (show Ses w w23 (decPart B bw G A21 1 c21 f160 F23 td2 :: _) from h23); clear h23 iv23 H22
      go_wp2_with fail
      refine (H23.out.end_ 0 (by decide) ?_).mono ?_
      · rw [if_pos]
        rw [e_td.2.2.1]
        rw [listF_eq (fun i _ => M.byteOf_lt _ _) (fun i _ => by show 160 < 256; decide)]
        refine ⟨rfl, fun i hi => ?_⟩
        obtain rfl : i = 0 := by omega
        exact e_td.2.2.2
      rintro e w24 ⟨rfl, h24⟩
      have H24 := Lib.hid h24; clear h24 H23
      go_wp2_with fail
      go_ret
      exact ⟨rfl, H24.out.bel⟩
end Go.Proofs.Ytdekcilfkelhlaa
