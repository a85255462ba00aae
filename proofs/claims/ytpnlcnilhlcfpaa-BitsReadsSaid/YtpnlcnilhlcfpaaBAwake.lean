/- The chapter's examples (awake) are met. -/
import Derived.Test.YtpnlcnilhlcfpaaBClone
import Derived.Laws.MakeOwn
set_option linter.unusedVariables false
namespace Go.Proofs.Ytpnlcnilhlcfpaa
open Go.RowKit
open M (bitsOf bitsOf_length codeBits codeBits_length zig zag numOf zeros codeA)

theorem then_ {w x y : World} (h : Below w.heap.size w x) (k : Below x.heap.size x y) : Below w.heap.size w y := h.trans (k.mono h.size)
theorem then_alloc {w x : World} (h : Below w.heap.size w x) (o : Obj) : Below w.heap.size w (x.alloc o) := h.alloc h.size o
theorem then_drewN {w x : World} (h : Below w.heap.size w x) (m : Nat) : Below w.heap.size w (x.drewN m) := below_drewN' h m
theorem then_fr {w x y : World} {F G : List Nat} (h : Below w.heap.size w x) (k : Fr F x G y) (hF : ∀ q, q ∈ F → w.heap.size ≤ q) : Below w.heap.size w y := h.trans (k.below h.size hF)
theorem then_only {w x y : World} {b : Nat} (h : Below w.heap.size w x) (k : Only b x y) (hb : w.heap.size ≤ b) : Below w.heap.size w y := h.trans (k.below hb)

theorem BRow.lit {w : World} {g n : Nat} {cs : Array Value} {t : TypeId} {f : Nat → Nat} (h : w.heap[g]? = some (.cells cs t (0, 0))) (hc : ∀ i, i < n → cs[i]? = some (.int .u8 ((f i : Nat) : Int))) : BRow w (some ⟨g, 0, none⟩) n f :=
  fun i hi => ⟨_, rfl, by rw [add_zero', cell_of_block h i]; exact hc i hi⟩
theorem NewRow.brow {w w' : World} {v : Value} {n : Nat} {f : Nat → Nat} (h : NewRow w w' v n f) : ∃ A cap, v = .slice A n cap ∧ BRow w' A n f ∧ Below w.heap.size w w' ∧ (A = none → n = 0 ∧ cap = 0) := by
  obtain ⟨⟨F, A, cap, e, hr, _, hn⟩, hb⟩ := h
  exact ⟨A, cap, e, hr.brow, hb, hn⟩

/-- Calls on objects whose bits are named. -/
theorem Put_to {B bw : Nat} {F : List Nat} {l : List Bool} (n k : Nat) (l' : List Bool) {w : World} (h : WOk w B bw F l) (hB : B ≤ w.heap.size) (hl : l.length + k ≤ 1048576) (hk : k ≤ 64) (hn : n < 2 ^ k) (e : l ++ bitsOf n k = l') :
    Calls Try.prog 25 #[.pointer (some ⟨bw, 0, none⟩), .int .u64 (n : Int), .int .i64 (k : Int)] w fun e w' => e = .returned (.int .i64 0) ∧ ∃ F', WOk w' B bw F' l' ∧ Fr F w F' w' := by
  rw [← e]; exact Put_ok B bw F l n k w h hB hl hk hn
theorem PutCode_to {B bw : Nat} {F : List Nat} {l : List Bool} (n k : Nat) (l' : List Bool) {w : World} (h : WOk w B bw F l) (hB : B ≤ w.heap.size) (hk : k ≤ 30) (hn : n < 18446744073709551616) (hl : l.length + costN n k ≤ 1048576) (e : l ++ codeBits n k = l') :
    Calls Try.prog 26 #[.pointer (some ⟨bw, 0, none⟩), .int .u64 (n : Int), .int .i64 (k : Int)] w fun e w' => e = .returned (.int .i64 0) ∧ ∃ F', WOk w' B bw F' l' ∧ Fr F w F' w' := by
  rw [← e]; exact PutCode_ok B bw F l n k w h hB hk hn hl
theorem PutSigned_to {B bw : Nat} {F : List Nat} {l : List Bool} (n : Int) (k : Nat) (l' : List Bool) {w : World} (h : WOk w B bw F l) (hB : B ≤ w.heap.size) (n0 : -9223372036854775808 ≤ n) (n1 : n ≤ 9223372036854775807) (hk : k ≤ 30) (hl : l.length + costN (zig (wordOf n)) k ≤ 1048576) (e : l ++ codeBits (zig (wordOf n)) k = l') :
    Calls Try.prog 30 #[.pointer (some ⟨bw, 0, none⟩), .int .i64 n, .int .i64 (k : Int)] w fun e w' => e = .returned (.int .i64 0) ∧ ∃ F', WOk w' B bw F' l' ∧ Fr F w F' w' := by
  rw [← e]; exact PutSigned_ok B bw F l n k w n0 n1 h hB hk hl
theorem Len_to {B bw : Nat} {F : List Nat} {l : List Bool} (n : Int) {w : World} (h : WOk w B bw F l) (e : (l.length : Int) = n) :
    Calls Try.prog 27 #[.pointer (some ⟨bw, 0, none⟩)] w fun e w' => e = .returned (.int .i64 n) ∧ w = w' := by
  rw [← e]; exact Len_ok B bw F l w h
theorem Bytes_to {B bw : Nat} {F : List Nat} {l : List Bool} (n : Nat) {w : World} (h : WOk w B bw F l) (hl : l.length ≤ 2000000) (e : nbytes l = n) :
    Calls Try.prog 29 #[.pointer (some ⟨bw, 0, none⟩)] w fun e w' => ∃ A cap, e = .returned (.slice A n cap) ∧ BRow w' A n (M.byteOf l) ∧ Below w.heap.size w w' ∧ (A = none → n = 0 ∧ cap = 0) := by
  subst e
  refine (Bytes_ok B bw F l w h hl).mono ?_
  rintro e w' ⟨v, rfl, hr⟩
  obtain ⟨A, cap, rfl, h1, h2, h3⟩ := hr.brow
  exact ⟨A, cap, rfl, h1, h2, h3⟩
theorem Get_to {br : Nat} {F : List Nat} {s : List Bool} {bad : Nat} (k V E : Nat) (t : List Bool) (b : Nat) {w : World} (h : ROk w br F s bad) (hk : k ≤ 64) (e : getA k s bad = (V, E, t, b)) :
    Calls Try.prog 17 #[.pointer (some ⟨br, 0, none⟩), .int .i64 (k : Int)] w fun e w' => e = .returned (.tuple #[.int .u64 (V : Int), .int .i64 (E : Int)]) ∧ ROk w' br F t b ∧ Only br w w' := by
  have := Get_ok br F s bad k w h hk
  rw [e] at this
  exact this
theorem GetCode_to {br : Nat} {F : List Nat} {s : List Bool} {bad : Nat} (k V E : Nat) (t : List Bool) (b : Nat) {w : World} (h : ROk w br F s bad) (hk : k ≤ 30) (e : getC k s bad = (V, E, t, b)) :
    Calls Try.prog 18 #[.pointer (some ⟨br, 0, none⟩), .int .i64 (k : Int)] w fun e w' => e = .returned (.tuple #[.int .u64 (V : Int), .int .i64 (E : Int)]) ∧ ROk w' br F t b ∧ Only br w w' := by
  have := GetCode_ok br F s bad k w h hk
  rw [e] at this
  exact this
theorem SameBytes_to {A C : Option Addr} {ca cc : Nat} (n : Nat) (f g : Nat → Nat) {w : World} (hA : BRow w A n f) (hC : BRow w C n g) (hfg : ∀ i, i < n → f i = g i) (hn : n ≤ 1000000) :
    Calls Try.prog 28 #[.slice A n ca, .slice C n cc] w fun e w' => e = .returned (.bool true) ∧ Below w.heap.size w w' := by
  refine (SameBytes_ok A C n ca cc f g w hA hC hfg hn).mono ?_
  rintro e w' ⟨rfl, m, rfl⟩
  exact ⟨rfl, then_drewN (Below.refl _ _) m⟩
theorem NewReader_to {A : Option Addr} {cap : Nat} (n : Nat) (bl : List Bool) {w : World} (h : BRow w A n (M.byteOf bl)) (hl : bl.length = 8 * n) (hn : n ≤ 1000000) (hnil : A = none → n = 0 ∧ cap = 0) :
    Calls Try.prog 5 #[.slice A n cap] w fun e w' => ∃ br F, e = .returned (.pointer (some ⟨br, 0, none⟩)) ∧ ROk w' br F bl 0 ∧ (∀ q, q ∈ br :: F → w.heap.size ≤ q) ∧ Below w.heap.size w w' := NewReader_ok A n cap bl w h hl hn hnil
theorem End_to {br : Nat} {F : List Nat} {s : List Bool} (E : Nat) (t : List Bool) {w : World} (h : ROk w br F s 0) (e : endA s 0 = E) (ht : (if E = 0 then s else []) = t) :
    Calls Try.prog 12 #[.pointer (some ⟨br, 0, none⟩)] w fun e w' => e = .returned (.int .i64 (E : Nat)) ∧ ROk w' br F t E ∧ Only br w w' := by
  have := End_ok br F s w h
  rw [e, ht] at this
  exact this
theorem Left_to {br : Nat} {F : List Nat} {s : List Bool} {bad : Nat} (n : Int) {w : World} (h : ROk w br F s bad) (e : (s.length : Int) = n) :
    Calls Try.prog 11 #[.pointer (some ⟨br, 0, none⟩)] w fun e w' => e = .returned (.int .i64 n) ∧ ∃ m, w' = w.drewN m := by
  rw [← e]; exact Left_ok br F s bad w h

/-- What the second Writer holds after so many numbers. -/
def pb : Nat → List Bool
  | 0 => []
  | 1 => [true]
  | 2 => [true, false, true, false]
  | 3 => [true, false, true, false, false, true, true]
  | 4 => [true, false, true, false, false, true, true, true, false, false]
  | 5 => [true, false, true, false, false, true, true, true, false, false, true, true, true]
  | _ => [true, false, true, false, false, true, true, true, false, false, true, true, true, false, true, false, false, false]
/-- A Writer and a list that lies beside it. -/
def Beside (w : World) (bw g : Nat) (cs : Array Value) (t : TypeId) (l : List Bool) (wr : World) : Prop :=
  ∃ F, WOk wr w.heap.size bw F l ∧ g ∉ F ∧ wr.heap[g]? = some (.cells cs t (0, 0)) ∧ Below w.heap.size w wr
theorem Beside.step {w wr wx : World} {bw g : Nat} {cs : Array Value} {t : TypeId} {l l' : List Bool} {F F' : List Nat} (h : WOk wr w.heap.size bw F l) (hg : g ∉ F) (hh : wr.heap[g]? = some (.cells cs t (0, 0))) (hb : Below w.heap.size w wr)
    (h' : WOk wx w.heap.size bw F' l') (fr : Fr F wr F' wx) : Beside w bw g cs t l' wx := by
  have hlt := lt_of_block hh
  refine ⟨F', h', ?_, (fr.block g hlt hg).trans hh, then_fr hb fr h.base⟩
  intro e
  rcases fr.own g e with h1 | h1
  · exact hg h1
  · omega

set_option maxRecDepth 100000 in
set_option maxHeartbeats 2000000 in
theorem awake_calls (w : World) :
    Calls Try.prog 14 #[] w fun e w' => e = .returned (.bool true) ∧ Below w.heap.size w w' := by
  have h0 := WOk.new w w.heap.size (Nat.le_refl _)
  have H0 := Lib.hid h0; clear h0
  have hmk : ∀ W : World, (Instr.makeSlice 22 (.int .i64 9) (.int .i64 9)).run Try.prog W = .ok (.slice (some ⟨W.heap.size, 0, none⟩) 9 9) (W.alloc (.cells #[.int .u8 0, .int .u8 0, .int .u8 0, .int .u8 0, .int .u8 0, .int .u8 0, .int .u8 0, .int .u8 0, .int .u8 0] 5)) := fun _ => by kernel_rfl
  go_enter Try.func14, Try.ntmps14
  go_wp2_with fail
  refine (Put_to 5 4 [false, true, false, true] H0.out (by simp) (by decide) (by decide) (by decide) (by decide)).mono ?_
  rintro e w1 ⟨rfl, F1, h1, fr1⟩
  have hB1 := Lib.hid (then_fr (then_alloc (Below.refl w.heap.size w) _) fr1 H0.out.base)
  have H1 := Lib.hid h1; clear h1 fr1 H0
  go_wp2_with fail
  refine (PutCode_to 2 0 [false, true, false, true, false, true, true] H1.out hB1.out.size (by decide) (by decide) (by decide +kernel) (by decide +kernel)).mono ?_
  rintro e w2 ⟨rfl, F2, h2, fr2⟩
  have hB2 := Lib.hid (then_fr hB1.out fr2 H1.out.base)
  have H2 := Lib.hid h2; clear h2 fr2 H1 hB1
  go_wp2_with fail
  refine (Len_to 7 H2.out (by decide)).mono ?_
  rintro e w' ⟨rfl, rfl⟩
  go_wp2_with fail
  refine (Bytes_to 1 H2.out (by decide) (by decide)).mono ?_
  rintro e w3 ⟨A3, c3, rfl, r3, b3, _⟩
  have hB3 := Lib.hid (then_ hB2.out b3)
  have H3 := Lib.hid r3; clear r3 b3 H2 hB2
  go_wp2_with fail
  refine (SameBytes_to 1 _ (fun _ => 86) (H3.out.keepd ((Below.refl _ _).alloc (Nat.le_refl _) _)) (BRow.lit (heap_alloc_new w3 _) (by intro i hi; (obtain rfl : i = 0 := by omega); rfl)) (by intro i hi; (obtain rfl : i = 0 := by omega); decide) (by decide)).mono ?_
  rintro e w4 ⟨rfl, b4⟩
  have hB4 := Lib.hid (then_ (then_alloc hB3.out _) b4); clear b4 hB3 H3
  go_wp2_with fail
  refine (NewReader_to 1 [false, true, false, true, false, true, true, false] (BRow.lit (heap_alloc_new w4 _) (by intro i hi; (obtain rfl : i = 0 := by omega); rfl)) rfl (by decide) (fun e => by cases e)).mono ?_
  rintro e w5 ⟨br, F5, rfl, h5, d5, b5⟩
  have hB5 := Lib.hid (then_ (then_alloc hB4.out _) b5)
  have hbr := Lib.hid (Nat.le_trans (then_alloc hB4.out (.cells #[.int .u8 86] 5)).size (d5 br (by simp)))
  have H5 := Lib.hid h5; clear h5 d5 b5 hB4
  go_wp2_with fail
  refine (Get_to 4 5 0 [false, true, true, false] 0 H5.out (by decide) (by decide)).mono ?_
  rintro e w6 ⟨rfl, h6, o6⟩
  have hB6 := Lib.hid (then_only hB5.out o6 hbr.out)
  have H6 := Lib.hid h6; clear h6 o6 H5 hB5
  go_wp2_with fail
  refine (GetCode_to 0 2 0 [false] 0 H6.out (by decide) (by decide +kernel)).mono ?_
  rintro e w7 ⟨rfl, h7, o7⟩
  have hB7 := Lib.hid (then_only hB6.out o7 hbr.out)
  have H7 := Lib.hid h7; clear h7 o7 H6 hB6
  go_wp2_with fail
  refine (Left_to 1 H7.out (by decide)).mono ?_
  rintro e w8 ⟨rfl, m8, hw8⟩
  have H8 := Lib.hid (H7.out.drewN m8)
  have hB8 := Lib.hid (then_drewN hB7.out m8)
  rw [← hw8] at H8 hB8
  clear hw8 H7 hB7
  go_wp2_with fail
  refine (End_to 0 [false] H8.out (by decide) (by decide)).mono ?_
  rintro e w9 ⟨rfl, h9, o9⟩
  have hB9 := Lib.hid (then_only hB8.out o9 hbr.out); clear h9 o9 H8 hB8 hbr
  go_wp2_with fail
  refine (NewReader_to 1 (List.replicate 8 false) (BRow.lit (heap_alloc_new w9 _) (by intro i hi; (obtain rfl : i = 0 := by omega); rfl)) rfl (by decide) (fun e => by cases e)).mono ?_
  rintro e wa ⟨bra, Fa, rfl, ha, da, ba⟩
  have hBa := Lib.hid (then_ (then_alloc hB9.out _) ba)
  have hbra := Lib.hid (Nat.le_trans (then_alloc hB9.out (.cells #[.int .u8 0] 5)).size (da bra (by simp)))
  have Ha := Lib.hid ha; clear ha da ba hB9
  go_wp2_with fail
  refine (GetCode_to 0 0 180 [] 180 Ha.out (by decide) (by decide +kernel)).mono ?_
  rintro e wb ⟨rfl, hb, ob⟩
  have hBb := Lib.hid (then_only hBa.out ob hbra.out); clear hb ob Ha hBa hbra
  go_wp2_with fail
  refine (NewReader_to 9 (List.replicate 72 false) (BRow.lit (heap_alloc_new wb _) (by intro i hi; (have : i = 0 ∨ i = 1 ∨ i = 2 ∨ i = 3 ∨ i = 4 ∨ i = 5 ∨ i = 6 ∨ i = 7 ∨ i = 8 := by omega); (rcases this with rfl | rfl | rfl | rfl | rfl | rfl | rfl | rfl | rfl) <;> rfl)) rfl (by decide) (fun e => by cases e)).mono ?_
  rintro e wc ⟨brc, Fc, rfl, hc, dc, bc⟩
  have hBc := Lib.hid (then_ (then_alloc hBb.out _) bc)
  have hbrc := Lib.hid (Nat.le_trans (then_alloc hBb.out (.cells #[.int .u8 0, .int .u8 0, .int .u8 0, .int .u8 0, .int .u8 0, .int .u8 0, .int .u8 0, .int .u8 0, .int .u8 0] 5)).size (dc brc (by simp)))
  have Hc := Lib.hid hc; clear hc dc bc hBb
  go_wp2_with fail
  refine (GetCode_to 0 0 181 [] 181 Hc.out (by decide) (by decide +kernel)).mono ?_
  rintro e wd ⟨rfl, hd, od⟩
  have hBd := Lib.hid (then_only hBc.out od hbrc.out); clear hd od Hc hBc hbrc
  go_wp2_with fail
  go_loopg [84] 3 (fun gh i wr => ∃ j : Nat, gh = 3 - j ∧ j ≤ 3 ∧ i = .int .i64 j ∧ Beside w wd.heap.size (wd.heap.size + 1) #[.int .i64 0, .int .i64 (-1), .int .i64 1] 3 (pb (0 + j)) wr)
  case atStart =>
    refine ⟨0, rfl, by omega, rfl, ?_⟩
    refine ⟨[wd.heap.size], (WOk.new wd w.heap.size hBd.out.size).below ((Below.refl _ _).alloc (Nat.le_refl _) _), by simp, ?_, then_alloc (then_alloc hBd.out _) _⟩
    have := heap_alloc_new (wd.alloc (.cells #[.slice none 0 0, .int .i64 0] 57)) (.cells #[.int .i64 0, .int .i64 (-1), .int .i64 1] 3)
    simpa using this
  case round =>
    obtain ⟨j, hgh, hj, rfl, F, hw, hg, hh, hb⟩ := hrel
    have Hgh := Lib.hid hgh; clear hgh
    have HR := Lib.hid (And.intro hw (And.intro hg (And.intro hh hb)))
    have c0 := (cell_of_block hh 0).trans rfl
    have c1 := (cell_of_block hh 1).trans rfl
    have c2 := (cell_of_block hh 2).trans rfl
    clear hw hg hh hb
    rcases (show j = 0 ∨ j = 1 ∨ j = 2 ∨ j = 3 from by omega) with rfl | rfl | rfl | rfl
    · go_wp2_with fail
      refine (PutSigned_to (0) 0 (pb 1) HR.out.1 HR.out.2.2.2.size (by decide) (by decide) (by decide) (by decide +kernel) (by decide +kernel)).mono ?_
      rintro e wx ⟨rfl, F', h', fr'⟩
      have HN := Lib.hid (Beside.step HR.out.1 HR.out.2.1 HR.out.2.2.1 HR.out.2.2.2 h' fr'); clear h' fr'
      go_wp2_with fail
      go_roundg (3 - 1)
      case measure => have := Hgh.out; omega
      case rel => exact ⟨1, rfl, by omega, by go_num, HN.out⟩
    · go_wp2_with fail
      refine (PutSigned_to (-1) 0 (pb 2) HR.out.1 HR.out.2.2.2.size (by decide) (by decide) (by decide) (by decide +kernel) (by decide +kernel)).mono ?_
      rintro e wx ⟨rfl, F', h', fr'⟩
      have HN := Lib.hid (Beside.step HR.out.1 HR.out.2.1 HR.out.2.2.1 HR.out.2.2.2 h' fr'); clear h' fr'
      go_wp2_with fail
      go_roundg (3 - 2)
      case measure => have := Hgh.out; omega
      case rel => exact ⟨2, rfl, by omega, by go_num, HN.out⟩
    · go_wp2_with fail
      refine (PutSigned_to (1) 0 (pb 3) HR.out.1 HR.out.2.2.2.size (by decide) (by decide) (by decide) (by decide +kernel) (by decide +kernel)).mono ?_
      rintro e wx ⟨rfl, F', h', fr'⟩
      have HN := Lib.hid (Beside.step HR.out.1 HR.out.2.1 HR.out.2.2.1 HR.out.2.2.2 h' fr'); clear h' fr'
      go_wp2_with fail
      go_roundg (3 - 3)
      case measure => have := Hgh.out; omega
      case rel => exact ⟨3, rfl, by omega, by go_num, HN.out⟩
    · clear hj Hgh c0 c1 c2
      have HW := Lib.hid HR.out.1
      have HB := Lib.hid HR.out.2.2.2
      clear HR
      obtain ⟨wq, rfl⟩ : ∃ wq : World, wq = wr := ⟨_, rfl⟩
      go_wp2_with fail
      go_loopg [94] 3 (fun gh i wr => ∃ j : Nat, gh = 3 - j ∧ j ≤ 3 ∧ i = .int .i64 j ∧ Beside w wd.heap.size wq.heap.size #[.int .u64 0, .int .u64 3, .int .u64 4] 33 (pb (3 + j)) wr)
      case atStart =>
        refine ⟨0, rfl, by omega, rfl, ?_⟩
        exact ⟨F, HW.out.below ((Below.refl _ _).alloc (Nat.le_refl _) _), fun e => Nat.lt_irrefl _ (HW.out.lt _ e), heap_alloc_new wq _, then_alloc HB.out _⟩
      case round =>
        obtain ⟨j, hgh, hj, rfl, F, hw, hg, hh, hb⟩ := hrel
        have Hgh := Lib.hid hgh; clear hgh
        have HR := Lib.hid (And.intro hw (And.intro hg (And.intro hh hb)))
        have c0 := (cell_of_block hh 0).trans rfl
        have c1 := (cell_of_block hh 1).trans rfl
        have c2 := (cell_of_block hh 2).trans rfl
        clear hw hg hh hb
        rcases (show j = 0 ∨ j = 1 ∨ j = 2 ∨ j = 3 from by omega) with rfl | rfl | rfl | rfl
        · go_wp2_with fail
          refine (PutCode_to 0 2 (pb 4) HR.out.1 HR.out.2.2.2.size (by decide) (by decide) (by decide +kernel) (by decide +kernel)).mono ?_
          rintro e wx ⟨rfl, F', h', fr'⟩
          have HN := Lib.hid (Beside.step HR.out.1 HR.out.2.1 HR.out.2.2.1 HR.out.2.2.2 h' fr'); clear h' fr'
          go_wp2_with fail
          go_roundg (3 - 1)
          case measure => have := Hgh.out; omega
          case rel => exact ⟨1, rfl, by omega, by go_num, HN.out⟩
        · go_wp2_with fail
          refine (PutCode_to 3 2 (pb 5) HR.out.1 HR.out.2.2.2.size (by decide) (by decide) (by decide +kernel) (by decide +kernel)).mono ?_
          rintro e wx ⟨rfl, F', h', fr'⟩
          have HN := Lib.hid (Beside.step HR.out.1 HR.out.2.1 HR.out.2.2.1 HR.out.2.2.2 h' fr'); clear h' fr'
          go_wp2_with fail
          go_roundg (3 - 2)
          case measure => have := Hgh.out; omega
          case rel => exact ⟨2, rfl, by omega, by go_num, HN.out⟩
        · go_wp2_with fail
          refine (PutCode_to 4 2 (pb 6) HR.out.1 HR.out.2.2.2.size (by decide) (by decide) (by decide +kernel) (by decide +kernel)).mono ?_
          rintro e wx ⟨rfl, F', h', fr'⟩
          have HN := Lib.hid (Beside.step HR.out.1 HR.out.2.1 HR.out.2.2.1 HR.out.2.2.2 h' fr'); clear h' fr'
          go_wp2_with fail
          go_roundg (3 - 3)
          case measure => have := Hgh.out; omega
          case rel => exact ⟨3, rfl, by omega, by go_num, HN.out⟩
        · clear hj Hgh c0 c1 c2
          have HW := Lib.hid HR.out.1
          have HB := Lib.hid HR.out.2.2.2
          clear HR
          go_wp2_with fail
          refine (Cost_calls 3 0 _ (by decide) (by decide)).mono ?_
          rintro e we ⟨rfl, me, hwe⟩
          have hWe := Lib.hid (HW.out.drewN me)
          have hBe := Lib.hid (then_drewN HB.out me)
          rw [← hwe] at hWe hBe
          rw [show costN 3 0 = 5 from by decide +kernel]
          clear hwe HW HB
          go_wp2_with fail
          refine (Len_to 18 hWe.out (by decide)).mono ?_
          rintro e w' ⟨rfl, rfl⟩
          go_wp2_with fail
          refine (Bytes_to 3 hWe.out (by decide) (by decide)).mono ?_
          rintro e wf ⟨Af, cf, rfl, rf, bf, _⟩
          have hBf := Lib.hid (then_ hBe.out bf)
          have Hf := Lib.hid rf; clear rf bf hWe hBe
          go_wp2_with fail
          refine (SameBytes_to 3 _ (fun i => if i = 0 then 167 else if i = 1 then 58 else 0) (Hf.out.keepd ((Below.refl _ _).alloc (Nat.le_refl _) _)) (BRow.lit (heap_alloc_new wf _) (by intro i hi; (have : i = 0 ∨ i = 1 ∨ i = 2 := by omega); (rcases this with rfl | rfl | rfl) <;> rfl)) (by intro i hi; (have : i = 0 ∨ i = 1 ∨ i = 2 := by omega); (rcases this with rfl | rfl | rfl) <;> decide) (by decide)).mono ?_
          rintro e wg ⟨rfl, bg⟩
          have hBg := Lib.hid (then_ (then_alloc hBf.out _) bg); clear bg hBf Hf
          go_wp2_with fail
          go_ret
          exact ⟨rfl, hBg.out⟩
end Go.Proofs.Ytpnlcnilhlcfpaa
