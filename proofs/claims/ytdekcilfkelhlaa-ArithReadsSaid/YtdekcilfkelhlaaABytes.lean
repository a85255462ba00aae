/- bytes. -/
import Derived.Test.YtdekcilfkelhlaaACode
set_option linter.unusedVariables false
namespace Go.Proofs.Ytdekcilfkelhlaa
open Go.RowKit
open M (bitsOf bitsOf_length numOf)

/-- The bits of the code so far. -/
def endBits (s : St) : List Bool := s.out ++ (decide (1073741824 ≤ s.lo) :: List.replicate (s.dl + 1) (!decide (1073741824 ≤ s.lo)))
theorem endBits_length (s : St) : (endBits s).length = s.out.length + s.dl + 2 := by unfold endBits; simp; omega
def endBox (B : Nat) : Box := { B := B, bw := B, T := 31, G := [], A := none, n := 0, cap := 0, f := fun _ => 0, x9 := none }
def endSt (d : Nat) (l : List Bool) : St := { lo := 0, hi := 0, dl := d, cnt := 0, out := l, num := 0, at_ := 0 }
theorem end_new (w : World) (d : Nat) : COk (endBox w.heap.size) (w.alloc (.cells #[.int .u64 0, .int .u64 0, .int .i64 (d : Nat), .int .i64 0, .slice none 0 0, .int .i64 0, .int .u64 0, .slice none 0 0, .int .i64 0] 31)) [w.heap.size] (endSt d []) 0 :=
  ⟨_, WOk.new (Nat.le_refl _) rfl rfl (by decide), rfl, rfl, rfl, rfl, rfl, rfl, rfl, rfl, Or.inl rfl, by simp [endBox], by simp [endBox], by simp [endBox]⟩
/-- Bits are put by themselves. -/
theorem cput_ok {X : Box} {F : List Nat} {s : St} {sh : Nat} (N K : Nat) (l : List Bool) (n k : Int) (w : World) (h : COk X w F s sh) (hB : X.B ≤ w.heap.size) (en : n = N) (ek : k = K) (hl : s.out.length + K ≤ 1048576) (hk : K ≤ 64) (hN : N < 2 ^ K) (hb : bitsOf N K = l) :
    Calls Try.prog 75 #[.pointer (some ⟨X.bw, 4, none⟩), .int .u64 n, .int .i64 k] w fun e w' => e = .returned (.int .i64 0) ∧ ∃ F', COk X w' F' { s with out := s.out ++ l } sh ∧ Fr F w F' w' := by
  obtain ⟨cs, hw, hkk⟩ := h.wok
  refine (Put_z N K hw hB en ek hl hk hN).mono ?_
  rintro e w' ⟨rfl, F', ds, h1, h2, h3⟩
  rw [hb] at h1
  exact ⟨rfl, F', hkk _ _ _ _ h1 h2 h3, h3⟩
theorem COk.bytes {X : Box} {F : List Nat} {s : St} {sh : Nat} (n : Nat) {w : World} (h : COk X w F s sh) (hl : s.out.length ≤ 2000000) (e : nbytes s.out = n) :
    Calls Try.prog 72 #[.pointer (some ⟨X.bw, 4, none⟩)] w fun e w' => ∃ v, e = .returned v ∧ NewRow w w' v n (M.byteOf s.out) := by
  obtain ⟨cs, hw, _⟩ := h.wok
  exact Bytes_ok n hw hl e
theorem COk.len {X : Box} {F : List Nat} {s : St} {sh : Nat} (n : Int) {w : World} (h : COk X w F s sh) (e : (s.out.length : Int) = n) :
    Calls Try.prog 73 #[.pointer (some ⟨X.bw, 4, none⟩)] w fun e w' => e = .returned (.int .i64 n) ∧ w = w' := by
  obtain ⟨cs, hw, _⟩ := h.wok
  exact Len_ok n hw e
theorem NewRow.back {u w w' : World} {v : Value} {n : Nat} {f : Nat → Nat} (h : NewRow w w' v n f) (hb : Below u.heap.size u w) : NewRow u w' v n f := by
  obtain ⟨⟨F, A, cap, e, hr, hF, hn⟩, hb2⟩ := h
  exact ⟨⟨F, A, cap, e, hr, fun q hq => ⟨Nat.le_trans hb.size (hF q hq).1, (hF q hq).2⟩, hn⟩, then_ hb hb2⟩

structure BRel (w : World) (st : St) (br : Nat) (FR : List Nat) (m : Nat) (F3 : List Nat) (wr : World) : Prop where
  c : COk (endBox w.heap.size) wr F3 (endSt (st.dl + 1) (st.out.take m)) 0
  r : ROk wr br FR ((pad st.out).drop (min m st.out.length)) 0
  b : Below w.heap.size w wr
  ap : ∀ q, q ∈ br :: FR → q ∉ F3
  rb : w.heap.size ≤ br

set_option maxRecDepth 100000 in
set_option maxHeartbeats 1000000 in
theorem bytes_ok {X : Box} {F : List Nat} {st : St} (sh : Nat) (w : World) (h : COk X w F st sh) (hl : st.out.length + st.dl + 2 ≤ 1000000) :
    Calls Try.prog 55 #[.pointer (some ⟨X.bw, 0, none⟩)] w fun e w' => ∃ v, e = .returned v ∧ NewRow w w' v (nbytes (endBits st)) (M.byteOf (endBits st)) := by
  obtain ⟨k0, _, k2, _⟩ := h.cells
  have hlo : 0 ≤ (st.lo : Int) := by omega
  have H := Lib.hid h; clear h
  go_enter Try.func55, Try.ntmps55
  go_wp2_with fail
  have e0 : COk (endBox w.heap.size) (w.alloc (.cells #[.int .u64 0, .int .u64 0, .int .i64 ((st.dl : Int) + 1), .int .i64 0, .slice none 0 0, .int .i64 0, .int .u64 0, .slice none 0 0, .int .i64 0] 31)) [w.heap.size] (endSt (st.dl + 1) []) 0 := end_new w (st.dl + 1)
  have b0 : Below w.heap.size w (w.alloc (.cells #[.int .u64 0, .int .u64 0, .int .i64 ((st.dl : Int) + 1), .int .i64 0, .slice none 0 0, .int .i64 0, .int .u64 0, .slice none 0 0, .int .i64 0] 31)) := (Below.refl _ _).alloc (Nat.le_refl _) _
  obtain ⟨w0, ew0⟩ : ∃ w0, w0 = (w.alloc (.cells #[.int .u64 0, .int .u64 0, .int .i64 ((st.dl : Int) + 1), .int .i64 0, .slice none 0 0, .int .i64 0, .int .u64 0, .slice none 0 0, .int .i64 0] 31)) := ⟨_, rfl⟩
  rw [← ew0] at e0 b0 ⊢
  clear ew0
  have H0 := Lib.hid (And.intro e0 (And.intro b0 (H.out.below b0))); clear e0 b0
  refine (H0.out.2.2.bytes _ (by omega) rfl).mono ?_
  rintro e w1 ⟨v, rfl, hv⟩
  obtain ⟨A, cap, rfl, hbr, hb1, hnil⟩ := hv.brow
  have H1 := Lib.hid (And.intro hbr (And.intro hb1 hnil)); clear hbr hb1 hnil hv
  go_wp2_with fail
  refine (NewReader_pad st.out H1.out.1 rfl (by omega) H1.out.2.2).mono ?_
  rintro e w2 ⟨br, FR, rfl, hr, hrb, hb2⟩
  have hb12 := then_ H1.out.2.1 hb2
  have hb02 := then_ H0.out.2.1 hb12
  have hsz : w.heap.size < w1.heap.size := Nat.lt_of_lt_of_le (H0.out.1.lt _ (by simp)) H1.out.2.1.size
  have H2 := Lib.hid (And.intro hr (And.intro hrb (And.intro hb02 (And.intro hb12 hsz)))); clear hr hrb hb2 hb02 hb12 hsz
  obtain ⟨L, eL⟩ : ∃ L, L = st.out.length := ⟨_, rfl⟩
  have hLb : L ≤ 1000000 := by omega
  have EL := Lib.hid eL; clear eL
  go_wp2_with fail
  refine ((H.out.below H2.out.2.2.1).len (L : Int) (by rw [EL.out])).mono ?_
  rintro e w3 ⟨rfl, rfl⟩
  go_wp2_with fail
  go_loopg [5] L (fun gh z wr => ∃ (m : Nat) (y : Int) (F3 : List Nat), gh = L - m ∧ z = .int .i64 y ∧ y = (L : Int) - m ∧ m ≤ L + 64 ∧ BRel w st br FR m F3 wr)
  case atStart =>
    refine ⟨0, (L : Int), [w.heap.size], by omega, rfl, by omega, by omega, ?_, ?_, H2.out.2.2.1, ?_, ?_⟩
    · exact H0.out.1.below H2.out.2.2.2.1
    · simpa using H2.out.1
    · intro q hq h
      rw [List.mem_singleton] at h
      have := H2.out.2.1 q hq
      have := H2.out.2.2.2.2
      omega
    · have := H2.out.2.1 br (by simp)
      have := H2.out.2.2.2.2
      omega
  case round =>
    obtain ⟨m, y, F3, hgh, rfl, hy, hm, hR⟩ := hrel
    have Hgh := Lib.hid hgh; clear hgh
    have HR := Lib.hid hR; clear hR H1
    by_cases hlt : 0 < y
    · obtain ⟨K, hK⟩ : ∃ K, K = min 64 (L - m) := ⟨_, rfl⟩
      have hmin : (if 64 < y then (64 : Int) else y) = (K : Nat) := by split <;> omega
      have hK1 : K ≤ 64 := by omega
      have hmL : m + K ≤ L := by omega
      have HK := Lib.hid hK; clear hK
      have HY := Lib.hid hy; clear hy
      have hy1 : y ≤ 1000000 := by have := HY.out; omega
      obtain ⟨sl, esl⟩ : ∃ sl, sl = (st.out.drop m).take K := ⟨_, rfl⟩
      have hsll : sl.length = K := by rw [esl, List.length_take, List.length_drop]; have := EL.out; omega
      have hget : getA K ((pad st.out).drop (min m st.out.length)) 0 = (numOf sl, 0, (pad st.out).drop (min (m + 64) st.out.length), 0) := by
        have e1 : min m st.out.length = m := by have := EL.out; omega
        have e2 : min (m + 64) st.out.length = m + K := by have := EL.out; have := HK.out; omega
        rw [e1, e2]
        unfold getA
        rw [if_neg (by simp), if_neg (by rw [List.length_drop, pad_length]; have := pad_rest st.out; have := EL.out; unfold nbytes; omega), List.drop_drop]
        have e3 : ((pad st.out).drop m).take K = sl := by
          rw [esl]
          unfold pad
          rw [List.drop_append_of_le_length (by have := EL.out; omega), List.take_append_of_le_length (by rw [List.length_drop]; have := EL.out; omega)]
        rw [e3]
      have htk : st.out.take m ++ sl = st.out.take (m + 64) := by
        rw [List.take_add, esl]
        congr 1
        have := HK.out
        by_cases h64 : K = 64
        · rw [h64]
        · rw [List.take_of_length_le (l := st.out.drop m) (i := 64) (by rw [List.length_drop]; have := EL.out; omega), List.take_of_length_le (by rw [List.length_drop]; have := EL.out; omega)]
      have HS := Lib.hid (And.intro esl (And.intro hsll (And.intro hget htk))); clear esl hsll hget htk
      go_wp2_with fail
      refine (Get_z K (numOf sl) 0 _ _ _ HR.out.r rfl rfl hK1 HS.out.2.2.1).mono ?_
      rintro e w4 ⟨rfl, hr4, ho4⟩
      have hfb := Fr.of_only ho4
      have hc4 := HR.out.c.keep hfb (by intro q hq h; rw [List.mem_singleton] at h; subst h; exact HR.out.ap q (by simp) hq) (by simp [endBox])
      have hb4 := then_only HR.out.b ho4 HR.out.rb
      have H4 := Lib.hid (And.intro hr4 (And.intro hc4 (And.intro hb4 ho4.size))); clear hr4 hc4 hb4 ho4 hfb
      go_wp2_with fail
      refine (cput_ok (X := endBox w.heap.size) (numOf sl) K sl _ _ w4 H4.out.2.1 H4.out.2.2.1.size rfl rfl (by show (st.out.take m).length + K ≤ _; rw [List.length_take]; omega) hK1 (by have := M.numOf_lt sl; rw [HS.out.2.1] at this; exact this) (by have := M.bitsOf_numOf sl; rw [HS.out.2.1] at this; exact this)).mono ?_
      rintro e w5 ⟨rfl, F5, hc5, fr5⟩
      have H5 := Lib.hid (And.intro hc5 fr5); clear hc5 fr5
      go_wp2_with fail
      go_roundg (L - (m + 64))
      case measure => have := Hgh.out; have := HY.out; omega
      case rel =>
        have hrl : ∀ q, q ∈ br :: FR → q < w4.heap.size := H4.out.1.lt
        refine ⟨m + 64, y - 64, F5, rfl, rfl, by have := HY.out; omega, by have := HY.out; omega, ?_, ?_, ?_, ?_, HR.out.rb⟩
        · have := H5.out.1
          unfold endSt at this ⊢
          rw [← HS.out.2.2.2]
          exact this
        · exact H4.out.1.keep H5.out.2 HR.out.ap
        · exact then_fr H4.out.2.2.1 H5.out.2 H4.out.2.1.base
        · exact H5.out.2.apart HR.out.ap hrl
    · have hmm : L ≤ m := by omega
      have hk0 := H.out.below HR.out.b
      obtain ⟨k0', _⟩ := hk0.cells
      have htk : st.out.take m = st.out := List.take_of_length_le (by have := EL.out; omega)
      have hc := HR.out.c
      rw [htk] at hc
      have HC := Lib.hid hc; clear hc htk hk0 hy
      have hend : ∀ b : Bool, b = decide (1073741824 ≤ st.lo) → st.out ++ (b :: List.replicate (st.dl + 1) (!b)) = endBits st := by rintro b rfl; rfl
      have HE := Lib.hid hend; clear hend
      by_cases hq : 1073741824 ≤ st.lo
      · have d1 : decide (((st.lo : Nat) : Int) < 1073741824) = false := decide_eq_false (by omega)
        have hb := HE.out true (by rw [decide_eq_true hq])
        have HB := Lib.hid hb; clear hb
        clear hq
        go_wp2_with fail
        refine (put_ok' (X := endBox w.heap.size) true wr HC.out HR.out.b.size (by show st.out.length + (st.dl + 1) + 1 ≤ _; omega)).mono ?_
        rintro e w5 ⟨rfl, F5, hc5, fr5⟩
        have e5 : (endSt (st.dl + 1) st.out).out ++ (true :: List.replicate (endSt (st.dl + 1) st.out).dl (!true)) = endBits st := HB.out
        rw [e5] at hc5
        have H5 := Lib.hid (And.intro hc5 fr5); clear hc5 fr5 e5
        go_wp2_with fail
        refine (H5.out.1.bytes (nbytes (endBits st)) (by show (endBits st).length ≤ _; rw [endBits_length]; omega) rfl).mono ?_
        rintro e w6 ⟨v, rfl, hv⟩
        have H6 := Lib.hid hv; clear hv
        go_wp2_with fail
        go_ret
        exact ⟨v, rfl, H6.out.back (then_fr HR.out.b H5.out.2 HC.out.base)⟩
      · have d1 : decide (((st.lo : Nat) : Int) < 1073741824) = true := decide_eq_true (by omega)
        have hb := HE.out false (by rw [decide_eq_false hq])
        have HB := Lib.hid hb; clear hb
        clear hq
        go_wp2_with fail
        refine (put_ok' (X := endBox w.heap.size) false wr HC.out HR.out.b.size (by show st.out.length + (st.dl + 1) + 1 ≤ _; omega)).mono ?_
        rintro e w5 ⟨rfl, F5, hc5, fr5⟩
        have e5 : (endSt (st.dl + 1) st.out).out ++ (false :: List.replicate (endSt (st.dl + 1) st.out).dl (!false)) = endBits st := HB.out
        rw [e5] at hc5
        have H5 := Lib.hid (And.intro hc5 fr5); clear hc5 fr5 e5
        go_wp2_with fail
        refine (H5.out.1.bytes (nbytes (endBits st)) (by show (endBits st).length ≤ _; rw [endBits_length]; omega) rfl).mono ?_
        rintro e w6 ⟨v, rfl, hv⟩
        have H6 := Lib.hid hv; clear hv
        go_wp2_with fail
        go_ret
        exact ⟨v, rfl, H6.out.back (then_fr HR.out.b H5.out.2 HC.out.base)⟩
end Go.Proofs.Ytdekcilfkelhlaa
