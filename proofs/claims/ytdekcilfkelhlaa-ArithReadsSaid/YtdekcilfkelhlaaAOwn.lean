/- Bytes whose slice is one's own. -/
import Derived.Test.YtdekcilfkelhlaaAZeros
import Derived.Test.YtdekcilfkelhlaaAWrote
set_option linter.unusedVariables false
namespace Go.Proofs.Ytdekcilfkelhlaa
open Go.RowKit
open M (bitsOf bitsOf_length numOf)

def bytesL (n : Nat) (f : Nat → Nat) : List Value := (List.range n).map fun i => Value.int .u8 ((f i : Nat) : Int)
def OwnRow (w w' : World) (v : Value) (n : Nat) (f : Nat → Nat) : Prop := NewRow w w' v n f ∧ w'.ownsRow w.heap.size 5 1 v n (bytesL n f)
theorem own_base {w : World} {B B' e s n : Nat} {v : Value} {xs : List Value} (h : w.ownsRow B e s v n xs) (hB : B' ≤ B) : w.ownsRow B' e s v n xs := by
  refine ⟨h.1, h.2.imp id ?_⟩
  rintro ⟨g, cap, cur, e1, e2, e3⟩
  exact ⟨g, cap, cur, e1, Nat.le_trans hB e2, e3⟩
theorem OwnRow.back {u w w' : World} {v : Value} {n : Nat} {f : Nat → Nat} (h : OwnRow w w' v n f) (hb : Below u.heap.size u w) : OwnRow u w' v n f := ⟨h.1.back hb, own_base h.2 hb.size⟩
theorem Clone_some_own (ad : Addr) (n cap : Nat) (f : Nat → Nat) (w : World) (h : BRow w (some ad) n f) (hn : n ≤ 1000000) :
    Calls Try.prog 48 #[.slice (some ad) n cap] w fun e w' => ∃ v, e = .returned v ∧ OwnRow w w' v n f := by
  obtain ⟨i0, hi, hz0, hz1, hz2⟩ := info_parts info5
  have HI := Lib.hid (And.intro hi (And.intro hz0 (And.intro hz1 hz2))); clear hi hz0 hz1 hz2
  have hnews : ∀ o, ∀ j u, ((List.range n).map fun i => Value.int .u8 ((f i : Nat) : Int))[j]? = some u → (w.alloc o).cell? (ad.add j) = some u := by
    intro o j u hu
    rw [List.getElem?_map] at hu
    rcases Nat.lt_or_ge j n with hj | hj
    · rw [List.getElem?_range hj, Option.map_some] at hu
      obtain ⟨ad', e, hc⟩ := h j hj
      injection e with e
      subst e
      rw [World.cell?_alloc_lt w o _ (World.block_lt_of_cell? w _ hc), hc, hu]
    · rw [List.getElem?_eq_none (by simp; omega)] at hu; simp at hu
  have H := Lib.hid hnews; clear hnews h
  have q : ∀ (w : World) (a : Option Addr) (n c n' c' : Nat), (binOp .eql 22 (.slice a n c) (.slice none n' c')).run Try.prog w = .ok (.bool a.isNone) w := fun w a n c n' c' => Lib.run_eql_slice_nil w _ _ a n c n' c' Try.underlying22
  go_enter Try.func48, Try.ntmps48
  go_wp2_with (at_builtin; refine wpList_append_own_at _ rfl _ _ 22 rfl w.heap.size 5 i0 (.int .u8 0) 1 1 Try.underlying22 HI.out.1 HI.out.2.1 HI.out.2.2.1 HI.out.2.2.2 rfl (by decide) (.slice (some ⟨w.heap.size, 0, none⟩) 0 0) 0 [] rfl ?c0 ad n cap ((List.range n).map fun i => Value.int .u8 ((f i : Nat) : Int)) rfl ?c1 ?c2 ?c3 ?c4 ?c5 ?c6 ?_)
  case c0 => exact ⟨rfl, Or.inr ⟨_, 0, _, rfl, Nat.le_refl _, heap_alloc_new w _, Nat.le_refl _, by unfold maxLen; omega, rfl, rfl⟩⟩
  case c1 => simp
  case c2 => exact H.out _
  case c3 => intro u hu; rw [List.mem_map] at hu; obtain ⟨i, _, rfl⟩ := hu; rfl
  case c4 => unfold maxLen; omega
  case c5 => omega
  case c6 => simp
  intro v' w1 hown hg _ hat
  have HN := Lib.hid (And.intro hown (And.intro hg hat)); clear hown hg hat
  go_wp2_with fail
  go_ret
  exact ⟨_, rfl, ⟨row_of_own HN.out.1, ((Below.refl _ _).alloc (Nat.le_refl _) _).grown HN.out.2.1 (by simp) (by intro q hq; simp [Value.ownBlock] at hq; omega)⟩, HN.out.1⟩
theorem Clone_own (A : Option Addr) (n cap : Nat) (f : Nat → Nat) (w : World) (h : BRow w A n f) (hn : n ≤ 1000000) (hnil : A = none → n = 0 ∧ cap = 0) :
    Calls Try.prog 48 #[.slice A n cap] w fun e w' => ∃ v, e = .returned v ∧ OwnRow w w' v n f := by
  rcases A with _ | ad
  · obtain ⟨rfl, rfl⟩ := hnil rfl
    refine (Clone_nil 0 0 w).mono ?_
    rintro e w' ⟨rfl, rfl⟩
    exact ⟨_, rfl, ⟨⟨[], none, 0, rfl, Or.inl rfl, fun q hq => absurd hq (by simp), fun _ => ⟨rfl, rfl⟩⟩, Below.refl _ _⟩, World.ownsRow_nil _ _ _ _⟩
  · exact Clone_some_own ad n cap f w h hn

theorem Bytes_own {B bw o : Nat} {T : TypeId} {cs : Array Value} {F : List Nat} {l : List Bool} (n : Nat) {w : World} (h : WOk w B bw o T cs F l) (hl : l.length ≤ 2000000) (e : nbytes l = n) :
    Calls Try.prog 72 #[.pointer (some ⟨bw, o, none⟩)] w fun e w' => ∃ v, e = .returned v ∧ OwnRow w w' v n (M.byteOf l) := by
  subst e
  obtain ⟨A, cap, hc, hr, hnil⟩ := h.row
  have hcl := Clone_own A (nbytes l) cap _ w hr (by unfold nbytes; omega) hnil
  have H := Lib.hid hcl
  clear h hr hnil hcl
  go_enter Try.func72, Try.ntmps72
  go_wp2_with fail
  refine H.out.mono ?_
  rintro e w' ⟨v, rfl, hq⟩
  have HQ := Lib.hid hq; clear hq
  go_wp2_with fail
  go_ret
  exact ⟨v, rfl, HQ.out⟩

theorem COk.bytes_own {X : Box} {F : List Nat} {s : St} {sh : Nat} (n : Nat) {w : World} (h : COk X w F s sh) (hl : s.out.length ≤ 2000000) (e : nbytes s.out = n) :
    Calls Try.prog 72 #[.pointer (some ⟨X.bw, 4, none⟩)] w fun e w' => ∃ v, e = .returned v ∧ OwnRow w w' v n (M.byteOf s.out) := by
  obtain ⟨cs, hw, _⟩ := h.wok
  exact Bytes_own n hw hl e
set_option maxRecDepth 100000 in
set_option maxHeartbeats 1000000 in
theorem bytes_own {X : Box} {F : List Nat} {st : St} (sh : Nat) (w : World) (h : COk X w F st sh) (hl : st.out.length + st.dl + 2 ≤ 1000000) :
    Calls Try.prog 55 #[.pointer (some ⟨X.bw, 0, none⟩)] w fun e w' => ∃ v, e = .returned v ∧ OwnRow w w' v (nbytes (endBits st)) (M.byteOf (endBits st)) := by
  obtain ⟨k0, _, k2, _⟩ := h.cells
  have hlo : 0 ≤ (st.lo : Int) := by omega
  have H := Lib.hid h; clear h
  go_enter Try.func55, Try.ntmps55
  go_wp2_with fail
  have e0 : COk (endBox w.heap.size) (w.alloc (.cells #[.int .u64 0, .int .u64 0, .int .i64 ((st.dl : Int) + 1), .int .i64 0, .slice none 0 0, .int .i64 0, .int .u64 0, .slice none 0 0, .int .i64 0] 31)) [w.heap.size] (endSt (st.dl + 1) []) 0 := end_new w (st.dl + 1)
  have b0 : Below w.heap.size w (w.alloc (.cells #[.int .u64 0, .int .u64 0, .int .i64 ((st.dl : Int) + 1), .int .i64 0, .slice none 0 0, .int .i64 0, .int .u64 0, .slice none 0 0, .int .i64 0] 31)) := (Below.refl _ _).alloc (Nat.le_refl _) _
  obtain ⟨w0, ew0⟩ : ∃ w0, w0 = (w.alloc (.cells #[.int .u64 0, .int .u64 0, .int .i64 ((st.dl : Int) + 1), .int .i64 0, .slice none 0 0, .int .i64 0, .int .u64 0, .slice none 0 0, .int .i64 0] 31)) := ⟨_, rfl⟩
  rw [← ew0] at e0 b0 ⊢
  clear ew0
  have H0 := Lib.hid (And.intro e0 (And.intro b0 (H.out.below b0))); clear e0 b0
  refine (H0.out.2.2.bytes _ (by omega) rfl).mono ?_
  rintro e w1 ⟨v, rfl, hv⟩
  obtain ⟨A, cap, rfl, hbr, hb1, hnil⟩ := hv.brow
  have H1 := Lib.hid (And.intro hbr (And.intro hb1 hnil)); clear hbr hb1 hnil hv
  go_wp2_with fail
  refine (NewReader_pad st.out H1.out.1 rfl (by omega) H1.out.2.2).mono ?_
  rintro e w2 ⟨br, FR, rfl, hr, hrb, hb2⟩
  have hb12 := then_ H1.out.2.1 hb2
  have hb02 := then_ H0.out.2.1 hb12
  have hsz : w.heap.size < w1.heap.size := Nat.lt_of_lt_of_le (H0.out.1.lt _ (by simp)) H1.out.2.1.size
  have H2 := Lib.hid (And.intro hr (And.intro hrb (And.intro hb02 (And.intro hb12 hsz)))); clear hr hrb hb2 hb02 hb12 hsz
  obtain ⟨L, eL⟩ : ∃ L, L = st.out.length := ⟨_, rfl⟩
  have hLb : L ≤ 1000000 := by omega
  have EL := Lib.hid eL; clear eL
  go_wp2_with fail
  refine ((H.out.below H2.out.2.2.1).len (L : Int) (by rw [EL.out])).mono ?_
  rintro e w3 ⟨rfl, rfl⟩
  go_wp2_with fail
  go_loopg [5] L (fun gh z wr => ∃ (m : Nat) (y : Int) (F3 : List Nat), gh = L - m ∧ z = .int .i64 y ∧ y = (L : Int) - m ∧ m ≤ L + 64 ∧ BRel w st br FR m F3 wr)
  case atStart =>
    refine ⟨0, (L : Int), [w.heap.size], by omega, rfl, by omega, by omega, ?_, ?_, H2.out.2.2.1, ?_, ?_⟩
    · exact H0.out.1.below H2.out.2.2.2.1
    · simpa using H2.out.1
    · intro q hq h
      rw [List.mem_singleton] at h
      have := H2.out.2.1 q hq
      have := H2.out.2.2.2.2
      omega
    · have := H2.out.2.1 br (by simp)
      have := H2.out.2.2.2.2
      omega
  case round =>
    obtain ⟨m, y, F3, hgh, rfl, hy, hm, hR⟩ := hrel
    have Hgh := Lib.hid hgh; clear hgh
    have HR := Lib.hid hR; clear hR H1
    by_cases hlt : 0 < y
    · obtain ⟨K, hK⟩ : ∃ K, K = min 64 (L - m) := ⟨_, rfl⟩
      have hmin : (if 64 < y then (64 : Int) else y) = (K : Nat) := by split <;> omega
      have hK1 : K ≤ 64 := by omega
      have hmL : m + K ≤ L := by omega
      have HK := Lib.hid hK; clear hK
      have HY := Lib.hid hy; clear hy
      have hy1 : y ≤ 1000000 := by have := HY.out; omega
      obtain ⟨sl, esl⟩ : ∃ sl, sl = (st.out.drop m).take K := ⟨_, rfl⟩
      have hsll : sl.length = K := by rw [esl, List.length_take, List.length_drop]; have := EL.out; omega
      have hget : getA K ((pad st.out).drop (min m st.out.length)) 0 = (numOf sl, 0, (pad st.out).drop (min (m + 64) st.out.length), 0) := by
        have e1 : min m st.out.length = m := by have := EL.out; omega
        have e2 : min (m + 64) st.out.length = m + K := by have := EL.out; have := HK.out; omega
        rw [e1, e2]
        unfold getA
        rw [if_neg (by simp), if_neg (by rw [List.length_drop, pad_length]; have := pad_rest st.out; have := EL.out; unfold nbytes; omega), List.drop_drop]
        have e3 : ((pad st.out).drop m).take K = sl := by
          rw [esl]
          unfold pad
          rw [List.drop_append_of_le_length (by have := EL.out; omega), List.take_append_of_le_length (by rw [List.length_drop]; have := EL.out; omega)]
        rw [e3]
      have htk : st.out.take m ++ sl = st.out.take (m + 64) := by
        rw [List.take_add, esl]
        congr 1
        have := HK.out
        by_cases h64 : K = 64
        · rw [h64]
        · rw [List.take_of_length_le (l := st.out.drop m) (i := 64) (by rw [List.length_drop]; have := EL.out; omega), List.take_of_length_le (by rw [List.length_drop]; have := EL.out; omega)]
      have HS := Lib.hid (And.intro esl (And.intro hsll (And.intro hget htk))); clear esl hsll hget htk
      go_wp2_with fail
      refine (Get_z K (numOf sl) 0 _ _ _ HR.out.r rfl rfl hK1 HS.out.2.2.1).mono ?_
      rintro e w4 ⟨rfl, hr4, ho4⟩
      have hfb := Fr.of_only ho4
      have hc4 := HR.out.c.keep hfb (by intro q hq h; rw [List.mem_singleton] at h; subst h; exact HR.out.ap q (by simp) hq) (by simp [endBox])
      have hb4 := then_only HR.out.b ho4 HR.out.rb
      have H4 := Lib.hid (And.intro hr4 (And.intro hc4 (And.intro hb4 ho4.size))); clear hr4 hc4 hb4 ho4 hfb
      go_wp2_with fail
      refine (cput_ok (X := endBox w.heap.size) (numOf sl) K sl _ _ w4 H4.out.2.1 H4.out.2.2.1.size rfl rfl (by show (st.out.take m).length + K ≤ _; rw [List.length_take]; omega) hK1 (by have := M.numOf_lt sl; rw [HS.out.2.1] at this; exact this) (by have := M.bitsOf_numOf sl; rw [HS.out.2.1] at this; exact this)).mono ?_
      rintro e w5 ⟨rfl, F5, hc5, fr5⟩
      have H5 := Lib.hid (And.intro hc5 fr5); clear hc5 fr5
      go_wp2_with fail
      go_roundg (L - (m + 64))
      case measure => have := Hgh.out; have := HY.out; omega
      case rel =>
        have hrl : ∀ q, q ∈ br :: FR → q < w4.heap.size := H4.out.1.lt
        refine ⟨m + 64, y - 64, F5, rfl, rfl, by have := HY.out; omega, by have := HY.out; omega, ?_, ?_, ?_, ?_, HR.out.rb⟩
        · have := H5.out.1
          unfold endSt at this ⊢
          rw [← HS.out.2.2.2]
          exact this
        · exact H4.out.1.keep H5.out.2 HR.out.ap
        · exact then_fr H4.out.2.2.1 H5.out.2 H4.out.2.1.base
        · exact H5.out.2.apart HR.out.ap hrl
    · have hmm : L ≤ m := by omega
      have hk0 := H.out.below HR.out.b
      obtain ⟨k0', _⟩ := hk0.cells
      have htk : st.out.take m = st.out := List.take_of_length_le (by have := EL.out; omega)
      have hc := HR.out.c
      rw [htk] at hc
      have HC := Lib.hid hc; clear hc htk hk0 hy
      have hend : ∀ b : Bool, b = decide (1073741824 ≤ st.lo) → st.out ++ (b :: List.replicate (st.dl + 1) (!b)) = endBits st := by rintro b rfl; rfl
      have HE := Lib.hid hend; clear hend
      by_cases hq : 1073741824 ≤ st.lo
      · have d1 : decide (((st.lo : Nat) : Int) < 1073741824) = false := decide_eq_false (by omega)
        have hb := HE.out true (by rw [decide_eq_true hq])
        have HB := Lib.hid hb; clear hb
        clear hq
        go_wp2_with fail
        refine (put_ok' (X := endBox w.heap.size) true wr HC.out HR.out.b.size (by show st.out.length + (st.dl + 1) + 1 ≤ _; omega)).mono ?_
        rintro e w5 ⟨rfl, F5, hc5, fr5⟩
        have e5 : (endSt (st.dl + 1) st.out).out ++ (true :: List.replicate (endSt (st.dl + 1) st.out).dl (!true)) = endBits st := HB.out
        rw [e5] at hc5
        have H5 := Lib.hid (And.intro hc5 fr5); clear hc5 fr5 e5
        go_wp2_with fail
        refine (H5.out.1.bytes_own (nbytes (endBits st)) (by show (endBits st).length ≤ _; rw [endBits_length]; omega) rfl).mono ?_
        rintro e w6 ⟨v, rfl, hv⟩
        have H6 := Lib.hid hv; clear hv
        go_wp2_with fail
        go_ret
        exact ⟨v, rfl, H6.out.back (then_fr HR.out.b H5.out.2 HC.out.base)⟩
      · have d1 : decide (((st.lo : Nat) : Int) < 1073741824) = true := decide_eq_true (by omega)
        have hb := HE.out false (by rw [decide_eq_false hq])
        have HB := Lib.hid hb; clear hb
        clear hq
        go_wp2_with fail
        refine (put_ok' (X := endBox w.heap.size) false wr HC.out HR.out.b.size (by show st.out.length + (st.dl + 1) + 1 ≤ _; omega)).mono ?_
        rintro e w5 ⟨rfl, F5, hc5, fr5⟩
        have e5 : (endSt (st.dl + 1) st.out).out ++ (false :: List.replicate (endSt (st.dl + 1) st.out).dl (!false)) = endBits st := HB.out
        rw [e5] at hc5
        have H5 := Lib.hid (And.intro hc5 fr5); clear hc5 fr5 e5
        go_wp2_with fail
        refine (H5.out.1.bytes_own (nbytes (endBits st)) (by show (endBits st).length ≤ _; rw [endBits_length]; omega) rfl).mono ?_
        rintro e w6 ⟨v, rfl, hv⟩
        have H6 := Lib.hid hv; clear hv
        go_wp2_with fail
        go_ret
        exact ⟨v, rfl, H6.out.back (then_fr HR.out.b H5.out.2 HC.out.base)⟩
theorem Bytes_e_own {X : Box} {F : List Nat} {st : St} (w : World) (h : EOk X w F st) (hc : st.cnt ≤ 32768) :
    Calls Try.prog 29 #[.pointer (some ⟨X.bw, 0, none⟩)] w fun e w' => ∃ v, e = .returned v ∧ OwnRow w w' v (nbytes (endBits st)) (M.byteOf (endBits st)) := by
  have := h.live.at_
  have := h.live.good.out
  have hb := bytes_own _ w h.c (by omega)
  have H := Lib.hid hb
  clear h hb
  go_enter Try.func29, Try.ntmps29
  go_wp2_with fail
  refine H.out.mono ?_
  rintro e w' ⟨v, rfl, hq⟩
  have HQ := Lib.hid hq; clear hq
  go_wp2_with fail
  go_ret
  exact ⟨v, rfl, HQ.out⟩
/-- A row of bytes that one may append to. -/
def uPart (B : Nat) (v : Value) (n : Nat) (f : Nat → Nat) : Part := ⟨v.ownBlock.toList, fun w => w.ownsRow B 5 1 v n (bytesL n f)⟩
theorem upart {w : World} {B n : Nat} {v : Value} {f : Nat → Nat} (h : w.ownsRow B 5 1 v n (bytesL n f)) : (uPart B v n f).ok w :=
  ⟨h, fun q hq => (own_lt h (by simpa [uPart] using hq)).1, fun w' hs _ => own_kept h fun q hq => hs q (by simpa [uPart] using hq)⟩
theorem Ses.bytes_u {w0 w : World} {l : List Part} {bw : Nat} {F : List Nat} {s : St} (h : Ses w0 w (encPart w0.heap.size bw F s :: l)) (hc : s.cnt ≤ 32768) :
    Calls Try.prog 29 #[.pointer (some ⟨bw, 0, none⟩)] w fun e w' => ∃ v, e = .returned v ∧ Ses w0 w' (uPart w0.heap.size v (nbytes (endBits s)) (M.byteOf (endBits s)) :: encPart w0.heap.size bw F s :: l) := by
  have he : EOk (encBox w0.heap.size bw) w F s := h.sep.head
  refine (Bytes_e_own w he hc).mono ?_
  rintro e w' ⟨v, rfl, ⟨_, hb⟩, ho⟩
  exact ⟨v, rfl, h.new hb (upart (own_base ho h.bel.size)) (fun q hq => (own_lt ho (by simpa [uPart] using hq)).2)⟩
set_option maxRecDepth 100000 in
set_option maxHeartbeats 4000000 in
theorem wrote_own (A : Option Addr) (n cap most m : Nat) (t : Its) (w : World) (hi : Items w w.heap.size A m t) (hm : m ≤ n ∧ m ≤ most ∧ (m = n ∨ m = most)) (h300 : most ≤ 300) (hcap : n ≤ cap) (hn : cap ≤ 9223372036854775807) :
    Calls Try.prog 32 #[.slice A n cap, .int .i64 (most : Nat)] w fun e w' => ∃ v' v, e = .returned (.tuple #[v', v, .bool true]) ∧ Ses w w' [uPart w.heap.size v' (nbytes (endBits (t.fit.st m).1)) (M.byteOf (endBits (t.fit.st m).1)), rPart w.heap.size v m (t.fit.cellsTo m)] := by
  obtain ⟨i0, hi1, hz0, hz1, hz2⟩ := info_parts' itinfo
  have HI := Lib.hid (And.intro hi1 (And.intro hz0 (And.intro hz1 hz2))); clear hi1 hz0 hz1 hz2
  have hfb := Its.fit_ok hi.bd
  have HW := Lib.hid (And.intro hi hfb); clear hi hfb
  have HS := Lib.hid (Ses.start w)
  go_enter Try.func32, Try.ntmps32
  go_wp2_with fail
  refine (fresh_s HS.out).mono ?_
  rintro e w1 ⟨bm, g, n0, n1, rfl, h1⟩
  have H2 := Lib.hid ((((h1.cells (bunC bm n0 n1) 45).enc).row w.heap.size).mv2.mv3.mv3); clear h1 HS
  rw [bunV_eq]
  go_wp2_with fail
  obtain ⟨ew, eew⟩ : ∃ ew, ew = (w1.alloc (.cells (bunC bm n0 n1) 45)).heap.size := ⟨_, rfl⟩
  have eew' : ew = w1.heap.size + 1 := by rw [eew, World.size_alloc]
  rw [← eew'] 
  have HE := Lib.hid eew; clear eew eew'
  go_loopg [10, 11] m (fun gh v i wr => ∃ (j : Nat) (F : List Nat), gh = m - j ∧ j ≤ m ∧ i = .int .i64 (j : Nat) ∧ Ses w wr [encPart w.heap.size ew F (t.fit.st j).1, kPart 11 bm g (nums2 n0 n1) (t.fit.st j).2, cPart w1.heap.size (bunC bm n0 n1) 45, rPart w.heap.size v j (t.fit.cellsTo j)])
  case atStart => exact ⟨0, _, rfl, by omega, rfl, by rw [HE.out]; exact H2.out⟩
  case round =>
    obtain ⟨j, F, hgh, hj, rfl, hR⟩ := hrel
    have Hgh := Lib.hid hgh; clear hgh
    have HR := Lib.hid hR; clear hR H2
    go_upto_region 7 with fail
    go_cut [27] (fun t' wx => t' = .bool (decide (j < m)) ∧ wr = wx)
    case first =>
      by_cases hlt : j < m
      · have h3 : j < n := by omega
        have h4 : j < most := by omega
        go_wp2_with fail
        go_meet
        exact ⟨congrArg Value.bool (decide_eq_true hlt).symm, rfl⟩
      · by_cases h3 : j < n
        · have h4 : ¬ j < most := by omega
          go_wp2_with fail
          go_meet
          exact ⟨congrArg Value.bool (decide_eq_false hlt).symm, rfl⟩
        · go_wp2_with fail
          go_meet
          exact ⟨congrArg Value.bool (decide_eq_false hlt).symm, rfl⟩
    case rest =>
    obtain ⟨rfl, rfl⟩ := hcut
    by_cases hlt : j < m
    · rw [decide_eq_true hlt]
      obtain ⟨ad, rfl, hab, c0, c1, c2, b0, b1, b2, b3⟩ := (HW.out.1.below HR.out.bel) j hlt
      rw [add_in ad (j * 3) 1 (by omega)] at c1
      rw [add_in ad (j * 3) 2 (by omega)] at c2
      have i0' : (0 : Int) ≤ (j : Int) := by omega
      have i1' : (j : Int) < (n : Int) := by omega
      have b4 := (HW.out.2.1 j hlt)
      have b5 := (HW.out.2.2 j hlt).2.2
      obtain ⟨kd, ekd⟩ : ∃ k, k = t.kd j := ⟨_, rfl⟩
      obtain ⟨mm, emm⟩ : ∃ k, k = t.mm j := ⟨_, rfl⟩
      obtain ⟨ss, ess⟩ : ∃ k, k = t.ss j := ⟨_, rfl⟩
      obtain ⟨fs, efs⟩ : ∃ k, k = fitS kd mm ss := ⟨_, rfl⟩
      have ecell : t.fit.cells j = [.int .u8 (kd : Nat), .int .u8 (mm : Nat), .int .i64 fs] := by rw [efs, ekd, emm, ess]; rfl
      have eops : t.fit.ops j = opsOf kd mm fs := by rw [efs, ekd, emm, ess]; rfl
      have b4' : kd % 4 ≠ 3 → 0 ≤ fs ∧ fs < ksz (6 + mm % 5) := by rw [efs, ekd, emm, ess]; exact b4
      have b5' : -9223372036854775808 ≤ fs ∧ fs ≤ 9223372036854775807 := by rw [efs, ekd, emm, ess]; exact b5
      rw [← ekd] at c0 b0
      rw [← emm] at c1 b1
      rw [← ess] at c2 b2 b3
      have HX := Lib.hid (And.intro ecell (And.intro eops (And.intro b4' b5')))
      have hft := fun w => fit_ok kd mm ss w b0 b1 b2 b3
      rw [← efs] at hft
      have HFT := Lib.hid hft
      clear ecell eops b4 b5 b4' b5' hab efs ekd emm ess hft
      go_wp2_with fail
      refine (HFT.out _).mono ?_
      rintro e w2 ⟨rfl, hb2⟩
      have hS2 := (HR.out.below hb2).cells #[.int .u8 (kd : Int), .int .u8 (mm : Int), .int .i64 fs] 61
      obtain ⟨q0, q1, q2⟩ := Ses.it (kind := kd) (m := mm) (s := fs) hS2
      obtain ⟨k0, k1, k2, k3, k4, k5, k6⟩ := hS2.mv3.bun
      have HS2 := Lib.hid hS2.mv2.mv2; clear hS2 hb2 c0 c1 c2
      unfold itemV
      go_wp2_with fail
      have hst := Its.st_ok (t := t.fit) (j := j) (HW.out.2.1.less (by omega))
      refine (iput_ok kd mm n0 n1 fs HS2.out hst.1.shape (by omega) b0 b1 HX.out.2.2.2.1 HX.out.2.2.2.2 HX.out.2.2.1).mono ?_
      rintro e w3 ⟨rfl, F3, h3⟩
      have h3' : Ses w w3 [encPart w.heap.size ew F3 (t.fit.st (j + 1)).1, kPart 11 bm g (nums2 n0 n1) (t.fit.st (j + 1)).2, cPart w2.heap.size #[.int .u8 (kd : Int), .int .u8 (mm : Int), .int .i64 fs] 61, cPart w1.heap.size (bunC bm n0 n1) 45, rPart w.heap.size u10 j (t.fit.cellsTo j)] := by
        rw [Its.st_succ, HX.out.2.1]; exact h3
      obtain ⟨q0, q1, q2⟩ := Ses.it (kind := kd) (m := mm) (s := fs) h3'.mv2
      have hrow : w3.ownsRow w.heap.size 61 3 u10 j (t.fit.cellsTo j) := h3'.mw4.sep.head
      have HR3 := Lib.hid (And.intro h3'.mw4 hrow); clear h3 h3' hrow HS2 k0 k1 k2 k3 k4 k5 k6 hst
      go_wp2_with (at_builtin; refine wpList_append_own_at _ rfl _ _ 40 rfl w.heap.size 61 i0 _ 3 16 Try.underlying40 HI.out.1 HI.out.2.1 HI.out.2.2.1 HI.out.2.2.2 rfl (by decide) _ _ _ rfl (HR3.out.2.alloc _) ⟨w3.heap.size, 0, none⟩ 1 1 [.int .u8 (kd : Nat), .int .u8 (mm : Nat), .int .i64 fs] rfl rfl ?c1 ?c2 ?c3 ?c4 ?c5 ?_)
      case c1 => exact fun i u hu => cells_alloc [.int .u8 (kd : Nat), .int .u8 (mm : Nat), .int .i64 fs] i u hu
      case c2 =>
        intro u hu
        simp only [List.mem_cons, List.not_mem_nil, or_false] at hu
        rcases hu with rfl | rfl | rfl <;> rfl
      case c3 => unfold maxLen; omega
      case c4 => omega
      case c5 => have := HR3.out.1.bel.size; simp; omega
      intro v' w4 hown hgrow _ hat
      have h4 := (HR3.out.1.grown hown hgrow (by rw [World.size_alloc]; exact hat)).mv3.tail.mv3.mv3.mv3
      rw [← HX.out.1, ← Its.cellsTo_succ] at h4
      have H4 := Lib.hid h4; clear hown hgrow hat h4
      go_wp2_with fail
      go_roundg (m - (j + 1))
      case measure => have := Hgh.out; omega
      case rel => exact ⟨j + 1, F3, rfl, by omega, by go_num, H4.out⟩
    · rw [decide_eq_false hlt]
      have hjm : j = m := by omega
      subst hjm
      have hst := Its.st_ok (t := t.fit) (j := j) HW.out.2.1
      go_wp2_with fail
      refine (HR.out.bytes_u (by omega)).mono ?_
      rintro e w5 ⟨vb, rfl, h5⟩
      have H5 := Lib.hid h5.cut2.cut2.cut2; clear h5 hst
      go_wp2_with fail
      refine bodyPost_ret (v := .tuple #[vb, u10, .bool true]) (by simp [results, Try.results32, go_sem]) rfl ?_
      exact ⟨vb, _, rfl, H5.out⟩
end Go.Proofs.Ytdekcilfkelhlaa
