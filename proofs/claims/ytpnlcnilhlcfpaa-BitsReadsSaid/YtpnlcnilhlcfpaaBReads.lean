/- Any bytes read: the walk. -/
import Derived.Test.YtpnlcnilhlcfpaaBRd
import Derived.Test.YtpnlcnilhlcfpaaBRefE
import Derived.Test.YtpnlcnilhlcfpaaBRefB
import Derived.Test.YtpnlcnilhlcfpaaBLent
set_option linter.unusedVariables false
namespace Go.Proofs.Ytpnlcnilhlcfpaa
open Go.RowKit
open M (bitsOf numOf zag)

theorem byte8_num (a b c d e f g h : Bool) : M.byte8 a b c d e f g h = numOf [a, b, c, d, e, f, g, h] := by
  simp only [numOf, List.foldl, M.byte8]; omega
theorem byte8_of (x : Nat) (h : x < 256) : M.byte8 (x.testBit 7) (x.testBit 6) (x.testBit 5) (x.testBit 4) (x.testBit 3) (x.testBit 2) (x.testBit 1) (x.testBit 0) = x := by
  rw [byte8_num]
  have e : [x.testBit 7, x.testBit 6, x.testBit 5, x.testBit 4, x.testBit 3, x.testBit 2, x.testBit 1, x.testBit 0] = bitsOf x 8 := rfl
  rw [e]; exact M.numOf_bitsOf_lt h
/-- The bits of bytes. -/
def bitsB (f : Nat → Nat) (m : Nat) : List Bool := (List.range (8 * m)).map fun i => (f (i / 8)).testBit (7 - i % 8)
theorem bitsB_length (f : Nat → Nat) (m : Nat) : (bitsB f m).length = 8 * m := by unfold bitsB; simp
theorem bitsB_at (f : Nat → Nat) {m i : Nat} (h : i < 8 * m) : (bitsB f m)[i]? = some ((f (i / 8)).testBit (7 - i % 8)) := by
  unfold bitsB; rw [List.getElem?_map, List.getElem?_range h]; rfl
theorem bitsB_getD (f : Nat → Nat) {m i c : Nat} (hi : i < m) (hc : c < 8) : (bitsB f m).getD (8 * i + c) false = (f i).testBit (7 - c) := by
  rw [List.getD_eq_getElem?_getD, bitsB_at f (by omega), show (8 * i + c) / 8 = i from by omega, show (8 * i + c) % 8 = c from by omega]
  rfl
theorem byteOf_bitsB (f : Nat → Nat) {m i : Nat} (hi : i < m) (hf : f i < 256) : M.byteOf (bitsB f m) i = f i := by
  unfold M.byteOf
  have k := fun c hc => bitsB_getD f (c := c) hi hc
  rw [show 8 * i = 8 * i + 0 from rfl, k 0 (by omega), k 1 (by omega), k 2 (by omega), k 3 (by omega), k 4 (by omega), k 5 (by omega), k 6 (by omega), k 7 (by omega)]
  exact byte8_of (f i) hf
theorem BRow.congr {w : World} {A : Option Addr} {n : Nat} {f g : Nat → Nat} (h : BRow w A n f) (e : ∀ i, i < n → f i = g i) : BRow w A n g := by
  intro i hi
  obtain ⟨ad, e1, hc⟩ := h i hi
  exact ⟨ad, e1, by rw [← e i hi]; exact hc⟩
theorem brow_upto {w : World} {A : Option Addr} {n m : Nat} {f : Nat → Nat} (h : BRow w A n f) (hm : m ≤ n) : BRow w A m f := fun i hi => h i (by omega)
theorem LBlk.brow {w : World} {g n : Nat} {f : Nat → Nat} {cur : Array Value} (h : LBlk w g n f cur) : BRow w (some ⟨g, 0, none⟩) n f := by
  intro i hi
  refine ⟨_, rfl, ?_⟩
  rw [add_zero', cell_of_block h.blk i, h.at_ i (by omega)]
  unfold lentF; rw [if_pos hi]
theorem LBlk.keep {w w' : World} {g n : Nat} {f : Nat → Nat} {cur : Array Value} (h : LBlk w g n f cur) (hb : Below w.heap.size w w') : LBlk w' g n f cur := ⟨(hb.block g (lt_of_block h.blk)).trans h.blk, h.at_⟩
/-- Items: for each index the kind, the number, the width or order. -/
structure Its where
  kd : Nat → Nat
  nn : Nat → Nat
  kk : Nat → Int
/-- A slice that reads as items. -/
def Items (w : World) (B : Nat) (A : Option Addr) (n : Nat) (t : Its) : Prop :=
  ∀ i, i < n → ∃ ad, A = some ad ∧ ad.block < B ∧ w.cell? (ad.add (i * 3)) = some (.int .u8 (t.kd i : Nat)) ∧ w.cell? (ad.add (i * 3 + 1)) = some (.int .u64 (t.nn i : Nat)) ∧ w.cell? (ad.add (i * 3 + 2)) = some (.int .i64 (t.kk i)) ∧
    t.kd i < 256 ∧ t.nn i < 18446744073709551616 ∧ -9223372036854775808 ≤ t.kk i ∧ t.kk i ≤ 9223372036854775807
theorem items_upto {w : World} {B n m : Nat} {A : Option Addr} {t : Its} (h : Items w B A n t) (hm : m ≤ n) : Items w B A m t := fun i hi => h i (by omega)
theorem add_in (a : Addr) (i c : Nat) (hc : 0 < c) : a.add (i + c) = ⟨(a.add i).block, (a.add i).off + c, none⟩ := by
  unfold Addr.add
  rw [if_neg (by omega)]
  split
  · rename_i h; subst h; simp
  · simp [Nat.add_assoc]
/-- A row of ints is a string of bits. -/
theorem bits_of_row {w : World} {A : Option Addr} {n cap : Nat} {f : Nat → Nat} (h : LRow w A (8 * n) (leftL n f 0)) (hA : ∀ ad, A = some ad → ∃ g, ad = ⟨g, 0, none⟩) (hnil : A = none → 8 * n = 0 ∧ cap = 0) (hc : 8 * n ≤ cap) (hn : n ≤ 500000) :
    RefR w A (8 * n) cap (bitsB f n) := by
  refine ⟨fun i hi => ?_, (bitsB_length f n).symm, hc, by omega, fun e => (hnil e).2, fun ad e => by obtain ⟨g, rfl⟩ := hA ad e; exact ⟨g, 0, rfl⟩⟩
  rw [bitsB_length] at hi
  obtain ⟨ad, e, hlt, hcell⟩ := h.2 i hi
  obtain ⟨g, rfl⟩ := hA ad e
  refine ⟨g, 0, e, hlt, ?_⟩
  rw [add_zero', leftL_at (by omega), Nat.zero_add] at hcell
  rw [Nat.zero_add, hcell]
  congr 2
  have hb : (bitsB f n)[i]? = some ((f (i / 8)).testBit (7 - i % 8)) := bitsB_at f hi
  rw [List.getElem?_eq_getElem (by rw [bitsB_length]; exact hi)] at hb
  injection hb with hb
  rw [hb, Nat.toNat_testBit]
  unfold inBit
  rw [if_pos hi]

/-- What holds between two items. -/
structure RdRel (w w3 wr : World) (P br : Nat) (F : List Nat) (s : List Bool) (bad : Nat) (A : Option Addr) (n cap : Nat) : Prop where
  ok : ROk wr br F s bad
  ref : RefR (mask w3 P) A n cap s
  cell : wr.heap[w3.heap.size]? = some (.cells #[.slice A n cap, .int .i64 (bad : Nat)] 30 (0, 0))
  row : ∀ k, P ≤ k → k < w3.heap.size → wr.heap[k]? = w3.heap[k]?
  bel : Below w.heap.size w wr
section
variable {w w3 wr wx : World} {P br n cap bad : Nat} {F : List Nat} {s : List Bool} {A : Option Addr}
theorem RdRel.keep (h : RdRel w w3 wr P br F s bad A n cap) (hb : Below wr.heap.size wr wx) : RdRel w w3 wx P br F s bad A n cap :=
  ⟨h.ok.below hb, h.ref, (hb.block _ (lt_of_block h.cell)).trans h.cell, fun k h1 h2 => (hb.block k (Nat.lt_trans h2 (lt_of_block h.cell))).trans (h.row k h1 h2), then_ h.bel hb⟩
/-- A call on the Reader. -/
theorem RdRel.read (h : RdRel w w3 wr P br F s bad A n cap) (hP : br < P) (hP2 : P ≤ w3.heap.size) (hw : w.heap.size ≤ br) {s' : List Bool} {bad' : Nat} (ho : ROk wx br F s' bad') (fr : Fr [br] wr [br] wx) :
    ROk wx br F s' bad' ∧ wx.heap[w3.heap.size]? = some (.cells #[.slice A n cap, .int .i64 (bad : Nat)] 30 (0, 0)) ∧ (∀ k, P ≤ k → k < w3.heap.size → wx.heap[k]? = w3.heap[k]?) ∧ Below w.heap.size w wx ∧ RefR wx A n cap s := by
  have hrow : ∀ k, P ≤ k → k < w3.heap.size → wx.heap[k]? = w3.heap[k]? := fun k h1 h2 => (fr.block k (Nat.lt_trans h2 (lt_of_block h.cell)) (by simp; omega)).trans (h.row k h1 h2)
  exact ⟨ho, (fr.block _ (lt_of_block h.cell) (by simp; omega)).trans h.cell, hrow, then_fr h.bel fr (by intro q hq; simp at hq; omega), h.ref.of_mask hrow⟩
end
/-- At the beginning. -/
theorem rd_start {w w1 w2 w3 w5 : World} {g nb br n cap mk : Nat} {F : List Nat} {f : Nat → Nat} {cur : Array Value} {s : List Bool} {A : Option Addr} (hb1 : Below w.heap.size w w1) (hl : LBlk w1 g nb f cur) (hg : w.heap.size ≤ g)
    (hr : ROk w2 br F s 0) (hd : ∀ q, q ∈ br :: F → w1.heap.size ≤ q) (hb2 : Below w1.heap.size w1 w2) (hb3 : Below w2.heap.size w2 w3) (href : RefR w3 A n cap s) (hA : ∀ ad, A = some ad → w2.heap.size ≤ ad.block ∧ ad.block < w3.heap.size ∧ ∃ g, ad = ⟨g, 0, none⟩)
    (ho : Only g ((w3.alloc (.cells #[.slice A n cap, .int .i64 0] 30)).drewN mk) w5) : RdRel w w3 w5 w2.heap.size br F s 0 A n cap ∧ br < w2.heap.size ∧ w2.heap.size ≤ w3.heap.size ∧ w.heap.size ≤ br ∧ (∀ q, q ∈ br :: F → q < w2.heap.size) := by
  have hgl := lt_of_block hl.blk
  have h4 : Below w3.heap.size w3 (w3.alloc (.cells #[.slice A n cap, .int .i64 0] 30)) := (Below.refl _ _).alloc (Nat.le_refl _) _
  have s1 := hb1.size
  have s2 := hb2.size
  have s3 := hb3.size
  have hne : w3.heap.size ≠ g := by omega
  refine ⟨⟨?_, href.to_mask (fun ad e => (hA ad e).1), ?_, fun k h1 h2 => ?_, ?_⟩, hr.lt br (by simp), s3, by have := hd br (by simp); omega, hr.lt⟩
  · have h := ((hr.below hb3).below h4).drewN mk
    exact h.keep (Fr.of_only ho) (fun q hq hh => by have := hd q hq; simp at hh; omega)
  · exact (ho.block _ hne).trans (heap_alloc_new w3 _)
  · have hkg : k ≠ g := by omega
    exact (ho.block k hkg).trans (h4.block k h2)
  · exact then_only (then_drewN (then_ (then_ (then_ hb1 hb2) hb3) h4) mk) ho hg
theorem quiet_of_draws0 {P : Program} {f : FuncId} {args : Array Value} {w : World} {n : Nat} {v : Value}
    (h : Calls P f args (w.drewN n) fun e w' => e = .returned v ∧ ∃ m, w' = (w.drewN n).drewN m) : Calls P f args (w.drewN n) fun e w'' => e = .returned v ∧ ∃ m, w'' = w.drewN m :=
  h.mono fun _ _ ⟨he, m, hm⟩ => ⟨he, n + m, by rw [hm, drewN2]⟩
/-- Behind known and the store of what it gave. -/
theorem rd_next {w w3 wr wb wc we : World} {P br n cap bad bad' n' cap' : Nat} {F : List Nat} {s s' : List Bool} {A A' : Option Addr} (h : RdRel w w3 wr P br F s bad A n cap) (hbr : br < P) (hP : P ≤ w3.heap.size) (hF : ∀ q, q ∈ br :: F → q < P)
    (hb : ROk wb br F s' bad' ∧ wb.heap[w3.heap.size]? = some (.cells #[.slice A n cap, .int .i64 (bad : Nat)] 30 (0, 0)) ∧ (∀ k, P ≤ k → k < w3.heap.size → wb.heap[k]? = w3.heap[k]?) ∧ Below w.heap.size w wb ∧ RefR wb A n cap s)
    (hbc : Below wb.heap.size wb wc) (hx : (∀ w0, RefR w0 A n cap s → RefR w0 A' n' cap' s')) (hwe : we = ((wc.setCell ⟨w3.heap.size, 0, none⟩ (.slice A' n' cap')).setCell ⟨w3.heap.size, 1, none⟩ (.int .i64 (bad' : Nat)))) (hw : w.heap.size ≤ w3.heap.size) :
    RdRel w w3 we P br F s' bad' A' n' cap' := by
  subst hwe
  have h1 := (hbc.block _ (lt_of_block hb.2.1)).trans hb.2.1
  have hk : ∀ k, k ≠ w3.heap.size → ((wc.setCell ⟨w3.heap.size, 0, none⟩ (.slice A' n' cap')).setCell ⟨w3.heap.size, 1, none⟩ (.int .i64 (bad' : Nat))).heap[k]? = wc.heap[k]? := fun k hk =>
    (Below.heap_setCell _ _ _ _ hk).trans (Below.heap_setCell _ _ _ _ hk)
  have ho : Only w3.heap.size wc ((wc.setCell ⟨w3.heap.size, 0, none⟩ (.slice A' n' cap')).setCell ⟨w3.heap.size, 1, none⟩ (.int .i64 (bad' : Nat))) := ((Only.refl w3.heap.size wc).setCell (p := ⟨w3.heap.size, 0, none⟩) rfl _).setCell (p := ⟨w3.heap.size, 1, none⟩) rfl _
  refine ⟨(hb.1.below hbc).keep (Fr.of_only ho) (fun q hq hh => by have := hF q hq; simp at hh; omega), hx _ h.ref, rr_store h1 _ _, fun k h2 h3 => ?_, then_only (then_ hb.2.2.2.1 hbc) ho hw⟩
  rw [hk k (by omega), hbc.block k (Nat.lt_trans h3 (lt_of_block hb.2.1))]
  exact hb.2.2.1 k h2 h3
set_option maxRecDepth 100000 in
set_option maxHeartbeats 8000000 in
theorem reads_walk (A L : Option Addr) (n cap n2 cap2 : Nat) (f : Nat → Nat) (t : Its) (w : World) (hA : BRow w A n f) (hf : ∀ i, f i < 256) (hcap : n ≤ cap) (hn : cap ≤ 9223372036854775807) (hnil : A = none → n = 0 ∧ cap = 0) (hi : Items w w.heap.size L n2 t) (hcap2 : n2 ≤ cap2) (hn2 : cap2 ≤ 9223372036854775807) :
    Calls Try.prog 3 #[.slice A n cap, .slice L n2 cap2] w fun e w' => e = .returned (.bool true) ∧ Below w.heap.size w w' := by
  obtain ⟨nb, hnb⟩ : ∃ m : Nat, (if (300 : Int) < (n : Int) then (300 : Int) else (n : Int)) = (m : Int) := ⟨min n 300, by split <;> omega⟩
  have hnb4 : nb ≤ 300 ∧ nb ≤ n := by split at hnb <;> omega
  obtain ⟨m, hm⟩ : ∃ m : Nat, (if (60 : Int) < (n2 : Int) then (60 : Int) else (n2 : Int)) = (m : Int) := ⟨min n2 60, by split <;> omega⟩
  have hm4 : m ≤ 60 ∧ m ≤ n2 := by split at hm <;> omega
  have hA' := brow_upto hA hnb4.2
  have hi' := items_upto hi hm4.2
  have hnil' : A = none → nb = 0 ∧ cap = 0 := fun e => by have := hnil e; omega
  have HW := Lib.hid (And.intro hA' (And.intro hf (And.intro hnil' hi')))
  clear hA hA' hf hnil hnil' hi hi'
  go_enter Try.func3, Try.ntmps3
  go_wp2_with fail
  refine (Lent_ok w HW.out.1 HW.out.2.2.1 (by omega)).mono ?_
  rintro e w1 ⟨g, c', cur, rfl, hl, hg, hc1, hc2, hb⟩
  have hc3 : c' ≤ 9223372036854775807 := by unfold maxLen at hc2; omega
  have H1 := Lib.hid (And.intro hl (And.intro hg (And.intro hc1 (And.intro hc2 hb)))); clear hl hg hc1 hc2 hb
  go_wp2_with fail
  refine (NewReader_ok (some ⟨g, 0, none⟩) nb c' (bitsB f nb) w1 (BRow.congr H1.out.1.brow fun i hi => by rw [byteOf_bitsB f hi (HW.out.2.1 i)]) (bitsB_length f nb) (by omega) (fun e => by cases e)).mono ?_
  rintro e w2 ⟨br, F, rfl, h1, d1, bb1⟩
  have H2 := Lib.hid (And.intro h1 (And.intro d1 bb1)); clear h1 d1 bb1
  go_wp2_with fail
  refine (Bits_ok (cap := cap) w2 (HW.out.1.keepd (then_ H1.out.2.2.2.2 H2.out.2.2)) (fun i _ => HW.out.2.1 i) (by omega)).mono ?_
  rintro e w3 ⟨A', cap', rfl, hrow, hblk, hnone, hcaps, hb3⟩
  have hc4 : cap' ≤ 9223372036854775807 := by have := hcaps.2; unfold maxLen at this; omega
  have H3 := Lib.hid (And.intro (bits_of_row hrow (fun ad e => (hblk ad e).2.2) hnone hcaps.1 (by omega)) (And.intro hblk hb3)); clear hrow hblk hnone hcaps hb3
  go_wp2_with fail
  have hb4 := (Below.refl w3.heap.size w3).alloc (Nat.le_refl _) (.cells #[.slice A' (8 * nb) cap', .int .i64 0] 30)
  have hb24 := then_ (then_ H2.out.2.2 H3.out.2.2) hb4
  have hK := Kept_ok (cap := cap) _ (HW.out.1.keepd (then_ H1.out.2.2.2.2 hb24)) (H1.out.1.keep hb24) H1.out.2.2.1 H1.out.2.2.2.1 (by omega) (fun i _ => HW.out.2.1 i)
  have hl4 := H1.out.1.keep hb24
  have H4 := Lib.hid hl4; clear hb4 hb24 hl4
  refine hK.mono ?_
  rintro e w4 ⟨rfl, mk, rfl⟩
  clear hK
  go_wp2_with fail
  have hl5 : LBlk ((w3.alloc (.cells #[.slice A' (8 * nb) cap', .int .i64 0] 30)).drewN mk) g nb f cur := ⟨H4.out.blk, H4.out.at_⟩
  refine (Over_ok _ hl5 H1.out.2.2.1 H1.out.2.2.2.1 (by omega)).mono ?_
  rintro e w5 ⟨rfl, ho⟩
  have HS := rd_start H1.out.2.2.2.2 H1.out.1 H1.out.2.1 H2.out.1 H2.out.2.1 H2.out.2.2 H3.out.2.2 H3.out.1 H3.out.2.1 ho
  obtain ⟨P, eP⟩ : ∃ P, P = w2.heap.size := ⟨_, rfl⟩
  rw [← eP] at HS
  have HR0 := Lib.hid HS; clear HS ho
  go_wp2_with fail
  go_loopg [43] m (fun gh iv wr => ∃ j : Nat, gh = m - j ∧ j ≤ m ∧ iv = .int .i64 j ∧ ∃ s bad A n cap, RdRel w w3 wr P br F s bad A n cap)
  case atStart => exact ⟨0, rfl, by omega, rfl, _, _, _, _, _, HR0.out.1⟩
  case round =>
    obtain ⟨j, hgh, hj, rfl, s, bad, A1, n1, cap1, hrel⟩ := hrel
    have Hgh := Lib.hid (And.intro hgh hj); clear hgh hj
    have HR := Lib.hid hrel; clear hrel
    by_cases hlt : j < m
    · obtain ⟨ad, hAd, hab, c0, c1, c2, k0, k1, k2, k3⟩ := HW.out.2.2.2 j hlt
      have hk0 := HR.out.bel.cell (p := ad.add (j * 3)) (by rw [Addr.add]; split <;> exact hab)
      have hk1 := HR.out.bel.cell (p := ad.add (j * 3 + 1)) (by rw [Addr.add]; split <;> exact hab)
      have hk2 := HR.out.bel.cell (p := ad.add (j * 3 + 2)) (by rw [Addr.add]; split <;> exact hab)
      rw [c0] at hk0
      rw [c1, add_in ad (j * 3) 1 (by omega)] at hk1
      rw [c2, add_in ad (j * 3) 2 (by omega)] at hk2
      obtain ⟨kd, ekd⟩ : ∃ kd, kd = t.kd j := ⟨_, rfl⟩
      obtain ⟨nn, enn⟩ : ∃ nn, nn = t.nn j := ⟨_, rfl⟩
      obtain ⟨kk, ekk⟩ : ∃ kk, kk = t.kk j := ⟨_, rfl⟩
      rw [← ekd] at hk0 k0
      rw [← enn] at hk1 k1
      rw [← ekk] at hk2 k2 k3
      have HK := Lib.hid (And.intro k0 (And.intro k1 (And.intro k2 k3)))
      clear c0 c1 c2 hab k0 k1 k2 k3 ekd enn ekk
      have i0 : (0 : Int) ≤ (j : Int) := by omega
      have i1 : (j : Int) < (m : Int) := by omega
      subst hAd
      have Hlt := Lib.hid hlt; clear hlt
      go_wp2_with fail
      obtain ⟨wa, ewa⟩ : ∃ wa, wa = wr.alloc (.cells #[.int .u8 (kd : Int), .int .u64 (nn : Int), .int .i64 kk] 35) := ⟨_, rfl⟩
      rw [← ewa]
      have hra : RdRel w w3 wa P br F s bad A1 n1 cap1 := by rw [ewa]; exact HR.out.keep ((Below.refl _ _).alloc (Nat.le_refl _) _)
      have hit : wa.heap[wr.heap.size]? = some (.cells #[.int .u8 (kd : Int), .int .u64 (nn : Int), .int .i64 kk] 35 (0, 0)) := by rw [ewa]; exact heap_alloc_new wr _
      obtain ⟨ib, eib⟩ : ∃ ib, ib = wr.heap.size := ⟨_, rfl⟩
      rw [← eib] at hit ⊢
      have hibr : br < ib := by rw [eib]; exact HR.out.ok.lt br (by simp)
      have hib3 : w3.heap.size < ib := by rw [eib]; exact lt_of_block HR.out.cell
      have HA := Lib.hid (And.intro hra (And.intro hit (And.intro hibr hib3))); clear hra hit hibr hib3 ewa eib hk0 hk1 hk2
      refine (readAny br F s bad kd nn kk wa HA.out.1.ok HK.out.1).mono ?_
      obtain ⟨rr, err⟩ : ∃ rr, rr = rdAll kd kk s bad := ⟨_, rfl⟩
      have hkn := fun (W : World) (h : RefR W A1 n1 cap1 s) => known_ok A1 n1 cap1 bad kd kk nn s W h HA.out.1.ok.bad_nil HK.out.1
      rw [← err] at hkn ⊢
      clear err
      obtain ⟨V, E, s', bad'⟩ := rr
      simp only at hkn ⊢
      rintro e wb ⟨rfl, ho, fr⟩
      have HBB := Lib.hid (HA.out.1.read HR0.out.2.1 HR0.out.2.2.1 HR0.out.2.2.2.1 ho fr)
      have hit := (fr.block ib (lt_of_block HA.out.2.1) (by have := HA.out.2.2.1; simp; omega)).trans HA.out.2.1
      have j0 := (cell_of_block hit 0).trans (show (#[Value.int .u8 (kd : Int), .int .u64 (nn : Int), .int .i64 kk])[0]? = some (.int .u8 (kd : Int)) from rfl)
      have j1 := (cell_of_block hit 1).trans (show (#[Value.int .u8 (kd : Int), .int .u64 (nn : Int), .int .i64 kk])[1]? = some (.int .u64 (nn : Int)) from rfl)
      have j2 := (cell_of_block hit 2).trans (show (#[Value.int .u8 (kd : Int), .int .u64 (nn : Int), .int .i64 kk])[2]? = some (.int .i64 kk) from rfl)
      obtain ⟨m0, m1, -, -⟩ := rr_cells HBB.out.2.1
      have hkn2 := hkn wb HBB.out.2.2.2.2
      unfold rR at hkn2
      have HIT := Lib.hid hit; clear hit ho fr hkn
      go_wp2_with fail
      refine hkn2.mono ?_
      rintro e wc ⟨A2, n2', cap2', rfl, hx, hbc⟩
      have hbc2 : Below wb.heap.size wb (wc.alloc (.cells #[.slice A2 n2' cap2', .int .i64 (bad' : Nat)] 30)) := then_alloc hbc _
      have q1 := (hbc2.block _ (lt_of_block HBB.out.2.1)).trans HBB.out.2.1
      have q2 := (hbc2.block _ (lt_of_block HIT.out)).trans HIT.out
      clear m0 m1 j0 j1 j2 hkn2
      obtain ⟨m0, m1, m2, m3⟩ := rr_cells q1
      obtain ⟨we, ewe⟩ : ∃ we, we = ((wc.alloc (.cells #[.slice A2 n2' cap2', .int .i64 (bad' : Nat)] 30)).setCell ⟨w3.heap.size, 0, none⟩ (.slice A2 n2' cap2')).setCell ⟨w3.heap.size, 1, none⟩ (.int .i64 (bad' : Nat)) := ⟨_, rfl⟩
      have hre := rd_next HR.out HR0.out.2.1 HR0.out.2.2.1 HR0.out.2.2.2.2 HBB.out hbc2 hx ewe (by have := HR0.out.2; omega)
      have hite : we.heap[ib]? = some (.cells #[.int .u8 (kd : Int), .int .u64 (nn : Int), .int .i64 kk] 35 (0, 0)) := by
        rw [ewe]
        exact (Below.heap_setCell _ _ _ _ (by have := HA.out.2.2.2; show ib ≠ w3.heap.size; omega)).trans ((Below.heap_setCell _ _ _ _ (by have := HA.out.2.2.2; show ib ≠ w3.heap.size; omega)).trans q2)
      have HE := Lib.hid (And.intro hre hite)
      have EW := Lib.hid ewe; clear ewe hre hite q1 q2 hx hbc hbc2
      go_wp2_with fail
      rw [← EW.out]
      obtain rfl : n2' = s'.length := HE.out.1.ref.len
      obtain ⟨x0, x1, x2, x3⟩ := rr_cells HE.out.1.cell
      have y1 := (cell_of_block HE.out.2 1).trans (show (#[Value.int .u8 (kd : Int), .int .u64 (nn : Int), .int .i64 kk])[1]? = some (.int .u64 (nn : Int)) from rfl)
      have hL := fun k => Left_ok br F s' bad' (we.drewN k) (HE.out.1.ok.drewN k)
      have HL := Lib.hid hL
      clear m0 m1 m2 m3 hL
      go_quiet ((go_at_call 11; with_reducible exact quiet_of_draws0 (HL.out _)))
      obtain ⟨k1, ek1⟩ : ∃ k, k = nq := ⟨_, rfl⟩
      rw [← ek1]
      clear ek1
      by_cases h5 : nn % 5 = 0
      · have z0 : ((nn : Int) % 5 == 0) = true := by rw [beq_iff_eq]; omega
        have z1 : (nn % 5 == 0) = true := by rw [beq_iff_eq]; exact h5
        clear h5
        go_wp2_with fail
        have hrk := HE.out.1.keep (then_drewN (Below.refl we.heap.size we) k1)
        have HRK := Lib.hid hrk; clear hrk
        have hend18 := fun (W : World) (h : RefR W A2 s'.length cap2' s') => End18_to A2 s'.length cap2' bad' s' W h HE.out.1.ok.bad_nil
        have hend := endAny br F s' bad' (we.drewN k1) HRK.out.ok
        obtain ⟨s2, es2⟩ : ∃ s2, s2 = (if endA s' bad' = 0 then s' else []) := ⟨_, rfl⟩
        obtain ⟨E2, eE2⟩ : ∃ E2, E2 = endA s' bad' := ⟨_, rfl⟩
        rw [← es2, ← eE2] at hend
        have hend18' : ∀ W : World, RefR W A2 s'.length cap2' s' → Calls Try.prog 13 #[.agg #[.slice A2 s'.length cap2', .int .i64 (bad' : Nat)]] W fun r w' => ∃ A' n' cap', r = .returned (.tuple #[.agg #[.slice A' n' cap', .int .i64 (E2 : Nat)], .int .i64 (E2 : Nat)]) ∧ (∀ w0, RefR w0 A2 s'.length cap2' s' → RefR w0 A' n' cap' s2) ∧ Below W.heap.size W w' := by
          intro W h
          have := hend18 W h
          rw [← es2, ← eE2] at this
          exact this
        have HEN := Lib.hid hend18'; clear hend18 hend18' es2 eE2
        refine hend.mono ?_
        rintro e wf ⟨rfl, ho2, only⟩
        have HBF := Lib.hid (HRK.out.read HR0.out.2.1 HR0.out.2.2.1 HR0.out.2.2.2.1 ho2 (Fr.of_only only))
        obtain ⟨m0, m1, -, -⟩ := rr_cells HBF.out.2.1
        have hkn2 := HEN.out wf HBF.out.2.2.2.2
        clear ho2 only hend x0 x1 x2 x3
        go_wp2_with fail
        refine hkn2.mono ?_
        rintro e wg ⟨A3, n3, cap3, rfl, hx, hbc⟩
        have q1 := (hbc.block _ (lt_of_block HBF.out.2.1)).trans HBF.out.2.1
        clear m0 m1 hkn2
        obtain ⟨m0, m1, m2, m3⟩ := rr_cells q1
        obtain ⟨wh, ewh⟩ : ∃ wh, wh = (wg.setCell ⟨w3.heap.size, 0, none⟩ (.slice A3 n3 cap3)).setCell ⟨w3.heap.size, 1, none⟩ (.int .i64 (E2 : Nat)) := ⟨_, rfl⟩
        have hre := rd_next HRK.out HR0.out.2.1 HR0.out.2.2.1 HR0.out.2.2.2.2 HBF.out hbc hx ewh (by have := HR0.out.2; omega)
        have HH := Lib.hid hre
        have EH := Lib.hid ewh; clear ewh hre q1 hx hbc
        go_wp2_with fail
        rw [← EH.out]
        obtain rfl : n3 = s2.length := HH.out.ref.len
        obtain ⟨x0, x1, x2, x3⟩ := rr_cells HH.out.cell
        have hL := fun k => Left_ok br F s2 E2 (wh.drewN k) (HH.out.ok.drewN k)
        have HL2 := Lib.hid hL
        clear m0 m1 m2 m3 hL
        go_quiet ((go_at_call 11; with_reducible exact quiet_of_draws0 (HL2.out _)))
        obtain ⟨k2, ek2⟩ : ∃ k, k = nq := ⟨_, rfl⟩
        rw [← ek2]
        clear ek2
        go_wp2_with fail
        go_roundg (m - (j + 1))
        case measure => have := Hgh.out; have := Hlt.out; omega
        case rel => exact ⟨j + 1, rfl, Hlt.out, by go_num, _, _, _, _, _, HH.out.keep (then_drewN (Below.refl _ _) k2)⟩
      · have z0 : ((nn : Int) % 5 == 0) = false := by rw [beq_eq_false_iff_ne]; omega
        have z1 : (nn % 5 == 0) = false := by rw [beq_eq_false_iff_ne]; exact h5
        clear h5
        go_wp2_with fail
        go_roundg (m - (j + 1))
        case measure => have := Hgh.out; have := Hlt.out; omega
        case rel => exact ⟨j + 1, rfl, Hlt.out, by go_num, _, _, _, _, _, HE.out.1.keep (then_drewN (Below.refl _ _) k1)⟩
    · have hjm : j = m := by have := Hgh.out.2; omega
      subst hjm
      clear hlt
      go_wp2_with fail
      refine (awake_calls _).mono ?_
      rintro e w' ⟨rfl, hbw⟩
      have HF := Lib.hid (then_ HR.out.bel hbw); clear hbw
      go_wp2_with fail
      go_ret
      exact ⟨rfl, HF.out⟩
end Go.Proofs.Ytpnlcnilhlcfpaa
