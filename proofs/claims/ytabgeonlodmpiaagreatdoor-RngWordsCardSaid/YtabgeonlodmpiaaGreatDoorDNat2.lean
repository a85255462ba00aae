/- math/big: divW, nat.div by one word. -/
import Derived.Test.YtabgeonlodmpiaaGreatDoorDNat
set_option linter.unusedVariables false
namespace Go.Proofs.YtabgeonlodmpiaaGreatDoor
open Go.RowKit

/-- One word that was written, made normal. -/
theorem norm_one (w : World) (b c q : Nat) (cs : Array Value) (hb : WB w b cs) (hc : cs.size = c) (h1 : 1 ≤ c) (h8 : c ≤ 8) (h0 : cs[0]? = some (.int .u64 (q : Nat))) (hq : q < 18446744073709551616) :
    Calls Tryz.prog 53 #[.slice (some ⟨b, 0, none⟩) 1 c] w fun e w' => ∃ n, e = .returned (.slice (some ⟨b, 0, none⟩) n c) ∧ NumS w b (some ⟨b, 0, none⟩) n c q ∧ w' = w := by
  have hcell := (cell_of_block hb 0).trans h0
  by_cases e0 : q = 0
  · subst e0
    refine (norm_ok (some ⟨b, 0, none⟩) 1 0 c h1 (by omega) w (by omega) (fun i h1 h2 => ⟨b, rfl, by rw [show i = 0 from by omega]; exact hcell⟩) (Or.inl rfl)).mono ?_
    rintro e w' ⟨rfl, rfl⟩
    exact ⟨0, rfl, NumS.zero (Or.inr ⟨b, cs, rfl, Nat.le_refl _, hb, hc, h8⟩), rfl⟩
  · refine (norm_ok (some ⟨b, 0, none⟩) 1 1 c h1 (by omega) w (by omega) (fun i h1 h2 => by omega) (Or.inr ⟨b, q, rfl, hcell, by omega⟩)).mono ?_
    rintro e w' ⟨rfl, rfl⟩
    exact ⟨1, rfl, NumS.mk1 hb (Nat.le_refl _) hc h8 h0 (by omega) hq, rfl⟩
set_option maxRecDepth 100000 in
theorem divW_ok (w : World) (B x n cx lx : Nat) (A : Option Addr) (hx : NumS w B A lx cx x) (hx2 : x ≤ 18446744073709551616) (hn : 1 ≤ n) (hn2 : n < 9223372036854775808) :
    Calls Tryz.prog 72 #[.slice none 0 0, .slice A lx cx, .int .u64 (n : Nat)] w fun e w' => ∃ A' n' c' r : _, e = .returned (.tuple #[.slice A' n' c', .int .u64 ((r : Nat) : Int)]) ∧ NumS w' w.heap.size A' n' c' (x / n) ∧ r < 18446744073709551616 ∧ (x < 18446744073709551616 → r = x % n) ∧ Below w.heap.size w w' := by
  have k0 : ((n : Int) == 0) = false := decide_eq_false (by omega)
  by_cases e1 : n = 1
  · subst e1
    have hq : x / 1 = x := Nat.div_one x
    rw [hq]
    by_cases e0 : x = 0
    · subst e0
      obtain ⟨rfl, hs⟩ := hx.nought
      have S := set_zero w A cx
      clear hx hs hx2 hq
      go_enter Tryz.func72, Tryz.ntmps72
      go_wp2_with fail
      refine S.mono ?_
      rintro e w1 ⟨rfl, rfl⟩
      go_wp2_with fail
      go_ret2
      exact ⟨_, _, _, 0, rfl, NumS.zero (Or.inl ⟨rfl, rfl⟩), by decide, fun _ => rfl, Below.refl _ _⟩
    · have S := set_any w w.heap.size B x none 0 0 (Or.inl ⟨rfl, rfl⟩) (Nat.le_refl _) (Nat.le_refl _) A lx cx hx (by omega)
      clear hx hx2 hq
      go_enter Tryz.func72, Tryz.ntmps72
      go_wp2_with fail
      refine S.mono ?_
      rintro e w1 ⟨h', c, rfl, r1, r2⟩
      have HR := Lib.hid (And.intro r1 r2); clear r1 r2
      go_wp2_with fail
      go_ret2
      exact ⟨_, _, _, 0, rfl, HR.out.1, by decide, fun _ => (Nat.mod_one x).symm, HR.out.2.below⟩
  have k1 : ((n : Int) == 1) = false := decide_eq_false (by omega)
  by_cases e0 : x = 0
  · subst e0
    obtain ⟨rfl, hs⟩ := hx.nought
    have HN := Lib.hid (And.intro (Nat.zero_div n) (Nat.zero_mod n))
    clear hx hs hx2 hn hn2 e1
    go_enter Tryz.func72, Tryz.ntmps72
    go_wp2_with fail
    go_ret2
    rw [HN.out.1, HN.out.2]
    exact ⟨_, _, _, 0, rfl, NumS.zero (Or.inl ⟨rfl, rfl⟩), by decide, fun _ => rfl, Below.refl _ _⟩
  obtain ⟨q, eq⟩ : ∃ q, x / n = q := ⟨_, rfl⟩
  rw [eq]
  rcases Nat.lt_or_ge x 18446744073709551616 with hl | hl
  · obtain ⟨rfl, b, cs, rfl, hB, hb, hc, h1, h8, hc0⟩ := hx.one (by omega) hl
    have M := make_one none 0 w rfl
    obtain ⟨h, eh⟩ : ∃ h, h = w.heap.size := ⟨_, rfl⟩
    obtain ⟨z, ez⟩ : ∃ z, z = zw 1 := ⟨_, rfl⟩
    obtain ⟨w0, ew0⟩ : ∃ w0, w0 = w.alloc (.cells z 62) := ⟨_, rfl⟩
    rw [← ez, ← ew0, ← eh] at M
    have hz : WB w0 h z := by rw [ew0, eh]; exact heap_alloc_new w _
    have hzs : z.size = 1 := by rw [ez]; exact zw_size 1
    have hbl := hb.lt
    have hb0 : WB w0 b cs := by rw [ew0]; exact (Below.heap_alloc w _ b hbl).trans hb
    obtain ⟨r, er⟩ : ∃ r, x % n = r := ⟨_, rfl⟩
    have D := divWVW1 h cx n x q r ⟨b, 0, none⟩ w0 ⟨_, (cell_of_block hz 0).trans (Array.getElem?_eq_getElem (by omega))⟩ (free_of_block hz 0) ((cell_of_block hb0 0).trans hc0) (by omega) (by omega) (by omega) hl eq er
    have hq : q < 18446744073709551616 := by rw [← eq]; exact Nat.lt_of_le_of_lt (Nat.div_le_self _ _) hl
    have hr : r < 18446744073709551616 := by rw [← er]; exact Nat.lt_of_le_of_lt (Nat.mod_le _ _) hl
    have NN := fun m => norm_one ((w0.drewN m).setCell ⟨h, 0, none⟩ (.int .u64 (q : Nat))) h 1 q (z.setIfInBounds 0 (.int .u64 (q : Nat))) (block_setCell (w := w0.drewN m) hz 0 _) (by rw [Array.size_setIfInBounds]; exact hzs) (by omega) (by omega)
      (by rw [Array.getElem?_setIfInBounds, if_pos rfl, if_pos (by omega)]) hq
    have HB := Lib.hid (fun m => show Below w.heap.size w ((w0.drewN m).setCell ⟨h, 0, none⟩ (.int .u64 (q : Nat))) from by
      rw [ew0, eh]; exact Below.setCell (below_drewN' ((Below.refl _ _).alloc (Nat.le_refl _) _) m) (Nat.le_refl _) _)
    rw [← eh] at HB ⊢
    have HR := Lib.hid (And.intro hr er)
    have HE := Lib.hid (And.intro ew0 eh)
    clear hx hx2 hn hn2 e1 e0 hl hB hb hc h1 h8 hc0 hz hzs hb0 eq er hq hr hbl ew0 ez eh
    go_enter Tryz.func72, Tryz.ntmps72
    go_wp2_with fail
    refine M.mono ?_
    rintro e w1 ⟨rfl, rfl⟩
    go_wp2_with fail
    refine D.mono ?_
    rintro e w2 ⟨rfl, m, rfl⟩
    go_wp2_with fail
    refine (NN m).mono ?_
    rintro e w3 ⟨n', rfl, r1, rfl⟩
    have H1 := Lib.hid r1; clear r1
    go_wp2_with fail
    go_ret2
    exact ⟨_, _, _, r, rfl, H1.out, HR.out.1, fun _ => HR.out.2.symm, HB.out m⟩
  · have : x = 18446744073709551616 := by omega
    subst this
    obtain ⟨rfl, b, cs, rfl, hB, hb, hc, h1, h8, hc0, hc1⟩ := hx.two (Nat.le_refl _)
    have M := make_new none 0 2 0 (by omega) (by omega) (by omega) w
    obtain ⟨h, eh⟩ : ∃ h, h = w.heap.size := ⟨_, rfl⟩
    obtain ⟨z, ez⟩ : ∃ z, z = zw 6 := ⟨_, rfl⟩
    obtain ⟨w0, ew0⟩ : ∃ w0, w0 = w.alloc (.cells z 62) := ⟨_, rfl⟩
    rw [show zw (2 + 4) = z from ez.symm, ← ew0, ← eh] at M
    have hz : WB w0 h z := by rw [ew0, eh]; exact heap_alloc_new w _
    have hzs : z.size = 6 := by rw [ez]; exact zw_size 6
    have hbl := hb.lt
    have hb0 : WB w0 b cs := by rw [ew0]; exact (Below.heap_alloc w _ b hbl).trans hb
    have D := divWVW2 h b cx n q z cs w0 hz hzs hb0 (by omega) hc0 hc1 h1 (by omega) hn2 eq
    have hq : q < 18446744073709551616 := by rw [← eq]; exact Nat.div_lt_self (by omega) (by omega)
    have hq0 : 0 < q := by
      rw [← eq]
      exact Nat.div_pos (by omega) (by omega)
    obtain ⟨w2, ew2⟩ : ∃ w2, w2 = (w0.setCell ⟨h, 1, none⟩ (.int .u64 0)).setCell ⟨h, 0, none⟩ (.int .u64 (q : Nat)) := ⟨_, rfl⟩
    rw [← ew2] at D
    have hz2 : WB w2 h ((z.setIfInBounds 1 (.int .u64 0)).setIfInBounds 0 (.int .u64 (q : Nat))) := by rw [ew2]; exact block_setCell (block_setCell hz 1 _) 0 _
    have c0 : ((z.setIfInBounds 1 (.int .u64 0)).setIfInBounds 0 (.int .u64 (q : Nat)))[0]? = some (.int .u64 (q : Nat)) := by
      rw [Array.getElem?_setIfInBounds, if_pos rfl, if_pos (by rw [Array.size_setIfInBounds]; omega)]
    have c1 : ((z.setIfInBounds 1 (.int .u64 0)).setIfInBounds 0 (.int .u64 (q : Nat)))[1]? = some (.int .u64 0) := by
      rw [Array.getElem?_setIfInBounds, if_neg (by decide), Array.getElem?_setIfInBounds, if_pos rfl, if_pos (by omega)]
    have NN := norm_ok (some ⟨h, 0, none⟩) 2 1 6 (by omega) (by omega) w2 (by omega) (fun i h1 h2 => ⟨h, rfl, by rw [show i = 1 from by omega]; exact (cell_of_block hz2 1).trans c1⟩)
      (Or.inr ⟨h, q, rfl, (cell_of_block hz2 0).trans c0, hq0⟩)
    have HN : NumS w2 h (some ⟨h, 0, none⟩) 1 6 q := NumS.mk1 hz2 (Nat.le_refl _) (by rw [Array.size_setIfInBounds, Array.size_setIfInBounds]; exact hzs) (by omega) c0 hq0 hq
    have HB : Below w.heap.size w w2 := by
      rw [ew2, ew0, eh]; exact Below.setCell (Below.setCell ((Below.refl _ _).alloc (Nat.le_refl _) _) (Nat.le_refl _) _) (Nat.le_refl _) _
    rw [← eh] at HB ⊢
    have H1 := Lib.hid (And.intro HN HB)
    have HE := Lib.hid (And.intro ew0 (And.intro eh ew2))
    clear hx hx2 hn hn2 e1 e0 hl hB hb hc h1 h8 hc0 hc1 hz hzs hb0 eq hq hq0 hbl ew0 ez eh ew2 hz2 c0 c1 HN HB
    go_enter Tryz.func72, Tryz.ntmps72
    go_wp2_with fail
    refine M.mono ?_
    rintro e w1 ⟨rfl, rfl⟩
    go_wp2_with fail
    refine D.mono ?_
    rintro e w2 ⟨r, rfl, hr, rfl⟩
    have H2 := Lib.hid hr; clear hr
    go_wp2_with fail
    refine NN.mono ?_
    rintro e w3 ⟨rfl, rfl⟩
    go_wp2_with fail
    go_ret2
    exact ⟨_, _, _, r, rfl, H1.out.1, H2.out, fun h => absurd h (by decide), H1.out.2⟩
theorem NumS.from_ {w : World} {B v n cap b : Nat} {A : Option Addr} (h : NumS w B A n cap v) (e : A = some ⟨b, 0, none⟩) : B ≤ b ∧ b < w.heap.size := by
  rcases h.1 with ⟨e', _⟩ | ⟨b', cs, e', hB, hb, _⟩
  · rw [e] at e'; cases e'
  · rw [e] at e'; cases e'; exact ⟨hB, hb.lt⟩
theorem SLc.from_ {w : World} {B cap b : Nat} {A : Option Addr} (h : SLc w B A cap) (e : A = some ⟨b, 0, none⟩) : B ≤ b ∧ b < w.heap.size := by
  rcases h with ⟨e', _⟩ | ⟨b', cs, e', hB, hb, _⟩
  · rw [e] at e'; cases e'
  · rw [e] at e'; cases e'; exact ⟨hB, hb.lt⟩
theorem NumS.down {w : World} {B B' : Nat} {A : Option Addr} {n cap v : Nat} (h : NumS w B' A n cap v) (hB : B ≤ B') : NumS w B A n cap v := by
  refine ⟨?_, h.2⟩
  rcases h.1 with h | ⟨b, cs, e, h1, h2⟩
  · exact Or.inl h
  · exact Or.inr ⟨b, cs, e, by omega, h2⟩
set_option maxRecDepth 100000 in
/-- nat.div by one word, into nothing. -/
theorem div_ok (w : World) (B Bu Bv x n lu cu lv cv l2 c2 : Nat) (Au Av A2 : Option Addr) (hu : NumS w Bu Au lu cu x) (hx : x ≤ 18446744073709551616) (hv : NumS w Bv Av lv cv n) (hn : 1 ≤ n) (hn2 : n < 9223372036854775808)
    (h2 : SLc w B A2 c2) (hl : l2 ≤ c2) (hB : B ≤ w.heap.size) :
    Calls Tryz.prog 56 #[.slice none 0 0, .pointer none, .slice A2 l2 c2, .slice Au lu cu, .slice Av lv cv] w fun e w' => ∃ Aq nq cq Ar nr cr r, e = .returned (.tuple #[.slice Aq nq cq, .slice Ar nr cr]) ∧
      NumS w' B Aq nq cq (x / n) ∧ NumS w' B Ar nr cr r ∧ r < 18446744073709551616 ∧ (x < 18446744073709551616 → r = x % n) ∧ Fm B w w' := by
  obtain ⟨rfl, b, cs, rfl, -, hb, hc, h1, h8, hc0⟩ := hv.one (by omega) (by omega)
  have c0 := (cell_of_block hb 0).trans hc0
  have D := divW_ok w Bu x n cu lu Au hu hx hn hn2
  have HQ := Lib.hid (And.intro h2 (And.intro hl hB))
  clear hu hx hv hn hn2 h2 hl hB hb hc h8 hc0
  go_enter Tryz.func56, Tryz.ntmps56
  go_wp2_with fail
  refine D.mono ?_
  rintro e w1 ⟨Aq, nq, cq, r, rfl, r1, r2, r3, r4⟩
  obtain ⟨h2, hl, hB⟩ := HQ.out
  have hw := r4.size
  have S := setWord_ok w1 B r l2 c2 A2 (h2.kept r4) hl (by omega) r2
  have HR := Lib.hid (And.intro r1 (And.intro r2 (And.intro r3 r4))); clear r1 r2 r3 r4 h2 hl hB hw
  go_wp2_with fail
  refine S.mono ?_
  rintro e w2 ⟨Ar, nr, cr, rfl, s1, s2, s3, s4⟩
  have HS := Lib.hid (And.intro s1 (And.intro s2 (And.intro s3 s4))); clear s1 s2 s3 s4
  go_wp2_with fail
  go_ret2
  obtain ⟨r1, r2, r3, r4⟩ := HR.out
  obtain ⟨s1, s2, s3, s4⟩ := HS.out
  obtain ⟨h2, hl, hB⟩ := HQ.out
  exact ⟨_, _, _, _, _, _, r, rfl, (r1.oth s3 (fun b e e' => by have := (r1.from_ e).1; have := (h2.from_ e').2; omega)).down hB, s1, r2, r3, (Fm.keep r4 hB).trans s2⟩
end Go.Proofs.YtabgeonlodmpiaaGreatDoor
