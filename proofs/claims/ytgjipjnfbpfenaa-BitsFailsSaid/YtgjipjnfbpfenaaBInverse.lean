/- BitsInverse. -/
import Derived.Test.YtgjipjnfbpfenaaBParts
set_option linter.unusedVariables false
namespace Go.Proofs.Ytgjipjnfbpfenaa
open Go.RowKit
open M (bitsOf bitsOf_length codeBits codeBits_length zig zag numOf zeros codeA)

theorem readA_bits {kind n k : Nat} (t : List Bool) (h : Fit kind n k) : readA kind k (itemBits kind n k ++ t) 0 = (n, 0, t, 0) := by
  unfold readA itemBits
  by_cases h0 : kind % 3 = 0
  · rw [if_pos h0, if_pos h0]; exact getA_bits n k t (h.2.2.1 h0).2
  · rw [if_neg h0, if_neg h0]
    by_cases h1 : kind % 3 = 1
    · rw [if_pos h1, if_pos h1]; exact getC_bits n k t h.2.1 (h.2.2.2 h0)
    · rw [if_neg h1, if_neg h1, getC_bits (zig n) k t h.zig (h.2.2.2 h0)]
      simp only
      rw [M.zag_zig (by simpa using h.2.1)]
theorem read_to {br : Nat} {F : List Nat} {s : List Bool} {bad : Nat} {kind k : Nat} {n : Int} (V E : Nat) (t : List Bool) (b : Nat) {w : World} (h : ROk w br F s bad) (h0 : kind % 3 = 0 → k ≤ 64) (h3 : kind % 3 ≠ 0 → k ≤ 30) (hk : kind < 256) (e : readA kind k s bad = (V, E, t, b)) :
    Calls Try.prog 23 #[.pointer (some ⟨br, 0, none⟩), .agg #[.int .u8 (kind : Int), .int .u64 n, .int .i64 (k : Int)]] w fun e w' =>
      e = .returned (.tuple #[.int .u64 (V : Int), .int .i64 (E : Int)]) ∧ ROk w' br F t b ∧ Fr [br] w [br] w' := by
  have := read_ok br F s bad kind k n w h h0 h3 hk
  rw [e] at this
  exact this

theorem Its.cellsTo_at (t : Its) {m j c : Nat} (hj : j < m) (hc : c < 3) : (t.cellsTo m)[j * 3 + c]? = (t.cells j)[c]? := by
  induction m with
  | zero => omega
  | succ m ih =>
    rw [Its.cellsTo_succ]
    have hl : ∀ q, (t.cellsTo q).length = q * 3 := by
      intro q
      induction q with
      | zero => rfl
      | succ q ih => rw [Its.cellsTo_succ, List.length_append, ih]; simp only [Its.cells, List.length_cons, List.length_nil]; omega
    rcases Nat.lt_or_ge j m with h | h
    · rw [List.getElem?_append_left (by rw [hl]; omega)]; exact ih h
    · have e : j = m := by omega
      subst e
      rw [List.getElem?_append_right (by rw [hl]; omega), hl]
      congr 1; omega
/-- A row of items of one's own, as it is read. -/
theorem items_own {w : World} {B m j : Nat} {v : Value} {t : Its} (h : w.ownsRow B 48 3 v m (t.cellsTo m)) (hj : j < m) :
    ∃ g cap, v = .slice (some ⟨g, 0, none⟩) m cap ∧ w.cell? ⟨g, j * 3, none⟩ = some (.int .u8 (t.kd j : Nat)) ∧ w.cell? ⟨g, j * 3 + 1, none⟩ = some (.int .u64 (fitN (t.kd j) (t.nn j) (t.kk j) : Nat)) ∧ w.cell? ⟨g, j * 3 + 2, none⟩ = some (.int .i64 (fitK (t.kd j) (t.kk j) : Nat)) := by
  rcases h.2 with ⟨_, h0⟩ | ⟨g, cap, cur, rfl, _, hh, _, _, _, htk⟩
  · omega
  · have key : ∀ c, c < 3 → w.cell? ⟨g, j * 3 + c, none⟩ = (t.cells j)[c]? := by
      intro c hc
      rw [cell_of_block hh, ← Its.cellsTo_at t hj hc, ← htk, List.getElem?_take, if_pos (by omega), Array.getElem?_toList]
    exact ⟨g, cap, rfl, key 0 (by omega), key 1 (by omega), key 2 (by omega)⟩
theorem Its.bitsTo_seg (t : Its) (m : Nat) : t.bitsTo m = seg t.bits 0 m := by unfold Its.bitsTo seg; rw [List.range_eq_range']; rfl

theorem getA_short (k : Nat) (s : List Bool) (h : s.length < k) : getA k s 0 = (0, 180, [], 180) := by unfold getA; rw [if_neg (by simp), if_pos h]
theorem End_bad_to {br : Nat} {F : List Nat} {s : List Bool} {bad : Nat} (E : Int) {w : World} (h : ROk w br F s bad) (hb : bad ≠ 0) (e : E = bad) :
    Calls Try.prog 20 #[.pointer (some ⟨br, 0, none⟩)] w fun e w' => e = .returned (.int .i64 E) ∧ ∃ m, w' = w.drewN m := by
  subst e; exact End_bad br F s bad w h hb

set_option maxRecDepth 100000 in
set_option maxHeartbeats 2000000 in
theorem inverse_walk (A : Option Addr) (n cap : Nat) (t : Its) (w : World) (h : Items w w.heap.size A n t) (hn : n ≤ cap) (hcap : cap ≤ 9223372036854775807) :
    Calls Try.prog 6 #[.slice A n cap] w fun e w' => e = .returned (.bool true) ∧ Below w.heap.size w w' := by
  obtain ⟨m, hm⟩ : ∃ m : Nat, (if (200 : Int) < (n : Int) then (200 : Int) else (n : Int)) = (m : Int) := ⟨min n 200, by split <;> omega⟩
  have hm2 : m ≤ 200 ∧ m ≤ n := by split at hm <;> omega
  have hx := h.less hm2.2
  have hle := Its.bitsTo_le' hx (Nat.le_refl m)
  have H := Lib.hid (And.intro hx (And.intro hle hm)); clear hx hle h hm
  go_enter Try.func6, Try.ntmps6
  go_wp2_with fail
  refine (wrote_ok w.heap.size w.heap.size _ [] A n cap m t _ (WOk.new w w.heap.size (Nat.le_refl _)) (by simp) (H.out.1.below ((Below.refl _ _).alloc (Nat.le_refl _) _)) H.out.2.2 (by omega) (by simp) (by omega)).mono ?_
  rintro e w1 ⟨v, F1, rfl, h1, fr1, ho1⟩
  rw [List.nil_append] at h1
  have H1 := Lib.hid (And.intro h1 (And.intro ho1 (then_fr (then_alloc (Below.refl w.heap.size w) _) fr1 (WOk.new w w.heap.size (Nat.le_refl _)).base)))
  clear h1 fr1 ho1
  have hall : (t.bitsTo m).length ≤ 129 * m := H.out.2.1
  obtain ⟨all, hal⟩ : ∃ l, l = t.bitsTo m := ⟨_, rfl⟩
  rw [← hal] at hall
  rw [← hal] at H1
  have HAL := Lib.hid hal; clear hal
  obtain ⟨g0, c0, rfl⟩ : ∃ A c, v = .slice A m c := by
    rcases H1.out.2.1.2 with ⟨hv, h0⟩ | ⟨g, cc, cur, hv, _⟩
    · exact ⟨none, 0, by rw [hv, h0]⟩
    · exact ⟨_, _, hv⟩
  go_wp2_with fail
  refine (Bytes_to (nbytes all) H1.out.1 (by omega) rfl).mono ?_
  rintro e w2 ⟨A2, c2, rfl, r2, b2, n2⟩
  have ho2 := own_kept H1.out.2.1 (w' := w2) fun q hq => b2.block q (own_lt H1.out.2.1 hq).1
  have H2 := Lib.hid (And.intro r2 (And.intro n2 (And.intro (H1.out.1.below b2) (And.intro ho2 (then_ H1.out.2.2 b2))))); clear r2 n2 b2 ho2
  go_wp2_with fail
  have hnb : ((all.length : Int) + 7) / 8 = (nbytes all : Int) := by unfold nbytes; omega
  have hnb8 : nbytes all ≤ 4000 := by unfold nbytes; omega
  refine (Len_to (all.length : Int) H2.out.2.2.1 rfl).mono ?_
  rintro e w' ⟨rfl, rfl⟩
  clear H1
  go_wp2_with fail
  refine (NewReader_pad all H2.out.1 rfl (by omega) H2.out.2.1).mono ?_
  rintro e w3 ⟨br, F3, rfl, h3, d3, b3⟩
  have hbr : w.heap.size ≤ br := Nat.le_trans H2.out.2.2.2.2.size (d3 br (by simp))
  have ho3 := own_kept H2.out.2.2.2.1 (w' := w3) fun q hq => b3.block q (own_lt H2.out.2.2.2.1 hq).1
  have hne3 : ∀ q, (Value.slice g0 m c0).ownBlock = some q → q ∉ [br] := fun q hq e => by simp at e; subst e; have := (own_lt H2.out.2.2.2.1 hq).1; have := d3 q (by simp); omega
  have dF3 : ∀ q, q ∈ F1 → q ∉ [br] := fun q hq e => by simp at e; subst e; have := H2.out.2.2.1.lt q hq; have := d3 q (by simp); omega
  have H3 := Lib.hid (And.intro h3 (And.intro (H2.out.2.2.1.below b3) (And.intro ho3 (And.intro hne3 (And.intro dF3 (And.intro hbr (then_ H2.out.2.2.2.2 b3)))))))
  clear h3 d3 b3 hbr ho3 hne3 dF3 H2
  obtain ⟨pd, hpd⟩ : ∃ p, p = List.replicate (8 * nbytes all - all.length) false := ⟨_, rfl⟩
  have hpad : pad all = seg t.bits 0 m ++ pd := by unfold pad; rw [← hpd, HAL.out, Its.bitsTo_seg]
  have hpl : (pd.length : Int) = 8 * (nbytes all : Int) - (all.length : Int) := by rw [hpd, List.length_replicate]; unfold nbytes; omega
  have hp7 : pd.length ≤ 7 := by rw [hpd, List.length_replicate]; exact pad_rest all
  have hend : endA pd 0 = 0 := by rw [hpd]; exact endA_pad all
  have hsl : ((seg t.bits 0 m ++ pd).length : Int) = 8 * (nbytes all : Int) := by rw [← hpad, pad_length]; omega
  rw [hpad] at H3
  have HP := Lib.hid (And.intro hpl (And.intro hend hsl)); clear hpad hpl hend hsl hpd
  go_wp2_with fail
  go_loopg [8, 38] m (fun gh lf i wr => ∃ j : Nat, gh = m - j ∧ j ≤ m ∧ i = .int .i64 j ∧ lf = .int .i64 ((seg t.bits j m ++ pd).length : Nat) ∧ (ROk wr br F3 (seg t.bits j m ++ pd) 0 ∧ WOk wr w.heap.size w.heap.size F1 all ∧ wr.ownsRow (w.alloc (.cells #[.slice none 0 0, .int .i64 0] 28)).heap.size 48 3 (.slice g0 m c0) m (t.cellsTo m) ∧ Below w.heap.size w wr))
  case atStart => exact ⟨0, rfl, by omega, rfl, by rw [HP.out.2.2], H3.out.1, H3.out.2.1, H3.out.2.2.1, H3.out.2.2.2.2.2.2⟩
  case round =>
    obtain ⟨j, hgh, hj, rfl, rfl, hR⟩ := hrel
    have Hgh := Lib.hid hgh; clear hgh
    have HR := Lib.hid hR; clear hR
    by_cases hlt : j < m
    · obtain ⟨g, cc, hv, x0, x1, x2⟩ := items_own HR.out.2.2.1 hlt
      injection hv with hv1 hv2 hv3
      subst hv1
      have hbd := H.out.1.bd j hlt
      have hfit := fit_fit (t.kk j) hbd.1 hbd.2
      have hs := seg_cons t.bits hlt
      have hrd := readA_bits (seg t.bits (j + 1) m ++ pd) hfit
      have hsb : itemBits (t.kd j) (fitN (t.kd j) (t.nn j) (t.kk j)) (fitK (t.kd j) (t.kk j)) = t.bits j := rfl
      rw [hsb, ← List.append_assoc, ← hs] at hrd
      have hlen : ((seg t.bits j m ++ pd).length : Nat) = (t.bits j).length + (seg t.bits (j + 1) m ++ pd).length := by rw [hs, List.append_assoc, List.length_append]
      have hblen := hsb
      generalize fitN (t.kd j) (t.nn j) (t.kk j) = N at *
      generalize fitK (t.kd j) (t.kk j) = K at *
      generalize t.kd j = kd at *
      have hrl := HR.out.1.length
      obtain ⟨La, hLa⟩ : ∃ L, L = (seg t.bits j m ++ pd).length := ⟨_, rfl⟩
      obtain ⟨Lb, hLb⟩ : ∃ L, L = (seg t.bits (j + 1) m ++ pd).length := ⟨_, rfl⟩
      obtain ⟨Lc, hLc⟩ : ∃ L, L = (t.bits j).length := ⟨_, rfl⟩
      rw [← hLa, ← hLb, ← hLc] at hlen
      rw [← hLa] at hrl
      rw [← hLa]
      have k256 : kd < 256 := hfit.1
      have k64 : K ≤ 64 := by
        by_cases h0 : kd % 3 = 0
        · have := hfit.2.2.1 h0; omega
        · have := hfit.2.2.2 h0; omega
      have n64 : N < 18446744073709551616 := hfit.2.1
      have HS := Lib.hid (And.intro hrd (And.intro hfit (And.intro hblen (And.intro hLa (And.intro hLb (And.intro hLc hlen))))))
      have i0 : (0 : Int) ≤ (j : Int) := by omega
      have i1 : (j : Int) < (m : Int) := by omega
      have hLab : Lb ≤ La := by omega
      clear hrd hfit hsb hblen hs hLa hLb hLc hbd hv2 hv3 hlen
      by_cases h0 : kd % 3 = 0
      · have hcost : (La : Int) - (Lb : Int) = (K : Int) := by
          have := HS.out.2.2.1
          unfold itemBits at this
          rw [if_pos h0] at this
          have e := congrArg List.length this
          rw [bitsOf_length] at e
          have e2 := HS.out.2.2.2.2.2.1
          have e3 := HS.out.2.2.2.2.2.2
          omega
        have f1 : ((kd : Int) % 3 == 1) = false := by rw [beq_eq_false_iff_ne]; omega
        have f2 : ((kd : Int) % 3 != 2) = true := by rw [bne_iff_ne]; omega
        have f1' : (kd % 3 == 1) = false := by rw [beq_eq_false_iff_ne]; omega
        have f2' : (kd % 3 != 2) = true := by rw [bne_iff_ne]; omega
        clear h0
        go_wp2_with fail
        refine (read_to N 0 (seg t.bits (j + 1) m ++ pd) 0 (RAt.alloc HR.out.1 _) (fun h => (HS.out.2.1.2.2.1 h).1) HS.out.2.1.2.2.2 k256 HS.out.1).mono ?_
        rintro e w4 ⟨rfl, h4, fr4⟩
        have hlt4 := HR.out.1.lt br (by simp)
        have hx := (fr4.block wr.heap.size (by simp) (by simp; omega)).trans (heap_alloc_new wr _)
        have y0 := (cell_of_block hx 0).trans rfl
        have y1 := (cell_of_block hx 1).trans rfl
        have y2 := (cell_of_block hx 2).trans rfl
        have fr4' := fr4.after_alloc
        have ho4 := own_kept HR.out.2.2.1 (w' := w4) fun q hq => fr4'.block q (own_lt HR.out.2.2.1 hq).1 (H3.out.2.2.2.1 q hq)
        have H4 := Lib.hid (And.intro h4 (And.intro (HR.out.2.1.keep fr4' H3.out.2.2.2.2.1) (And.intro ho4 (then_fr HR.out.2.2.2 fr4' (by intro q hq; simp at hq; subst hq; exact H3.out.2.2.2.2.2.1)))))
        clear h4 fr4 fr4' hx ho4 hlt4
        go_wp2_with fail
        refine (Left_to (Lb : Int) H4.out.1 (by rw [← HS.out.2.2.2.2.1])).mono ?_
        rintro e w5 ⟨rfl, m5, hw5⟩
        have H5 := Lib.hid (show ROk w5 br F3 (seg t.bits (j + 1) m ++ pd) 0 ∧ WOk w5 w.heap.size w.heap.size F1 all ∧ w5.ownsRow (w.alloc (.cells #[.slice none 0 0, .int .i64 0] 28)).heap.size 48 3 (.slice (some ⟨g, 0, none⟩) m c0) m (t.cellsTo m) ∧ Below w.heap.size w w5 from by rw [hw5]; exact ⟨H4.out.1.drewN m5, H4.out.2.1.drewN m5, H4.out.2.2.1, then_drewN H4.out.2.2.2 m5⟩)
        have z0 : w5.cell? ⟨wr.heap.size, 0, none⟩ = some (.int .u8 (kd : Int)) := by rw [hw5]; exact y0
        have z1 : w5.cell? ⟨wr.heap.size, 1, none⟩ = some (.int .u64 (N : Int)) := by rw [hw5]; exact y1
        have z2 : w5.cell? ⟨wr.heap.size, 2, none⟩ = some (.int .i64 (K : Int)) := by rw [hw5]; exact y2
        clear hw5 H4 y0 y1 y2
        go_wp2_with fail
        go_roundg (m - (j + 1))
        case measure => have := Hgh.out; omega
        case rel => exact ⟨j + 1, rfl, by omega, by go_num, by rw [← HS.out.2.2.2.2.1], H5.out⟩
      · by_cases h1 : kd % 3 = 1
        · have hK30 : K ≤ 30 := HS.out.2.1.2.2.2 h0
          have hc : costN N K = Lc := by
            have := HS.out.2.2.1
            unfold itemBits at this
            rw [if_neg h0, if_pos h1] at this
            have e := congrArg List.length this
            rw [codeBits_length] at e
            have e2 := HS.out.2.2.2.2.2.1
            unfold costN; omega
          have hcost : (La : Int) - (Lb : Int) = (Lc : Int) := by have e3 := HS.out.2.2.2.2.2.2; omega
          have HC := Lib.hid hc
          have f1 : ((kd : Int) % 3 == 1) = true := by rw [beq_iff_eq]; omega
          have f2 : ((kd : Int) % 3 != 2) = true := by rw [bne_iff_ne]; omega
          have f1' : (kd % 3 == 1) = true := by rw [beq_iff_eq]; omega
          have f2' : (kd % 3 != 2) = true := by rw [bne_iff_ne]; omega
          clear h0 h1 hc
          go_wp2_with fail
          refine (read_to N 0 (seg t.bits (j + 1) m ++ pd) 0 (RAt.alloc HR.out.1 _) (fun h => (HS.out.2.1.2.2.1 h).1) HS.out.2.1.2.2.2 k256 HS.out.1).mono ?_
          rintro e w4 ⟨rfl, h4, fr4⟩
          have hlt4 := HR.out.1.lt br (by simp)
          have hx := (fr4.block wr.heap.size (by simp) (by simp; omega)).trans (heap_alloc_new wr _)
          have y0 := (cell_of_block hx 0).trans rfl
          have y1 := (cell_of_block hx 1).trans rfl
          have y2 := (cell_of_block hx 2).trans rfl
          have fr4' := fr4.after_alloc
          have ho4 := own_kept HR.out.2.2.1 (w' := w4) fun q hq => fr4'.block q (own_lt HR.out.2.2.1 hq).1 (H3.out.2.2.2.1 q hq)
          have H4 := Lib.hid (And.intro h4 (And.intro (HR.out.2.1.keep fr4' H3.out.2.2.2.2.1) (And.intro ho4 (then_fr HR.out.2.2.2 fr4' (by intro q hq; simp at hq; subst hq; exact H3.out.2.2.2.2.2.1)))))
          clear h4 fr4 fr4' hx ho4 hlt4
          go_wp2_with fail
          refine (Left_to (Lb : Int) H4.out.1 (by rw [← HS.out.2.2.2.2.1])).mono ?_
          rintro e w5 ⟨rfl, m5, hw5⟩
          have H5 := Lib.hid (show ROk w5 br F3 (seg t.bits (j + 1) m ++ pd) 0 ∧ WOk w5 w.heap.size w.heap.size F1 all ∧ w5.ownsRow (w.alloc (.cells #[.slice none 0 0, .int .i64 0] 28)).heap.size 48 3 (.slice (some ⟨g, 0, none⟩) m c0) m (t.cellsTo m) ∧ Below w.heap.size w w5 from by rw [hw5]; exact ⟨H4.out.1.drewN m5, H4.out.2.1.drewN m5, H4.out.2.2.1, then_drewN H4.out.2.2.2 m5⟩)
          have z0 : w5.cell? ⟨wr.heap.size, 0, none⟩ = some (.int .u8 (kd : Int)) := by rw [hw5]; exact y0
          have z1 : w5.cell? ⟨wr.heap.size, 1, none⟩ = some (.int .u64 (N : Int)) := by rw [hw5]; exact y1
          have z2 : w5.cell? ⟨wr.heap.size, 2, none⟩ = some (.int .i64 (K : Int)) := by rw [hw5]; exact y2
          clear hw5 H4 y0 y1 y2
          go_wp2_with fail
          refine (Cost_to (N : Int) (K : Int) N K Lc _ rfl rfl n64 hK30 HC.out).mono ?_
          rintro e w6 ⟨rfl, m6, hw6⟩
          have H6 := Lib.hid (show ROk w6 br F3 (seg t.bits (j + 1) m ++ pd) 0 ∧ WOk w6 w.heap.size w.heap.size F1 all ∧ w6.ownsRow (w.alloc (.cells #[.slice none 0 0, .int .i64 0] 28)).heap.size 48 3 (.slice (some ⟨g, 0, none⟩) m c0) m (t.cellsTo m) ∧ Below w.heap.size w w6 from by rw [hw6]; exact ⟨H5.out.1.drewN m6, H5.out.2.1.drewN m6, H5.out.2.2.1, then_drewN H5.out.2.2.2 m6⟩)
          have q0 : w6.cell? ⟨wr.heap.size, 0, none⟩ = some (.int .u8 (kd : Int)) := by rw [hw6]; exact z0
          have q1 : w6.cell? ⟨wr.heap.size, 1, none⟩ = some (.int .u64 (N : Int)) := by rw [hw6]; exact z1
          clear hw6 H5 z0 z1 z2
          go_wp2_with fail
          go_roundg (m - (j + 1))
          case measure => have := Hgh.out; omega
          case rel => exact ⟨j + 1, rfl, by omega, by go_num, by rw [← HS.out.2.2.2.2.1], H6.out⟩
        · have f1 : ((kd : Int) % 3 == 1) = false := by rw [beq_eq_false_iff_ne]; omega
          have f2 : ((kd : Int) % 3 != 2) = false := by rw [Bool.eq_false_iff]; simp; omega
          have f1' : (kd % 3 == 1) = false := by rw [beq_eq_false_iff_ne]; omega
          have f2' : (kd % 3 != 2) = false := by rw [Bool.eq_false_iff]; simp; omega
          clear h0 h1
          go_wp2_with fail
          refine (read_to N 0 (seg t.bits (j + 1) m ++ pd) 0 (RAt.alloc HR.out.1 _) (fun h => (HS.out.2.1.2.2.1 h).1) HS.out.2.1.2.2.2 k256 HS.out.1).mono ?_
          rintro e w4 ⟨rfl, h4, fr4⟩
          have hlt4 := HR.out.1.lt br (by simp)
          have hx := (fr4.block wr.heap.size (by simp) (by simp; omega)).trans (heap_alloc_new wr _)
          have y0 := (cell_of_block hx 0).trans rfl
          have y1 := (cell_of_block hx 1).trans rfl
          have y2 := (cell_of_block hx 2).trans rfl
          have fr4' := fr4.after_alloc
          have ho4 := own_kept HR.out.2.2.1 (w' := w4) fun q hq => fr4'.block q (own_lt HR.out.2.2.1 hq).1 (H3.out.2.2.2.1 q hq)
          have H4 := Lib.hid (And.intro h4 (And.intro (HR.out.2.1.keep fr4' H3.out.2.2.2.2.1) (And.intro ho4 (then_fr HR.out.2.2.2 fr4' (by intro q hq; simp at hq; subst hq; exact H3.out.2.2.2.2.2.1)))))
          clear h4 fr4 fr4' hx ho4 hlt4
          go_wp2_with fail
          refine (Left_to (Lb : Int) H4.out.1 (by rw [← HS.out.2.2.2.2.1])).mono ?_
          rintro e w5 ⟨rfl, m5, hw5⟩
          have H5 := Lib.hid (show ROk w5 br F3 (seg t.bits (j + 1) m ++ pd) 0 ∧ WOk w5 w.heap.size w.heap.size F1 all ∧ w5.ownsRow (w.alloc (.cells #[.slice none 0 0, .int .i64 0] 28)).heap.size 48 3 (.slice (some ⟨g, 0, none⟩) m c0) m (t.cellsTo m) ∧ Below w.heap.size w w5 from by rw [hw5]; exact ⟨H4.out.1.drewN m5, H4.out.2.1.drewN m5, H4.out.2.2.1, then_drewN H4.out.2.2.2 m5⟩)
          have z0 : w5.cell? ⟨wr.heap.size, 0, none⟩ = some (.int .u8 (kd : Int)) := by rw [hw5]; exact y0
          have z1 : w5.cell? ⟨wr.heap.size, 1, none⟩ = some (.int .u64 (N : Int)) := by rw [hw5]; exact y1
          have z2 : w5.cell? ⟨wr.heap.size, 2, none⟩ = some (.int .i64 (K : Int)) := by rw [hw5]; exact y2
          clear hw5 H4 y0 y1 y2
          go_wp2_with fail
          go_roundg (m - (j + 1))
          case measure => have := Hgh.out; omega
          case rel => exact ⟨j + 1, rfl, by omega, by go_num, by rw [← HS.out.2.2.2.2.1], H5.out⟩
    · obtain rfl : j = m := by omega
      rw [seg_end, List.nil_append] at HR
      rw [seg_end, List.nil_append]
      have hpl := HP.out.1
      obtain ⟨p, hp⟩ : ∃ p, p = pd.length := ⟨_, rfl⟩
      rw [← hp] at hpl hp7
      rw [← hp]
      have hq : (p : Int) = 8 * (nbytes all : Int) - (all.length : Int) := hpl
      have HPP := Lib.hid hp
      have HQ := Lib.hid hpl
      have b1 : (p : Int) ≤ 8 * (nbytes all : Int) - (all.length : Int) := by omega
      have b2 : 8 * (nbytes all : Int) - (all.length : Int) ≤ (p : Int) := by omega
      have b3 : ((p : Int) != 8 * (nbytes all : Int) - (all.length : Int)) = false := by rw [Bool.eq_false_iff]; simp; omega
      clear hpl hp hq hj hlt Hgh
      have hal : all.length ≤ 30000 := by omega
      go_wp2_with fail
      refine (Len_to (all.length : Int) HR.out.2.1 rfl).mono ?_
      rintro e w' ⟨rfl, rfl⟩
      go_wp2_with fail
      refine (End_to 0 pd HR.out.1 HP.out.2.1 rfl).mono ?_
      rintro e w4 ⟨rfl, h4, o4⟩
      have H4 := Lib.hid (And.intro h4 (then_only HR.out.2.2.2 o4 H3.out.2.2.2.2.2.1)); clear h4 o4 HR
      go_wp2_with fail
      refine (Left_to (p : Int) H4.out.1 (by rw [← HPP.out])).mono ?_
      rintro e w5 ⟨rfl, m5, hw5⟩
      have H5 := Lib.hid (show ROk w5 br F3 pd 0 ∧ Below w.heap.size w w5 from by rw [hw5]; exact ⟨H4.out.1.drewN m5, then_drewN H4.out.2 m5⟩)
      clear hw5 H4
      go_wp2_with fail
      refine (Get_z (p + 1) 0 180 0 [] 180 H5.out.1 (by omega) rfl (by omega) (getA_short _ _ (by rw [← HPP.out]; omega))).mono ?_
      rintro e w6 ⟨rfl, h6, o6⟩
      have H6 := Lib.hid (And.intro h6 (then_only H5.out.2 o6 H3.out.2.2.2.2.2.1)); clear h6 o6 H5
      go_wp2_with fail
      refine (End_bad_to 180 H6.out.1 (by decide) rfl).mono ?_
      rintro e w7 ⟨rfl, m7, hw7⟩
      have H7 := Lib.hid (show ROk w7 br F3 [] 180 ∧ Below w.heap.size w w7 from by rw [hw7]; exact ⟨H6.out.1.drewN m7, then_drewN H6.out.2 m7⟩)
      clear hw7 H6
      go_wp2_with fail
      refine (Left_to 0 H7.out.1 rfl).mono ?_
      rintro e w8 ⟨rfl, m8, hw8⟩
      have H8 := Lib.hid (show Below w.heap.size w w8 from by rw [hw8]; exact then_drewN H7.out.2 m8)
      clear hw8 H7
      go_wp2_with fail
      refine (awake_calls _).mono ?_
      rintro e w9 ⟨rfl, b9⟩
      have H9 := Lib.hid (then_ H8.out b9); clear b9 H8
      go_wp2_with fail
      go_ret
      exact ⟨rfl, H9.out⟩
end Go.Proofs.Ytgjipjnfbpfenaa
