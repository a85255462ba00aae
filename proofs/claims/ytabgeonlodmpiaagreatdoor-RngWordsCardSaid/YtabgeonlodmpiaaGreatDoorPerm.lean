/- rng.Perm and what it calls. -/
import Derived.Test.YtabgeonlodmpiaaGreatDoorWalk
import Derived.RegionTactic
import Derived.ChangeAlike
import Derived.BigRegion
namespace Go.Proofs.YtabgeonlodmpiaaGreatDoor
open Go.RowKit

set_option maxHeartbeats 400000 in
theorem swap_calls (bl g n cap : Nat) (cur : Array Value) (i k : Nat) (w : World) (hl : w.heap[bl]? = some (.cells #[.slice (some ⟨g, 0, none⟩) n cap] 46 (0, 0))) (hg : w.heap[g]? = some (.cells cur 3 (0, 0)))
    (hi : i < n) (hk : k < n) (x y : Int) (hx : cur[i]? = some (.int .i64 x)) (hy : cur[k]? = some (.int .i64 y)) :
    Calls Tryz.prog 48 #[.int .i64 (i : Int), .int .i64 (k : Int), .pointer (some ⟨bl, 0, none⟩)] w fun e w' =>
      e = .returned (.tuple #[]) ∧ w'.heap[g]? = some (.cells ((cur.setIfInBounds i (.int .i64 y)).setIfInBounds k (.int .i64 x)) 3 (0, 0)) ∧ Only g w w' := by
  have HG := Lib.hid hg
  have c0 := cell_of_block hl 0
  have f0 := free_of_block hl 0
  have ci := (cell_of_block hg i).trans hx
  have ck := (cell_of_block hg k).trans hy
  have fi := free_of_block hg i
  have fk := free_of_block hg k
  simp at c0
  have hne : bl ≠ g := by rintro rfl; rw [hl] at hg; injection hg with hg; injection hg with _ h2; exact absurd h2 (by decide)
  have cs1 : (w.setCell ⟨g, i, none⟩ (.int .i64 y)).cell? ⟨bl, 0, none⟩ = some (.slice (some ⟨g, 0, none⟩) n cap) := (World.cell?_setCell_other w _ _ _ (by intro e; injection e with e; exact hne e.symm)).trans c0
  have cs2 : (w.setCell ⟨g, k, none⟩ (.int .i64 x)).cell? ⟨bl, 0, none⟩ = some (.slice (some ⟨g, 0, none⟩) n cap) := (World.cell?_setCell_other w _ _ _ (by intro e; injection e with e; exact hne e.symm)).trans c0
  clear hx hy hl hg hne
  obtain ⟨v', hy'⟩ := cell?_setCell_some (w := w) (p := ⟨g, i, none⟩) (x := .int .i64 y) (q := ⟨g, k, none⟩) (v := .int .i64 y) ck
  go_enter Tryz.func48, Tryz.ntmps48
  go_wp2
  go_region
  all_goals (go_end0; exact ⟨rfl, block_setCell (w := (w.setCell ⟨g, i, none⟩ (.int .i64 y)).drew) (block_setCell HG.out i _) k _, (((Only.refl g w).setCell rfl _).setCell rfl _).drew⟩)

theorem swap_at (bl g n cap : Nat) (cur : Array Value) (I K : Int) (w : World) (hl : w.heap[bl]? = some (.cells #[.slice (some ⟨g, 0, none⟩) n cap] 46 (0, 0))) (hg : w.heap[g]? = some (.cells cur 3 (0, 0)))
    (i0 : 0 ≤ I) (hi : I < n) (j0 : 0 ≤ K) (hk : K < n) (x y : Int) (hx : cur[I.toNat]? = some (.int .i64 x)) (hy : cur[K.toNat]? = some (.int .i64 y)) :
    Calls Tryz.prog 48 #[.int .i64 I, .int .i64 K, .pointer (some ⟨bl, 0, none⟩)] w fun e w' =>
      e = .returned (.tuple #[]) ∧ w'.heap[g]? = some (.cells ((cur.setIfInBounds I.toNat (.int .i64 y)).setIfInBounds K.toNat (.int .i64 x)) 3 (0, 0)) ∧ Only g w w' := by
  obtain ⟨i, rfl⟩ := Int.eq_ofNat_of_zero_le i0
  obtain ⟨k, rfl⟩ := Int.eq_ofNat_of_zero_le j0
  exact swap_calls bl g n cap cur i k w hl hg (by omega) (by omega) x y hx hy

/-- Two elements exchanged. -/
def swp (l : List Nat) (i b : Nat) : List Nat := (l.set i (l.getD b 0)).set b (l.getD i 0)
theorem swp_length (l : List Nat) (i b : Nat) : (swp l i b).length = l.length := by simp [swp]

/-- Cells that hold a list of numbers. -/
def NatCells (cur : Array Value) (l : List Nat) : Prop := ∀ j, j < l.length → cur[j]? = some (.int .i64 ((l.getD j 0 : Nat) : Int))
theorem NatCells.swap {cur : Array Value} {l : List Nat} (h : NatCells cur l) {i b : Nat} (hi : i < l.length) (hb : b < l.length) :
    NatCells ((cur.setIfInBounds i (.int .i64 ((l.getD b 0 : Nat) : Int))).setIfInBounds b (.int .i64 ((l.getD i 0 : Nat) : Int))) (swp l i b) := by
  intro j hj
  rw [swp_length] at hj
  have hi2 : i < cur.size := by
    rcases Nat.lt_or_ge i cur.size with h1 | h1
    · exact h1
    · have := h i hi; rw [Array.getElem?_eq_none h1] at this; cases this
  have hb2 : b < cur.size := by
    rcases Nat.lt_or_ge b cur.size with h1 | h1
    · exact h1
    · have := h b hb; rw [Array.getElem?_eq_none h1] at this; cases this
  have hj2 := h j hj
  unfold swp
  rw [Array.getElem?_setIfInBounds, Array.getElem?_setIfInBounds]
  simp only [Array.size_setIfInBounds, List.getD_eq_getElem?_getD, List.getElem?_set, List.length_set] at hj2 ⊢
  by_cases e1 : b = j
  · simp [e1, hj]
    have : j < cur.size := by omega
    simp [this]
  · by_cases e2 : i = j
    · simp [e1, e2, hj]
      have : j < cur.size := by omega
      simp [this]
    · simp [e1, e2, hj2]

/-- What shuffle does from place i down. -/
noncomputable def shuf (s : Int) : Nat → List Nat → Int → List Nat × Int
  | 0, l, k => (l, k)
  | i + 1, l, k => shuf s i (swp l (i + 1) (drawV s k ((i : Int) + 1 + 1)).toNat) (drawK s k ((i : Int) + 1 + 1))

theorem drawK_lo (s k n : Int) : -9223372036854775808 ≤ drawK s k n := by unfold drawK wrap64; omega
theorem drawK_hi (s k n : Int) : drawK s k n ≤ 9223372036854775807 := by unfold drawK wrap64; omega

theorem below_at (b : Nat) (T : TypeId) (s k n : Int) (w : World) (n0 : 0 ≤ n) (n1 : n ≤ 18446744073709551615) (k0 : -9223372036854775808 ≤ k) (k1 : k ≤ 9223372036854775807)
    (hb : w.heap[b]? = some (.cells #[.int .u64 s, .int .i64 k] T (0, 0))) :
    Calls Tryz.prog 37 #[.pointer (some ⟨b, 0, none⟩), .int .u64 n] w fun e w' => e = .returned (.int .u64 (drawV s k n)) ∧ w'.heap[b]? = some (.cells #[.int .u64 s, .int .i64 (drawK s k n)] T (0, 0)) ∧ Only b w w' :=
  below_calls b T s k n w n0 n1 (by rw [w64_of k0 k1]; exact hb)

set_option maxHeartbeats 400000 in
theorem shuffle_calls (B g bx cap : Nat) (cur : Array Value) (l : List Nat) (s k : Int) (w : World) (hBg : B ≤ g) (hBx : B ≤ bx) (hBw : B ≤ w.heap.size) (k0 : -9223372036854775808 ≤ k) (k1 : k ≤ 9223372036854775807)
    (hg : w.heap[g]? = some (.cells cur 3 (0, 0))) (hx : w.heap[bx]? = some (.cells #[.int .u64 s, .int .i64 k] 65 (0, 0))) (hc : NatCells cur l) (n : Nat) (hn : n = l.length) (h1 : 1 ≤ n) (h2 : n ≤ 1024) :
    Calls Tryz.prog 38 #[.slice (some ⟨g, 0, none⟩) n cap, .func (.func 37) #[.pointer (some ⟨bx, 0, none⟩)] #[]] w fun e w' =>
      e = .returned (.tuple #[]) ∧ (∃ cur', w'.heap[g]? = some (.cells cur' 3 (0, 0)) ∧ NatCells cur' (shuf s (n - 1) l k).1) ∧
        w'.heap[bx]? = some (.cells #[.int .u64 s, .int .i64 (shuf s (n - 1) l k).2] 65 (0, 0)) ∧ Below B w w' := by
  have hcl : (w.alloc (.cells #[.slice (some ⟨g, 0, none⟩) n cap] 46)).heap[w.heap.size]? = some (.cells #[.slice (some ⟨g, 0, none⟩) n cap] 46 (0, 0)) := heap_alloc_new w _
  have H := Lib.hid (And.intro hg (And.intro hx (And.intro hc hn)))
  clear hg hx hc hn
  have HC := Lib.hid hcl; clear hcl
  go_enter Tryz.func38, Tryz.ntmps38
  go_wp2_with fail
  go_loopg [5] (n - 1) (fun gh v wr => ∃ (i : Nat) (l' : List Nat) (k' : Int) (cur' : Array Value), gh = i ∧ i + 1 ≤ n ∧ v = .int .i64 i ∧ (shuf s i l' k' = shuf s (n - 1) l k ∧ l'.length = n ∧ NatCells cur' l' ∧ wr.heap[g]? = some (.cells cur' 3 (0, 0)) ∧ wr.heap[bx]? = some (.cells #[.int .u64 s, .int .i64 k'] 65 (0, 0)) ∧
      wr.heap[w.heap.size]? = some (.cells #[.slice (some ⟨g, 0, none⟩) n cap] 46 (0, 0)) ∧ Below B w wr) ∧ -9223372036854775808 ≤ k' ∧ k' ≤ 9223372036854775807)
  case atStart =>
    obtain ⟨q1, q2, q3, q4⟩ := H.out
    refine ⟨n - 1, l, k, cur, rfl, by omega, by go_num, ⟨rfl, q4.symm, q3, ?_, ?_, HC.out, (Below.refl _ _).alloc hBw _⟩, k0, k1⟩
    · exact (Below.heap_alloc _ _ _ (lt_of_block q1)).trans q1
    · exact (Below.heap_alloc _ _ _ (lt_of_block q2)).trans q2
  case round =>
    obtain ⟨i, l', k', cur', hgh, hi, rfl, hR, hk0, hk1⟩ := hrel
    have HR := Lib.hid hR; clear hR
    have Hgh := Lib.hid hgh; clear hgh
    by_cases hpos : 0 < i
    · obtain ⟨i', rfl⟩ : ∃ i', i = i' + 1 := ⟨i - 1, by omega⟩
      have dlt := drawV_lt s k' ((i' : Int) + 1 + 1) (by omega)
      have dlo := drawV_lo s k' ((i' : Int) + 1 + 1)
      have hbc := below_at bx 65 s k' ((i' : Int) + 1 + 1) wr (by omega) (by omega) hk0 hk1 HR.out.2.2.2.2.1
      obtain ⟨D, hD⟩ : ∃ D, D = drawV s k' ((i' : Int) + 1 + 1) := ⟨_, rfl⟩
      obtain ⟨E, hE⟩ : ∃ E, E = drawK s k' ((i' : Int) + 1 + 1) := ⟨_, rfl⟩
      have hE0 : -9223372036854775808 ≤ E := by rw [hE]; exact drawK_lo _ _ _
      have hE1 : E ≤ 9223372036854775807 := by rw [hE]; exact drawK_hi _ _ _
      rw [← hD, ← hE] at hbc
      rw [← hD] at dlt dlo
      have HD := Lib.hid (And.intro hD hE)
      have HBC := Lib.hid hbc
      clear hpos hbc hD hE
      go_wp2_with fail
      refine HBC.out.mono ?_
      rintro e w1 ⟨rfl, hb1, ho1⟩
      have HO := Lib.hid (And.intro hb1 ho1); clear hb1 ho1
      go_wp2_with fail
      obtain ⟨r1, r2, r3, r4, r5, r6, r7⟩ := HR.out
      have hgx : g ≠ bx := by rintro rfl; rw [r4] at r5; injection r5 with r5; injection r5 with _ q; exact absurd q (by decide)
      have hlx : w.heap.size ≠ bx := by rintro q; rw [← q, r6] at r5; injection r5 with r5; injection r5 with _ q; exact absurd q (by decide)
      have hlg : w.heap.size ≠ g := by rintro q; rw [← q, r6] at r4; injection r4 with r4; injection r4 with _ q; exact absurd q (by decide)
      have r4' := (HO.out.2.block g hgx).trans r4
      have r6' := (HO.out.2.block _ hlx).trans r6
      refine (swap_at w.heap.size g n cap cur' _ _ w1 r6' r4' (by omega) (by omega) dlo (by omega) _ _ (r3 _ (by omega)) (r3 _ (by omega))).mono ?_
      rintro e w2 ⟨rfl, hg2, ho2⟩
      have HO2 := Lib.hid (And.intro hg2 ho2); clear hg2 ho2 r1 r2 r3 r4 r5 r6 r7 r4' r6' hgx hlx hlg
      go_wp2_with fail
      go_roundg i'
      case measure => have := Hgh.out; omega
      case rel =>
        obtain ⟨r1, r2, r3, r4, r5, r6, r7⟩ := HR.out
        have hgx : bx ≠ g := by rintro rfl; rw [r4] at r5; injection r5 with r5; injection r5 with _ q; exact absurd q (by decide)
        have hlx : w.heap.size ≠ bx := by rintro q; rw [← q, r6] at r5; injection r5 with r5; injection r5 with _ q; exact absurd q (by decide)
        have hlg : w.heap.size ≠ g := by rintro q; rw [← q, r6] at r4; injection r4 with r4; injection r4 with _ q; exact absurd q (by decide)
        have hs := NatCells.swap r3 (i := i' + 1) (b := D.toNat) (by omega) (by omega)
        refine ⟨i', swp l' (i' + 1) D.toNat, E, _, rfl, by omega, by go_num, ⟨?_, by rw [swp_length]; exact r2, hs, HO2.out.1, ?_, ?_, ?_⟩, hE0, hE1⟩
        · rw [← r1, HD.out.1, HD.out.2]; rfl
        · exact (HO2.out.2.block _ hgx).trans HO.out.1
        · exact (HO2.out.2.block _ hlg).trans ((HO.out.2.block _ hlx).trans r6)
        · exact (r7.trans (HO.out.2.below hBx)).trans (HO2.out.2.below hBg)
    · have hi0 : i = 0 := by omega
      subst hi0
      go_wp2_with fail
      go_end0
      obtain ⟨r1, r2, r3, r4, r5, r6, r7⟩ := HR.out
      have e1 : (l', k') = shuf s (n - 1) l k := r1
      rw [← e1]
      exact ⟨rfl, ⟨cur', r4, r3⟩, r5, r7⟩

theorem shuffle_none (fv : Value) (w : World) :
    Calls Tryz.prog 38 #[.slice none 0 0, fv] w fun e w' => e = .returned (.tuple #[]) ∧ w.alloc (.cells #[.slice none 0 0] 46) = w' := by
  go_enter Tryz.func38, Tryz.ntmps38
  go_wp2_with fail
  go_loopg [5] 0 (fun gh v wr => v = .int .i64 (-1) ∧ wr = w.alloc (.cells #[.slice none 0 0] 46))
  case atStart => exact ⟨rfl, rfl⟩
  case round =>
    obtain ⟨rfl, rfl⟩ := hrel
    go_wp2_with fail
    go_end0
    exact ⟨rfl, rfl⟩

theorem info3 : (Tryz.prog.info? 3).map (fun i => (i.zero, i.size, i.bytes)) = some (some (.int .i64 0), 1, 8) := by kernel_rfl

theorem own_base {w : World} {B : Nat} {e : TypeId} {size n : Nat} {v : Value} {xs : List Value} (h : w.ownsRow B e size v n xs) {q : Nat} (hq : v.ownBlock = some q) : B ≤ q := by
  rcases h.2 with ⟨rfl, _⟩ | ⟨g, cap, cur, rfl, hg, _⟩
  · simp [Value.ownBlock] at hq
  · simp [Value.ownBlock] at hq; omega

def ints (l : List Nat) : List Value := l.map fun j => Value.int .i64 ((j : Nat) : Int)

/-- What Perm draws: the order, and the index behind it. -/
noncomputable def permF (s k : Int) (n : Nat) : List Nat × Int := shuf s (n - 1) (List.range n) k
theorem shuf_length (s : Int) (i : Nat) : ∀ l k, (shuf s i l k).1.length = l.length := by
  induction i with
  | zero => intro l k; rfl
  | succ i ih => intro l k; simp only [shuf]; rw [ih, swp_length]
theorem permF_length (s k : Int) (n : Nat) : (permF s k n).1.length = n := by unfold permF; rw [shuf_length, List.length_range]

/-- Numbers that lie in a block of their own, or nil where there are none. -/
def NewNats (B : Nat) (w : World) (v : Value) (l : List Nat) : Prop :=
  (v = .slice none 0 0 ∧ l = []) ∨ ∃ g cap cur, v = .slice (some ⟨g, 0, none⟩) l.length cap ∧ l ≠ [] ∧ B ≤ g ∧ w.heap[g]? = some (.cells cur 3 (0, 0)) ∧ NatCells cur l

theorem Perm_no (s k n : Int) (w : World) (h : n < 0 ∨ 1024 < n) :
    Calls Tryz.prog 21 #[.int .u64 s, .int .i64 k, .int .i64 n] w fun e w' =>
      e = .returned (.tuple #[.slice none 0 0, .int .i64 0, .int .i64 2]) ∧ Below w.heap.size w w' := by
  by_cases h0 : n < 0
  · go_enter Tryz.func21, Tryz.ntmps21
    go_wp2_with fail
    go_ret3
    exact ⟨rfl, Below.refl _ _⟩
  · have h1 : 1024 < n := by omega
    go_enter Tryz.func21, Tryz.ntmps21
    go_wp2_with fail
    go_ret3
    exact ⟨rfl, Below.refl _ _⟩

set_option maxHeartbeats 400000 in
theorem Perm_calls (s k : Int) (n : Nat) (w : World) (k0 : -9223372036854775808 ≤ k) (k1 : k ≤ 9223372036854775807) (n0 : 1 ≤ n) (n1 : n ≤ 1024) :
    Calls Tryz.prog 21 #[.int .u64 s, .int .i64 k, .int .i64 n] w fun e w' =>
      ∃ v, e = .returned (.tuple #[v, .int .i64 (permF s k n).2, .int .i64 0]) ∧ NewNats w.heap.size w' v (permF s k n).1 ∧ Below w.heap.size w w' := by
  obtain ⟨i0, hi, hz0, hz1, hz2⟩ := info_parts info3
  obtain ⟨B, hB⟩ : ∃ B, B = w.heap.size := ⟨_, rfl⟩
  rw [← hB]
  have HB := Lib.hid hB; clear hB
  have HI := Lib.hid (And.intro hi (And.intro hz0 (And.intro hz1 hz2))); clear hi hz0 hz1 hz2
  have e0 : decide ((n : Int) < 0) = false := by simp
  have e1 : decide ((1024 : Int) < n) = false := by simp; omega
  go_enter Tryz.func21, Tryz.ntmps21
  go_wp2_with fail
  go_loopg [6, 18] n (fun gh v i wr => ∃ j : Nat, gh = n - j ∧ j ≤ n ∧ i = .int .i64 j ∧ (wr.ownsRow B 3 1 v j (ints (List.range j)) ∧ Below B w wr))
  case atStart => exact ⟨0, rfl, by omega, rfl, World.ownsRow_nil _ _ _ _, Below.refl _ _⟩
  case round =>
    obtain ⟨j, hgh, hj, rfl, hR⟩ := hrel
    have HR := Lib.hid hR; clear hR
    have Hgh := Lib.hid hgh; clear hgh
    by_cases hlt : j < n
    · have hbs : B ≤ wr.heap.size := by have := HR.out.2.size; have := HB.out; omega
      have HBS := Lib.hid hbs; clear hbs
      go_wp2_with (at_builtin; refine wpList_append_own _ rfl _ _ 46 rfl B 3 i0 (.int .i64 0) 1 8 Tryz.underlying46 HI.out.1 HI.out.2.1 HI.out.2.2.1 HI.out.2.2.2 rfl (by decide) _ _ _ rfl (HR.out.1.alloc _) ⟨wr.heap.size, 0, none⟩ 1 1 [.int .i64 j] rfl rfl ?c1 ?c2 ?c3 ?c4 ?c5 ?_)
      case c1 => exact cell_one_new _ _ _
      case c2 => intro u hu; simp at hu; subst hu; rfl
      case c3 => unfold maxLen; omega
      case c4 => omega
      case c5 => have := HBS.out; simp; omega
      intro v' w1 hown' hgrow _
      have HN := Lib.hid (And.intro hown' hgrow); clear hown' hgrow
      go_wp2_with fail
      go_roundg (n - (j + 1))
      case measure => have := Hgh.out; omega
      case rel =>
        refine ⟨j + 1, rfl, by omega, by go_num, ?_, ?_⟩
        · have := HN.out.1
          simp only [ints, List.range_succ, List.map_append] at this ⊢
          exact this
        · refine (HR.out.2.alloc HBS.out _).grown HN.out.2 (by have := HBS.out; simp; omega) ?_
          intro q hq
          exact own_base HR.out.1 hq
    · have hjn : j = n := by omega
      subst hjn
      have hown := HR.out.1
      rcases hown.2 with ⟨_, h0⟩ | ⟨g, cap, cur, hv, hBg, hh, hnc, _, hsz, htk⟩
      · omega
      · have hcells : NatCells cur (List.range j) := by
          intro m hm
          rw [List.length_range] at hm
          have := congrArg (fun q : List Value => q[m]?) htk
          simp only [ints, Nat.mul_one, List.getElem?_take, hm, if_true, List.getElem?_map, List.getElem?_range hm, Option.map_some, Array.getElem?_toList] at this
          rw [this]
          simp [List.getD_eq_getElem?_getD, List.getElem?_range hm]
        have hbw : B ≤ wr.heap.size := by have := HR.out.2.size; have := HB.out; omega
        have hsc := shuffle_calls B g wr.heap.size cap cur (List.range j) s k (wr.alloc (.cells #[.int .u64 s, .int .i64 k] 65)) hBg hbw (by simp; omega) k0 k1 ((Below.heap_alloc _ _ _ (lt_of_block hh)).trans hh) (heap_alloc_new _ _) hcells j (by simp) n0 n1
        have HS := Lib.hid hsc
        have HW := Lib.hid hbw
        clear hsc hown hh hnc hsz htk hcells hbw
        subst hv
        go_wp2_with fail
        refine HS.out.mono ?_
        rintro e w2 ⟨rfl, ⟨cur', hg2, hc2⟩, hx2, hb2⟩
        have hcx := cell_of_block hx2 1
        simp at hcx
        have H2 := Lib.hid (And.intro hg2 (And.intro hc2 hb2)); clear hg2 hc2 hx2 hb2
        go_wp2_with fail
        go_quiet (fail)
        go_wp2
        go_ret3
        refine ⟨_, rfl, ?_, ?_⟩
        · refine Or.inr ⟨g, cap, cur', ?_, ?_, hBg, H2.out.1, H2.out.2.1⟩
          · rw [permF_length]; rfl
          · intro e
            have := congrArg List.length e
            rw [permF_length] at this
            simp at this; omega
        · exact below_drewN' ((HR.out.2.alloc HW.out _).trans H2.out.2.2) _
end Go.Proofs.YtabgeonlodmpiaaGreatDoor
