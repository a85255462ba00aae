/- math/big: Mod; the reference's Accepted. -/
import Derived.Test.YtabgeonlodmpiaaGreatDoorDInt3
set_option linter.unusedVariables false
namespace Go.Proofs.YtabgeonlodmpiaaGreatDoor
open Go.RowKit

set_option maxRecDepth 100000 in
theorem int_Mod (w : World) (B Bv g gy x n l c lv cv : Nat) (A Av : Option Addr) (hz : IntAt w g (.slice A l c)) (hu : NumS w B A l c x) (hya : IntAt w gy (.slice Av lv cv)) (hv : NumS w Bv Av lv cv n)
    (hx : x < 18446744073709551616) (hn : 1 ≤ n) (hn2 : n < 9223372036854775808) (hB : B ≤ g) (hBw : B ≤ w.heap.size) (hne : g ≠ gy) (hyB : ∀ b, Av = some ⟨b, 0, none⟩ → b < B) :
    Calls Tryz.prog 29 #[.pointer (some ⟨g, 0, none⟩), .pointer (some ⟨g, 0, none⟩), .pointer (some ⟨gy, 0, none⟩)] w fun e w' => e = .returned (.pointer (some ⟨g, 0, none⟩)) ∧ NumAt w' B g (x % n) ∧ Below B w w' := by
  have hq := fun m => int_eql (w.drewN m) (g := g) (g2 := gy) (S := .slice A l c) (S2 := .slice Av lv cv) hz hya hne
  have AL : ∀ m, Calls Tryz.prog 46 #[.slice A l c, .slice Av lv cv] (w.drewN m) fun e w' => e = .returned (.bool false) ∧ ∃ m', w' = (w.drewN m).drewN m' := fun m => by
    obtain ⟨rfl, b2, cs2, rfl, hB2, hb2, hc2, h12, h82, -⟩ := hv.one hn (by omega)
    rcases hu.1 with ⟨rfl, rfl⟩ | ⟨b, cs, rfl, hBb, hb, hc, h8⟩
    · have : l = 0 := by have := hu.2.1; omega
      subst this
      exact alias_nil _ _ _ _
    · have hl := hu.2.1
      have hb2' := hyB b2 rfl
      rcases Nat.eq_zero_or_pos c with h0 | h0
      · subst h0
        have : l = 0 := by omega
        subst this
        go_enter Tryz.func46, Tryz.ntmps46
        go_wp2_with fail
        go_quiet (fail)
        go_wp2_with fail
        go_ret
        exact ⟨rfl, _, rfl⟩
      · exact alias_apart _ b b2 l c 1 cv cs cs2 hb hb2 (by omega) h0 h8 h12 h82 hl h12
  have Q : ∀ m, Calls Tryz.prog 41 #[.pointer (some ⟨w.heap.size, 0, none⟩), .pointer (some ⟨g, 0, none⟩), .pointer (some ⟨gy, 0, none⟩), .pointer (some ⟨g, 0, none⟩)] ((w.drewN m).alloc (.cells #[.bool false, .slice none 0 0] 57)) fun e w1 =>
      e = .returned (.tuple #[.pointer (some ⟨w.heap.size, 0, none⟩), .pointer (some ⟨g, 0, none⟩)]) ∧ w1.cell? ⟨g, 0, none⟩ = some (.bool false) ∧ Hid (NumAt w1 B g (x % n) ∧ Below B w w1) := fun m => by
    obtain ⟨w0, e0⟩ : ∃ w0, w0 = (w.drewN m).alloc (.cells #[.bool false, .slice none 0 0] 57) := ⟨_, rfl⟩
    rw [← e0]
    have hr : IntAt w0 w.heap.size (.slice none 0 0) := by rw [e0]; exact heap_alloc_new (w.drewN m) _
    have up : ∀ k, k < w.heap.size → w0.heap[k]? = w.heap[k]? := fun k hk => by rw [e0]; exact Below.heap_alloc (w.drewN m) _ _ hk
    have hz0 : IntAt w0 g (.slice A l c) := (up g hz.lt).trans hz
    have hy0 : IntAt w0 gy (.slice Av lv cv) := (up gy hya.lt).trans hya
    have hbl : Below w.heap.size w w0 := by rw [e0]; exact Below.alloc (below_drewN' (Below.refl _ _) m) (Nat.le_refl _) _
    have hs0 : w.heap.size ≤ w0.heap.size := hbl.size
    have hgl := hz.lt
    refine (int_quorem w0 B B Bv w.heap.size g g gy x n l c lv cv l c A Av A hr hz0 hz0 hy0 (hu.kept hbl) (by omega) (hv.kept hbl) hn hn2 (hu.1.kept hbl) hu.2.1 (by omega) hBw hB (by omega)).mono ?_
    rintro e w1 ⟨r, rfl, r1, r2, r3, r4⟩
    have er := r3 hx
    subst er
    have r2' := r2
    obtain ⟨-, A', l', c', hi, -⟩ := r2'
    exact ⟨rfl, (cell_of_block hi 0).trans rfl, Lib.hid ⟨r2, (hbl.mono hBw).trans r4⟩⟩
  have z1 : w.cell? ⟨g, 1, none⟩ = some (.slice A l c) := (cell_of_block hz 1).trans rfl
  have y1 : w.cell? ⟨gy, 1, none⟩ = some (.slice Av lv cv) := (cell_of_block hya 1).trans rfl
  clear hz hu hya hv hx hn hn2 hB hBw hne hyB
  go_enter Tryz.func29, Tryz.ntmps29
  go_wp2_with fail
  go_quiet ((go_at_call 46; exact quiet_draws (AL _)))
  go_wp2_with fail
  refine (Q _).mono ?_
  rintro e w1 ⟨rfl, s1, HN⟩
  go_wp2_with fail
  go_ret
  exact ⟨rfl, HN.out⟩
/-- 2^64 is made. -/
theorem all_lsh (w W0 W2 : World) (eW0 : W0 = w.alloc (.cells #[.bool false, .slice none 0 0] 57))
    (eW2 : W2 = (W0.alloc (.cells #[.int .u64 1] 62)).alloc (.cells #[.bool false, .slice (some ⟨W0.heap.size, 0, none⟩) 1 1] 57)) :
    Calls Tryz.prog 24 #[.pointer (some ⟨w.heap.size, 0, none⟩), .pointer (some ⟨W0.heap.size + 1, 0, none⟩), .int .u64 64] W2 fun e w' => e = .returned (.pointer (some ⟨w.heap.size, 0, none⟩)) ∧ NumAt w' w.heap.size w.heap.size 18446744073709551616 ∧ Below w.heap.size w w' := by
  obtain ⟨g, eg⟩ : ∃ g, g = w.heap.size := ⟨_, rfl⟩
  obtain ⟨W1, eW1⟩ : ∃ W1, W1 = W0.alloc (.cells #[.int .u64 1] 62) := ⟨_, rfl⟩
  rw [← eW1] at eW2
  have s0 : W0.heap.size = w.heap.size + 1 := by rw [eW0]; simp
  have s1 : W1.heap.size = W0.heap.size + 1 := by rw [eW1]; simp
  have b0 : IntAt W0 g (.slice none 0 0) := by rw [eW0, eg]; exact heap_alloc_new w _
  have b0' : IntAt W2 g (.slice none 0 0) := by
    rw [eW2, eW1]
    exact (Below.heap_alloc _ _ _ (by rw [← eW1]; omega)).trans ((Below.heap_alloc _ _ _ (by omega)).trans b0)
  have b1 : WB W2 W0.heap.size #[.int .u64 1] := by
    rw [eW2]
    exact (Below.heap_alloc _ _ _ (by omega)).trans (by rw [eW1]; exact heap_alloc_new W0 _)
  have b2 : IntAt W2 (W0.heap.size + 1) (.slice (some ⟨W0.heap.size, 0, none⟩) 1 1) := by
    rw [eW2, ← s1]; exact heap_alloc_new W1 _
  have s2 : W2.heap.size = W1.heap.size + 1 := by rw [eW2]; simp
  have hbl : Below w.heap.size w W2 := by
    rw [eW2, eW1, eW0]
    exact ((((Below.refl _ _).alloc (Nat.le_refl _) _).alloc (by simp) _).alloc (by simp; omega) _)
  have P := lsh64 W2.drew W0.heap.size #[.int .u64 1] b1 rfl
  have L := int_lsh W2 w.heap.size g (W0.heap.size + 1) 18446744073709551616 64 0 0 1 1 none (some ⟨W0.heap.size, 0, none⟩) b0' b2 (by omega)
    (P.mono (fun e w' h => by
      obtain ⟨h', c, rfl, r1, r2⟩ := h
      have hle : w.heap.size ≤ W2.drew.heap.size := by show w.heap.size ≤ W2.heap.size; omega
      exact ⟨_, _, _, rfl, r1.down hle, ⟨r2.below.mono hle, r2.ints⟩⟩))
  rw [eg] at L
  exact L.mono fun e w' ⟨h1, h2, h3⟩ => ⟨h1, h2, hbl.trans h3⟩
theorem NumAt.low {w : World} {B B' g v : Nat} (h : NumAt w B' g v) (hB : B ≤ B') : NumAt w B g v := by
  obtain ⟨h1, A, n, c, h2, h3⟩ := h
  exact ⟨by omega, A, n, c, h2, h3.down hB⟩
theorem NumAt.lt {w : World} {B g v : Nat} (h : NumAt w B g v) : g < w.heap.size := by
  obtain ⟨_, _, _, _, h2, _⟩ := h; exact h2.lt
theorem NumAt.below {w w' : World} {B K g v : Nat} (h : NumAt w B g v) (k : Below K w w') (hK : g < K) (hw : ∀ A n c, IntAt w g (.slice A n c) → ∀ b, A = some ⟨b, 0, none⟩ → b < K) : NumAt w' B g v := by
  obtain ⟨hB, A, n, c, h1, h2⟩ := h
  refine ⟨hB, A, n, c, (k.block g hK).trans h1, ?_⟩
  obtain ⟨hs, r⟩ := h2
  rcases hs with ⟨rfl, rfl⟩ | ⟨b, cs, rfl, hBb, hb, hc⟩
  · exact ⟨Or.inl ⟨rfl, rfl⟩, r.1, r.2.1, fun j x e => by obtain ⟨b, e', _⟩ := r.2.2 j x e; cases e'⟩
  · have hbK := hw _ _ _ h1 b rfl
    have hb' : WB w' b cs := (k.block b hbK).trans hb
    refine ⟨Or.inr ⟨b, cs, rfl, hBb, hb', hc⟩, r.1, r.2.1, fun j x e => ?_⟩
    obtain ⟨b', e', hcl⟩ := r.2.2 j x e
    cases e'
    exact ⟨b, rfl, ((cell_of_block hb' j).trans (cell_of_block hb j).symm).trans hcl⟩
/-- A number that came in. -/
structure InN (w : World) (g n : Nat) : Prop where
  b : ∃ bw, bw < w.heap.size ∧ WB w bw #[.int .u64 (n : Nat)] ∧ IntAt w g (.slice (some ⟨bw, 0, none⟩) 1 1)
theorem InN.below {w w' : World} {g n : Nat} (h : InN w g n) (k : Below w.heap.size w w') : InN w' g n := by
  obtain ⟨bw, h1, h2, h3⟩ := h.b
  exact ⟨bw, Nat.lt_of_lt_of_le h1 k.size, (k.block bw h1).trans h2, (k.block g h3.lt).trans h3⟩
set_option maxHeartbeats 4000000 in
set_option maxRecDepth 100000 in
theorem accepted_ok (w : World) (gn word n : Nat) (hN : InN w gn n) (hn : 1 ≤ n) (hn2 : n < 9223372036854775808) (hw : word < 18446744073709551616) :
    Calls Tryz.prog 14 #[.int .u64 (word : Nat), .pointer (some ⟨gn, 0, none⟩)] w fun e w' =>
      ((word < 18446744073709551616 / n * n ∧ ∃ m, e = .returned (.tuple #[.pointer (some ⟨m, 0, none⟩), .bool true]) ∧ NumAt w' w.heap.size m (word % n)) ∨
       (18446744073709551616 / n * n ≤ word ∧ e = .returned (.tuple #[.pointer none, .bool false]))) ∧ Below w.heap.size w w' := by
  obtain ⟨W0, eW0⟩ : ∃ W0, W0 = w.alloc (.cells #[.bool false, .slice none 0 0] 57) := ⟨_, rfl⟩
  obtain ⟨W2, eW2⟩ : ∃ W2, W2 = (W0.alloc (.cells #[.int .u64 1] 62)).alloc (.cells #[.bool false, .slice (some ⟨W0.heap.size, 0, none⟩) 1 1] 57) := ⟨_, rfl⟩
  have N := NewInt_1 W0
  have L := all_lsh w W0 W2 eW0 eW2
  rw [← eW2] at N
  have hq0 : 0 < 18446744073709551616 / n := Nat.div_pos (by omega) (by omega)
  have hle : 18446744073709551616 / n * n ≤ 18446744073709551616 := Nat.div_mul_le_self _ _
  obtain ⟨q, eq⟩ : ∃ q, q = 18446744073709551616 / n := ⟨_, rfl⟩
  rw [← eq] at hq0 hle ⊢
  obtain ⟨p, ep⟩ : ∃ p, p = q * n := ⟨_, rfl⟩
  rw [← ep] at hle ⊢
  have hp0 : 0 < p := by rw [ep]; exact Nat.mul_pos hq0 (by omega)
  have H := Lib.hid (And.intro hN (And.intro hn (And.intro hn2 (And.intro hw (And.intro hq0 (And.intro hle (And.intro hp0 (And.intro eq ep))))))))
  clear hN hn hn2 hw hq0 hle hp0 eq ep eW2
  have HW := Lib.hid eW0; clear eW0
  go_enter Tryz.func14, Tryz.ntmps14
  go_wp2_with fail
  rw [← HW.out]
  refine N.mono ?_
  rintro e w1 ⟨rfl, rfl⟩
  go_wp2_with fail
  refine L.mono ?_
  rintro e w3 ⟨rfl, r1, r2⟩
  have R1 := Lib.hid (And.intro r1 r2)
  obtain ⟨hN, hn, hn2, hw, hq0, hle, hp0, eq, ep⟩ := H.out
  have hs3 := r2.size
  have hg3 := r1.lt
  -- the two new Ints
  obtain ⟨k, ek⟩ : ∃ k, k = w3.heap.size := ⟨_, rfl⟩
  obtain ⟨w4, e4⟩ : ∃ w4, w4 = w3.alloc (.cells #[.bool false, .slice none 0 0] 57) := ⟨_, rfl⟩
  obtain ⟨w5, e5⟩ : ∃ w5, w5 = w4.alloc (.cells #[.bool false, .slice none 0 0] 57) := ⟨_, rfl⟩
  have s4 : w4.heap.size = k + 1 := by rw [e4, ek]; simp
  have s5 : w5.heap.size = k + 2 := by rw [e5]; simp [s4]
  have b35 : Below w3.heap.size w3 w5 := by rw [e5, e4]; exact ((Below.refl _ _).alloc (Nat.le_refl _) _).alloc (by simp) _
  have i5 : IntAt w5 (k + 1) (.slice none 0 0) := by rw [e5, ← s4]; exact heap_alloc_new w4 _
  have i4 : IntAt w5 k (.slice none 0 0) := by rw [e5]; exact (Below.heap_alloc _ _ _ (by omega)).trans (by rw [e4, ek]; exact heap_alloc_new w3 _)
  have a5 := r1.kept b35
  have n5 := (hN.below r2).below b35
  obtain ⟨-, Aa, la, ca, ha1, ha2⟩ := a5
  obtain ⟨bn, hbn, hbw, hni⟩ := n5.b
  obtain ⟨bn0, hbn0, hbw0, hni0⟩ := hN.b
  have hn5 : NumS w5 0 (some ⟨bn, 0, none⟩) 1 1 n := NumS.mk1 hbw (Nat.zero_le _) rfl (by omega) rfl (by omega) (by omega)
  have D := int_Div w5 (k + 1) w.heap.size 0 (k + 1) w.heap.size gn 18446744073709551616 n la ca 1 1 Aa (some ⟨bn, 0, none⟩) i5 ha1 hni ha2 (Nat.le_refl _) hn5 hn hn2 (Nat.le_refl _) (by omega)
  rw [← eq] at D
  clear r1 r2
  have K3 := Lib.hid (And.intro hs3 (And.intro s4 (And.intro s5 (And.intro b35 (And.intro i4 (And.intro n5 (And.intro hg3 (And.intro hN (And.intro hn hn2)))))))))
  have K4 := Lib.hid (And.intro e4 (And.intro e5 ek))
  have hk5 : w4.heap.size = k + 1 := s4
  clear hN hn hn2 hw hq0 hle hp0 eq ep hs3 hg3 s4 s5 b35 i5 i4 n5 ha1 ha2 hbn hbw hni hbn0 hbw0 hni0 hn5
  go_wp2_with fail
  rw [← K4.out.1, ← K4.out.2.1, ← K4.out.2.2]
  refine D.mono ?_
  rintro e w6 ⟨rfl, r1, r2⟩
  obtain ⟨hs3, s4, s5, b35, i4, n5, hg3, hN, hn, hn2⟩ := K3.out
  obtain ⟨-, -, -, hw, hq0, hle, hp0, eq, ep⟩ := H.out
  obtain ⟨-, -, ek⟩ := K4.out
  have hwk : w.heap.size ≤ k := by omega
  have n6 : InN w6 gn n := by
    obtain ⟨bw, h1, h2, h3⟩ := hN.b
    have h4 := (R1.out.2.block bw h1).trans h2
    have h5 := (R1.out.2.block gn h3.lt).trans h3
    have hgl := h3.lt
    have h6 := (b35.block bw (by omega)).trans h4
    have h7 := (b35.block gn (by omega)).trans h5
    exact ⟨bw, Nat.lt_of_lt_of_le (show bw < w5.heap.size by omega) r2.size, (r2.block bw (by omega)).trans h6, (r2.block gn (by omega)).trans h7⟩
  have i6 : IntAt w6 k (.slice none 0 0) := (r2.block k (by omega)).trans i4
  obtain ⟨-, Aq, lq, cq, hq1, hq2⟩ := r1
  obtain ⟨bn, hbn, hbw, hni⟩ := n6.b
  have hn6 : NumS w6 0 (some ⟨bn, 0, none⟩) 1 1 n := NumS.mk1 hbw (Nat.zero_le _) rfl (by omega) rfl (by omega) (by omega)
  have hgl := hN.b
  have hgn : gn < w.heap.size := by obtain ⟨_, _, _, h⟩ := hgl; exact h.lt
  have s6 := r2.size
  have M := int_Mul w6 k (k + 1) 0 k (k + 1) gn q n p lq cq 1 1 Aq (some ⟨bn, 0, none⟩) i6 hq1 hni hq2 hn6 hq0 (by omega) hn2 ep.symm hle (Nat.le_refl _) (by omega) (by omega)
  have K6 := Lib.hid (And.intro r2 (And.intro n6 (And.intro hwk (And.intro hgn s6))))
  clear hs3 s4 s5 b35 i4 n5 hg3 hN hn hn2 hw hq0 hle hp0 eq ep ek hwk n6 i6 hq1 hq2 hbn hbw hni hn6 hgl hgn s6 r2 D hk5
  go_wp2_with fail
  try rw [← K4.out.2.2]
  refine M.mono ?_
  rintro e w7 ⟨rfl, r1, r2⟩
  obtain ⟨hs3, s4, s5, b35, i4, n5, hg3, hN, hn, hn2⟩ := K3.out
  obtain ⟨-, -, -, hw, hq0, hle, hp0, eq, ep⟩ := H.out
  obtain ⟨-, -, ek⟩ := K4.out
  obtain ⟨b6, n6, hwk, hgn, s6⟩ := K6.out
  have s7 := r2.size
  have n7 : InN w7 gn n := by
    obtain ⟨bw, h1, h2, h3⟩ := n6.b
    have hk6 : IntAt w6 k (.slice none 0 0) := (b6.block k (by omega)).trans i4
    refine ⟨bw, by omega, (r2.block bw h1 ?_).trans h2, (r2.block gn h3.lt (by omega)).trans h3⟩
    rintro rfl
    unfold WB at h2; unfold IntAt at hk6
    rw [h2] at hk6; cases hk6
  obtain ⟨m, em⟩ : ∃ m, m = w7.heap.size := ⟨_, rfl⟩
  obtain ⟨w8, e8⟩ : ∃ w8, w8 = w7.alloc (.cells #[.bool false, .slice none 0 0] 57) := ⟨_, rfl⟩
  have s8 : w8.heap.size = m + 1 := by rw [e8, em]; simp
  have b78 : Below w7.heap.size w7 w8 := by rw [e8]; exact (Below.refl _ _).alloc (Nat.le_refl _) _
  have i8 : IntAt w8 m (.slice none 0 0) := by rw [e8, em]; exact heap_alloc_new w7 _
  have SU := int_SetUint64 w8 m m word i8 hw (Nat.le_refl _) (by omega)
  have K7 := Lib.hid (And.intro r1 (And.intro r2 (And.intro n7 (And.intro s7 (And.intro s8 (And.intro b78 i8))))))
  have K8 := Lib.hid (And.intro e8 em)
  clear hs3 s4 s5 b35 i4 n5 hg3 hN hn hn2 hw hq0 hle hp0 eq ep ek hwk n6 b6 hgn s6 s7 n7 r1 r2 s8 b78 i8 M e8 em
  go_wp2_with fail
  rw [← K8.out.1, ← K8.out.2]
  refine SU.mono ?_
  rintro e w9 ⟨rfl, r1, r2⟩
  obtain ⟨hs3, s4, s5, b35, i4, n5, hg3, hN, hn, hn2⟩ := K3.out
  obtain ⟨-, -, -, hw, hq0, hle, hp0, eq, ep⟩ := H.out
  obtain ⟨-, -, ek⟩ := K4.out
  obtain ⟨b6, n6, hwk, hgn, s6⟩ := K6.out
  obtain ⟨p7, kb7, n7, s7, s8, b78, i8⟩ := K7.out
  have em := K8.out.2
  have s9 := r2.size
  have p8 := p7.kept b78
  have hkl := p7.lt
  have p9 := p8.kb i8 r2 (by omega)
  have n8 : InN w8 gn n := n7.below b78
  have n9 : InN w9 gn n := by
    obtain ⟨bw, h1, h2, h3⟩ := n8.b
    have : bw ≠ m := by
      rintro rfl
      unfold WB at h2; unfold IntAt at i8
      rw [h2] at i8; cases i8
    exact ⟨bw, by omega, (r2.block bw h1 this).trans h2, (r2.block gn h3.lt (by omega)).trans h3⟩
  have B9 : Below w.heap.size w w9 := by
    have a1 := R1.out.2
    have a2 := b35.mono (B := w3.heap.size) (B' := w.heap.size) (by omega)
    have a3 := b6.mono (B := k + 1) (B' := w.heap.size) (by omega)
    have a4 := kb7.below (B := w.heap.size) (by omega) (by omega)
    have a5 := b78.mono (B := w7.heap.size) (B' := w.heap.size) (by omega)
    have a6 := r2.below (B := w.heap.size) (by omega) (by omega)
    exact ((((a1.trans a2).trans a3).trans a4).trans a5).trans a6
  have CM := int_cmp w9 0 m k word p (r1.low (Nat.zero_le _)) (p9.low (Nat.zero_le _)) (by omega) (by omega) hp0 hle
  obtain ⟨cv, ecv⟩ : ∃ cv, cv = cmpI word p := ⟨_, rfl⟩
  rw [← ecv] at CM
  have hcv := cmpI_nonneg word p
  rw [← ecv] at hcv
  rcases Nat.lt_or_ge word p with hlt | hge
  · have tcv : decide ((0 : Int) ≤ cv) = false := decide_eq_false (fun h => by have := hcv.1 h; omega)
    obtain ⟨hBm, A, l, c, hi, hs⟩ := r1
    obtain ⟨bn, hbn, hbw, hni⟩ := n9.b
    have hb7 : bn < m := by
      obtain ⟨bw, h1, h2, h3⟩ := n7.b
      have h4 : IntAt w9 gn (.slice (some ⟨bw, 0, none⟩) 1 1) := (r2.block gn (by omega) (by omega)).trans ((b78.block gn h3.lt).trans h3)
      have h5 := h4.symm.trans hni
      simp only [Option.some.injEq, Obj.cells.injEq, Array.mk.injEq, List.cons.injEq, Value.slice.injEq, Addr.mk.injEq, and_true, true_and] at h5
      omega
    have hn9 : NumS w9 0 (some ⟨bn, 0, none⟩) 1 1 n := NumS.mk1 hbw (Nat.zero_le _) rfl (by omega) rfl (by omega) (by omega)
    have MD := fun mm => int_Mod (w9.drewN mm) m 0 m gn word n l c 1 1 A (some ⟨bn, 0, none⟩) hi hs hni hn9 hw hn hn2 (Nat.le_refl _) (by show m ≤ w9.heap.size; omega) (by omega) (fun b e => by cases e; exact hb7)
    have HF := Lib.hid (And.intro hlt (And.intro B9 (show w.heap.size ≤ m by omega)))
    clear hs3 s4 s5 b35 i4 n5 hg3 hN hn hn2 hw hq0 hle hp0 eq ep ek hwk n6 b6 hgn s6 s7 n7 s8 b78 i8 p7 kb7 em s9 p8 hkl p9 n8 n9 B9 r2 ecv hcv hlt hBm hi hs hbn hbw hni hb7 hn9 SU
    go_wp2_with fail
    try rw [← K4.out.2.2]
    try rw [← K8.out.2]
    refine CM.mono ?_
    rintro e w10 ⟨rfl, mm, rfl⟩
    go_wp2_with fail
    try rw [← K8.out.2]
    refine (MD mm).mono ?_
    rintro e w11 ⟨rfl, r1, r2⟩
    have HL := Lib.hid (And.intro r1 r2); clear r1 r2
    go_wp2_with fail
    go_ret2
    obtain ⟨h1, h2, h3⟩ := HF.out
    exact ⟨Or.inl ⟨h1, _, rfl, HL.out.1.low h3⟩, (below_drewN' h2 mm).trans (HL.out.2.mono h3)⟩
  · have tcv : decide ((0 : Int) ≤ cv) = true := decide_eq_true (hcv.2 hge)
    have HF := Lib.hid (And.intro hge B9)
    clear hs3 s4 s5 b35 i4 n5 hg3 hN hn hn2 hw hq0 hle hp0 eq ep ek hwk n6 b6 hgn s6 s7 n7 s8 b78 i8 p7 kb7 em s9 p8 hkl p9 n8 n9 B9 r1 r2 ecv hcv hge SU
    go_wp2_with fail
    try rw [← K4.out.2.2]
    try rw [← K8.out.2]
    refine CM.mono ?_
    rintro e w10 ⟨rfl, mm, rfl⟩
    go_wp2_with fail
    go_ret2
    exact ⟨Or.inr ⟨HF.out.1, rfl⟩, below_drewN' HF.out.2 mm⟩
end Go.Proofs.YtabgeonlodmpiaaGreatDoor
