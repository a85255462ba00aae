/- vm, the front end: right: statements are printable. vm, the front end: Printable. -/
import Derived.Test.YtocbddajakbemaaGreatMQ
set_option linter.unusedVariables false
set_option linter.unusedSimpArgs false
set_option linter.unusedSimpArgs false
namespace Go.Proofs.YtocbddajakbemaaGreat
section
open Go.RowKit
structure WL (P : Program) (ops : Array Oper) (Q : Exit → Act → World → Prop) (l : List Oper) (a : Act) (w : World) : Prop where
  h : wpList P ops Q l a w
theorem WL.enter {P : Program} {ops : Array Oper} {Q : Exit → Act → World → Prop} {l : List Oper} {a : Act} {w : World} {K : Act → World → Prop} (hX : ∀ (a : Act) (w : World), wpList P ops Q l a w → K a w) (h : WL P ops Q l a w) : K a w := hX _ _ h.h
theorem WL.skip {P : Program} {ops : Array Oper} {Q : Exit → Act → World → Prop} {o : Oper} {l : List Oper} {a : Act} {w : World} (hw : Region.wanted o (yielded ops a.tmps) = false) (h : WL P ops Q l (a.put o.dst undef) w) : WL P ops Q (o :: l) a w := ⟨wpList_skip hw h.h⟩
def goodM : S2 → Bool
  | .si (.le op s x) => (op == 1 || op == 2) && nameM s && fineM 40 x
  | .si (.pu n i x) => decide (1 ≤ n) && decide (n ≤ 10) && fineM 40 i && fineM 40 x
  | .si (.en op) => op == 7
  | .wh x _ => fineM 40 x
def FAs (w : World) (A : Option Addr) (m : Nat) : Prop :=
  ∀ k, k < m → ∃ (b o : Nat) (nn : Int) (s : ByteArray) (A' : Option Addr) (mm c : Nat), A = some ⟨b, 0, none⟩ ∧ (w.cell? ⟨b, k * 4, none⟩ = some (.int .u8 (o : Nat)) ∧ w.cell? ⟨b, k * 4 + 1, none⟩ = some (.int .i64 nn) ∧ w.cell? ⟨b, k * 4 + 2, none⟩ = some (.string s) ∧ w.cell? ⟨b, k * 4 + 3, none⟩ = some (.slice A' mm c)) ∧
    ∀ W, Below w.heap.size w W → Calls Tryz.prog 99 #[.agg #[.int .u8 (o : Nat), .int .i64 nn, .string s, .slice A' mm c], .int .i64 40] W fun e w' => e = .returned (.bool true) ∧ Below W.heap.size W w'
theorem fa_u {w : World} {x : Ex} {A : Option Addr} {cp : Nat} {op : Nat} {n : Int} (h : ExAt w (fun q => q < w.heap.size) (.u op n x) A cp) (hf : fineM 40 x = true) : FAs w A 1 := by
  intro k hk
  obtain rfl : k = 0 := by omega
  obtain ⟨b, A1, c1, rfl, -, hc, hx⟩ := h
  exact ⟨b, x.op, x.num, x.name, A1, x.many, c1, rfl, ⟨by rw [Nat.zero_mul]; exact hc.c0, by rw [Nat.zero_mul]; exact hc.c1, by rw [Nat.zero_mul]; exact hc.c2, by rw [Nat.zero_mul]; exact hc.c3⟩,
    fun W hW => Fine_ok 40 x hf (by omega) W A1 c1 (hx.below hW rfl)⟩
theorem fa_b {w : World} {x y : Ex} {A : Option Addr} {cp : Nat} {op : Nat} (h : ExAt w (fun q => q < w.heap.size) (.b op x y) A cp) (hf : fineM 40 x = true) (hg : fineM 40 y = true) : FAs w A 2 := by
  intro k hk
  obtain ⟨b, A1, c1, A2, c2, rfl, -, hc, hd, hx, hy⟩ := h
  rcases (show k = 0 ∨ k = 1 by omega) with rfl | rfl
  · exact ⟨b, x.op, x.num, x.name, A1, x.many, c1, rfl, ⟨by rw [Nat.zero_mul]; exact hc.c0, by rw [Nat.zero_mul]; exact hc.c1, by rw [Nat.zero_mul]; exact hc.c2, by rw [Nat.zero_mul]; exact hc.c3⟩,
      fun W hW => Fine_ok 40 x hf (by omega) W A1 c1 (hx.below hW rfl)⟩
  · exact ⟨b, y.op, y.num, y.name, A2, y.many, c2, rfl, ⟨hd.c0, hd.c1, hd.c2, hd.c3⟩, fun W hW => Fine_ok 40 y hg (by omega) W A2 c2 (hy.below hW rfl)⟩
theorem fa_0 (w : World) (A : Option Addr) : FAs w A 0 := fun k hk => (by omega)
structure RtSt (w : World) (b o : Nat) (op : Nat) (num : Int) (name : ByteArray) (A : Option Addr) (m cp : Nat) (BA : Option Addr) (bn bc : Nat) (D : Int) : Prop where
  cs : w.cell? ⟨b, o, none⟩ = some (.int .u8 (op : Nat)) ∧ w.cell? ⟨b, o + 1, none⟩ = some (.int .i64 num) ∧ w.cell? ⟨b, o + 2, none⟩ = some (.string name) ∧ w.cell? ⟨b, o + 3, none⟩ = some (.slice A m cp) ∧ w.cell? ⟨b, o + 4, none⟩ = some (.slice BA bn bc) ∧ w.cell? ⟨b, o + 5, none⟩ = some (.slice none 0 0)
  fa : FAs w A m
  bd : ∀ W, Below w.heap.size w W → Calls Tryz.prog 65 #[.slice BA bn bc, .int .i64 (D - 1)] W fun e w' => e = .returned (.bool true) ∧ Below W.heap.size W w'
  how : ((op = 1 ∨ op = 2) ∧ num = 0 ∧ nameM name = true ∧ m = 1 ∧ bn = 0) ∨ (op = 3 ∧ 1 ≤ num ∧ num ≤ 10 ∧ name = ⟨#[]⟩ ∧ m = 2 ∧ bn = 0) ∨ (op = 5 ∧ num = 0 ∧ name = ⟨#[]⟩ ∧ m = 1 ∧ bn ≤ 1000) ∨ (op = 7 ∧ num = 0 ∧ name = ⟨#[]⟩ ∧ m = 0 ∧ bn = 0)
set_option maxRecDepth 100000 in
theorem right_nil (A : Option Addr) (c : Nat) (D : Int) (w : World) : Calls Tryz.prog 65 #[.slice A 0 c, .int .i64 D] w fun e w' => e = .returned (.bool true) ∧ Below w.heap.size w w' := by
  go_enter Tryz.func65, Tryz.ntmps65
  go_wp2_with fail
  go_loopg [5] 1 (fun gh iv wr => iv = .int .i64 0 ∧ w = wr)
  case atStart => exact ⟨rfl, rfl⟩
  case round =>
    obtain ⟨rfl, rfl⟩ := hrel
    go_wp2_with fail
    go_ret
    exact ⟨rfl, Below.refl _ _⟩
theorem stm_new (W : World) (a0 a1 a2 a3 a4 a5 : Value) : ∃ w1, w1 = W.alloc (.cells #[a0, a1, a2, a3, a4, a5] 39 (0, 0)) ∧ Below W.heap.size W w1 ∧ w1.heap.size = W.heap.size + 1 ∧
    w1.heap[W.heap.size]? = some (.cells #[a0, a1, a2, a3, a4, a5] 39 (0, 0)) := ⟨_, rfl, (Below.refl _ _).alloc (Nat.le_refl _) _, by simp, heap_alloc_new W _⟩
set_option maxRecDepth 100000 in
set_option maxHeartbeats 8000000 in
theorem right_rows (BA : Option Addr) (n bc : Nat) (D : Int) (hd : 0 < D) (hdm : D ≤ 1000) (hn : n ≤ 1000) (w : World)
    (HS : ∀ j, j < n → ∃ b op num name A m cp BB bn bb, BA = some ⟨b, 0, none⟩ ∧ RtSt w b (j * 6) op num name A m cp BB bn bb D) :
    Calls Tryz.prog 65 #[.slice BA n bc, .int .i64 D] w fun e w' => e = .returned (.bool true) ∧ Below w.heap.size w w' := by
  have hd' : ¬ D = 0 := by omega
  have hd2 : (D == 0) = false := by simp; omega
  have hw : wrap64 (D - 1) = D - 1 := by unfold wrap64; omega
  obtain ⟨g, eg⟩ : ∃ g, g = w.heap.size := ⟨_, rfl⟩
  have H := Lib.hid (And.intro HS (And.intro eg hn))
  rw [← eg]
  clear HS eg hd hdm hn
  go_enter Tryz.func65, Tryz.ntmps65
  go_wp2_with fail
  go_loopg [5] n (fun gh iv wr => ∃ j : Nat, iv = .int .i64 (j : Nat) ∧ gh + j = n ∧ Below g w wr)
  case atStart => exact ⟨0, rfl, rfl, Below.refl _ _⟩
  case round =>
  obtain ⟨j, rfl, hj, hb⟩ := hrel
  obtain ⟨W, eW⟩ : ∃ W, W = wr := ⟨_, rfl⟩
  rw [← eW] at hb ⊢
  clear eW
  rcases gk with _ | go
  · obtain rfl : j = n := by omega
    have HB := Lib.hid hb
    clear hb hj
    go_wp2_with fail
    go_ret
    exact ⟨rfl, HB.out⟩
  obtain ⟨b, op, num, name, A, m, cp, BB, bn, bb, rfl, R⟩ := H.out.1 j (by omega)
  have bw : Below w.heap.size w W := by have := hb; rw [H.out.2.1] at this; exact this
  have hnn := H.out.2.2
  obtain ⟨c0, c1, c2, c3, c4, c5⟩ := R.cs
  have c0 := (bw.cell (World.block_lt_of_cell? _ _ c0)).trans c0
  have c1 := (bw.cell (World.block_lt_of_cell? _ _ c1)).trans c1
  have c2 := (bw.cell (World.block_lt_of_cell? _ _ c2)).trans c2
  have c3 := (bw.cell (World.block_lt_of_cell? _ _ c3)).trans c3
  have c4 := (bw.cell (World.block_lt_of_cell? _ _ c4)).trans c4
  have c5 := (bw.cell (World.block_lt_of_cell? _ _ c5)).trans c5
  have hbl := World.block_lt_of_cell? W _ c0
  have i0 : (0 : Int) ≤ (j : Int) := by omega
  have i1 : (j : Int) < (n : Int) := by omega
  have w1' : wrap64 ((j : Int) + 1) = (j : Int) + 1 := by unfold wrap64; omega
  obtain ⟨w1, e1, hb1, hs1, hk1⟩ := stm_new W (.int .u8 (op : Nat)) (.int .i64 num) (.string name) (.slice A m cp) (.slice BB bn bb) (.slice none 0 0)
  obtain ⟨gs, egs⟩ : ∃ gs, gs = W.heap.size := ⟨_, rfl⟩
  rw [← egs] at hk1
  have bw1 : Below w.heap.size w w1 := bw.trans (hb1.mono bw.size)
  have RC := R.bd w1 bw1
  have HK := Lib.hid (And.intro hj (And.intro hb (And.intro bw1 (And.intro hk1 (And.intro R.fa (And.intro egs hs1))))))
  have how := R.how
  obtain ⟨⟨d0, d1, d2, d3, d4, d5⟩, -⟩ := st_facts hk1
  clear hj hb bw bw1 hb1 hs1 R hk1 hnn
  go_upto_region 5 with fail
  rw [← e1, ← egs]
  clear e1 c0 c1 c2 c3 c4 c5 hbl egs
  rcases how with ⟨rfl | rfl, rfl, hnm, rfl, rfl⟩ | ⟨rfl, h1, h10, rfl, rfl, rfl⟩ | ⟨rfl, rfl, rfl, rfl, hbn⟩ | ⟨rfl, rfl, rfl, rfl, rfl⟩
  · as_aux_lemma =>
    have RN := fun W => right_nil none 0 (D - 1) W
    go_upto_region 7 with (go_at_call 65; first | (with_reducible refine RC.mono ?_; rintro e w3 ⟨rfl, hb3⟩; have e4 := (hb3.cell (World.block_lt_of_cell? _ _ d4)).trans d4; have e5 := (hb3.cell (World.block_lt_of_cell? _ _ d5)).trans d5; have e0 := (hb3.cell (World.block_lt_of_cell? _ _ d0)).trans d0; have HB3 := Lib.hid hb3; clear hb3) | (with_reducible refine (RN _).mono ?_; rintro e w4 ⟨rfl, hb4⟩; have HB4 := Lib.hid hb4; clear hb4))
    have B14 : Below w1.heap.size w1 w4 := HB3.out.trans (HB4.out.mono HB3.out.size)
    have hk1 := HK.out.2.2.2.1
    have hk4 := (B14.block gs (lt_of_block hk1)).trans hk1
    clear e0 e4 e5 d0 d1 d2 d3 d4 d5 RC RN
    obtain ⟨⟨d0, d1, d2, d3, d4, d5⟩, -⟩ := st_facts hk4
    have NM := Name_ok name hnm w4
    have HB14 := Lib.hid (And.intro B14 hk4)
    go_upto_region 12 with fail
    clear B14 hk1
    repeat (first | go_values | go_skip | go_guarded | go_step | go_upon)
    (go_at_call 64; refine NM.mono ?_; rintro e w5 ⟨rfl, hb5⟩; have hk5 := (hb5.block gs (lt_of_block hk4)).trans hk4; obtain ⟨⟨d0, d1, d2, d3, d4, d5⟩, -⟩ := st_facts hk5; have HB5 := Lib.hid (And.intro hb5 hk5); clear hb5 hk5; dsimp only)
    iterate 36 (first | go_values | go_skip | go_guarded | go_step | go_upon)
    rename_i hX
    refine WL.enter hX ?_
    clear hX
    iterate 8 (refine WL.skip (by kernel_rfl) ?_; simp only [Act.put, List.setIfInBounds_toArray, List.set_cons_zero, List.set_cons_succ])
    refine WL.mk ?_
    repeat (first | go_values | go_skip | go_guarded | go_step | go_upon)
    clear hk4 NM
    have BW5 : Below w1.heap.size w1 w5 := HB14.out.1.trans (HB5.out.1.mono HB14.out.1.size)
    have hk5 : w5.heap[gs]? = _ := HB5.out.2
    obtain ⟨W5, eW5⟩ : ∃ W5, W5 = w5 := ⟨_, rfl⟩
    rw [← eW5] at BW5 hk5 ⊢
    have HW5 := Lib.hid (And.intro BW5 hk5)
    clear BW5 hk5 d0 d1 d2 d3 d4 d5 eW5
    go_loopg [8] 1 (fun gh iv wr => ∃ k : Nat, iv = .int .i64 (k : Nat) ∧ gh + k = 1 ∧ Below W5.heap.size W5 wr)
    case atStart => exact ⟨0, rfl, rfl, Below.refl _ _⟩
    case round =>
    obtain ⟨k, rfl, hk, hbr⟩ := hrel
    obtain ⟨W6, eW6⟩ : ∃ W6, W6 = wr := ⟨_, rfl⟩
    rw [← eW6] at hbr ⊢
    clear eW6
    have hk6 := (hbr.block gs (lt_of_block HW5.out.2)).trans HW5.out.2
    obtain ⟨⟨d0, d1, d2, d3, d4, d5⟩, -⟩ := st_facts hk6
    have B16 : Below w1.heap.size w1 W6 := HW5.out.1.trans (hbr.mono HW5.out.1.size)
    have bw6 : Below w.heap.size w W6 := HK.out.2.2.1.trans (B16.mono HK.out.2.2.1.size)
    rcases gk with _ | gi
    · obtain rfl : k = 1 := by omega
      have HB := Lib.hid bw6
      clear hbr bw6 hk hk6 B16
      go_wp2_with fail
      go_roundg go
      case measure => omega
      case rel => exact ⟨j + 1, by go_num, by have := HK.out.1; omega, by rw [H.out.2.1]; exact HB.out⟩
    · obtain ⟨b', o, nn, s', A', mm, c, eA, ⟨x0, x1, x2, x3⟩, FC⟩ := HK.out.2.2.2.2.1 k (by omega)
      subst eA
      have FCx := FC W6 bw6
      have x0 := (bw6.cell (World.block_lt_of_cell? _ _ x0)).trans x0
      have x1 := (bw6.cell (World.block_lt_of_cell? _ _ x1)).trans x1
      have x2 := (bw6.cell (World.block_lt_of_cell? _ _ x2)).trans x2
      have x3 := (bw6.cell (World.block_lt_of_cell? _ _ x3)).trans x3
      have hbl := World.block_lt_of_cell? W6 _ x0
      have k0 : (0 : Int) ≤ (k : Int) := by omega
      have k1 : (k : Int) < (1 : Int) := by omega
      have w2' : wrap64 ((k : Int) + 1) = (k : Int) + 1 := by unfold wrap64; omega
      have HK2 := Lib.hid (And.intro hk hbr)
      clear hk hbr bw6 FC hk6 B16
      go_wp2_with (go_at_call 99; refine FCx.mono ?_; rintro e w7 ⟨rfl, hb7⟩; have HB7 := Lib.hid hb7; clear hb7)
      go_roundg gi
      case measure => omega
      case rel => exact ⟨k + 1, by go_num, by have := HK2.out.1; omega, HK2.out.2.trans (HB7.out.mono HK2.out.2.size)⟩
  · as_aux_lemma =>
    have RN := fun W => right_nil none 0 (D - 1) W
    go_upto_region 7 with (go_at_call 65; first | (with_reducible refine RC.mono ?_; rintro e w3 ⟨rfl, hb3⟩; have e4 := (hb3.cell (World.block_lt_of_cell? _ _ d4)).trans d4; have e5 := (hb3.cell (World.block_lt_of_cell? _ _ d5)).trans d5; have e0 := (hb3.cell (World.block_lt_of_cell? _ _ d0)).trans d0; have HB3 := Lib.hid hb3; clear hb3) | (with_reducible refine (RN _).mono ?_; rintro e w4 ⟨rfl, hb4⟩; have HB4 := Lib.hid hb4; clear hb4))
    have B14 : Below w1.heap.size w1 w4 := HB3.out.trans (HB4.out.mono HB3.out.size)
    have hk1 := HK.out.2.2.2.1
    have hk4 := (B14.block gs (lt_of_block hk1)).trans hk1
    clear e0 e4 e5 d0 d1 d2 d3 d4 d5 RC RN
    obtain ⟨⟨d0, d1, d2, d3, d4, d5⟩, -⟩ := st_facts hk4
    have NM := Name_ok name hnm w4
    have HB14 := Lib.hid (And.intro B14 hk4)
    go_upto_region 12 with fail
    clear B14 hk1
    repeat (first | go_values | go_skip | go_guarded | go_step | go_upon)
    (go_at_call 64; refine NM.mono ?_; rintro e w5 ⟨rfl, hb5⟩; have hk5 := (hb5.block gs (lt_of_block hk4)).trans hk4; obtain ⟨⟨d0, d1, d2, d3, d4, d5⟩, -⟩ := st_facts hk5; have HB5 := Lib.hid (And.intro hb5 hk5); clear hb5 hk5; dsimp only)
    iterate 36 (first | go_values | go_skip | go_guarded | go_step | go_upon)
    rename_i hX
    refine WL.enter hX ?_
    clear hX
    iterate 8 (refine WL.skip (by kernel_rfl) ?_; simp only [Act.put, List.setIfInBounds_toArray, List.set_cons_zero, List.set_cons_succ])
    refine WL.mk ?_
    repeat (first | go_values | go_skip | go_guarded | go_step | go_upon)
    clear hk4 NM
    have BW5 : Below w1.heap.size w1 w5 := HB14.out.1.trans (HB5.out.1.mono HB14.out.1.size)
    have hk5 : w5.heap[gs]? = _ := HB5.out.2
    obtain ⟨W5, eW5⟩ : ∃ W5, W5 = w5 := ⟨_, rfl⟩
    rw [← eW5] at BW5 hk5 ⊢
    have HW5 := Lib.hid (And.intro BW5 hk5)
    clear BW5 hk5 d0 d1 d2 d3 d4 d5 eW5
    go_loopg [8] 1 (fun gh iv wr => ∃ k : Nat, iv = .int .i64 (k : Nat) ∧ gh + k = 1 ∧ Below W5.heap.size W5 wr)
    case atStart => exact ⟨0, rfl, rfl, Below.refl _ _⟩
    case round =>
    obtain ⟨k, rfl, hk, hbr⟩ := hrel
    obtain ⟨W6, eW6⟩ : ∃ W6, W6 = wr := ⟨_, rfl⟩
    rw [← eW6] at hbr ⊢
    clear eW6
    have hk6 := (hbr.block gs (lt_of_block HW5.out.2)).trans HW5.out.2
    obtain ⟨⟨d0, d1, d2, d3, d4, d5⟩, -⟩ := st_facts hk6
    have B16 : Below w1.heap.size w1 W6 := HW5.out.1.trans (hbr.mono HW5.out.1.size)
    have bw6 : Below w.heap.size w W6 := HK.out.2.2.1.trans (B16.mono HK.out.2.2.1.size)
    rcases gk with _ | gi
    · obtain rfl : k = 1 := by omega
      have HB := Lib.hid bw6
      clear hbr bw6 hk hk6 B16
      go_wp2_with fail
      go_roundg go
      case measure => omega
      case rel => exact ⟨j + 1, by go_num, by have := HK.out.1; omega, by rw [H.out.2.1]; exact HB.out⟩
    · obtain ⟨b', o, nn, s', A', mm, c, eA, ⟨x0, x1, x2, x3⟩, FC⟩ := HK.out.2.2.2.2.1 k (by omega)
      subst eA
      have FCx := FC W6 bw6
      have x0 := (bw6.cell (World.block_lt_of_cell? _ _ x0)).trans x0
      have x1 := (bw6.cell (World.block_lt_of_cell? _ _ x1)).trans x1
      have x2 := (bw6.cell (World.block_lt_of_cell? _ _ x2)).trans x2
      have x3 := (bw6.cell (World.block_lt_of_cell? _ _ x3)).trans x3
      have hbl := World.block_lt_of_cell? W6 _ x0
      have k0 : (0 : Int) ≤ (k : Int) := by omega
      have k1 : (k : Int) < (1 : Int) := by omega
      have w2' : wrap64 ((k : Int) + 1) = (k : Int) + 1 := by unfold wrap64; omega
      have HK2 := Lib.hid (And.intro hk hbr)
      clear hk hbr bw6 FC hk6 B16
      go_wp2_with (go_at_call 99; refine FCx.mono ?_; rintro e w7 ⟨rfl, hb7⟩; have HB7 := Lib.hid hb7; clear hb7)
      go_roundg gi
      case measure => omega
      case rel => exact ⟨k + 1, by go_num, by have := HK2.out.1; omega, HK2.out.2.trans (HB7.out.mono HK2.out.2.size)⟩
  · as_aux_lemma =>
    have RN := fun W => right_nil none 0 (D - 1) W
    go_upto_region 7 with (go_at_call 65; first | (with_reducible refine RC.mono ?_; rintro e w3 ⟨rfl, hb3⟩; have e4 := (hb3.cell (World.block_lt_of_cell? _ _ d4)).trans d4; have e5 := (hb3.cell (World.block_lt_of_cell? _ _ d5)).trans d5; have e0 := (hb3.cell (World.block_lt_of_cell? _ _ d0)).trans d0; have HB3 := Lib.hid hb3; clear hb3) | (with_reducible refine (RN _).mono ?_; rintro e w4 ⟨rfl, hb4⟩; have HB4 := Lib.hid hb4; clear hb4))
    have B14 : Below w1.heap.size w1 w4 := HB3.out.trans (HB4.out.mono HB3.out.size)
    have hk1 := HK.out.2.2.2.1
    have hk4 := (B14.block gs (lt_of_block hk1)).trans hk1
    clear e0 e4 e5 d0 d1 d2 d3 d4 d5 RC RN
    obtain ⟨⟨d0, d1, d2, d3, d4, d5⟩, -⟩ := st_facts hk4
    have HB14 := Lib.hid (And.intro B14 hk4)
    go_upto_region 12 with fail
    clear B14 hk1 hk4
    go_wp2_with fail
    have BW5 : Below w1.heap.size w1 w4 := HB14.out.1
    have hk5 : w4.heap[gs]? = _ := HB14.out.2
    obtain ⟨W5, eW5⟩ : ∃ W5, W5 = w4 := ⟨_, rfl⟩
    rw [← eW5] at BW5 hk5 ⊢
    have HW5 := Lib.hid (And.intro BW5 hk5)
    clear BW5 hk5 d0 d1 d2 d3 d4 d5 eW5
    go_loopg [8] 2 (fun gh iv wr => ∃ k : Nat, iv = .int .i64 (k : Nat) ∧ gh + k = 2 ∧ Below W5.heap.size W5 wr)
    case atStart => exact ⟨0, rfl, rfl, Below.refl _ _⟩
    case round =>
    obtain ⟨k, rfl, hk, hbr⟩ := hrel
    obtain ⟨W6, eW6⟩ : ∃ W6, W6 = wr := ⟨_, rfl⟩
    rw [← eW6] at hbr ⊢
    clear eW6
    have hk6 := (hbr.block gs (lt_of_block HW5.out.2)).trans HW5.out.2
    obtain ⟨⟨d0, d1, d2, d3, d4, d5⟩, -⟩ := st_facts hk6
    have B16 : Below w1.heap.size w1 W6 := HW5.out.1.trans (hbr.mono HW5.out.1.size)
    have bw6 : Below w.heap.size w W6 := HK.out.2.2.1.trans (B16.mono HK.out.2.2.1.size)
    rcases gk with _ | gi
    · obtain rfl : k = 2 := by omega
      have HB := Lib.hid bw6
      clear hbr bw6 hk hk6 B16
      go_wp2_with fail
      go_roundg go
      case measure => omega
      case rel => exact ⟨j + 1, by go_num, by have := HK.out.1; omega, by rw [H.out.2.1]; exact HB.out⟩
    · obtain ⟨b', o, nn, s', A', mm, c, eA, ⟨x0, x1, x2, x3⟩, FC⟩ := HK.out.2.2.2.2.1 k (by omega)
      subst eA
      have FCx := FC W6 bw6
      have x0 := (bw6.cell (World.block_lt_of_cell? _ _ x0)).trans x0
      have x1 := (bw6.cell (World.block_lt_of_cell? _ _ x1)).trans x1
      have x2 := (bw6.cell (World.block_lt_of_cell? _ _ x2)).trans x2
      have x3 := (bw6.cell (World.block_lt_of_cell? _ _ x3)).trans x3
      have hbl := World.block_lt_of_cell? W6 _ x0
      have k0 : (0 : Int) ≤ (k : Int) := by omega
      have k1 : (k : Int) < (2 : Int) := by omega
      have w2' : wrap64 ((k : Int) + 1) = (k : Int) + 1 := by unfold wrap64; omega
      have HK2 := Lib.hid (And.intro hk hbr)
      clear hk hbr bw6 FC hk6 B16
      go_wp2_with (go_at_call 99; refine FCx.mono ?_; rintro e w7 ⟨rfl, hb7⟩; have HB7 := Lib.hid hb7; clear hb7)
      go_roundg gi
      case measure => omega
      case rel => exact ⟨k + 1, by go_num, by have := HK2.out.1; omega, HK2.out.2.trans (HB7.out.mono HK2.out.2.size)⟩
  · rcases Nat.eq_zero_or_pos bn with rfl | hbp
    · as_aux_lemma =>
      have RN := fun W => right_nil none 0 (D - 1) W
      go_upto_region 7 with (go_at_call 65; first | (with_reducible refine RC.mono ?_; rintro e w3 ⟨rfl, hb3⟩; have e4 := (hb3.cell (World.block_lt_of_cell? _ _ d4)).trans d4; have e5 := (hb3.cell (World.block_lt_of_cell? _ _ d5)).trans d5; have e0 := (hb3.cell (World.block_lt_of_cell? _ _ d0)).trans d0; have HB3 := Lib.hid hb3; clear hb3) | (with_reducible refine (RN _).mono ?_; rintro e w4 ⟨rfl, hb4⟩; have HB4 := Lib.hid hb4; clear hb4))
      have B14 : Below w1.heap.size w1 w4 := HB3.out.trans (HB4.out.mono HB3.out.size)
      have hk1 := HK.out.2.2.2.1
      have hk4 := (B14.block gs (lt_of_block hk1)).trans hk1
      clear e0 e4 e5 d0 d1 d2 d3 d4 d5 RC RN
      obtain ⟨⟨d0, d1, d2, d3, d4, d5⟩, -⟩ := st_facts hk4
      have HB14 := Lib.hid (And.intro B14 hk4)
      go_upto_region 12 with fail
      clear B14 hk1 hk4
      iterate 62 (first | go_values | go_skip | go_guarded | go_step | go_upon)
      rename_i hX
      refine WL.enter hX ?_
      clear hX
      iterate 8 (refine WL.skip (by kernel_rfl) ?_; simp only [Act.put, List.setIfInBounds_toArray, List.set_cons_zero, List.set_cons_succ])
      refine WL.mk ?_
      repeat (first | go_values | go_skip | go_guarded | go_step | go_upon)
      have BW5 : Below w1.heap.size w1 w4 := HB14.out.1
      have hk5 : w4.heap[gs]? = _ := HB14.out.2
      obtain ⟨W5, eW5⟩ : ∃ W5, W5 = w4 := ⟨_, rfl⟩
      rw [← eW5] at BW5 hk5 ⊢
      have HW5 := Lib.hid (And.intro BW5 hk5)
      clear BW5 hk5 d0 d1 d2 d3 d4 d5 eW5
      go_loopg [8] 1 (fun gh iv wr => ∃ k : Nat, iv = .int .i64 (k : Nat) ∧ gh + k = 1 ∧ Below W5.heap.size W5 wr)
      case atStart => exact ⟨0, rfl, rfl, Below.refl _ _⟩
      case round =>
      obtain ⟨k, rfl, hk, hbr⟩ := hrel
      obtain ⟨W6, eW6⟩ : ∃ W6, W6 = wr := ⟨_, rfl⟩
      rw [← eW6] at hbr ⊢
      clear eW6
      have hk6 := (hbr.block gs (lt_of_block HW5.out.2)).trans HW5.out.2
      obtain ⟨⟨d0, d1, d2, d3, d4, d5⟩, -⟩ := st_facts hk6
      have B16 : Below w1.heap.size w1 W6 := HW5.out.1.trans (hbr.mono HW5.out.1.size)
      have bw6 : Below w.heap.size w W6 := HK.out.2.2.1.trans (B16.mono HK.out.2.2.1.size)
      rcases gk with _ | gi
      · obtain rfl : k = 1 := by omega
        have HB := Lib.hid bw6
        clear hbr bw6 hk hk6 B16
        go_wp2_with fail
        go_roundg go
        case measure => omega
        case rel => exact ⟨j + 1, by go_num, by have := HK.out.1; omega, by rw [H.out.2.1]; exact HB.out⟩
      · obtain ⟨b', o, nn, s', A', mm, c, eA, ⟨x0, x1, x2, x3⟩, FC⟩ := HK.out.2.2.2.2.1 k (by omega)
        subst eA
        have FCx := FC W6 bw6
        have x0 := (bw6.cell (World.block_lt_of_cell? _ _ x0)).trans x0
        have x1 := (bw6.cell (World.block_lt_of_cell? _ _ x1)).trans x1
        have x2 := (bw6.cell (World.block_lt_of_cell? _ _ x2)).trans x2
        have x3 := (bw6.cell (World.block_lt_of_cell? _ _ x3)).trans x3
        have hbl := World.block_lt_of_cell? W6 _ x0
        have k0 : (0 : Int) ≤ (k : Int) := by omega
        have k1 : (k : Int) < (1 : Int) := by omega
        have w2' : wrap64 ((k : Int) + 1) = (k : Int) + 1 := by unfold wrap64; omega
        have HK2 := Lib.hid (And.intro hk hbr)
        clear hk hbr bw6 FC hk6 B16
        go_wp2_with (go_at_call 99; refine FCx.mono ?_; rintro e w7 ⟨rfl, hb7⟩; have HB7 := Lib.hid hb7; clear hb7)
        go_roundg gi
        case measure => omega
        case rel => exact ⟨k + 1, by go_num, by have := HK2.out.1; omega, HK2.out.2.trans (HB7.out.mono HK2.out.2.size)⟩
    · as_aux_lemma =>
      have hb1 : (0 : Int) < (bn : Int) := by omega
      have hb2 : decide ((0 : Int) < (bn : Int)) = true := decide_eq_true hb1
      have RN := fun W => right_nil none 0 (D - 1) W
      go_upto_region 7 with (go_at_call 65; first | (with_reducible refine RC.mono ?_; rintro e w3 ⟨rfl, hb3⟩; have e4 := (hb3.cell (World.block_lt_of_cell? _ _ d4)).trans d4; have e5 := (hb3.cell (World.block_lt_of_cell? _ _ d5)).trans d5; have e0 := (hb3.cell (World.block_lt_of_cell? _ _ d0)).trans d0; have HB3 := Lib.hid hb3; clear hb3) | (with_reducible refine (RN _).mono ?_; rintro e w4 ⟨rfl, hb4⟩; have HB4 := Lib.hid hb4; clear hb4))
      have B14 : Below w1.heap.size w1 w4 := HB3.out.trans (HB4.out.mono HB3.out.size)
      have hk1 := HK.out.2.2.2.1
      have hk4 := (B14.block gs (lt_of_block hk1)).trans hk1
      clear e0 e4 e5 d0 d1 d2 d3 d4 d5 RC RN
      obtain ⟨⟨d0, d1, d2, d3, d4, d5⟩, -⟩ := st_facts hk4
      have HB14 := Lib.hid (And.intro B14 hk4)
      go_upto_region 12 with fail
      clear B14 hk1 hk4
      iterate 62 (first | go_values | go_skip | go_guarded | go_step | go_upon)
      rename_i hX
      refine WL.enter hX ?_
      clear hX
      iterate 8 (refine WL.skip (by kernel_rfl) ?_; simp only [Act.put, List.setIfInBounds_toArray, List.set_cons_zero, List.set_cons_succ])
      refine WL.mk ?_
      repeat (first | go_values | go_skip | go_guarded | go_step | go_upon)
      have BW5 : Below w1.heap.size w1 w4 := HB14.out.1
      have hk5 : w4.heap[gs]? = _ := HB14.out.2
      obtain ⟨W5, eW5⟩ : ∃ W5, W5 = w4 := ⟨_, rfl⟩
      rw [← eW5] at BW5 hk5 ⊢
      have HW5 := Lib.hid (And.intro BW5 hk5)
      clear BW5 hk5 d0 d1 d2 d3 d4 d5 eW5
      go_loopg [8] 1 (fun gh iv wr => ∃ k : Nat, iv = .int .i64 (k : Nat) ∧ gh + k = 1 ∧ Below W5.heap.size W5 wr)
      case atStart => exact ⟨0, rfl, rfl, Below.refl _ _⟩
      case round =>
      obtain ⟨k, rfl, hk, hbr⟩ := hrel
      obtain ⟨W6, eW6⟩ : ∃ W6, W6 = wr := ⟨_, rfl⟩
      rw [← eW6] at hbr ⊢
      clear eW6
      have hk6 := (hbr.block gs (lt_of_block HW5.out.2)).trans HW5.out.2
      obtain ⟨⟨d0, d1, d2, d3, d4, d5⟩, -⟩ := st_facts hk6
      have B16 : Below w1.heap.size w1 W6 := HW5.out.1.trans (hbr.mono HW5.out.1.size)
      have bw6 : Below w.heap.size w W6 := HK.out.2.2.1.trans (B16.mono HK.out.2.2.1.size)
      rcases gk with _ | gi
      · obtain rfl : k = 1 := by omega
        have HB := Lib.hid bw6
        clear hbr bw6 hk hk6 B16
        go_wp2_with fail
        go_roundg go
        case measure => omega
        case rel => exact ⟨j + 1, by go_num, by have := HK.out.1; omega, by rw [H.out.2.1]; exact HB.out⟩
      · obtain ⟨b', o, nn, s', A', mm, c, eA, ⟨x0, x1, x2, x3⟩, FC⟩ := HK.out.2.2.2.2.1 k (by omega)
        subst eA
        have FCx := FC W6 bw6
        have x0 := (bw6.cell (World.block_lt_of_cell? _ _ x0)).trans x0
        have x1 := (bw6.cell (World.block_lt_of_cell? _ _ x1)).trans x1
        have x2 := (bw6.cell (World.block_lt_of_cell? _ _ x2)).trans x2
        have x3 := (bw6.cell (World.block_lt_of_cell? _ _ x3)).trans x3
        have hbl := World.block_lt_of_cell? W6 _ x0
        have k0 : (0 : Int) ≤ (k : Int) := by omega
        have k1 : (k : Int) < (1 : Int) := by omega
        have w2' : wrap64 ((k : Int) + 1) = (k : Int) + 1 := by unfold wrap64; omega
        have HK2 := Lib.hid (And.intro hk hbr)
        clear hk hbr bw6 FC hk6 B16
        go_wp2_with (go_at_call 99; refine FCx.mono ?_; rintro e w7 ⟨rfl, hb7⟩; have HB7 := Lib.hid hb7; clear hb7)
        go_roundg gi
        case measure => omega
        case rel => exact ⟨k + 1, by go_num, by have := HK2.out.1; omega, HK2.out.2.trans (HB7.out.mono HK2.out.2.size)⟩
  · as_aux_lemma =>
    have RN := fun W => right_nil none 0 (D - 1) W
    go_upto_region 7 with (go_at_call 65; first | (with_reducible refine RC.mono ?_; rintro e w3 ⟨rfl, hb3⟩; have e4 := (hb3.cell (World.block_lt_of_cell? _ _ d4)).trans d4; have e5 := (hb3.cell (World.block_lt_of_cell? _ _ d5)).trans d5; have e0 := (hb3.cell (World.block_lt_of_cell? _ _ d0)).trans d0; have HB3 := Lib.hid hb3; clear hb3) | (with_reducible refine (RN _).mono ?_; rintro e w4 ⟨rfl, hb4⟩; have HB4 := Lib.hid hb4; clear hb4))
    have B14 : Below w1.heap.size w1 w4 := HB3.out.trans (HB4.out.mono HB3.out.size)
    have hk1 := HK.out.2.2.2.1
    have hk4 := (B14.block gs (lt_of_block hk1)).trans hk1
    clear e0 e4 e5 d0 d1 d2 d3 d4 d5 RC RN
    obtain ⟨⟨d0, d1, d2, d3, d4, d5⟩, -⟩ := st_facts hk4
    have HB14 := Lib.hid (And.intro B14 hk4)
    go_upto_region 12 with fail
    clear B14 hk1 hk4
    iterate 62 (first | go_values | go_skip | go_guarded | go_step | go_upon)
    rename_i hX
    refine WL.enter hX ?_
    clear hX
    iterate 8 (refine WL.skip (by kernel_rfl) ?_; simp only [Act.put, List.setIfInBounds_toArray, List.set_cons_zero, List.set_cons_succ])
    refine WL.mk ?_
    repeat (first | go_values | go_skip | go_guarded | go_step | go_upon)
    have BW5 : Below w1.heap.size w1 w4 := HB14.out.1
    have hk5 : w4.heap[gs]? = _ := HB14.out.2
    obtain ⟨W5, eW5⟩ : ∃ W5, W5 = w4 := ⟨_, rfl⟩
    rw [← eW5] at BW5 hk5 ⊢
    have HW5 := Lib.hid (And.intro BW5 hk5)
    clear BW5 hk5 d0 d1 d2 d3 d4 d5 eW5
    go_loopg [8] 0 (fun gh iv wr => ∃ k : Nat, iv = .int .i64 (k : Nat) ∧ gh + k = 0 ∧ Below W5.heap.size W5 wr)
    case atStart => exact ⟨0, rfl, rfl, Below.refl _ _⟩
    case round =>
    obtain ⟨k, rfl, hk, hbr⟩ := hrel
    obtain ⟨W6, eW6⟩ : ∃ W6, W6 = wr := ⟨_, rfl⟩
    rw [← eW6] at hbr ⊢
    clear eW6
    have hk6 := (hbr.block gs (lt_of_block HW5.out.2)).trans HW5.out.2
    obtain ⟨⟨d0, d1, d2, d3, d4, d5⟩, -⟩ := st_facts hk6
    have B16 : Below w1.heap.size w1 W6 := HW5.out.1.trans (hbr.mono HW5.out.1.size)
    have bw6 : Below w.heap.size w W6 := HK.out.2.2.1.trans (B16.mono HK.out.2.2.1.size)
    rcases gk with _ | gi
    · obtain rfl : k = 0 := by omega
      have HB := Lib.hid bw6
      clear hbr bw6 hk hk6 B16
      go_wp2_with fail
      go_roundg go
      case measure => omega
      case rel => exact ⟨j + 1, by go_num, by have := HK.out.1; omega, by rw [H.out.2.1]; exact HB.out⟩
    · omega
end
end Go.Proofs.YtocbddajakbemaaGreat
namespace Go.Proofs.YtocbddajakbemaaGreat
section
open Go.RowKit
theorem rt_si {w : World} {b o cp bb : Nat} {s : S1} {A BB : Option Addr} (D : Int) (h : StC w b o (.si s) A cp BB bb) (hx : ExAt w (fun q => q < w.heap.size) s.args A cp) (hg : goodM (.si s) = true) :
    RtSt w b o s.op s.num s.name A s.args.many cp BB 0 bb D := by
  refine ⟨⟨h.c0, h.c1, h.c2, h.c3, h.c4, h.c5⟩, ?_, fun W hW => right_nil BB bb _ W, ?_⟩
  · rcases s with ⟨op, nm, x⟩ | ⟨n, i, x⟩ | ⟨op⟩
    · simp only [goodM, Bool.and_eq_true] at hg
      exact fa_u hx hg.2
    · simp only [goodM, Bool.and_eq_true] at hg
      exact fa_b hx hg.1.2 hg.2
    · exact fa_0 w A
  · rcases s with ⟨op, nm, x⟩ | ⟨n, i, x⟩ | ⟨op⟩
    · simp only [goodM, Bool.and_eq_true, Bool.or_eq_true, beq_iff_eq] at hg
      exact Or.inl ⟨hg.1.1, rfl, hg.1.2, rfl, rfl⟩
    · simp only [goodM, Bool.and_eq_true, decide_eq_true_eq] at hg
      exact Or.inr (Or.inl ⟨rfl, by simp [S1.num]; omega, by simp [S1.num]; omega, rfl, rfl, rfl⟩)
    · simp only [goodM, beq_iff_eq] at hg
      subst hg
      exact Or.inr (Or.inr (Or.inr ⟨rfl, rfl, rfl, rfl, rfl⟩))
def goodL (l : List S2) : Bool := decide (l.length ≤ 1000) && l.all fun s => goodM s && decide (s.body.length ≤ 1000) && s.body.all fun t => goodM (.si t)
theorem Sts0.now {w : World} {ok : Nat → Prop} {l : List S1} {BA : Option Addr} (h : Sts0 w ok l BA) : Sts0 w (fun q => q < w.heap.size) l BA := by
  intro j s hj
  obtain ⟨g, A, cp, BA', bc, e, h1, h2, h3⟩ := h j s hj
  exact ⟨g, A, cp, BA', bc, e, World.block_lt_of_cell? w _ h2.c0, h2, h3.now⟩
theorem Sts.now {w : World} {ok : Nat → Prop} {l : List S2} {BA : Option Addr} (h : Sts w ok l BA) : Sts w (fun q => q < w.heap.size) l BA := by
  intro j s hj
  obtain ⟨g, A, cp, BA', bc, e, h1, h2, h3, h4⟩ := h j s hj
  exact ⟨g, A, cp, BA', bc, e, World.block_lt_of_cell? w _ h2.c0, h2, h3.now, h4.now⟩
theorem Sts0.below {w w' : World} {l : List S1} {BA : Option Addr} {B : Nat} (h : Sts0 w (fun q => q < w.heap.size) l BA) (hb : Below B w w') (hB : B = w.heap.size) : Sts0 w' (fun q => q < w'.heap.size) l BA :=
  h.step (fun q hq => hb.block q (by omega)) (fun q hq => by have := hb.size; omega)
theorem Sts.below {w w' : World} {l : List S2} {BA : Option Addr} {B : Nat} (h : Sts w (fun q => q < w.heap.size) l BA) (hb : Below B w w') (hB : B = w.heap.size) : Sts w' (fun q => q < w'.heap.size) l BA :=
  h.step (fun q hq => hb.block q (by omega)) (fun q hq => by have := hb.size; omega)
theorem right_body (l : List S1) (BA : Option Addr) (bc : Nat) (D : Int) (hd : 0 < D) (hdm : D ≤ 1000) (hl : l.length ≤ 1000) (hg : l.all (fun t => goodM (.si t)) = true) (w : World) (h : Sts0 w (fun q => q < w.heap.size) l BA) :
    Calls Tryz.prog 65 #[.slice BA l.length bc, .int .i64 D] w fun e w' => e = .returned (.bool true) ∧ Below w.heap.size w w' := by
  refine right_rows BA l.length bc D hd hdm hl w fun j hj => ?_
  obtain ⟨g, A, cp, BA', bb, e, h1, h2, h3⟩ := h j _ (List.getElem?_eq_getElem hj)
  exact ⟨g, _, _, _, A, _, cp, BA', 0, bb, e, rt_si D h2 h3 (List.all_eq_true.1 hg _ (List.getElem_mem hj))⟩
theorem Printable_ok (l : List S2) (BA : Option Addr) (bc : Nat) (hg : goodL l = true) (w : World) (h : Sts w (fun q => q < w.heap.size) l BA) :
    Calls Tryz.prog 38 #[.slice BA l.length bc] w fun e w' => e = .returned (.bool true) ∧ Below w.heap.size w w' := by
  have RT : Calls Tryz.prog 65 #[.slice BA l.length bc, .int .i64 40] w fun e w' => e = .returned (.bool true) ∧ Below w.heap.size w w' := by
    unfold goodL at hg
    simp only [Bool.and_eq_true, decide_eq_true_eq] at hg
    refine right_rows BA l.length bc 40 (by omega) (by omega) hg.1 w fun j hj => ?_
    obtain ⟨g, A, cp, BA', bb, e, h1, h2, h3, h4⟩ := h j _ (List.getElem?_eq_getElem hj)
    have hs := List.all_eq_true.1 hg.2 _ (List.getElem_mem hj)
    obtain ⟨s, es⟩ : ∃ s, s = l[j] := ⟨_, rfl⟩
    rw [← es] at h2 h3 h4 hs
    simp only [Bool.and_eq_true, decide_eq_true_eq] at hs
    rcases s with s | ⟨x, bd⟩
    · exact ⟨g, _, _, _, A, _, cp, BA', 0, bb, e, rt_si 40 h2 h3 hs.1.1⟩
    · refine ⟨g, 5, 0, ⟨#[]⟩, A, 1, cp, BA', bd.length, bb, e, ⟨⟨h2.c0, h2.c1, h2.c2, h2.c3, h2.c4, h2.c5⟩, fa_u h3 hs.1.1, fun W hW => ?_, Or.inr (Or.inr (Or.inl ⟨rfl, rfl, rfl, rfl, hs.1.2⟩))⟩⟩
      exact right_body bd BA' bb _ (by omega) (by omega) hs.1.2 hs.2 W (h4.below hW rfl)
  obtain ⟨n, en⟩ : ∃ n, n = l.length := ⟨_, rfl⟩
  rw [← en] at RT ⊢
  clear h hg en
  go_enter Tryz.func38, Tryz.ntmps38
  go_wp2_with (go_at_call 65; refine RT.mono ?_; rintro e w' ⟨rfl, hb⟩; have HB := Lib.hid hb; clear hb)
  go_ret
  exact ⟨rfl, HB.out⟩
end
end Go.Proofs.YtocbddajakbemaaGreat
