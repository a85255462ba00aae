/- vm, the front end: Fine with arguments; whole. -/
import Derived.Test.YtocbddajakbemaaGreatMN
set_option linter.unusedVariables false
set_option linter.unusedSimpArgs false
set_option linter.unusedSimpArgs false
namespace Go.Proofs.YtocbddajakbemaaGreat
section
open Go.RowKit
set_option maxRecDepth 100000 in
set_option maxHeartbeats 4000000 in
theorem fine_args (op m : Nat) (D n : Int) (hop : (op = 3 ∧ m = 1 ∧ 1 ≤ n ∧ n ≤ 10) ∨ ((op = 10 ∨ op = 13 ∨ op = 14) ∧ m = 2 ∧ n = 0)) (hd : 0 < D) (hdm : D ≤ 1000) (b cp : Nat) (w : World)
    (FA : ∀ j, j < m → ∃ (o : Nat) (nn : Int) (s : ByteArray) (A : Option Addr) (mm c : Nat), (w.cell? ⟨b, j * 4, none⟩ = some (.int .u8 (o : Nat)) ∧ w.cell? ⟨b, j * 4 + 1, none⟩ = some (.int .i64 nn) ∧ w.cell? ⟨b, j * 4 + 2, none⟩ = some (.string s) ∧ w.cell? ⟨b, j * 4 + 3, none⟩ = some (.slice A mm c)) ∧
      ∀ W, Below w.heap.size w W → Calls Tryz.prog 99 #[.agg #[.int .u8 (o : Nat), .int .i64 nn, .string s, .slice A mm c], .int .i64 (D - 1)] W fun e w' => e = .returned (.bool true) ∧ Below W.heap.size W w') :
    Calls Tryz.prog 99 #[.agg #[.int .u8 (op : Nat), .int .i64 n, .string ⟨#[]⟩, .slice (some ⟨b, 0, none⟩) m cp], .int .i64 D] w fun e w' => e = .returned (.bool true) ∧ Below w.heap.size w w' := by
  have hd' : ¬ D = 0 := by omega
  have hd2 : (D == 0) = false := by simp; omega
  have hw : wrap64 (D - 1) = D - 1 := by unfold wrap64; omega
  obtain ⟨g, eg⟩ : ∃ g, g = w.heap.size := ⟨_, rfl⟩
  obtain ⟨w1, e1, hb, hs, hk⟩ := box_new w op n ⟨#[]⟩ (some ⟨b, 0, none⟩) m cp
  rw [← eg] at hk hb FA ⊢
  obtain ⟨d0, d1, d2, d3, z0, z1, z2, z3⟩ := ex_facts hk
  have KP : ∀ W, Below w1.heap.size w1 W → Below g w W ∧ W.cell? ⟨g, 3, none⟩ = some (.slice (some ⟨b, 0, none⟩) m cp) := fun W hW =>
    ⟨hb.trans (hW.mono (by omega)), (hW.cell (World.block_lt_of_cell? _ _ d3)).trans d3⟩
  have H := Lib.hid (And.intro KP (And.intro FA (And.intro eg (And.intro hk hb))))
  clear hb hs hk hd hdm KP FA
  go_enter Tryz.func99, Tryz.ntmps99
  go_upto_region 1 with fail
  rw [← e1, ← eg]
  clear e1 eg
  have KP := H.out.1
  rcases hop with ⟨rfl, rfl, n1, n2⟩ | ⟨rfl | rfl | rfl, rfl, rfl⟩
  · as_aux_lemma =>
    go_upto_region 8 with fail
    have hun : undef = Value.tuple #[] := rfl
    have HKP := Lib.hid KP
    clear KP
    go_wp2_with fail
    clear hun d0 d1 d2 d3 z0 z1 z2 z3
    go_loopg [6] 1 (fun gh iv wr => ∃ k : Nat, iv = .int .i64 (k : Nat) ∧ gh + k = 1 ∧ Below w1.heap.size w1 wr)
    case atStart => exact ⟨0, rfl, rfl, Below.refl _ _⟩
    case round =>
    obtain ⟨k, rfl, hk, hb⟩ := hrel
    obtain ⟨W, eW⟩ : ∃ W, W = wr := ⟨_, rfl⟩
    rw [← eW] at hb ⊢
    clear eW
    obtain ⟨hbg, d3⟩ := HKP.out W hb
    rcases gk with _ | gk
    · obtain rfl : k = 1 := by omega
      have HB := Lib.hid hbg
      clear hbg hb hk
      go_wp2_with fail
      go_ret
      exact ⟨rfl, HB.out⟩
    · obtain ⟨o, nn, s, A1, mm, c, ⟨c0, c1, c2, c3⟩, FC⟩ := H.out.2.1 k (by omega)
      have bw : Below w.heap.size w W := by have := hbg; rw [H.out.2.2.1] at this; exact this
      have FCx := FC W hbg
      have c0 := (bw.cell (World.block_lt_of_cell? _ _ c0)).trans c0
      have c1 := (bw.cell (World.block_lt_of_cell? _ _ c1)).trans c1
      have c2 := (bw.cell (World.block_lt_of_cell? _ _ c2)).trans c2
      have c3 := (bw.cell (World.block_lt_of_cell? _ _ c3)).trans c3
      have hbl := World.block_lt_of_cell? W _ c0
      have i0 : (0 : Int) ≤ (k : Int) := by omega
      have i1 : (k : Int) < (1 : Int) := by omega
      have w1' : wrap64 ((k : Int) + 1) = (k : Int) + 1 := by unfold wrap64; omega
      have HK := Lib.hid (And.intro hk hb)
      clear hk hb hbg bw FC
      go_wp2_with (go_at_call 99; refine FCx.mono ?_; rintro e w3 ⟨rfl, hb3⟩; have HB3 := Lib.hid hb3; clear hb3)
      go_roundg gk
      case measure => omega
      case rel => exact ⟨k + 1, by go_num, by have := HK.out.1; omega, HK.out.2.trans (HB3.out.mono HK.out.2.size)⟩
  all_goals (
    as_aux_lemma =>
    go_upto_region 8 with fail
    have hun : undef = Value.tuple #[] := rfl
    have HKP := Lib.hid KP
    clear KP
    go_wp2_with fail
    clear hun d0 d1 d2 d3 z0 z1 z2 z3
    go_loopg [6] 2 (fun gh iv wr => ∃ k : Nat, iv = .int .i64 (k : Nat) ∧ gh + k = 2 ∧ Below w1.heap.size w1 wr)
    case atStart => exact ⟨0, rfl, rfl, Below.refl _ _⟩
    case round =>
    obtain ⟨k, rfl, hk, hb⟩ := hrel
    obtain ⟨W, eW⟩ : ∃ W, W = wr := ⟨_, rfl⟩
    rw [← eW] at hb ⊢
    clear eW
    obtain ⟨hbg, d3⟩ := HKP.out W hb
    rcases gk with _ | gk
    · obtain rfl : k = 2 := by omega
      have HB := Lib.hid hbg
      clear hbg hb hk
      go_wp2_with fail
      go_ret
      exact ⟨rfl, HB.out⟩
    · obtain ⟨o, nn, s, A1, mm, c, ⟨c0, c1, c2, c3⟩, FC⟩ := H.out.2.1 k (by omega)
      have bw : Below w.heap.size w W := by have := hbg; rw [H.out.2.2.1] at this; exact this
      have FCx := FC W hbg
      have c0 := (bw.cell (World.block_lt_of_cell? _ _ c0)).trans c0
      have c1 := (bw.cell (World.block_lt_of_cell? _ _ c1)).trans c1
      have c2 := (bw.cell (World.block_lt_of_cell? _ _ c2)).trans c2
      have c3 := (bw.cell (World.block_lt_of_cell? _ _ c3)).trans c3
      have hbl := World.block_lt_of_cell? W _ c0
      have i0 : (0 : Int) ≤ (k : Int) := by omega
      have i1 : (k : Int) < (2 : Int) := by omega
      have w1' : wrap64 ((k : Int) + 1) = (k : Int) + 1 := by unfold wrap64; omega
      have HK := Lib.hid (And.intro hk hb)
      clear hk hb hbg bw FC
      go_wp2_with (go_at_call 99; refine FCx.mono ?_; rintro e w3 ⟨rfl, hb3⟩; have HB3 := Lib.hid hb3; clear hb3)
      go_roundg gk
      case measure => omega
      case rel => exact ⟨k + 1, by go_num, by have := HK.out.1; omega, HK.out.2.trans (HB3.out.mono HK.out.2.size)⟩)
theorem Fine_ok : ∀ (d : Nat) (x : Ex), fineM d x = true → d ≤ 1000 → ∀ (w : World) (A : Option Addr) (cp : Nat), ExAt w (fun q => q < w.heap.size) x A cp →
    Calls Tryz.prog 99 #[.agg #[.int .u8 (x.op : Nat), .int .i64 x.num, .string x.name, .slice A x.many cp], .int .i64 (d : Nat)] w fun e w' => e = .returned (.bool true) ∧ Below w.heap.size w w' := by
  intro d
  induction d with
  | zero => intro x h; rw [fineM] at h; cases h
  | succ d ih =>
    intro x h hd w A cp hx
    have hD : ((d + 1 : Nat) : Int) - 1 = (d : Nat) := by omega
    rcases x with ⟨op, n, s⟩ | ⟨op, n, x⟩ | ⟨op, x, y⟩
    · obtain ⟨rfl, rfl⟩ := hx
      rw [fineM] at h
      simp only [Bool.or_eq_true, Bool.and_eq_true, beq_iff_eq, decide_eq_true_eq] at h
      have he : s.size = 0 → s = ⟨#[]⟩ := fun h => ByteArray.ext (Array.eq_empty_of_size_eq_zero h)
      rcases h with (⟨⟨rfl, hn⟩, hs⟩ | ⟨⟨rfl, rfl⟩, hn⟩) | ⟨⟨rfl, rfl⟩, hs⟩
      · rw [he hs]
        exact fine_1 _ n (by omega) hn w
      · exact fine_2 _ s (by omega) hn w
      · rw [he hs]
        exact fine_5 _ (by omega) w
    · obtain ⟨b, A1, c1, rfl, -, hc, hx⟩ := hx
      rw [fineM] at h
      simp only [Bool.and_eq_true, beq_iff_eq, decide_eq_true_eq] at h
      obtain ⟨⟨⟨rfl, h1⟩, h10⟩, hf⟩ := h
      refine fine_args 3 1 _ n (Or.inl ⟨rfl, rfl, h1, h10⟩) (by omega) (by omega) b cp w fun j hj => ?_
      obtain rfl : j = 0 := by omega
      refine ⟨x.op, x.num, x.name, A1, x.many, c1, ⟨by rw [Nat.zero_mul]; exact hc.c0, by rw [Nat.zero_mul]; exact hc.c1, by rw [Nat.zero_mul]; exact hc.c2, by rw [Nat.zero_mul]; exact hc.c3⟩, fun W hW => ?_⟩
      rw [hD]
      exact ih x hf (by omega) W A1 c1 (hx.below hW rfl)
    · obtain ⟨b, A1, c1, A2, c2, rfl, -, hc, hd', hx, hy⟩ := hx
      rw [fineM] at h
      simp only [Bool.and_eq_true, Bool.or_eq_true, beq_iff_eq] at h
      obtain ⟨⟨ho, hfx⟩, hfy⟩ := h
      refine fine_args op 2 _ 0 (Or.inr ⟨by omega, rfl, rfl⟩) (by omega) (by omega) b cp w fun j hj => ?_
      rcases (show j = 0 ∨ j = 1 by omega) with rfl | rfl
      · refine ⟨x.op, x.num, x.name, A1, x.many, c1, ⟨by rw [Nat.zero_mul]; exact hc.c0, by rw [Nat.zero_mul]; exact hc.c1, by rw [Nat.zero_mul]; exact hc.c2, by rw [Nat.zero_mul]; exact hc.c3⟩, fun W hW => ?_⟩
        rw [hD]
        exact ih x hfx (by omega) W A1 c1 (hx.below hW rfl)
      · refine ⟨y.op, y.num, y.name, A2, y.many, c2, ⟨hd'.c0, hd'.c1, hd'.c2, hd'.c3⟩, fun W hW => ?_⟩
        rw [hD]
        exact ih y hfy (by omega) W A2 c2 (hy.below hW rfl)
end
end Go.Proofs.YtocbddajakbemaaGreat
