/- vm, the program's own front end: fine. -/
import Derived.Test.YtocbddajakbemaaGreatNA
import Derived.Test.YtocbddajakbemaaGreatML
import Derived.Deep.RegionHeld3
import Derived.BigQuiet
set_option linter.unusedVariables false
set_option linter.unusedSimpArgs false
set_option linter.unusedSimpArgs false
namespace Go.Proofs.YtocbddajakbemaaGreat
section
open Go.RowKit
def FineC (D : Nat) : Prop := ∀ (x : E0) (A : Option Addr) (c : Nat) (w : World), ELim x → EsAt w D A x.args →
  Calls Tryz.prog 113 #[x.agg A c, .int .i64 (D : Nat)] w fun e w' => e = .returned (.bool (fineB D x)) ∧ Below w.heap.size w w'
set_option maxRecDepth 100000 in
theorem fine1_ok (D : Nat) (hD : D ≤ 1000) (IH : FineC D) (x : E0) (A : Option Addr) (c pb : Nat) (w : World) (hx : ELim x) (h : EsAt w D A x.args) (hp : w.cell? ⟨pb, 0, none⟩ = some (.int .i64 ((D + 1 : Nat) : Int))) :
    Calls Tryz.prog 127 #[x.agg A c, .pointer (some ⟨pb, 0, none⟩)] w fun e w' => e = .returned (.bool (!(fineB D x))) ∧ Below w.heap.size w w' := by
  obtain ⟨op, n, nm, args⟩ := x
  obtain ⟨w1, e1⟩ : ∃ w1, w1 = w.alloc (.cells #[.int .u8 (op : Nat), .int .i64 n, .string nm, .slice A args.length c] 34 (0, 0)) := ⟨_, rfl⟩
  obtain ⟨g, eg⟩ : ∃ g, g = w.heap.size := ⟨_, rfl⟩
  have hb : Below w.heap.size w w1 := by rw [e1]; exact (Below.refl _ w).alloc (Nat.le_refl _) _
  have hk : w1.heap[g]? = some (.cells #[.int .u8 (op : Nat), .int .i64 n, .string nm, .slice A args.length c] 34 (0, 0)) := by rw [e1, eg]; exact heap_alloc_new w _
  have hp1 : w1.cell? ⟨pb, 0, none⟩ = some (.int .i64 ((D + 1 : Nat) : Int)) := (hb.cell (World.block_lt_of_cell? w _ hp)).trans hp
  have F := IH (.mk op n nm args) A c w1 hx (h.below hb)
  have u : wrap64 (((D + 1 : Nat) : Int) - 1) = (D : Nat) := by unfold wrap64; omega
  obtain ⟨f0, f1, f2, f3, -⟩ := ex_facts hk
  obtain ⟨R, eR⟩ : ∃ R, R = fineB D (.mk op n nm args) := ⟨_, rfl⟩
  rw [← eR] at F ⊢
  obtain ⟨K, eK⟩ : ∃ K : Int, K = ((D + 1 : Nat) : Int) := ⟨_, rfl⟩
  rw [← eK] at hp1 u
  obtain ⟨m, em⟩ : ∃ m, m = args.length := ⟨_, rfl⟩
  show Calls Tryz.prog 127 #[.agg #[.int .u8 (op : Nat), .int .i64 n, .string nm, .slice A args.length c], .pointer (some ⟨pb, 0, none⟩)] w _
  have F : Calls Tryz.prog 113 #[.agg #[.int .u8 (op : Nat), .int .i64 n, .string nm, .slice A args.length c], .int .i64 (D : Nat)] w1 fun e w' => e = .returned (.bool R) ∧ Below w1.heap.size w1 w' := F
  rw [← em] at F f3 e1 ⊢
  have HB := Lib.hid hb
  clear hb hk eR eK em hx h hp IH hD
  go_enter Tryz.func127, Tryz.ntmps127
  go_upto_region 1 with fail
  rw [← e1, ← eg]
  clear e1 eg
  go_wp2_with (go_at_call 113; refine F.mono ?_; rintro e w2 ⟨rfl, hb2⟩; have H2 := Lib.hid hb2; clear hb2)
  go_ret
  exact ⟨rfl, HB.out.trans (H2.out.mono HB.out.size)⟩
set_option maxRecDepth 100000 in
theorem indexE1_ok (D : Nat) (hD : D ≤ 1000) (IH : FineC D) (A : Option Addr) (n cap : Nat) (l : List E0) (pb : Nat) (w : World) (hn : n = l.length) (hl : n ≤ 1000000) (h : EsAt w (D + 1) A l) (hp : w.cell? ⟨pb, 0, none⟩ = some (.int .i64 ((D + 1 : Nat) : Int))) :
    Calls Tryz.prog 125 #[.slice A n cap, .func (.func 127) #[] #[.pointer (some ⟨pb, 0, none⟩)]] w fun e w' => ∃ k, e = .returned (.int .i64 k) ∧ decide (0 ≤ k) = l.any (fun y => !(fineB D y)) ∧ Below w.heap.size w w' := by
  have H := Lib.hid (And.intro hn (And.intro hl (And.intro h (And.intro hp (And.intro hD IH)))))
  clear hn hl h hp hD IH
  go_enter Tryz.func125, Tryz.ntmps125
  go_wp2_with fail
  go_loopg [8] n (fun gh iv wr => ∃ j : Nat, gh + j = n ∧ (∀ i y, i < j → l[i]? = some y → fineB D y = true) ∧ iv = .int .i64 (j : Nat) ∧ Below w.heap.size w wr)
  case atStart => exact ⟨0, rfl, fun i y h => by omega, rfl, Below.refl _ _⟩
  case round =>
    obtain ⟨j, hg, hall, rfl, hW⟩ := hrel
    obtain ⟨W, eW⟩ : ∃ W, W = wr := ⟨_, rfl⟩
    rw [← eW] at hW ⊢
    clear eW
    obtain ⟨hn, hl, hrow, hp, hD, IH⟩ := H.out
    by_cases hlt : j < n
    · obtain ⟨x, hx⟩ : ∃ x, l[j]? = some x := ⟨_, List.getElem?_eq_getElem (by omega)⟩
      obtain ⟨b, o, A', c', rfl, hc, hd⟩ := hrow j x hx
      have hc := hc.below hW
      have hpW := (hW.cell (World.block_lt_of_cell? w _ hp)).trans hp
      have F := fine1_ok D hD IH x A' c' pb W hc.lim (hd.below hW) hpW
      obtain ⟨c0, c1, c2, c3, -, -⟩ := hc
      have i0 : (0 : Int) ≤ (j : Int) := by omega
      have i1 : (j : Int) < (n : Int) := by omega
      have i2 : decide (j < n) = true := decide_eq_true hlt
      have w2 : wrap64 ((j : Int) + 1) = (j : Int) + 1 := by unfold wrap64; omega
      have F : Calls Tryz.prog 127 #[.agg #[.int .u8 (x.op : Nat), .int .i64 x.n, .string x.nm, .slice A' x.args.length c'], .pointer (some ⟨pb, 0, none⟩)] W fun e w' => e = .returned (.bool (!(fineB D x))) ∧ Below W.heap.size W w' := F
      obtain ⟨R, eR⟩ : ∃ R, R = fineB D x := ⟨_, rfl⟩
      rw [← eR] at F
      have HX := Lib.hid (And.intro hx (And.intro hlt (And.intro hg (And.intro hall (And.intro hW eR)))))
      clear hx hlt hg hall hW eR hrow hd hn hl hp hpW hD IH
      rcases R with _ | _
      · go_wp2_with (go_at_call 127; refine F.mono ?_; rintro e w3 ⟨rfl, hb3⟩; have H3 := Lib.hid hb3; clear hb3)
        go_ret
        refine ⟨(j : Nat), rfl, ?_, HX.out.2.2.2.2.1.trans (H3.out.mono HX.out.2.2.2.2.1.size)⟩
        have : l.any (fun y => !(fineB D y)) = true := by
          rw [List.any_eq_true]
          exact ⟨x, List.mem_of_getElem? HX.out.1, by rw [← HX.out.2.2.2.2.2]; rfl⟩
        rw [this]; simp
      · go_wp2_with (go_at_call 127; refine F.mono ?_; rintro e w3 ⟨rfl, hb3⟩; have H3 := Lib.hid hb3; clear hb3)
        go_roundg (n - (j + 1))
        case measure => have := HX.out.2.1; have := HX.out.2.2.1; omega
        case rel =>
          refine ⟨j + 1, by have := HX.out.2.1; omega, fun i y hi hy => ?_, by go_num, HX.out.2.2.2.2.1.trans (H3.out.mono HX.out.2.2.2.2.1.size)⟩
          by_cases hij : i < j
          · exact HX.out.2.2.2.1 i y hij hy
          · obtain rfl : i = j := by omega
            rw [HX.out.1] at hy
            injection hy with hy
            rw [← hy]; exact HX.out.2.2.2.2.2.symm
    · have i2 : decide (j < n) = false := decide_eq_false hlt
      have HX := Lib.hid (And.intro hlt (And.intro hall (And.intro hW hg)))
      clear hlt hall hW hg hrow hn hl hp hD IH
      go_wp2_with fail
      go_ret
      refine ⟨-1, rfl, ?_, HX.out.2.2.1⟩
      have : l.any (fun y => !(fineB D y)) = false := by
        rw [List.any_eq_false]
        intro y hy
        obtain ⟨i, hi⟩ := List.getElem?_of_mem hy
        have hlt := (List.getElem?_eq_some_iff.1 hi).1
        rw [HX.out.2.1 i y (by have := HX.out.1; have := H.out.1; omega) hi]; simp
      rw [this]; decide
theorem containsE1_ok (D : Nat) (hD : D ≤ 1000) (IH : FineC D) (A : Option Addr) (n cap : Nat) (l : List E0) (pb : Nat) (w : World) (hn : n = l.length) (hl : n ≤ 1000000) (h : EsAt w (D + 1) A l) (hp : w.cell? ⟨pb, 0, none⟩ = some (.int .i64 ((D + 1 : Nat) : Int))) :
    Calls Tryz.prog 111 #[.slice A n cap, .func (.func 127) #[] #[.pointer (some ⟨pb, 0, none⟩)]] w fun e w' => e = .returned (.bool (l.any (fun y => !(fineB D y)))) ∧ Below w.heap.size w w' := by
  have I := indexE1_ok D hD IH A n cap l pb w hn hl h hp
  obtain ⟨R, eR⟩ : ∃ R, R = l.any (fun y => !(fineB D y)) := ⟨_, rfl⟩
  rw [← eR] at I ⊢
  clear eR hn hl h hp IH hD
  go_enter Tryz.func111, Tryz.ntmps111
  go_wp2_with (go_at_call 125; refine I.mono ?_; rintro e w2 ⟨k, rfl, hk, hb2⟩; have H2 := Lib.hid hb2; clear hb2)
  go_ret
  exact ⟨rfl, H2.out⟩
end
end Go.Proofs.YtocbddajakbemaaGreat
