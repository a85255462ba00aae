/- math/big: numbers of at most two words; what calls on them keep; nat.make and nat.set in one contract each. -/
import Derived.Test.YtabgeonlodmpiaaGreatDoorBAdd
import Derived.StillTailTactics
set_option linter.unusedVariables false
namespace Go.Proofs.YtabgeonlodmpiaaGreatDoor
open Go.RowKit

/-- Below B nothing has turned; nor has an Int's own block. -/
structure Fm (B : Nat) (w w' : World) : Prop where
  below : Below B w w'
  ints : ∀ (b : Nat) (c : Array Value), w.heap[b]? = some (Obj.cells c 57 (0, 0)) → w'.heap[b]? = some (Obj.cells c 57 (0, 0))
theorem Fm.refl (B : Nat) (w : World) : Fm B w w := ⟨Below.refl _ _, fun _ _ h => h⟩
theorem Fm.trans {B : Nat} {a b c : World} (h : Fm B a b) (k : Fm B b c) : Fm B a c := ⟨h.below.trans k.below, fun i x e => k.ints i x (h.ints i x e)⟩
theorem Fm.drewN {B : Nat} {a b : World} (h : Fm B a b) (n : Nat) : Fm B a (b.drewN n) := ⟨below_drewN' h.below n, h.ints⟩
theorem Fm.drew {B : Nat} {a b : World} (h : Fm B a b) : Fm B a b.drew := ⟨h.below.drew, h.ints⟩
theorem Fm.only {B : Nat} {a b : World} {h : Nat} {cs : Array Value} (o : Only h a b) (hb : WB a h cs) (hB : B ≤ h) : Fm B a b :=
  ⟨o.below hB, fun i x e => by
    by_cases hi : i = h
    · subst hi; unfold WB at hb; rw [hb] at e; cases e
    · exact (o.block i hi).trans e⟩
theorem Fm.keep {B : Nat} {a b : World} (h : Below a.heap.size a b) (hB : B ≤ a.heap.size) : Fm B a b :=
  ⟨h.mono hB, fun i x e => (h.block i (lt_of_block e)).trans e⟩
theorem Below.wb {a b : World} {h : Nat} {cs : Array Value} (k : Below a.heap.size a b) (hb : WB a h cs) : WB b h cs := (k.block h (lt_of_block hb)).trans hb

/-- A slice of words: nil, or from the first word of a block, from B on. -/
def SLc (w : World) (B : Nat) (A : Option Addr) (cap : Nat) : Prop := (A = none ∧ cap = 0) ∨ ∃ h cs, A = some ⟨h, 0, none⟩ ∧ B ≤ h ∧ WB w h cs ∧ cs.size = cap ∧ cap ≤ 8
theorem SLc.le {w : World} {B : Nat} {A : Option Addr} {cap : Nat} (h : SLc w B A cap) : cap ≤ 8 := by
  rcases h with ⟨_, rfl⟩ | ⟨_, _, _, _, _, _, h⟩
  · omega
  · exact h
theorem zw_size (n : Nat) : (zw n).size = n := by unfold zw; simp [madeCells, Value.cells]

/-- What nat.make gives. -/
structure Made (w w' : World) (B n h c : Nat) (cs : Array Value) : Prop where
  wb : WB w' h cs
  size : cs.size = c
  le : n ≤ c
  le8 : c ≤ 8
  from_ : B ≤ h
  kept : Below w.heap.size w w'
theorem make_any (w : World) (B : Nat) (A : Option Addr) (l n cap : Nat) (h : SLc w B A cap) (hl : l ≤ cap) (h1 : 1 ≤ n) (h3 : n ≤ 3) (hB : B ≤ w.heap.size) :
    Calls Tryz.prog 51 #[.slice A l cap, .int .i64 (n : Nat)] w fun e w' => ∃ h' c cs, e = .returned (.slice (some ⟨h', 0, none⟩) n c) ∧ Made w w' B n h' c cs ∧ (w' = w ∧ A = some ⟨h', 0, none⟩ ∨ h' = w.heap.size) := by
  rcases Nat.lt_or_ge cap n with hlt | hge
  · by_cases e1 : n = 1
    · subst e1
      have ec : cap = 0 := by omega
      subst ec
      refine (make_one A l w (by omega)).mono ?_
      rintro e w' ⟨rfl, rfl⟩
      exact ⟨_, _, zw 1, rfl, ⟨heap_alloc_new w _, zw_size 1, by omega, by omega, hB, (Below.refl _ _).alloc (Nat.le_refl _) _⟩, Or.inr rfl⟩
    · refine (make_new A l n cap hlt (by omega) (by omega) w).mono ?_
      rintro e w' ⟨rfl, rfl⟩
      exact ⟨_, _, zw (n + 4), rfl, ⟨heap_alloc_new w _, zw_size _, by omega, by omega, hB, (Below.refl _ _).alloc (Nat.le_refl _) _⟩, Or.inr rfl⟩
  · refine (make_in A l n cap hge (by have := h.le; omega) hl w).mono ?_
    rintro e w' ⟨rfl, rfl⟩
    rcases h with ⟨rfl, rfl⟩ | ⟨h', cs, rfl, hh, hwb, hs, h8⟩
    · omega
    · exact ⟨_, _, cs, rfl, ⟨hwb, hs, hge, h8, hh, Below.refl _ _⟩, Or.inl ⟨rfl, rfl⟩⟩

/-- The words of a number v < 2^65. -/
def words (v : Nat) : List Nat := if v = 0 then [] else if v < 18446744073709551616 then [v] else [v - 18446744073709551616, 1]
theorem words0 : words 0 = [] := rfl
theorem words1 {v : Nat} (h : 0 < v) (h2 : v < 18446744073709551616) : words v = [v] := by unfold words; rw [if_neg (by omega), if_pos h2]
theorem words2 {v : Nat} (h2 : 18446744073709551616 ≤ v) : words v = [v - 18446744073709551616, 1] := by unfold words; rw [if_neg (by omega), if_neg (by omega)]
/-- A slice holds the number v. -/
def NumS (w : World) (B : Nat) (A : Option Addr) (n cap v : Nat) : Prop := SLc w B A cap ∧ n ≤ cap ∧ n = (words v).length ∧ ∀ j x, (words v)[j]? = some x → ∃ h, A = some ⟨h, 0, none⟩ ∧ w.cell? ⟨h, j, none⟩ = some (.int .u64 (x : Nat))
theorem NumS.zero {w : World} {B : Nat} {A : Option Addr} {cap : Nat} (h : SLc w B A cap) : NumS w B A 0 cap 0 := ⟨h, Nat.zero_le _, rfl, fun j x e => by rw [words0] at e; cases e⟩
theorem words_len (v : Nat) : (words v).length ≤ 2 := by
  unfold words
  by_cases h : v = 0
  · rw [if_pos h]; simp
  · rw [if_neg h]; split <;> simp
theorem WB.lt {w : World} {h : Nat} {cs : Array Value} (k : WB w h cs) : h < w.heap.size := lt_of_block k
/-- What is kept is kept. -/
theorem SLc.kept {w w' : World} {B : Nat} {A : Option Addr} {cap : Nat} (h : SLc w B A cap) (k : Below w.heap.size w w') : SLc w' B A cap := by
  rcases h with h | ⟨h', cs, e, hB, hb, hs⟩
  · exact Or.inl h
  · exact Or.inr ⟨h', cs, e, hB, Below.wb k hb, hs⟩
theorem NumS.kept {w w' : World} {B : Nat} {A : Option Addr} {n cap v : Nat} (h : NumS w B A n cap v) (k : Below w.heap.size w w') : NumS w' B A n cap v := by
  refine ⟨h.1.kept k, h.2.1, h.2.2.1, fun j x e => ?_⟩
  obtain ⟨h', rfl, hc⟩ := h.2.2.2 j x e
  exact ⟨h', rfl, (k.cell (p := ⟨h', j, none⟩) (by
    rcases h.1 with ⟨e, _⟩ | ⟨h2, cs, e, _, hb, _⟩
    · cases e
    · cases e; exact WB.lt hb)).trans hc⟩

/-- nat.set. -/
theorem set_any (w : World) (B B2 v : Nat) (A : Option Addr) (l cap : Nat) (h : SLc w B A cap) (hl : l ≤ cap) (hB : B ≤ w.heap.size) (A2 : Option Addr) (n cap2 : Nat) (hx : NumS w B2 A2 n cap2 v) (hv : 0 < v) :
    Calls Tryz.prog 50 #[.slice A l cap, .slice A2 n cap2] w fun e w' => ∃ h' c, e = .returned (.slice (some ⟨h', 0, none⟩) n c) ∧ NumS w' B (some ⟨h', 0, none⟩) n c v ∧ Fm B w w' := by
  obtain ⟨hs2, hn2, hn, hw2⟩ := hx
  have hlen : (words v).length ≤ 2 := words_len v
  have hn1 : 1 ≤ n := by rw [hn]; unfold words; rw [if_neg (by omega)]; split <;> simp
  have M := make_any w B A l n cap h hl hn1 (by omega) hB
  obtain ⟨h2, cs2, rfl, hB2, hb2, hcs2, h82⟩ : ∃ h2 cs, A2 = some ⟨h2, 0, none⟩ ∧ B2 ≤ h2 ∧ WB w h2 cs ∧ cs.size = cap2 ∧ cap2 ≤ 8 := by
    rcases hs2 with ⟨rfl, rfl⟩ | h
    · omega
    · exact h
  have hq : ∀ (w' : World) (h' c : Nat) (cs : Array Value), Made w w' B n h' c cs → ∃ w2, (Builtin.copy_ #[55, 55] 3 #[.slice (some ⟨h', 0, none⟩) n c, .slice (some ⟨h2, 0, none⟩) n cap2]).run Tryz.prog w' = .ok (goInt n) w2 ∧ NumS w2 B (some ⟨h', 0, none⟩) n c v ∧ Fm B w w2 := by
    intro w' h' c cs hm
    have hlt : ∀ i, i < n → i < cs.size := fun i hi => by rw [hm.size]; have := hm.le; omega
    have hcell : ∀ i, i < n → ∃ u, w'.cell? ⟨h', i, none⟩ = some u := fun i hi => ⟨_, (cell_of_block hm.wb i).trans (Array.getElem?_eq_getElem (hlt i hi))⟩
    have hfree : ∀ i, w'.frozen? ⟨h', i, none⟩ = false := fun i => free_of_block hm.wb i
    have hsrc : ∀ j x, (words v)[j]? = some x → w'.cell? ⟨h2, j, none⟩ = some (.int .u64 (x : Nat)) := fun j x e => by
      obtain ⟨h3, e3, hc⟩ := hw2 j x e
      cases e3
      exact (hm.kept.cell (p := ⟨h2, j, none⟩) (WB.lt hb2)).trans hc
    have R := run_copy_cells (P := Tryz.prog) w' 55 55 3 62 h' 0 n c ⟨h2, 0, none⟩ n cap2 ((words v).map fun x => .int .u64 (x : Nat)) Tryz.underlying55 (by kernel_rfl)
      (by simp [hn])
      (fun j u hu => by
        rw [List.getElem?_map] at hu
        rcases ew : (words v)[j]? with _ | x
        · rw [ew] at hu; cases hu
        · rw [ew] at hu
          simp at hu
          subst hu
          have := hsrc j x ew
          have e : (⟨h2, 0, none⟩ : Addr).add j = ⟨h2, j, none⟩ := by
            rcases j with _ | j
            · rfl
            · simp [Addr.add]
          rw [e]; exact this)
      (fun j hj => by
        have hj' : j < n := by rw [hn]; simpa using hj
        obtain ⟨u, hu⟩ := hcell j hj'
        rw [show (⟨h', 0 + j, none⟩ : Addr) = ⟨h', j, none⟩ from by rw [Nat.zero_add], hu]; rfl)
      (fun j hj => hfree _)
      (fun u hu => by simp at hu; obtain ⟨x, _, rfl⟩ := hu; rfl)
    have hst : (((words v).map fun x => Value.int .u64 (x : Nat)).length : Int) = (n : Int) := by simp [hn]
    have hst' : ((words v).map fun x => Value.int .u64 (x : Nat)).length = n := by simp [hn]
    rw [hst'] at R
    refine ⟨_, R, ?_⟩
    clear R
    rcases Nat.lt_or_ge v 18446744073709551616 with hv2 | hv2
    · rw [words1 hv hv2] at hn ⊢
      have e1 : n = 1 := hn
      subst e1
      show NumS (w'.setCell ⟨h', 0, none⟩ (.int .u64 (v : Nat))) B _ _ _ _ ∧ Fm B w (w'.setCell ⟨h', 0, none⟩ (.int .u64 (v : Nat)))
      have hb1 := block_setCell hm.wb 0 (.int .u64 (v : Nat))
      have hO : Only h' w' (w'.setCell ⟨h', 0, none⟩ (.int .u64 (v : Nat))) := (Only.refl h' w').setCell rfl _
      refine ⟨⟨Or.inr ⟨h', _, rfl, hm.from_, hb1, by rw [Array.size_setIfInBounds]; exact hm.size, hm.le8⟩, hm.le, by rw [words1 hv hv2]; rfl, fun j x e => ⟨h', rfl, ?_⟩⟩, (Fm.keep hm.kept hB).trans (Fm.only hO hm.wb hm.from_)⟩
      rw [words1 hv hv2] at e
      rcases j with _ | j
      · simp at e; subst e
        refine (cell_of_block hb1 0).trans ?_
        rw [Array.getElem?_setIfInBounds, if_pos rfl, if_pos (hlt 0 (by omega))]
      · simp at e
    · rw [words2 hv2] at hn ⊢
      have e1 : n = 2 := hn
      subst e1
      show NumS ((w'.setCell ⟨h', 0, none⟩ (.int .u64 ((v - 18446744073709551616 : Nat) : Int))).setCell ⟨h', 1, none⟩ (.int .u64 ((1 : Nat) : Int))) B _ _ _ _ ∧ Fm B w ((w'.setCell ⟨h', 0, none⟩ (.int .u64 ((v - 18446744073709551616 : Nat) : Int))).setCell ⟨h', 1, none⟩ (.int .u64 ((1 : Nat) : Int)))
      have hb1 := block_setCell hm.wb 0 (.int .u64 ((v - 18446744073709551616 : Nat) : Int))
      have hb3 := block_setCell hb1 1 (.int .u64 ((1 : Nat) : Int))
      have hO : Only h' w' ((w'.setCell ⟨h', 0, none⟩ (.int .u64 ((v - 18446744073709551616 : Nat) : Int))).setCell ⟨h', 1, none⟩ (.int .u64 ((1 : Nat) : Int))) := ((Only.refl h' w').setCell rfl _).setCell rfl _
      have S := set01 cs (.int .u64 ((v - 18446744073709551616 : Nat) : Int)) (.int .u64 ((1 : Nat) : Int)) (by have := hlt 1 (by omega); omega)
      refine ⟨⟨Or.inr ⟨h', _, rfl, hm.from_, hb3, S.2.2.2.trans hm.size, hm.le8⟩, hm.le, by rw [words2 hv2]; rfl, fun j x e => ⟨h', rfl, ?_⟩⟩, (Fm.keep hm.kept hB).trans (Fm.only hO hm.wb hm.from_)⟩
      rw [words2 hv2] at e
      rcases j with _ | _ | j
      · simp at e; subst e; exact (cell_of_block hb3 0).trans S.1
      · simp at e; subst e; exact (cell_of_block hb3 1).trans S.2.1
      · simp at e
  have HQ := Lib.hid hq
  clear hq hs2 hw2 hb2 h hn hlen hcs2
  go_enter Tryz.func50, Tryz.ntmps50
  go_wp2_with fail
  refine M.mono ?_
  rintro e w1 ⟨h', c, cs, rfl, hm, -⟩
  obtain ⟨w2, hcp, r1, r2⟩ := HQ.out w1 h' c cs hm
  have HR := Lib.hid (And.intro r1 r2); clear r1 r2 hm
  go_wp2_with fail
  go_ret
  exact ⟨_, _, rfl, HR.out.1, HR.out.2⟩
theorem NumS.one {w : World} {B : Nat} {A : Option Addr} {n cap v : Nat} (h : NumS w B A n cap v) (h0 : 0 < v) (h1 : v < 18446744073709551616) :
    n = 1 ∧ ∃ b cs, A = some ⟨b, 0, none⟩ ∧ B ≤ b ∧ WB w b cs ∧ cs.size = cap ∧ 1 ≤ cap ∧ cap ≤ 8 ∧ cs[0]? = some (.int .u64 (v : Nat)) := by
  obtain ⟨hs, hn, hl, hw⟩ := h
  rw [words1 h0 h1] at hl hw
  refine ⟨hl, ?_⟩
  have hn1 : n = 1 := hl
  rcases hs with ⟨rfl, rfl⟩ | ⟨b, cs, rfl, hB, hb, hc, h8⟩
  · omega
  · refine ⟨b, cs, rfl, hB, hb, hc, by omega, h8, ?_⟩
    obtain ⟨b', e, he⟩ := hw 0 v rfl
    cases e
    exact (cell_of_block hb 0).symm.trans he
theorem NumS.two {w : World} {B : Nat} {A : Option Addr} {n cap v : Nat} (h : NumS w B A n cap v) (h1 : 18446744073709551616 ≤ v) :
    n = 2 ∧ ∃ b cs, A = some ⟨b, 0, none⟩ ∧ B ≤ b ∧ WB w b cs ∧ cs.size = cap ∧ 2 ≤ cap ∧ cap ≤ 8 ∧ cs[0]? = some (.int .u64 ((v - 18446744073709551616 : Nat) : Int)) ∧ cs[1]? = some (.int .u64 1) := by
  obtain ⟨hs, hn, hl, hw⟩ := h
  rw [words2 h1] at hl hw
  refine ⟨hl, ?_⟩
  have hn1 : n = 2 := hl
  rcases hs with ⟨rfl, rfl⟩ | ⟨b, cs, rfl, hB, hb, hc, h8⟩
  · omega
  · refine ⟨b, cs, rfl, hB, hb, hc, by omega, h8, ?_, ?_⟩
    · obtain ⟨b', e, he⟩ := hw 0 _ rfl
      cases e
      exact (cell_of_block hb 0).symm.trans he
    · obtain ⟨b', e, he⟩ := hw 1 _ rfl
      cases e
      exact (cell_of_block hb 1).symm.trans he
theorem NumS.nought {w : World} {B : Nat} {A : Option Addr} {n cap : Nat} (h : NumS w B A n cap 0) : n = 0 ∧ SLc w B A cap := ⟨h.2.2.1, h.1⟩
theorem NumS.mk1 {w : World} {B b cap v : Nat} {cs : Array Value} (hb : WB w b cs) (hB : B ≤ b) (hs : cs.size = cap) (h8 : cap ≤ 8) (h : cs[0]? = some (.int .u64 (v : Nat))) (h0 : 0 < v) (h1 : v < 18446744073709551616) : NumS w B (some ⟨b, 0, none⟩) 1 cap v := by
  have hlt : 0 < cs.size := by
    rcases Nat.lt_or_ge 0 cs.size with k | k
    · exact k
    · rw [Array.getElem?_eq_none k] at h; cases h
  refine ⟨Or.inr ⟨b, cs, rfl, hB, hb, hs, h8⟩, by omega, by rw [words1 h0 h1]; rfl, fun j x e => ⟨b, rfl, ?_⟩⟩
  rw [words1 h0 h1] at e
  rcases j with _ | j
  · simp at e; subst e; exact (cell_of_block hb 0).trans h
  · simp at e
theorem NumS.mk2 {w : World} {B b cap v : Nat} {cs : Array Value} (hb : WB w b cs) (hB : B ≤ b) (hs : cs.size = cap) (h8 : cap ≤ 8) (h : cs[0]? = some (.int .u64 ((v - 18446744073709551616 : Nat) : Int))) (hh : cs[1]? = some (.int .u64 1)) (h1 : 18446744073709551616 ≤ v) : NumS w B (some ⟨b, 0, none⟩) 2 cap v := by
  have hlt : 1 < cs.size := by
    rcases Nat.lt_or_ge 1 cs.size with k | k
    · exact k
    · rw [Array.getElem?_eq_none k] at hh; cases hh
  refine ⟨Or.inr ⟨b, cs, rfl, hB, hb, hs, h8⟩, by omega, by rw [words2 h1]; rfl, fun j x e => ⟨b, rfl, ?_⟩⟩
  rw [words2 h1] at e
  rcases j with _ | _ | j
  · simp at e; subst e; exact (cell_of_block hb 0).trans h
  · simp at e; subst e; exact (cell_of_block hb 1).trans hh
  · simp at e
end Go.Proofs.YtabgeonlodmpiaaGreatDoor
