/- Reader: read, Get, GetCode, GetSigned, Left, End. -/
import Derived.Test.YtpnlcnilhlcfpaaBRead2
set_option linter.unusedVariables false
namespace Go.Proofs.Ytpnlcnilhlcfpaa
open Go.RowKit
open M (bitsOf bitsOf_length codeBits codeBits_length zig zag numOf zeros codeA)

theorem RAt.bad_cell {w : World} {br : Nat} {F : List Nat} {bl : List Bool} {at_ : Nat} {bad : Int} (h : RAt w br F bl at_ bad) :
    w.cell? ⟨br, 0, none⟩ = some (.bool true) ∧ w.cell? ⟨br, 2, none⟩ = some (.int .i64 (at_ : Nat)) ∧ w.cell? ⟨br, 3, none⟩ = some (.int .i64 bad) ∧ (∀ i, w.frozen? ⟨br, i, none⟩ = false) := by
  obtain ⟨A, n, cap, hb, _⟩ := h
  exact ⟨(cell_of_block hb 0).trans rfl, (cell_of_block hb 2).trans rfl, (cell_of_block hb 3).trans rfl, fun i => free_of_block hb i⟩

theorem read_arg (br : Nat) (k most : Int) (f : Value) (w : World) (hm : w.cell? ⟨br, 0, none⟩ = some (.bool true)) (hk : k < 0 ∨ most < k) :
    Calls Try.prog 33 #[.pointer (some ⟨br, 0, none⟩), .int .i64 k, .int .i64 most, f] w fun e w' => e = .returned (.tuple #[.int .u64 0, .int .i64 2]) ∧ w = w' := by
  by_cases h : k < 0
  · go_enter Try.func33, Try.ntmps33
    go_wp2_with fail
    go_ret2
    exact ⟨rfl, rfl⟩
  · have h2 : most < k := by omega
    go_enter Try.func33, Try.ntmps33
    go_wp2_with fail
    go_ret2
    exact ⟨rfl, rfl⟩

theorem read_bad (br : Nat) (k most bad : Int) (f : Value) (w : World) (hm : w.cell? ⟨br, 0, none⟩ = some (.bool true)) (hb : w.cell? ⟨br, 3, none⟩ = some (.int .i64 bad)) (hne : (bad != 0) = true) (k0 : 0 ≤ k) (k1 : k ≤ most) :
    Calls Try.prog 33 #[.pointer (some ⟨br, 0, none⟩), .int .i64 k, .int .i64 most, f] w fun e w' => e = .returned (.tuple #[.int .u64 0, .int .i64 bad]) ∧ ∃ m, w' = w.drewN m := by
  go_enter Try.func33, Try.ntmps33
  go_wp2_with fail
  go_quiet (fail)
  go_wp2
  go_ret2
  exact ⟨rfl, nq, rfl⟩

theorem read_number_ok (br : Nat) (F : List Nat) (bl : List Bool) (a : Nat) (k most : Int) (v : Int) (s : List Bool) (w : World) (h : RAt w br F bl a 0) (k0 : 0 ≤ k) (k1 : k ≤ most)
    (hc : Calls Try.prog 34 #[.pointer (some ⟨br, 0, none⟩), .int .i64 k] w fun e w' => e = .returned (.tuple #[.int .u64 v, .int .i64 0]) ∧ (∃ a', RAt w' br F bl a' 0 ∧ bl.drop a' = s) ∧ Only br w w') :
    Calls Try.prog 33 #[.pointer (some ⟨br, 0, none⟩), .int .i64 k, .int .i64 most, .func (.func 34) #[.pointer (some ⟨br, 0, none⟩)] #[]] w fun e w' => e = .returned (.tuple #[.int .u64 v, .int .i64 0]) ∧ (∃ a', RAt w' br F bl a' 0 ∧ bl.drop a' = s) ∧ Only br w w' := by
  obtain ⟨c0, c2, c3, hf⟩ := h.bad_cell
  have H := Lib.hid (And.intro h hc)
  clear h hc hf
  go_enter Try.func33, Try.ntmps33
  go_wp2_with fail
  refine H.out.2.mono ?_
  rintro e w' ⟨rfl, h1⟩
  have HQ := Lib.hid h1; clear h1
  go_wp2_with fail
  go_ret2
  exact ⟨rfl, HQ.out⟩
theorem read_number_err (br : Nat) (F : List Nat) (bl : List Bool) (a : Nat) (k most : Int) (err v : Int) (w : World) (h : RAt w br F bl a 0) (k0 : 0 ≤ k) (k1 : k ≤ most) (hne : (err != 0) = true)
    (hc : Calls Try.prog 34 #[.pointer (some ⟨br, 0, none⟩), .int .i64 k] w fun e w' => e = .returned (.tuple #[.int .u64 v, .int .i64 err]) ∧ (∃ a', RAt w' br F bl a' 0) ∧ Only br w w') :
    Calls Try.prog 33 #[.pointer (some ⟨br, 0, none⟩), .int .i64 k, .int .i64 most, .func (.func 34) #[.pointer (some ⟨br, 0, none⟩)] #[]] w fun e w' => e = .returned (.tuple #[.int .u64 0, .int .i64 err]) ∧ (∃ a', RAt w' br F bl a' err) ∧ Only br w w' := by
  obtain ⟨c0, c2, c3, hf⟩ := h.bad_cell
  have H := Lib.hid (And.intro h hc)
  clear h hc hf
  go_enter Try.func33, Try.ntmps33
  go_wp2_with fail
  refine H.out.2.mono ?_
  rintro e w2 ⟨rfl, ⟨a', h1⟩, h2⟩
  obtain ⟨_, _, c3, hf⟩ := h1.bad_cell
  have f3 := hf 3
  have HQ := Lib.hid (And.intro h1 h2); clear h1 h2 hf
  go_wp2_with fail
  go_ret2
  exact ⟨rfl, ⟨a', HQ.out.1.set_bad err⟩, HQ.out.2.setCell rfl _⟩
theorem read_code_ok (br : Nat) (F : List Nat) (bl : List Bool) (a : Nat) (k most : Int) (v : Int) (s : List Bool) (w : World) (h : RAt w br F bl a 0) (k0 : 0 ≤ k) (k1 : k ≤ most)
    (hc : Calls Try.prog 35 #[.pointer (some ⟨br, 0, none⟩), .int .i64 k] w fun e w' => e = .returned (.tuple #[.int .u64 v, .int .i64 0]) ∧ (∃ a', RAt w' br F bl a' 0 ∧ bl.drop a' = s) ∧ Only br w w') :
    Calls Try.prog 33 #[.pointer (some ⟨br, 0, none⟩), .int .i64 k, .int .i64 most, .func (.func 35) #[.pointer (some ⟨br, 0, none⟩)] #[]] w fun e w' => e = .returned (.tuple #[.int .u64 v, .int .i64 0]) ∧ (∃ a', RAt w' br F bl a' 0 ∧ bl.drop a' = s) ∧ Only br w w' := by
  obtain ⟨c0, c2, c3, hf⟩ := h.bad_cell
  have H := Lib.hid (And.intro h hc)
  clear h hc hf
  go_enter Try.func33, Try.ntmps33
  go_wp2_with fail
  refine H.out.2.mono ?_
  rintro e w' ⟨rfl, h1⟩
  have HQ := Lib.hid h1; clear h1
  go_wp2_with fail
  go_ret2
  exact ⟨rfl, HQ.out⟩
theorem read_code_err (br : Nat) (F : List Nat) (bl : List Bool) (a : Nat) (k most : Int) (err v : Int) (w : World) (h : RAt w br F bl a 0) (k0 : 0 ≤ k) (k1 : k ≤ most) (hne : (err != 0) = true)
    (hc : Calls Try.prog 35 #[.pointer (some ⟨br, 0, none⟩), .int .i64 k] w fun e w' => e = .returned (.tuple #[.int .u64 v, .int .i64 err]) ∧ (∃ a', RAt w' br F bl a' 0) ∧ Only br w w') :
    Calls Try.prog 33 #[.pointer (some ⟨br, 0, none⟩), .int .i64 k, .int .i64 most, .func (.func 35) #[.pointer (some ⟨br, 0, none⟩)] #[]] w fun e w' => e = .returned (.tuple #[.int .u64 0, .int .i64 err]) ∧ (∃ a', RAt w' br F bl a' err) ∧ Only br w w' := by
  obtain ⟨c0, c2, c3, hf⟩ := h.bad_cell
  have H := Lib.hid (And.intro h hc)
  clear h hc hf
  go_enter Try.func33, Try.ntmps33
  go_wp2_with fail
  refine H.out.2.mono ?_
  rintro e w2 ⟨rfl, ⟨a', h1⟩, h2⟩
  obtain ⟨_, _, c3, hf⟩ := h1.bad_cell
  have f3 := hf 3
  have HQ := Lib.hid (And.intro h1 h2); clear h1 h2 hf
  go_wp2_with fail
  go_ret2
  exact ⟨rfl, ⟨a', HQ.out.1.set_bad err⟩, HQ.out.2.setCell rfl _⟩

/-- A Reader: the bits s are left; it has failed with the error bad, and nothing is left, unless that is 0. -/
def ROk (w : World) (br : Nat) (F : List Nat) (s : List Bool) (bad : Nat) : Prop := ∃ bl a, RAt w br F bl a bad ∧ s = if bad = 0 then bl.drop a else []
theorem ROk.ok {w : World} {br : Nat} {F : List Nat} {s : List Bool} (h : ROk w br F s 0) : ∃ bl a, RAt w br F bl a 0 ∧ s = bl.drop a := h
theorem ROk.lt {w : World} {br : Nat} {F : List Nat} {s : List Bool} {bad : Nat} (h : ROk w br F s bad) : ∀ q, q ∈ br :: F → q < w.heap.size := by obtain ⟨bl, a, hr, _⟩ := h; exact hr.lt
theorem ROk.keep {w w' : World} {br : Nat} {F G G' : List Nat} {s : List Bool} {bad : Nat} (h : ROk w br F s bad) (fr : Fr G w G' w') (hd : ∀ q, q ∈ br :: F → q ∉ G) : ROk w' br F s bad := by
  obtain ⟨bl, a, hr, e⟩ := h; exact ⟨bl, a, hr.keep fr hd, e⟩
theorem ROk.below {w w' : World} {br : Nat} {F : List Nat} {s : List Bool} {bad : Nat} (h : ROk w br F s bad) (hb : Below w.heap.size w w') : ROk w' br F s bad := by
  obtain ⟨bl, a, hr, e⟩ := h; exact ⟨bl, a, hr.below hb, e⟩
theorem ROk.drewN {w : World} {br : Nat} {F : List Nat} {s : List Bool} {bad : Nat} (h : ROk w br F s bad) (n : Nat) : ROk (w.drewN n) br F s bad := h
theorem ROk.length {w : World} {br : Nat} {F : List Nat} {s : List Bool} {bad : Nat} (h : ROk w br F s bad) : s.length ≤ 8000000 := by
  obtain ⟨bl, a, ⟨A, n, cap, hb, hl, ha, hn, _⟩, rfl⟩ := h
  split
  · rw [List.length_drop]; omega
  · simp
theorem ROk.bad_nil {w : World} {br : Nat} {F : List Nat} {s : List Bool} {bad : Nat} (h : ROk w br F s bad) (hb : bad ≠ 0) : s = [] := by
  obtain ⟨bl, a, hr, rfl⟩ := h; rw [if_neg hb]

/-- What the three readings do: the number, the error, the bits that are left, the error that stays. -/
def getA (k : Nat) (s : List Bool) (bad : Nat) : Nat × Nat × List Bool × Nat :=
  if bad ≠ 0 then (0, bad, [], bad) else if s.length < k then (0, 180, [], 180) else (numOf (s.take k), 0, s.drop k, 0)
def getC (k : Nat) (s : List Bool) (bad : Nat) : Nat × Nat × List Bool × Nat :=
  if bad ≠ 0 then (0, bad, [], bad) else if (codeA k s).1 = 0 then ((codeA k s).2.1, 0, (codeA k s).2.2, 0) else (0, (codeA k s).1, [], (codeA k s).1)

theorem Get_arg (br : Nat) (F : List Nat) (s : List Bool) (bad : Nat) (k : Int) (w : World) (h : ROk w br F s bad) (hk : k < 0 ∨ 64 < k) :
    Calls Try.prog 17 #[.pointer (some ⟨br, 0, none⟩), .int .i64 k] w fun e w' => e = .returned (.tuple #[.int .u64 0, .int .i64 2]) ∧ w = w' := by
  obtain ⟨bl, a, hr, _⟩ := h
  have H := Lib.hid (fun f => read_arg br k 64 f w hr.bad_cell.1 hk)
  clear hr
  go_enter Try.func17, Try.ntmps17
  go_wp2_with fail
  refine (H.out _).mono ?_
  rintro e w' ⟨rfl, rfl⟩
  go_wp2_with fail
  go_ret2
  exact ⟨rfl, rfl⟩

theorem Get_ok (br : Nat) (F : List Nat) (s : List Bool) (bad : Nat) (k : Nat) (w : World) (h : ROk w br F s bad) (hk : k ≤ 64) :
    Calls Try.prog 17 #[.pointer (some ⟨br, 0, none⟩), .int .i64 (k : Int)] w fun e w' => e = .returned (.tuple #[.int .u64 ((getA k s bad).1 : Nat), .int .i64 ((getA k s bad).2.1 : Nat)]) ∧ ROk w' br F (getA k s bad).2.2.1 (getA k s bad).2.2.2 ∧ Only br w w' := by
  obtain ⟨bl, a, hr, hs⟩ := h
  by_cases hb : bad = 0
  · subst hb
    rw [if_pos rfl] at hs
    have hal : a ≤ bl.length := by obtain ⟨A, n, cap, hb, hl, ha, _⟩ := hr; exact ha
    by_cases hl : s.length < k
    · have e : getA k s 0 = (0, 180, [], 180) := by unfold getA; rw [if_neg (by simp), if_pos hl]
      rw [e]
      have hn := number_short br F bl a k 0 w hr (by rw [hs, List.length_drop] at hl; omega) hk
      have hc := read_number_err br F bl a k 64 180 0 w hr (by omega) (by omega) (by decide) (hn.mono fun e w' ⟨h1, m, h2⟩ => ⟨h1, ⟨a, by rw [h2]; exact hr.drewN m⟩, by rw [h2]; exact (Only.refl _ _).drewN m⟩)
      have H := Lib.hid hc
      clear hr hn hc hl hal e
      go_enter Try.func17, Try.ntmps17
      go_wp2_with fail
      refine H.out.mono ?_
      rintro e w' ⟨rfl, h1⟩
      have HQ := Lib.hid h1; clear h1
      go_wp2_with fail
      go_ret2
      obtain ⟨⟨a', h1⟩, h2⟩ := HQ.out
      exact ⟨rfl, ⟨bl, a', h1, rfl⟩, h2⟩
    · have e : getA k s 0 = (numOf (s.take k), 0, s.drop k, 0) := by unfold getA; rw [if_neg (by simp), if_neg hl]
      rw [e]
      have hn := number_ok br F bl a k 0 w hr (by rw [hs, List.length_drop] at hl; omega) hk
      rw [← hs] at hn
      have hc := read_number_ok br F bl a k 64 _ (s.drop k) w hr (by omega) (by omega) (hn.mono fun e w' ⟨h1, h2, h3⟩ => ⟨h1, ⟨a + k, h2, by rw [hs, List.drop_drop]⟩, h3⟩)
      generalize numOf (s.take k) = N at *
      have H := Lib.hid hc
      clear hr hn hc hl hal e hs
      go_enter Try.func17, Try.ntmps17
      go_wp2_with fail
      refine H.out.mono ?_
      rintro e w' ⟨rfl, h1⟩
      have HQ := Lib.hid h1; clear h1
      go_wp2_with fail
      go_ret2
      obtain ⟨⟨a', h1, h3⟩, h2⟩ := HQ.out
      exact ⟨rfl, ⟨bl, a', h1, h3.symm⟩, h2⟩
  · have e : getA k s bad = (0, bad, [], bad) := by unfold getA; rw [if_pos hb]
    rw [e]
    have hc := fun f => read_bad br k 64 bad f w hr.bad_cell.1 hr.bad_cell.2.2.1 (by rw [bne_iff_ne]; omega) (by omega) (by omega)
    have H := Lib.hid (And.intro hr hc)
    have HB := Lib.hid hb
    clear hr hc e hs hb
    go_enter Try.func17, Try.ntmps17
    go_wp2_with fail
    refine (H.out.2 _).mono ?_
    rintro e w' ⟨rfl, m, rfl⟩
    go_wp2_with fail
    go_ret2
    exact ⟨rfl, ⟨bl, a, H.out.1.drewN m, by rw [if_neg HB.out]⟩, (Only.refl _ _).drewN m⟩

theorem GetCode_arg (br : Nat) (F : List Nat) (s : List Bool) (bad : Nat) (k : Int) (w : World) (h : ROk w br F s bad) (hk : k < 0 ∨ 30 < k) :
    Calls Try.prog 18 #[.pointer (some ⟨br, 0, none⟩), .int .i64 k] w fun e w' => e = .returned (.tuple #[.int .u64 0, .int .i64 2]) ∧ w = w' := by
  obtain ⟨bl, a, hr, _⟩ := h
  have H := Lib.hid (fun f => read_arg br k 30 f w hr.bad_cell.1 hk)
  clear hr
  go_enter Try.func18, Try.ntmps18
  go_wp2_with fail
  refine (H.out _).mono ?_
  rintro e w' ⟨rfl, rfl⟩
  go_wp2_with fail
  go_ret2
  exact ⟨rfl, rfl⟩

theorem codeA_cases (k : Nat) (s : List Bool) : codeA k s = (M.form, 0, s) ∨ codeA k s = (M.short, 0, s) ∨ ∃ v t, codeA k s = (0, v, t) := by
  unfold codeA
  split
  · exact Or.inl rfl
  · split
    · exact Or.inr (Or.inl rfl)
    · split
      · exact Or.inr (Or.inl rfl)
      · split
        · exact Or.inl rfl
        · exact Or.inr (Or.inr ⟨_, _, rfl⟩)
theorem codeA_err (k : Nat) (s : List Bool) (h : (codeA k s).1 ≠ 0) : (codeA k s).2.1 = 0 ∧ ((codeA k s).1 = 180 ∨ (codeA k s).1 = 181) := by
  rcases codeA_cases k s with e | e | ⟨v, t, e⟩ <;> rw [e] at h ⊢
  · exact ⟨rfl, Or.inr rfl⟩
  · exact ⟨rfl, Or.inl rfl⟩
  · exact absurd rfl h

theorem GetCode_ok (br : Nat) (F : List Nat) (s : List Bool) (bad : Nat) (k : Nat) (w : World) (h : ROk w br F s bad) (hk : k ≤ 30) :
    Calls Try.prog 18 #[.pointer (some ⟨br, 0, none⟩), .int .i64 (k : Int)] w fun e w' => e = .returned (.tuple #[.int .u64 ((getC k s bad).1 : Nat), .int .i64 ((getC k s bad).2.1 : Nat)]) ∧ ROk w' br F (getC k s bad).2.2.1 (getC k s bad).2.2.2 ∧ Only br w w' := by
  obtain ⟨bl, a, hr, hs⟩ := h
  by_cases hb : bad = 0
  · subst hb
    rw [if_pos rfl] at hs
    have hn := code_ok br F bl a k 0 w hr hk
    rw [← hs] at hn
    by_cases hl : (codeA k s).1 = 0
    · have e : getC k s 0 = ((codeA k s).2.1, 0, (codeA k s).2.2, 0) := by unfold getC; rw [if_neg (by simp), if_pos hl]
      rw [e]
      have hc := read_code_ok br F bl a k 30 _ (codeA k s).2.2 w hr (by omega) (by omega) (hn.mono fun e w' ⟨h1, h2, a', h3, h4⟩ => ⟨by rw [h1, hl]; rfl, ⟨a', h3, h4 hl⟩, h2⟩)
      generalize (codeA k s).2.1 = N at *
      generalize (codeA k s).2.2 = t at *
      have H := Lib.hid hc
      clear hr hn hc hl e hs
      go_enter Try.func18, Try.ntmps18
      go_wp2_with fail
      refine H.out.mono ?_
      rintro e w' ⟨rfl, h1⟩
      have HQ := Lib.hid h1; clear h1
      go_wp2_with fail
      go_ret2
      obtain ⟨⟨a', h1, h3⟩, h2⟩ := HQ.out
      exact ⟨rfl, ⟨bl, a', h1, h3.symm⟩, h2⟩
    · have e : getC k s 0 = (0, (codeA k s).1, [], (codeA k s).1) := by unfold getC; rw [if_neg (by simp), if_neg hl]
      rw [e]
      have hc := read_code_err br F bl a k 30 ((codeA k s).1 : Nat) _ w hr (by omega) (by omega) (by rw [bne_iff_ne]; omega) (hn.mono fun e w' ⟨h1, h2, a', h3, h4⟩ => ⟨h1, ⟨a', h3⟩, h2⟩)
      generalize (codeA k s).1 = E at *
      have H := Lib.hid (And.intro hc hl)
      clear hr hn hc hl e hs
      go_enter Try.func18, Try.ntmps18
      go_wp2_with fail
      refine H.out.1.mono ?_
      rintro e w' ⟨rfl, h1⟩
      have HQ := Lib.hid h1; clear h1
      go_wp2_with fail
      go_ret2
      obtain ⟨⟨a', h1⟩, h2⟩ := HQ.out
      exact ⟨rfl, ⟨bl, a', h1, by rw [if_neg H.out.2]⟩, h2⟩
  · have e : getC k s bad = (0, bad, [], bad) := by unfold getC; rw [if_pos hb]
    rw [e]
    have hc := fun f => read_bad br k 30 bad f w hr.bad_cell.1 hr.bad_cell.2.2.1 (by rw [bne_iff_ne]; omega) (by omega) (by omega)
    have H := Lib.hid (And.intro hr hc)
    have HB := Lib.hid hb
    clear hr hc e hs hb
    go_enter Try.func18, Try.ntmps18
    go_wp2_with fail
    refine (H.out.2 _).mono ?_
    rintro e w' ⟨rfl, m, rfl⟩
    go_wp2_with fail
    go_ret2
    exact ⟨rfl, ⟨bl, a, H.out.1.drewN m, by rw [if_neg HB.out]⟩, (Only.refl _ _).drewN m⟩

theorem Left_ok (br : Nat) (F : List Nat) (s : List Bool) (bad : Nat) (w : World) (h : ROk w br F s bad) :
    Calls Try.prog 11 #[.pointer (some ⟨br, 0, none⟩)] w fun e w' => e = .returned (.int .i64 (s.length : Nat)) ∧ ∃ m, w' = w.drewN m := by
  obtain ⟨bl, a, hr, hs⟩ := h
  obtain ⟨c0, c2, c3, hf⟩ := hr.bad_cell
  by_cases hb : bad = 0
  · subst hb
    rw [if_pos rfl] at hs
    have hc := rest_ok br F bl a 0 w hr
    rw [show bl.length - a = s.length from by rw [hs, List.length_drop]] at hc
    have H := Lib.hid hc
    clear hr hc hs hf c2
    go_enter Try.func11, Try.ntmps11
    go_wp2_with fail
    refine H.out.mono ?_
    rintro e w' ⟨rfl, m, rfl⟩
    go_wp2_with fail
    go_ret
    exact ⟨rfl, m, rfl⟩
  · rw [if_neg hb] at hs
    subst hs
    have hne : ((bad : Int) != 0) = true := by rw [bne_iff_ne]; omega
    have hne2 : (bad != 0) = true := by rw [bne_iff_ne]; omega
    clear hr hb hf c2
    go_enter Try.func11, Try.ntmps11
    go_wp2_with fail
    go_ret
    exact ⟨rfl, 0, rfl⟩
end Go.Proofs.Ytpnlcnilhlcfpaa
