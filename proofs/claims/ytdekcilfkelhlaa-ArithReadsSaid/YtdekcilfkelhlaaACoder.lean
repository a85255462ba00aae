/- The coder: its state in memory; high, next, put, scale. -/
import Derived.Test.YtdekcilfkelhlaaALearn
set_option linter.unusedVariables false
namespace Go.Proofs.Ytdekcilfkelhlaa
open Go.RowKit
open M (bitsOf bitsOf_length)

/-- The state of a coder. -/
structure St where
  lo : Nat
  hi : Nat
  dl : Nat
  cnt : Nat
  out : List Bool
  num : Nat
  at_ : Nat

/-- Where a coder lies, and its input. -/
structure Box where
  B : Nat
  bw : Nat
  T : TypeId
  G : List Nat
  A : Option Addr
  n : Nat
  cap : Nat
  f : Nat → Nat
  x9 : Option Value

def Box.bit (X : Box) (a : Nat) : Nat := if a < 8 * X.n then X.f (a / 8) / 2 ^ (7 - a % 8) % 2 else 0
theorem Box.bit_le (X : Box) (a : Nat) : X.bit a ≤ 1 := by unfold Box.bit; split <;> omega

/-- A coder in memory; sh is what it has stored for its high end. -/
structure CAt (X : Box) (w : World) (cs : Array Value) (F : List Nat) (s : St) (sh : Nat) : Prop where
  wok : WOk w X.B X.bw 4 X.T cs F s.out
  c0 : cs[0]? = some (.int .u64 (s.lo : Nat))
  c1 : cs[1]? = some (.int .u64 (sh : Nat))
  c2 : cs[2]? = some (.int .i64 (s.dl : Nat))
  c3 : cs[3]? = some (.int .i64 (s.cnt : Nat))
  c6 : cs[6]? = some (.int .u64 (s.num : Nat))
  c7 : cs[7]? = some (.slice X.A X.n X.cap)
  c8 : cs[8]? = some (.int .i64 (s.at_ : Nat))
  c9 : cs[9]? = X.x9
  row : Row w X.G X.A X.n X.f
  far : ∀ q, q ∈ X.G → q ∉ F ∧ q < w.heap.size
  few : X.n ≤ 1000000
  byte : ∀ i, i < X.n → X.f i < 256
def COk (X : Box) (w : World) (F : List Nat) (s : St) (sh : Nat) : Prop := ∃ cs, CAt X w cs F s sh

section
variable {X : Box} {w w' : World} {cs : Array Value} {F G F' : List Nat} {s : St} {sh : Nat}
theorem CAt.head (h : CAt X w cs F s sh) : X.bw ∈ F := h.wok.head
theorem CAt.cell (h : CAt X w cs F s sh) (i : Nat) : w.cell? ⟨X.bw, i, none⟩ = cs[i]? := h.wok.cell i
theorem CAt.free (h : CAt X w cs F s sh) (i : Nat) : w.frozen? ⟨X.bw, i, none⟩ = false := h.wok.free i
theorem CAt.same (h : CAt X w cs F s sh) (hk : ∀ q, q ∈ F ∨ q ∈ X.G → w'.heap[q]? = w.heap[q]?) (hs : w.heap.size ≤ w'.heap.size) : CAt X w' cs F s sh :=
  ⟨h.wok.same fun q hq => hk q (Or.inl hq), h.c0, h.c1, h.c2, h.c3, h.c6, h.c7, h.c8, h.c9, h.row.same fun q hq => hk q (Or.inr hq), fun q hq => ⟨(h.far q hq).1, Nat.lt_of_lt_of_le (h.far q hq).2 hs⟩, h.few, h.byte⟩
theorem CAt.drewN (h : CAt X w cs F s sh) (n : Nat) : CAt X (w.drewN n) cs F s sh := h.same (fun _ _ => rfl) (Nat.le_refl _)
theorem CAt.drew (h : CAt X w cs F s sh) : CAt X w.drew cs F s sh := h.same (fun _ _ => rfl) (Nat.le_refl _)
/-- The Writer of the coder has turned. -/
theorem CAt.wrote {ds : Array Value} {l : List Bool} (h : CAt X w cs F s sh) (hw : WOk w' X.B X.bw 4 X.T ds F' l) (hs : SameBut 4 cs ds) (fr : Fr F w F' w') : CAt X w' ds F' { s with out := l } sh := by
  refine ⟨hw, (hs.at_ 0 (by decide) (by decide)).trans h.c0, (hs.at_ 1 (by decide) (by decide)).trans h.c1, (hs.at_ 2 (by decide) (by decide)).trans h.c2, (hs.at_ 3 (by decide) (by decide)).trans h.c3, (hs.at_ 6 (by decide) (by decide)).trans h.c6, (hs.at_ 7 (by decide) (by decide)).trans h.c7, (hs.at_ 8 (by decide) (by decide)).trans h.c8, (hs.at_ 9 (by decide) (by decide)).trans h.c9, h.row.same fun q hq => fr.block q (h.far q hq).2 (h.far q hq).1, ?_, h.few, h.byte⟩
  intro q hq
  exact ⟨fr.apart (H := X.G) (fun q hq => (h.far q hq).1) (fun q hq => (h.far q hq).2) q hq, Nat.lt_of_lt_of_le (h.far q hq).2 fr.size⟩
theorem CAt.stores (h : CAt X w cs F s sh) (i : Nat) (h4 : i ≠ 4) (h5 : i ≠ 4 + 1) (u : Value) (s' : St) (sh' : Nat) (ho : s'.out = s.out)
    (e0 : (cs.setIfInBounds i u)[0]? = some (.int .u64 (s'.lo : Nat))) (e1 : (cs.setIfInBounds i u)[1]? = some (.int .u64 (sh' : Nat))) (e2 : (cs.setIfInBounds i u)[2]? = some (.int .i64 (s'.dl : Nat))) (e3 : (cs.setIfInBounds i u)[3]? = some (.int .i64 (s'.cnt : Nat)))
    (e6 : (cs.setIfInBounds i u)[6]? = some (.int .u64 (s'.num : Nat))) (e8 : (cs.setIfInBounds i u)[8]? = some (.int .i64 (s'.at_ : Nat))) (h7 : i ≠ 7) (h9 : i ≠ 9) :
    COk X (w.setCell ⟨X.bw, i, none⟩ u) F s' sh' := by
  refine ⟨cs.setIfInBounds i u, ⟨by rw [ho]; exact h.wok.set_ i h4 h5 u, e0, e1, e2, e3, e6, (set_far h7).trans h.c7, e8, (set_far h9).trans h.c9, h.row.same fun q hq => Below.heap_setCell _ _ _ _ (fun e => (h.far q hq).1 (by cases e; exact h.head)), ?_, h.few, h.byte⟩⟩
  intro q hq
  exact ⟨(h.far q hq).1, by simpa [World.setCell] using (h.far q hq).2⟩
theorem CAt.set_lo (h : CAt X w cs F s sh) (x : Nat) : COk X (w.setCell ⟨X.bw, 0, none⟩ (.int .u64 (x : Nat))) F { s with lo := x } sh :=
  h.stores 0 (by decide) (by decide) _ _ _ rfl (set_get h.c0) ((set_far (by decide)).trans h.c1) ((set_far (by decide)).trans h.c2) ((set_far (by decide)).trans h.c3) ((set_far (by decide)).trans h.c6) ((set_far (by decide)).trans h.c8) (by decide) (by decide)
theorem CAt.set_sh (h : CAt X w cs F s sh) (x : Nat) : COk X (w.setCell ⟨X.bw, 1, none⟩ (.int .u64 (x : Nat))) F s x :=
  h.stores 1 (by decide) (by decide) _ _ _ rfl ((set_far (by decide)).trans h.c0) (set_get h.c1) ((set_far (by decide)).trans h.c2) ((set_far (by decide)).trans h.c3) ((set_far (by decide)).trans h.c6) ((set_far (by decide)).trans h.c8) (by decide) (by decide)
theorem CAt.set_dl (h : CAt X w cs F s sh) (x : Nat) : COk X (w.setCell ⟨X.bw, 2, none⟩ (.int .i64 (x : Nat))) F { s with dl := x } sh :=
  h.stores 2 (by decide) (by decide) _ _ _ rfl ((set_far (by decide)).trans h.c0) ((set_far (by decide)).trans h.c1) (set_get h.c2) ((set_far (by decide)).trans h.c3) ((set_far (by decide)).trans h.c6) ((set_far (by decide)).trans h.c8) (by decide) (by decide)
theorem CAt.set_cnt (h : CAt X w cs F s sh) (x : Nat) : COk X (w.setCell ⟨X.bw, 3, none⟩ (.int .i64 (x : Nat))) F { s with cnt := x } sh :=
  h.stores 3 (by decide) (by decide) _ _ _ rfl ((set_far (by decide)).trans h.c0) ((set_far (by decide)).trans h.c1) ((set_far (by decide)).trans h.c2) (set_get h.c3) ((set_far (by decide)).trans h.c6) ((set_far (by decide)).trans h.c8) (by decide) (by decide)
theorem CAt.set_num (h : CAt X w cs F s sh) (x : Nat) : COk X (w.setCell ⟨X.bw, 6, none⟩ (.int .u64 (x : Nat))) F { s with num := x } sh :=
  h.stores 6 (by decide) (by decide) _ _ _ rfl ((set_far (by decide)).trans h.c0) ((set_far (by decide)).trans h.c1) ((set_far (by decide)).trans h.c2) ((set_far (by decide)).trans h.c3) (set_get h.c6) ((set_far (by decide)).trans h.c8) (by decide) (by decide)
theorem CAt.set_at (h : CAt X w cs F s sh) (x : Nat) : COk X (w.setCell ⟨X.bw, 8, none⟩ (.int .i64 (x : Nat))) F { s with at_ := x } sh :=
  h.stores 8 (by decide) (by decide) _ _ _ rfl ((set_far (by decide)).trans h.c0) ((set_far (by decide)).trans h.c1) ((set_far (by decide)).trans h.c2) ((set_far (by decide)).trans h.c3) ((set_far (by decide)).trans h.c6) (set_get h.c8) (by decide) (by decide)
theorem COk.drew (h : COk X w F s sh) : COk X w.drew F s sh := by obtain ⟨cs, h⟩ := h; exact ⟨cs, h.drew⟩
theorem COk.drewN (h : COk X w F s sh) (n : Nat) : COk X (w.drewN n) F s sh := by obtain ⟨cs, h⟩ := h; exact ⟨cs, h.drewN n⟩
theorem COk.head (h : COk X w F s sh) : X.bw ∈ F := by obtain ⟨cs, h⟩ := h; exact h.head
theorem COk.lt (h : COk X w F s sh) : ∀ q, q ∈ F → q < w.heap.size := by obtain ⟨cs, h⟩ := h; exact h.wok.lt
theorem COk.base (h : COk X w F s sh) : ∀ q, q ∈ F → X.B ≤ q := by obtain ⟨cs, h⟩ := h; exact h.wok.base
theorem COk.far (h : COk X w F s sh) : ∀ q, q ∈ X.G → q ∉ F ∧ q < w.heap.size := by obtain ⟨cs, h⟩ := h; exact h.far
theorem COk.keep {H H' : List Nat} (h : COk X w F s sh) (fr : Fr H w H' w') (h1 : ∀ q, q ∈ F → q ∉ H) (h2 : ∀ q, q ∈ X.G → q ∉ H) : COk X w' F s sh := by
  obtain ⟨cs, h⟩ := h
  refine ⟨cs, h.same (fun q hq => ?_) fr.size⟩
  rcases hq with hq | hq
  · exact fr.block q (h.wok.lt q hq) (h1 q hq)
  · exact fr.block q (h.far q hq).2 (h2 q hq)
theorem COk.below (h : COk X w F s sh) (hb : Below w.heap.size w w') : COk X w' F s sh := h.keep (Fr.of_below hb []) (by simp) (by simp)
/-- The cells of a coder. -/
theorem COk.cells (h : COk X w F s sh) : w.cell? ⟨X.bw, 0, none⟩ = some (.int .u64 (s.lo : Nat)) ∧ w.cell? ⟨X.bw, 1, none⟩ = some (.int .u64 (sh : Nat)) ∧ w.cell? ⟨X.bw, 2, none⟩ = some (.int .i64 (s.dl : Nat)) ∧ w.cell? ⟨X.bw, 3, none⟩ = some (.int .i64 (s.cnt : Nat)) ∧ w.cell? ⟨X.bw, 6, none⟩ = some (.int .u64 (s.num : Nat)) ∧ w.cell? ⟨X.bw, 7, none⟩ = some (.slice X.A X.n X.cap) ∧ w.cell? ⟨X.bw, 8, none⟩ = some (.int .i64 (s.at_ : Nat)) ∧ ∀ i, w.frozen? ⟨X.bw, i, none⟩ = false := by
  obtain ⟨cs, h⟩ := h
  exact ⟨(h.cell 0).trans h.c0, (h.cell 1).trans h.c1, (h.cell 2).trans h.c2, (h.cell 3).trans h.c3, (h.cell 6).trans h.c6, (h.cell 7).trans h.c7, (h.cell 8).trans h.c8, h.free⟩
theorem COk.set_lo (h : COk X w F s sh) (x : Nat) : COk X (w.setCell ⟨X.bw, 0, none⟩ (.int .u64 (x : Nat))) F { s with lo := x } sh := by obtain ⟨cs, h⟩ := h; exact h.set_lo x
theorem COk.set_sh (h : COk X w F s sh) (x : Nat) : COk X (w.setCell ⟨X.bw, 1, none⟩ (.int .u64 (x : Nat))) F s x := by obtain ⟨cs, h⟩ := h; exact h.set_sh x
theorem COk.set_dl (h : COk X w F s sh) (x : Nat) : COk X (w.setCell ⟨X.bw, 2, none⟩ (.int .i64 (x : Nat))) F { s with dl := x } sh := by obtain ⟨cs, h⟩ := h; exact h.set_dl x
theorem COk.set_cnt (h : COk X w F s sh) (x : Nat) : COk X (w.setCell ⟨X.bw, 3, none⟩ (.int .i64 (x : Nat))) F { s with cnt := x } sh := by obtain ⟨cs, h⟩ := h; exact h.set_cnt x
theorem COk.set_num (h : COk X w F s sh) (x : Nat) : COk X (w.setCell ⟨X.bw, 6, none⟩ (.int .u64 (x : Nat))) F { s with num := x } sh := by obtain ⟨cs, h⟩ := h; exact h.set_num x
theorem COk.set_at (h : COk X w F s sh) (x : Nat) : COk X (w.setCell ⟨X.bw, 8, none⟩ (.int .i64 (x : Nat))) F { s with at_ := x } sh := by obtain ⟨cs, h⟩ := h; exact h.set_at x
end

theorem Fr.only {F F' : List Nat} {a b c : World} {q : Nat} (h : Fr F a F' b) (k : Only q b c) (hq : q ∈ F') : Fr F a F' c :=
  h.trans ⟨k.os, k.tape, k.output, by rw [k.size]; exact Nat.le_refl _, fun p hp hn => k.block p (fun e => hn (by rw [e]; exact hq)), fun _ h => Or.inl h⟩
theorem Fr.store {F F' : List Nat} {a b : World} {q : Nat} (h : Fr F a F' b) (hq : q ∈ F') (i : Nat) (u : Value) : Fr F a F' (b.setCell ⟨q, i, none⟩ u) :=
  h.only (Only.setCell (b := q) (p := ⟨q, i, none⟩) (Only.refl q b) rfl u) hq
theorem high_ok {X : Box} {F : List Nat} {s : St} {sh : Nat} (h : Nat) (w : World) (hc : COk X w F s sh) (hh : h + sh = 4294967295) :
    Calls Try.prog 65 #[.pointer (some ⟨X.bw, 0, none⟩)] w fun e w' => e = .returned (.int .u64 (h : Nat)) ∧ w = w' := by
  obtain ⟨_, c1, _⟩ := hc.cells
  clear hc
  have hs : (4294967295 : Int) - (sh : Int) = (h : Int) := by omega
  have HS := Lib.hid hs; clear hs
  obtain ⟨bw, hb⟩ : ∃ b, b = X.bw := ⟨_, rfl⟩
  rw [← hb] at c1 ⊢
  clear hb
  go_enter Try.func65, Try.ntmps65
  go_wp2_with fail
  go_ret
  exact ⟨ret_congr (congrArg (Value.int .u64) HS.out), rfl⟩

theorem next_ok {X : Box} {F : List Nat} {s : St} {sh : Nat} (w : World) (h : COk X w F s sh) (ha : s.at_ ≤ 1000000) :
    Calls Try.prog 49 #[.pointer (some ⟨X.bw, 0, none⟩)] w fun e w' => e = .returned (.int .u64 (X.bit s.at_ : Nat)) ∧ COk X w' F { s with at_ := s.at_ + 1 } sh ∧ Only X.bw w w' := by
  obtain ⟨_, _, _, _, _, c7, c8, hf⟩ := h.cells
  have f8 := hf 8
  have hset := fun m => (h.drewN m).set_at (s.at_ + 1)
  have hrow : Row w X.G X.A X.n X.f := by obtain ⟨cs, h⟩ := h; exact h.row
  have hn : X.n ≤ 1000000 := by obtain ⟨cs, h⟩ := h; exact h.few
  have hby : ∀ i, i < X.n → X.f i < 256 := by obtain ⟨cs, h⟩ := h; exact h.byte
  have hbit : X.bit s.at_ = if s.at_ < 8 * X.n then X.f (s.at_ / 8) / 2 ^ (7 - s.at_ % 8) % 2 else 0 := rfl
  obtain ⟨a, ea⟩ : ∃ a, a = s.at_ := ⟨_, rfl⟩
  rw [← ea] at c8 hbit ha hset
  obtain ⟨v, ev⟩ : ∃ v, v = X.bit a := ⟨_, rfl⟩
  obtain ⟨n, en⟩ : ∃ n, n = X.n := ⟨_, rfl⟩
  obtain ⟨cap, ecap⟩ : ∃ c, c = X.cap := ⟨_, rfl⟩
  obtain ⟨bw, eb⟩ : ∃ c, c = X.bw := ⟨_, rfl⟩
  rw [← en, ← ecap, ← eb] at c7
  rw [← en] at hn hby hbit hrow
  rw [← eb] at f8 c8 hset ⊢
  have H := Lib.hid (And.intro hset (And.intro ea ev))
  rw [← ea, ← ev]
  rw [← ev] at hbit
  clear hset ea ev h hf en ecap eb
  by_cases hlt : a < 8 * n
  · rw [if_pos hlt] at hbit
    rcases hrow with h0 | ⟨g, cur, hA, hg, hh, hcur⟩
    · omega
    have hc := (cell_of_block hh (a / 8)).trans (hcur (a / 8) (by omega))
    have hb8 := hby (a / 8) (by omega)
    rw [hA] at c7
    obtain ⟨x, ex⟩ : ∃ x, x = X.f (a / 8) := ⟨_, rfl⟩
    rw [← ex] at hc hbit hb8
    have hv1 : v ≤ 1 := by rw [hbit]; omega
    have i1 : (0 : Int) ≤ ((a / 8 : Nat) : Int) := by omega
    have i2 : ((a / 8 : Nat) : Int) < (n : Int) := by omega
    have s1 : IntKind.i64.wrap (7 - (a : Int) % 8) = 7 - (a : Int) % 8 := Go.IntWalk.i64_in _ (by omega)
    have s2 : (0 : Int) ≤ 7 - (a : Int) % 8 := by omega
    have hv : bits .and .u64 (IntKind.u64.wrap ((x : Int) / 2 ^ (7 - a % 8))) 1 = (v : Int) := by
      have e : (x : Int) / 2 ^ (7 - a % 8) = ((x / 2 ^ (7 - a % 8) : Nat) : Int) := by rw [Int.natCast_ediv, Int.natCast_pow]; rfl
      have hl : x / 2 ^ (7 - a % 8) < 256 := Nat.lt_of_le_of_lt (Nat.div_le_self _ _) hb8
      rw [e, hbit]
      clear e hbit
      generalize x / 2 ^ (7 - a % 8) = q at hl ⊢
      rw [Bv.wrap_in (by omega) (by omega), ← Nat.and_one_is_mod]
      exact u64_and_nat q 1 (by omega) (by omega)
    have HV := Lib.hid hv
    clear hv hbit ex hA hh hcur hby hg
    go_enter Try.func49, Try.ntmps49
    go_wp2_with fail
    go_quiet (fail)
    go_wp2_with fail
    go_quiet (fail)
    rw [HV.out]
    go_wp2_with fail
    go_ret
    refine ⟨rfl, H.out.1 _, Only.setCell (b := bw) (p := ⟨bw, 8, none⟩) ((Only.refl bw w).drewN _) rfl _⟩
  · rw [if_neg hlt] at hbit
    subst hbit
    clear hrow hby
    go_enter Try.func49, Try.ntmps49
    go_wp2_with fail
    go_quiet (fail)
    go_wp2_with fail
    go_ret
    refine ⟨rfl, H.out.1 _, Only.setCell (b := bw) (p := ⟨bw, 8, none⟩) ((Only.refl bw w).drewN _) rfl _⟩

theorem bitsOf_one (b : Bool) : bitsOf b.toNat 1 = [b] := by cases b <;> rfl
theorem bitsOf_not (b : Bool) : bitsOf (1 - b.toNat) 1 = [!b] := by cases b <;> rfl
theorem COk.wok {X : Box} {w : World} {F : List Nat} {s : St} {sh : Nat} (h : COk X w F s sh) : ∃ cs, WOk w X.B X.bw 4 X.T cs F s.out ∧ ∀ w' F' l ds, WOk w' X.B X.bw 4 X.T ds F' l → SameBut 4 cs ds → Fr F w F' w' → COk X w' F' { s with out := l } sh := by
  obtain ⟨cs, h⟩ := h
  exact ⟨cs, h.wok, fun w' F' l ds h1 h2 h3 => ⟨ds, h.wrote h1 h2 h3⟩⟩
/-- A bit is put out by itself. -/
theorem bit_ok {X : Box} {F : List Nat} {s : St} {sh : Nat} (N : Nat) (b : Bool) (n : Int) (w : World) (h : COk X w F s sh) (hB : X.B ≤ w.heap.size) (hl : s.out.length + 1 ≤ 1048576) (en : n = N) (hN : N < 2) (hb : bitsOf N 1 = [b]) :
    Calls Try.prog 75 #[.pointer (some ⟨X.bw, 4, none⟩), .int .u64 n, .int .i64 1] w fun e w' => e = .returned (.int .i64 0) ∧ ∃ F', COk X w' F' { s with out := s.out ++ [b] } sh ∧ Fr F w F' w' := by
  obtain ⟨cs, hw, hk⟩ := h.wok
  refine (Put_z N 1 hw hB en rfl hl (by decide) hN).mono ?_
  rintro e w' ⟨rfl, F', ds, h1, h2, h3⟩
  rw [hb] at h1
  exact ⟨rfl, F', hk _ _ _ _ h1 h2 h3, h3⟩

theorem put_ok' {X : Box} {F : List Nat} {s : St} {sh : Nat} (B : Bool) (w : World) (h : COk X w F s sh) (hB : X.B ≤ w.heap.size) (hl : s.out.length + s.dl + 1 ≤ 1048576) :
    Calls Try.prog 76 #[.pointer (some ⟨X.bw, 0, none⟩), .int .u64 (B.toNat : Nat)] w fun e w' => e = .returned (.tuple #[]) ∧ ∃ F', COk X w' F' { s with out := s.out ++ (B :: List.replicate s.dl (!B)), dl := 0 } sh ∧ Fr F w F' w' := by
  have hb1 : B.toNat ≤ 1 := by cases B <;> decide
  have hB1 := bitsOf_one B
  have hB2 := bitsOf_not B
  obtain ⟨b, eb⟩ : ∃ b, b = B.toNat := ⟨_, rfl⟩
  rw [← eb] at hb1 hB1 hB2 ⊢
  have HB := Lib.hid (And.intro hB1 (And.intro hB2 hB)); clear hB1 hB2 hB eb
  have HH := Lib.hid h; clear h
  have hdl : s.dl ≤ 1048576 := by omega
  go_enter Try.func76, Try.ntmps76
  go_wp2_with fail
  refine (bit_ok b B _ w HH.out HB.out.2.2 (by omega) rfl (by omega) HB.out.1).mono ?_
  rintro e w1 ⟨rfl, F1, h1, fr1⟩
  obtain ⟨_, _, c2, _⟩ := h1.cells
  have H1 := Lib.hid (And.intro h1 fr1); clear h1 fr1
  go_wp2_with fail
  go_loopg [13] s.dl (fun gh i wr => ∃ j : Nat, gh = s.dl - j ∧ j ≤ s.dl ∧ i = .int .i64 j ∧ ∃ F', (COk X wr F' { s with out := s.out ++ (B :: List.replicate j (!B)) } sh ∧ Fr F w F' wr))
  case atStart => exact ⟨0, rfl, by omega, rfl, F1, by simpa using H1.out.1, H1.out.2⟩
  case round =>
    obtain ⟨j, hgh, hj, rfl, F2, hR⟩ := hrel
    have Hgh := Lib.hid hgh; clear hgh
    have HR := Lib.hid hR; clear hR H1
    by_cases hlt : j < s.dl
    · go_wp2_with fail
      refine (bit_ok (1 - b) (!B) _ wr HR.out.1 (Nat.le_trans HB.out.2.2 HR.out.2.size) (by simp; omega) (by omega) (by omega) HB.out.2.1).mono ?_
      rintro e w2 ⟨rfl, F3, h3, fr3⟩
      have H3 := Lib.hid (And.intro h3 fr3); clear h3 fr3
      go_wp2_with fail
      go_roundg (s.dl - (j + 1))
      case measure => have := Hgh.out; omega
      case rel =>
        refine ⟨j + 1, rfl, by omega, by go_num, F3, ?_, HR.out.2.trans H3.out.2⟩
        have := H3.out.1
        rw [List.replicate_succ']
        simpa using this
    · obtain rfl : j = s.dl := by omega
      obtain ⟨_, _, c2, _, _, _, _, hf⟩ := HR.out.1.cells
      have f2 := hf 2
      clear hf
      go_wp2_with fail
      go_end0
      exact ⟨rfl, F2, HR.out.1.set_dl 0, HR.out.2.store HR.out.1.head 2 _⟩
end Go.Proofs.Ytdekcilfkelhlaa
