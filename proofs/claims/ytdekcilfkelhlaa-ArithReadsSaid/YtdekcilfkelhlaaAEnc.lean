/- Encoder: Put, Bytes; what a state keeps. -/
import Derived.Test.YtdekcilfkelhlaaABytes
set_option linter.unusedVariables false
namespace Go.Proofs.Ytdekcilfkelhlaa
open Go.RowKit

theorem shift_good {bit : Nat → Nat} {s : St} {x : Nat} {o : List Bool} {d : Nat} (h : pick s = some (x, o, d)) (hg : Good s) :
    Good (shift bit s x o d) ∧ (shift bit s x o d).hi - (shift bit s x o d).lo + 1 = 2 * (s.hi - s.lo + 1) ∧ (shift bit s x o d).at_ = s.at_ + 1 := by
  obtain ⟨h1, h2, h3, h4⟩ := pick_some h hg.le hg.hi
  have := hg.le
  have := hg.out
  refine ⟨⟨by simp only [shift]; omega, by simp only [shift]; omega, by simp only [shift]; omega, by simp only [shift]; omega⟩, by simp only [shift]; omega, rfl⟩
theorem scaleN_good (bit : Nat → Nat) (k : Nat) : ∀ s, Good s → 4294967296 < (s.hi - s.lo + 1) * 2 ^ k → Good (scaleN bit k s) ∧ pick (scaleN bit k s) = none ∧ (scaleN bit k s).at_ ≤ s.at_ + k ∧ s.at_ ≤ (scaleN bit k s).at_ := by
  induction k with
  | zero => intro s hg h; have := hg.hi; simp at h; omega
  | succ k ih =>
    intro s hg h
    rcases hp : pick s with _ | ⟨x, o, d⟩
    · rw [scaleN_none hp]; exact ⟨hg, hp, by omega, by omega⟩
    · rw [scaleN_some hp]
      obtain ⟨g1, g2, g3⟩ := shift_good (bit := bit) hp hg
      obtain ⟨i1, i2, i3, i4⟩ := ih _ g1 (by
        rw [g2]
        rw [Nat.pow_succ] at h
        calc 4294967296 < (s.hi - s.lo + 1) * (2 ^ k * 2) := h
          _ = 2 * (s.hi - s.lo + 1) * 2 ^ k := by rw [Nat.mul_comm (2 ^ k) 2, ← Nat.mul_assoc, Nat.mul_comm _ 2])
      exact ⟨i1, i2, by omega, by omega⟩
/-- A state between symbols. -/
structure Live (s : St) : Prop where
  good : Good s
  none : pick s = none
  at_ : s.at_ ≤ 32 + 16 * s.cnt
theorem code_live {bit : Nat → Nat} {fr : List Nat} {i : Nat} {s : St} (h : Live s) (h1 : ∀ x, x ∈ fr → 1 ≤ x) (h2 : fr.sum ≤ 8192) (hi : i < fr.length) :
    Live (codeSt bit fr i s) ∧ (codeSt bit fr i s).cnt = s.cnt + 1 := by
  obtain ⟨n1, n2, _, _⟩ := narrow_good h.good h.none h1 h2 hi
  obtain ⟨g1, g2, g3, _⟩ := scaleN_good bit 16 (narrow fr i s) n1 (by omega)
  refine ⟨⟨⟨g1.le, g1.hi, g1.out, g1.num⟩, g2, ?_⟩, rfl⟩
  have := h.at_
  have e : (narrow fr i s).at_ = s.at_ := rfl
  simp only [codeSt]
  omega
def st0 : St := { lo := 0, hi := 4294967295, dl := 0, cnt := 0, out := [], num := 0, at_ := 0 }
theorem live0 : Live st0 := ⟨⟨by decide, by decide, by decide, by decide⟩, by decide, by decide⟩

/-- A new Encoder. -/
def encBox (B bw : Nat) : Box := { B := B, bw := bw, T := 33, G := [], A := none, n := 0, cap := 0, f := fun _ => 0, x9 := none }
theorem enc_new (w : World) (B : Nat) (hB : B ≤ w.heap.size) : COk (encBox B w.heap.size) (w.alloc (.cells #[.int .u64 0, .int .u64 0, .int .i64 0, .int .i64 0, .slice none 0 0, .int .i64 0, .int .u64 0, .slice none 0 0, .int .i64 0] 33)) [w.heap.size] st0 (4294967295 - st0.hi) :=
  ⟨_, WOk.new hB rfl rfl (by decide), rfl, rfl, rfl, rfl, rfl, rfl, rfl, rfl, Or.inl rfl, by simp [encBox], by simp [encBox], by simp [encBox]⟩

/-- An Encoder (or another holder of a coder) between symbols. -/
structure EOk (X : Box) (w : World) (F : List Nat) (s : St) : Prop where
  c : COk X w F s (4294967295 - s.hi)
  live : Live s
  base : X.B ≤ w.heap.size
theorem EOk.keep {X : Box} {w w' : World} {F : List Nat} {s : St} {H H' : List Nat} (h : EOk X w F s) (fr : Fr H w H' w') (h1 : ∀ q, q ∈ F → q ∉ H) (h2 : ∀ q, q ∈ X.G → q ∉ H) : EOk X w' F s := ⟨h.c.keep fr h1 h2, h.live, Nat.le_trans h.base fr.size⟩
theorem EOk.below {X : Box} {w w' : World} {F : List Nat} {s : St} (h : EOk X w F s) (hb : Below w.heap.size w w') : EOk X w' F s := ⟨h.c.below hb, h.live, Nat.le_trans h.base hb.size⟩

theorem codes_ok {X : Box} {F : List Nat} {st : St} {bm g : Nat} {fr : List Nat} (i : Nat) (w : World) (h : EOk X w F st) (hc : st.cnt < 32768) (hm : MOk w bm g fr) (hi : i < fr.length) (hF : bm ∉ F ∧ g ∉ F) (hG : bm ∉ X.G ∧ g ∉ X.G) :
    Calls Try.prog 42 #[.pointer (some ⟨X.bw, 0, none⟩), .pointer (some ⟨bm, 0, none⟩), .int .i64 (i : Nat)] w fun e w' => e = .returned (.tuple #[]) ∧ ∃ F', EOk X w' F' (codeSt X.bit fr i st) ∧ MOk w' bm g (learn fr i) ∧ Fr (F ++ [bm, g]) w (F' ++ [bm, g]) w' := by
  have := h.live.at_
  refine (code_ok i w h.c h.base h.live.good h.live.none hm hi hF hG (by omega) (by omega)).mono ?_
  rintro e w' ⟨rfl, F', h1, h2, h3⟩
  exact ⟨rfl, F', ⟨h1, (code_live h.live hm.one hm.tot hi).1, Nat.le_trans h.base h3.size⟩, h2, h3⟩

set_option maxRecDepth 100000 in
theorem Put_e {X : Box} {F : List Nat} {st : St} {bm g : Nat} {fr : List Nat} (i : Nat) (w : World) (h : EOk X w F st) (hc : st.cnt < 32768) (hm : MOk w bm g fr) (hi : i < fr.length) (hF : bm ∉ F ∧ g ∉ F) (hG : bm ∉ X.G ∧ g ∉ X.G) :
    Calls Try.prog 15 #[.pointer (some ⟨X.bw, 0, none⟩), .pointer (some ⟨bm, 0, none⟩), .int .i64 (i : Nat)] w fun e w' => e = .returned (.int .i64 0) ∧ ∃ F', EOk X w' F' (codeSt X.bit fr i st) ∧ MOk w' bm g (learn fr i) ∧ Fr (F ++ [bm, g]) w (F' ++ [bm, g]) w' := by
  obtain ⟨_, _, _, k3, _⟩ := h.c.cells
  have hcode := codes_ok i w h hc hm hi hF hG
  have hth := there_ok w hm
  have hhas := has_ok (i : Int) true w hm (Or.inl ⟨rfl, by omega, by omega⟩)
  have d1 : decide ((32768 : Int) ≤ (st.cnt : Nat)) = false := decide_eq_false (by omega)
  have H := Lib.hid (And.intro hcode (And.intro hth hhas))
  clear h hm hcode hth hhas
  go_enter Try.func15, Try.ntmps15
  go_wp2_with fail
  refine H.out.2.1.mono ?_
  rintro e w' ⟨rfl, rfl⟩
  go_wp2_with fail
  refine H.out.2.2.mono ?_
  rintro e w' ⟨rfl, rfl⟩
  go_wp2_with fail
  refine H.out.1.mono ?_
  rintro e w' ⟨rfl, hq⟩
  have HQ := Lib.hid hq; clear hq
  go_wp2_with fail
  go_ret
  exact ⟨rfl, HQ.out⟩
theorem Put_full {X : Box} {F : List Nat} {st : St} {bm g : Nat} {fr : List Nat} (i : Nat) (w : World) (h : EOk X w F st) (hc : 32768 ≤ st.cnt) (hm : MOk w bm g fr) (hi : i < fr.length) :
    Calls Try.prog 15 #[.pointer (some ⟨X.bw, 0, none⟩), .pointer (some ⟨bm, 0, none⟩), .int .i64 (i : Nat)] w fun e w' => e = .returned (.int .i64 4) ∧ w = w' := by
  obtain ⟨_, _, _, k3, _⟩ := h.c.cells
  have hth := there_ok w hm
  have hhas := has_ok (i : Int) true w hm (Or.inl ⟨rfl, by omega, by omega⟩)
  have d1 : decide ((32768 : Int) ≤ (st.cnt : Nat)) = true := decide_eq_true (by omega)
  have H := Lib.hid (And.intro hth hhas)
  clear h hm hth hhas
  go_enter Try.func15, Try.ntmps15
  go_wp2_with fail
  refine H.out.1.mono ?_
  rintro e w' ⟨rfl, rfl⟩
  go_wp2_with fail
  refine H.out.2.mono ?_
  rintro e w' ⟨rfl, rfl⟩
  go_wp2_with fail
  go_ret
  exact ⟨rfl, rfl⟩
theorem Put_arg {bw bm g : Nat} {fr : List Nat} (i : Int) (w : World) (hm : MOk w bm g fr) (hi : i < 0 ∨ (fr.length : Int) ≤ i) :
    Calls Try.prog 15 #[.pointer (some ⟨bw, 0, none⟩), .pointer (some ⟨bm, 0, none⟩), .int .i64 i] w fun e w' => e = .returned (.int .i64 2) ∧ w = w' := by
  have hth := there_ok w hm
  have hhas := has_ok i false w hm (Or.inr ⟨rfl, hi⟩)
  have H := Lib.hid (And.intro hth hhas)
  clear hm hth hhas hi
  go_enter Try.func15, Try.ntmps15
  go_wp2_with fail
  refine H.out.1.mono ?_
  rintro e w' ⟨rfl, rfl⟩
  go_wp2_with fail
  refine H.out.2.mono ?_
  rintro e w' ⟨rfl, rfl⟩
  go_wp2_with fail
  go_ret
  exact ⟨rfl, rfl⟩
theorem Bytes_e {X : Box} {F : List Nat} {st : St} (w : World) (h : EOk X w F st) (hc : st.cnt ≤ 32768) :
    Calls Try.prog 29 #[.pointer (some ⟨X.bw, 0, none⟩)] w fun e w' => ∃ v, e = .returned v ∧ NewRow w w' v (nbytes (endBits st)) (M.byteOf (endBits st)) := by
  have := h.live.at_
  have := h.live.good.out
  have hb := bytes_ok _ w h.c (by omega)
  have H := Lib.hid hb
  clear h hb
  go_enter Try.func29, Try.ntmps29
  go_wp2_with fail
  refine H.out.mono ?_
  rintro e w' ⟨v, rfl, hq⟩
  have HQ := Lib.hid hq; clear hq
  go_wp2_with fail
  go_ret
  exact ⟨v, rfl, HQ.out⟩
end Go.Proofs.Ytdekcilfkelhlaa
