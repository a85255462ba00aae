/- RngApart. -/
import Derived.Test.YtcljjpdggbkjfaaFair
set_option linter.unusedVariables false
namespace Go.Proofs.Ytcljjpdggbkjfaa
open Go.RowKit

def mixIn (x w : Int) : Int := mixI (IntKind.u64.wrap (bits .xor .u64 x w + 11400714819323198485))
theorem mixI_lo (z : Int) : 0 ≤ mixI z := by unfold mixI; omega
theorem mixI_hi (z : Int) : mixI z ≤ 18446744073709551615 := by unfold mixI; have := (M.mix (BitVec.ofInt 64 z)).isLt; omega
theorem mixIn_lo (x w : Int) : 0 ≤ mixIn x w := mixI_lo _
theorem mixIn_hi (x w : Int) : mixIn x w ≤ 18446744073709551615 := mixI_hi _
theorem mixI_inj {x y : Int} (x0 : 0 ≤ x) (x1 : x ≤ 18446744073709551615) (y0 : 0 ≤ y) (y1 : y ≤ 18446744073709551615) (h : mixI x = mixI y) : x = y := by
  unfold mixI at h
  have h2 : BitVec.ofInt 64 x = BitVec.ofInt 64 y := M.mix_inj (BitVec.eq_of_toNat_eq (by omega))
  rw [← Bv.toNat_ofInt x0 x1, ← Bv.toNat_ofInt y0 y1, h2]
theorem add_inj {x y : Int} (x0 : 0 ≤ x) (x1 : x ≤ 18446744073709551615) (y0 : 0 ≤ y) (y1 : y ≤ 18446744073709551615)
    (h : IntKind.u64.wrap (x + 11400714819323198485) = IntKind.u64.wrap (y + 11400714819323198485)) : x = y := by
  rw [IntKind.wrap_u64, IntKind.wrap_u64] at h; omega
theorem xor_in {x w : Int} (x0 : 0 ≤ x) (x1 : x ≤ 18446744073709551615) (w0 : 0 ≤ w) (w1 : w ≤ 18446744073709551615) : ∃ b : BitVec 64, bits .xor .u64 x w = (b.toNat : Int) ∧ b = BitVec.ofInt 64 x ^^^ BitVec.ofInt 64 w := by
  refine ⟨_, ?_, rfl⟩
  have := Bv.xor_eq (BitVec.ofInt 64 x) (BitVec.ofInt 64 w)
  rw [Bv.toNat_ofInt x0 x1, Bv.toNat_ofInt w0 w1] at this
  exact this
theorem xor_left {a b c : BitVec 64} (h : a ^^^ b = a ^^^ c) : b = c := by
  have := congrArg (fun t => a ^^^ t) h
  simpa [← BitVec.xor_assoc] using this
theorem xor_right {a b c : BitVec 64} (h : b ^^^ a = c ^^^ a) : b = c := by
  rw [BitVec.xor_comm b, BitVec.xor_comm c] at h; exact xor_left h
theorem ofInt_inj {x y : Int} (x0 : 0 ≤ x) (x1 : x ≤ 18446744073709551615) (y0 : 0 ≤ y) (y1 : y ≤ 18446744073709551615) (h : BitVec.ofInt 64 x = BitVec.ofInt 64 y) : x = y := by
  rw [← Bv.toNat_ofInt x0 x1, ← Bv.toNat_ofInt y0 y1, h]
theorem mixIn_w {x v w : Int} (x0 : 0 ≤ x) (x1 : x ≤ 18446744073709551615) (v0 : 0 ≤ v) (v1 : v ≤ 18446744073709551615) (w0 : 0 ≤ w) (w1 : w ≤ 18446744073709551615) (h : mixIn x v = mixIn x w) : v = w := by
  obtain ⟨a, ha, ha'⟩ := xor_in x0 x1 v0 v1
  obtain ⟨b, hb, hb'⟩ := xor_in x0 x1 w0 w1
  have h1 := mixI_inj (Bv.wrap_lo _) (Bv.wrap_hi _) (Bv.wrap_lo _) (Bv.wrap_hi _) h
  rw [ha, hb] at h1
  have h2 := add_inj (by omega) (by have := a.isLt; omega) (by omega) (by have := b.isLt; omega) h1
  have h3 : a = b := BitVec.eq_of_toNat_eq (by omega)
  rw [ha', hb'] at h3
  exact ofInt_inj v0 v1 w0 w1 (xor_left h3)
theorem mixIn_x {x y w : Int} (x0 : 0 ≤ x) (x1 : x ≤ 18446744073709551615) (y0 : 0 ≤ y) (y1 : y ≤ 18446744073709551615) (w0 : 0 ≤ w) (w1 : w ≤ 18446744073709551615) (h : mixIn x w = mixIn y w) : x = y := by
  obtain ⟨a, ha, ha'⟩ := xor_in x0 x1 w0 w1
  obtain ⟨b, hb, hb'⟩ := xor_in y0 y1 w0 w1
  have h1 := mixI_inj (Bv.wrap_lo _) (Bv.wrap_hi _) (Bv.wrap_lo _) (Bv.wrap_hi _) h
  rw [ha, hb] at h1
  have h2 := add_inj (by omega) (by have := a.isLt; omega) (by omega) (by have := b.isLt; omega) h1
  have h3 : a = b := BitVec.eq_of_toNat_eq (by omega)
  rw [ha', hb'] at h3
  exact ofInt_inj x0 x1 y0 y1 (xor_right h3)

def newI (seed tick entity key : Int) : Int := mixIn (mixIn (mixIn (mixI (IntKind.u64.wrap (seed + 11400714819323198485))) (IntKind.u64.wrap tick)) (IntKind.u64.wrap entity)) key
theorem u64_inj {a b : Int} (a0 : -9223372036854775808 ≤ a) (a1 : a ≤ 9223372036854775807) (b0 : -9223372036854775808 ≤ b) (b1 : b ≤ 9223372036854775807) (h : IntKind.u64.wrap a = IntKind.u64.wrap b) : a = b := by
  rw [IntKind.wrap_u64, IntKind.wrap_u64] at h; omega

def stage (seed tick entity key : Int) : Nat → Int
  | 0 => mixI (IntKind.u64.wrap (seed + 11400714819323198485))
  | 1 => mixIn (mixI (IntKind.u64.wrap (seed + 11400714819323198485))) (IntKind.u64.wrap tick)
  | 2 => mixIn (mixIn (mixI (IntKind.u64.wrap (seed + 11400714819323198485))) (IntKind.u64.wrap tick)) (IntKind.u64.wrap entity)
  | _ => newI seed tick entity key

set_option maxHeartbeats 400000 in
theorem New_calls (seed tick entity key : Int) (w : World) (s0 : 0 ≤ seed) (s1 : seed ≤ 18446744073709551615) (k0 : 0 ≤ key) (k1 : key ≤ 18446744073709551615) :
    Calls Try.prog 20 #[.int .u64 seed, .int .i64 tick, .int .i64 entity, .int .u64 key] w fun e w' => e = .returned (.int .u64 (newI seed tick entity key)) ∧ Below w.heap.size w w' := by
  obtain ⟨t, ht⟩ : ∃ t, t = IntKind.u64.wrap tick := ⟨_, rfl⟩
  obtain ⟨u, hu⟩ : ∃ u, u = IntKind.u64.wrap entity := ⟨_, rfl⟩
  have mx := fun (z : Int) (w : World) => mix_calls (IntKind.u64.wrap z) w (Bv.wrap_lo _) (Bv.wrap_hi _)
  have HT := Lib.hid (And.intro ht (And.intro hu mx))
  have bt : Below w.heap.size w (w.alloc (.cells #[.int .u64 (IntKind.u64.wrap tick), .int .u64 (IntKind.u64.wrap entity), .int .u64 key] 22)) := (Below.refl _ _).alloc (Nat.le_refl _) _
  have HB := Lib.hid bt
  clear ht hu mx bt
  go_enter Try.func20, Try.ntmps20
  go_wp2_with (go_at_call 24; refine (HT.out.2.2 _ _).mono ?_; rintro e w' ⟨rfl, rfl⟩)
  go_loopg [9, 22] 3 (fun gh x i wr => ∃ j : Nat, gh = 3 - j ∧ j ≤ 3 ∧ i = .int .i64 j ∧ x = .int .u64 (stage seed tick entity key j) ∧ wr = w.alloc (.cells #[.int .u64 (IntKind.u64.wrap tick), .int .u64 (IntKind.u64.wrap entity), .int .u64 key] 22))
  case atStart => exact ⟨0, rfl, by omega, rfl, rfl, rfl⟩
  case round =>
    obtain ⟨j, hgh, hj, rfl, rfl, rfl⟩ := hrel
    have Hgh := Lib.hid hgh; clear hgh
    rcases (show j = 0 ∨ j = 1 ∨ j = 2 ∨ j = 3 from by omega) with rfl | rfl | rfl | rfl
    · go_wp2_with (go_at_call 24; refine (HT.out.2.2 _ _).mono ?_; rintro e w' ⟨rfl, rfl⟩)
      go_roundg 2
      case measure => have := Hgh.out; omega
      case rel => exact ⟨1, rfl, by omega, by go_num, rfl, rfl⟩
    · go_wp2_with (go_at_call 24; refine (HT.out.2.2 _ _).mono ?_; rintro e w' ⟨rfl, rfl⟩)
      go_roundg 1
      case measure => have := Hgh.out; omega
      case rel => exact ⟨2, rfl, by omega, by go_num, rfl, rfl⟩
    · go_wp2_with (go_at_call 24; refine (HT.out.2.2 _ _).mono ?_; rintro e w' ⟨rfl, rfl⟩)
      go_roundg 0
      case measure => have := Hgh.out; omega
      case rel => exact ⟨3, rfl, by omega, by go_num, rfl, rfl⟩
    · go_wp2_with fail
      go_ret
      exact ⟨rfl, HB.out⟩

theorem newI_in (seed tick entity key : Int) : 0 ≤ newI seed tick entity key ∧ newI seed tick entity key ≤ 18446744073709551615 := ⟨mixIn_lo _ _, mixIn_hi _ _⟩
theorem beq_of_inj {a b c d : Int} (h : a = b ↔ c = d) : (a == b) = (c == d) := by
  rw [Bool.eq_iff_iff, beq_iff_eq, beq_iff_eq]; exact h

theorem new_seed {s o t e k : Int} (s0 : 0 ≤ s) (s1 : s ≤ 18446744073709551615) (o0 : 0 ≤ o) (o1 : o ≤ 18446744073709551615) (k0 : 0 ≤ k) (k1 : k ≤ 18446744073709551615) : (newI o t e k == newI s t e k) = (o == s) :=
  beq_of_inj ⟨fun h => add_inj o0 o1 s0 s1 (mixI_inj (Bv.wrap_lo _) (Bv.wrap_hi _) (Bv.wrap_lo _) (Bv.wrap_hi _) (mixIn_x (mixI_lo _) (mixI_hi _) (mixI_lo _) (mixI_hi _) (Bv.wrap_lo _) (Bv.wrap_hi _)
    (mixIn_x (mixIn_lo _ _) (mixIn_hi _ _) (mixIn_lo _ _) (mixIn_hi _ _) (Bv.wrap_lo _) (Bv.wrap_hi _) (mixIn_x (mixIn_lo _ _) (mixIn_hi _ _) (mixIn_lo _ _) (mixIn_hi _ _) k0 k1 h)))), fun h => by rw [h]⟩
theorem new_tick {s t u e k : Int} (t0 : -9223372036854775808 ≤ t) (t1 : t ≤ 9223372036854775807) (u0 : -9223372036854775808 ≤ u) (u1 : u ≤ 9223372036854775807) (k0 : 0 ≤ k) (k1 : k ≤ 18446744073709551615) : (newI s u e k == newI s t e k) = (u == t) :=
  beq_of_inj ⟨fun h => u64_inj u0 u1 t0 t1 (mixIn_w (mixI_lo _) (mixI_hi _) (Bv.wrap_lo _) (Bv.wrap_hi _) (Bv.wrap_lo _) (Bv.wrap_hi _)
    (mixIn_x (mixIn_lo _ _) (mixIn_hi _ _) (mixIn_lo _ _) (mixIn_hi _ _) (Bv.wrap_lo _) (Bv.wrap_hi _) (mixIn_x (mixIn_lo _ _) (mixIn_hi _ _) (mixIn_lo _ _) (mixIn_hi _ _) k0 k1 h))), fun h => by rw [h]⟩
theorem new_entity {s t u e k : Int} (t0 : -9223372036854775808 ≤ e) (t1 : e ≤ 9223372036854775807) (u0 : -9223372036854775808 ≤ u) (u1 : u ≤ 9223372036854775807) (k0 : 0 ≤ k) (k1 : k ≤ 18446744073709551615) : (newI s t u k == newI s t e k) = (u == e) :=
  beq_of_inj ⟨fun h => u64_inj u0 u1 t0 t1 (mixIn_w (mixIn_lo _ _) (mixIn_hi _ _) (Bv.wrap_lo _) (Bv.wrap_hi _) (Bv.wrap_lo _) (Bv.wrap_hi _)
    (mixIn_x (mixIn_lo _ _) (mixIn_hi _ _) (mixIn_lo _ _) (mixIn_hi _ _) k0 k1 h)), fun h => by rw [h]⟩
theorem new_key {s t e k o : Int} (o0 : 0 ≤ o) (o1 : o ≤ 18446744073709551615) (k0 : 0 ≤ k) (k1 : k ≤ 18446744073709551615) : (newI s t e o == newI s t e k) = (o == k) :=
  beq_of_inj ⟨fun h => mixIn_w (mixIn_lo _ _) (mixIn_hi _ _) o0 o1 k0 k1 h, fun h => by rw [h]⟩
theorem ofInt_inj_i64 {x y : Int} (x0 : -9223372036854775808 ≤ x) (x1 : x ≤ 9223372036854775807) (y0 : -9223372036854775808 ≤ y) (y1 : y ≤ 9223372036854775807) (h : BitVec.ofInt 64 x = BitVec.ofInt 64 y) : x = y := by
  have := congrArg BitVec.toNat h
  rw [BitVec.toNat_ofInt, BitVec.toNat_ofInt] at this
  omega
theorem word_k {s k l : Int} (k0 : -9223372036854775808 ≤ k) (k1 : k ≤ 9223372036854775807) (l0 : -9223372036854775808 ≤ l) (l1 : l ≤ 9223372036854775807) : (wordI s k == wordI s l) = (k == l) :=
  beq_of_inj ⟨fun h => ofInt_inj_i64 k0 k1 l0 l1 (M.word_inj_k (s := BitVec.ofInt 64 s) (BitVec.eq_of_toNat_eq (by unfold wordI at h; omega))), fun h => by rw [h]⟩
theorem word_s {s t k : Int} (k0 : 0 ≤ s) (k1 : s ≤ 18446744073709551615) (l0 : 0 ≤ t) (l1 : t ≤ 18446744073709551615) : (wordI s k == wordI t k) = (s == t) :=
  beq_of_inj ⟨fun h => ofInt_inj k0 k1 l0 l1 (M.word_inj_s (k := BitVec.ofInt 64 k) (BitVec.eq_of_toNat_eq (by unfold wordI at h; omega))), fun h => by rw [h]⟩

theorem new_at (seed tick entity key r : Int) (w : World) (s0 : 0 ≤ seed) (s1 : seed ≤ 18446744073709551615) (k0 : 0 ≤ key) (k1 : key ≤ 18446744073709551615) (h : newI seed tick entity key = r) :
    Calls Try.prog 20 #[.int .u64 seed, .int .i64 tick, .int .i64 entity, .int .u64 key] w fun e w' => e = .returned (.int .u64 r) ∧ Below w.heap.size w w' := by
  rw [← h]; exact New_calls seed tick entity key w s0 s1 k0 k1

set_option maxRecDepth 100000 in
set_option maxHeartbeats 1000000 in
theorem apart_walk (s o t e key k l : Int) (w : World) (s0 : 0 ≤ s) (s1 : s ≤ 18446744073709551615) (o0 : 0 ≤ o) (o1 : o ≤ 18446744073709551615) (t0 : -9223372036854775808 ≤ t) (t1 : t ≤ 9223372036854775807) (e0 : -9223372036854775808 ≤ e) (e1 : e ≤ 9223372036854775807)
    (y0 : 0 ≤ key) (y1 : key ≤ 18446744073709551615) (k0 : -9223372036854775808 ≤ k) (k1 : k ≤ 9223372036854775807) (l0 : -9223372036854775808 ≤ l) (l1 : l ≤ 9223372036854775807) :
    Calls Try.prog 9 #[.int .u64 s, .int .u64 o, .int .i64 t, .int .i64 e, .int .u64 key, .int .i64 k, .int .i64 l] w fun e w' => e = .returned (.bool true) ∧ Below w.heap.size w w' := by
  have f1 := new_seed (t := t) (e := e) s0 s1 o0 o1 y0 y1
  have f2 := new_tick (s := s) (e := e) t0 t1 k0 k1 y0 y1
  have f3 := new_entity (s := s) (t := t) e0 e1 l0 l1 y0 y1
  have f4 := new_key (s := s) (t := t) (e := e) o0 o1 y0 y1
  have f5 := word_k (s := newI s t e key) k0 k1 l0 l1
  have f6 := word_s (k := k) s0 s1 o0 o1
  have hn := newI_in s t e key
  have c0 := fun w => new_at s t e key _ w s0 s1 y0 y1 rfl
  have c1 := fun w => new_at o t e key _ w o0 o1 y0 y1 rfl
  have c2 := fun w => new_at s k e key _ w s0 s1 y0 y1 rfl
  have c3 := fun w => new_at s t l key _ w s0 s1 y0 y1 rfl
  have c4 := fun w => new_at s t e o _ w s0 s1 o0 o1 rfl
  generalize newI o t e key = N1 at *
  generalize newI s k e key = N2 at *
  generalize newI s t l key = N3 at *
  generalize newI s t e o = N4 at *
  generalize newI s t e key = N0 at *
  have c5 := fun w => word_at N0 k _ w rfl
  have c6 := fun w => word_at N0 l _ w rfl
  have c7 := fun w => word_at s k _ w rfl
  have c8 := fun w => word_at o k _ w rfl
  generalize wordI N0 k = W0 at *
  generalize wordI N0 l = W1 at *
  generalize wordI s k = W2 at *
  generalize wordI o k = W3 at *
  have HC := Lib.hid (And.intro c0 (And.intro c1 (And.intro c2 (And.intro c3 (And.intro c4 (And.intro c5 (And.intro c6 (And.intro c7 c8))))))))
  clear c0 c1 c2 c3 c4 c5 c6 c7 c8
  go_enter Try.func9, Try.ntmps9
  go_wp2_with fail
  refine (HC.out.1 _).mono ?_
  rintro e w1 ⟨rfl, hb⟩
  have HB1 := Lib.hid hb; clear hb
  go_wp2_with fail
  refine (HC.out.2.1 _).mono ?_
  rintro e w2 ⟨rfl, hb⟩
  have HB2 := Lib.hid (then_ HB1.out hb); clear hb HB1
  go_wp2_with fail
  refine (HC.out.2.2.1 _).mono ?_
  rintro e w3 ⟨rfl, hb⟩
  have HB3 := Lib.hid (then_ HB2.out hb); clear hb HB2
  go_wp2_with fail
  refine (HC.out.2.2.2.1 _).mono ?_
  rintro e w4 ⟨rfl, hb⟩
  have HB4 := Lib.hid (then_ HB3.out hb); clear hb HB3
  go_wp2_with fail
  refine (HC.out.2.2.2.2.1 _).mono ?_
  rintro e w5 ⟨rfl, hb⟩
  have HB5 := Lib.hid (then_ HB4.out hb); clear hb HB4
  go_wp2_with fail
  refine (HC.out.2.2.2.2.2.1 _).mono ?_
  rintro e w' ⟨rfl, rfl⟩
  go_wp2_with fail
  refine (HC.out.2.2.2.2.2.2.1 _).mono ?_
  rintro e w' ⟨rfl, rfl⟩
  go_wp2_with fail
  refine (HC.out.2.2.2.2.2.2.2.1 _).mono ?_
  rintro e w' ⟨rfl, rfl⟩
  go_wp2_with fail
  refine (HC.out.2.2.2.2.2.2.2.2 _).mono ?_
  rintro e w' ⟨rfl, rfl⟩
  go_wp2_with fail
  refine (awake_calls _).mono ?_
  rintro e w6 ⟨rfl, hb⟩
  have HB6 := Lib.hid (then_ HB5.out hb); clear hb HB5
  go_wp2_with fail
  go_ret
  exact ⟨rfl, HB6.out⟩
end Go.Proofs.Ytcljjpdggbkjfaa
