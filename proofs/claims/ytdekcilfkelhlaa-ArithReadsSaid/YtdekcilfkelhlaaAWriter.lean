/- Frames: what a call on an object leaves of the others; Writers as objects. -/
import Derived.Test.YtdekcilfkelhlaaAPut
set_option linter.unusedVariables false
namespace Go.Proofs.Ytdekcilfkelhlaa
open Go.RowKit

/-- A call that began with the blocks F of an object and ends with its blocks G: no other block has turned. -/
structure Fr (F : List Nat) (w : World) (G : List Nat) (w' : World) : Prop where
  os : w'.os = w.os
  tape : w'.tape = w.tape
  output : w'.output = w.output
  size : w.heap.size ≤ w'.heap.size
  block : ∀ q, q < w.heap.size → q ∉ F → w'.heap[q]? = w.heap[q]?
  own : ∀ q, q ∈ G → q ∈ F ∨ w.heap.size ≤ q
theorem Fr.refl (F : List Nat) (w : World) : Fr F w F w := ⟨rfl, rfl, rfl, Nat.le_refl _, fun _ _ _ => rfl, fun _ h => Or.inl h⟩
theorem Fr.trans {F G H : List Nat} {a b c : World} (h : Fr F a G b) (k : Fr G b H c) : Fr F a H c := by
  refine ⟨k.os.trans h.os, k.tape.trans h.tape, k.output.trans h.output, Nat.le_trans h.size k.size, ?_, ?_⟩
  · intro q hq hF
    refine (k.block q (Nat.lt_of_lt_of_le hq h.size) ?_).trans (h.block q hq hF)
    intro hG
    rcases h.own q hG with h1 | h1
    · exact hF h1
    · omega
  · intro q hq
    rcases k.own q hq with h1 | h1
    · exact h.own q h1
    · exact Or.inr (Nat.le_trans h.size h1)
/-- A call on another object in between. -/
theorem Fr.more {F G : List Nat} {a b : World} (h : Fr F a G b) (H : List Nat) : Fr (F ++ H) a (G ++ H) b := by
  refine ⟨h.os, h.tape, h.output, h.size, fun q hq hF => h.block q hq (fun e => hF (List.mem_append_left _ e)), ?_⟩
  intro q hq
  rcases List.mem_append.1 hq with h1 | h1
  · rcases h.own q h1 with h2 | h2
    · exact Or.inl (List.mem_append_left _ h2)
    · exact Or.inr h2
  · exact Or.inl (List.mem_append_right _ h1)
theorem Fr.wide {F F' G : List Nat} {a b : World} (h : Fr F a G b) (hF : ∀ q, q ∈ F → q ∈ F') : Fr F' a G b :=
  ⟨h.os, h.tape, h.output, h.size, fun q hq hn => h.block q hq (fun e => hn (hF q e)), fun q hq => (h.own q hq).imp (hF q) id⟩
theorem Fr.drewN {F G : List Nat} {a b : World} (h : Fr F a G b) (n : Nat) : Fr F a G (b.drewN n) := ⟨h.os, h.tape, h.output, h.size, h.block, h.own⟩
theorem Fr.of_below {w w' : World} (h : Below w.heap.size w w') (F : List Nat) : Fr F w F w' := ⟨h.os, h.tape, h.output, h.size, fun q hq _ => h.block q hq, fun _ hq => Or.inl hq⟩
theorem Fr.of_only {b : Nat} {w w' : World} (h : Only b w w') : Fr [b] w [b] w' := ⟨h.os, h.tape, h.output, by rw [h.size]; exact Nat.le_refl _, fun q _ hn => h.block q (fun e => hn (by simp [e])), fun _ hq => Or.inl hq⟩
theorem Fr.below {F G : List Nat} {w w' : World} (h : Fr F w G w') {B : Nat} (hB : B ≤ w.heap.size) (hF : ∀ q, q ∈ F → B ≤ q) : Below B w w' :=
  ⟨h.os, h.tape, h.output, h.size, fun q hq => h.block q (by omega) (fun e => by have := hF q e; omega)⟩
/-- The blocks of another object are not this one's afterwards. -/
theorem Fr.apart {F G H : List Nat} {w w' : World} (h : Fr F w G w') (hd : ∀ q, q ∈ H → q ∉ F) (hl : ∀ q, q ∈ H → q < w.heap.size) : ∀ q, q ∈ H → q ∉ G := by
  intro q hq hG
  rcases h.own q hG with h1 | h1
  · exact hd q hq h1
  · have := hl q hq; omega
theorem Fr.base {F G : List Nat} {w w' : World} (h : Fr F w G w') {B : Nat} (hB : B ≤ w.heap.size) (hF : ∀ q, q ∈ F → B ≤ q) : ∀ q, q ∈ G → B ≤ q := by
  intro q hG
  rcases h.own q hG with h1 | h1
  · exact hF q h1
  · omega

/-- A Writer at place o of block bw, whose cells are cs: its blocks are F, its bits are l. -/
def WOk (w : World) (B bw o : Nat) (T : TypeId) (cs : Array Value) (F : List Nat) (l : List Bool) : Prop := ∃ v, WIn w B bw o T cs v l ∧ F = bw :: v.ownBlock.toList ∧ B ≤ bw
theorem PutFr.fr {w w' : World} {bw : Nat} {v v' : Value} (h : PutFr w bw v w' v') : Fr (bw :: v.ownBlock.toList) w (bw :: v'.ownBlock.toList) w' := by
  refine ⟨h.os, h.tape, h.output, h.size, ?_, ?_⟩
  · intro q hq hn
    simp only [List.mem_cons, Option.mem_toList, not_or] at hn
    exact h.block q hq hn.1 hn.2
  · intro q hq
    simp only [List.mem_cons, Option.mem_toList] at hq ⊢
    rcases hq with h1 | h1
    · exact Or.inl (Or.inl h1)
    · rcases h.own with h2 | ⟨g, h2, h3⟩
      · rw [h2] at h1; exact Or.inl (Or.inr h1)
      · rw [h2] at h1; injection h1 with h1; subst h1; exact Or.inr h3
theorem own_lt {w : World} {B e s n : Nat} {v : Value} {xs : List Value} (h : w.ownsRow B e s v n xs) {q : Nat} (hq : v.ownBlock = some q) : q < w.heap.size ∧ B ≤ q := by
  rcases h.2 with ⟨rfl, _⟩ | ⟨g, cap, cur, rfl, hB, hh, _⟩
  · simp [Value.ownBlock] at hq
  · have : g = q := by simpa [Value.ownBlock] using hq
    subst this
    exact ⟨lt_of_block hh, hB⟩
theorem own_kept {w w' : World} {B e s n : Nat} {v : Value} {xs : List Value} (h : w.ownsRow B e s v n xs) (hk : ∀ q, v.ownBlock = some q → w'.heap[q]? = w.heap[q]?) : w'.ownsRow B e s v n xs := by
  refine ⟨h.1, ?_⟩
  rcases h.2 with h1 | ⟨g, cap, cur, rfl, hB, hh, r⟩
  · exact Or.inl h1
  · exact Or.inr ⟨g, cap, cur, rfl, hB, (hk g rfl).trans hh, r⟩
section
variable {w w' : World} {B bw o : Nat} {T : TypeId} {cs : Array Value} {F : List Nat} {l : List Bool}
theorem WOk.lt (h : WOk w B bw o T cs F l) : ∀ q, q ∈ F → q < w.heap.size := by
  obtain ⟨v, hw, rfl, _⟩ := h
  intro q hq
  simp only [List.mem_cons, Option.mem_toList] at hq
  rcases hq with rfl | h1
  · exact lt_of_block hw.blk
  · exact (own_lt hw.own h1).1
theorem WOk.base (h : WOk w B bw o T cs F l) : ∀ q, q ∈ F → B ≤ q := by
  obtain ⟨v, hw, rfl, hB⟩ := h
  intro q hq
  simp only [List.mem_cons, Option.mem_toList] at hq
  rcases hq with rfl | h1
  · exact hB
  · exact (own_lt hw.own h1).2
theorem WOk.same (h : WOk w B bw o T cs F l) (hk : ∀ q, q ∈ F → w'.heap[q]? = w.heap[q]?) : WOk w' B bw o T cs F l := by
  obtain ⟨v, hw, rfl, hB⟩ := h
  exact ⟨v, ⟨(hk bw (by simp)).trans hw.blk, hw.c0, hw.c1, own_kept hw.own fun q hq => hk q (by simp [hq]), hw.ty⟩, rfl, hB⟩
theorem WOk.keep {G G' : List Nat} (h : WOk w B bw o T cs F l) (fr : Fr G w G' w') (hd : ∀ q, q ∈ F → q ∉ G) : WOk w' B bw o T cs F l :=
  h.same fun q hq => fr.block q (h.lt q hq) (hd q hq)
theorem WOk.below (h : WOk w B bw o T cs F l) (hb : Below w.heap.size w w') : WOk w' B bw o T cs F l :=
  h.same fun q hq => hb.block q (h.lt q hq)
theorem WOk.drewN (h : WOk w B bw o T cs F l) (n : Nat) : WOk (w.drewN n) B bw o T cs F l := h.same fun _ _ => rfl
theorem WOk.drew (h : WOk w B bw o T cs F l) : WOk w.drew B bw o T cs F l := h.same fun _ _ => rfl
theorem WOk.head (h : WOk w B bw o T cs F l) : bw ∈ F := by obtain ⟨v, _, rfl, _⟩ := h; simp
theorem WOk.alloc (h : WOk w B bw o T cs F l) (ob : Obj) : WOk (w.alloc ob) B bw o T cs F l := h.below ((Below.refl w.heap.size w).alloc (Nat.le_refl _) ob)
theorem WOk.far (h : WOk w B bw o T cs F l) {b : Nat} (hb : b ∉ F) (i : Nat) (u : Value) : WOk (w.setCell ⟨b, i, none⟩ u) B bw o T cs F l :=
  h.same fun q hq => Below.heap_setCell _ _ _ _ (fun e => hb (by cases e; exact hq))
theorem WOk.blk (h : WOk w B bw o T cs F l) : w.heap[bw]? = some (.cells cs T (0, 0)) := by obtain ⟨v, hw, _⟩ := h; exact hw.blk
theorem WOk.cell (h : WOk w B bw o T cs F l) (i : Nat) : w.cell? ⟨bw, i, none⟩ = cs[i]? := cell_of_block h.blk i
theorem WOk.free (h : WOk w B bw o T cs F l) (i : Nat) : w.frozen? ⟨bw, i, none⟩ = false := free_of_block h.blk i
theorem WOk.len (h : WOk w B bw o T cs F l) : cs[o + 1]? = some (.int .i64 (l.length : Nat)) := by obtain ⟨v, hw, _⟩ := h; exact hw.c1
/-- Another cell of the block is written. -/
theorem WOk.set_ (h : WOk w B bw o T cs F l) (i : Nat) (h0 : i ≠ o) (h1 : i ≠ o + 1) (u : Value) : WOk (w.setCell ⟨bw, i, none⟩ u) B bw o T (cs.setIfInBounds i u) F l := by
  obtain ⟨v, hw, rfl, hB⟩ := h
  have hne := own_neT hw.own hw.blk hw.ty
  refine ⟨v, ⟨block_setCell hw.blk i u, by rw [set_far h0]; exact hw.c0, by rw [set_far h1]; exact hw.c1, ?_, hw.ty⟩, rfl, hB⟩
  exact ownsRow_setCell_other hw.own (a := ⟨bw, i, none⟩) hne _
end
/-- A Writer that has just been made with its block. -/
theorem WOk.new {w : World} {B o : Nat} {T : TypeId} {cs : Array Value} (hB : B ≤ w.heap.size) (h0 : cs[o]? = some (.slice none 0 0)) (h1 : cs[o + 1]? = some (.int .i64 0)) (hT : T ≠ 5) : WOk (w.alloc (.cells cs T)) B w.heap.size o T cs [w.heap.size] [] :=
  ⟨.slice none 0 0, ⟨heap_alloc_new w _, h0, h1, ⟨rfl, Or.inl ⟨rfl, rfl⟩⟩, hT⟩, rfl, hB⟩

open M (bitsOf bitsOf_length)
theorem put_ok (B bw o : Nat) (T : TypeId) (cs : Array Value) (F : List Nat) (l : List Bool) (n k : Nat) (w : World) (h : WOk w B bw o T cs F l) (hB : B ≤ w.heap.size) (hl : l.length + k ≤ 2000000) (hk : k ≤ 64) (hn : n < 18446744073709551616) :
    Calls Try.prog 82 #[.pointer (some ⟨bw, o, none⟩), .int .u64 (n : Int), .int .i64 (k : Int)] w fun e w' => e = .returned (.tuple #[]) ∧ ∃ F' ds, WOk w' B bw o T ds F' (l ++ bitsOf n k) ∧ SameBut o cs ds ∧ Fr F w F' w' := by
  obtain ⟨v, hw, rfl, hb⟩ := h
  refine (put_calls B bw o T cs v l n k w hw hB hl hk hn).mono ?_
  rintro e w' ⟨rfl, v', ds, hw', hs, fr⟩
  exact ⟨rfl, _, ds, ⟨v', hw', rfl, hb⟩, hs, fr.fr⟩

theorem room_ok (B bw o : Nat) (T : TypeId) (cs : Array Value) (F : List Nat) (l : List Bool) (k : Int) (w : World) (h : WOk w B bw o T cs F l) (k0 : 0 ≤ k) (hl : (l.length : Int) + k ≤ 1048576) :
    Calls Try.prog 81 #[.pointer (some ⟨bw, o, none⟩), .int .i64 k] w fun e w' => e = .returned (.int .i64 0) ∧ w = w' := by
  have hc := (h.cell (o + 1)).trans h.len
  clear h
  go_enter Try.func81, Try.ntmps81
  go_wp2_with fail
  go_ret
  exact ⟨rfl, rfl⟩

theorem Put_ok (B bw o : Nat) (T : TypeId) (cs : Array Value) (F : List Nat) (l : List Bool) (n k : Nat) (w : World) (h : WOk w B bw o T cs F l) (hB : B ≤ w.heap.size) (hl : l.length + k ≤ 1048576) (hk : k ≤ 64) (hn : n < 2 ^ k) :
    Calls Try.prog 75 #[.pointer (some ⟨bw, o, none⟩), .int .u64 (n : Int), .int .i64 (k : Int)] w fun e w' => e = .returned (.int .i64 0) ∧ ∃ F' ds, WOk w' B bw o T ds F' (l ++ bitsOf n k) ∧ SameBut o cs ds ∧ Fr F w F' w' := by
  have h64 : n < 18446744073709551616 := by
    have : 2 ^ k ≤ 2 ^ 64 := Nat.pow_le_pow_right (by decide) hk
    have e : (18446744073709551616 : Nat) = 2 ^ 64 := rfl
    omega
  have hr := room_ok B bw o T cs F l k w h (by omega) (by omega)
  have hp := put_ok B bw o T cs F l n k w h hB (by omega) hk h64
  have H := Lib.hid (And.intro hr hp)
  have hz : (n : Int) / 2 ^ k = 0 := by
    rw [show ((2 : Int) ^ k) = ((2 ^ k : Nat) : Int) from (Int.natCast_pow 2 k).symm, ← Int.natCast_ediv, Nat.div_eq_of_lt hn]; rfl
  clear h hB hr hp hn
  rcases Nat.lt_or_ge k 64 with h1 | h1
  · go_enter Try.func75, Try.ntmps75
    go_wp2_with fail
    refine H.out.1.mono ?_
    rintro e w' ⟨rfl, rfl⟩
    go_wp2_with fail
    refine H.out.2.mono ?_
    rintro e w' ⟨rfl, hq⟩
    have HQ := Lib.hid hq; clear hq
    go_wp2_with fail
    go_ret
    exact ⟨rfl, HQ.out⟩
  · have e : k = 64 := by omega
    subst e
    clear hz
    go_enter Try.func75, Try.ntmps75
    go_wp2_with fail
    refine H.out.1.mono ?_
    rintro e w' ⟨rfl, rfl⟩
    go_wp2_with fail
    refine H.out.2.mono ?_
    rintro e w' ⟨rfl, hq⟩
    have HQ := Lib.hid hq; clear hq
    go_wp2_with fail
    go_ret
    exact ⟨rfl, HQ.out⟩
theorem Put_z {B bw o : Nat} {T : TypeId} {cs : Array Value} {F : List Nat} {l : List Bool} {n k : Int} (N K : Nat) {w : World} (h : WOk w B bw o T cs F l) (hB : B ≤ w.heap.size) (en : n = N) (ek : k = K) (hl : l.length + K ≤ 1048576) (hk : K ≤ 64) (hn : N < 2 ^ K) :
    Calls Try.prog 75 #[.pointer (some ⟨bw, o, none⟩), .int .u64 n, .int .i64 k] w fun e w' => e = .returned (.int .i64 0) ∧ ∃ F' ds, WOk w' B bw o T ds F' (l ++ bitsOf N K) ∧ SameBut o cs ds ∧ Fr F w F' w' := by
  subst en ek; exact Put_ok B bw o T cs F l N K w h hB hl hk hn

theorem Len_ok {B bw o : Nat} {T : TypeId} {cs : Array Value} {F : List Nat} {l : List Bool} (n : Int) {w : World} (h : WOk w B bw o T cs F l) (e : (l.length : Int) = n) :
    Calls Try.prog 73 #[.pointer (some ⟨bw, o, none⟩)] w fun e w' => e = .returned (.int .i64 n) ∧ w = w' := by
  subst e
  have hc := (h.cell (o + 1)).trans h.len
  clear h
  go_enter Try.func73, Try.ntmps73
  go_wp2_with fail
  go_ret
  exact ⟨rfl, rfl⟩
end Go.Proofs.Ytdekcilfkelhlaa
