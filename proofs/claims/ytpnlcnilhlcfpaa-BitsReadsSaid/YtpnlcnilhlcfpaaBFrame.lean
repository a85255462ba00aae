/- Frames: what a call on an object leaves of the others; Writers as objects. -/
import Derived.Test.YtpnlcnilhlcfpaaBPut
set_option linter.unusedVariables false
namespace Go.Proofs.Ytpnlcnilhlcfpaa
open Go.RowKit

/-- A call that began with the blocks F of an object and ends with its blocks G: no other block has turned. -/
structure Fr (F : List Nat) (w : World) (G : List Nat) (w' : World) : Prop where
  os : w'.os = w.os
  tape : w'.tape = w.tape
  output : w'.output = w.output
  size : w.heap.size ≤ w'.heap.size
  block : ∀ q, q < w.heap.size → q ∉ F → w'.heap[q]? = w.heap[q]?
  own : ∀ q, q ∈ G → q ∈ F ∨ w.heap.size ≤ q
theorem Fr.refl (F : List Nat) (w : World) : Fr F w F w := ⟨rfl, rfl, rfl, Nat.le_refl _, fun _ _ _ => rfl, fun _ h => Or.inl h⟩
theorem Fr.trans {F G H : List Nat} {a b c : World} (h : Fr F a G b) (k : Fr G b H c) : Fr F a H c := by
  refine ⟨k.os.trans h.os, k.tape.trans h.tape, k.output.trans h.output, Nat.le_trans h.size k.size, ?_, ?_⟩
  · intro q hq hF
    refine (k.block q (Nat.lt_of_lt_of_le hq h.size) ?_).trans (h.block q hq hF)
    intro hG
    rcases h.own q hG with h1 | h1
    · exact hF h1
    · omega
  · intro q hq
    rcases k.own q hq with h1 | h1
    · exact h.own q h1
    · exact Or.inr (Nat.le_trans h.size h1)
/-- A call on another object in between. -/
theorem Fr.more {F G : List Nat} {a b : World} (h : Fr F a G b) (H : List Nat) : Fr (F ++ H) a (G ++ H) b := by
  refine ⟨h.os, h.tape, h.output, h.size, fun q hq hF => h.block q hq (fun e => hF (List.mem_append_left _ e)), ?_⟩
  intro q hq
  rcases List.mem_append.1 hq with h1 | h1
  · rcases h.own q h1 with h2 | h2
    · exact Or.inl (List.mem_append_left _ h2)
    · exact Or.inr h2
  · exact Or.inl (List.mem_append_right _ h1)
theorem Fr.wide {F F' G : List Nat} {a b : World} (h : Fr F a G b) (hF : ∀ q, q ∈ F → q ∈ F') : Fr F' a G b :=
  ⟨h.os, h.tape, h.output, h.size, fun q hq hn => h.block q hq (fun e => hn (hF q e)), fun q hq => (h.own q hq).imp (hF q) id⟩
theorem Fr.drewN {F G : List Nat} {a b : World} (h : Fr F a G b) (n : Nat) : Fr F a G (b.drewN n) := ⟨h.os, h.tape, h.output, h.size, h.block, h.own⟩
theorem Fr.of_below {w w' : World} (h : Below w.heap.size w w') (F : List Nat) : Fr F w F w' := ⟨h.os, h.tape, h.output, h.size, fun q hq _ => h.block q hq, fun _ hq => Or.inl hq⟩
theorem Fr.of_only {b : Nat} {w w' : World} (h : Only b w w') : Fr [b] w [b] w' := ⟨h.os, h.tape, h.output, by rw [h.size]; exact Nat.le_refl _, fun q _ hn => h.block q (fun e => hn (by simp [e])), fun _ hq => Or.inl hq⟩
theorem Fr.below {F G : List Nat} {w w' : World} (h : Fr F w G w') {B : Nat} (hB : B ≤ w.heap.size) (hF : ∀ q, q ∈ F → B ≤ q) : Below B w w' :=
  ⟨h.os, h.tape, h.output, h.size, fun q hq => h.block q (by omega) (fun e => by have := hF q e; omega)⟩
/-- The blocks of another object are not this one's afterwards. -/
theorem Fr.apart {F G H : List Nat} {w w' : World} (h : Fr F w G w') (hd : ∀ q, q ∈ H → q ∉ F) (hl : ∀ q, q ∈ H → q < w.heap.size) : ∀ q, q ∈ H → q ∉ G := by
  intro q hq hG
  rcases h.own q hG with h1 | h1
  · exact hd q hq h1
  · have := hl q hq; omega
theorem Fr.base {F G : List Nat} {w w' : World} (h : Fr F w G w') {B : Nat} (hB : B ≤ w.heap.size) (hF : ∀ q, q ∈ F → B ≤ q) : ∀ q, q ∈ G → B ≤ q := by
  intro q hG
  rcases h.own q hG with h1 | h1
  · exact hF q h1
  · omega

/-- A Writer at block bw: its blocks are F, its bits are l. -/
def WOk (w : World) (B bw : Nat) (F : List Nat) (l : List Bool) : Prop := ∃ v, WAt w B bw v l ∧ F = bw :: v.ownBlock.toList ∧ B ≤ bw
theorem PutFr.fr {w w' : World} {bw : Nat} {v v' : Value} (h : PutFr w bw v w' v') : Fr (bw :: v.ownBlock.toList) w (bw :: v'.ownBlock.toList) w' := by
  refine ⟨h.os, h.tape, h.output, h.size, ?_, ?_⟩
  · intro q hq hn
    simp only [List.mem_cons, Option.mem_toList, not_or] at hn
    exact h.block q hq hn.1 hn.2
  · intro q hq
    simp only [List.mem_cons, Option.mem_toList] at hq ⊢
    rcases hq with h1 | h1
    · exact Or.inl (Or.inl h1)
    · rcases h.own with h2 | ⟨g, h2, h3⟩
      · rw [h2] at h1; exact Or.inl (Or.inr h1)
      · rw [h2] at h1; injection h1 with h1; subst h1; exact Or.inr h3
theorem own_lt {w : World} {B e s n : Nat} {v : Value} {xs : List Value} (h : w.ownsRow B e s v n xs) {q : Nat} (hq : v.ownBlock = some q) : q < w.heap.size ∧ B ≤ q := by
  rcases h.2 with ⟨rfl, _⟩ | ⟨g, cap, cur, rfl, hB, hh, _⟩
  · simp [Value.ownBlock] at hq
  · have : g = q := by simpa [Value.ownBlock] using hq
    subst this
    exact ⟨lt_of_block hh, hB⟩
theorem own_kept {w w' : World} {B e s n : Nat} {v : Value} {xs : List Value} (h : w.ownsRow B e s v n xs) (hk : ∀ q, v.ownBlock = some q → w'.heap[q]? = w.heap[q]?) : w'.ownsRow B e s v n xs := by
  refine ⟨h.1, ?_⟩
  rcases h.2 with h1 | ⟨g, cap, cur, rfl, hB, hh, r⟩
  · exact Or.inl h1
  · exact Or.inr ⟨g, cap, cur, rfl, hB, (hk g rfl).trans hh, r⟩
theorem WOk.lt {w : World} {B bw : Nat} {F : List Nat} {l : List Bool} (h : WOk w B bw F l) : ∀ q, q ∈ F → q < w.heap.size := by
  obtain ⟨v, ⟨hb, ho⟩, rfl, _⟩ := h
  intro q hq
  simp only [List.mem_cons, Option.mem_toList] at hq
  rcases hq with rfl | h1
  · exact lt_of_block hb
  · exact (own_lt ho h1).1
theorem WOk.base {w : World} {B bw : Nat} {F : List Nat} {l : List Bool} (h : WOk w B bw F l) : ∀ q, q ∈ F → B ≤ q := by
  obtain ⟨v, ⟨hb, ho⟩, rfl, hB⟩ := h
  intro q hq
  simp only [List.mem_cons, Option.mem_toList] at hq
  rcases hq with rfl | h1
  · exact hB
  · exact (own_lt ho h1).2
theorem WOk.same {w w' : World} {B bw : Nat} {F : List Nat} {l : List Bool} (h : WOk w B bw F l) (hk : ∀ q, q ∈ F → w'.heap[q]? = w.heap[q]?) : WOk w' B bw F l := by
  obtain ⟨v, ⟨hb, ho⟩, rfl, hB⟩ := h
  exact ⟨v, ⟨(hk bw (by simp)).trans hb, own_kept ho fun q hq => hk q (by simp [hq])⟩, rfl, hB⟩
theorem WOk.keep {w w' : World} {B bw : Nat} {F G G' : List Nat} {l : List Bool} (h : WOk w B bw F l) (fr : Fr G w G' w') (hd : ∀ q, q ∈ F → q ∉ G) : WOk w' B bw F l :=
  h.same fun q hq => fr.block q (h.lt q hq) (hd q hq)
theorem WOk.below {w w' : World} {B bw : Nat} {F : List Nat} {l : List Bool} (h : WOk w B bw F l) (hb : Below w.heap.size w w') : WOk w' B bw F l :=
  h.same fun q hq => hb.block q (h.lt q hq)
theorem WOk.drewN {w : World} {B bw : Nat} {F : List Nat} {l : List Bool} (h : WOk w B bw F l) (n : Nat) : WOk (w.drewN n) B bw F l := h
theorem WOk.head {w : World} {B bw : Nat} {F : List Nat} {l : List Bool} (h : WOk w B bw F l) : bw ∈ F := by obtain ⟨v, _, rfl, _⟩ := h; simp
/-- A Writer that has just been made. -/
theorem WOk.new (w : World) (B : Nat) (hB : B ≤ w.heap.size) : WOk (w.alloc (.cells #[.slice none 0 0, .int .i64 0] 57)) B w.heap.size [w.heap.size] [] :=
  ⟨.slice none 0 0, ⟨heap_alloc_new w _, rfl, Or.inl ⟨rfl, rfl⟩⟩, rfl, hB⟩

open M (bitsOf bitsOf_length)
theorem put_ok (B bw : Nat) (F : List Nat) (l : List Bool) (n k : Nat) (w : World) (h : WOk w B bw F l) (hB : B ≤ w.heap.size) (hl : l.length + k ≤ 2000000) (hk : k ≤ 64) (hn : n < 18446744073709551616) :
    Calls Try.prog 44 #[.pointer (some ⟨bw, 0, none⟩), .int .u64 (n : Int), .int .i64 (k : Int)] w fun e w' => e = .returned (.tuple #[]) ∧ ∃ F', WOk w' B bw F' (l ++ bitsOf n k) ∧ Fr F w F' w' := by
  obtain ⟨v, hw, rfl, hb⟩ := h
  refine (put_calls B bw v l n k w hw hB hl hk hn).mono ?_
  rintro e w' ⟨rfl, v', hw', fr⟩
  exact ⟨rfl, _, ⟨v', hw', rfl, hb⟩, fr.fr⟩
end Go.Proofs.Ytpnlcnilhlcfpaa
