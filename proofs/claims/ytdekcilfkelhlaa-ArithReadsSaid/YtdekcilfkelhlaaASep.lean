/- Objects side by side: their blocks are apart. -/
import Derived.Test.YtdekcilfkelhlaaANum
set_option linter.unusedVariables false
namespace Go.Proofs.Ytdekcilfkelhlaa
open Go.RowKit

/-- An object: its blocks, and what holds of it. -/
structure Part where
  F : List Nat
  P : World → Prop
structure Part.ok (p : Part) (w : World) : Prop where
  now : p.P w
  lt : ∀ q, q ∈ p.F → q < w.heap.size
  same : ∀ w', (∀ q, q ∈ p.F → w'.heap[q]? = w.heap[q]?) → w.heap.size ≤ w'.heap.size → p.P w'
theorem Part.ok.keep {p : Part} {w w' : World} (h : p.ok w) (hs : ∀ q, q ∈ p.F → w'.heap[q]? = w.heap[q]?) (hz : w.heap.size ≤ w'.heap.size) : p.ok w' :=
  ⟨h.same w' hs hz, fun q hq => Nat.lt_of_lt_of_le (h.lt q hq) hz, fun w2 h2 z2 => h.same w2 (fun q hq => (h2 q hq).trans (hs q hq)) (Nat.le_trans hz z2)⟩
def Apart (p r : Part) : Prop := ∀ q, q ∈ p.F → q ∉ r.F
theorem Apart.symm {p r : Part} (h : Apart p r) : Apart r p := fun q h1 h2 => h q h2 h1
def Sep (w : World) (l : List Part) : Prop := (∀ p, p ∈ l → p.ok w) ∧ l.Pairwise Apart
theorem Sep.nil (w : World) : Sep w [] := ⟨fun _ h => absurd h (by simp), List.Pairwise.nil⟩
theorem Sep.perm {w : World} {l m : List Part} (h : Sep w l) (hp : l.Perm m) : Sep w m :=
  ⟨fun p hm => h.1 p (hp.mem_iff.2 hm), (hp.pairwise_iff (fun h => Apart.symm h)).1 h.2⟩
theorem Sep.below {w w' : World} {l : List Part} (h : Sep w l) (hb : Below w.heap.size w w') : Sep w' l :=
  ⟨fun p hp => (h.1 p hp).keep (fun q hq => hb.block q ((h.1 p hp).lt q hq)) hb.size, h.2⟩
theorem Sep.new {w w' : World} {l : List Part} {p : Part} (h : Sep w l) (hb : Below w.heap.size w w') (hp : p.ok w') (hf : ∀ q, q ∈ p.F → w.heap.size ≤ q) : Sep w' (p :: l) := by
  refine ⟨?_, List.pairwise_cons.2 ⟨fun r hr q h1 h2 => ?_, h.2⟩⟩
  · intro r hr
    rcases List.mem_cons.1 hr with rfl | hr
    · exact hp
    · exact (h.below hb).1 r hr
  · have := hf q h1
    have := (h.1 r hr).lt q h2
    omega
theorem Sep.head {w : World} {l : List Part} {p : Part} (h : Sep w (p :: l)) : p.P w := (h.1 p (by simp)).now
theorem Sep.tail {w : World} {l : List Part} {p : Part} (h : Sep w (p :: l)) : Sep w l := ⟨fun r hr => h.1 r (by simp [hr]), (List.pairwise_cons.1 h.2).2⟩
/-- The first object has turned. -/
theorem Sep.step {w w' : World} {l : List Part} {p r : Part} (h : Sep w (p :: l)) (fr : Fr p.F w r.F w') (hr : r.ok w') : Sep w' (r :: l) := by
  have hap := (List.pairwise_cons.1 h.2).1
  refine ⟨?_, List.pairwise_cons.2 ⟨fun s hs q h1 h2 => ?_, (List.pairwise_cons.1 h.2).2⟩⟩
  · intro s hs
    rcases List.mem_cons.1 hs with rfl | hs
    · exact hr
    · have hso := h.1 s (by simp [hs])
      exact hso.keep (fun q hq => fr.block q (hso.lt q hq) (fun e => hap s hs q e hq)) fr.size
  · have hso := h.1 s (by simp [hs])
    exact fr.apart (H := s.F) (fun q hq e => hap s hs q e hq) hso.lt q h2 h1
/-- Two objects as one, and back. -/
def Part.and (p r : Part) : Part := ⟨p.F ++ r.F, fun w => p.P w ∧ r.P w⟩
theorem Sep.join {w : World} {l : List Part} {p r : Part} (h : Sep w (p :: r :: l)) : Sep w (p.and r :: l) := by
  have h1 := List.pairwise_cons.1 h.2
  have h2 := List.pairwise_cons.1 h1.2
  have hp := h.1 p (by simp)
  have hr := h.1 r (by simp)
  refine ⟨?_, List.pairwise_cons.2 ⟨fun s hs q h3 h4 => ?_, h2.2⟩⟩
  · intro s hs
    rcases List.mem_cons.1 hs with rfl | hs
    · refine ⟨⟨hp.now, hr.now⟩, fun q hq => ?_, fun w' hw hz => ⟨hp.same w' (fun q hq => hw q (List.mem_append_left _ hq)) hz, hr.same w' (fun q hq => hw q (List.mem_append_right _ hq)) hz⟩⟩
      rcases List.mem_append.1 hq with hq | hq
      · exact hp.lt q hq
      · exact hr.lt q hq
    · exact h.1 s (by simp [hs])
  · rcases List.mem_append.1 h3 with h3 | h3
    · exact h1.1 s (by simp [hs]) q h3 h4
    · exact h2.1 s hs q h3 h4
theorem Sep.step2 {w w' : World} {l : List Part} {p r p' r' : Part} (h : Sep w (p :: r :: l)) (fr : Fr (p.F ++ r.F) w (p'.F ++ r'.F) w') (hp : p'.ok w') (hr : r'.ok w') (ha : Apart p' r') : Sep w' (p' :: r' :: l) := by
  have hj := h.join
  have hap := (List.pairwise_cons.1 hj.2).1
  have hl := (List.pairwise_cons.1 hj.2).2
  have far : ∀ s, s ∈ l → ∀ q, q ∈ s.F → q ∉ p'.F ++ r'.F := fun s hs => fr.apart (H := s.F) (fun q hq e => hap s hs q e hq) (h.1 s (by simp [hs])).lt
  refine ⟨?_, List.pairwise_cons.2 ⟨?_, List.pairwise_cons.2 ⟨?_, hl⟩⟩⟩
  · intro s hs
    rcases List.mem_cons.1 hs with rfl | hs
    · exact hp
    rcases List.mem_cons.1 hs with rfl | hs
    · exact hr
    · have hso := h.1 s (by simp [hs])
      exact hso.keep (fun q hq => fr.block q (hso.lt q hq) (fun e => hap s hs q e hq)) fr.size
  · intro s hs q h1 h2
    rcases List.mem_cons.1 hs with rfl | hs
    · exact ha q h1 h2
    · exact far s hs q h2 (List.mem_append_left _ h1)
  · intro s hs q h1 h2
    exact far s hs q h2 (List.mem_append_right _ h1)

/-- A coder's blocks are no model's: their types differ. -/
theorem COk.types {X : Box} {w : World} {F : List Nat} {s : St} {sh : Nat} (h : COk X w F s sh) {q : Nat} (hq : q ∈ F) : ∃ cs t, w.heap[q]? = some (.cells cs t (0, 0)) ∧ (t = X.T ∨ t = 5) := by
  obtain ⟨cs, h⟩ := h
  obtain ⟨v, hw, hF, _⟩ := h.wok
  rw [hF] at hq
  rcases List.mem_cons.1 hq with rfl | hq
  · exact ⟨_, _, hw.blk, Or.inl rfl⟩
  · rcases hw.own.2 with ⟨hv, _⟩ | ⟨g, cap, cur, hv, _, hh, _⟩
    · rw [hv] at hq; simp [Value.ownBlock] at hq
    · rw [hv] at hq
      simp [Value.ownBlock] at hq
      subst hq
      exact ⟨_, _, hh, Or.inr rfl⟩
theorem no_model {X : Box} {w : World} {F : List Nat} {s : St} {sh bm g : Nat} {fr : List Nat} (h : COk X w F s sh) (hm : MOk w bm g fr) (hT : X.T ≠ 84 ∧ X.T ≠ 3) : bm ∉ F ∧ g ∉ F := by
  constructor
  · intro hq
    obtain ⟨cs, t, h1, h2⟩ := h.types hq
    rw [hm.blk] at h1
    injection h1 with h1
    injection h1 with _ h1
    rcases h2 with h2 | h2
    · exact hT.1 (h2.symm.trans h1.symm)
    · exact absurd (h1.trans h2) (by decide)
  · intro hq
    obtain ⟨cs, t, h1, h2⟩ := h.types hq
    rw [hm.row] at h1
    injection h1 with h1
    injection h1 with _ h1
    rcases h2 with h2 | h2
    · exact hT.2 (h2.symm.trans h1.symm)
    · exact absurd (h1.trans h2) (by decide)
/-- A holder of a coder as an object. -/
def ePart (X : Box) (F : List Nat) (s : St) : Part := ⟨F, fun w => EOk X w F s ∧ ∀ q, q ∈ X.G → q < w.heap.size⟩
def mPart (bm g : Nat) (fr : List Nat) : Part := ⟨[bm, g], fun w => MOk w bm g fr⟩
theorem MOk.part {w : World} {bm g : Nat} {fr : List Nat} (h : MOk w bm g fr) : (mPart bm g fr).ok w := by
  refine ⟨h, ?_, fun w' hs _ => h.same (hs bm (by simp [mPart])) (hs g (by simp [mPart]))⟩
  intro q hq
  simp [mPart] at hq
  rcases hq with rfl | rfl
  · exact lt_of_block h.blk
  · exact lt_of_block h.row
/-- An Encoder as an object. -/
def encPart (B bw : Nat) (F : List Nat) (s : St) : Part := ⟨F, fun w => EOk (encBox B bw) w F s⟩
theorem EOk.part {w : World} {B bw : Nat} {F : List Nat} {s : St} (h : EOk (encBox B bw) w F s) : (encPart B bw F s).ok w := by
  refine ⟨h, h.c.lt, fun w' hs hz => ⟨?_, h.live, Nat.le_trans h.base hz⟩⟩
  obtain ⟨cs, hc⟩ := h.c
  refine ⟨cs, hc.same (fun q hq => ?_) hz⟩
  rcases hq with hq | hq
  · exact hs q hq
  · exact absurd hq (by simp [encBox])
theorem enc_types (B bw : Nat) : (encBox B bw).T ≠ 84 ∧ (encBox B bw).T ≠ 3 := ⟨fun e => absurd (show (33 : Nat) = 84 from e) (by decide), fun e => absurd (show (33 : Nat) = 3 from e) (by decide)⟩
end Go.Proofs.Ytdekcilfkelhlaa
