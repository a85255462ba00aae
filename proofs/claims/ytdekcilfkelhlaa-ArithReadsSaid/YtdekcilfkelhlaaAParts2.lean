/- More of parts: items that came in, longer lists. -/
import Derived.Test.YtdekcilfkelhlaaOpen
import Derived.Test.YtdekcilfkelhlaaAWrote
import Derived.Test.YtdekcilfkelhlaaADecode
set_option linter.unusedVariables false
namespace Go.Proofs.Ytdekcilfkelhlaa
open Go.RowKit

section
variable {w0 w w' : World} {l m : List Part} {a b c d x : Part}
theorem Ses.mw10 {e f g i j k : Part} (h : Ses w0 w (a :: b :: c :: d :: e :: f :: g :: i :: j :: k :: x :: l)) : Ses w0 w (x :: a :: b :: c :: d :: e :: f :: g :: i :: j :: k :: l) := h.perm (List.perm_middle (l₁ := [a, b, c, d, e, f, g, i, j, k]))
theorem Ses.mw11 {e f g i j k n : Part} (h : Ses w0 w (a :: b :: c :: d :: e :: f :: g :: i :: j :: k :: n :: x :: l)) : Ses w0 w (x :: a :: b :: c :: d :: e :: f :: g :: i :: j :: k :: n :: l) := h.perm (List.perm_middle (l₁ := [a, b, c, d, e, f, g, i, j, k, n]))
theorem Ses.cset {b : Nat} {cs : Array Value} {T : TypeId} (h : Ses w0 w (cPart b cs T :: l)) (i : Nat) (v : Value) : Ses w0 (w.setCell ⟨b, i, none⟩ v) (cPart b (cs.setIfInBounds i v) T :: l) := by
  have hh : w.heap[b]? = some (.cells cs T (0, 0)) := h.sep.head
  have h2 := block_setCell hh i v
  refine h.step1 (p' := cPart b (cs.setIfInBounds i v) T) ((Fr.refl [b] w).store (by simp) i v) ⟨h2, fun q hq => ?_, fun w' hs _ => ?_⟩
  · have : q = b := by simpa [cPart] using hq
    subst this
    exact lt_of_block h2
  · exact (hs b (by simp [cPart])).trans h2
end
theorem cell_lt {w : World} {a : Addr} {v : Value} (h : w.cell? a = some v) : a.block < w.heap.size := World.block_lt_of_cell? w a h
theorem IsRecs.items {w : World} {a : Option Addr} {len cap : Nat} {z : Nat → Nat → Int} (h : IsRecs [.u8, .u8, .i64] w a len cap z) :
    ∃ t : Its, Items w w.heap.size a len t ∧ len ≤ cap ∧ cap ≤ 9223372036854775807 ∧ (a = none → len = 0 ∧ cap = 0) := by
  rcases h with ⟨rfl, rfl, rfl⟩ | ⟨x, rfl, h1, h2, h3⟩
  · exact ⟨⟨fun _ => 0, fun _ => 0, fun _ => 0⟩, fun i hi => by omega, by omega, by omega, fun _ => ⟨rfl, rfl⟩⟩
  · refine ⟨⟨fun i => (z i 0).toNat, fun i => (z i 1).toNat, fun i => z i 2⟩, ?_, h1, by simpa [maxLen] using h2, fun e => by cases e⟩
    intro i hi
    obtain ⟨c0, w0⟩ := h3 i 0 .u8 hi rfl
    obtain ⟨c1, w1⟩ := h3 i 1 .u8 hi rfl
    obtain ⟨c2, w2⟩ := h3 i 2 .i64 hi rfl
    have b0 := bounds_u8 w0
    have b1 := bounds_u8 w1
    have b2 := bounds_i64 w2
    have hb : (x.add (i * 3)).block = x.block := by unfold Addr.add; split <;> rfl
    have hlt := cell_lt c0
    rw [show [IntKind.u8, IntKind.u8, IntKind.i64].length = 3 from rfl, Nat.add_zero] at c0 hlt
    rw [hb] at hlt
    refine ⟨x, rfl, hlt, ?_, ?_, c2, ?_, ?_, b2.1, b2.2⟩
    · show _ = some (Value.int .u8 ((z i 0).toNat : Int)); rw [Int.toNat_of_nonneg b0.1]; exact c0
    · show _ = some (Value.int .u8 ((z i 1).toNat : Int)); rw [Int.toNat_of_nonneg b1.1]; exact c1
    · show (z i 0).toNat < 256; omega
    · show (z i 1).toNat < 256; omega
theorem Items.less {w : World} {B n m : Nat} {A : Option Addr} {t : Its} (h : Items w B A n t) (hm : m ≤ n) : Items w B A m t := fun i hi => h i (by omega)
theorem Items.up {w : World} {B B' n : Nat} {A : Option Addr} {t : Its} (h : Items w B A n t) (hB : B ≤ B') : Items w B' A n t := by
  intro i hi
  obtain ⟨ad, e, hb, c⟩ := h i hi
  exact ⟨ad, e, Nat.lt_of_lt_of_le hb hB, c⟩
theorem nbytes_bd {s : St} (h : Live s) (hc : s.cnt ≤ 32768) : nbytes (endBits s) ≤ 66000 := by
  have h1 := h.at_
  have h2 := h.good.out
  unfold nbytes
  rw [endBits_length]
  omega
end Go.Proofs.Ytdekcilfkelhlaa
