/- Bits in bytes: the first bit of a byte is worth 128. -/
import Init
set_option linter.unusedVariables false
namespace Go.Proofs.Ytpnlcnilhlcfpaa
namespace M

def byte8 (a b c d e f g h : Bool) : Nat := 128 * a.toNat + 64 * b.toNat + 32 * c.toNat + 16 * d.toNat + 8 * e.toNat + 4 * f.toNat + 2 * g.toNat + h.toNat
def byteOf (l : List Bool) (i : Nat) : Nat :=
  byte8 (l.getD (8 * i) false) (l.getD (8 * i + 1) false) (l.getD (8 * i + 2) false) (l.getD (8 * i + 3) false) (l.getD (8 * i + 4) false) (l.getD (8 * i + 5) false) (l.getD (8 * i + 6) false) (l.getD (8 * i + 7) false)
theorem byte8_lt (a b c d e f g h : Bool) : byte8 a b c d e f g h < 256 := by
  cases a <;> cases b <;> cases c <;> cases d <;> cases e <;> cases f <;> cases g <;> cases h <;> decide
theorem byteOf_lt (l : List Bool) (i : Nat) : byteOf l i < 256 := byte8_lt _ _ _ _ _ _ _ _

theorem getD_snoc (l : List Bool) (b : Bool) (m : Nat) : (l ++ [b]).getD m false = if m = l.length then b else l.getD m false := by
  simp only [List.getD_eq_getElem?_getD]
  rcases Nat.lt_trichotomy m l.length with h | h | h
  · rw [List.getElem?_append_left h, if_neg (by omega)]
  · rw [if_pos h, h]; simp
  · rw [if_neg (by omega), List.getElem?_eq_none (by simp; omega), List.getElem?_eq_none (by omega)]
theorem getD_end (l : List Bool) (m : Nat) (h : l.length ≤ m) : l.getD m false = false := by
  simp only [List.getD_eq_getElem?_getD]; rw [List.getElem?_eq_none h]; rfl

theorem byteOf_other (l : List Bool) (b : Bool) (j : Nat) (h : j ≠ l.length / 8) : byteOf (l ++ [b]) j = byteOf l j := by
  unfold byteOf
  simp only [getD_snoc]
  rw [if_neg (by omega), if_neg (by omega), if_neg (by omega), if_neg (by omega), if_neg (by omega), if_neg (by omega), if_neg (by omega), if_neg (by omega)]
theorem byteOf_new (l : List Bool) (j : Nat) (h : l.length ≤ 8 * j) : byteOf l j = 0 := by
  unfold byteOf
  rw [getD_end l _ (by omega), getD_end l _ (by omega), getD_end l _ (by omega), getD_end l _ (by omega), getD_end l _ (by omega), getD_end l _ (by omega), getD_end l _ (by omega), getD_end l _ (by omega)]
  rfl

theorem or8_0 (b : Bool) : byte8 false false false false false false false false ||| b.toNat * 128 = byte8 b false false false false false false false := by cases b <;> decide
theorem or8_1 (a b : Bool) : byte8 a false false false false false false false ||| b.toNat * 64 = byte8 a b false false false false false false := by cases a <;> cases b <;> decide
theorem or8_2 (a c b : Bool) : byte8 a c false false false false false false ||| b.toNat * 32 = byte8 a c b false false false false false := by cases a <;> cases c <;> cases b <;> decide
theorem or8_3 (a c d b : Bool) : byte8 a c d false false false false false ||| b.toNat * 16 = byte8 a c d b false false false false := by cases a <;> cases c <;> cases d <;> cases b <;> decide
theorem or8_4 (a c d e b : Bool) : byte8 a c d e false false false false ||| b.toNat * 8 = byte8 a c d e b false false false := by cases a <;> cases c <;> cases d <;> cases e <;> cases b <;> decide
theorem or8_5 (a c d e f b : Bool) : byte8 a c d e f false false false ||| b.toNat * 4 = byte8 a c d e f b false false := by cases a <;> cases c <;> cases d <;> cases e <;> cases f <;> cases b <;> decide
theorem or8_6 (a c d e f g b : Bool) : byte8 a c d e f g false false ||| b.toNat * 2 = byte8 a c d e f g b false := by cases a <;> cases c <;> cases d <;> cases e <;> cases f <;> cases g <;> cases b <;> decide
theorem or8_7 (a c d e f g h b : Bool) : byte8 a c d e f g h false ||| b.toNat * 1 = byte8 a c d e f g h b := by cases a <;> cases c <;> cases d <;> cases e <;> cases f <;> cases g <;> cases h <;> cases b <;> decide

/-- A bit that is put behind the others. -/
theorem byteOf_snoc (l : List Bool) (b : Bool) : byteOf l (l.length / 8) ||| b.toNat * 2 ^ (7 - l.length % 8) = byteOf (l ++ [b]) (l.length / 8) := by
  obtain ⟨i, p, hp, hn⟩ : ∃ i p, p < 8 ∧ l.length = 8 * i + p := ⟨l.length / 8, l.length % 8, by omega, by omega⟩
  have e1 : l.length / 8 = i := by omega
  have e2 : l.length % 8 = p := by omega
  rw [e1, e2]
  unfold byteOf
  simp only [getD_snoc, hn]
  have z : ∀ m, 8 * i + p ≤ m → l.getD m false = false := fun m h => getD_end l m (by omega)
  rcases (show p = 0 ∨ p = 1 ∨ p = 2 ∨ p = 3 ∨ p = 4 ∨ p = 5 ∨ p = 6 ∨ p = 7 from by omega) with rfl | rfl | rfl | rfl | rfl | rfl | rfl | rfl
  · simp only [Nat.add_zero, z (8 * i) (by omega), z (8 * i + 1) (by omega), z (8 * i + 2) (by omega), z (8 * i + 3) (by omega), z (8 * i + 4) (by omega), z (8 * i + 5) (by omega), z (8 * i + 6) (by omega), z (8 * i + 7) (by omega)]
    simpa using or8_0 b
  · simp only [z (8 * i + 1) (by omega), z (8 * i + 2) (by omega), z (8 * i + 3) (by omega), z (8 * i + 4) (by omega), z (8 * i + 5) (by omega), z (8 * i + 6) (by omega), z (8 * i + 7) (by omega)]
    simpa using or8_1 _ b
  · simp only [z (8 * i + 2) (by omega), z (8 * i + 3) (by omega), z (8 * i + 4) (by omega), z (8 * i + 5) (by omega), z (8 * i + 6) (by omega), z (8 * i + 7) (by omega)]
    simpa using or8_2 _ _ b
  · simp only [z (8 * i + 3) (by omega), z (8 * i + 4) (by omega), z (8 * i + 5) (by omega), z (8 * i + 6) (by omega), z (8 * i + 7) (by omega)]
    simpa using or8_3 _ _ _ b
  · simp only [z (8 * i + 4) (by omega), z (8 * i + 5) (by omega), z (8 * i + 6) (by omega), z (8 * i + 7) (by omega)]
    simpa using or8_4 _ _ _ _ b
  · simp only [z (8 * i + 5) (by omega), z (8 * i + 6) (by omega), z (8 * i + 7) (by omega)]
    simpa using or8_5 _ _ _ _ _ b
  · simp only [z (8 * i + 6) (by omega), z (8 * i + 7) (by omega)]
    simpa using or8_6 _ _ _ _ _ _ b
  · simp only [z (8 * i + 7) (by omega)]
    simpa using or8_7 _ _ _ _ _ _ _ b
end M
end Go.Proofs.Ytpnlcnilhlcfpaa
