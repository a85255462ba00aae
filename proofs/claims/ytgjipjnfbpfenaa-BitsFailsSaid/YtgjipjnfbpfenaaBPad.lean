/- Strings of bits as the laws put them together; calls with their numbers as the walk has them. -/
import Derived.Test.YtgjipjnfbpfenaaBAwake
set_option linter.unusedVariables false
namespace Go.Proofs.Ytgjipjnfbpfenaa
open Go.RowKit
open M (bitsOf bitsOf_length codeBits codeBits_length zig zag numOf zeros codeA)

/-- A string of bits, filled up to whole bytes. -/
def pad (l : List Bool) : List Bool := l ++ List.replicate (8 * nbytes l - l.length) false
theorem pad_length (l : List Bool) : (pad l).length = 8 * nbytes l := by unfold pad; rw [List.length_append, List.length_replicate]; unfold nbytes; omega
theorem pad_rest (l : List Bool) : 8 * nbytes l - l.length ≤ 7 := by unfold nbytes; omega
theorem getD_pad (l : List Bool) (p m : Nat) : (l ++ List.replicate p false).getD m false = l.getD m false := by
  simp only [List.getD_eq_getElem?_getD]
  rcases Nat.lt_or_ge m l.length with h | h
  · rw [List.getElem?_append_left h]
  · rw [List.getElem?_append_right h, List.getElem?_eq_none h]
    rcases Nat.lt_or_ge (m - l.length) p with h1 | h1
    · rw [List.getElem?_eq_getElem (by simpa using h1)]; simp
    · rw [List.getElem?_eq_none (by simpa using h1)]
theorem byteOf_pad (l : List Bool) : M.byteOf (pad l) = M.byteOf l := by
  funext i
  unfold M.byteOf pad
  simp only [getD_pad]

/-- The strings of the numbers from j to m, one behind the other. -/
def seg (f : Nat → List Bool) (j m : Nat) : List Bool := (List.range' j (m - j)).flatMap f
theorem seg_end (f : Nat → List Bool) (m : Nat) : seg f m m = [] := by unfold seg; simp
theorem seg_cons (f : Nat → List Bool) {j m : Nat} (h : j < m) : seg f j m = f j ++ seg f (j + 1) m := by
  unfold seg
  rw [show m - j = (m - (j + 1)) + 1 from by omega, List.range'_succ, List.flatMap_cons]
theorem seg_snoc (f : Nat → List Bool) {j m : Nat} (h : j ≤ m) : seg f j (m + 1) = seg f j m ++ f m := by
  unfold seg
  rw [show m + 1 - j = (m - j) + 1 from by omega, List.range'_concat, List.flatMap_append]
  simp only [List.flatMap_cons, List.flatMap_nil, List.append_nil]
  congr 2; omega
theorem seg_length (f : Nat → List Bool) (c j m : Nat) (h : ∀ i, j ≤ i → i < m → (f i).length ≤ c) (hj : j ≤ m) : (seg f j m).length ≤ c * (m - j) := by
  obtain ⟨d, rfl⟩ : ∃ d, m = j + d := ⟨m - j, by omega⟩
  clear hj
  induction d with
  | zero => simp [seg_end]
  | succ d ih =>
    rw [show j + (d + 1) = (j + d) + 1 from by omega, seg_snoc f (by omega), List.length_append]
    have h1 := ih fun i hi hi2 => h i hi (by omega)
    have h2 := h (j + d) (by omega) (by omega)
    rw [show j + d - j = d from by omega] at h1
    rw [show j + d + 1 - j = d + 1 from by omega, Nat.mul_succ]
    omega

/-- A number is read. -/
theorem getA_bits (n k : Nat) (t : List Bool) (h : n < 2 ^ k) : getA k (bitsOf n k ++ t) 0 = (n, 0, t, 0) := by
  unfold getA
  rw [if_neg (by simp), if_neg (by rw [List.length_append, bitsOf_length]; omega)]
  rw [List.take_append_of_le_length (by rw [bitsOf_length]; exact Nat.le_refl _), List.take_of_length_le (by rw [bitsOf_length]; exact Nat.le_refl _), M.numOf_bitsOf_lt h]
  rw [List.drop_append_of_le_length (by rw [bitsOf_length]; exact Nat.le_refl _), List.drop_eq_nil_of_le (by rw [bitsOf_length]; exact Nat.le_refl _)]
  rfl
theorem getC_bits (n k : Nat) (t : List Bool) (h : n < 18446744073709551616) (hk : k ≤ 30) : getC k (codeBits n k ++ t) 0 = (n, 0, t, 0) := by
  unfold getC
  rw [M.codeA_code n k t (by simpa using h) hk]
  rfl
theorem numOf_replicate (p : Nat) : numOf (List.replicate p false) = 0 := by
  have := M.numOf_bitsOf 0 p
  rw [M.bitsOf_zero] at this
  simpa using this
theorem endA_pad (l : List Bool) : endA (List.replicate (8 * nbytes l - l.length) false) 0 = 0 := by
  unfold endA
  rw [if_neg (by simp), if_pos ⟨by rw [List.length_replicate]; exact pad_rest l, numOf_replicate _⟩]

theorem Put_z {B bw : Nat} {F : List Nat} {l : List Bool} {n k : Int} (N K : Nat) {w : World} (h : WOk w B bw F l) (hB : B ≤ w.heap.size) (en : n = N) (ek : k = K) (hl : l.length + K ≤ 1048576) (hk : K ≤ 64) (hn : N < 2 ^ K) :
    Calls Try.prog 15 #[.pointer (some ⟨bw, 0, none⟩), .int .u64 n, .int .i64 k] w fun e w' => e = .returned (.int .i64 0) ∧ ∃ F', WOk w' B bw F' (l ++ bitsOf N K) ∧ Fr F w F' w' := by
  subst en ek; exact Put_ok B bw F l N K w h hB hl hk hn
theorem Get_z {br : Nat} {F : List Nat} {s : List Bool} {bad : Nat} {k : Int} (K V E : Nat) (v : Int) (t : List Bool) (b : Nat) {w : World} (h : ROk w br F s bad) (ek : k = K) (ev : v = V) (hk : K ≤ 64) (e : getA K s bad = (V, E, t, b)) :
    Calls Try.prog 18 #[.pointer (some ⟨br, 0, none⟩), .int .i64 k] w fun e w' => e = .returned (.tuple #[.int .u64 v, .int .i64 (E : Int)]) ∧ ROk w' br F t b ∧ Only br w w' := by
  subst ek ev; exact Get_to K V E t b h hk e
theorem GetCode_z {br : Nat} {F : List Nat} {s : List Bool} {bad : Nat} {k : Int} (K V E : Nat) (v : Int) (t : List Bool) (b : Nat) {w : World} (h : ROk w br F s bad) (ek : k = K) (ev : v = V) (hk : K ≤ 30) (e : getC K s bad = (V, E, t, b)) :
    Calls Try.prog 19 #[.pointer (some ⟨br, 0, none⟩), .int .i64 k] w fun e w' => e = .returned (.tuple #[.int .u64 v, .int .i64 (E : Int)]) ∧ ROk w' br F t b ∧ Only br w w' := by
  subst ek ev; exact GetCode_to K V E t b h hk e
/-- A Reader of what a Writer's Bytes returned. -/
theorem NewReader_pad {A : Option Addr} {cap n : Nat} (l : List Bool) {w : World} (h : BRow w A n (M.byteOf l)) (hn : n = nbytes l) (hl : l.length ≤ 2000000) (hnil : A = none → n = 0 ∧ cap = 0) :
    Calls Try.prog 16 #[.slice A n cap] w fun e w' => ∃ br F, e = .returned (.pointer (some ⟨br, 0, none⟩)) ∧ ROk w' br F (pad l) 0 ∧ (∀ q, q ∈ br :: F → w.heap.size ≤ q) ∧ Below w.heap.size w w' := by
  refine NewReader_ok A n cap (pad l) w (by rw [byteOf_pad]; exact h) (by rw [pad_length, hn]) (by rw [hn]; unfold nbytes; omega) hnil
end Go.Proofs.Ytgjipjnfbpfenaa
