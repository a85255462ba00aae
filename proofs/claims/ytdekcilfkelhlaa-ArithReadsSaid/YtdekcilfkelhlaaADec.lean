/- Decoder: NewDecoder, there, symbol, Get. -/
import Derived.Test.YtdekcilfkelhlaaAEnc
set_option linter.unusedVariables false
namespace Go.Proofs.Ytdekcilfkelhlaa
open Go.RowKit

/-- The first bits of the input as a number. -/
def firstNum (bit : Nat → Nat) : Nat → Nat
  | 0 => 0
  | k + 1 => 2 * firstNum bit k + bit k
theorem firstNum_lt (X : Box) (k : Nat) : firstNum X.bit k < 2 ^ k := by
  induction k with
  | zero => exact Nat.one_pos
  | succ k ih => have := X.bit_le k; simp only [firstNum, Nat.pow_succ]; omega
def decAt (bit : Nat → Nat) (k : Nat) : St := { lo := 0, hi := 4294967295, dl := 0, cnt := 0, out := [], num := firstNum bit k, at_ := k }
theorem live_dec (X : Box) : Live (decAt X.bit 32) := by
  have := firstNum_lt X 32
  exact ⟨⟨by simp [decAt], by simp [decAt], by simp [decAt], by simp only [decAt]; omega⟩, rfl, by simp [decAt]⟩

def decBox (B bw : Nat) (G : List Nat) (A : Option Addr) (n cap : Nat) (f : Nat → Nat) : Box := { B := B, bw := bw, T := 90, G := G, A := A, n := n, cap := cap, f := f, x9 := some (.bool true) }

theorem dec_num {B bw n cap : Nat} {G F : List Nat} {A : Option Addr} {f : Nat → Nat} {w : World} {s : St} {sh : Nat} (h : COk (decBox B bw G A n cap f) w F s sh) : w.cell? ⟨bw, 6, none⟩ = some (.int .u64 (s.num : Nat)) ∧ w.frozen? ⟨bw, 6, none⟩ = false := by
  obtain ⟨_, _, _, _, c6, _, _, hf⟩ := h.cells
  exact ⟨c6, hf 6⟩
theorem dec_sh (b : Nat → Nat) (k : Nat) : 4294967295 - (decAt b k).hi = 0 := by simp [decAt]
set_option maxRecDepth 100000 in
set_option maxHeartbeats 1000000 in
theorem NewDecoder_ok (A : Option Addr) (n cap : Nat) (f : Nat → Nat) (w : World) (h : BRow w A n f) (hn : n ≤ 1000000) (hby : ∀ i, i < n → f i < 256) (hnil : A = none → n = 0 ∧ cap = 0) :
    Calls Try.prog 21 #[.slice A n cap] w fun e w' => ∃ G A' cap', e = .returned (.pointer (some ⟨w.heap.size, 0, none⟩)) ∧ EOk (decBox w.heap.size w.heap.size G A' n cap' f) w' [w.heap.size] (decAt (decBox w.heap.size w.heap.size G A' n cap' f).bit 32) ∧ (∀ q, q ∈ G → w.heap.size ≤ q) ∧ Below w.heap.size w w' := by
  have hcl := fun wx hb => Clone_ok A n cap f wx (h.keepd (w' := wx) hb) hn hnil
  have H := Lib.hid (And.intro hcl hby); clear hcl h hby hnil
  go_enter Try.func21, Try.ntmps21
  go_wp2_with fail
  refine (H.out.1 _ ((Below.refl _ _).alloc (Nat.le_refl _) _)).mono ?_
  rintro e w1 ⟨v, rfl, hv⟩
  obtain ⟨⟨G, A', cap', rfl, hrow, hG, _⟩, hbel⟩ := hv
  have hblk : w1.heap[w.heap.size]? = some (.cells #[.int .u64 0, .int .u64 0, .int .i64 0, .int .i64 0, .slice none 0 0, .int .i64 0, .int .u64 0, .slice none 0 0, .int .i64 0, .bool true] 90 (0, 0)) := (hbel.block _ (by simp)).trans (heap_alloc_new w _)
  have hlt : ∀ q, q ∈ G → w.heap.size < q := by
    intro q hq
    have := (hG q hq).1
    rw [World.size_alloc] at this
    omega
  have hb1 : Below w.heap.size w w1 := ((Below.refl _ _).alloc (Nat.le_refl _) _).trans (hbel.mono (by simp))
  have hc0 : COk (decBox w.heap.size w.heap.size G A' n cap' f) (w1.setCell ⟨w.heap.size, 7, none⟩ (.slice A' n cap')) [w.heap.size] (decAt (decBox w.heap.size w.heap.size G A' n cap' f).bit 0) 0 := by
    have hw : WOk w1 w.heap.size w.heap.size 4 90 #[.int .u64 0, .int .u64 0, .int .i64 0, .int .i64 0, .slice none 0 0, .int .i64 0, .int .u64 0, .slice none 0 0, .int .i64 0, .bool true] [w.heap.size] [] :=
      (WOk.new (B := w.heap.size) (o := 4) (Nat.le_refl _) rfl rfl (by decide)).below hbel
    refine ⟨_, hw.set_ 7 (by decide) (by decide) _, rfl, rfl, rfl, rfl, rfl, rfl, rfl, rfl, ?_, ?_, hn, H.out.2⟩
    · exact hrow.same fun q hq => Below.heap_setCell _ _ _ _ (fun e => by have h1 := hlt q hq; have h2 : q = w.heap.size := e; omega)
    · intro q hq
      have h1 := hlt q hq
      refine ⟨fun e => by rw [List.mem_singleton] at e; omega, ?_⟩
      simpa [World.setCell] using (hG q hq).2
  have f7 := free_of_block hblk 7
  have c7 := (cell_of_block hblk 7).trans rfl
  have hb2 : Below w.heap.size w (w1.setCell ⟨w.heap.size, 7, none⟩ (.slice A' n cap')) := then_only hb1 (Only.setCell (b := w.heap.size) (p := ⟨w.heap.size, 7, none⟩) (Only.refl _ _) rfl _) (Nat.le_refl _)
  have H1 := Lib.hid (And.intro hc0 (And.intro hlt (And.intro hb2 hblk))); clear hc0 hlt hb1 hb2 hblk hbel hG hrow
  go_wp2_with fail
  go_loopg [12] 32 (fun gh i wr => ∃ j : Nat, gh = 32 - j ∧ j ≤ 32 ∧ i = .int .i64 j ∧ (COk (decBox w.heap.size w.heap.size G A' n cap' f) wr [w.heap.size] (decAt (decBox w.heap.size w.heap.size G A' n cap' f).bit j) 0 ∧ Below w.heap.size w wr))
  case atStart => exact ⟨0, rfl, by omega, rfl, H1.out.1, H1.out.2.2.1⟩
  case round =>
    obtain ⟨j, hgh, hj, rfl, hR⟩ := hrel
    have Hgh := Lib.hid hgh; clear hgh
    have HR := Lib.hid hR; clear hR c7 f7
    by_cases hlt : j < 32
    · obtain ⟨c6, f6⟩ := dec_num HR.out.1
      have hnum := firstNum_lt (decBox w.heap.size w.heap.size G A' n cap' f) j
      have hp : 2 ^ j ≤ 2 ^ 31 := Nat.pow_le_pow_right (by decide) (by omega)
      have hbit := (decBox w.heap.size w.heap.size G A' n cap' f).bit_le j
      have hnx := fun m => next_ok (wr.drewN m) (HR.out.1.drewN m) (by show j ≤ _; omega)
      have hs2 : ∀ b, firstNum b (j + 1) = 2 * firstNum b j + b j := fun _ => rfl
      have e1 : (decAt (decBox w.heap.size w.heap.size G A' n cap' f).bit j).at_ = j := rfl
      have e2 : (decAt (decBox w.heap.size w.heap.size G A' n cap' f).bit j).num = firstNum (decBox w.heap.size w.heap.size G A' n cap' f).bit j := rfl
      have hs3 := hs2 (decBox w.heap.size w.heap.size G A' n cap' f).bit
      rw [e1] at hnx
      rw [e2] at c6
      obtain ⟨num, enum⟩ : ∃ num, num = firstNum (decBox w.heap.size w.heap.size G A' n cap' f).bit j := ⟨_, rfl⟩
      obtain ⟨b, eb⟩ : ∃ b, b = (decBox w.heap.size w.heap.size G A' n cap' f).bit j := ⟨_, rfl⟩
      rw [← enum] at c6 hnum hs3
      rw [← eb] at hbit hnx hs3
      have hnum2 : num < 2147483648 := by omega
      have HN := Lib.hid (And.intro hnx (And.intro enum (And.intro eb hs3)))
      clear hnx enum eb hnum hp e1 e2 hs2 hs3
      go_wp2_with fail
      go_region_with (
        (refine (HN.out.1 _).mono ?_
         rintro e w3 ⟨rfl, h4, fr4⟩
         obtain ⟨c6q, f6'⟩ := dec_num h4
         have c6' : w3.cell? ⟨w.heap.size, 6, none⟩ = some (.int .u64 (num : Nat)) := c6q.trans (by rw [HN.out.2.1]; rfl)
         clear c6q
         have H4 := Lib.hid (And.intro h4 fr4); clear h4 fr4))
      all_goals
        have hv : IntKind.u64.wrap (IntKind.u64.wrap (2 * (num : Int)) + (b : Int)) = ((2 * num + b : Nat) : Int) := by
          rw [IntKind.wrap_u64, IntKind.wrap_u64]; omega
        obtain ⟨nv, env⟩ : ∃ nv, nv = 2 * num + b := ⟨_, rfl⟩
        rw [hv, ← env]
        clear hv
        have hend : COk (decBox w.heap.size w.heap.size G A' n cap' f) (w3.setCell ⟨w.heap.size, 6, none⟩ (.int .u64 (nv : Nat))) [w.heap.size] (decAt (decBox w.heap.size w.heap.size G A' n cap' f).bit (j + 1)) 0 := by
          have := H4.out.1.set_num nv
          unfold decAt
          rw [HN.out.2.2.2, ← env]
          exact this
        have hbel := then_only (then_only (then_drewN HR.out.2 _) H4.out.2 (Nat.le_refl _)) (Only.setCell (b := w.heap.size) (p := ⟨w.heap.size, 6, none⟩) (Only.refl _ w3) rfl (.int .u64 (nv : Nat))) (Nat.le_refl _)
        have HE := Lib.hid (And.intro hend hbel)
        clear hend hbel env
        go_wp2_with fail
        go_roundg (32 - (j + 1))
        case measure => have := Hgh.out; omega
        case rel => exact ⟨j + 1, rfl, by omega, by go_num, HE.out.1, HE.out.2⟩
    · obtain rfl : j = 32 := by omega
      go_wp2_with fail
      go_ret
      refine ⟨G, A', cap', rfl, ⟨by rw [dec_sh]; exact HR.out.1, live_dec _, HR.out.2.size⟩, fun q hq => Nat.le_of_lt (H1.out.2.1 q hq), HR.out.2⟩
end Go.Proofs.Ytdekcilfkelhlaa
