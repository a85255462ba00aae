/- put. -/
import Derived.Test.YtdekcilfkelhlaaAFresh
set_option linter.unusedVariables false
namespace Go.Proofs.Ytdekcilfkelhlaa
open Go.RowKit
open M (blen zig zag)

/-- An item as the laws hand it on. -/
def itemV (kind m : Nat) (s : Int) : Value := .agg #[.int .u8 (kind : Int), .int .u8 (m : Int), .int .i64 s]
/-- An item as symbols. -/
def opsOf (kind m : Nat) (s : Int) : List Op := if kind % 4 = 3 then zops (3 * (m % 2)) (zig (wordOf s)) else [(6 + m % 5, s.toNat)]
def nums2 (n0 n1 : Nat) : List (Nat × Nat) := [(n1, 3), (n0, 0)]
theorem intSz (q : Nat) (h : q < 2) : IntSz ksz (3 * q) := by
  have : q = 0 ∨ q = 1 := by omega
  rcases this with rfl | rfl <;> exact ⟨rfl, rfl, rfl⟩
theorem num_at (n0 n1 q : Nat) (h : q < 2) : ((if q = 0 then n0 else n1), 3 * q) ∈ nums2 n0 n1 := by
  have : q = 0 ∨ q = 1 := by omega
  rcases this with rfl | rfl <;> simp [nums2]
theorem bun_num (bm : Nat → Nat) (n0 n1 q : Nat) (h : q < 2) : (#[pV (bm 6), pV (bm 7), pV (bm 8), pV (bm 9), pV (bm 10), pV n0, pV n1] : Array Value)[5 + q]? = some (pV (if q = 0 then n0 else n1)) := by
  have : q = 0 ∨ q = 1 := by omega
  rcases this with rfl | rfl <;> rfl
theorem bun_mod (bm : Nat → Nat) (n0 n1 q : Nat) (h : q < 5) : (#[pV (bm 6), pV (bm 7), pV (bm 8), pV (bm 9), pV (bm 10), pV n0, pV n1] : Array Value)[q]? = some (pV (bm (6 + q))) := by
  have : q = 0 ∨ q = 1 ∨ q = 2 ∨ q = 3 ∨ q = 4 := by omega
  rcases this with rfl | rfl | rfl | rfl | rfl <;> rfl
section
variable {bm g : Nat → Nat} {fr : Bun} {w w' w0 : World} {l : List Part} {bw : Nat} {F : List Nat} {st : St}
set_option maxRecDepth 100000 in
set_option maxHeartbeats 2000000 in
theorem put_int (kind m n0 n1 : Nat) (s : Int) (h : Ses w0 w (encPart w0.heap.size bw F st :: kPart 11 bm g (nums2 n0 n1) fr :: l)) (hs : Shape ksz fr) (hc : st.cnt + 65 ≤ 32768) (h1 : kind < 256) (h2 : m < 256) (s0 : -9223372036854775808 ≤ s) (s1 : s ≤ 9223372036854775807) (hk : kind % 4 = 3) :
    Calls Try.prog 30 #[bunV bm n0 n1, .pointer (some ⟨bw, 0, none⟩), itemV kind m s] w fun e w' => e = .returned (.int .i64 0) ∧ ∃ F', Ses w0 w' (encPart w0.heap.size bw F' (steps zbit (st, fr) (opsOf kind m s)).1 :: kPart 11 bm g (nums2 n0 n1) (steps zbit (st, fr) (opsOf kind m s)).2 :: l) := by
  have hk' : (((kind : Int) % 4) == 3) = true := by rw [beq_iff_eq]; omega
  obtain ⟨q, eq⟩ : ∃ q, q = m % 2 := ⟨_, rfl⟩
  have hq : q < 2 := by omega
  have ht : (m : Int).tmod 2 = (q : Nat) := by rw [Int.tmod_eq_emod_of_nonneg (by omega)]; omega
  have ht2 : (m : Int) % 2 = (q : Nat) := by omega
  have i1 : (0 : Int) ≤ (q : Nat) := by omega
  have i2 : ((q : Nat) : Int) < 2 := by omega
  have h3 := (h.alloc (.cells #[pV (bm 6), pV (bm 7), pV (bm 8), pV (bm 9), pV (bm 10), pV n0, pV n1] 45)).alloc (.cells #[.int .u8 (kind : Int), .int .u8 (m : Int), .int .i64 s] 61)
  have hops : opsOf kind m s = zops (3 * q) (zig (wordOf s)) := by unfold opsOf; rw [if_pos hk, eq]
  rw [hops]
  have hb : ((w.alloc (.cells #[pV (bm 6), pV (bm 7), pV (bm 8), pV (bm 9), pV (bm 10), pV n0, pV n1] 45)).alloc (.cells #[.int .u8 (kind : Int), .int .u8 (m : Int), .int .i64 s] 61)).drew.heap[w.heap.size]? = some (.cells #[pV (bm 6), pV (bm 7), pV (bm 8), pV (bm 9), pV (bm 10), pV n0, pV n1] 45 (0, 0)) :=
    (Below.block ((Below.refl _ _).alloc (Nat.le_refl _) _) _ (by simp)).trans (heap_alloc_new w _)
  have hc5 := (cell_of_block hb (5 + q)).trans (bun_num bm n0 n1 q hq)
  have hn := num_at n0 n1 q hq
  obtain ⟨nb, enb⟩ : ∃ nb, nb = if q = 0 then n0 else n1 := ⟨_, rfl⟩
  rw [← enb] at hc5 hn
  clear enb
  unfold bunV itemV
  unfold pV at *
  have H := Lib.hid (And.intro h3 (And.intro hs hn))
  clear h h3 hs hops eq hb hk hn
  go_enter Try.func30, Try.ntmps30
  go_wp2_with fail
  go_region_with (
    (refine ((H.out.1.drewN _).putInt (b := 3 * q) _ s H.out.2.2 hc H.out.2.1 (intSz q hq) s0 s1).mono ?_
     rintro e w3 ⟨rfl, h3⟩
     have H3 := Lib.hid h3; clear h3))
  all_goals
    go_wp2_with fail
    go_ret
    exact ⟨rfl, H3.out⟩
set_option maxRecDepth 100000 in
set_option maxHeartbeats 2000000 in
theorem put_sym (kind m n0 n1 i : Nat) (h : Ses w0 w (encPart w0.heap.size bw F st :: kPart 11 bm g (nums2 n0 n1) fr :: l)) (hs : Shape ksz fr) (hc : st.cnt + 65 ≤ 32768) (h1 : kind < 256) (h2 : m < 256) (hi : i < ksz (6 + m % 5)) (hk : kind % 4 ≠ 3) :
    Calls Try.prog 30 #[bunV bm n0 n1, .pointer (some ⟨bw, 0, none⟩), itemV kind m (i : Nat)] w fun e w' => e = .returned (.int .i64 0) ∧ ∃ F', Ses w0 w' (encPart w0.heap.size bw F' (steps zbit (st, fr) (opsOf kind m (i : Nat))).1 :: kPart 11 bm g (nums2 n0 n1) (steps zbit (st, fr) (opsOf kind m (i : Nat))).2 :: l) := by
  have hk' : (((kind : Int) % 4) == 3) = false := by rw [beq_eq_false_iff_ne]; omega
  obtain ⟨q, eq⟩ : ∃ q, q = m % 5 := ⟨_, rfl⟩
  have hq : q < 5 := by omega
  have ht : (m : Int).tmod 5 = (q : Nat) := by rw [Int.tmod_eq_emod_of_nonneg (by omega)]; omega
  have ht2 : (m : Int) % 5 = (q : Nat) := by omega
  have i1 : (0 : Int) ≤ (q : Nat) := by omega
  have i2 : ((q : Nat) : Int) < 5 := by omega
  have h3 := (h.alloc (.cells #[pV (bm 6), pV (bm 7), pV (bm 8), pV (bm 9), pV (bm 10), pV n0, pV n1] 45)).alloc (.cells #[.int .u8 (kind : Int), .int .u8 (m : Int), .int .i64 (i : Nat)] 61)
  have hops : opsOf kind m (i : Nat) = [(6 + q, i)] := by unfold opsOf; rw [if_neg hk, eq]; rfl
  rw [hops]
  rw [← eq] at hi
  have hb : ((w.alloc (.cells #[pV (bm 6), pV (bm 7), pV (bm 8), pV (bm 9), pV (bm 10), pV n0, pV n1] 45)).alloc (.cells #[.int .u8 (kind : Int), .int .u8 (m : Int), .int .i64 (i : Nat)] 61)).drew.heap[w.heap.size]? = some (.cells #[pV (bm 6), pV (bm 7), pV (bm 8), pV (bm 9), pV (bm 10), pV n0, pV n1] 45 (0, 0)) :=
    (Below.block ((Below.refl _ _).alloc (Nat.le_refl _) _) _ (by simp)).trans (heap_alloc_new w _)
  have hc5 := (cell_of_block hb q).trans (bun_mod bm n0 n1 q hq)
  unfold bunV itemV
  unfold pV at *
  have H := Lib.hid (And.intro h3 (And.intro hs hi))
  clear h h3 hs hops eq hb hk hi
  go_enter Try.func30, Try.ntmps30
  go_wp2_with fail
  go_region_with (
    (refine ((H.out.1.drewN _).kput (6 + q) i (by omega) (by omega) (by rw [H.out.2.1.len]; exact H.out.2.2)).mono ?_
     rintro e w3 ⟨rfl, h3⟩
     have H3 := Lib.hid h3; clear h3))
  all_goals
    go_wp2_with fail
    go_ret
    exact ⟨rfl, H3.out⟩
theorem iput_ok (kind m n0 n1 : Nat) (s : Int) (h : Ses w0 w (encPart w0.heap.size bw F st :: kPart 11 bm g (nums2 n0 n1) fr :: l)) (hs : Shape ksz fr) (hc : st.cnt + 65 ≤ 32768) (h1 : kind < 256) (h2 : m < 256) (s0 : -9223372036854775808 ≤ s) (s1 : s ≤ 9223372036854775807) (hf : kind % 4 ≠ 3 → 0 ≤ s ∧ s < ksz (6 + m % 5)) :
    Calls Try.prog 30 #[bunV bm n0 n1, .pointer (some ⟨bw, 0, none⟩), itemV kind m s] w fun e w' => e = .returned (.int .i64 0) ∧ ∃ F', Ses w0 w' (encPart w0.heap.size bw F' (steps zbit (st, fr) (opsOf kind m s)).1 :: kPart 11 bm g (nums2 n0 n1) (steps zbit (st, fr) (opsOf kind m s)).2 :: l) := by
  by_cases hk : kind % 4 = 3
  · exact put_int kind m n0 n1 s h hs hc h1 h2 s0 s1 hk
  · obtain ⟨f0, f1⟩ := hf hk
    obtain ⟨i, rfl⟩ : ∃ i : Nat, s = i := ⟨s.toNat, by omega⟩
    exact put_sym kind m n0 n1 i h hs hc h1 h2 (by omega) hk
end
end Go.Proofs.Ytdekcilfkelhlaa
