/- get. -/
import Derived.Test.YtdekcilfkelhlaaAItemP
set_option linter.unusedVariables false
namespace Go.Proofs.Ytdekcilfkelhlaa
open Go.RowKit
open M (blen zig zag)

section
variable {bm g : Nat → Nat} {fr : Bun} {w w' w0 : World} {l : List Part} {B bw n cap : Nat} {G F : List Nat} {A : Option Addr} {f : Nat → Nat} {st : St}
set_option maxRecDepth 100000 in
set_option maxHeartbeats 2000000 in
theorem get_int (kind m n0 n1 : Nat) (x s : Int) (h : Ses w0 w (decPart B bw G A n cap f F st :: kPart 11 bm g (nums2 n0 n1) fr :: l)) (hd : DOk (inBit n f) ksz (st, fr)) (hc : st.cnt + 65 ≤ 32768) (h1 : kind < 256) (h2 : m < 256) (s0 : -9223372036854775808 ≤ s) (s1 : s ≤ 9223372036854775807) (hk : kind % 4 = 3) (hr : Reads (inBit n f) (st, fr) (opsOf kind m s)) :
    Calls Try.prog 24 #[bunV bm n0 n1, .pointer (some ⟨bw, 0, none⟩), itemV kind m x] w fun e w' => e = .returned (.tuple #[.int .i64 s, .int .i64 0]) ∧ ∃ F', Ses w0 w' (decPart B bw G A n cap f F' (steps (inBit n f) (st, fr) (opsOf kind m s)).1 :: kPart 11 bm g (nums2 n0 n1) (steps (inBit n f) (st, fr) (opsOf kind m s)).2 :: l) := by
  have hk' : (((kind : Int) % 4) == 3) = true := by rw [beq_iff_eq]; omega
  obtain ⟨q, eq⟩ : ∃ q, q = m % 2 := ⟨_, rfl⟩
  have hq : q < 2 := by omega
  have ht2 : (m : Int) % 2 = (q : Nat) := by omega
  have i1 : (0 : Int) ≤ (q : Nat) := by omega
  have i2 : ((q : Nat) : Int) < 2 := by omega
  have h3 := (h.alloc (.cells #[pV (bm 6), pV (bm 7), pV (bm 8), pV (bm 9), pV (bm 10), pV n0, pV n1] 45)).alloc (.cells #[.int .u8 (kind : Int), .int .u8 (m : Int), .int .i64 x] 61)
  have hops : opsOf kind m s = zops (3 * q) (zig (wordOf s)) := by unfold opsOf; rw [if_pos hk, eq]
  rw [hops] at hr ⊢
  have hb : ((w.alloc (.cells #[pV (bm 6), pV (bm 7), pV (bm 8), pV (bm 9), pV (bm 10), pV n0, pV n1] 45)).alloc (.cells #[.int .u8 (kind : Int), .int .u8 (m : Int), .int .i64 x] 61)).heap[w.heap.size]? = some (.cells #[pV (bm 6), pV (bm 7), pV (bm 8), pV (bm 9), pV (bm 10), pV n0, pV n1] 45 (0, 0)) :=
    (Below.block ((Below.refl _ _).alloc (Nat.le_refl _) _) _ (by simp)).trans (heap_alloc_new w _)
  have hc5 := (cell_of_block hb (5 + q)).trans (bun_num bm n0 n1 q hq)
  have hn := num_at n0 n1 q hq
  obtain ⟨nb, enb⟩ : ∃ nb, nb = if q = 0 then n0 else n1 := ⟨_, rfl⟩
  rw [← enb] at hc5 hn
  clear enb
  have hget := h3.getInt nb (zig (wordOf s)) hn hc (intSz q hq) hd hr (zig_lt64 s)
  rw [M.zag_zig (by simpa using wordOf_lt s), sOf_wordOf s0 s1] at hget
  unfold bunV itemV
  unfold pV at *
  have H := Lib.hid hget
  clear h h3 hops eq hb hk hn hr hd hget
  go_enter Try.func24, Try.ntmps24
  go_wp2_with fail
  refine H.out.mono ?_
  rintro e w3 ⟨rfl, h3⟩
  have H3 := Lib.hid h3; clear h3
  go_wp2_with fail
  go_ret2
  exact ⟨rfl, H3.out⟩
set_option maxRecDepth 100000 in
set_option maxHeartbeats 2000000 in
theorem get_sym (kind m n0 n1 i : Nat) (x : Int) (h : Ses w0 w (decPart B bw G A n cap f F st :: kPart 11 bm g (nums2 n0 n1) fr :: l)) (hd : DOk (inBit n f) ksz (st, fr)) (hc : st.cnt + 65 ≤ 32768) (h1 : kind < 256) (h2 : m < 256) (hk : kind % 4 ≠ 3) (hr : Reads (inBit n f) (st, fr) (opsOf kind m (i : Nat))) :
    Calls Try.prog 24 #[bunV bm n0 n1, .pointer (some ⟨bw, 0, none⟩), itemV kind m x] w fun e w' => e = .returned (.tuple #[.int .i64 (i : Nat), .int .i64 0]) ∧ ∃ F', Ses w0 w' (decPart B bw G A n cap f F' (steps (inBit n f) (st, fr) (opsOf kind m (i : Nat))).1 :: kPart 11 bm g (nums2 n0 n1) (steps (inBit n f) (st, fr) (opsOf kind m (i : Nat))).2 :: l) := by
  have hk' : (((kind : Int) % 4) == 3) = false := by rw [beq_eq_false_iff_ne]; omega
  obtain ⟨q, eq⟩ : ∃ q, q = m % 5 := ⟨_, rfl⟩
  have hq : q < 5 := by omega
  have ht2 : (m : Int) % 5 = (q : Nat) := by omega
  have i1 : (0 : Int) ≤ (q : Nat) := by omega
  have i2 : ((q : Nat) : Int) < 5 := by omega
  have h3 := (h.alloc (.cells #[pV (bm 6), pV (bm 7), pV (bm 8), pV (bm 9), pV (bm 10), pV n0, pV n1] 45)).alloc (.cells #[.int .u8 (kind : Int), .int .u8 (m : Int), .int .i64 x] 61)
  have hops : opsOf kind m (i : Nat) = [(6 + q, i)] := by unfold opsOf; rw [if_neg hk, eq]; rfl
  rw [hops] at hr ⊢
  have hb : ((w.alloc (.cells #[pV (bm 6), pV (bm 7), pV (bm 8), pV (bm 9), pV (bm 10), pV n0, pV n1] 45)).alloc (.cells #[.int .u8 (kind : Int), .int .u8 (m : Int), .int .i64 x] 61)).heap[w.heap.size]? = some (.cells #[pV (bm 6), pV (bm 7), pV (bm 8), pV (bm 9), pV (bm 10), pV n0, pV n1] 45 (0, 0)) :=
    (Below.block ((Below.refl _ _).alloc (Nat.le_refl _) _) _ (by simp)).trans (heap_alloc_new w _)
  have hc5 := (cell_of_block hb q).trans (bun_mod bm n0 n1 q hq)
  have hget := h3.kget (6 + q) (by omega) hd.iv (by omega)
  rw [show decSym (fr (6 + q)) st = i from hr.1] at hget
  unfold bunV itemV
  unfold pV at *
  have H := Lib.hid hget
  clear h h3 hops eq hb hk hr hd hget
  go_enter Try.func24, Try.ntmps24
  go_wp2_with fail
  refine H.out.mono ?_
  rintro e w3 ⟨rfl, h3⟩
  have H3 := Lib.hid h3; clear h3
  go_wp2_with fail
  go_ret2
  exact ⟨rfl, H3.out⟩
theorem iget_ok (kind m n0 n1 : Nat) (x s : Int) (h : Ses w0 w (decPart B bw G A n cap f F st :: kPart 11 bm g (nums2 n0 n1) fr :: l)) (hd : DOk (inBit n f) ksz (st, fr)) (hc : st.cnt + 65 ≤ 32768) (h1 : kind < 256) (h2 : m < 256) (s0 : -9223372036854775808 ≤ s) (s1 : s ≤ 9223372036854775807) (hf : kind % 4 ≠ 3 → 0 ≤ s) (hr : Reads (inBit n f) (st, fr) (opsOf kind m s)) :
    Calls Try.prog 24 #[bunV bm n0 n1, .pointer (some ⟨bw, 0, none⟩), itemV kind m x] w fun e w' => e = .returned (.tuple #[.int .i64 s, .int .i64 0]) ∧ ∃ F', Ses w0 w' (decPart B bw G A n cap f F' (steps (inBit n f) (st, fr) (opsOf kind m s)).1 :: kPart 11 bm g (nums2 n0 n1) (steps (inBit n f) (st, fr) (opsOf kind m s)).2 :: l) := by
  by_cases hk : kind % 4 = 3
  · exact get_int kind m n0 n1 x s h hd hc h1 h2 s0 s1 hk hr
  · have f0 := hf hk
    obtain ⟨i, rfl⟩ : ∃ i : Nat, s = i := ⟨s.toNat, by omega⟩
    exact get_sym kind m n0 n1 i x h hd hc h1 h2 hk hr
/-- A decoder finds some item. -/
theorem get_some (kind m : Nat) {c : St × Bun} (hd : DOk (inBit n f) ksz c) : ∃ s : Int, -9223372036854775808 ≤ s ∧ s ≤ 9223372036854775807 ∧ (kind % 4 ≠ 3 → 0 ≤ s ∧ s < ksz (6 + m % 5)) ∧ Reads (inBit n f) c (opsOf kind m s) := by
  by_cases hk : kind % 4 = 3
  · obtain ⟨z, hz, hr⟩ := reads_int (inBit_le n f) (intSz (m % 2) (by omega)) hd
    have h1 : M.zag z < 18446744073709551616 := by have := M.zag_lt hz; simpa using this
    refine ⟨sOf (zag z), ?_, ?_, fun h => absurd hk h, ?_⟩
    · unfold sOf; split <;> omega
    · unfold sOf; split <;> omega
    · unfold opsOf
      rw [if_pos hk, wordOf_sOf h1, M.zig_zag hz]
      exact hr
  · refine ⟨(decSym (c.2 (6 + m % 5)) c.1 : Nat), by omega, ?_, fun _ => ⟨by omega, ?_⟩, ?_⟩
    · obtain ⟨_, h2⟩ := hd.step (inBit_le n f) (o := (6 + m % 5, decSym (c.2 (6 + m % 5)) c.1)) rfl
      have h3 : decSym (c.2 (6 + m % 5)) c.1 < ksz (6 + m % 5) := h2
      have := (ksz_bd (6 + m % 5)).2
      omega
    · obtain ⟨_, h2⟩ := hd.step (inBit_le n f) (o := (6 + m % 5, decSym (c.2 (6 + m % 5)) c.1)) rfl
      have h3 : decSym (c.2 (6 + m % 5)) c.1 < ksz (6 + m % 5) := h2
      omega
    · unfold opsOf
      rw [if_neg hk]
      exact ⟨rfl, trivial⟩
theorem opsOf_fit (kind m : Nat) (s : Int) (hf : kind % 4 ≠ 3 → 0 ≤ s ∧ s < ksz (6 + m % 5)) : (∀ o, o ∈ opsOf kind m s → Fit ksz o) ∧ (opsOf kind m s).length ≤ 65 := by
  unfold opsOf
  split
  · have := zops_fit (intSz (m % 2) (by omega)) (z := zig (wordOf s)) (by simpa using zig_lt64 s)
    exact ⟨this.1, this.2.1⟩
  · rename_i hk
    refine ⟨fun o ho => ?_, by simp⟩
    rw [List.mem_singleton] at ho
    subst ho
    have := hf hk
    unfold Fit
    simp only []
    omega
end
end Go.Proofs.Ytdekcilfkelhlaa
