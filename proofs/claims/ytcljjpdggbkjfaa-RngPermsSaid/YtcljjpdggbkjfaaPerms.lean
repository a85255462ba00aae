/- RngPerms. -/
import Derived.Test.YtcljjpdggbkjfaaFair
import Derived.Test.YtcljjpdggbkjfaaPermLaw
import Derived.Laws.MakeOwn
set_option linter.unusedVariables false
namespace Go.Proofs.Ytcljjpdggbkjfaa
open Go.RowKit

theorem Perm_any (s k n : Int) (N : Nat) (hn : n = N) (w : World) (k0 : -9223372036854775808 ≤ k) (k1 : k ≤ 9223372036854775807) (n1 : N ≤ 1024) :
    Calls Try.prog 17 #[.int .u64 s, .int .i64 k, .int .i64 n] w fun e w' =>
      ∃ A cap, e = .returned (.tuple #[.slice A N cap, .int .i64 (permF s k N).2, .int .i64 0]) ∧ Ints w' A ((permF s k N).1.map fun x => ((x : Nat) : Int)) ∧ (∀ ad, A = some ad → ad.block < w'.heap.size) ∧ Below w.heap.size w w' := by
  subst hn
  rcases Nat.eq_zero_or_pos N with h | h
  · subst h
    refine (Perm_zero s k w).mono ?_
    rintro e w' ⟨rfl, hb⟩
    exact ⟨none, 0, rfl, fun j hj => by rw [List.length_map, permF_length] at hj; omega, fun ad h => (by cases h), hb⟩
  · exact Perm_shape (permF_length s k N) (Perm_calls s k N w k0 k1 h n1)

/-- How often each number below N stands among the first j of a list. -/
def seenA (N : Nat) (L : List Nat) (j : Nat) : Array Value := ((List.range N).map fun i => Value.int .i64 (((L.take j).count i : Nat) : Int)).toArray
theorem seenA_at {N : Nat} {L : List Nat} {j i : Nat} (h : i < N) : (seenA N L j)[i]? = some (.int .i64 (((L.take j).count i : Nat) : Int)) := by
  simp [seenA, h]
theorem seenA_size (N : Nat) (L : List Nat) (j : Nat) : (seenA N L j).size = N := by simp [seenA]
theorem seenA_zero (N : Nat) (L : List Nat) : madeCells #[Value.int .i64 0] N = seenA N L 0 := by
  apply Array.ext
  · simp [madeCells, seenA]
  · intro i h1 h2
    simp [madeCells, seenA, Nat.mod_one]
theorem take_count (L : List Nat) (j i : Nat) (hj : j < L.length) : (L.take (j + 1)).count i = (L.take j).count i + if L.getD j 0 = i then 1 else 0 := by
  rw [List.take_succ_eq_append_getElem hj, List.count_append]
  have : L.getD j 0 = L[j] := by simp [List.getD_eq_getElem?_getD, hj]
  rw [this]
  simp [List.count_cons]
theorem seenA_step {N : Nat} {L : List Nat} {j : Nat} (hj : j < L.length) (hx : L.getD j 0 < N) :
    (seenA N L j).setIfInBounds (L.getD j 0) (.int .i64 (((L.take j).count (L.getD j 0) : Nat) + 1)) = seenA N L (j + 1) := by
  apply Array.ext
  · simp [seenA]
  · intro i h1 h2
    have hi : i < N := by rw [seenA_size] at h2; exact h2
    have e2 : (seenA N L (j + 1))[i] = .int .i64 (((L.take (j + 1)).count i : Nat) : Int) := by
      have := seenA_at (N := N) (L := L) (j := j + 1) hi
      rw [Array.getElem?_eq_getElem h2] at this
      exact Option.some.inj this
    have h3 : i < (seenA N L j).size := by rw [seenA_size]; exact hi
    have e1 : (seenA N L j)[i] = .int .i64 (((L.take j).count i : Nat) : Int) := by
      have := seenA_at (N := N) (L := L) (j := j) hi
      rw [Array.getElem?_eq_getElem h3] at this
      exact Option.some.inj this
    rw [e2, Array.getElem_setIfInBounds (hj := h3), take_count L j i hj, e1]
    by_cases h : L.getD j 0 = i
    · rw [if_pos h, if_pos h, h]; rfl
    · rw [if_neg h, if_neg h]; rfl

theorem map_getD {L : List Nat} {j : Nat} (h : j < L.length) : (L.map fun x => ((x : Nat) : Int)).getD j 0 = ((L.getD j 0 : Nat) : Int) := by
  simp [List.getD_eq_getElem?_getD, h]

set_option maxRecDepth 100000 in
set_option maxHeartbeats 2000000 in
theorem perms_walk (s k n : Int) (w : World) (k0 : -9223372036854775808 ≤ k) (k1 : k ≤ 9223372036854775807) (n0 : 0 ≤ n) (n1 : n ≤ 255) :
    Calls Try.prog 7 #[.int .u64 s, .int .i64 k, .int .u8 n] w fun e w' => e = .returned (.bool true) ∧ Below w.heap.size w w' := by
  obtain ⟨N, hN⟩ : ∃ N : Nat, n % 61 = (N : Int) := ⟨(n % 61).toNat, by omega⟩
  have hN2 : N ≤ 60 := by omega
  obtain ⟨i0, hi, hz0, hz1, hz2⟩ := info_parts info3
  have hmk : ∀ W : World, (Instr.makeSlice 39 (.int .i64 (N : Int)) (.int .i64 (N : Int))).run Try.prog W = .ok (.slice (some ⟨W.heap.size, 0, none⟩) N N) (W.alloc (.cells (madeCells (Value.int .i64 0).cells (N * 1)) 3)) := fun W => by
    have := run_make (P := Try.prog) W 39 3 i0 (.int .i64 0) Try.underlying39 hi hz0 .i64 .i64 (N : Int) (N : Int) (by omega) (by omega) (by rw [hz2]; omega) (by omega)
    rw [hz1] at this
    simpa using this
  clear hi hz0 hz1 hz2
  have hLl := permF_length s k N
  have hpos : ∀ j, j < N → (permF s k N).1.getD j 0 < N := fun j hj => permF_lt s k N (by omega) j hj
  have hcount : ∀ i, i < N → (permF s k N).1.count i = 1 := fun i hi => by rw [permF_count s k N i (by omega), if_pos hi]
  have h01 : N < 2 → (permF s k N).2 = k := fun h => by
    rcases (show N = 0 ∨ N = 1 from by omega) with rfl | rfl <;> rfl
  have hstep : ∀ m, N = m + 2 → _ := fun m h => permF_step s k m
  have hPc := fun w => Perm_any s k (N : Int) N rfl w k0 k1 (by omega)
  obtain ⟨L, hL⟩ : ∃ L, L = (permF s k N).1 := ⟨_, rfl⟩
  obtain ⟨K, hK⟩ : ∃ K, K = (permF s k N).2 := ⟨_, rfl⟩
  rw [← hL] at hLl hpos hcount
  rw [← hK] at h01
  simp only [← hL, ← hK] at hPc
  have HF := Lib.hid (And.intro hLl (And.intro hpos (And.intro hcount (And.intro h01 (And.intro hstep (And.intro hL hK))))))
  have HP := Lib.hid hPc
  clear hLl hpos hcount h01 hstep hPc hL hK
  go_enter Try.func7, Try.ntmps7
  go_wp2_with fail
  refine (HP.out _).mono ?_
  rintro e w1 ⟨A, cap, rfl, hiA, hA, hb⟩
  have HA := Lib.hid (And.intro hiA hA)
  have HB := Lib.hid hb
  clear hiA hA hb
  go_wp2_with fail
  go_loopg [49] N (fun gh i wr => ∃ j : Nat, gh = N - j ∧ j ≤ N ∧ i = .int .i64 j ∧ (wr.heap[w1.heap.size]? = some (.cells (seenA N L j) 3 (0, 0)) ∧ Below w1.heap.size w1 wr))
  case atStart => exact ⟨0, rfl, by omega, rfl, by rw [← seenA_zero]; exact heap_alloc_new _ _, (Below.refl _ _).alloc (Nat.le_refl _) _⟩
  case round =>
    obtain ⟨j, hgh, hj, rfl, hR⟩ := hrel
    have Hgh := Lib.hid hgh; clear hgh
    have HR := Lib.hid hR; clear hR
    by_cases hlt : j < N
    · obtain ⟨ad, hAd, hc⟩ := (HA.out.1.below HA.out.2 HR.out.2) j (by rw [List.length_map, HF.out.1]; exact hlt)
      rw [map_getD (by rw [HF.out.1]; exact hlt)] at hc
      obtain ⟨x, hx⟩ : ∃ x, x = L.getD j 0 := ⟨_, rfl⟩
      have hxN : x < N := by rw [hx]; exact HF.out.2.1 j hlt
      rw [← hx] at hc
      have hd := (cell_of_block HR.out.1 x).trans (seenA_at hxN)
      have hfz := free_of_block HR.out.1 x
      obtain ⟨c, hcc⟩ : ∃ c, c = (L.take j).count x := ⟨_, rfl⟩
      have hcb : c ≤ 1000 := by rw [hcc]; have := List.count_le_length (a := x) (l := L.take j); have := List.length_take_le j L; omega
      rw [← hcc] at hd
      have HX := Lib.hid (And.intro hx hcc)
      have x0 : (0 : Int) ≤ (x : Int) := by omega
      have x1 : (x : Int) < (N : Int) := by omega
      clear hx hcc hj
      subst hAd
      go_wp2_with fail
      go_roundg (N - (j + 1))
      case measure => have := Hgh.out; omega
      case rel =>
        refine ⟨j + 1, rfl, by omega, by go_num, ?_, ?_⟩
        · have e := block_setCell HR.out.1 x (.int .i64 ((c : Int) + 1))
          rw [HX.out.1, HX.out.2, HX.out.1] at e
          rw [seenA_step (by rw [HF.out.1]; exact hlt) (by rw [← HX.out.1]; exact hxN)] at e
          rw [HX.out.2, HX.out.1]
          exact e
        · exact HR.out.2.setCell (Nat.le_refl _) _
    · have hjN : j = N := by omega
      subst hjN
      clear hj hlt
      go_wp2_with fail
      go_loopg [69] j (fun gh i wx => ∃ q : Nat, gh = j - q ∧ q ≤ j ∧ i = .int .i64 q ∧ wx = wr)
      case atStart => exact ⟨0, rfl, by omega, rfl, rfl⟩
      case round =>
        obtain ⟨q, hgh, hq, rfl, rfl⟩ := hrel
        have Hg2 := Lib.hid hgh; clear hgh
        by_cases hlt : q < j
        · have hd := (cell_of_block HR.out.1 q).trans (seenA_at hlt)
          rw [List.take_of_length_le (by rw [HF.out.1]; exact Nat.le_refl _), HF.out.2.2.1 q hlt] at hd
          clear hq
          go_wp2_with fail
          go_roundg (j - (q + 1))
          case measure => have := Hg2.out; omega
          case rel => exact ⟨q + 1, rfl, by omega, by go_num, rfl⟩
        · clear hq
          have HBr := Lib.hid (then_ HB.out HR.out.2)
          have HAr := Lib.hid (HA.out.1.below HA.out.2 HR.out.2)
          have hAr : ∀ ad, A = some ad → ad.block < wr.heap.size := fun ad h => Nat.lt_of_lt_of_le (HA.out.2 ad h) HR.out.2.size
          have HAb := Lib.hid hAr
          clear hAr HR HB HP
          by_cases hsm : j < 2
          · have hKk : (K == k) = true := by rw [HF.out.2.2.2.1 hsm]; simp
            go_wp2_with fail
            refine (awake_calls _).mono ?_
            rintro e w9 ⟨rfl, hb⟩
            have HB9 := Lib.hid (then_ HBr.out hb); clear hb HBr
            go_wp2_with fail
            go_ret
            exact ⟨rfl, HB9.out⟩
          · obtain ⟨m, rfl⟩ : ∃ m, j = m + 2 := ⟨j - 2, by omega⟩
            obtain ⟨p1, p2, p3⟩ := HF.out.2.2.2.2.1 m rfl
            rw [← HF.out.2.2.2.2.2.1] at p2 p3
            rw [← HF.out.2.2.2.2.2.2] at p1
            have hbc := fun w => Below_calls s k ((m : Int) + 2) w k0 k1 (by omega) (by omega)
            have hpc := fun w => Perm_any s (drawK s k ((m : Int) + 2)) ((m : Int) + 2 - 1) (m + 1) (by omega) w (drawK_lo _ _ _) (drawK_hi _ _ _) (by omega)
            have hl2 := permF_length s (drawK s k ((m : Int) + 2)) (m + 1)
            rw [← p1] at hpc
            generalize (permF s (drawK s k ((m : Int) + 2)) (m + 1)).1 = R at p3 hpc hl2
            generalize drawV s k ((m : Int) + 2) = V at hbc p2 p3
            generalize drawK s k ((m : Int) + 2) = E at hbc hpc
            have HS := Lib.hid (And.intro p2 (And.intro p3 (And.intro hbc (And.intro hpc hl2))))
            clear p1 p2 p3 hbc hpc hl2
            go_wp2_with fail
            refine (HS.out.2.2.1 _).mono ?_
            rintro e w2 ⟨rfl, hb2⟩
            have HB2 := Lib.hid hb2; clear hb2
            go_wp2_with fail
            refine (HS.out.2.2.2.1 _).mono ?_
            rintro e w3 ⟨C, cc, rfl, hiC, hC, hb3⟩
            have HB3 := Lib.hid (then_ HB2.out hb3); clear hb3 HB2
            have HC := Lib.hid (And.intro hiC hC); clear hiC hC
            have HA3 := Lib.hid (HAr.out.below HAb.out HB3.out)
            have HBz := Lib.hid (then_ HBr.out HB3.out)
            clear HAr HAb HBr
            obtain ⟨ad, hAd, hc⟩ := HA3.out (m + 1) (by rw [List.length_map, HF.out.1]; omega)
            rw [map_getD (by rw [HF.out.1]; omega), HS.out.1] at hc
            have m0 : (0 : Int) ≤ (m : Int) + 1 := by omega
            have ea : ad.add (m + 1) = ⟨ad.block, ad.off + (m + 1), none⟩ := by unfold Addr.add; rw [if_neg (by omega)]
            rw [ea] at hc
            clear ea
            subst hAd
            go_wp2_with fail
            go_loopg [123] (m + 1) (fun gh i wx => ∃ q : Nat, gh = m + 1 - q ∧ q ≤ m + 1 ∧ i = .int .i64 q ∧ wx = w3)
            case atStart => exact ⟨0, rfl, by omega, rfl, rfl⟩
            case round =>
              obtain ⟨z, hgh, hz, rfl, rfl⟩ := hrel
              have Hg3 := Lib.hid hgh; clear hgh
              by_cases hlt : z < m + 1
              · obtain ⟨ae, hAe, hd⟩ := HC.out.1 z (by rw [List.length_map, HS.out.2.2.2.2]; exact hlt)
                rw [map_getD (by rw [HS.out.2.2.2.2]; exact hlt)] at hd
                obtain ⟨af, hAf, hf⟩ := HA3.out z (by rw [List.length_map, HF.out.1]; omega)
                rw [map_getD (by rw [HF.out.1]; omega), HS.out.2.1 z (by omega)] at hf
                injection hAf with hAf
                subst hAf
                subst hAe
                generalize R.getD z 0 = x at hd hf
                by_cases hxV : (x : Int) = V
                · rw [if_pos hxV] at hf
                  subst hxV
                  go_wp2_with fail
                  go_roundg (m + 1 - (z + 1))
                  case measure => have := Hg3.out; omega
                  case rel => exact ⟨z + 1, rfl, by omega, by go_num, rfl⟩
                · rw [if_neg hxV] at hf
                  go_wp2_with fail
                  go_roundg (m + 1 - (z + 1))
                  case measure => have := Hg3.out; omega
                  case rel => exact ⟨z + 1, rfl, by omega, by go_num, rfl⟩
              · go_wp2_with fail
                refine (SameInts_yes (some ad) none cap 0 [] _ (fun j hj => by simp at hj) (fun j hj => by simp at hj) (by decide)).mono ?_
                rintro e w4 ⟨rfl, hb⟩
                have HB4 := Lib.hid (then_ HBz.out hb); clear hb HBz
                go_wp2_with fail
                refine (awake_calls _).mono ?_
                rintro e w5 ⟨rfl, hb⟩
                have HB5 := Lib.hid (then_ HB4.out hb); clear hb HB4
                go_wp2_with fail
                go_ret
                exact ⟨rfl, HB5.out⟩
end Go.Proofs.Ytcljjpdggbkjfaa
