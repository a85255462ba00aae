/- rng.Fold, rng.New, rng.Perm of nothing, marcheskit.SameInts; draws that are known; the chapter's examples. -/
import Derived.Test.YtabgeonlodmpiaaGreatDoorWeigh
import Derived.Test.YtabgeonlodmpiaaGreatDoorPerm
namespace Go.Proofs.YtabgeonlodmpiaaGreatDoor
open Go.RowKit

theorem Fold_no (x n : Int) (w : World) (h : n < 1) :
    Calls Tryz.prog 8 #[.int .u64 x, .int .i64 n] w fun e w' => e = .returned (.tuple #[.int .i64 0, .bool false]) ∧ w = w' := by
  go_enter Tryz.func8, Tryz.ntmps8
  go_wp2_with fail
  go_ret2
  exact ⟨rfl, rfl⟩

theorem foldV_lt (x n : Int) (h : 1 ≤ n) : foldV x n < n := by
  unfold foldV M.rem
  split
  · rw [if_neg (by omega)]
    have := Nat.mod_lt x.toNat (show 0 < n.toNat by omega)
    omega
  · omega

theorem Fold_calls (x n : Int) (w : World) (h0 : 0 ≤ x) (h1 : x ≤ 18446744073709551615) (n0 : 1 ≤ n) (n1 : n ≤ 9223372036854775807) :
    Calls Tryz.prog 8 #[.int .u64 x, .int .i64 n] w fun e w' => e = .returned (.tuple #[.int .i64 (foldV x n), .bool (foldOk x n)]) ∧ w = w' := by
  have a := (foldV_in x n h0 h1).1
  have b := foldV_lt x n n0
  go_enter Tryz.func8, Tryz.ntmps8
  go_wp2_with (go_at_call 13; refine (fold_calls _ _ _ h0 h1 (by omega) (by omega)).mono ?_; rintro e w' ⟨rfl, rfl⟩)
  go_ret2
  exact ⟨rfl, rfl⟩

theorem Perm_zero (s k : Int) (w : World) :
    Calls Tryz.prog 21 #[.int .u64 s, .int .i64 k, .int .i64 0] w fun e w' =>
      e = .returned (.tuple #[.slice none 0 0, .int .i64 k, .int .i64 0]) ∧ Below w.heap.size w w' := by
  go_enter Tryz.func21, Tryz.ntmps21
  go_wp2_with fail
  go_loopg [6, 18] 0 (fun gh v i wr => v = .slice none 0 0 ∧ i = .int .i64 0 ∧ wr = w)
  case atStart => exact ⟨rfl, rfl, rfl⟩
  case round =>
    obtain ⟨rfl, rfl, rfl⟩ := hrel
    go_wp2_with (go_at_call 38; refine (shuffle_none _ _).mono ?_; rintro e w' ⟨rfl, rfl⟩)
    go_quiet (fail)
    go_wp2
    go_ret3
    exact ⟨rfl, below_drewN' (((Below.refl _ _).alloc (Nat.le_refl _) _).alloc (by simp) _) _⟩

theorem SameInts_yes (A C : Option Addr) (ca cc : Nat) (xs : List Int) (w : World) (hA : Ints w A xs) (hC : Ints w C xs) (hl : xs.length ≤ 1000000) :
    Calls Tryz.prog 23 #[.slice A xs.length ca, .slice C xs.length cc] w fun e w' => e = .returned (.bool true) ∧ Below w.heap.size w w' := by
  have HA := Lib.hid hA; clear hA
  have HC := Lib.hid hC; clear hC
  go_enter Tryz.func23, Tryz.ntmps23
  go_wp2_with fail
  go_loopg [5] xs.length (fun gh i wr => ∃ j m : Nat, gh = xs.length - j ∧ j ≤ xs.length ∧ i = .int .i64 j ∧ wr = w.drewN m)
  case atStart => exact ⟨0, 0, rfl, by omega, rfl, rfl⟩
  case round =>
    obtain ⟨j, m, hgh, hj, rfl, rfl⟩ := hrel
    have Hgh := Lib.hid hgh; clear hgh
    by_cases hlt : j < xs.length
    · obtain ⟨ad, rfl, hc⟩ := HA.out j hlt
      obtain ⟨ae, rfl, hd⟩ := HC.out j hlt
      obtain ⟨x, hx⟩ : ∃ x, x = xs.getD j 0 := ⟨_, rfl⟩
      rw [← hx] at hc hd
      clear hx
      have i0 : (0 : Int) ≤ (j : Int) := by omega
      have i1 : (j : Int) < (xs.length : Int) := by omega
      go_wp2_with fail
      go_quiet (fail)
      go_wp2
      go_roundg (xs.length - (j + 1))
      case measure => have := Hgh.out; omega
      case rel => exact ⟨j + 1, _, rfl, by omega, by go_num, rfl⟩
    · go_wp2_with fail
      go_ret
      exact ⟨rfl, below_drewN' (Below.refl _ _) _⟩

theorem draw_now (s k n : Int) (h : foldOk (wordI s (wrap64 k)) n = true) : drawV s k n = foldV (wordI s (wrap64 k)) n ∧ drawK s k n = wrap64 (k + 1) := by
  have e : J s k n = 0 := by
    have := J_le s k n 0 (by simpa using h)
    omega
  unfold drawV drawK
  rw [e]
  simp

theorem d1000 : drawV 1234567 0 1000 = 317 ∧ drawK 1234567 0 1000 = 1 :=
  ⟨(draw_now 1234567 0 1000 (by decide +kernel)).1.trans (by decide +kernel), (draw_now 1234567 0 1000 (by decide +kernel)).2.trans (by decide +kernel)⟩
theorem d1 : drawV 1234567 0 1 = 0 ∧ drawK 1234567 0 1 = 1 :=
  ⟨(draw_now 1234567 0 1 (by decide +kernel)).1.trans (by decide +kernel), (draw_now 1234567 0 1 (by decide +kernel)).2.trans (by decide +kernel)⟩
theorem d0 : drawV 1234567 0 0 = 6457827717110365317 ∧ drawK 1234567 0 0 = 1 :=
  ⟨(draw_now 1234567 0 0 (by decide +kernel)).1.trans (by decide +kernel), (draw_now 1234567 0 0 (by decide +kernel)).2.trans (by decide +kernel)⟩
theorem d3 : drawV 1234567 0 3 = 0 ∧ drawK 1234567 0 3 = 1 :=
  ⟨(draw_now 1234567 0 3 (by decide +kernel)).1.trans (by decide +kernel), (draw_now 1234567 0 3 (by decide +kernel)).2.trans (by decide +kernel)⟩
theorem d2 : drawV 1234567 1 2 = 1 ∧ drawK 1234567 1 2 = 2 :=
  ⟨(draw_now 1234567 1 2 (by decide +kernel)).1.trans (by decide +kernel), (draw_now 1234567 1 2 (by decide +kernel)).2.trans (by decide +kernel)⟩
theorem d02 : drawV 0 1 2 = 0 ∧ drawK 0 1 2 = 2 :=
  ⟨(draw_now 0 1 2 (by decide +kernel)).1.trans (by decide +kernel), (draw_now 0 1 2 (by decide +kernel)).2.trans (by decide +kernel)⟩
theorem shuf_step (s : Int) (i i' : Nat) (l : List Nat) (k b k' N : Int) (hi : i = i' + 1) (hN : N = (i' : Int) + 1 + 1) (hb : drawV s k N = b) (hk : drawK s k N = k') :
    shuf s i l k = shuf s i' (swp l i b.toNat) k' := by subst hi hN hb hk; rfl
theorem p3 : permF 1234567 0 3 = ([2, 1, 0], 2) :=
  (shuf_step 1234567 2 1 (List.range 3) 0 0 1 3 rfl rfl d3.1 d3.2).trans ((shuf_step 1234567 1 0 [2, 1, 0] 1 1 2 2 rfl rfl d2.1 d2.2).trans rfl)
theorem p2 : permF 0 1 2 = ([1, 0], 2) :=
  (shuf_step 0 1 0 (List.range 2) 1 0 2 2 rfl rfl d02.1 d02.2).trans rfl
theorem pick_ex : pick [0, 317, 1, 682] 317 = 2 := first_eq (by decide) (by decide)

theorem then_ {w x y : World} (h : Below w.heap.size w x) (k : Below x.heap.size x y) : Below w.heap.size w y := h.trans (k.mono h.size)
theorem then_alloc {w x : World} (h : Below w.heap.size w x) (o : Obj) : Below w.heap.size w (x.alloc o) := h.alloc h.size o

theorem NewNats.ints {B : Nat} {w : World} {v : Value} {l : List Nat} (h : NewNats B w v l) : ∃ A cap, v = .slice A l.length cap ∧ Ints w A (l.map fun x => ((x : Nat) : Int)) ∧ ∀ ad, A = some ad → ad.block < w.heap.size ∧ B ≤ ad.block := by
  rcases h with ⟨rfl, rfl⟩ | ⟨g, cap, cur, rfl, _, hB, hg, hc⟩
  · exact ⟨none, 0, rfl, fun j hj => by simp at hj, fun ad h => by cases h⟩
  · refine ⟨_, cap, rfl, ?_, ?_⟩
    · intro j hj
      rw [List.length_map] at hj
      refine ⟨_, rfl, ?_⟩
      have e := (cell_of_block hg j).trans (hc j hj)
      have e2 : (Addr.add ⟨g, 0, none⟩ j) = ⟨g, j, none⟩ := by unfold Addr.add; split <;> simp_all
      rw [e2, e]
      simp [List.getD_eq_getElem?_getD, hj]
    · intro ad h
      injection h with h
      subst h
      exact ⟨lt_of_block hg, hB⟩

/-- The cells of a literal. -/
theorem Ints.lit {w : World} {g : Nat} {ws : List Int} {t : TypeId} (h : w.heap[g]? = some (.cells (ws.map (Value.int .i64)).toArray t (0, 0))) : Ints w (some ⟨g, 0, none⟩) ws := by
  intro j hj
  refine ⟨_, rfl, ?_⟩
  have e2 : (Addr.add ⟨g, 0, none⟩ j) = ⟨g, j, none⟩ := by unfold Addr.add; split <;> simp_all
  rw [e2, cell_of_block h j]
  simp [List.getD_eq_getElem?_getD, hj]

theorem drew_calls (v next e want behind : Int) (w : World) (h1 : v = want) (h2 : next = behind) (h3 : e = 0) :
    Calls Tryz.prog 20 #[.int .i64 v, .int .i64 next, .int .i64 e, .int .i64 want, .int .i64 behind] w fun e w' => e = .returned (.bool true) ∧ w = w' := by
  subst h1 h2 h3
  go_enter Tryz.func20, Tryz.ntmps20
  go_wp2_with fail
  go_ret
  exact ⟨by simp, rfl⟩

theorem word_at (s k r : Int) (w : World) (h : wordI s k = r) :
    Calls Tryz.prog 6 #[.int .u64 s, .int .i64 k] w fun e w' => e = .returned (.int .u64 r) ∧ w = w' := by
  rw [← h]; exact word_calls s k w
theorem fold_at (x n r : Int) (b : Bool) (w : World) (h0 : 0 ≤ x) (h1 : x ≤ 18446744073709551615) (n0 : 1 ≤ n) (n1 : n ≤ 9223372036854775807) (h : foldV x n = r) (hb : foldOk x n = b) :
    Calls Tryz.prog 8 #[.int .u64 x, .int .i64 n] w fun e w' => e = .returned (.tuple #[.int .i64 r, .bool b]) ∧ w = w' := by
  rw [← h, ← hb]; exact Fold_calls x n w h0 h1 n0 n1
end Go.Proofs.YtabgeonlodmpiaaGreatDoor
