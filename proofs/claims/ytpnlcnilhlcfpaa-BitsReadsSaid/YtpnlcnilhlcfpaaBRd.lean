/- The law's read and End, in one contract each. -/
import Derived.Test.YtpnlcnilhlcfpaaBRefM
set_option linter.unusedVariables false
namespace Go.Proofs.Ytpnlcnilhlcfpaa
open Go.RowKit
open M (numOf zag)

theorem readAny (br : Nat) (F : List Nat) (s : List Bool) (bad kind : Nat) (nn kk : Int) (w : World) (h : ROk w br F s bad) (hk : kind < 256) :
    Calls Try.prog 9 #[.pointer (some ⟨br, 0, none⟩), .agg #[.int .u8 (kind : Int), .int .u64 nn, .int .i64 kk]] w fun e w' =>
      e = .returned (.tuple #[.int .u64 ((rdAll kind kk s bad).1 : Nat), .int .i64 ((rdAll kind kk s bad).2.1 : Nat)]) ∧ ROk w' br F (rdAll kind kk s bad).2.2.1 (rdAll kind kk s bad).2.2.2 ∧ Fr [br] w [br] w' := by
  have hr := fun o => RAt.alloc h o
  by_cases hin : (kind % 3 = 0 → 0 ≤ kk ∧ kk ≤ 64) ∧ (kind % 3 ≠ 0 → 0 ≤ kk ∧ kk ≤ 30)
  · have h0 : 0 ≤ kk := by
      by_cases e : kind % 3 = 0
      · exact (hin.1 e).1
      · exact (hin.2 e).1
    have R := read_ok br F s bad kind kk.toNat nn w h (fun e => by have := hin.1 e; omega) (fun e => by have := hin.2 e; omega) hk
    rw [show ((kk.toNat : Nat) : Int) = kk from by omega] at R
    have e : rdAll kind kk s bad = readA kind kk.toNat s bad := by
      unfold rdAll readA rdA rdC argA
      by_cases e : kind % 3 = 0
      · have := hin.1 e
        rw [if_pos e, if_pos e, if_neg (show ¬ (kk < 0 ∨ 64 < kk) by omega)]
      · have := hin.2 e
        rw [if_neg e, if_neg e, if_neg (show ¬ (kk < 0 ∨ 30 < kk) by omega)]
    rw [e]
    exact R
  · by_cases hk0 : kind % 3 = 0
    · have hkk : kk < 0 ∨ 64 < kk := by
        refine Decidable.byContradiction fun hh => hin ⟨fun _ => by omega, fun e => absurd hk0 e⟩
      have e : rdAll kind kk s bad = (0, 2, s, bad) := by unfold rdAll rdA argA; rw [if_pos hk0, if_pos hkk]
      rw [e]
      have e0 : ((kind : Int) % 3 == 0) = true := by rw [beq_iff_eq]; omega
      have e1 : (kind % 3 == 0) = true := by rw [beq_iff_eq]; exact hk0
      have H := Lib.hid (And.intro (fun o => Get_arg br F s bad kk (w.alloc o) (hr o) hkk) hr)
      clear h hr hin hkk e hk hk0
      go_enter Try.func9, Try.ntmps9
      go_wp2_with fail
      refine (H.out.1 _).mono ?_
      rintro e w' ⟨rfl, rfl⟩
      go_wp2_with fail
      go_ret2
      exact ⟨rfl, H.out.2 _, Fr.of_only_alloc (Only.refl br _)⟩
    · have hkk : kk < 0 ∨ 30 < kk := by
        refine Decidable.byContradiction fun hh => hin ⟨fun e => absurd e hk0, fun _ => by omega⟩
      have e : rdC kk s bad = (0, 2, s, bad) := by unfold rdC argA; rw [if_pos hkk]
      have ez : zag 0 = 0 := by unfold M.zag; rw [if_pos (by decide)]
      have e2 : rdAll kind kk s bad = (0, 2, s, bad) := by
        unfold rdAll
        rw [if_neg hk0, e]
        split
        · rfl
        · rw [ez]
      rw [e2]
      have e0 : ((kind : Int) % 3 == 0) = false := by rw [beq_eq_false_iff_ne]; omega
      have e1 : (kind % 3 == 0) = false := by rw [beq_eq_false_iff_ne]; exact hk0
      by_cases hk1 : kind % 3 = 1
      · have e3 : ((kind : Int) % 3 == 1) = true := by rw [beq_iff_eq]; omega
        have e4 : (kind % 3 == 1) = true := by rw [beq_iff_eq]; exact hk1
        have H := Lib.hid (And.intro (fun o => GetCode_arg br F s bad kk (w.alloc o) (hr o) hkk) hr)
        clear h hr hin hkk e e2 ez hk hk0 hk1
        go_enter Try.func9, Try.ntmps9
        go_wp2_with fail
        refine (H.out.1 _).mono ?_
        rintro e w' ⟨rfl, rfl⟩
        go_wp2_with fail
        go_ret2
        exact ⟨rfl, H.out.2 _, Fr.of_only_alloc (Only.refl br _)⟩
      · have e3 : ((kind : Int) % 3 == 1) = false := by rw [beq_eq_false_iff_ne]; omega
        have e4 : (kind % 3 == 1) = false := by rw [beq_eq_false_iff_ne]; exact hk1
        have H := Lib.hid (And.intro (fun o => GetSigned_arg br F s bad kk (w.alloc o) (hr o) hkk) hr)
        clear h hr hin hkk e e2 ez hk hk0 hk1
        go_enter Try.func9, Try.ntmps9
        go_wp2_with fail
        refine (H.out.1 _).mono ?_
        rintro e w' ⟨rfl, rfl⟩
        go_wp2_with fail
        go_ret2
        exact ⟨rfl, H.out.2 _, Fr.of_only_alloc (Only.refl br _)⟩
theorem endAny (br : Nat) (F : List Nat) (s : List Bool) (bad : Nat) (w : World) (h : ROk w br F s bad) :
    Calls Try.prog 12 #[.pointer (some ⟨br, 0, none⟩)] w fun e w' => e = .returned (.int .i64 (endA s bad : Nat)) ∧ ROk w' br F (if endA s bad = 0 then s else []) (endA s bad) ∧ Only br w w' := by
  by_cases h0 : bad = 0
  · subst h0
    exact End_ok br F s w h
  · have e : endA s bad = bad := by unfold endA; rw [if_pos h0]
    have hs := h.bad_nil h0
    refine (End_bad br F s bad w h h0).mono ?_
    rintro r w' ⟨rfl, m, rfl⟩
    rw [e, if_neg h0]
    rw [hs] at h
    exact ⟨rfl, h.drewN m, (Only.refl br w).drewN m⟩
/-- The row of bits alone. -/
def mask (w : World) (P : Nat) : World := { w with heap := w.heap.mapIdx fun i o => if i < P then Obj.cells #[] 0 (0, 0) else o }
theorem mask_heap (w : World) (P k : Nat) : (mask w P).heap[k]? = if k < P then (w.heap[k]?).map (fun _ => Obj.cells #[] 0 (0, 0)) else w.heap[k]? := by
  show (w.heap.mapIdx _)[k]? = _
  rw [Array.getElem?_mapIdx]
  by_cases h : k < P
  · simp [h]
  · simp [h]
theorem RefR.to_mask {w : World} {P n cap : Nat} {A : Option Addr} {s : List Bool} (h : RefR w A n cap s) (hA : ∀ ad, A = some ad → P ≤ ad.block) : RefR (mask w P) A n cap s := by
  refine ⟨fun i hi => ?_, h.len, h.le, h.few, h.nil, h.off⟩
  obtain ⟨b, o, e, hb, hc⟩ := h.bits i hi
  have hP : P ≤ b := hA _ e
  have hh : (mask w P).heap[b]? = w.heap[b]? := by rw [mask_heap, if_neg (by omega)]
  refine ⟨b, o, e, ?_, (World.cell?_of_block (w := w) (a := ⟨b, o + i, Option.none⟩) hh).trans hc⟩
  show b < (w.heap.mapIdx _).size
  simpa using hb
theorem RefR.of_mask {w w' : World} {P n cap : Nat} {A : Option Addr} {s : List Bool} (h : RefR (mask w P) A n cap s) (hk : ∀ k, P ≤ k → k < w.heap.size → w'.heap[k]? = w.heap[k]?) : RefR w' A n cap s := by
  refine ⟨fun i hi => ?_, h.len, h.le, h.few, h.nil, h.off⟩
  obtain ⟨b, o, e, hb, hc⟩ := h.bits i hi
  have hb' : b < w.heap.size := by simpa [mask] using hb
  by_cases hP : b < P
  · exfalso
    have hh : (mask w P).heap[b]? = some (Obj.cells #[] 0 (0, 0)) := by rw [mask_heap, if_pos hP, Array.getElem?_eq_getElem hb']; rfl
    rw [cell_of_block hh] at hc
    simp at hc
  · have hh : (mask w P).heap[b]? = w.heap[b]? := by rw [mask_heap, if_neg hP]
    have hh2 : w'.heap[b]? = (mask w P).heap[b]? := (hk b (by omega) hb').trans hh.symm
    refine ⟨b, o, e, ?_, (World.cell?_of_block (w := mask w P) (a := ⟨b, o + i, Option.none⟩) hh2).trans hc⟩
    rcases Nat.lt_or_ge b w'.heap.size with h | h
    · exact h
    · rw [hk b (by omega) hb', Array.getElem?_eq_getElem hb'] at hh2
      have := hk b (by omega) hb'
      rw [Array.getElem?_eq_none h, Array.getElem?_eq_getElem hb'] at this
      cases this
end Go.Proofs.Ytpnlcnilhlcfpaa
