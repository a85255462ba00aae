/- bytes.Compare. -/
import Derived.Test.YtdekcilfkelhlaaAOnly
import Derived.Test.YtdekcilfkelhlaaAOrderT
import Derived.Lib.BytesEntry
set_option linter.unusedVariables false
namespace Go.Proofs.Ytdekcilfkelhlaa
open Go.RowKit

theorem compare_less {n : Nat} {f g : Nat → Nat} (hf : ∀ i, i < n → f i < 256) (hg : ∀ i, i < n → g i < 256) (h : Less n f g) : Lib.compareBytes (listF n f) (listF n g) = -1 ∧ Lib.compareBytes (listF n g) (listF n f) = 1 := by
  obtain ⟨i, hi, h1, h2⟩ := h
  have key : ∀ (r s : Nat), s + r = n → s ≤ i → Lib.compareBytes ((List.range' s r).map fun i => UInt8.ofNat (f i)) ((List.range' s r).map fun i => UInt8.ofNat (g i)) = -1 ∧ Lib.compareBytes ((List.range' s r).map fun i => UInt8.ofNat (g i)) ((List.range' s r).map fun i => UInt8.ofNat (f i)) = 1 := by
    intro r
    induction r with
    | zero => intro s hs hsi; omega
    | succ r ih =>
      intro s hs hsi
      rw [List.range'_succ, List.map_cons, List.map_cons]
      have lt8 : ∀ {a b : Nat}, a < 256 → b < 256 → ((UInt8.ofNat a < UInt8.ofNat b) ↔ a < b) := by
        intro a b ha hb
        rw [UInt8.lt_iff_toNat_lt]
        simp
        rw [Nat.mod_eq_of_lt ha, Nat.mod_eq_of_lt hb]
      by_cases e : s = i
      · subst e
        have l1 := (lt8 (hf s (by omega)) (hg s (by omega))).2 h2
        have l2 : ¬ UInt8.ofNat (g s) < UInt8.ofNat (f s) := fun h => by have := (lt8 (hg s (by omega)) (hf s (by omega))).1 h; omega
        unfold Lib.compareBytes
        exact ⟨if_pos l1, by rw [if_neg l2, if_pos l1]⟩
      · have es := h1 s (by omega)
        have l1 : ¬ UInt8.ofNat (f s) < UInt8.ofNat (f s) := fun h => by have := (lt8 (hf s (by omega)) (hf s (by omega))).1 h; omega
        rw [← es]
        obtain ⟨i1, i2⟩ := ih (s + 1) (by omega) (by omega)
        unfold Lib.compareBytes
        rw [if_neg l1, if_neg l1, if_neg l1, if_neg l1]
        exact ⟨i1, i2⟩
  have := key n 0 (by omega) (Nat.zero_le _)
  unfold listF
  rw [List.range_eq_range']
  exact this
theorem compare_same (n : Nat) (f : Nat → Nat) : Lib.compareBytes (listF n f) (listF n f) = 0 := by
  have : ∀ l : List UInt8, Lib.compareBytes l l = 0 := by
    intro l
    induction l with
    | nil => rfl
    | cons a l ih =>
      unfold Lib.compareBytes
      rw [if_neg (by simp), if_neg (by simp)]
      exact ih
  exact this _
theorem bytesOf_brow {P : Program} {w : World} {A : Option Addr} {n : Nat} {f : Nat → Nat} (h : BRow w A n f) (c : Nat) :
    (Extern.Bytes.bytesOf (.slice A n c)).run P w = .ok ⟨(listF n f).toArray⟩ w := by
  rcases A with _ | ad
  · have h0 : n = 0 := by
      rcases Nat.eq_zero_or_pos n with h0 | h0
      · exact h0
      · obtain ⟨ad, e, _⟩ := h 0 h0
        cases e
    subst h0
    rfl
  · have hl := Lib.run_loadBytesX (P := P) w ((List.range n).map fun i => ((f i : Nat) : Int)) ad .empty (fun j x hj => by
      rw [List.getElem?_map] at hj
      rcases Nat.lt_or_ge j n with hjn | hjn
      · obtain ⟨ad', e, hc⟩ := h j hjn
        obtain rfl : ad = ad' := Option.some.inj e
        rw [List.getElem?_range hjn] at hj
        rw [hc]
        simp only [Option.map_some] at hj
        rw [Option.some.inj hj]
      · rw [List.getElem?_eq_none (by simpa using hjn)] at hj
        cases hj)
    rw [List.length_map, List.length_range] at hl
    have e : (Lib.bytesOf ((List.range n).map fun i => ((f i : Nat) : Int))) = listF n f := by
      unfold Lib.bytesOf listF
      rw [List.map_map]
      rfl
    rw [e] at hl
    have he : (⟨ByteArray.empty.data ++ (listF n f).toArray⟩ : ByteArray) = ⟨(listF n f).toArray⟩ := by
      apply ByteArray.ext
      show (#[] : Array UInt8) ++ (listF n f).toArray = (listF n f).toArray
      simp
    rw [he] at hl
    exact hl
theorem compare_entry {P : Program} {w : World} {A C : Option Addr} {n m : Nat} {f g : Nat → Nat} (hA : BRow w A n f) (hC : BRow w C m g) (ca cc : Nat) :
    (Extern.BytealgCompare.compare #[.slice A n ca, .slice C m cc]).run P w = .ok (.int .i64 (Lib.compareBytes (listF n f) (listF m g))) w := by
  change Sem.run P (do pure (goInt (Extern.BytealgCompare.cmp (← Extern.Bytes.bytesOf (.slice A n ca)) (← Extern.Bytes.bytesOf (.slice C m cc))))) w = _
  simp only [Sem.run_bind, Sem.run_pure, bytesOf_brow hA, bytesOf_brow hC, Result.andThen]
  rw [Lib.cmp_eq]
  rfl
theorem Compare_b {A C : Option Addr} {n m ca cc : Nat} {f g : Nat → Nat} (r : Int) (w : World) (hA : BRow w A n f) (hC : BRow w C m g) (hr : Lib.compareBytes (listF n f) (listF m g) = r) :
    Calls Try.prog 33 #[.slice A n ca, .slice C m cc] w fun e w' => e = .returned (.int .i64 r) ∧ w = w' := by
  have hx : (callFunc 59 #[.slice A n ca, .slice C m cc]).run Try.prog w = .ok (.value (.int .i64 r)) w := by
    rw [run_callFunc_extern Try.func59 (by kernel_rfl) (by kernel_rfl) (by kernel_rfl) (e := Extern.BytealgCompare.compare) (by kernel_rfl), compare_entry hA hC, hr]
    rfl
  clear hA hC hr
  go_enter Try.func33, Try.ntmps33
  go_wp2_with fail
  go_ret
  exact ⟨rfl, rfl⟩
end Go.Proofs.Ytdekcilfkelhlaa
