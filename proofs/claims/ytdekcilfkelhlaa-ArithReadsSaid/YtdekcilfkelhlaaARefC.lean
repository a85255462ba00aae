/- The reference: the known models; next, what it does to memory. -/
import Derived.Test.YtdekcilfkelhlaaARefB
set_option linter.unusedVariables false
namespace Go.Proofs.Ytdekcilfkelhlaa
open Go.RowKit

/-- Which model of the set the i-th of the reference is. -/
def rmap (i : Nat) : Nat := if i < 5 then 6 + i else i - 5
theorem rmap_inj {i j : Nat} (hi : i < 11) (hj : j < 11) (h : rmap i = rmap j) : i = j := by unfold rmap at h; split at h <;> split at h <;> omega
/-- The models of the reference in memory: a block of eleven slices, their rows in blocks of F. -/
structure KN (w : World) (kb : Nat) (F : List Nat) (fr : Bun) (cs : Array Value) : Prop where
  blk : w.heap[kb]? = some (.cells cs 50 (0, 0))
  far : kb ∉ F
  lt : ∀ q, q ∈ F → q < w.heap.size
  row : ∀ i, i < 11 → ∃ A n cap, cs[i]? = some (.slice A n cap) ∧ LRow w A n (fr (rmap i)) ∧ ∀ ad, A = some ad → ad.block ∈ F
section
variable {w w' : World} {kb : Nat} {F : List Nat} {fr : Bun} {cs : Array Value}
theorem KN.keep (h : KN w kb F fr cs) (hs : ∀ q, q ∈ kb :: F → w'.heap[q]? = w.heap[q]?) (hz : w.heap.size ≤ w'.heap.size) : KN w' kb F fr cs := by
  refine ⟨(hs kb (by simp)).trans h.blk, h.far, fun q hq => Nat.lt_of_lt_of_le (h.lt q hq) hz, fun i hi => ?_⟩
  obtain ⟨A, n, cap, h1, h2, h3⟩ := h.row i hi
  exact ⟨A, n, cap, h1, h2.keep (fun ad e => hs _ (List.mem_cons_of_mem _ (h3 ad e))) hz, h3⟩
theorem KN.below (h : KN w kb F fr cs) (hb : Below w.heap.size w w') : KN w' kb F fr cs :=
  h.keep (fun q hq => hb.block q (by
    rcases List.mem_cons.1 hq with rfl | hq
    · exact lt_of_block h.blk
    · exact h.lt q hq)) hb.size
theorem KN.set (h : KN w kb F fr cs) {i : Nat} (hi : i < 11) {A : Option Addr} {n cap g : Nat} {l : List Nat} (hr : LRow w A n l) (hA : ∀ ad, A = some ad → ad.block = g) (hg : g ≠ kb) (hlt : g < w.heap.size) :
    KN (w.setCell ⟨kb, i, none⟩ (.slice A n cap)) kb (g :: F) (upd fr (rmap i) l) (cs.setIfInBounds i (.slice A n cap)) := by
  have ho : Only kb w (w.setCell ⟨kb, i, none⟩ (.slice A n cap)) := Only.setCell (b := kb) (p := ⟨kb, i, none⟩) (Only.refl _ _) rfl _
  refine ⟨block_setCell h.blk i _, ?_, ?_, fun j hj => ?_⟩
  · intro hq
    rcases List.mem_cons.1 hq with e | hq
    · exact hg e.symm
    · exact h.far hq
  · intro q hq
    rw [ho.size]
    rcases List.mem_cons.1 hq with rfl | hq
    · exact hlt
    · exact h.lt q hq
  · obtain ⟨A1, n1, c1, h1, h2, h3⟩ := h.row j hj
    by_cases e : j = i
    · subst e
      refine ⟨A, n, cap, set_get h1, ?_, fun ad e => by rw [hA ad e]; simp⟩
      rw [upd_at]
      exact hr.keep (fun ad e => ho.block _ (by rw [hA ad e]; exact hg)) (by rw [ho.size]; exact Nat.le_refl _)
    · refine ⟨A1, n1, c1, (set_far (fun h => e h.symm)).trans h1, ?_, fun ad e => List.mem_cons_of_mem _ (h3 ad e)⟩
      rw [upd_far (fun h => e (rmap_inj hj hi h))]
      exact h2.keep (fun ad e => ho.block _ (fun q => h.far (by rw [← q]; exact h3 ad e))) (by rw [ho.size]; exact Nat.le_refl _)
end
/-- A turn of next. -/
structure NW (w0 : World) (kb : Nat) (F0 : List Nat) (oO iO : Option Addr) (n : Nat) (f : Nat → Nat) (it : Array Value) (wr : World) (c : St × Bun) (F : List Nat) (cs : Array Value) (oA : Option Addr) (on oc : Nat) (iA : Option Addr) (im ic : Nat) : Prop where
  b4 : wr.heap[w0.heap.size]? = some (.cells (rC c.1.lo c.1.hi c.1.dl oA on oc c.1.num iA im ic) 53 (0, 0))
  b5 : wr.heap[w0.heap.size + 1]? = some (.cells it 61 (0, 0))
  b7 : wr.heap[w0.heap.size + 2]? = some (.cells rZ 53 (0, 0))
  kn : KN wr kb F c.2 cs
  row : RCo wr n f c.1 oA on oc iA im ic
  kl : kb < w0.heap.size
  old : ∀ q, q ∈ F → q < w0.heap.size ∨ w0.heap.size + 3 ≤ q
  onew : ∀ ad, oA = some ad → ad.block ≠ kb ∧ (ad.block < w0.heap.size ∨ w0.heap.size + 3 ≤ ad.block)
  inew : ∀ ad, iA = some ad → ad.block ≠ kb ∧ (ad.block < w0.heap.size ∨ w0.heap.size + 3 ≤ ad.block)
  ofrom : From w0 oO oA
  ifrom : From w0 iO iA
  fr : Fr (kb :: F0) w0 (kb :: F) wr
section
variable {w0 wr w' : World} {kb n : Nat} {F0 F : List Nat} {oO iO oA iA oA' iA' : Option Addr} {on oc im ic on' oc' im' ic' : Nat} {f : Nat → Nat} {it cs : Array Value} {c : St × Bun} {t : St}
theorem NW.below (h : NW w0 kb F0 oO iO n f it wr c F cs oA on oc iA im ic) (hb : Below wr.heap.size wr w') : NW w0 kb F0 oO iO n f it w' c F cs oA on oc iA im ic := by
  have h7 := lt_of_block h.b7
  exact ⟨(hb.block _ (by omega)).trans h.b4, (hb.block _ (by omega)).trans h.b5, (hb.block _ h7).trans h.b7, h.kn.below hb, h.row.below hb, h.kl, h.old, h.onew, h.inew, h.ofrom, h.ifrom, h.fr.trans (Fr.of_below hb _)⟩
theorem NW.coded (h : NW w0 kb F0 oO iO n f it wr c F cs oA on oc iA im ic) (hr : RCo wr n f t oA' on' oc' iA' im' ic') (h1 : ∀ ad, oA' = some ad → ad.block ≠ kb ∧ (ad.block < w0.heap.size ∨ w0.heap.size + 3 ≤ ad.block)) (h2 : ∀ ad, iA' = some ad → ad.block ≠ kb ∧ (ad.block < w0.heap.size ∨ w0.heap.size + 3 ≤ ad.block)) (h3 : From w0 oO oA') (h4 : From w0 iO iA') :
    NW w0 kb F0 oO iO n f it (put6 wr w0.heap.size (.int .i64 (t.lo : Nat)) (.int .i64 (t.hi : Nat)) (.int .i64 (t.dl : Nat)) (.slice oA' on' oc') (.int .i64 (t.num : Nat)) (.slice iA' im' ic')) (t, c.2) F cs oA' on' oc' iA' im' ic' := by
  have ho : Only w0.heap.size wr (put6 wr w0.heap.size (.int .i64 (t.lo : Nat)) (.int .i64 (t.hi : Nat)) (.int .i64 (t.dl : Nat)) (.slice oA' on' oc') (.int .i64 (t.num : Nat)) (.slice iA' im' ic')) := put6_only
  have hsz : wr.heap.size ≤ (put6 wr w0.heap.size (.int .i64 (t.lo : Nat)) (.int .i64 (t.hi : Nat)) (.int .i64 (t.dl : Nat)) (.slice oA' on' oc') (.int .i64 (t.num : Nat)) (.slice iA' im' ic')).heap.size := by rw [ho.size]; exact Nat.le_refl _
  have hkl := h.kl
  refine ⟨put6_blk h.b4, (ho.block _ (by omega)).trans h.b5, (ho.block _ (by omega)).trans h.b7, ?_, ?_, hkl, h.old, h1, h2, h3, h4, ?_⟩
  · refine h.kn.keep (fun q hq => ho.block _ ?_) hsz
    rcases List.mem_cons.1 hq with rfl | hq
    · omega
    · have := h.old q hq; omega
  · exact hr.keep (fun ad e => ho.block _ (by have := h1 ad e; omega)) (fun ad e => ho.block _ (by have := h2 ad e; omega)) hsz
  · refine ⟨ho.os.trans h.fr.os, ho.tape.trans h.fr.tape, ho.output.trans h.fr.output, Nat.le_trans h.fr.size hsz, fun q hq hn => (ho.block _ (by omega)).trans (h.fr.block q hq hn), h.fr.own⟩
theorem NW.learnt (h : NW w0 kb F0 oO iO n f it wr c F cs oA on oc iA im ic) {i : Nat} (hi : i < 11) {A : Option Addr} {m cap g : Nat} {l : List Nat} (hr : LRow wr A m l) (hA : ∀ ad, A = some ad → ad.block = g) (hg : w0.heap.size + 3 ≤ g) (hlt : g < wr.heap.size) :
    NW w0 kb F0 oO iO n f it (wr.setCell ⟨kb, i, none⟩ (.slice A m cap)) (c.1, upd c.2 (rmap i) l) (g :: F) (cs.setIfInBounds i (.slice A m cap)) oA on oc iA im ic := by
  have ho : Only kb wr (wr.setCell ⟨kb, i, none⟩ (.slice A m cap)) := Only.setCell (b := kb) (p := ⟨kb, i, none⟩) (Only.refl _ _) rfl _
  have hkl := h.kl
  refine ⟨(ho.block _ (by omega)).trans h.b4, (ho.block _ (by omega)).trans h.b5, (ho.block _ (by omega)).trans h.b7, h.kn.set hi hr hA (by omega) hlt, ?_, hkl, ?_, h.onew, h.inew, h.ofrom, h.ifrom, ?_⟩
  · exact h.row.keep (fun ad e => ho.block _ (h.onew ad e).1) (fun ad e => ho.block _ (h.inew ad e).1) (by rw [ho.size]; exact Nat.le_refl _)
  · intro q hq
    rcases List.mem_cons.1 hq with rfl | hq
    · exact Or.inr hg
    · exact h.old q hq
  · refine ⟨ho.os.trans h.fr.os, ho.tape.trans h.fr.tape, ho.output.trans h.fr.output, by rw [ho.size]; exact h.fr.size, fun q hq hn => (ho.block _ (fun e => hn (by rw [e]; simp))).trans (h.fr.block q hq hn), fun q hq => ?_⟩
    rcases List.mem_cons.1 hq with rfl | hq
    · exact Or.inl (by simp)
    rcases List.mem_cons.1 hq with rfl | hq
    · exact Or.inr (by omega)
    · exact h.fr.own q (List.mem_cons_of_mem _ hq)
end
/-- Which model an item is coded by. -/
def whichN (kind m : Nat) : Nat := if kind % 4 = 3 then 5 + 3 * (m % 2) else m % 5
theorem which_ok (kind m : Nat) (s : Int) (w : World) (h1 : kind < 256) (h2 : m < 256) :
    Calls Try.prog 50 #[itemV kind m s] w fun e w' => e = .returned (.int .i64 (whichN kind m : Nat)) ∧ Below w.heap.size w w' := by
  unfold itemV
  by_cases hk : kind % 4 = 3
  · have hw : whichN kind m = 5 + 3 * (m % 2) := if_pos hk
    have hk' : (((kind : Int) % 4) == 3) = true := by rw [beq_iff_eq]; omega
    have e : 5 + 3 * ((m : Int) % 2) = ((5 + 3 * (m % 2) : Nat) : Int) := by omega
    rw [hw, ← e]
    clear hw e hk
    go_enter Try.func50, Try.ntmps50
    go_wp2_with fail
    go_ret
    exact ⟨rfl, (Below.refl _ _).alloc (Nat.le_refl _) _⟩
  · have hw : whichN kind m = m % 5 := if_neg hk
    have hk' : (((kind : Int) % 4) == 3) = false := by rw [beq_eq_false_iff_ne]; omega
    have e : ((m : Int) % 5) = ((m % 5 : Nat) : Int) := by omega
    rw [hw, ← e]
    clear hw e hk
    go_enter Try.func50, Try.ntmps50
    go_wp2_with fail
    go_ret
    exact ⟨rfl, (Below.refl _ _).alloc (Nat.le_refl _) _⟩
end Go.Proofs.Ytdekcilfkelhlaa
