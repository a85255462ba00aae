/- The reference: Behind. -/
import Derived.Test.YtdekcilfkelhlaaARef6
import Derived.BigRegion
set_option linter.unusedVariables false
namespace Go.Proofs.Ytdekcilfkelhlaa
open Go.RowKit

/-- Six cells of a block are stored anew. -/
def put6 (w : World) (b : Nat) (v0 v1 v2 v3 v4 v5 : Value) : World := (((((w.setCell ⟨b, 0, none⟩ v0).setCell ⟨b, 1, none⟩ v1).setCell ⟨b, 2, none⟩ v2).setCell ⟨b, 3, none⟩ v3).setCell ⟨b, 4, none⟩ v4).setCell ⟨b, 5, none⟩ v5
section
variable {w : World} {b : Nat} {u0 u1 u2 u3 u4 u5 v0 v1 v2 v3 v4 v5 : Value} {T : TypeId}
theorem put6_blk (h : w.heap[b]? = some (.cells #[u0, u1, u2, u3, u4, u5] T (0, 0))) : (put6 w b v0 v1 v2 v3 v4 v5).heap[b]? = some (.cells #[v0, v1, v2, v3, v4, v5] T (0, 0)) :=
  block_setCell (block_setCell (block_setCell (block_setCell (block_setCell (block_setCell h 0 v0) 1 v1) 2 v2) 3 v3) 4 v4) 5 v5
theorem put6_only : Only b w (put6 w b v0 v1 v2 v3 v4 v5) :=
  Only.setCell (b := b) (p := ⟨b, 5, none⟩) (Only.setCell (b := b) (p := ⟨b, 4, none⟩) (Only.setCell (b := b) (p := ⟨b, 3, none⟩) (Only.setCell (b := b) (p := ⟨b, 2, none⟩) (Only.setCell (b := b) (p := ⟨b, 1, none⟩) (Only.setCell (b := b) (p := ⟨b, 0, none⟩) (Only.refl _ _) rfl _) rfl _) rfl _) rfl _) rfl _) rfl _
end
/-- The cells of a coder of the reference. -/
def rC (lo hi dl : Nat) (oA : Option Addr) (on oc : Nat) (num : Nat) (iA : Option Addr) (im ic : Nat) : Array Value := #[.int .i64 (lo : Nat), .int .i64 (hi : Nat), .int .i64 (dl : Nat), .slice oA on oc, .int .i64 (num : Nat), .slice iA im ic]
def rZ : Array Value := #[.int .i64 0, .int .i64 0, .int .i64 0, .slice none 0 0, .int .i64 0, .slice none 0 0]

/-- A row's memory is that of another, or new. -/
def From (w : World) (A A' : Option Addr) : Prop := ∀ ad, A' = some ad → (∃ a, A = some a ∧ ad.block = a.block) ∨ w.heap.size ≤ ad.block
structure BhRel (w wr : World) (n : Nat) (f : Nat → Nat) (fin : St) (oO iO : Option Addr) (k : Nat) (t : St) (oA : Option Addr) (on oc : Nat) (iA : Option Addr) (im ic : Nat) : Prop where
  blk : wr.heap[w.heap.size]? = some (.cells (rC t.lo t.hi t.dl oA on oc t.num iA im ic) 53 (0, 0))
  res : wr.heap[w.heap.size + 1]? = some (.cells rZ 53 (0, 0))
  row : RCo wr n f t oA on oc iA im ic
  onew : ∀ ad, oA = some ad → ad.block ≠ w.heap.size ∧ ad.block ≠ w.heap.size + 1
  inew : ∀ ad, iA = some ad → ad.block ≠ w.heap.size ∧ ad.block ≠ w.heap.size + 1
  ofrom : From w oO oA
  ifrom : From w iO iA
  eq : scaleN (inBit n f) k t = fin
  good : Good t
  iv : InIv t
  fuel : 4294967296 < (t.hi - t.lo + 1) * 2 ^ k
  at_ : t.at_ + k ≤ 1000000
  bel : Below w.heap.size w wr

theorem rshift_num {n : Nat} {f : Nat → Nat} {t : St} {x d : Nat} {o : List Bool} (hiv : InIv t) (hh : t.hi < 4294967296) (hx : x ≤ t.lo) : (shift (inBit n f) t x o d).num = 2 * (t.num - x) + inBit n f t.at_ := by
  have h1 := hiv.lo
  have h2 := hiv.hi
  have h3 := inBit_le n f t.at_
  simp only [shift]
  omega
theorem fuel_half {k : Nat} {s : St} {x d : Nat} {o : List Bool} {bit : Nat → Nat} (h : 4294967296 < (s.hi - s.lo + 1) * 2 ^ (k + 1)) (hp : pick s = some (x, o, d)) (hg : Good s) : 4294967296 < ((shift bit s x o d).hi - (shift bit s x o d).lo + 1) * 2 ^ k := by
  obtain ⟨_, g2, _⟩ := shift_good (bit := bit) hp hg
  rw [g2]
  rw [Nat.pow_succ] at h
  calc 4294967296 < (s.hi - s.lo + 1) * (2 ^ k * 2) := h
    _ = 2 * (s.hi - s.lo + 1) * 2 ^ k := by rw [Nat.mul_comm (2 ^ k) 2, ← Nat.mul_assoc, Nat.mul_comm _ 2]
section
variable {w wr w3 : World} {n k x d : Nat} {f : Nat → Nat} {fin t : St} {oA iA oA' iA' oO iO : Option Addr} {on oc im ic on' oc' im' ic' lo' hi' num' : Nat} {o : List Bool}
theorem BhRel.next' {u0 u1 u2 u3 u4 u5 : Value} (h : BhRel w wr n f fin oO iO (k + 1) t oA on oc iA im ic) (hp : pick t = some (x, o, d)) (hk1 : w3.heap[w.heap.size]? = some (.cells #[u0, u1, u2, u3, u4, u5] 53 (0, 0))) (hk2 : w3.heap[w.heap.size + 1]? = some (.cells rZ 53 (0, 0))) (hb : Below w.heap.size w w3) (hr : RCo w3 n f (shift (inBit n f) t x o d) oA' on' oc' iA' im' ic')
    (ho : ∀ ad, oA' = some ad → ad.block ≠ w.heap.size ∧ ad.block ≠ w.heap.size + 1) (hi : ∀ ad, iA' = some ad → ad.block ≠ w.heap.size ∧ ad.block ≠ w.heap.size + 1) (hfo : From w oO oA') (hfi : From w iO iA')
    (e1 : lo' = 2 * (t.lo - x)) (e2 : hi' = 2 * (t.hi - x) + 1) (e3 : num' = 2 * (t.num - x) + inBit n f t.at_) :
    BhRel w (put6 w3 w.heap.size (.int .i64 (lo' : Nat)) (.int .i64 (hi' : Nat)) (.int .i64 (d : Nat)) (.slice oA' on' oc') (.int .i64 (num' : Nat)) (.slice iA' im' ic')) n f fin oO iO k (shift (inBit n f) t x o d) oA' on' oc' iA' im' ic' := by
  have ho1 : Only w.heap.size w3 (put6 w3 w.heap.size (.int .i64 (lo' : Nat)) (.int .i64 (hi' : Nat)) (.int .i64 (d : Nat)) (.slice oA' on' oc') (.int .i64 (num' : Nat)) (.slice iA' im' ic')) := put6_only
  have hpk := pick_some hp h.good.le h.good.hi
  have hnum := rshift_num (n := n) (f := f) (d := d) (o := o) h.iv h.good.hi hpk.1
  obtain ⟨g1, _, _⟩ := shift_good (bit := inBit n f) hp h.good
  refine ⟨?_, ?_, ?_, ho, hi, hfo, hfi, ?_, g1, ?_, fuel_half h.fuel hp h.good, ?_, ?_⟩
  · rw [hnum, ← e3]
    show _ = some (Obj.cells (rC (2 * (t.lo - x)) (2 * (t.hi - x) + 1) d oA' on' oc' num' iA' im' ic') _ (0, 0))
    rw [← e1, ← e2]
    exact put6_blk hk1
  · exact (ho1.block _ (by omega)).trans hk2
  · exact hr.keep (fun ad e => ho1.block _ (ho ad e).1) (fun ad e => ho1.block _ (hi ad e).1) (by rw [ho1.size]; exact Nat.le_refl _)
  · rw [← h.eq, scaleN_some hp]
  · exact shift_iv { B := 0, bw := 0, T := 0, G := [], A := none, n := n, cap := 0, f := f, x9 := none } hp h.good h.iv
  · have := h.at_; simp only [shift]; omega
  · exact then_only hb ho1 (Nat.le_refl _)
theorem BhRel.next (h : BhRel w wr n f fin oO iO (k + 1) t oA on oc iA im ic) (hp : pick t = some (x, o, d)) (hb : Below wr.heap.size wr w3) (hr : RCo w3 n f (shift (inBit n f) t x o d) oA' on' oc' iA' im' ic')
    (ho : ∀ ad, oA' = some ad → ad.block ≠ w.heap.size ∧ ad.block ≠ w.heap.size + 1) (hi : ∀ ad, iA' = some ad → ad.block ≠ w.heap.size ∧ ad.block ≠ w.heap.size + 1) (hfo : From w oO oA') (hfi : From w iO iA')
    (e1 : lo' = 2 * (t.lo - x)) (e2 : hi' = 2 * (t.hi - x) + 1) (e3 : num' = 2 * (t.num - x) + inBit n f t.at_) :
    BhRel w (put6 w3 w.heap.size (.int .i64 (lo' : Nat)) (.int .i64 (hi' : Nat)) (.int .i64 (d : Nat)) (.slice oA' on' oc') (.int .i64 (num' : Nat)) (.slice iA' im' ic')) n f fin oO iO k (shift (inBit n f) t x o d) oA' on' oc' iA' im' ic' := by
  have hlt := lt_of_block h.res
  exact h.next' hp ((hb.block _ (by omega)).trans h.blk) ((hb.block _ hlt).trans h.res) (then_ h.bel hb) hr ho hi hfo hfi e1 e2 e3
end
/-- A bit is put out. -/
theorem out_r {w : World} {n : Nat} {f : Nat → Nat} {s : St} {oA iA : Option Addr} {on oc im ic lo hi dl num : Nat} (b : Bool) (z : Int) (h : RCo w n f s oA on oc iA im ic) (hz : z = (b.toNat : Nat)) (hd : s.dl = dl) (hl : s.out.length + s.dl ≤ 1000000) :
    Calls Try.prog 57 #[rV lo hi dl oA on oc num iA im ic, .int .i64 z] w fun e w' => ∃ A' on' oc', e = .returned (rV lo hi 0 A' on' oc' num iA im ic) ∧ RCo w' n f { s with out := s.out ++ (b :: List.replicate s.dl (!b)), dl := 0 } A' on' oc' iA im ic ∧ (∀ ad, A' = some ad → w.heap.size ≤ ad.block) ∧ Below w.heap.size w w' := by
  subst hz hd
  have hon : on = s.out.length := by rw [h.out.1]; unfold bitL; rw [List.length_map]
  refine (out_ok b.toNat (!b).toNat w h.out h.onil (by cases b <;> rfl) (by omega)).mono ?_
  rintro e w' ⟨A', oc', rfl, h1, h2, h3, h4⟩
  refine ⟨A', _, oc', rfl, ?_, fun ad e => (h2 ad e).1, h4⟩
  have hb := h.below h4
  refine ⟨?_, h3, hb.inn, hb.icap, hb.ibd, fun ad e => (h2 ad e).2, hb.ilt⟩
  have e : bitL (s.out ++ (b :: List.replicate s.dl (!b))) = outL (bitL s.out) b.toNat (!b).toNat s.dl := by
    unfold bitL outL
    simp [List.map_append]
  show LRow w' A' _ (bitL (s.out ++ (b :: List.replicate s.dl (!b))))
  rw [e]; exact h1
/-- The interval is doubled. -/
theorem twice_r {w : World} {n : Nat} {f : Nat → Nat} {s : St} {oA iA : Option Addr} {on oc im ic lo hi dl num by_ : Nat} (z : Int) (h : RCo w n f s oA on oc iA im ic) (hz : z = (by_ : Nat)) (hb : by_ ≤ lo) (hlh : lo ≤ hi) (hh : hi < 4294967296) (hbn : by_ ≤ num) (hn : num < 4294967296) (hd : dl ≤ 1000000) :
    Calls Try.prog 70 #[rV lo hi dl oA on oc num iA im ic, .int .i64 z] w fun e w' => ∃ lo' hi' num' iA' im' ic', e = .returned (rV lo' hi' dl oA on oc num' iA' im' ic') ∧ (lo' = 2 * (lo - by_) ∧ hi' = 2 * (hi - by_) + 1 ∧ num' = 2 * (num - by_) + inBit n f s.at_) ∧ RCo w' n f { s with at_ := s.at_ + 1 } oA on oc iA' im' ic' ∧ (∀ ad', iA' = some ad' → ∃ ad, iA = some ad ∧ ad'.block = ad.block) ∧ Below w.heap.size w w' := by
  subst hz
  refine (twice_ok _ _ _ w h.inn h.icap h.ibd hb hlh hh hbn hn hd rfl rfl rfl).mono ?_
  rintro e w' ⟨iA', im', ic', rfl, h1, h2, h3, h4, h5⟩
  have hbw := h.below h5
  refine ⟨_, _, _, iA', im', ic', rfl, ⟨rfl, rfl, rfl⟩, ⟨hbw.out, hbw.onil, h1, h3, h4, hbw.olt, fun ad e => ?_⟩, h2, h5⟩
  obtain ⟨ad2, e2, e3⟩ := h2 ad e
  rw [e3]; exact hbw.ilt ad2 e2
end Go.Proofs.Ytdekcilfkelhlaa
