/- The reference: what a coder reads as; twice; Next. -/
import Derived.Test.YtdekcilfkelhlaaARef5
import Derived.BigQuiet
set_option linter.unusedVariables false
namespace Go.Proofs.Ytdekcilfkelhlaa
open Go.RowKit

/-- The bits that are left. -/
def leftL (n : Nat) (f : Nat → Nat) (a : Nat) : List Nat := (List.range (8 * n - a)).map fun i => inBit n f (a + i)
def bitL (l : List Bool) : List Nat := l.map Bool.toNat
theorem leftL_length (n : Nat) (f : Nat → Nat) (a : Nat) : (leftL n f a).length = 8 * n - a := by unfold leftL; simp
theorem leftL_at {n a i : Nat} {f : Nat → Nat} (h : i < 8 * n - a) : (leftL n f a).getD i 0 = inBit n f (a + i) := by
  unfold leftL
  rw [List.getD_eq_getElem?_getD, List.getElem?_map, List.getElem?_range h]; rfl
/-- The rows of a coder of the reference. -/
structure RCo (w : World) (n : Nat) (f : Nat → Nat) (s : St) (oA : Option Addr) (on oc : Nat) (iA : Option Addr) (im ic : Nat) : Prop where
  out : LRow w oA on (bitL s.out)
  onil : oA = none → on = 0 ∧ oc = 0
  inn : LRow w iA im (leftL n f s.at_)
  icap : im ≤ ic
  ibd : ic ≤ 9223372036854775807
  olt : ∀ ad, oA = some ad → ad.block < w.heap.size
  ilt : ∀ ad, iA = some ad → ad.block < w.heap.size
theorem LRow.keep {w w' : World} {A : Option Addr} {n : Nat} {l : List Nat} (h : LRow w A n l) (hs : ∀ ad, A = some ad → w'.heap[ad.block]? = w.heap[ad.block]?) (hz : w.heap.size ≤ w'.heap.size) : LRow w' A n l := by
  refine ⟨h.1, fun i hi => ?_⟩
  obtain ⟨ad, e, hlt, hc⟩ := h.2 i hi
  exact ⟨ad, e, Nat.lt_of_lt_of_le hlt hz, (World.cell?_of_block (w := w) (by rw [add_block]; exact hs ad e)).trans hc⟩
section
variable {w w' : World} {n : Nat} {f : Nat → Nat} {s t : St} {oA iA : Option Addr} {on oc im ic : Nat}
theorem RCo.keep (h : RCo w n f s oA on oc iA im ic) (h1 : ∀ ad, oA = some ad → w'.heap[ad.block]? = w.heap[ad.block]?) (h2 : ∀ ad, iA = some ad → w'.heap[ad.block]? = w.heap[ad.block]?) (hz : w.heap.size ≤ w'.heap.size) : RCo w' n f s oA on oc iA im ic :=
  ⟨h.out.keep h1 hz, h.onil, h.inn.keep h2 hz, h.icap, h.ibd, fun ad e => Nat.lt_of_lt_of_le (h.olt ad e) hz, fun ad e => Nat.lt_of_lt_of_le (h.ilt ad e) hz⟩
theorem RCo.below (h : RCo w n f s oA on oc iA im ic) (hb : Below w.heap.size w w') : RCo w' n f s oA on oc iA im ic :=
  h.keep (fun ad e => hb.block _ (h.olt ad e)) (fun ad e => hb.block _ (h.ilt ad e)) hb.size
theorem RCo.same (h : RCo w n f s oA on oc iA im ic) (h1 : s.out = t.out) (h2 : s.at_ = t.at_) : RCo w n f t oA on oc iA im ic := by
  obtain ⟨a, b, c, d, e, g, i⟩ := h
  rw [h1] at a; rw [h2] at c
  exact ⟨a, b, c, d, e, g, i⟩
end
/-- twice, of a coder whose rows are known. -/
theorem twice_ok {n a lo hi dl on oc num im ic by_ : Nat} {f : Nat → Nat} {oA iA : Option Addr} (lo' hi' num' : Nat) (w : World) (h : LRow w iA im (leftL n f a)) (hic : im ≤ ic) (hic2 : ic ≤ 9223372036854775807) (hb : by_ ≤ lo) (hlh : lo ≤ hi) (hh : hi < 4294967296) (hbn : by_ ≤ num) (hn : num < 4294967296) (hd : dl ≤ 1000000)
    (e1 : lo' = 2 * (lo - by_)) (e2 : hi' = 2 * (hi - by_) + 1) (e3 : num' = 2 * (num - by_) + inBit n f a) :
    Calls Try.prog 70 #[rV lo hi dl oA on oc num iA im ic, .int .i64 (by_ : Nat)] w fun e w' => ∃ iA' im' ic', e = .returned (rV lo' hi' dl oA on oc num' iA' im' ic') ∧ LRow w' iA' im' (leftL n f (a + 1)) ∧ (∀ ad', iA' = some ad' → ∃ ad, iA = some ad ∧ ad'.block = ad.block) ∧ im' ≤ ic' ∧ ic' ≤ 9223372036854775807 ∧ Below w.heap.size w w' := by
  have him : im = 8 * n - a := by rw [h.1, leftL_length]
  subst e1 e2 e3
  by_cases h0 : im = 0
  · subst h0
    have hz : inBit n f a = 0 := by unfold inBit; rw [if_neg (by omega)]
    refine (twice_nil w hb hlh hh hbn hn hd).mono ?_
    rintro e w' ⟨rfl, hbw⟩
    rw [hz, Nat.add_zero]
    exact ⟨iA, 0, ic, rfl, ⟨by rw [leftL_length]; omega, fun i hi => by omega⟩, fun ad' e => ⟨ad', e, rfl⟩, hic, hic2, hbw⟩
  · obtain ⟨ad, rfl, hlt, hc⟩ := h.2 0 (by omega)
    rw [show ad.add 0 = ad from rfl, leftL_at (by omega), Nat.add_zero] at hc
    have hb1 := inBit_le n f a
    refine (twice_cons (2 * (lo - by_)) (2 * (hi - by_) + 1) (2 * (num - by_) + inBit n f a) w hc (by omega) hic hic2 hb1 hb hlh hh hbn hn hd (by omega) (by omega) (by omega)).mono ?_
    rintro e w' ⟨ad', rfl, had, hbl, hbw⟩
    refine ⟨some ad', im - 1, ic - 1, rfl, ⟨by rw [leftL_length]; omega, fun i hi => ?_⟩, fun ad2 e => ⟨ad, rfl, by cases e; exact hbl⟩, by omega, by omega, hbw⟩
    obtain rfl := had (by omega)
    obtain ⟨ad3, e3, hlt3, hc3⟩ := (h.below hbw).2 (i + 1) (by omega)
    cases e3
    have e4 : (ad.add 1).add i = ad.add (i + 1) := by
      unfold Addr.add
      by_cases hi0 : i = 0
      · subst hi0; simp
      · rw [if_neg hi0, if_neg (by omega), if_neg (by omega)]
        simp; omega
    refine ⟨_, rfl, by rw [add_block]; exact hlt3, ?_⟩
    rw [e4, hc3, leftL_at (by omega), leftL_at (by omega), show a + 1 + i = a + (i + 1) from by omega]

theorem take_mono (l : List Nat) {i j : Nat} (h : i ≤ j) : (l.take i).sum ≤ (l.take j).sum := by
  have e : l.take i = (l.take j).take i := by rw [List.take_take, Nat.min_eq_left h]
  rw [e]; exact sum_take_le _ i
set_option maxRecDepth 100000 in
set_option maxHeartbeats 1000000 in
theorem Next_ok {s : St} {oA iA mA : Option Addr} {on oc im ic mn mc : Nat} {fr : List Nat} (w : World) (hm : LRow w mA mn fr) (hfine : Fine fr) (hiv : InIv s) (hh : s.hi < 4294967296) :
    Calls Try.prog 51 #[rV s.lo s.hi s.dl oA on oc s.num iA im ic, .slice mA mn mc] w fun e w' => e = .returned (.int .i64 (decSym fr s : Nat)) ∧ Below w.heap.size w w' := by
  have h0 : 0 < fr.sum := by
    have := take_lt (fr := fr) (i := 0) hfine.pos
    have := getD_pos hfine.one hfine.pos
    omega
  have htot := hfine.tot
  have hpos := hfine.pos
  have hfew := hfine.few
  have hvt := decAt_lt hiv h0
  have hiv1 := hiv.lo
  have hiv2 := hiv.hi
  have hv : decAt_ fr s = ((s.num - s.lo + 1) * fr.sum - 1) / (s.hi - s.lo + 1) := rfl
  have hsumk := fun k (W : World) (hb : Below w.heap.size w W) (hk : k ≤ mn) => Sum_ok (cap := mc) k W (hm.below hb) hk (by omega) (by have := hm.1; omega)
  have hmn := hm.1
  unfold rV
  obtain ⟨v, ev⟩ : ∃ v, v = decAt_ fr s := ⟨_, rfl⟩
  obtain ⟨t, et⟩ : ∃ t, t = fr.sum := ⟨_, rfl⟩
  have hst : (fr.take mn).sum = t := by rw [hmn, List.take_length, et]
  have hsumn := fun (W : World) (hb : Below w.heap.size w W) => hsumk mn W hb (Nat.le_refl _)
  rw [hst] at hsumn
  obtain ⟨lo, elo⟩ : ∃ l, l = s.lo := ⟨_, rfl⟩
  obtain ⟨hi, ehi⟩ : ∃ l, l = s.hi := ⟨_, rfl⟩
  obtain ⟨num, enum⟩ : ∃ l, l = s.num := ⟨_, rfl⟩
  rw [← ev, ← enum, ← elo, ← et, ← ehi] at hv
  rw [← ev, ← et] at hvt
  rw [← et] at htot h0
  rw [← elo] at hiv1 ⊢
  rw [← enum] at hiv1 hiv2 ⊢
  rw [← ehi] at hiv2 hh ⊢
  obtain ⟨sz, esz⟩ : ∃ sz, sz = hi - lo + 1 := ⟨_, rfl⟩
  obtain ⟨p, ep⟩ : ∃ p, p = (num - lo + 1) * t := ⟨_, rfl⟩
  rw [← esz, ← ep] at hv
  have hp1 : 1 ≤ p := by rw [ep]; exact Nat.mul_pos (by omega) h0
  have hp2 : p ≤ 35184372088832 := by
    rw [ep]
    calc (num - lo + 1) * t ≤ 4294967296 * 8192 := Nat.mul_le_mul (by omega) htot
      _ = 35184372088832 := rfl
  have r0 : (hi : Int) - (lo : Int) + 1 = (sz : Nat) := by omega
  obtain ⟨d, ed⟩ : ∃ d, d = num - lo := ⟨_, rfl⟩
  have r1 : (num : Int) - (lo : Int) = (d : Nat) := by omega
  have r2 : ((d : Int) + 1) * (t : Int) = (p : Nat) := by rw [ep, ← ed]; push_cast; rfl
  have r3 : ((p : Int) - 1) / (sz : Int) = (v : Nat) := by
    rw [hv, show ((p : Int) - 1) = ((p - 1 : Nat) : Int) from by omega]; rfl
  have r4 : ((p : Int) - 1).tdiv (sz : Int) = (v : Nat) := by rw [Int.tdiv_eq_ediv_of_nonneg (by omega)]; exact r3
  have hdb : d < 4294967296 := by omega
  have hszb : 1 ≤ sz := by omega
  have hszb2 : sz ≤ 4294967296 := by omega
  have hszn : (sz : Int) ≠ 0 := by omega
  have H := Lib.hid (And.intro hsumk (And.intro hsumn (And.intro hmn (And.intro ev et))))
  have HB := Lib.hid (Below.refl w.heap.size w)
  have hsp := symOf_spec fr (decAt_ fr s) (decAt_lt hiv (by rw [← et]; exact h0))
  have HN := Lib.hid (show decSym fr s < mn ∧ (fr.take (decSym fr s)).sum ≤ decAt_ fr s ∧ decAt_ fr s < (fr.take (decSym fr s + 1)).sum from ⟨by rw [hmn]; exact hsp.1, hsp.2.1, by rw [show (fr.take (decSym fr s + 1)).sum = _ from sum_take_succ fr _ hsp.1]; exact hsp.2.2⟩)
  clear hsp
  have hmb : mn ≤ 256 := by omega
  clear hsumk hsumn ev et elo ehi enum esz ep hv hiv hm hst hfine ed hmn hpos hfew
  go_enter Try.func51, Try.ntmps51
  go_wp2_with fail
  have hq := fun (o : Obj) (m : Nat) => H.out.2.1 ((w.alloc o).drewN m) (then_drewN ((Below.refl _ _).alloc (Nat.le_refl _) o) m)
  have HQ := Lib.hid hq; clear hq
  go_quiet ((go_at_call 69; with_reducible exact quiet_of_eq (HQ.out _ _)))
  rename Nat => nq1
  clear HQ
  go_wp2_with fail
  have hbz : ∀ o : Obj, Below w.heap.size w ((w.alloc o).drewN nq1) := fun o => then_drewN ((Below.refl _ _).alloc (Nat.le_refl _) o) nq1
  obtain ⟨wz, ewz, hbw⟩ : ∃ wz : World, wz = (w.alloc (Obj.cells #[.int .i64 (lo : Nat), .int .i64 (hi : Nat), .int .i64 (s.dl : Nat), .slice oA on oc, .int .i64 (num : Nat), .slice iA im ic] 53)).drewN nq1 ∧ Below w.heap.size w wz := ⟨_, rfl, hbz _⟩
  rw [← ewz]
  have HZ := Lib.hid (And.intro hbw H.out.1); clear hbw ewz hbz HB r0 r1 r2 r3 r4 hh hiv1 hiv2 hdb hszb hszb2 hszn hp1 hp2
  go_loopg [8] mn (fun gh sv wr => ∃ j : Nat, gh = mn - j ∧ j < mn ∧ sv = .int .i64 (j : Nat) ∧ (j ≤ decSym fr s ∧ wr = wz))
  case atStart =>
    have := HN.out.1
    exact ⟨0, rfl, by omega, rfl, Nat.zero_le _, rfl⟩
  case round =>
    obtain ⟨j, hgh, hj, rfl, hjs, rfl⟩ := hrel
    have Hgh := Lib.hid hgh; clear hgh
    have hsj := HZ.out.2 j wr HZ.out.1 (by omega)
    have hsj1 := HZ.out.2 (j + 1) wr HZ.out.1 (by omega)
    have hle : (fr.take j).sum ≤ v := by rw [H.out.2.2.2.1]; exact Nat.le_trans (take_mono fr hjs) HN.out.2.1
    obtain ⟨a, ea⟩ : ∃ a, a = (fr.take j).sum := ⟨_, rfl⟩
    obtain ⟨b, eb⟩ : ∃ b, b = (fr.take (j + 1)).sum := ⟨_, rfl⟩
    rw [← ea] at hsj hle
    rw [← eb] at hsj1
    have EB := Lib.hid (And.intro ea eb); clear ea eb
    have i1 : (a : Int) ≤ (v : Nat) := by omega
    have e1 : ((j : Int) + 1) = ((j + 1 : Nat) : Int) := by omega
    rw [← e1] at hsj1
    have HJ := Lib.hid (And.intro hsj (And.intro hsj1 e1)); clear hsj hsj1 e1
    by_cases hlt : j < decSym fr s
    · have hbv : b ≤ v := by
        rw [EB.out.2, H.out.2.2.2.1]; exact Nat.le_trans (take_mono fr hlt) HN.out.2.1
      have hjn : j + 1 < mn := by have := HN.out.1; omega
      have HL := Lib.hid (And.intro hlt hjs); clear hlt hjs
      have i2 : (b : Int) ≤ (v : Nat) := by omega
      go_wp2_with fail
      ((with_reducible refine HJ.out.1.mono ?_))
      rintro e w' ⟨rfl, rfl⟩
      go_wp2_with fail
      ((with_reducible refine HJ.out.2.1.mono ?_))
      rintro e w' ⟨rfl, rfl⟩
      go_wp2_with fail
      go_roundg (mn - (j + 1))
      case measure => have := Hgh.out; omega
      case rel => exact ⟨j + 1, rfl, hjn, by go_num, HL.out.1, rfl⟩
    · have hjd : decSym fr s = j := by omega
      have hbv : v < b := by
        have h1 := HN.out.2.2
        rw [hjd] at h1
        rw [EB.out.2, H.out.2.2.2.1]; exact h1
      have HL := Lib.hid hjd; clear hlt hjs hjd
      have i2 : (v : Int) < (b : Nat) := by omega
      go_wp2_with fail
      ((with_reducible refine HJ.out.1.mono ?_))
      rintro e w' ⟨rfl, rfl⟩
      go_wp2_with fail
      ((with_reducible refine HJ.out.2.1.mono ?_))
      rintro e w' ⟨rfl, rfl⟩
      go_wp2_with fail
      go_ret
      rw [HL.out]
      exact ⟨rfl, HZ.out.1⟩
end Go.Proofs.Ytdekcilfkelhlaa
