/- The reference: Behind, the walk. -/
import Derived.Test.YtdekcilfkelhlaaARef7
set_option linter.unusedVariables false
namespace Go.Proofs.Ytdekcilfkelhlaa
open Go.RowKit

/-- A coder behind a symbol. -/
def BhPost (w : World) (n : Nat) (f : Nat → Nat) (t : St) (oA iA : Option Addr) (e : Ending) (w' : World) : Prop :=
  ∃ oA' on' oc' iA' im' ic', e = .returned (rV t.lo t.hi t.dl oA' on' oc' t.num iA' im' ic') ∧ RCo w' n f t oA' on' oc' iA' im' ic' ∧ (From w oA oA' ∧ From w iA iA') ∧ Below w.heap.size w w'
set_option maxRecDepth 100000 in
set_option maxHeartbeats 4000000 in
theorem Behind_ok {n : Nat} {f : Nat → Nat} {s : St} {oA iA mA : Option Addr} {on oc im ic mn mc : Nat} {fr : List Nat} (i : Nat) (w : World) (h : RCo w n f s oA on oc iA im ic) (hl : Live s) (hiv : InIv s) (hat : s.at_ ≤ 900000) (hm : LRow w mA mn fr) (hfine : Fine fr) (hi : decSym fr s = i) :
    Calls Try.prog 52 #[rV s.lo s.hi s.dl oA on oc s.num iA im ic, .slice mA mn mc, .int .i64 (i : Nat)] w (BhPost w n f (codeSt (inBit n f) fr i s) oA iA) := by
  have h0 := hfine.sum
  obtain ⟨e1, e2, e3⟩ := symOf_spec fr (decAt_ fr s) (decAt_lt hiv h0)
  have hlen : i < fr.length := by rw [← hi]; exact e1
  have hn : InIv (narrow fr i s) := by rw [← hi]; exact narrow_iv hiv h0 e2 e3
  clear e1 e2 e3
  obtain ⟨ng, nr, nl, nh⟩ := narrow_good hl.good hl.none hfine.one hfine.tot hlen
  obtain ⟨p1, p2, p3⟩ := pick_none hl.none
  have hhi := hl.good.hi
  obtain ⟨c1, c2, c3, c4⟩ := code_nums (s.hi - s.lo + 1) ((fr.take i).sum) (fr.getD i 0) fr.sum (by omega) (by omega) (getD_pos hfine.one hlen) (take_lt hlen) hfine.tot
  have htot := hfine.tot
  have htk := take_lt hlen
  have hnar : narrow fr i s = { s with lo := s.lo + (s.hi - s.lo + 1) * (fr.take i).sum / fr.sum, hi := s.lo + (s.hi - s.lo + 1) * ((fr.take i).sum + fr.getD i 0) / fr.sum - 1 } := rfl
  have hmn := hm.1
  have hsum := fun k (W : World) (hb : Below w.heap.size w W) (hk : k ≤ mn) => Sum_ok (cap := mc) k W (hm.below hb) hk (by omega) (by have := hfine.few; omega)
  have hs0 := fun (W : World) (hb : Below w.heap.size w W) => hsum mn W hb (Nat.le_refl _)
  have hs1 := fun (W : World) (hb : Below w.heap.size w W) => hsum i W hb (by omega)
  have hs2 := fun (W : World) (hb : Below w.heap.size w W) => hsum (i + 1) W hb (by omega)
  rw [hmn, List.take_length, ← hmn] at hs0
  rw [sum_take_succ fr i hlen] at hs2
  rw [show ((i + 1 : Nat) : Int) = (i : Int) + 1 from by omega] at hs2
  clear hsum
  have hends : ∀ t : St, t = scaleN (inBit n f) 16 (narrow fr i s) → (codeSt (inBit n f) fr i s).lo = t.lo ∧ (codeSt (inBit n f) fr i s).hi = t.hi ∧ (codeSt (inBit n f) fr i s).dl = t.dl ∧ (codeSt (inBit n f) fr i s).num = t.num ∧ (codeSt (inBit n f) fr i s).out = t.out ∧ (codeSt (inBit n f) fr i s).at_ = t.at_ := by
    rintro t rfl; exact ⟨rfl, rfl, rfl, rfl, rfl, rfl⟩
  obtain ⟨a, ea⟩ : ∃ a, a = (fr.take i).sum := ⟨_, rfl⟩
  obtain ⟨x, ex⟩ : ∃ x, x = fr.getD i 0 := ⟨_, rfl⟩
  obtain ⟨t, et⟩ : ∃ t, t = fr.sum := ⟨_, rfl⟩
  rw [← ea, ← ex, ← et] at c1 c2 hnar
  rw [← ea, ← ex] at c3 hs2
  rw [← ea] at c4 hs1
  rw [← ea, ← ex, ← et] at htk
  rw [← et] at htot hs0 h0
  obtain ⟨lo, elo⟩ : ∃ l, l = s.lo := ⟨_, rfl⟩
  obtain ⟨hh, ehh⟩ : ∃ l, l = s.hi := ⟨_, rfl⟩
  rw [← elo, ← ehh] at c1 c2 c3 c4 hnar p3
  rw [← ehh] at p1 hhi
  rw [← elo] at p2
  obtain ⟨sz, esz⟩ : ∃ sz, sz = hh - lo + 1 := ⟨_, rfl⟩
  rw [← esz] at c1 c2 c3 c4 hnar
  obtain ⟨ax, eax⟩ : ∃ q, q = a + x := ⟨_, rfl⟩
  rw [← eax] at c1 c2 c3 hnar hs2 htk
  obtain ⟨pb, epb⟩ : ∃ p, p = sz * ax := ⟨_, rfl⟩
  obtain ⟨pa, epa⟩ : ∃ p, p = sz * a := ⟨_, rfl⟩
  rw [← epb, ← epa] at c1
  rw [← epb] at c2 c3
  rw [← epa] at c4
  rw [← epb, ← epa] at hnar
  obtain ⟨qb, eqb⟩ : ∃ p, p = pb / t := ⟨_, rfl⟩
  obtain ⟨qa, eqa⟩ : ∃ p, p = pa / t := ⟨_, rfl⟩
  rw [← eqb, ← eqa] at c1 hnar
  rw [← eqb] at c2
  have r1 : (sz : Int) * (ax : Int) = (pb : Nat) := by rw [epb]; push_cast; rfl
  have r2 : (sz : Int) * (a : Int) = (pa : Nat) := by rw [epa]; push_cast; rfl
  have r3 : (pb : Int) / (t : Int) = (qb : Nat) := by rw [eqb]; rfl
  have r4 : (pa : Int) / (t : Int) = (qa : Nat) := by rw [eqa]; rfl
  have r5 : (pb : Int).tdiv (t : Int) = (qb : Nat) := by rw [Int.tdiv_eq_ediv_of_nonneg (by omega)]; exact r3
  have r6 : (pa : Int).tdiv (t : Int) = (qa : Nat) := by rw [Int.tdiv_eq_ediv_of_nonneg (by omega)]; exact r4
  have hsz : (hh : Int) - (lo : Int) + 1 = (sz : Nat) := by omega
  obtain ⟨w2, ew2⟩ : ∃ w2 : World, w2 = (w.alloc (Obj.cells (rC s.lo s.hi s.dl oA on oc s.num iA im ic) 53)).alloc (Obj.cells rZ 53) := ⟨_, rfl⟩
  have hsz2 : w2.heap.size = w.heap.size + 2 := by rw [ew2]; simp
  have hb2 : Below w.heap.size w w2 := by rw [ew2]; exact ((Below.refl _ _).alloc (Nat.le_refl _) _).alloc (by simp) _
  have hk1 : w2.heap[w.heap.size]? = some (Obj.cells (rC s.lo s.hi s.dl oA on oc s.num iA im ic) 53 (0, 0)) := by
    rw [ew2]; exact (Below.block ((Below.refl _ _).alloc (Nat.le_refl _) _) _ (by simp)).trans (heap_alloc_new w _)
  have hk2 : w2.heap[w.heap.size + 1]? = some (Obj.cells rZ 53 (0, 0)) := by
    rw [ew2]; have := heap_alloc_new (w.alloc (Obj.cells (rC s.lo s.hi s.dl oA on oc s.num iA im ic) 53)) (Obj.cells rZ 53); simpa using this
  rw [← elo, ← ehh] at ew2 hk1 ⊢
  have hS0 := fun m => hs0 (w2.drewN m) (then_drewN hb2 m)
  have hS1 := fun m => hs1 (w2.drewN m) (then_drewN hb2 m)
  have hS2 := fun m => hs2 (w2.drewN m) (then_drewN hb2 m)
  have HS := Lib.hid (And.intro hS0 (And.intro hS1 hS2)); clear hS0 hS1 hS2 hs0 hs1 hs2
  have H := Lib.hid (And.intro h (And.intro hnar (And.intro ng (And.intro nr (And.intro hn (And.intro hl hends))))))
  have HB := Lib.hid (And.intro hb2 (And.intro hk1 (And.intro hk2 hsz2)))
  have HE := Lib.hid (And.intro elo (And.intro ehh esz))
  have HW := Lib.hid ew2
  have k0 : w2.cell? ⟨w.heap.size, 0, none⟩ = some (.int .i64 (lo : Nat)) := (cell_of_block hk1 0).trans rfl
  have k1 : w2.cell? ⟨w.heap.size, 1, none⟩ = some (.int .i64 (hh : Nat)) := (cell_of_block hk1 1).trans rfl
  have f1 := free_of_block hk1 1
  have f0 := free_of_block hk1 0
  have hib : i < 256 := by have := hfine.few; omega
  clear h hnar ng nr hn hl hends hmn hlen elo ehh epb epa eqb eqa ea ex et eax hi hm hfine hiv nl nh hk1 hk2 hb2 hsz2 ew2
  have hl1 : lo ≤ hh := by omega
  have hszb : sz ≤ 4294967296 := by omega
  have hnb : lo + qa ≤ lo + qb - 1 := by omega
  have hnc : lo + qb - 1 < 4294967296 := by omega
  clear p1 p2 p3 esz
  unfold rV
  go_enter Try.func52, Try.ntmps52
  go_wp2_with fail
  have hww := HW.out
  unfold rC rZ at hww
  rw [← hww]
  clear hww
  go_quiet ((go_at_call 69; with_reducible exact quiet_of_eq (HS.out.1 _)))
  rename Nat => nq1
  go_wp2_with fail
  go_quiet ((go_at_call 69; with_reducible exact quiet_of_eq2 (HS.out.2.1 _)))
  rename Nat => nq2
  go_wp2_with fail
  have hz1 : Below w.heap.size w ((w2.drewN nq1).drewN nq2) := then_drewN (then_drewN HB.out.1 _) _
  have hz2 : ((w2.drewN nq1).drewN nq2).heap[w.heap.size]? = some (Obj.cells (rC lo hh s.dl oA on oc s.num iA im ic) 53 (0, 0)) := HB.out.2.1
  have hz3 : ((w2.drewN nq1).drewN nq2).heap[w.heap.size + 1]? = some (Obj.cells rZ 53 (0, 0)) := HB.out.2.2.1
  have hz4 := HS.out.2.2 (nq1 + nq2 + 1)
  have hdd : w2.drewN (nq1 + nq2 + 1) = ((w2.drewN nq1).drewN nq2).drew := by simp [World.drewN, World.drew, Nat.add_assoc]
  rw [hdd] at hz4
  clear hdd
  obtain ⟨wz, ewz⟩ : ∃ wz, wz = ((w2.drewN nq1).drewN nq2) := ⟨_, rfl⟩
  rw [← ewz] at hz1 hz2 hz3 hz4 ⊢
  clear ewz k0 k1 f0 f1
  have k0 : wz.cell? ⟨w.heap.size, 0, none⟩ = some (.int .i64 (lo : Nat)) := (cell_of_block hz2 0).trans rfl
  have k1 : wz.cell? ⟨w.heap.size, 1, none⟩ = some (.int .i64 (hh : Nat)) := (cell_of_block hz2 1).trans rfl
  have f1 := free_of_block hz2 1
  have HZ := Lib.hid (And.intro hz1 (And.intro hz2 (And.intro hz3 hz4)))
  clear hz1 hz2 hz3 hz4
  go_cut [] (fun wx => wx.heap[w.heap.size]? = some (Obj.cells (rC lo (lo + qb - 1) s.dl oA on oc s.num iA im ic) 53 (0, 0)) ∧ wx.heap[w.heap.size + 1]? = some (Obj.cells rZ 53 (0, 0)) ∧ Below w.heap.size w wx)
  case first =>
    have s1 : IntKind.i64.wrap ((i : Int) + 1) = (i : Int) + 1 := IntWalk.i64_in _ (by omega)
    have s2 : IntKind.i64.wrap (pb : Int) = (pb : Int) := IntWalk.i64_in _ (by omega)
    have s3 : IntKind.i64.wrap ((lo : Int) + (qb : Int)) = (lo : Int) + (qb : Int) := IntWalk.i64_in _ (by omega)
    have s4 : IntKind.i64.wrap ((lo : Int) + (qb : Int) - 1) = (lo : Int) + (qb : Int) - 1 := IntWalk.i64_in _ (by omega)
    go_region_with ((with_reducible refine HZ.out.2.2.2.mono ?_); (rintro e w' ⟨rfl, rfl⟩))
    all_goals first | (exfalso; omega) | skip
    all_goals
      clear s1 s2 s3 s4
      go_wp2_with fail
      go_meet
      have e1 : (lo : Int) + (qb : Int) - 1 = ((lo + qb - 1 : Nat) : Int) := by omega
      rw [e1]
      have ho : Only w.heap.size wz (wz.setCell ⟨w.heap.size, 1, none⟩ (.int .i64 ((lo + qb - 1 : Nat) : Int))) := Only.setCell (b := w.heap.size) (p := ⟨w.heap.size, 1, none⟩) (Only.refl _ _) rfl _
      exact ⟨block_setCell HZ.out.2.1 1 _, (ho.block _ (by omega)).trans HZ.out.2.2.1, (then_only HZ.out.1 ho (Nat.le_refl _)).drew⟩
  case rest =>
    obtain ⟨hx1, hx2, hx3⟩ := hcut
    clear k0 k1 f1 r1 r2 r3 r4 r5 r6 hsz
    have k0 : wc.cell? ⟨w.heap.size, 0, none⟩ = some (.int .i64 (lo : Nat)) := (cell_of_block hx1 0).trans rfl
    have f0 := free_of_block hx1 0
    have ho : Only w.heap.size wc (wc.setCell ⟨w.heap.size, 0, none⟩ (.int .i64 ((lo + qa : Nat) : Int))) := Only.setCell (b := w.heap.size) (p := ⟨w.heap.size, 0, none⟩) (Only.refl _ _) rfl _
    have hy1 : (wc.setCell ⟨w.heap.size, 0, none⟩ (.int .i64 ((lo + qa : Nat) : Int))).heap[w.heap.size]? = some (Obj.cells (rC (lo + qa) (lo + qb - 1) s.dl oA on oc s.num iA im ic) 53 (0, 0)) := block_setCell hx1 0 _
    have hy2 := (ho.block (w.heap.size + 1) (by omega)).trans hx2
    have hy3 := then_only hx3 ho (Nat.le_refl _)
    rw [show ((lo + qa : Nat) : Int) = (lo : Int) + (qa : Int) from by omega] at hy1 hy2 hy3
    have HY := Lib.hid (And.intro hy1 (And.intro hy2 hy3))
    clear hx1 hx2 hx3 ho hy1 hy2 hy3
    go_wp2_with fail
    go_loopg [] 16 (fun gh wr => ∃ (k : Nat) (t : St) (oA1 iA1 : Option Addr) (on1 oc1 im1 ic1 : Nat), gh = k ∧ BhRel w wr n f (scaleN (inBit n f) 16 (narrow fr i s)) oA iA k t oA1 on1 oc1 iA1 im1 ic1)
    case atStart =>
      have hs : BhRel w ((wc.setCell ⟨w.heap.size, 0, none⟩ (.int .i64 ((lo : Int) + (qa : Int))))) n f (scaleN (inBit n f) 16 (narrow fr i s)) oA iA 16 (narrow fr i s) oA on oc iA im ic := by
        have hb := HY.out.2.2
        have hrow := H.out.1.below hb
        have hr2 : RCo (wc.setCell ⟨w.heap.size, 0, none⟩ (.int .i64 ((lo : Int) + (qa : Int)))) n f (narrow fr i s) oA on oc iA im ic := hrow.same rfl rfl
        have hfu := H.out.2.2.2.1
        have hat2 : (narrow fr i s).at_ = s.at_ := rfl
        refine ⟨?_, HY.out.2.1, hr2, fun ad e => ?_, fun ad e => ?_, fun ad e => Or.inl ⟨ad, e, rfl⟩, fun ad e => Or.inl ⟨ad, e, rfl⟩, rfl, H.out.2.2.1, H.out.2.2.2.2.1, ?_, ?_, hb⟩
        · rw [H.out.2.1]; exact HY.out.1
        · have := H.out.1.olt ad e; omega
        · have := H.out.1.ilt ad e; omega
        · omega
        · omega
      exact ⟨16, narrow fr i s, oA, iA, on, oc, im, ic, rfl, hs⟩
    case round =>
      obtain ⟨k, t, oA1, iA1, on1, oc1, im1, ic1, hgh, hR⟩ := hrel
      have Hgh := Lib.hid hgh; clear hgh
      have HR := Lib.hid hR; clear hR k0 f0 HY c1 c2 c3 c4 hnb hnc hszb hl1 htk h0 htot
      have m0 : wr.cell? ⟨w.heap.size, 0, none⟩ = some (.int .i64 (t.lo : Nat)) := (cell_of_block HR.out.blk 0).trans rfl
      have m1 : wr.cell? ⟨w.heap.size, 1, none⟩ = some (.int .i64 (t.hi : Nat)) := (cell_of_block HR.out.blk 1).trans rfl
      have m2 : wr.cell? ⟨w.heap.size, 2, none⟩ = some (.int .i64 (t.dl : Nat)) := (cell_of_block HR.out.blk 2).trans rfl
      have m3 : wr.cell? ⟨w.heap.size, 3, none⟩ = some (.slice oA1 on1 oc1) := (cell_of_block HR.out.blk 3).trans rfl
      have m4 : wr.cell? ⟨w.heap.size, 4, none⟩ = some (.int .i64 (t.num : Nat)) := (cell_of_block HR.out.blk 4).trans rfl
      have m5 : wr.cell? ⟨w.heap.size, 5, none⟩ = some (.slice iA1 im1 ic1) := (cell_of_block HR.out.blk 5).trans rfl
      have hle := HR.out.good.le
      have hhi1 := HR.out.good.hi
      have hout := HR.out.good.out
      have hat1 := HR.out.at_
      have hiv1 := HR.out.iv.lo
      have hiv2 := HR.out.iv.hi
      rcases hp : pick t with _ | ⟨x, o, d⟩
      · obtain ⟨q1, q2, q3⟩ := pick_none hp
        have n0 : wr.cell? ⟨w.heap.size + 1, 0, none⟩ = some (.int .i64 0) := (cell_of_block HR.out.res 0).trans rfl
        have n1 : wr.cell? ⟨w.heap.size + 1, 1, none⟩ = some (.int .i64 0) := (cell_of_block HR.out.res 1).trans rfl
        have n2 : wr.cell? ⟨w.heap.size + 1, 2, none⟩ = some (.int .i64 0) := (cell_of_block HR.out.res 2).trans rfl
        have n3 : wr.cell? ⟨w.heap.size + 1, 3, none⟩ = some (.slice none 0 0) := (cell_of_block HR.out.res 3).trans rfl
        have n4 : wr.cell? ⟨w.heap.size + 1, 4, none⟩ = some (.int .i64 0) := (cell_of_block HR.out.res 4).trans rfl
        have n5 : wr.cell? ⟨w.heap.size + 1, 5, none⟩ = some (.slice none 0 0) := (cell_of_block HR.out.res 5).trans rfl
        have z0 := free_of_block HR.out.res 0
        have z1 := free_of_block HR.out.res 1
        have z2 := free_of_block HR.out.res 2
        have z3 := free_of_block HR.out.res 3
        have z4 := free_of_block HR.out.res 4
        have z5 := free_of_block HR.out.res 5
        have HP := Lib.hid hp; clear hp
        have d1 : decide (((t.hi : Nat) : Int) < 2147483648) = false := decide_eq_false (by omega)
        have d2 : decide ((2147483648 : Int) ≤ (t.lo : Nat)) = false := decide_eq_false (by omega)
        have i1 : (2147483648 : Int) ≤ (t.hi : Nat) := by omega
        have i2 : ((t.lo : Nat) : Int) < 2147483648 := by omega
        have hend : ∀ wf : World, wf = put6 wr (w.heap.size + 1) (.int .i64 (t.lo : Nat)) (.int .i64 (t.hi : Nat)) (.int .i64 (t.dl : Nat)) (.slice oA1 on1 oc1) (.int .i64 (t.num : Nat)) (.slice iA1 im1 ic1) → wf.heap[w.heap.size + 1]? = some (Obj.cells (rC t.lo t.hi t.dl oA1 on1 oc1 t.num iA1 im1 ic1) 53 (0, 0)) ∧ RCo wf n f t oA1 on1 oc1 iA1 im1 ic1 ∧ Below w.heap.size w wf := by
          rintro wf rfl
          have ho : Only (w.heap.size + 1) wr (put6 wr (w.heap.size + 1) (.int .i64 (t.lo : Nat)) (.int .i64 (t.hi : Nat)) (.int .i64 (t.dl : Nat)) (.slice oA1 on1 oc1) (.int .i64 (t.num : Nat)) (.slice iA1 im1 ic1)) := put6_only
          exact ⟨put6_blk HR.out.res, HR.out.row.keep (fun ad e => ho.block _ (HR.out.onew ad e).2) (fun ad e => ho.block _ (HR.out.inew ad e).2) (by rw [ho.size]; exact Nat.le_refl _), then_only HR.out.bel ho (Nat.le_succ _)⟩
        have hcs := H.out.2.2.2.2.2.2 t (by rw [← HR.out.eq, scaleN_none HP.out])
        have HE2 := Lib.hid (And.intro hend hcs); clear hend hcs q1 q2 hle hhi1 hout hat1 hiv1 hiv2
        rcases Nat.lt_or_ge t.lo 1073741824 with hq | hq
        · have d4 : decide ((1073741824 : Int) ≤ (t.lo : Nat)) = false := decide_eq_false (by omega)
          clear q3 hq
          go_wp2_with fail
          obtain ⟨wf, ewf⟩ : ∃ wf : World, wf = put6 wr (w.heap.size + 1) (.int .i64 (t.lo : Nat)) (.int .i64 (t.hi : Nat)) (.int .i64 (t.dl : Nat)) (.slice oA1 on1 oc1) (.int .i64 (t.num : Nat)) (.slice iA1 im1 ic1) := ⟨_, rfl⟩
          obtain ⟨y1, y2, y3⟩ := HE2.out.1 wf ewf
          obtain ⟨b1, b2, b3, b4, b5, b6⟩ := HE2.out.2
          unfold put6 at ewf
          rw [← ewf]
          clear ewf
          have x0 : wf.cell? ⟨w.heap.size + 1, 0, none⟩ = some (.int .i64 (t.lo : Nat)) := (cell_of_block y1 0).trans rfl
          have x1 : wf.cell? ⟨w.heap.size + 1, 1, none⟩ = some (.int .i64 (t.hi : Nat)) := (cell_of_block y1 1).trans rfl
          have x2 : wf.cell? ⟨w.heap.size + 1, 2, none⟩ = some (.int .i64 (t.dl : Nat)) := (cell_of_block y1 2).trans rfl
          have x3 : wf.cell? ⟨w.heap.size + 1, 3, none⟩ = some (.slice oA1 on1 oc1) := (cell_of_block y1 3).trans rfl
          have x4 : wf.cell? ⟨w.heap.size + 1, 4, none⟩ = some (.int .i64 (t.num : Nat)) := (cell_of_block y1 4).trans rfl
          have x5 : wf.cell? ⟨w.heap.size + 1, 5, none⟩ = some (.slice iA1 im1 ic1) := (cell_of_block y1 5).trans rfl
          refine bodyPost_ret (v := .agg #[.int .i64 (t.lo : Nat), .int .i64 (t.hi : Nat), .int .i64 (t.dl : Nat), .slice oA1 on1 oc1, .int .i64 (t.num : Nat), .slice iA1 im1 ic1]) (by simp [results, Try.results52, go_sem, x0, x1, x2, x3, x4, x5]) rfl ⟨oA1, on1, oc1, iA1, im1, ic1, ?_, y2.same b5.symm b6.symm, ⟨HR.out.ofrom, HR.out.ifrom⟩, y3⟩
          rw [b1, b2, b3, b4]; rfl
        · have d4 : decide ((1073741824 : Int) ≤ (t.lo : Nat)) = true := decide_eq_true (by omega)
          have d5 : decide (((t.hi : Nat) : Int) < 3221225472) = false := decide_eq_false (by omega)
          clear q3 hq
          go_wp2_with fail
          obtain ⟨wf, ewf⟩ : ∃ wf : World, wf = put6 wr (w.heap.size + 1) (.int .i64 (t.lo : Nat)) (.int .i64 (t.hi : Nat)) (.int .i64 (t.dl : Nat)) (.slice oA1 on1 oc1) (.int .i64 (t.num : Nat)) (.slice iA1 im1 ic1) := ⟨_, rfl⟩
          obtain ⟨y1, y2, y3⟩ := HE2.out.1 wf ewf
          obtain ⟨b1, b2, b3, b4, b5, b6⟩ := HE2.out.2
          unfold put6 at ewf
          rw [← ewf]
          clear ewf
          have x0 : wf.cell? ⟨w.heap.size + 1, 0, none⟩ = some (.int .i64 (t.lo : Nat)) := (cell_of_block y1 0).trans rfl
          have x1 : wf.cell? ⟨w.heap.size + 1, 1, none⟩ = some (.int .i64 (t.hi : Nat)) := (cell_of_block y1 1).trans rfl
          have x2 : wf.cell? ⟨w.heap.size + 1, 2, none⟩ = some (.int .i64 (t.dl : Nat)) := (cell_of_block y1 2).trans rfl
          have x3 : wf.cell? ⟨w.heap.size + 1, 3, none⟩ = some (.slice oA1 on1 oc1) := (cell_of_block y1 3).trans rfl
          have x4 : wf.cell? ⟨w.heap.size + 1, 4, none⟩ = some (.int .i64 (t.num : Nat)) := (cell_of_block y1 4).trans rfl
          have x5 : wf.cell? ⟨w.heap.size + 1, 5, none⟩ = some (.slice iA1 im1 ic1) := (cell_of_block y1 5).trans rfl
          refine bodyPost_ret (v := .agg #[.int .i64 (t.lo : Nat), .int .i64 (t.hi : Nat), .int .i64 (t.dl : Nat), .slice oA1 on1 oc1, .int .i64 (t.num : Nat), .slice iA1 im1 ic1]) (by simp [results, Try.results52, go_sem, x0, x1, x2, x3, x4, x5]) rfl ⟨oA1, on1, oc1, iA1, im1, ic1, ?_, y2.same b5.symm b6.symm, ⟨HR.out.ofrom, HR.out.ifrom⟩, y3⟩
          rw [b1, b2, b3, b4]; rfl
      · obtain ⟨k', rfl⟩ : ∃ k', k = k' + 1 := by
          rcases k with _ | k'
          · have := HR.out.fuel; simp at this; omega
          · exact ⟨k', rfl⟩
        have HP := Lib.hid hp
        unfold pick at hp
        split at hp
        · rename_i n1
          injection hp with hp; injection hp with h1 hp; injection hp with h2 h3
          subst h1 h2 h3
          have d1 : decide (((t.hi : Nat) : Int) < 2147483648) = true := decide_eq_true (by omega)
          have i1 : ((t.hi : Nat) : Int) < 2147483648 := by omega
          clear n1
          have ho := out_r (lo := t.lo) (hi := t.hi) (num := t.num) false 0 HR.out.row rfl rfl (by omega)
          unfold rV at ho
          have HO := Lib.hid ho; clear ho
          go_wp2_with fail
          ((with_reducible refine HO.out.mono ?_))
          rintro e w3 ⟨oA2, on2, oc2, rfl, hr3, hn3, hb3⟩
          have H3 := Lib.hid (And.intro hr3 (And.intro hn3 hb3)); clear hr3 hn3 hb3
          have ht := twice_r (lo := t.lo) (hi := t.hi) (num := t.num) (dl := 0) (by_ := 0) 0 H3.out.1 rfl (by omega) hle hhi1 (by omega) (by omega) (by omega)
          unfold rV at ht
          rw [show ((0 : Nat) : Int) = (0 : Int) from rfl] at ht
          have HT := Lib.hid ht; clear ht
          go_wp2_with fail
          ((with_reducible refine HT.out.mono ?_))
          rintro e w4 ⟨lo2, hi2, num2, iA2, im2, ic2, rfl, hn4, hr4, hf4, hb4⟩
          have hb5 := then_ H3.out.2.2 hb4
          have hlt := lt_of_block HR.out.res
          have hk := (hb5.block _ (by omega)).trans HR.out.blk
          clear m0 m1 m2 m3 m4 m5
          have m0 : w4.cell? ⟨w.heap.size, 0, none⟩ = some (.int .i64 (t.lo : Nat)) := (cell_of_block hk 0).trans rfl
          have m1 : w4.cell? ⟨w.heap.size, 1, none⟩ = some (.int .i64 (t.hi : Nat)) := (cell_of_block hk 1).trans rfl
          have m2 : w4.cell? ⟨w.heap.size, 2, none⟩ = some (.int .i64 (t.dl : Nat)) := (cell_of_block hk 2).trans rfl
          have m3 : w4.cell? ⟨w.heap.size, 3, none⟩ = some (.slice oA1 on1 oc1) := (cell_of_block hk 3).trans rfl
          have m4 : w4.cell? ⟨w.heap.size, 4, none⟩ = some (.int .i64 (t.num : Nat)) := (cell_of_block hk 4).trans rfl
          have m5 : w4.cell? ⟨w.heap.size, 5, none⟩ = some (.slice iA1 im1 ic1) := (cell_of_block hk 5).trans rfl
          have g0 := free_of_block hk 0
          have g1 := free_of_block hk 1
          have g2 := free_of_block hk 2
          have g3 := free_of_block hk 3
          have g4 := free_of_block hk 4
          have g5 := free_of_block hk 5
          have hend := HR.out.next (oA' := oA2) (on' := on2) (oc' := oc2) (iA' := iA2) (im' := im2) (ic' := ic2) (lo' := lo2) (hi' := hi2) (num' := num2) HP.out hb5 (hr4.same rfl rfl) (fun ad e => by have := H3.out.2.1 ad e; omega) (fun ad e => by obtain ⟨a, ea, eb⟩ := hf4 ad e; rw [eb]; exact HR.out.inew a ea) (fun ad e => Or.inr (Nat.le_trans HR.out.bel.size (H3.out.2.1 ad e))) (fun ad e => by obtain ⟨a, ea, eb⟩ := hf4 ad e; rw [eb]; exact HR.out.ifrom a ea) hn4.1 hn4.2.1 hn4.2.2
          rw [show ((0 : Nat) : Int) = (0 : Int) from rfl] at hend
          have HE2 := Lib.hid hend; clear hend hn4 hr4 hf4 hb4 hb5 hk hlt
          go_wp2_with fail
          go_roundg k'
          case measure => have := Hgh.out; omega
          case rel => exact ⟨k', _, oA2, iA2, on2, oc2, im2, ic2, rfl, HE2.out⟩
        · rename_i n0
          split at hp
          · rename_i n1
            injection hp with hp; injection hp with h1 hp; injection hp with h2 h3
            subst h1 h2 h3
            have d1 : decide (((t.hi : Nat) : Int) < 2147483648) = false := decide_eq_false (by omega)
            have d2 : decide ((2147483648 : Int) ≤ (t.lo : Nat)) = true := decide_eq_true (by omega)
            have i1 : (2147483648 : Int) ≤ (t.hi : Nat) := by omega
            have i2 : (2147483648 : Int) ≤ (t.lo : Nat) := by omega
            clear n0 n1
            have ho := out_r (lo := t.lo) (hi := t.hi) (num := t.num) true 1 HR.out.row rfl rfl (by omega)
            unfold rV at ho
            have HO := Lib.hid ho; clear ho
            go_wp2_with fail
            ((with_reducible refine HO.out.mono ?_))
            rintro e w3 ⟨oA2, on2, oc2, rfl, hr3, hn3, hb3⟩
            have H3 := Lib.hid (And.intro hr3 (And.intro hn3 hb3)); clear hr3 hn3 hb3
            have ht := twice_r (lo := t.lo) (hi := t.hi) (num := t.num) (dl := 0) (by_ := 2147483648) 2147483648 H3.out.1 rfl (by omega) hle hhi1 (by omega) (by omega) (by omega)
            unfold rV at ht
            rw [show ((0 : Nat) : Int) = (0 : Int) from rfl] at ht
            have HT := Lib.hid ht; clear ht
            go_wp2_with fail
            ((with_reducible refine HT.out.mono ?_))
            rintro e w4 ⟨lo2, hi2, num2, iA2, im2, ic2, rfl, hn4, hr4, hf4, hb4⟩
            have hb5 := then_ H3.out.2.2 hb4
            have hlt := lt_of_block HR.out.res
            have hk := (hb5.block _ (by omega)).trans HR.out.blk
            clear m0 m1 m2 m3 m4 m5
            have m0 : w4.cell? ⟨w.heap.size, 0, none⟩ = some (.int .i64 (t.lo : Nat)) := (cell_of_block hk 0).trans rfl
            have m1 : w4.cell? ⟨w.heap.size, 1, none⟩ = some (.int .i64 (t.hi : Nat)) := (cell_of_block hk 1).trans rfl
            have m2 : w4.cell? ⟨w.heap.size, 2, none⟩ = some (.int .i64 (t.dl : Nat)) := (cell_of_block hk 2).trans rfl
            have m3 : w4.cell? ⟨w.heap.size, 3, none⟩ = some (.slice oA1 on1 oc1) := (cell_of_block hk 3).trans rfl
            have m4 : w4.cell? ⟨w.heap.size, 4, none⟩ = some (.int .i64 (t.num : Nat)) := (cell_of_block hk 4).trans rfl
            have m5 : w4.cell? ⟨w.heap.size, 5, none⟩ = some (.slice iA1 im1 ic1) := (cell_of_block hk 5).trans rfl
            have g0 := free_of_block hk 0
            have g1 := free_of_block hk 1
            have g2 := free_of_block hk 2
            have g3 := free_of_block hk 3
            have g4 := free_of_block hk 4
            have g5 := free_of_block hk 5
            have hend := HR.out.next (oA' := oA2) (on' := on2) (oc' := oc2) (iA' := iA2) (im' := im2) (ic' := ic2) (lo' := lo2) (hi' := hi2) (num' := num2) HP.out hb5 (hr4.same rfl rfl) (fun ad e => by have := H3.out.2.1 ad e; omega) (fun ad e => by obtain ⟨a, ea, eb⟩ := hf4 ad e; rw [eb]; exact HR.out.inew a ea) (fun ad e => Or.inr (Nat.le_trans HR.out.bel.size (H3.out.2.1 ad e))) (fun ad e => by obtain ⟨a, ea, eb⟩ := hf4 ad e; rw [eb]; exact HR.out.ifrom a ea) hn4.1 hn4.2.1 hn4.2.2
            rw [show ((0 : Nat) : Int) = (0 : Int) from rfl] at hend
            have HE2 := Lib.hid hend; clear hend hn4 hr4 hf4 hb4 hb5 hk hlt
            go_wp2_with fail
            go_roundg k'
            case measure => have := Hgh.out; omega
            case rel => exact ⟨k', _, oA2, iA2, on2, oc2, im2, ic2, rfl, HE2.out⟩
          · rename_i n1
            split at hp
            · rename_i n2
              injection hp with hp; injection hp with h1 hp; injection hp with h2 h3
              subst h1 h2 h3
              have d1 : decide (((t.hi : Nat) : Int) < 2147483648) = false := decide_eq_false (by omega)
              have d2 : decide ((2147483648 : Int) ≤ (t.lo : Nat)) = false := decide_eq_false (by omega)
              have d3 : decide ((1073741824 : Int) ≤ (t.lo : Nat)) = true := decide_eq_true (by omega)
              have d4 : decide (((t.hi : Nat) : Int) < 3221225472) = true := decide_eq_true (by omega)
              have i1 : (2147483648 : Int) ≤ (t.hi : Nat) := by omega
              have i2 : ((t.lo : Nat) : Int) < 2147483648 := by omega
              have i3 : 1073741824 ≤ t.lo := n2.1
              clear n0 n1 n2
              have f2 := free_of_block HR.out.blk 2
              have hox : Only w.heap.size wr (wr.setCell ⟨w.heap.size, 2, none⟩ (.int .i64 ((t.dl + 1 : Nat) : Int))) := Only.setCell (b := w.heap.size) (p := ⟨w.heap.size, 2, none⟩) (Only.refl _ _) rfl _
              have hx1 : (wr.setCell ⟨w.heap.size, 2, none⟩ (.int .i64 ((t.dl + 1 : Nat) : Int))).heap[w.heap.size]? = some (Obj.cells (rC t.lo t.hi (t.dl + 1) oA1 on1 oc1 t.num iA1 im1 ic1) 53 (0, 0)) := block_setCell HR.out.blk 2 _
              have hx2 := (hox.block (w.heap.size + 1) (by omega)).trans HR.out.res
              have hx3 := then_only HR.out.bel hox (Nat.le_refl _)
              have hx4 := HR.out.row.keep (fun ad e => hox.block _ (HR.out.onew ad e).1) (fun ad e => hox.block _ (HR.out.inew ad e).1) (by rw [hox.size]; exact Nat.le_refl _)
              have ht := twice_r (lo := t.lo) (hi := t.hi) (num := t.num) (dl := t.dl + 1) (by_ := 1073741824) 1073741824 hx4 rfl (by omega) hle hhi1 (by omega) (by omega) (by omega)
              unfold rV at ht
              rw [show ((t.dl + 1 : Nat) : Int) = (t.dl : Int) + 1 from by omega] at ht hx1 hx2 hx3 hx4 hox
              have HT := Lib.hid ht; clear ht
              have HX := Lib.hid (And.intro hx1 (And.intro hx2 (And.intro hx3 hx4))); clear hx1 hx2 hx3 hx4 hox
              have hdl : t.dl ≤ 1000000 := by omega
              go_wp2_with fail
              ((with_reducible refine HT.out.mono ?_))
              rintro e w4 ⟨lo2, hi2, num2, iA2, im2, ic2, rfl, hn4, hr4, hf4, hb4⟩
              have hlt := lt_of_block HX.out.2.1
              have hk := (hb4.block _ (by omega)).trans HX.out.1
              have hk2 := (hb4.block _ hlt).trans HX.out.2.1
              have hk3 := then_ HX.out.2.2.1 hb4
              clear m0 m1 m2 m3 m4 m5 f2
              have m0 : w4.cell? ⟨w.heap.size, 0, none⟩ = some (.int .i64 (t.lo : Nat)) := (cell_of_block hk 0).trans rfl
              have m1 : w4.cell? ⟨w.heap.size, 1, none⟩ = some (.int .i64 (t.hi : Nat)) := (cell_of_block hk 1).trans rfl
              have m2 : w4.cell? ⟨w.heap.size, 2, none⟩ = some (.int .i64 ((t.dl + 1 : Nat) : Int)) := (cell_of_block hk 2).trans rfl
              have m3 : w4.cell? ⟨w.heap.size, 3, none⟩ = some (.slice oA1 on1 oc1) := (cell_of_block hk 3).trans rfl
              have m4 : w4.cell? ⟨w.heap.size, 4, none⟩ = some (.int .i64 (t.num : Nat)) := (cell_of_block hk 4).trans rfl
              have m5 : w4.cell? ⟨w.heap.size, 5, none⟩ = some (.slice iA1 im1 ic1) := (cell_of_block hk 5).trans rfl
              have g0 := free_of_block hk 0
              have g1 := free_of_block hk 1
              have g2 := free_of_block hk 2
              have g3 := free_of_block hk 3
              have g4 := free_of_block hk 4
              have g5 := free_of_block hk 5
              have hend := HR.out.next' (oA' := oA1) (on' := on1) (oc' := oc1) (iA' := iA2) (im' := im2) (ic' := ic2) (lo' := lo2) (hi' := hi2) (num' := num2) HP.out hk hk2 hk3 (hr4.same rfl rfl) HR.out.onew (fun ad e => by obtain ⟨a, ea, eb⟩ := hf4 ad e; rw [eb]; exact HR.out.inew a ea) HR.out.ofrom (fun ad e => by obtain ⟨a, ea, eb⟩ := hf4 ad e; rw [eb]; exact HR.out.ifrom a ea) hn4.1 hn4.2.1 hn4.2.2
              rw [show ((t.dl + 1 : Nat) : Int) = (t.dl : Int) + 1 from by omega] at hend
              have HE2 := Lib.hid hend; clear hend hn4 hr4 hf4 hb4 hk hk2 hk3 hlt
              go_wp2_with fail
              go_roundg k'
              case measure => have := Hgh.out; omega
              case rel => exact ⟨k', _, oA1, iA2, on1, oc1, im2, ic2, rfl, HE2.out⟩
            · cases hp
end Go.Proofs.Ytdekcilfkelhlaa
