/- The reference: next, the walk for a symbol. -/
import Derived.Test.YtdekcilfkelhlaaARefC
import Derived.StillTailTactics
set_option linter.unusedVariables false
namespace Go.Proofs.Ytdekcilfkelhlaa
open Go.RowKit

/-- What next returns. -/
def NxPost (w : World) (kb : Nat) (F : List Nat) (n : Nat) (f : Nat → Nat) (c : St × Bun) (s : Int) (oA iA : Option Addr) (e : Ending) (w' : World) : Prop :=
  ∃ F' cs' oA' on' oc' iA' im' ic', e = .returned (.tuple #[.int .i64 s, rV c.1.lo c.1.hi c.1.dl oA' on' oc' c.1.num iA' im' ic']) ∧ KN w' kb F' c.2 cs' ∧ RCo w' n f c.1 oA' on' oc' iA' im' ic' ∧ (From w oA oA' ∧ From w iA iA') ∧ (∀ ad, oA' = some ad → ad.block ≠ kb) ∧ (∀ ad, iA' = some ad → ad.block ≠ kb) ∧ Fr (kb :: F) w (kb :: F') w'
def itD (kind m : Nat) (x : Int) : Array Value := #[.int .u8 (kind : Int), .int .u8 (m : Int), .int .i64 x]
section
variable {w : World} {kb n : Nat} {F : List Nat} {f : Nat → Nat} {cs : Array Value} {st : St} {fr : Bun} {oA iA : Option Addr} {on oc im ic : Nat}
/-- The world in which next begins. -/
theorem nw_start (kind m : Nat) (x : Int) (hk : KN w kb F fr cs) (hr : RCo w n f st oA on oc iA im ic) (h1 : ∀ ad, oA = some ad → ad.block ≠ kb) (h2 : ∀ ad, iA = some ad → ad.block ≠ kb) :
    NW w kb F oA iA n f (itD kind m x) (((w.alloc (Obj.cells (rC st.lo st.hi st.dl oA on oc st.num iA im ic) 53)).alloc (Obj.cells (itD kind m x) 61)).alloc (Obj.cells rZ 53)) (st, fr) F cs oA on oc iA im ic := by
  have hb : Below w.heap.size w (((w.alloc (Obj.cells (rC st.lo st.hi st.dl oA on oc st.num iA im ic) 53)).alloc (Obj.cells (itD kind m x) 61)).alloc (Obj.cells rZ 53)) := (((Below.refl _ _).alloc (Nat.le_refl _) _).alloc (by simp) _).alloc (by simp; omega) _
  have e4 : ∀ a b c : Obj, (((w.alloc a).alloc b).alloc c).heap[w.heap.size]? = some a := by
    intro a b c
    exact (Below.block (B := (w.alloc a).heap.size) (((Below.refl _ _).alloc (Nat.le_refl _) _).alloc (by simp) _) _ (by simp)).trans (heap_alloc_new w a)
  have e5 : ∀ a b c : Obj, (((w.alloc a).alloc b).alloc c).heap[w.heap.size + 1]? = some b := by
    intro a b c
    have e : (w.alloc a).heap.size = w.heap.size + 1 := by simp
    rw [← e]
    exact (Below.block (B := ((w.alloc a).alloc b).heap.size) ((Below.refl _ _).alloc (Nat.le_refl _) _) _ (by simp)).trans (heap_alloc_new _ _)
  refine ⟨e4 _ _ _, e5 _ _ _, heap_new2 w _ _ _, hk.below hb, hr.below hb, lt_of_block hk.blk, fun q hq => Or.inl (hk.lt q hq), fun ad e => ⟨h1 ad e, Or.inl (hr.olt ad e)⟩, fun ad e => ⟨h2 ad e, Or.inl (hr.ilt ad e)⟩, fun ad e => Or.inl ⟨ad, e, rfl⟩, fun ad e => Or.inl ⟨ad, e, rfl⟩, Fr.of_below hb _⟩
theorem NW.done {w0 wr wf : World} {F0 : List Nat} {oO iO : Option Addr} {it : Array Value} {c : St × Bun} (h : NW w0 kb F0 oO iO n f it wr c F cs oA on oc iA im ic) (e : wf = (put6 wr (w0.heap.size + 1 + 1) (.int .i64 (c.1.lo : Nat)) (.int .i64 (c.1.hi : Nat)) (.int .i64 (c.1.dl : Nat)) (.slice oA on oc) (.int .i64 (c.1.num : Nat)) (.slice iA im ic)).drew) :
    wf.heap[w0.heap.size + 1 + 1]? = some (.cells (rC c.1.lo c.1.hi c.1.dl oA on oc c.1.num iA im ic) 53 (0, 0)) ∧ KN wf kb F c.2 cs ∧ RCo wf n f c.1 oA on oc iA im ic ∧ (From w0 oO oA ∧ From w0 iO iA) ∧ (∀ ad, oA = some ad → ad.block ≠ kb) ∧ (∀ ad, iA = some ad → ad.block ≠ kb) ∧ Fr (kb :: F0) w0 (kb :: F) wf := by
  have hp1 := put6_only (w := wr) (b := w0.heap.size + 1 + 1) (v0 := .int .i64 (c.1.lo : Nat)) (v1 := .int .i64 (c.1.hi : Nat)) (v2 := .int .i64 (c.1.dl : Nat)) (v3 := .slice oA on oc) (v4 := .int .i64 (c.1.num : Nat)) (v5 := .slice iA im ic)
  have hp2 := put6_blk (v0 := .int .i64 (c.1.lo : Nat)) (v1 := .int .i64 (c.1.hi : Nat)) (v2 := .int .i64 (c.1.dl : Nat)) (v3 := .slice oA on oc) (v4 := .int .i64 (c.1.num : Nat)) (v5 := .slice iA im ic) h.b7
  rw [show w0.heap.size + 2 = w0.heap.size + 1 + 1 from rfl] at hp2
  generalize put6 wr (w0.heap.size + 1 + 1) (.int .i64 (c.1.lo : Nat)) (.int .i64 (c.1.hi : Nat)) (.int .i64 (c.1.dl : Nat)) (.slice oA on oc) (.int .i64 (c.1.num : Nat)) (.slice iA im ic) = wp at e hp1 hp2
  subst e
  have ho : Only (w0.heap.size + 1 + 1) wr wp.drew := hp1.drew
  generalize hwf : wp.drew = wf at ho ⊢
  have hp3 : wf.heap[w0.heap.size + 1 + 1]? = wp.heap[w0.heap.size + 1 + 1]? := by rw [← hwf]; rfl
  have hkl := h.kl
  have hsz : wr.heap.size ≤ wf.heap.size := by rw [ho.size]; exact Nat.le_refl _
  refine ⟨hp3.trans hp2, ?_, ?_, ⟨h.ofrom, h.ifrom⟩, fun ad e => (h.onew ad e).1, fun ad e => (h.inew ad e).1, ?_⟩
  · refine h.kn.keep (fun q hq => ho.block _ ?_) hsz
    rcases List.mem_cons.1 hq with rfl | hq
    · omega
    · have := h.old q hq; omega
  · exact h.row.keep (fun ad e => ho.block _ (by have := h.onew ad e; omega)) (fun ad e => ho.block _ (by have := h.inew ad e; omega)) hsz
  · exact ⟨ho.os.trans h.fr.os, ho.tape.trans h.fr.tape, ho.output.trans h.fr.output, Nat.le_trans h.fr.size hsz, fun q hq hn => (ho.block _ (by omega)).trans (h.fr.block q hq hn), h.fr.own⟩
set_option maxRecDepth 100000 in
set_option maxHeartbeats 8000000 in
theorem next_sym (kind m i : Nat) (x : Int) (w : World) (hk : KN w kb F fr cs) (hr : RCo w n f st oA on oc iA im ic) (hn1 : ∀ ad, oA = some ad → ad.block ≠ kb) (hn2 : ∀ ad, iA = some ad → ad.block ≠ kb) (hd : DOk (inBit n f) ksz (st, fr)) (hat : st.at_ ≤ 900000) (h1 : kind < 256) (h2 : m < 256) (hkd : kind % 4 ≠ 3) (hs : decSym (fr (6 + m % 5)) st = i) :
    Calls Try.prog 25 #[.pointer (some ⟨kb, 0, none⟩), rV st.lo st.hi st.dl oA on oc st.num iA im ic, itemV kind m x] w (NxPost w kb F n f (step (inBit n f) (st, fr) (6 + m % 5, i)) (i : Nat) oA iA) := by
  have hnw := nw_start kind m x hk hr hn1 hn2
  have hwh := fun W => which_ok kind m x W h1 h2
  have hwn : whichN kind m = m % 5 := if_neg hkd
  have hq : m % 5 < 5 := Nat.mod_lt _ (by decide)
  have hrm : rmap (m % 5) = 6 + m % 5 := if_pos hq
  have hk' : (((kind : Int) % 4) != 3) = true := by rw [bne_iff_ne]; omega
  obtain ⟨q, eq⟩ : ∃ q, q = m % 5 := ⟨_, rfl⟩
  rw [hwn, ← eq] at hwh
  rw [← eq] at hs hq hrm ⊢
  obtain ⟨w1, ew1⟩ : ∃ w1 : World, w1 = ((w.alloc (Obj.cells (rC st.lo st.hi st.dl oA on oc st.num iA im ic) 53)).alloc (Obj.cells (itD kind m x) 61)).alloc (Obj.cells rZ 53) := ⟨_, rfl⟩
  rw [← ew1] at hnw
  have hfine := hd.ok.shape.fine (6 + q)
  have H := Lib.hid (And.intro hnw (And.intro hwh (And.intro hd (And.intro hs (And.intro hrm hfine)))))
  have HW := Lib.hid ew1
  have i1 : (0 : Int) ≤ (q : Nat) := by omega
  have i2 : ((q : Nat) : Int) < 11 := by omega
  have g0 : w1.cell? ⟨w.heap.size + 1, 0, none⟩ = some (.int .u8 (kind : Int)) := (cell_of_block hnw.b5 0).trans rfl
  have g1 : w1.cell? ⟨w.heap.size + 1, 1, none⟩ = some (.int .u8 (m : Int)) := (cell_of_block hnw.b5 1).trans rfl
  have g2 : w1.cell? ⟨w.heap.size + 1, 2, none⟩ = some (.int .i64 x) := (cell_of_block hnw.b5 2).trans rfl
  clear hnw hk hr hwh hwn hd hs hrm ew1 hn1 hn2 eq hfine hkd
  unfold rV itemV
  go_enter Try.func25, Try.ntmps25
  go_upto_region 1 with fail
  have hww := HW.out
  unfold rC rZ itD at hww
  rw [← hww]
  clear hww
  have hwq := H.out.2.1 w1
  unfold itemV at hwq
  have HQ := Lib.hid hwq; clear hwq
  go_wp2_with fail
  ((with_reducible refine HQ.out.mono ?_))
  rintro e w2 ⟨rfl, hb2⟩
  have h2w := H.out.1.below hb2
  clear g0 g1 g2 HQ
  have H2 := Lib.hid h2w; clear hb2 h2w
  go_wp2_with fail
  have hdec : decSym (fr (rmap q)) st = i := by rw [H.out.2.2.2.2.1]; exact H.out.2.2.2.1
  have HDEC := Lib.hid hdec; clear hdec
  obtain ⟨mA, mn, mc, hcs, hmr, hmF⟩ := H2.out.kn.row q (by omega)
  have kq : w2.cell? ⟨kb, q, none⟩ = some (.slice mA mn mc) := (cell_of_block H2.out.kn.blk q).trans hcs
  have m0 : w2.cell? ⟨w.heap.size, 0, none⟩ = some (.int .i64 (st.lo : Nat)) := (cell_of_block H2.out.b4 0).trans rfl
  have m1 : w2.cell? ⟨w.heap.size, 1, none⟩ = some (.int .i64 (st.hi : Nat)) := (cell_of_block H2.out.b4 1).trans rfl
  have m2 : w2.cell? ⟨w.heap.size, 2, none⟩ = some (.int .i64 (st.dl : Nat)) := (cell_of_block H2.out.b4 2).trans rfl
  have m3 : w2.cell? ⟨w.heap.size, 3, none⟩ = some (.slice oA on oc) := (cell_of_block H2.out.b4 3).trans rfl
  have m4 : w2.cell? ⟨w.heap.size, 4, none⟩ = some (.int .i64 (st.num : Nat)) := (cell_of_block H2.out.b4 4).trans rfl
  have m5 : w2.cell? ⟨w.heap.size, 5, none⟩ = some (.slice iA im ic) := (cell_of_block H2.out.b4 5).trans rfl
  have hnx := Next_ok (s := st) (oA := oA) (iA := iA) (on := on) (oc := oc) (im := im) (ic := ic) (mc := mc) w2.drew (hmr.below (Below.refl _ _).drew) (H.out.2.2.1.ok.shape.fine (rmap q)) H.out.2.2.1.iv H.out.2.2.1.ok.live.good.hi
  rw [HDEC.out] at hnx
  unfold rV at hnx
  have HN := Lib.hid hnx; clear hnx hcs hmF
  have HM := Lib.hid hmr; clear hmr
  go_cut [9] (fun v wx => v = .int .i64 (i : Nat) ∧ NW w kb F oA iA n f (itD kind m x) wx (st, fr) F cs oA on oc iA im ic ∧ Below w2.heap.size w2 wx)
  case first =>
    go_still_tail 6, (by kernel_rfl)
    change wpList _ _ _ _ _ w2.drew
    go_wp2_with fail
    ((with_reducible refine HN.out.mono ?_))
    rintro e w3 ⟨rfl, hb3⟩
    all_goals
      have hb4 : Below w2.heap.size w2 w3 := then_ (Below.refl w2.heap.size w2).drew hb3
      have HB := Lib.hid (And.intro (H2.out.below hb4) hb4); clear hb3 hb4
      go_wp2_with fail
      go_meet
      exact ⟨rfl, HB.out.1, HB.out.2⟩
  case rest =>
  obtain ⟨rfl, h3, hb3⟩ := hcut
  have hm3 := HM.out.below hb3
  have H3 := Lib.hid (And.intro h3 hm3); clear h3 hm3 HN HM m0 m1 m2 m3 m4 m5 kq hb3
  obtain ⟨w3, ew3⟩ : ∃ w3 : World, w3 = wc := ⟨_, rfl⟩
  rw [← ew3] at H3 ⊢
  clear ew3
  obtain ⟨mA, mn, mc, hcs, hmr, hmF⟩ := H3.out.1.kn.row q (by omega)
  have kq : w3.cell? ⟨kb, q, none⟩ = some (.slice mA mn mc) := (cell_of_block H3.out.1.kn.blk q).trans hcs
  have m0 : w3.cell? ⟨w.heap.size, 0, none⟩ = some (.int .i64 (st.lo : Nat)) := (cell_of_block H3.out.1.b4 0).trans rfl
  have m1 : w3.cell? ⟨w.heap.size, 1, none⟩ = some (.int .i64 (st.hi : Nat)) := (cell_of_block H3.out.1.b4 1).trans rfl
  have m2 : w3.cell? ⟨w.heap.size, 2, none⟩ = some (.int .i64 (st.dl : Nat)) := (cell_of_block H3.out.1.b4 2).trans rfl
  have m3 : w3.cell? ⟨w.heap.size, 3, none⟩ = some (.slice oA on oc) := (cell_of_block H3.out.1.b4 3).trans rfl
  have m4 : w3.cell? ⟨w.heap.size, 4, none⟩ = some (.int .i64 (st.num : Nat)) := (cell_of_block H3.out.1.b4 4).trans rfl
  have m5 : w3.cell? ⟨w.heap.size, 5, none⟩ = some (.slice iA im ic) := (cell_of_block H3.out.1.b4 5).trans rfl
  go_upto_region 3 with fail
  have hbh := Behind_ok (s := st) (oA := oA) (iA := iA) (on := on) (oc := oc) (im := im) (ic := ic) (mc := mc) i w3.drew (H3.out.1.row.below (Below.refl _ _).drew) H.out.2.2.1.ok.live H.out.2.2.1.iv hat (hmr.below (Below.refl _ _).drew) (H.out.2.2.1.ok.shape.fine (rmap q)) HDEC.out
  unfold rV at hbh
  obtain ⟨T, eT⟩ : ∃ T, T = codeSt (inBit n f) (fr (rmap q)) i st := ⟨_, rfl⟩
  rw [← eT] at hbh
  have HT := Lib.hid eT; clear eT
  have HN := Lib.hid hbh; clear hbh hcs hmF hmr
  go_cut [] (fun wx => ∃ (oA1 iA1 : Option Addr) (on1 oc1 im1 ic1 : Nat), NW w kb F oA iA n f (itD kind m x) wx (T, fr) F cs oA1 on1 oc1 iA1 im1 ic1)
  case first =>
    go_still_tail 7, (by kernel_rfl)
    change wpList _ _ _ _ _ w3.drew
    go_wp2_with fail
    ((with_reducible refine HN.out.mono ?_))
    rintro e w4 ⟨oA1, on1, oc1, iA1, im1, ic1, rfl, hr4, hf4, hb4⟩
    unfold rV
    have hb5 : Below w3.heap.size w3 w4 := then_ (Below.refl w3.heap.size w3).drew hb4
    have h5 := H3.out.1.below hb5
    have HB := Lib.hid (And.intro h5 (And.intro hr4 (And.intro hf4 hb5)))
    clear hr4 hf4 hb4 hb5 h5 m0 m1 m2 m3 m4 m5 kq
    have m0 : w4.cell? ⟨w.heap.size, 0, none⟩ = some (.int .i64 (st.lo : Nat)) := (cell_of_block HB.out.1.b4 0).trans rfl
    have m1 : w4.cell? ⟨w.heap.size, 1, none⟩ = some (.int .i64 (st.hi : Nat)) := (cell_of_block HB.out.1.b4 1).trans rfl
    have m2 : w4.cell? ⟨w.heap.size, 2, none⟩ = some (.int .i64 (st.dl : Nat)) := (cell_of_block HB.out.1.b4 2).trans rfl
    have m3 : w4.cell? ⟨w.heap.size, 3, none⟩ = some (.slice oA on oc) := (cell_of_block HB.out.1.b4 3).trans rfl
    have m4 : w4.cell? ⟨w.heap.size, 4, none⟩ = some (.int .i64 (st.num : Nat)) := (cell_of_block HB.out.1.b4 4).trans rfl
    have m5 : w4.cell? ⟨w.heap.size, 5, none⟩ = some (.slice iA im ic) := (cell_of_block HB.out.1.b4 5).trans rfl
    have g0 := free_of_block HB.out.1.b4 0
    have g1 := free_of_block HB.out.1.b4 1
    have g2 := free_of_block HB.out.1.b4 2
    have g3 := free_of_block HB.out.1.b4 3
    have g4 := free_of_block HB.out.1.b4 4
    have g5 := free_of_block HB.out.1.b4 5
    all_goals
      have hlt7 := lt_of_block H3.out.1.b7
      have hnew : ∀ (a a' : Option Addr), From w3.drew a a' → (∀ ad, a = some ad → ad.block ≠ kb ∧ (ad.block < w.heap.size ∨ w.heap.size + 3 ≤ ad.block)) → ∀ ad, a' = some ad → ad.block ≠ kb ∧ (ad.block < w.heap.size ∨ w.heap.size + 3 ≤ ad.block) := by
        intro a a' hfr ho ad e
        rcases hfr ad e with ⟨b, eb, hbl⟩ | hge
        · rw [hbl]; exact ho b eb
        · have hge' : w3.heap.size ≤ ad.block := hge
          have := H3.out.1.kl
          omega
      have hfrom : ∀ (o a a' : Option Addr), From w o a → From w3.drew a a' → From w o a' := by
        intro o a a' h1 h2 ad e
        rcases h2 ad e with ⟨b, eb, hbl⟩ | hge
        · rw [hbl]; exact h1 b eb
        · have hge' : w3.heap.size ≤ ad.block := hge
          exact Or.inr (by omega)
      have hend := HB.out.1.coded HB.out.2.1 (hnew _ _ HB.out.2.2.1.1 H3.out.1.onew) (hnew _ _ HB.out.2.2.1.2 H3.out.1.inew) (hfrom _ _ _ H3.out.1.ofrom HB.out.2.2.1.1) (hfrom _ _ _ H3.out.1.ifrom HB.out.2.2.1.2)
      unfold put6 at hend
      have HE := Lib.hid hend; clear hend hnew hfrom hlt7
      go_wp2_with fail
      go_meet
      exact ⟨oA1, iA1, on1, oc1, im1, ic1, HE.out⟩
  case rest =>
  obtain ⟨oA1, iA1, on1, oc1, im1, ic1, h4⟩ := hcut
  have H4 := Lib.hid h4; clear h4 HN H3 m0 m1 m2 m3 m4 m5 kq
  obtain ⟨w4, ew4⟩ : ∃ w4 : World, w4 = wc := ⟨_, rfl⟩
  rw [← ew4] at H4 ⊢
  clear ew4
  obtain ⟨mA, mn, mc, hcs, hmr, hmF⟩ := H4.out.kn.row q (by omega)
  have kq : w4.cell? ⟨kb, q, none⟩ = some (.slice mA mn mc) := (cell_of_block H4.out.kn.blk q).trans hcs
  go_upto_region 4 with fail
  have hmn := hmr.1
  have hfi := (H.out.2.2.1.ok.shape.fine (rmap q))
  have hln := Learn_ok (cap := mc) i w4.drew (hmr.below (Below.refl _ _).drew) (by rw [hmn, H.out.2.2.1.ok.shape.len]; exact (H.out.2.2.1.step (inBit_le n f) (o := (rmap q, i)) HDEC.out).2) hfi.tot (by rw [hmn]; exact hfi.few)
  have hps : 0 < mn := by rw [hmn]; exact hfi.pos
  have HP := Lib.hid hps
  have HN := Lib.hid hln; clear hln hcs hmF hmr hmn hfi hps
  go_cut [] (fun wx => ∃ (g : Nat) (cs1 : Array Value), NW w kb F oA iA n f (itD kind m x) wx (step (inBit n f) (st, fr) (rmap q, i)) (g :: F) cs1 oA1 on1 oc1 iA1 im1 ic1)
  case first =>
    go_region_with ((with_reducible refine HN.out.mono ?_)
                    (rintro e w5 ⟨A5, c5, rfl, hr5, hn5, hb5⟩)
                    have hb6 : Below w4.heap.size w4 w5 := then_ (Below.refl w4.heap.size w4).drew hb5
                    have h6 := H4.out.below hb6
                    obtain ⟨mA5, mn5, mc5, hcs5, _, _⟩ := h6.kn.row q (by omega)
                    have kq5 : w5.cell? ⟨kb, q, none⟩ = some (.slice mA5 mn5 mc5) := (cell_of_block h6.kn.blk q).trans hcs5
                    have fq5 := free_of_block h6.kn.blk q
                    have HB := Lib.hid (And.intro h6 (And.intro hr5 (And.intro hn5 hb6)))
                    clear hr5 hn5 hb5 hb6 h6 hcs5)
    all_goals
      have hlt7 := lt_of_block H4.out.b7
      obtain ⟨ad5, rfl, _, _⟩ := HB.out.2.1.2 0 HP.out
      have hge := (HB.out.2.2.1 ad5 rfl).1
      have hge' : w4.heap.size ≤ ad5.block := hge
      have hend := HB.out.1.learnt (i := q) (by omega) (cap := c5) HB.out.2.1 (g := ad5.block) (fun ad e => by cases e; rfl) (by omega) (HB.out.2.2.1 ad5 rfl).2
      have e : step (inBit n f) (st, fr) (rmap q, i) = (T, upd fr (rmap q) (learn (fr (rmap q)) i)) := by rw [HT.out]; rfl
      have hend2 := hend
      change NW w kb F oA iA n f (itD kind m x) _ (T, upd fr (rmap q) (learn (fr (rmap q)) i)) _ _ oA1 on1 oc1 iA1 im1 ic1 at hend2
      rw [← e] at hend2
      clear e
      have HE := Lib.hid hend2; clear hend hend2 hge hge' hlt7 kq5 fq5
      go_wp2_with fail
      go_meet
      exact ⟨ad5.block, _, HE.out⟩
  case rest =>
  obtain ⟨g5, cs5, h5⟩ := hcut
  have H5 := Lib.hid h5; clear h5 HN H4 kq
  obtain ⟨w5, ew5⟩ : ∃ w5 : World, w5 = wc := ⟨_, rfl⟩
  rw [← ew5] at H5 ⊢
  clear ew5
  have z0 : w5.cell? ⟨w.heap.size + 1, 0, none⟩ = some (.int .u8 (kind : Int)) := (cell_of_block H5.out.b5 0).trans rfl
  go_wp2_with fail
  obtain ⟨T, eT⟩ : ∃ T : St × Bun, T = step (inBit n f) (st, fr) (rmap q, i) := ⟨_, rfl⟩
  have hT := H5.out
  rw [← eT] at hT
  have eT2 : T = step (inBit n f) (st, fr) (6 + q, i) := by rw [eT, H.out.2.2.2.2.1]
  have HT := Lib.hid (And.intro hT eT2); clear hT eT H5 eT2
  have m0 : w5.cell? ⟨w.heap.size, 0, none⟩ = some (.int .i64 (T.1.lo : Nat)) := (cell_of_block HT.out.1.b4 0).trans rfl
  have m1 : w5.cell? ⟨w.heap.size, 1, none⟩ = some (.int .i64 (T.1.hi : Nat)) := (cell_of_block HT.out.1.b4 1).trans rfl
  have m2 : w5.cell? ⟨w.heap.size, 2, none⟩ = some (.int .i64 (T.1.dl : Nat)) := (cell_of_block HT.out.1.b4 2).trans rfl
  have m3 : w5.cell? ⟨w.heap.size, 3, none⟩ = some (.slice oA1 on1 oc1) := (cell_of_block HT.out.1.b4 3).trans rfl
  have m4 : w5.cell? ⟨w.heap.size, 4, none⟩ = some (.int .i64 (T.1.num : Nat)) := (cell_of_block HT.out.1.b4 4).trans rfl
  have m5 : w5.cell? ⟨w.heap.size, 5, none⟩ = some (.slice iA1 im1 ic1) := (cell_of_block HT.out.1.b4 5).trans rfl
  have y0 : w5.cell? ⟨w.heap.size + 1 + 1, 0, none⟩ = some (.int .i64 0) := (cell_of_block HT.out.1.b7 0).trans rfl
  have x0 : w5.frozen? ⟨w.heap.size + 1 + 1, 0, none⟩ = false := free_of_block HT.out.1.b7 0
  have y1 : w5.cell? ⟨w.heap.size + 1 + 1, 1, none⟩ = some (.int .i64 0) := (cell_of_block HT.out.1.b7 1).trans rfl
  have x1 : w5.frozen? ⟨w.heap.size + 1 + 1, 1, none⟩ = false := free_of_block HT.out.1.b7 1
  have y2 : w5.cell? ⟨w.heap.size + 1 + 1, 2, none⟩ = some (.int .i64 0) := (cell_of_block HT.out.1.b7 2).trans rfl
  have x2 : w5.frozen? ⟨w.heap.size + 1 + 1, 2, none⟩ = false := free_of_block HT.out.1.b7 2
  have y3 : w5.cell? ⟨w.heap.size + 1 + 1, 3, none⟩ = some (.slice none 0 0) := (cell_of_block HT.out.1.b7 3).trans rfl
  have x3 : w5.frozen? ⟨w.heap.size + 1 + 1, 3, none⟩ = false := free_of_block HT.out.1.b7 3
  have y4 : w5.cell? ⟨w.heap.size + 1 + 1, 4, none⟩ = some (.int .i64 0) := (cell_of_block HT.out.1.b7 4).trans rfl
  have x4 : w5.frozen? ⟨w.heap.size + 1 + 1, 4, none⟩ = false := free_of_block HT.out.1.b7 4
  have y5 : w5.cell? ⟨w.heap.size + 1 + 1, 5, none⟩ = some (.slice none 0 0) := (cell_of_block HT.out.1.b7 5).trans rfl
  have x5 : w5.frozen? ⟨w.heap.size + 1 + 1, 5, none⟩ = false := free_of_block HT.out.1.b7 5
  go_still_tail 3, (by kernel_rfl)
  change wpList _ _ _ _ _ w5.drew
  go_wp2_with fail
  obtain ⟨wf, ewf⟩ : ∃ wf : World, wf = (put6 w5 (w.heap.size + 1 + 1) (.int .i64 (T.1.lo : Nat)) (.int .i64 (T.1.hi : Nat)) (.int .i64 (T.1.dl : Nat)) (.slice oA1 on1 oc1) (.int .i64 (T.1.num : Nat)) (.slice iA1 im1 ic1)).drew := ⟨_, rfl⟩
  obtain ⟨q1, q2⟩ := NW.done HT.out.1 ewf
  unfold put6 at ewf
  rw [← ewf]
  clear ewf y0 y1 y2 y3 y4 y5 x0 x1 x2 x3 x4 x5
  have x0 : wf.cell? ⟨w.heap.size + 1 + 1, 0, none⟩ = some (.int .i64 (T.1.lo : Nat)) := (cell_of_block q1 0).trans rfl
  have x1 : wf.cell? ⟨w.heap.size + 1 + 1, 1, none⟩ = some (.int .i64 (T.1.hi : Nat)) := (cell_of_block q1 1).trans rfl
  have x2 : wf.cell? ⟨w.heap.size + 1 + 1, 2, none⟩ = some (.int .i64 (T.1.dl : Nat)) := (cell_of_block q1 2).trans rfl
  have x3 : wf.cell? ⟨w.heap.size + 1 + 1, 3, none⟩ = some (.slice oA1 on1 oc1) := (cell_of_block q1 3).trans rfl
  have x4 : wf.cell? ⟨w.heap.size + 1 + 1, 4, none⟩ = some (.int .i64 (T.1.num : Nat)) := (cell_of_block q1 4).trans rfl
  have x5 : wf.cell? ⟨w.heap.size + 1 + 1, 5, none⟩ = some (.slice iA1 im1 ic1) := (cell_of_block q1 5).trans rfl
  refine bodyPost_ret (v := .tuple #[.int .i64 (i : Nat), .agg #[.int .i64 (T.1.lo : Nat), .int .i64 (T.1.hi : Nat), .int .i64 (T.1.dl : Nat), .slice oA1 on1 oc1, .int .i64 (T.1.num : Nat), .slice iA1 im1 ic1]]) (by simp [results, Try.results25, go_sem, x0, x1, x2, x3, x4, x5]) rfl (by rw [← HT.out.2]; exact ⟨g5 :: F, cs5, oA1, on1, oc1, iA1, im1, ic1, rfl, q2⟩)
end
end Go.Proofs.Ytdekcilfkelhlaa
