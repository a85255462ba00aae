/- The reference: next, the walk for an int. -/
import Derived.Test.YtdekcilfkelhlaaARefD
set_option linter.unusedVariables false
namespace Go.Proofs.Ytdekcilfkelhlaa
open Go.RowKit
open M (blen zig zag)

structure NGRel (w : World) (kb : Nat) (F0 : List Nat) (oO iO : Option Addr) (n : Nat) (f : Nat → Nat) (it : Array Value) (wr : World) (b k Z j : Nat) (fin c : St × Bun) (F : List Nat) (cs : Array Value) (oA : Option Addr) (on oc : Nat) (iA : Option Addr) (im ic : Nat) : Prop where
  nw : NW w kb F0 oO iO n f it wr c F cs oA on oc iA im ic
  ok : DOk (inBit n f) ksz c
  cnt : c.1.cnt + (k - j) ≤ 32768
  rd : Reads (inBit n f) c (lowOps b k Z (k - max j 1))
  eq : steps (inBit n f) c (lowOps b k Z (k - max j 1)) = fin
theorem at_of_cnt {bit : Nat → Nat} {c : St × Bun} (h : DOk bit ksz c) (hc : c.1.cnt ≤ 32768) : c.1.at_ ≤ 900000 := by
  have := h.ok.live.at_
  omega
theorem int_even (Z : Nat) (h : Z < 18446744073709551616) : IntKind.i64.wrap (IntKind.u64.wrap ((Z : Int) / 2)) = ((Z / 2 : Nat) : Int) := by
  have e : IntKind.u64.wrap ((Z : Int) / 2) = ((Z / 2 : Nat) : Int) := by rw [IntKind.wrap_u64]; omega
  rw [e]; exact IntWalk.i64_in _ (by omega)
theorem int_odd (Z : Nat) (h : Z < 18446744073709551616) : IntKind.i64.wrap (IntKind.i64.wrap (-IntKind.i64.wrap (IntKind.u64.wrap ((Z : Int) / 2))) - 1) = -((Z / 2 : Nat) : Int) - 1 := by
  rw [int_even Z h, show IntKind.i64.wrap (-((Z / 2 : Nat) : Int)) = -((Z / 2 : Nat) : Int) from IntWalk.i64_in _ (by omega)]
  exact IntWalk.i64_in _ (by omega)
theorem zag_even {s : Int} (s0 : -9223372036854775808 ≤ s) (s1 : s ≤ 9223372036854775807) (h : zig (wordOf s) % 2 = 0) : ((zig (wordOf s) / 2 : Nat) : Int) = s := by
  unfold zig wordOf at *
  split at h <;> split <;> omega
theorem zag_odd {s : Int} (s0 : -9223372036854775808 ≤ s) (s1 : s ≤ 9223372036854775807) (h : zig (wordOf s) % 2 = 1) : -((zig (wordOf s) / 2 : Nat) : Int) - 1 = s := by
  unfold zig wordOf at *
  split at h <;> split <;> omega
section
variable {w : World} {kb n : Nat} {F : List Nat} {f : Nat → Nat} {cs : Array Value} {st : St} {fr : Bun} {oA iA : Option Addr} {on oc im ic : Nat}
set_option maxRecDepth 100000 in
set_option maxHeartbeats 8000000 in
theorem next_int (kind m Z : Nat) (x s : Int) (w : World) (hk : KN w kb F fr cs) (hr : RCo w n f st oA on oc iA im ic) (hn1 : ∀ ad, oA = some ad → ad.block ≠ kb) (hn2 : ∀ ad, iA = some ad → ad.block ≠ kb) (hd : DOk (inBit n f) ksz (st, fr)) (hcnt : st.cnt + 65 ≤ 32768) (h1 : kind < 256) (h2 : m < 256) (hkd : kind % 4 = 3) (hZ : Z < 18446744073709551616) (hrd : Reads (inBit n f) (st, fr) (zops (3 * (m % 2)) Z))
    (hev : Z % 2 = 0 → ((Z / 2 : Nat) : Int) = s) (hod : Z % 2 = 1 → -((Z / 2 : Nat) : Int) - 1 = s) :
    Calls Try.prog 25 #[.pointer (some ⟨kb, 0, none⟩), rV st.lo st.hi st.dl oA on oc st.num iA im ic, itemV kind m x] w (NxPost w kb F n f (steps (inBit n f) (st, fr) (zops (3 * (m % 2)) Z)) s oA iA) := by
  have hnw := nw_start kind m x hk hr hn1 hn2
  have hwh := fun W => which_ok kind m x W h1 h2
  have hwn : whichN kind m = 5 + 3 * (m % 2) := if_pos hkd
  have hk' : (((kind : Int) % 4) != 3) = false := by rw [bne_eq_false_iff_eq]; omega
  obtain ⟨b, eb⟩ : ∃ b, b = 3 * (m % 2) := ⟨_, rfl⟩
  have hz := intSz (m % 2) (by omega)
  rw [← eb] at hz
  have hb3 : b ≤ 3 := by omega
  obtain ⟨q, eq⟩ : ∃ q, q = 5 + 3 * (m % 2) := ⟨_, rfl⟩
  have hqb : q = 5 + b := by omega
  have hq : q + 2 < 11 := by omega
  have hrm : rmap q = b := by rw [hqb]; unfold rmap; rw [if_neg (by omega)]; omega
  rw [hwn, ← eq] at hwh
  rw [← eb] at hrd ⊢
  have hkl : blen Z ≤ 64 := M.blen_le (by simpa using hZ)
  have htop : Z / 2 ^ (blen Z - 1) = if blen Z = 0 then 0 else 1 := by
    split
    · rename_i h0
      rcases Nat.eq_zero_or_pos Z with rfl | h1
      · simp
      · have := (M.blen_bd h1).2.2; omega
    · rename_i h0; exact top_bit (blen_pos h0)
  have hztop : Z / 2 ^ blen Z = 0 := by
    rcases Nat.eq_zero_or_pos Z with rfl | h1
    · simp
    · exact Nat.div_eq_of_lt (M.blen_bd h1).2.1
  obtain ⟨hd1, _⟩ := hd.step (inBit_le n f) (o := (b, blen Z)) hrd.1
  have hcn1 := (hd.ok.step (bit := inBit n f) (o := (b, blen Z)) (by unfold Fit; rw [hz.s0]; simp only []; omega)).2
  have hr1 : Reads (inBit n f) (step (inBit n f) (st, fr) (b, blen Z)) (lowOps b (blen Z) Z (blen Z - 1)) := hrd.2
  obtain ⟨fin, efin⟩ : ∃ c, c = steps (inBit n f) (st, fr) (zops b Z) := ⟨_, rfl⟩
  have heq : steps (inBit n f) (step (inBit n f) (st, fr) (b, blen Z)) (lowOps b (blen Z) Z (blen Z - 1)) = fin := efin.symm
  have hs0 : decSym (fr (rmap q)) st = blen Z := by rw [hrm]; exact hrd.1
  obtain ⟨k, ek⟩ : ∃ k, k = blen Z := ⟨_, rfl⟩
  rw [← ek] at hkl htop hztop hd1 hcn1 hr1 heq hs0
  obtain ⟨w1, ew1⟩ : ∃ w1 : World, w1 = ((w.alloc (Obj.cells (rC st.lo st.hi st.dl oA on oc st.num iA im ic) 53)).alloc (Obj.cells (itD kind m x) 61)).alloc (Obj.cells rZ 53) := ⟨_, rfl⟩
  rw [← ew1] at hnw
  have hat := at_of_cnt hd (by show st.cnt ≤ 32768; omega)
  have H := Lib.hid (And.intro hnw (And.intro hwh (And.intro hd (And.intro hrm hqb))))
  have HX := Lib.hid (And.intro hd1 (And.intro hcn1 (And.intro hr1 (And.intro heq (And.intro htop (And.intro hztop (And.intro hz (And.intro efin (And.intro hev hod)))))))))
  have HDEC := Lib.hid hs0
  have HW := Lib.hid ew1
  have i1 : (0 : Int) ≤ (q : Nat) := by omega
  have i2 : ((q : Nat) : Int) < 11 := by omega
  have g0 : w1.cell? ⟨w.heap.size + 1, 0, none⟩ = some (.int .u8 (kind : Int)) := (cell_of_block hnw.b5 0).trans rfl
  have g1 : w1.cell? ⟨w.heap.size + 1, 1, none⟩ = some (.int .u8 (m : Int)) := (cell_of_block hnw.b5 1).trans rfl
  have g2 : w1.cell? ⟨w.heap.size + 1, 2, none⟩ = some (.int .i64 x) := (cell_of_block hnw.b5 2).trans rfl
  clear hnw hk hr hwh hwn hd hrd hrm ew1 hn1 hn2 eq hkd hqb eb hd1 hcn1 hr1 heq htop hztop hz efin hs0 ek hev hod
  unfold rV itemV
  go_enter Try.func25, Try.ntmps25
  go_upto_region 1 with fail
  have hww := HW.out
  unfold rC rZ itD at hww
  rw [← hww]
  clear hww
  have hwq := H.out.2.1 w1
  unfold itemV at hwq
  have HQ := Lib.hid hwq; clear hwq
  go_wp2_with fail
  ((with_reducible refine HQ.out.mono ?_))
  rintro e w2 ⟨rfl, hb2⟩
  have h2w := H.out.1.below hb2
  clear g0 g1 g2 HQ
  have H2 := Lib.hid h2w; clear hb2 h2w
  go_wp2_with fail
  obtain ⟨mA, mn, mc, hcs, hmr, hmF⟩ := H2.out.kn.row q (by omega)
  have kq : w2.cell? ⟨kb, q, none⟩ = some (.slice mA mn mc) := (cell_of_block H2.out.kn.blk q).trans hcs
  have m0 : w2.cell? ⟨w.heap.size, 0, none⟩ = some (.int .i64 (st.lo : Nat)) := (cell_of_block H2.out.b4 0).trans rfl
  have m1 : w2.cell? ⟨w.heap.size, 1, none⟩ = some (.int .i64 (st.hi : Nat)) := (cell_of_block H2.out.b4 1).trans rfl
  have m2 : w2.cell? ⟨w.heap.size, 2, none⟩ = some (.int .i64 (st.dl : Nat)) := (cell_of_block H2.out.b4 2).trans rfl
  have m3 : w2.cell? ⟨w.heap.size, 3, none⟩ = some (.slice oA on oc) := (cell_of_block H2.out.b4 3).trans rfl
  have m4 : w2.cell? ⟨w.heap.size, 4, none⟩ = some (.int .i64 (st.num : Nat)) := (cell_of_block H2.out.b4 4).trans rfl
  have m5 : w2.cell? ⟨w.heap.size, 5, none⟩ = some (.slice iA im ic) := (cell_of_block H2.out.b4 5).trans rfl
  have hnx := Next_ok (s := st) (oA := oA) (iA := iA) (on := on) (oc := oc) (im := im) (ic := ic) (mc := mc) w2.drew (hmr.below (Below.refl _ _).drew) (H.out.2.2.1.ok.shape.fine (rmap q)) H.out.2.2.1.iv H.out.2.2.1.ok.live.good.hi
  rw [HDEC.out] at hnx
  unfold rV at hnx
  have HN := Lib.hid hnx; clear hnx hcs hmF
  have HM := Lib.hid hmr; clear hmr
  go_cut [9] (fun vv wx => vv = .int .i64 (k : Nat) ∧ NW w kb F oA iA n f (itD kind m x) wx (st, fr) F cs oA on oc iA im ic ∧ Below w2.heap.size w2 wx)
  case first =>
    go_still_tail 6, (by kernel_rfl)
    change wpList _ _ _ _ _ w2.drew
    go_wp2_with fail
    ((with_reducible refine HN.out.mono ?_))
    rintro e w3 ⟨rfl, hb3⟩
    all_goals
      have hb4 : Below w2.heap.size w2 w3 := then_ (Below.refl w2.heap.size w2).drew hb3
      have HB := Lib.hid (And.intro (H2.out.below hb4) hb4); clear hb3 hb4
      go_wp2_with fail
      go_meet
      exact ⟨rfl, HB.out.1, HB.out.2⟩
  case rest =>
  obtain ⟨rfl, h3, hb3⟩ := hcut
  have hm3 := HM.out.below hb3
  have H3 := Lib.hid (And.intro h3 hm3); clear h3 hm3 HN HM m0 m1 m2 m3 m4 m5 kq hb3
  obtain ⟨w3, ew3⟩ : ∃ w3 : World, w3 = wc := ⟨_, rfl⟩
  rw [← ew3] at H3 ⊢
  clear ew3
  obtain ⟨mA, mn, mc, hcs, hmr, hmF⟩ := H3.out.1.kn.row q (by omega)
  have kq : w3.cell? ⟨kb, q, none⟩ = some (.slice mA mn mc) := (cell_of_block H3.out.1.kn.blk q).trans hcs
  have m0 : w3.cell? ⟨w.heap.size, 0, none⟩ = some (.int .i64 (st.lo : Nat)) := (cell_of_block H3.out.1.b4 0).trans rfl
  have m1 : w3.cell? ⟨w.heap.size, 1, none⟩ = some (.int .i64 (st.hi : Nat)) := (cell_of_block H3.out.1.b4 1).trans rfl
  have m2 : w3.cell? ⟨w.heap.size, 2, none⟩ = some (.int .i64 (st.dl : Nat)) := (cell_of_block H3.out.1.b4 2).trans rfl
  have m3 : w3.cell? ⟨w.heap.size, 3, none⟩ = some (.slice oA on oc) := (cell_of_block H3.out.1.b4 3).trans rfl
  have m4 : w3.cell? ⟨w.heap.size, 4, none⟩ = some (.int .i64 (st.num : Nat)) := (cell_of_block H3.out.1.b4 4).trans rfl
  have m5 : w3.cell? ⟨w.heap.size, 5, none⟩ = some (.slice iA im ic) := (cell_of_block H3.out.1.b4 5).trans rfl
  go_upto_region 3 with fail
  have hbh := Behind_ok (s := st) (oA := oA) (iA := iA) (on := on) (oc := oc) (im := im) (ic := ic) (mc := mc) k w3.drew (H3.out.1.row.below (Below.refl _ _).drew) H.out.2.2.1.ok.live H.out.2.2.1.iv hat (hmr.below (Below.refl _ _).drew) (H.out.2.2.1.ok.shape.fine (rmap q)) HDEC.out
  unfold rV at hbh
  obtain ⟨T, eT⟩ : ∃ T, T = codeSt (inBit n f) (fr (rmap q)) k st := ⟨_, rfl⟩
  rw [← eT] at hbh
  have HT := Lib.hid eT; clear eT
  have HN := Lib.hid hbh; clear hbh hcs hmF hmr
  go_cut [] (fun wx => ∃ (oA1 iA1 : Option Addr) (on1 oc1 im1 ic1 : Nat), NW w kb F oA iA n f (itD kind m x) wx (T, fr) F cs oA1 on1 oc1 iA1 im1 ic1)
  case first =>
    go_still_tail 7, (by kernel_rfl)
    change wpList _ _ _ _ _ w3.drew
    go_wp2_with fail
    ((with_reducible refine HN.out.mono ?_))
    rintro e w4 ⟨oA1, on1, oc1, iA1, im1, ic1, rfl, hr4, hf4, hb4⟩
    unfold rV
    have hb5 : Below w3.heap.size w3 w4 := then_ (Below.refl w3.heap.size w3).drew hb4
    have h5 := H3.out.1.below hb5
    have HB := Lib.hid (And.intro h5 (And.intro hr4 (And.intro hf4 hb5)))
    clear hr4 hf4 hb4 hb5 h5 m0 m1 m2 m3 m4 m5 kq
    have m0 : w4.cell? ⟨w.heap.size, 0, none⟩ = some (.int .i64 (st.lo : Nat)) := (cell_of_block HB.out.1.b4 0).trans rfl
    have m1 : w4.cell? ⟨w.heap.size, 1, none⟩ = some (.int .i64 (st.hi : Nat)) := (cell_of_block HB.out.1.b4 1).trans rfl
    have m2 : w4.cell? ⟨w.heap.size, 2, none⟩ = some (.int .i64 (st.dl : Nat)) := (cell_of_block HB.out.1.b4 2).trans rfl
    have m3 : w4.cell? ⟨w.heap.size, 3, none⟩ = some (.slice oA on oc) := (cell_of_block HB.out.1.b4 3).trans rfl
    have m4 : w4.cell? ⟨w.heap.size, 4, none⟩ = some (.int .i64 (st.num : Nat)) := (cell_of_block HB.out.1.b4 4).trans rfl
    have m5 : w4.cell? ⟨w.heap.size, 5, none⟩ = some (.slice iA im ic) := (cell_of_block HB.out.1.b4 5).trans rfl
    have g0 := free_of_block HB.out.1.b4 0
    have g1 := free_of_block HB.out.1.b4 1
    have g2 := free_of_block HB.out.1.b4 2
    have g3 := free_of_block HB.out.1.b4 3
    have g4 := free_of_block HB.out.1.b4 4
    have g5 := free_of_block HB.out.1.b4 5
    all_goals
      have hlt7 := lt_of_block H3.out.1.b7
      have hnew : ∀ (a a' : Option Addr), From w3.drew a a' → (∀ ad, a = some ad → ad.block ≠ kb ∧ (ad.block < w.heap.size ∨ w.heap.size + 3 ≤ ad.block)) → ∀ ad, a' = some ad → ad.block ≠ kb ∧ (ad.block < w.heap.size ∨ w.heap.size + 3 ≤ ad.block) := by
        intro a a' hfr ho ad e
        rcases hfr ad e with ⟨b, eb, hbl⟩ | hge
        · rw [hbl]; exact ho b eb
        · have hge' : w3.heap.size ≤ ad.block := hge
          have := H3.out.1.kl
          omega
      have hfrom : ∀ (o a a' : Option Addr), From w o a → From w3.drew a a' → From w o a' := by
        intro o a a' h1 h2 ad e
        rcases h2 ad e with ⟨b, eb, hbl⟩ | hge
        · rw [hbl]; exact h1 b eb
        · have hge' : w3.heap.size ≤ ad.block := hge
          exact Or.inr (by omega)
      have hend := HB.out.1.coded HB.out.2.1 (hnew _ _ HB.out.2.2.1.1 H3.out.1.onew) (hnew _ _ HB.out.2.2.1.2 H3.out.1.inew) (hfrom _ _ _ H3.out.1.ofrom HB.out.2.2.1.1) (hfrom _ _ _ H3.out.1.ifrom HB.out.2.2.1.2)
      unfold put6 at hend
      have HE := Lib.hid hend; clear hend hnew hfrom hlt7
      go_wp2_with fail
      go_meet
      exact ⟨oA1, iA1, on1, oc1, im1, ic1, HE.out⟩
  case rest =>
  obtain ⟨oA1, iA1, on1, oc1, im1, ic1, h4⟩ := hcut
  have H4 := Lib.hid h4; clear h4 HN H3 m0 m1 m2 m3 m4 m5 kq
  obtain ⟨w4, ew4⟩ : ∃ w4 : World, w4 = wc := ⟨_, rfl⟩
  rw [← ew4] at H4 ⊢
  clear ew4
  obtain ⟨mA, mn, mc, hcs, hmr, hmF⟩ := H4.out.kn.row q (by omega)
  have kq : w4.cell? ⟨kb, q, none⟩ = some (.slice mA mn mc) := (cell_of_block H4.out.kn.blk q).trans hcs
  go_upto_region 4 with fail
  have hmn := hmr.1
  have hfi := (H.out.2.2.1.ok.shape.fine (rmap q))
  have hln := Learn_ok (cap := mc) k w4.drew (hmr.below (Below.refl _ _).drew) (by rw [hmn, H.out.2.2.1.ok.shape.len]; exact (H.out.2.2.1.step (inBit_le n f) (o := (rmap q, k)) HDEC.out).2) hfi.tot (by rw [hmn]; exact hfi.few)
  have hps : 0 < mn := by rw [hmn]; exact hfi.pos
  have HP := Lib.hid hps
  have HN := Lib.hid hln; clear hln hcs hmF hmr hmn hfi hps
  go_cut [] (fun wx => ∃ (g : Nat) (cs1 : Array Value), NW w kb F oA iA n f (itD kind m x) wx (step (inBit n f) (st, fr) (rmap q, k)) (g :: F) cs1 oA1 on1 oc1 iA1 im1 ic1)
  case first =>
    go_region_with ((with_reducible refine HN.out.mono ?_)
                    (rintro e w5 ⟨A5, c5, rfl, hr5, hn5, hb5⟩)
                    have hb6 : Below w4.heap.size w4 w5 := then_ (Below.refl w4.heap.size w4).drew hb5
                    have h6 := H4.out.below hb6
                    obtain ⟨mA5, mn5, mc5, hcs5, _, _⟩ := h6.kn.row q (by omega)
                    have kq5 : w5.cell? ⟨kb, q, none⟩ = some (.slice mA5 mn5 mc5) := (cell_of_block h6.kn.blk q).trans hcs5
                    have fq5 := free_of_block h6.kn.blk q
                    have HB := Lib.hid (And.intro h6 (And.intro hr5 (And.intro hn5 hb6)))
                    clear hr5 hn5 hb5 hb6 h6 hcs5)
    all_goals
      have hlt7 := lt_of_block H4.out.b7
      obtain ⟨ad5, rfl, _, _⟩ := HB.out.2.1.2 0 HP.out
      have hge := (HB.out.2.2.1 ad5 rfl).1
      have hge' : w4.heap.size ≤ ad5.block := hge
      have hend := HB.out.1.learnt (i := q) (by omega) (cap := c5) HB.out.2.1 (g := ad5.block) (fun ad e => by cases e; rfl) (by omega) (HB.out.2.2.1 ad5 rfl).2
      have e : step (inBit n f) (st, fr) (rmap q, k) = (T, upd fr (rmap q) (learn (fr (rmap q)) k)) := by rw [HT.out]; rfl
      have hend2 := hend
      change NW w kb F oA iA n f (itD kind m x) _ (T, upd fr (rmap q) (learn (fr (rmap q)) k)) _ _ oA1 on1 oc1 iA1 im1 ic1 at hend2
      rw [← e] at hend2
      clear e
      have HE := Lib.hid hend2; clear hend hend2 hge hge' hlt7 kq5 fq5
      go_wp2_with fail
      go_meet
      exact ⟨ad5.block, _, HE.out⟩
  case rest =>
  obtain ⟨g5, cs5, h5⟩ := hcut
  have H5 := Lib.hid h5; clear h5 HN H4 kq
  obtain ⟨w5, ew5⟩ : ∃ w5 : World, w5 = wc := ⟨_, rfl⟩
  rw [← ew5] at H5 ⊢
  clear ew5
  have z0 : w5.cell? ⟨w.heap.size + 1, 0, none⟩ = some (.int .u8 (kind : Int)) := (cell_of_block H5.out.b5 0).trans rfl
  have hG : NGRel w kb F oA iA n f (itD kind m x) w5 b k Z 0 fin (step (inBit n f) (st, fr) (rmap q, k)) (g5 :: F) cs5 oA1 on1 oc1 iA1 im1 ic1 := by
    have e : step (inBit n f) (st, fr) (rmap q, k) = step (inBit n f) (st, fr) (b, k) := by rw [H.out.2.2.2.1]
    refine ⟨H5.out, by rw [e]; exact HX.out.1, ?_, by rw [e]; exact HX.out.2.2.1, by rw [e]; exact HX.out.2.2.2.1⟩
    rw [e, HX.out.2.1]; show st.cnt + 1 + (k - 0) ≤ 32768; omega
  have HG := Lib.hid hG; clear hG H5
  go_wp2_with fail
  go_loopg [10, 49] k (fun gh zv iv wr => ∃ (j zN : Nat) (c : St × Bun) (F2 : List Nat) (cs2 : Array Value) (oA2 iA2 : Option Addr) (on2 oc2 im2 ic2 : Nat), gh = k - j ∧ j ≤ k ∧ zv = .int .u64 (zN : Nat) ∧ iv = .int .i64 (j : Nat) ∧ (zN = Z / 2 ^ (k - j) ∧ NGRel w kb F oA iA n f (itD kind m x) wr b k Z j fin c F2 cs2 oA2 on2 oc2 iA2 im2 ic2))
  case atStart => exact ⟨0, 0, _, _, cs5, oA1, iA1, on1, oc1, im1, ic1, rfl, by omega, rfl, rfl, HX.out.2.2.2.2.2.1.symm, HG.out⟩
  case round =>
    obtain ⟨j, zN, c, F2, cs2, oA2, iA2, on2, oc2, im2, ic2, hgh, hj, rfl, rfl, hzN, hR⟩ := hrel
    have Hgh := Lib.hid hgh; clear hgh
    obtain ⟨st2, fr2⟩ := c
    have HR := Lib.hid (And.intro hR hzN); clear hR hzN HG z0
    by_cases hlt : j < k
    · by_cases h0 : j = 0
      · subst h0
        obtain rfl : zN = 0 := by rw [HR.out.2]; exact HX.out.2.2.2.2.2.1
        have hk0 : k ≠ 0 := by omega
        have hone : 1 = Z / 2 ^ (k - 1) := by rw [HX.out.2.2.2.2.1, if_neg hk0]
        have hN : NGRel w kb F oA iA n f (itD kind m x) wr b k Z 1 fin (st2, fr2) F2 cs2 oA2 on2 oc2 iA2 im2 ic2 :=
          ⟨HR.out.1.nw, HR.out.1.ok, by have := HR.out.1.cnt; show st2.cnt + (k - 1) ≤ _; have e : ((st2, fr2) : St × Bun).1.cnt = st2.cnt := rfl; omega, HR.out.1.rd, HR.out.1.eq⟩
        have HN := Lib.hid (And.intro hone hN); clear hone hN hk0
        go_wp2_with fail
        go_roundg (k - 1)
        case measure => have := Hgh.out; omega
        case rel => exact ⟨1, 1, (st2, fr2), F2, cs2, oA2, iA2, on2, oc2, im2, ic2, rfl, by omega, rfl, rfl, HN.out.1, HN.out.2⟩
      · obtain ⟨r, er⟩ : ∃ r, k = j + r + 1 := ⟨k - j - 1, by omega⟩
        obtain ⟨v, ev⟩ : ∃ v, v = Z / 2 ^ r % 2 := ⟨_, rfl⟩
        obtain ⟨t2, et⟩ : ∃ t, t = if j = 1 then 1 else 2 := ⟨_, rfl⟩
        have ht : 1 ≤ t2 ∧ t2 ≤ 2 := by rw [et]; split <;> omega
        have hmin : (if (2 : Int) < (j : Int) then (2 : Int) else (j : Int)) = (t2 : Int) := by rw [et]; split <;> split <;> omega
        obtain ⟨p2, ep⟩ : ∃ p, p = q + t2 := ⟨_, rfl⟩
        have hp2 : p2 < 11 := by omega
        have hpp : (q : Int) + (t2 : Int) = (p2 : Nat) := by omega
        have hrm2 : rmap p2 = if r + 2 = k then b + 1 else b + 2 := by
          have := H.out.2.2.2.2
          unfold rmap
          rw [if_neg (by omega)]
          rw [et] at ep
          split at ep <;> split <;> omega
        have hrd := HR.out.1.rd
        have heq := HR.out.1.eq
        rw [show k - max j 1 = r + 1 from by omega] at hrd heq
        unfold lowOps at hrd heq
        rw [← hrm2, ← ev] at hrd heq
        have hdec2 : decSym (fr2 (rmap p2)) st2 = v := hrd.1
        have hzr : 2 * zN + v = Z / 2 ^ r := by
          rw [HR.out.2, show k - j = r + 1 from by omega, ev, Nat.pow_succ, ← Nat.div_div_eq_div_mul]
          omega
        have hzlt : Z / 2 ^ r < 18446744073709551616 := Nat.lt_of_le_of_lt (Nat.div_le_self _ _) hZ
        have hzb : 2 * zN + v < 18446744073709551616 := by omega
        have hvb : v < 2 := by omega
        have hat2 := at_of_cnt HR.out.1.ok (by have := HR.out.1.cnt; omega)
        have HDEC2 := Lib.hid hdec2
        have HQ := Lib.hid (And.intro hrd.2 (And.intro heq (And.intro hzr er)))
        clear hrd heq hzr hzlt hdec2 hrm2 et ev er ep
        have i3 : (0 : Int) ≤ (p2 : Nat) := by omega
        have i4 : ((p2 : Nat) : Int) < 11 := by omega
        have hj1 : (0 : Int) < (j : Nat) := by omega
        go_wp2_with fail
        clear hmin hpp
        obtain ⟨mA, mn, mc, hcs, hmr, hmF⟩ := HR.out.1.nw.kn.row p2 hp2
        have kq : wr.cell? ⟨kb, p2, none⟩ = some (.slice mA mn mc) := (cell_of_block HR.out.1.nw.kn.blk p2).trans hcs
        have m0 : wr.cell? ⟨w.heap.size, 0, none⟩ = some (.int .i64 (st2.lo : Nat)) := (cell_of_block HR.out.1.nw.b4 0).trans rfl
        have m1 : wr.cell? ⟨w.heap.size, 1, none⟩ = some (.int .i64 (st2.hi : Nat)) := (cell_of_block HR.out.1.nw.b4 1).trans rfl
        have m2 : wr.cell? ⟨w.heap.size, 2, none⟩ = some (.int .i64 (st2.dl : Nat)) := (cell_of_block HR.out.1.nw.b4 2).trans rfl
        have m3 : wr.cell? ⟨w.heap.size, 3, none⟩ = some (.slice oA2 on2 oc2) := (cell_of_block HR.out.1.nw.b4 3).trans rfl
        have m4 : wr.cell? ⟨w.heap.size, 4, none⟩ = some (.int .i64 (st2.num : Nat)) := (cell_of_block HR.out.1.nw.b4 4).trans rfl
        have m5 : wr.cell? ⟨w.heap.size, 5, none⟩ = some (.slice iA2 im2 ic2) := (cell_of_block HR.out.1.nw.b4 5).trans rfl
        have hnx := Next_ok (s := st2) (oA := oA2) (iA := iA2) (on := on2) (oc := oc2) (im := im2) (ic := ic2) (mc := mc) wr.drew (hmr.below (Below.refl _ _).drew) (HR.out.1.ok.ok.shape.fine (rmap p2)) HR.out.1.ok.iv HR.out.1.ok.ok.live.good.hi
        rw [HDEC2.out] at hnx
        unfold rV at hnx
        have HN := Lib.hid hnx; clear hnx hcs hmF
        have HM := Lib.hid hmr; clear hmr
        go_cut [12] (fun vv wx => vv = .int .i64 (v : Nat) ∧ NW w kb F oA iA n f (itD kind m x) wx (st2, fr2) F2 cs2 oA2 on2 oc2 iA2 im2 ic2 ∧ Below wr.heap.size wr wx)
        case first =>
          go_still_tail 6, (by kernel_rfl)
          change wpList _ _ _ _ _ wr.drew
          go_wp2_with fail
          ((with_reducible refine HN.out.mono ?_))
          rintro e w3 ⟨rfl, hb3⟩
          all_goals
            have hb4 : Below wr.heap.size wr w3 := then_ (Below.refl wr.heap.size wr).drew hb3
            have HB := Lib.hid (And.intro (HR.out.1.nw.below hb4) hb4); clear hb3 hb4
            go_wp2_with fail
            go_meet
            exact ⟨rfl, HB.out.1, HB.out.2⟩
        case rest =>
        obtain ⟨rfl, h3, hb3⟩ := hcut
        have hm3 := HM.out.below hb3
        have H3 := Lib.hid (And.intro h3 hm3); clear h3 hm3 HN HM m0 m1 m2 m3 m4 m5 kq hb3
        obtain ⟨w3, ew3⟩ : ∃ w3 : World, w3 = wc := ⟨_, rfl⟩
        rw [← ew3] at H3 ⊢
        clear ew3
        obtain ⟨mA, mn, mc, hcs, hmr, hmF⟩ := H3.out.1.kn.row p2 hp2
        have kq : w3.cell? ⟨kb, p2, none⟩ = some (.slice mA mn mc) := (cell_of_block H3.out.1.kn.blk p2).trans hcs
        have m0 : w3.cell? ⟨w.heap.size, 0, none⟩ = some (.int .i64 (st2.lo : Nat)) := (cell_of_block H3.out.1.b4 0).trans rfl
        have m1 : w3.cell? ⟨w.heap.size, 1, none⟩ = some (.int .i64 (st2.hi : Nat)) := (cell_of_block H3.out.1.b4 1).trans rfl
        have m2 : w3.cell? ⟨w.heap.size, 2, none⟩ = some (.int .i64 (st2.dl : Nat)) := (cell_of_block H3.out.1.b4 2).trans rfl
        have m3 : w3.cell? ⟨w.heap.size, 3, none⟩ = some (.slice oA2 on2 oc2) := (cell_of_block H3.out.1.b4 3).trans rfl
        have m4 : w3.cell? ⟨w.heap.size, 4, none⟩ = some (.int .i64 (st2.num : Nat)) := (cell_of_block H3.out.1.b4 4).trans rfl
        have m5 : w3.cell? ⟨w.heap.size, 5, none⟩ = some (.slice iA2 im2 ic2) := (cell_of_block H3.out.1.b4 5).trans rfl
        go_upto_region 15 with fail
        have hbh := Behind_ok (s := st2) (oA := oA2) (iA := iA2) (on := on2) (oc := oc2) (im := im2) (ic := ic2) (mc := mc) v w3.drew (H3.out.1.row.below (Below.refl _ _).drew) HR.out.1.ok.ok.live HR.out.1.ok.iv hat2 (hmr.below (Below.refl _ _).drew) (HR.out.1.ok.ok.shape.fine (rmap p2)) HDEC2.out
        unfold rV at hbh
        obtain ⟨T, eT⟩ : ∃ T, T = codeSt (inBit n f) (fr2 (rmap p2)) v st2 := ⟨_, rfl⟩
        rw [← eT] at hbh
        have HT := Lib.hid eT; clear eT
        have HN := Lib.hid hbh; clear hbh hcs hmF hmr
        go_cut [] (fun wx => ∃ (oA1 iA1 : Option Addr) (on1 oc1 im1 ic1 : Nat), NW w kb F oA iA n f (itD kind m x) wx (T, fr2) F2 cs2 oA1 on1 oc1 iA1 im1 ic1)
        case first =>
          go_still_tail 7, (by kernel_rfl)
          change wpList _ _ _ _ _ w3.drew
          go_wp2_with fail
          ((with_reducible refine HN.out.mono ?_))
          rintro e w4 ⟨oA1, on1, oc1, iA1, im1, ic1, rfl, hr4, hf4, hb4⟩
          unfold rV
          have hb5 : Below w3.heap.size w3 w4 := then_ (Below.refl w3.heap.size w3).drew hb4
          have h5 := H3.out.1.below hb5
          have HB := Lib.hid (And.intro h5 (And.intro hr4 (And.intro hf4 hb5)))
          clear hr4 hf4 hb4 hb5 h5 m0 m1 m2 m3 m4 m5 kq
          have m0 : w4.cell? ⟨w.heap.size, 0, none⟩ = some (.int .i64 (st2.lo : Nat)) := (cell_of_block HB.out.1.b4 0).trans rfl
          have m1 : w4.cell? ⟨w.heap.size, 1, none⟩ = some (.int .i64 (st2.hi : Nat)) := (cell_of_block HB.out.1.b4 1).trans rfl
          have m2 : w4.cell? ⟨w.heap.size, 2, none⟩ = some (.int .i64 (st2.dl : Nat)) := (cell_of_block HB.out.1.b4 2).trans rfl
          have m3 : w4.cell? ⟨w.heap.size, 3, none⟩ = some (.slice oA2 on2 oc2) := (cell_of_block HB.out.1.b4 3).trans rfl
          have m4 : w4.cell? ⟨w.heap.size, 4, none⟩ = some (.int .i64 (st2.num : Nat)) := (cell_of_block HB.out.1.b4 4).trans rfl
          have m5 : w4.cell? ⟨w.heap.size, 5, none⟩ = some (.slice iA2 im2 ic2) := (cell_of_block HB.out.1.b4 5).trans rfl
          have g0 := free_of_block HB.out.1.b4 0
          have g1 := free_of_block HB.out.1.b4 1
          have g2 := free_of_block HB.out.1.b4 2
          have g3 := free_of_block HB.out.1.b4 3
          have g4 := free_of_block HB.out.1.b4 4
          have g5 := free_of_block HB.out.1.b4 5
          all_goals
            have hlt7 := lt_of_block H3.out.1.b7
            have hnew : ∀ (a a' : Option Addr), From w3.drew a a' → (∀ ad, a = some ad → ad.block ≠ kb ∧ (ad.block < w.heap.size ∨ w.heap.size + 3 ≤ ad.block)) → ∀ ad, a' = some ad → ad.block ≠ kb ∧ (ad.block < w.heap.size ∨ w.heap.size + 3 ≤ ad.block) := by
              intro a a' hfr ho ad e
              rcases hfr ad e with ⟨b, eb, hbl⟩ | hge
              · rw [hbl]; exact ho b eb
              · have hge' : w3.heap.size ≤ ad.block := hge
                have := H3.out.1.kl
                omega
            have hfrom : ∀ (o a a' : Option Addr), From w o a → From w3.drew a a' → From w o a' := by
              intro o a a' h1 h2 ad e
              rcases h2 ad e with ⟨b, eb, hbl⟩ | hge
              · rw [hbl]; exact h1 b eb
              · have hge' : w3.heap.size ≤ ad.block := hge
                exact Or.inr (by omega)
            have hend := HB.out.1.coded HB.out.2.1 (hnew _ _ HB.out.2.2.1.1 H3.out.1.onew) (hnew _ _ HB.out.2.2.1.2 H3.out.1.inew) (hfrom _ _ _ H3.out.1.ofrom HB.out.2.2.1.1) (hfrom _ _ _ H3.out.1.ifrom HB.out.2.2.1.2)
            unfold put6 at hend
            have HE := Lib.hid hend; clear hend hnew hfrom hlt7
            go_wp2_with fail
            go_meet
            exact ⟨oA1, iA1, on1, oc1, im1, ic1, HE.out⟩
        case rest =>
        obtain ⟨oA1, iA1, on1, oc1, im1, ic1, h4⟩ := hcut
        have H4 := Lib.hid h4; clear h4 HN H3 m0 m1 m2 m3 m4 m5 kq
        obtain ⟨w4, ew4⟩ : ∃ w4 : World, w4 = wc := ⟨_, rfl⟩
        rw [← ew4] at H4 ⊢
        clear ew4
        obtain ⟨mA, mn, mc, hcs, hmr, hmF⟩ := H4.out.kn.row p2 hp2
        have kq : w4.cell? ⟨kb, p2, none⟩ = some (.slice mA mn mc) := (cell_of_block H4.out.kn.blk p2).trans hcs
        go_upto_region 16 with fail
        have hmn := hmr.1
        have hfi := (HR.out.1.ok.ok.shape.fine (rmap p2))
        have hln := Learn_ok (cap := mc) v w4.drew (hmr.below (Below.refl _ _).drew) (by rw [hmn, HR.out.1.ok.ok.shape.len]; exact (HR.out.1.ok.step (inBit_le n f) (o := (rmap p2, v)) HDEC2.out).2) hfi.tot (by rw [hmn]; exact hfi.few)
        have hps : 0 < mn := by rw [hmn]; exact hfi.pos
        have HP := Lib.hid hps
        have HN := Lib.hid hln; clear hln hcs hmF hmr hmn hfi hps
        go_cut [] (fun wx => ∃ (g : Nat) (cs1 : Array Value), NW w kb F oA iA n f (itD kind m x) wx (step (inBit n f) (st2, fr2) (rmap p2, v)) (g :: F2) cs1 oA1 on1 oc1 iA1 im1 ic1)
        case first =>
          go_region_with ((with_reducible refine HN.out.mono ?_)
                          (rintro e w5 ⟨A5, c5, rfl, hr5, hn5, hb5⟩)
                          have hb6 : Below w4.heap.size w4 w5 := then_ (Below.refl w4.heap.size w4).drew hb5
                          have h6 := H4.out.below hb6
                          obtain ⟨mA5, mn5, mc5, hcs5, _, _⟩ := h6.kn.row p2 hp2
                          have kq5 : w5.cell? ⟨kb, p2, none⟩ = some (.slice mA5 mn5 mc5) := (cell_of_block h6.kn.blk p2).trans hcs5
                          have fq5 := free_of_block h6.kn.blk p2
                          have HB := Lib.hid (And.intro h6 (And.intro hr5 (And.intro hn5 hb6)))
                          clear hr5 hn5 hb5 hb6 h6 hcs5)
          all_goals
            have hlt7 := lt_of_block H4.out.b7
            obtain ⟨ad5, rfl, _, _⟩ := HB.out.2.1.2 0 HP.out
            have hge := (HB.out.2.2.1 ad5 rfl).1
            have hge' : w4.heap.size ≤ ad5.block := hge
            have hend := HB.out.1.learnt (i := p2) hp2 (cap := c5) HB.out.2.1 (g := ad5.block) (fun ad e => by cases e; rfl) (by omega) (HB.out.2.2.1 ad5 rfl).2
            have e : step (inBit n f) (st2, fr2) (rmap p2, v) = (T, upd fr2 (rmap p2) (learn (fr2 (rmap p2)) v)) := by rw [HT.out]; rfl
            have hend2 := hend
            change NW w kb F oA iA n f (itD kind m x) _ (T, upd fr2 (rmap p2) (learn (fr2 (rmap p2)) v)) _ _ oA1 on1 oc1 iA1 im1 ic1 at hend2
            rw [← e] at hend2
            clear e
            have HE := Lib.hid hend2; clear hend hend2 hge hge' hlt7 kq5 fq5
            go_wp2_with fail
            go_meet
            exact ⟨ad5.block, _, HE.out⟩
        case rest =>
        obtain ⟨g5, cs5, h5⟩ := hcut
        have H5 := Lib.hid h5; clear h5 HN H4 kq
        obtain ⟨w5, ew5⟩ : ∃ w5 : World, w5 = wc := ⟨_, rfl⟩
        rw [← ew5] at H5 ⊢
        clear ew5
        have hN : NGRel w kb F oA iA n f (itD kind m x) w5 b k Z (j + 1) fin (step (inBit n f) (st2, fr2) (rmap p2, v)) (g5 :: F2) cs5 oA1 on1 oc1 iA1 im1 ic1 := by
          obtain ⟨hd1, hf1⟩ := HR.out.1.ok.step (inBit_le n f) (o := (rmap p2, v)) HDEC2.out
          have hc1 := (HR.out.1.ok.ok.step (bit := inBit n f) (o := (rmap p2, v)) hf1).2
          have er := HQ.out.2.2.2
          have e1 : k - max (j + 1) 1 = r := by omega
          refine ⟨H5.out, hd1, ?_, by rw [e1]; exact HQ.out.1, by rw [e1]; exact HQ.out.2.1⟩
          have := HR.out.1.cnt
          rw [hc1]
          omega
        have hz2 : 2 * zN + v = Z / 2 ^ (k - (j + 1)) := by
          rw [HQ.out.2.2.1]; congr 2; have := HQ.out.2.2.2; omega
        have HN := Lib.hid (And.intro hz2 hN); clear hz2 hN H5
        go_wp2_with fail
        go_roundg (k - (j + 1))
        case measure => have := Hgh.out; omega
        case rel => exact ⟨j + 1, 2 * zN + v, _, _, _, oA1, iA1, on1, oc1, im1, ic1, rfl, by omega, by go_num, by go_num, HN.out.1, HN.out.2⟩
    · obtain rfl : j = k := by omega
      clear hlt hj
      have hfin : ((st2, fr2) : St × Bun) = steps (inBit n f) (st, fr) (zops b Z) := by
        have h := HR.out.1.eq
        have e : j - max j 1 = 0 := by omega
        rw [e] at h
        rw [← HX.out.2.2.2.2.2.2.2.1]; exact h
      have hzz : zN = Z := by rw [HR.out.2, Nat.sub_self]; simp
      subst hzz
      have HF := Lib.hid (And.intro hfin HX.out.2.2.2.2.2.2.2.2); clear hfin HX
      have hzd : zN / 2 < 9223372036854775808 := by omega
      have m0 : wr.cell? ⟨w.heap.size, 0, none⟩ = some (.int .i64 (st2.lo : Nat)) := (cell_of_block HR.out.1.nw.b4 0).trans rfl
      have m1 : wr.cell? ⟨w.heap.size, 1, none⟩ = some (.int .i64 (st2.hi : Nat)) := (cell_of_block HR.out.1.nw.b4 1).trans rfl
      have m2 : wr.cell? ⟨w.heap.size, 2, none⟩ = some (.int .i64 (st2.dl : Nat)) := (cell_of_block HR.out.1.nw.b4 2).trans rfl
      have m3 : wr.cell? ⟨w.heap.size, 3, none⟩ = some (.slice oA2 on2 oc2) := (cell_of_block HR.out.1.nw.b4 3).trans rfl
      have m4 : wr.cell? ⟨w.heap.size, 4, none⟩ = some (.int .i64 (st2.num : Nat)) := (cell_of_block HR.out.1.nw.b4 4).trans rfl
      have m5 : wr.cell? ⟨w.heap.size, 5, none⟩ = some (.slice iA2 im2 ic2) := (cell_of_block HR.out.1.nw.b4 5).trans rfl
      have y0 : wr.cell? ⟨w.heap.size + 1 + 1, 0, none⟩ = some (.int .i64 0) := (cell_of_block HR.out.1.nw.b7 0).trans rfl
      have x0 : wr.frozen? ⟨w.heap.size + 1 + 1, 0, none⟩ = false := free_of_block HR.out.1.nw.b7 0
      have y1 : wr.cell? ⟨w.heap.size + 1 + 1, 1, none⟩ = some (.int .i64 0) := (cell_of_block HR.out.1.nw.b7 1).trans rfl
      have x1 : wr.frozen? ⟨w.heap.size + 1 + 1, 1, none⟩ = false := free_of_block HR.out.1.nw.b7 1
      have y2 : wr.cell? ⟨w.heap.size + 1 + 1, 2, none⟩ = some (.int .i64 0) := (cell_of_block HR.out.1.nw.b7 2).trans rfl
      have x2 : wr.frozen? ⟨w.heap.size + 1 + 1, 2, none⟩ = false := free_of_block HR.out.1.nw.b7 2
      have y3 : wr.cell? ⟨w.heap.size + 1 + 1, 3, none⟩ = some (.slice none 0 0) := (cell_of_block HR.out.1.nw.b7 3).trans rfl
      have x3 : wr.frozen? ⟨w.heap.size + 1 + 1, 3, none⟩ = false := free_of_block HR.out.1.nw.b7 3
      have y4 : wr.cell? ⟨w.heap.size + 1 + 1, 4, none⟩ = some (.int .i64 0) := (cell_of_block HR.out.1.nw.b7 4).trans rfl
      have x4 : wr.frozen? ⟨w.heap.size + 1 + 1, 4, none⟩ = false := free_of_block HR.out.1.nw.b7 4
      have y5 : wr.cell? ⟨w.heap.size + 1 + 1, 5, none⟩ = some (.slice none 0 0) := (cell_of_block HR.out.1.nw.b7 5).trans rfl
      have x5 : wr.frozen? ⟨w.heap.size + 1 + 1, 5, none⟩ = false := free_of_block HR.out.1.nw.b7 5
      rcases Nat.mod_two_eq_zero_or_one zN with hm | hm
      · have hmi : (((zN : Int) % 2) == 0) = true := by rw [beq_iff_eq]; omega
        have hs := HF.out.2.1 hm
        have HS := Lib.hid hs; clear hs hm
        go_wp2_with fail
        go_still_tail 5, (by kernel_rfl)
        change wpList _ _ _ _ _ wr.drew
        go_wp2_with fail
        rw [int_even zN hZ, HS.out]
        obtain ⟨wf, ewf⟩ : ∃ wf : World, wf = (put6 wr (w.heap.size + 1 + 1) (.int .i64 (st2.lo : Nat)) (.int .i64 (st2.hi : Nat)) (.int .i64 (st2.dl : Nat)) (.slice oA2 on2 oc2) (.int .i64 (st2.num : Nat)) (.slice iA2 im2 ic2)).drew := ⟨_, rfl⟩
        obtain ⟨q1, q2⟩ := NW.done HR.out.1.nw ewf
        unfold put6 at ewf
        rw [← ewf]
        clear ewf y0 y1 y2 y3 y4 y5 x0 x1 x2 x3 x4 x5
        have x0 : wf.cell? ⟨w.heap.size + 1 + 1, 0, none⟩ = some (.int .i64 (st2.lo : Nat)) := (cell_of_block q1 0).trans rfl
        have x1 : wf.cell? ⟨w.heap.size + 1 + 1, 1, none⟩ = some (.int .i64 (st2.hi : Nat)) := (cell_of_block q1 1).trans rfl
        have x2 : wf.cell? ⟨w.heap.size + 1 + 1, 2, none⟩ = some (.int .i64 (st2.dl : Nat)) := (cell_of_block q1 2).trans rfl
        have x3 : wf.cell? ⟨w.heap.size + 1 + 1, 3, none⟩ = some (.slice oA2 on2 oc2) := (cell_of_block q1 3).trans rfl
        have x4 : wf.cell? ⟨w.heap.size + 1 + 1, 4, none⟩ = some (.int .i64 (st2.num : Nat)) := (cell_of_block q1 4).trans rfl
        have x5 : wf.cell? ⟨w.heap.size + 1 + 1, 5, none⟩ = some (.slice iA2 im2 ic2) := (cell_of_block q1 5).trans rfl
        refine bodyPost_ret (v := .tuple #[.int .i64 s, .agg #[.int .i64 (st2.lo : Nat), .int .i64 (st2.hi : Nat), .int .i64 (st2.dl : Nat), .slice oA2 on2 oc2, .int .i64 (st2.num : Nat), .slice iA2 im2 ic2]]) (by simp [results, Try.results25, go_sem, x0, x1, x2, x3, x4, x5]) rfl (by rw [← HF.out.1]; exact ⟨F2, cs2, oA2, on2, oc2, iA2, im2, ic2, rfl, q2⟩)
      · have hmi : (((zN : Int) % 2) == 0) = false := by rw [beq_eq_false_iff_ne]; omega
        have hs := HF.out.2.2 hm
        have HS := Lib.hid hs; clear hs hm
        go_wp2_with fail
        go_still_tail 7, (by kernel_rfl)
        change wpList _ _ _ _ _ wr.drew
        go_wp2_with fail
        rw [int_odd zN hZ, HS.out]
        obtain ⟨wf, ewf⟩ : ∃ wf : World, wf = (put6 wr (w.heap.size + 1 + 1) (.int .i64 (st2.lo : Nat)) (.int .i64 (st2.hi : Nat)) (.int .i64 (st2.dl : Nat)) (.slice oA2 on2 oc2) (.int .i64 (st2.num : Nat)) (.slice iA2 im2 ic2)).drew := ⟨_, rfl⟩
        obtain ⟨q1, q2⟩ := NW.done HR.out.1.nw ewf
        unfold put6 at ewf
        rw [← ewf]
        clear ewf y0 y1 y2 y3 y4 y5 x0 x1 x2 x3 x4 x5
        have x0 : wf.cell? ⟨w.heap.size + 1 + 1, 0, none⟩ = some (.int .i64 (st2.lo : Nat)) := (cell_of_block q1 0).trans rfl
        have x1 : wf.cell? ⟨w.heap.size + 1 + 1, 1, none⟩ = some (.int .i64 (st2.hi : Nat)) := (cell_of_block q1 1).trans rfl
        have x2 : wf.cell? ⟨w.heap.size + 1 + 1, 2, none⟩ = some (.int .i64 (st2.dl : Nat)) := (cell_of_block q1 2).trans rfl
        have x3 : wf.cell? ⟨w.heap.size + 1 + 1, 3, none⟩ = some (.slice oA2 on2 oc2) := (cell_of_block q1 3).trans rfl
        have x4 : wf.cell? ⟨w.heap.size + 1 + 1, 4, none⟩ = some (.int .i64 (st2.num : Nat)) := (cell_of_block q1 4).trans rfl
        have x5 : wf.cell? ⟨w.heap.size + 1 + 1, 5, none⟩ = some (.slice iA2 im2 ic2) := (cell_of_block q1 5).trans rfl
        refine bodyPost_ret (v := .tuple #[.int .i64 s, .agg #[.int .i64 (st2.lo : Nat), .int .i64 (st2.hi : Nat), .int .i64 (st2.dl : Nat), .slice oA2 on2 oc2, .int .i64 (st2.num : Nat), .slice iA2 im2 ic2]]) (by simp [results, Try.results25, go_sem, x0, x1, x2, x3, x4, x5]) rfl (by rw [← HF.out.1]; exact ⟨F2, cs2, oA2, on2, oc2, iA2, im2, ic2, rfl, q2⟩)
end
end Go.Proofs.Ytdekcilfkelhlaa
