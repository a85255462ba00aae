/- vm: VmApart's walk. -/
import Derived.Test.YtocbddajakbemaaMW
set_option linter.unusedVariables false
set_option linter.unusedSimpArgs false
namespace Go.Proofs.Ytocbddajakbemaa
open Go.RowKit

set_option maxRecDepth 100000 in
set_option maxHeartbeats 0 in
theorem vmApart_walk (cA : Option Addr) (cn cc : Nat) (L R Wr ID : Int) (code : List (Nat × Int)) (A : Option Addr) (n cap : Nat) (cs : List Cmp) (seed tick key qf by_ : Int) (w : World) (hp : PArg w cA cn cc code) (hx : XArg w A n cap cs)
    (s0 : 0 ≤ seed) (s1 : seed ≤ 18446744073709551615) (k0 : 0 ≤ key) (k1 : key ≤ 18446744073709551615) (r0 : 0 ≤ R) (r1 : R ≤ 4294967295) (q0 : 0 ≤ Wr) (q1 : Wr ≤ 4294967295) :
    Calls Try.prog 4 #[.agg #[.slice cA cn cc, .int .i64 L, .int .u32 R, .int .u32 Wr], .agg #[.int .i64 ID, .slice A n cap], .agg #[.int .u64 seed, .int .i64 tick, .int .u64 key, .int .i64 qf], .int .i64 by_] w fun e w' => e = .returned (.bool true) ∧ Below w.heap.size w w' := by
  obtain ⟨w3, e3, li, hb3⟩ := lawIn_new w (.slice cA cn cc) (.int .i64 L) (.int .u32 R) (.int .u32 Wr) (.int .i64 ID) (.slice A n cap) (.int .u64 seed) (.int .i64 tick) (.int .u64 key) (.int .i64 qf)
  obtain ⟨g, eg⟩ : ∃ g, g = w.heap.size := ⟨_, rfl⟩
  rw [← eg] at li
  have AW := fun W => awake_ok W
  have FO : ∀ W, Below w3.heap.size w3 W → Calls Try.prog 9 #[.agg #[.slice cA cn cc, .int .i64 L, .int .u32 R, .int .u32 Wr], .agg #[.int .i64 ID, .slice A n cap]] W fun e w' => ∃ b, e = .returned (.bool b) ∧ (b = true → FineX L R Wr code cs) ∧ Below W.heap.size W w' := by
    intro W hW
    have h1 := (hp.below hb3).below hW
    have h2 := (hx.below hb3).below hW
    exact fine_ok cA cn cc L R Wr ID code A n cap cs W h1.cn h1.op h1.at_ h2.len h2.at_
  have H := Lib.hid (And.intro hp (And.intro hx (And.intro li (And.intro hb3 (And.intro FO eg)))))
  have HB := Lib.hid (And.intro s0 (And.intro s1 (And.intro k0 (And.intro k1 (And.intro r0 (And.intro r1 (And.intro q0 q1)))))))
  clear hp hx li hb3 FO s0 s1 k0 k1 r0 r1 q0 q1
  go_enter Try.func4, Try.ntmps4
  go_upto_region 1 with fail
  rw [← e3, ← eg]
  clear e3 eg
  go_upto_region 3 with (go_at_call 8; refine (AW _).mono ?_; rintro e w4 ⟨rfl, hb⟩; have H4 := Lib.hid hb; clear hb)
  clear AW
  obtain ⟨⟨a0, a1, a2, a3⟩, ⟨b0, b1⟩, -⟩ := (H.out.2.2.1.below H4.out).facts
  have FO := H.out.2.2.2.2.1 w4 H4.out
  go_upto_if 29 with (go_at_call 9; refine FO.mono ?_; rintro e w5 ⟨b, rfl, hF, hb⟩; have H5 := Lib.hid (And.intro hF (H4.out.trans (hb.mono H4.out.size))); clear hF hb)
  clear FO
  clear a0 a1 a2 a3 b0 b1
  rcases b with _ | _
  · go_wp2_with fail
    go_ret
    exact ⟨rfl, H.out.2.2.2.1.trans (H5.out.2.mono H.out.2.2.2.1.size)⟩
  have hF := H5.out.1 rfl
  obtain ⟨L', rfl, hL⟩ := sound_locals hF.2.2.1
  have h4 := hF.1
  have h20 := hF.2.1
  obtain ⟨keep, ekeep⟩ : ∃ keep : Nat → Bool, keep = fun k => hasB (bits .or .u32 R Wr) k := ⟨_, rfl⟩
  have hkeep : ∀ k, keep k = (hasB R k || hasB Wr k) := fun k => by rw [ekeep]; exact hasB_or HB.out.2.2.2.2.1 HB.out.2.2.2.2.2.1 HB.out.2.2.2.2.2.2.1 HB.out.2.2.2.2.2.2.2 k
  obtain ⟨os, eos⟩ : ∃ os, os = cs.map (otherC keep by_) := ⟨_, rfl⟩
  obtain ⟨ps, eps⟩ : ∃ ps, ps = cs.filter (fun c => keep c.kind) := ⟨_, rfl⟩
  have lo : os.length = cs.length := by rw [eos]; simp
  have lp : ps.length ≤ cs.length := by rw [eps]; exact List.length_filter_le _ _
  have ko : ∀ c, c ∈ os → c.kind < 256 := by
    intro c hc
    rw [eos, List.mem_map] at hc
    obtain ⟨d, hd, rfl⟩ := hc
    rw [otherC_kind]; exact H.out.2.1.kind d hd
  have kp : ∀ c, c ∈ ps → c.kind < 256 := by
    intro c hc
    rw [eps] at hc
    exact H.out.2.1.kind c (List.mem_filter.1 hc).1
  have RO := fun (cs : List Cmp) (h1 : cs.length ≤ 1000) (h2 : ∀ c, c ∈ cs → c.kind < 256) => runs_ok (cA := cA) (cc := cc) (ID := ID) (cs := cs) (seed := seed) (tick := tick) (key := key) _ rfl hF.2.2.1 (by omega) H.out.1.cn H.out.1.op h1 h2 HB.out.1 HB.out.2.1 HB.out.2.2.1 HB.out.2.2.2.1 (fuelF qf) (fuelF_le qf)
  obtain ⟨r1, hr1, RUN1⟩ := RO cs (by omega) H.out.2.1.kind
  obtain ⟨r2, hr2, RUN2⟩ := RO os (by omega) ko
  obtain ⟨r3, hr3, RUN3⟩ := RO ps (by omega) kp
  obtain ⟨A1, ⟨ro, h2, en2, el2, A2⟩, ⟨rp, h3, en3, el3, A3⟩⟩ := apart_law hF.2.2.1 keep hkeep by_ hr1
  rw [← eos] at h2 A2
  rw [← eps] at h3 A3
  obtain rfl : ro = r2 := Option.some.inj (h2.symm.trans hr2)
  obtain rfl : rp = r3 := Option.some.inj (h3.symm.trans hr3)
  have ln1 := run_length hr1
  have ln2 := run_length hr2
  have ln3 := run_length hr3
  have kn1 : kinds (endC cs r1) = kinds cs := run_kinds _ _ _ hr1
  obtain ⟨f, ef⟩ : ∃ f, f = fuelF qf := ⟨_, rfl⟩
  have FU := fun W => fuel_ok qf W
  rw [← ef] at RUN1 RUN2 RUN3 FU
  obtain ⟨e1, ee1⟩ : ∃ e, e = endN r1 := ⟨_, rfl⟩
  obtain ⟨l1, el1⟩ : ∃ e, e = endF r1 := ⟨_, rfl⟩
  obtain ⟨c1, ec1⟩ : ∃ e, e = endC cs r1 := ⟨_, rfl⟩
  obtain ⟨c2, ec2⟩ : ∃ e, e = endC os ro := ⟨_, rfl⟩
  obtain ⟨c3, ec3⟩ : ∃ e, e = endC ps rp := ⟨_, rfl⟩
  have herr : e1 ≠ 0 → c1 = cs := fun h => by rw [ec1]; rw [ee1] at h; exact endC_bad h
  rw [en2, el2, ← ee1, ← el1, ← ec2] at RUN2
  rw [en3, el3, ← ee1, ← el1, ← ec3] at RUN3
  rw [← ee1, ← el1, ← ec1] at RUN1
  rw [← ec1] at A1 A2 A3 ln1 kn1
  rw [← ec2] at A2 ln2
  rw [← ec3] at A3 ln3
  have li5 := H.out.2.2.1.below H5.out.2
  have pa5 := (H.out.1.below H.out.2.2.2.1).below H5.out.2
  have xa5 := (H.out.2.1.below H.out.2.2.2.1).below H5.out.2
  have b5 := H.out.2.2.2.1.trans (H5.out.2.mono H.out.2.2.2.1.size)
  have HR := Lib.hid (And.intro RUN1 (And.intro RUN2 RUN3))
  have HA := Lib.hid (And.intro A1 (And.intro A2 A3))
  have HW := Lib.hid (And.intro li5 (And.intro pa5 (And.intro xa5 b5)))
  have HL := Lib.hid (And.intro ln1 (And.intro ln2 (And.intro lo (And.intro lp (And.intro h20 (And.intro eos (And.intro eps (And.intro ekeep (And.intro kn1 (And.intro herr (And.intro ln3 (And.intro ko kp))))))))))))
  have HFU := Lib.hid FU
  have RX : ∀ W, Bel w5 W → Calls Try.prog 10 #[.agg #[.slice cA cn cc, .int .i64 (L' : Nat), .int .u32 R, .int .u32 Wr], .agg #[.int .i64 ID, .slice A n cap], .agg #[.int .u64 seed, .int .i64 tick, .int .u64 key], .int .i64 (f : Nat)] W (Gives W ID e1 l1 c1) :=
    fun W hW => HR.out.1 W A n cap (HW.out.2.1.below hW.out) (HW.out.2.2.1.below hW.out)
  have HRX := Lib.hid RX
  clear hF hL h4 h20 hr1 hr2 hr3 RUN1 RUN2 RUN3 A1 A2 A3 ef ee1 el1 ec1 ec2 ec3 en2 el2 en3 el3 h2 h3 li5 pa5 xa5 b5 H4 H5 hkeep ekeep eos eps lo lp ko kp RO ln1 ln2 ln3 kn1 FU herr RX
  have FS5 : ∀ Wz, Bel w5 Wz → ((Wz.cell? ⟨g, 0, none⟩ = some (.slice cA cn cc) ∧ Wz.cell? ⟨g, 1, none⟩ = some (.int .i64 (L' : Nat)) ∧ Wz.cell? ⟨g, 2, none⟩ = some (.int .u32 R) ∧ Wz.cell? ⟨g, 3, none⟩ = some (.int .u32 Wr)) ∧ (Wz.cell? ⟨g + 1, 0, none⟩ = some (.int .i64 ID) ∧ Wz.cell? ⟨g + 1, 1, none⟩ = some (.slice A n cap)) ∧ (Wz.cell? ⟨g + 1 + 1, 0, none⟩ = some (.int .u64 seed) ∧ Wz.cell? ⟨g + 1 + 1, 1, none⟩ = some (.int .i64 tick) ∧ Wz.cell? ⟨g + 1 + 1, 2, none⟩ = some (.int .u64 key) ∧ Wz.cell? ⟨g + 1 + 1, 3, none⟩ = some (.int .i64 qf))) ∧ Bel w5 Wz := fun Wz hB => ⟨by have hW := hB.out; exact (HW.out.1.below hW).facts, hB⟩
  have HFS5 := Lib.hid FS5
  clear FS5
  go_upto_region 5 with fail
  have B0 : Bel w5 w5 := ⟨Below.refl _ _⟩
  go_cut [9, 10, 11] (fun p l e wx => XRan w5 ID l1 e1 c1 p l e wx)
  case first =>
    as_aux_lemma =>
    go_region_held3 (fun Wz => ((Wz.cell? ⟨g, 0, none⟩ = some (.slice cA cn cc) ∧ Wz.cell? ⟨g, 1, none⟩ = some (.int .i64 (L' : Nat)) ∧ Wz.cell? ⟨g, 2, none⟩ = some (.int .u32 R) ∧ Wz.cell? ⟨g, 3, none⟩ = some (.int .u32 Wr)) ∧ (Wz.cell? ⟨g + 1, 0, none⟩ = some (.int .i64 ID) ∧ Wz.cell? ⟨g + 1, 1, none⟩ = some (.slice A n cap)) ∧ (Wz.cell? ⟨g + 1 + 1, 0, none⟩ = some (.int .u64 seed) ∧ Wz.cell? ⟨g + 1 + 1, 1, none⟩ = some (.int .i64 tick) ∧ Wz.cell? ⟨g + 1 + 1, 2, none⟩ = some (.int .u64 key) ∧ Wz.cell? ⟨g + 1 + 1, 3, none⟩ = some (.int .i64 qf))) ∧ Bel w5 Wz)
      ((refine HFS5.out _ ?_; repeat (first | with_reducible assumption | with_reducible exact (And.right (by with_reducible assumption)) | with_reducible apply Bel.drew | with_reducible apply Bel.alloc | with_reducible refine Bel.set _ ?_ (Nat.le_refl _))))
      (first
      | (refine step_call 11 [.tmp 36] _ rfl rfl (fun _ _ => rfl) _ rfl (HFU.out _) ?_
         rintro e wq ⟨rfl, rfl⟩
         refine ⟨_, rfl, ?_⟩)
      | (refine step_call 10 [.tmp 31, .tmp 32, .tmp 34, .tmp 37] _ rfl rfl (fun _ _ => rfl) _ rfl (HRX.out _ (And.right (by with_reducible assumption))) ?_
         rintro e wr ⟨Ar, cr, rfl, hor, hbr⟩
         refine ⟨_, rfl, ?_⟩
         have hbw : Bel w5 wr := Bel.call (And.right (by with_reducible assumption)) hbr
         first
         | (have hby : wr.heap[w5.heap.size]? = some (.cells #[.int .i64 0, .slice none 0 0] 30 (0, 0)) := (hbr.block _ (by simp)).trans (heap_alloc_new _ _)
            obtain ⟨d0, d1, z0, z1⟩ := ent_cells hby
            have HBY := Lib.hid hby; clear hby)
         | skip
         have HO := Lib.hid (And.intro hor hbw); clear hor hbr))
    all_goals go_wp2_with fail
    all_goals go_meet
    all_goals first
      | (refine xran_alloc ?_ HO.out.1 HO.out.2.out; done)
      | (refine xran_alloc ?_ HO.out.1 HO.out.2.out; first | rfl | (simp; done))
      | (refine xran_set HBY.out (Nat.le_refl _) ?_ HO.out.1 HO.out.2.out; simp; done)
  case rest =>
  clear B0
  obtain ⟨q9, A9, p9, rfl, rfl, rfl, hX9, hb59, hq9⟩ := hcut
  obtain ⟨w6, e6⟩ : ∃ w6, w6 = wc := ⟨_, rfl⟩
  rw [← e6] at hX9 hb59 ⊢
  clear e6
  have ln1 : c1.length = n := HL.out.1.trans HW.out.2.2.1.len.symm
  have y0 := hX9.facts.1
  have y1 := hX9.facts.2
  rw [ln1] at y1
  have li6 := HW.out.1.below hb59
  have xa6 := HW.out.2.2.1.below hb59
  have pa6 := HW.out.2.1.below hb59
  have b6 := HW.out.2.2.2.trans (hb59.mono HW.out.2.2.2.size)
  obtain ⟨-, ⟨b0, b1⟩, -⟩ := li6.facts
  have SE : e1 ≠ 0 → Calls Try.prog 12 #[.agg #[.int .i64 ID, .slice A n cap], .agg #[.int .i64 ID, .slice A9 n p9]] w6 fun e w' => e = .returned (.bool true) ∧ Below w6.heap.size w6 w' := by
    intro h
    have hc := HL.out.2.2.2.2.2.2.2.2.2.1 h
    have h20 := HL.out.2.2.2.2.1
    have := sameEntity_ok ID ID A A9 cap p9 cs c1 true (by simp [hc]) w6 xa6.at_ hX9.at_ (by omega) (by rw [hc]; omega)
    rw [← xa6.len, ln1] at this
    exact this
  have H6 := Lib.hid (And.intro hX9 (And.intro li6 (And.intro pa6 (And.intro xa6 (And.intro b6 (And.intro ln1 hq9))))))
  clear hX9 li6 pa6 xa6 b6 ln1 hb59 hq9 HFS5
  go_upto_region 6 with fail
  go_cut [65] (fun v wx => v = .bool false ∧ Below w6.heap.size w6 wx)
  case first =>
    as_aux_lemma =>
    by_cases he : e1 = 0
    · subst he
      clear SE
      go_wp2_with fail
      go_meet
      exact ⟨rfl, Below.refl _ _⟩
    · have t1 : ((e1 : Int) != 0) = true := by simp; omega
      have SE := SE he
      clear he
      go_wp2_with (go_at_call 12; refine SE.mono ?_; rintro e w7 ⟨rfl, hb7⟩; have H7 := Lib.hid hb7; clear hb7)
      go_meet
      exact ⟨rfl, H7.out⟩
  case rest =>
  obtain ⟨rfl, hb67⟩ := hcut
  obtain ⟨w7, e7⟩ : ∃ w7, w7 = wc := ⟨_, rfl⟩
  rw [← e7] at hb67 ⊢
  have li7 := H6.out.2.1.below hb67
  obtain ⟨-, ⟨b0, b1⟩, -⟩ := li7.facts
  have H7 := Lib.hid (And.intro (H6.out.1.below hb67) (And.intro li7 (And.intro (H6.out.2.2.1.below hb67) (And.intro (H6.out.2.2.2.1.below hb67) (And.intro (H6.out.2.2.2.2.1.trans (hb67.mono H6.out.2.2.2.2.1.size)) (H6.out.2.2.2.2.2.1))))))
  clear e7 li7 hb67 SE y0 y1 H6
  obtain ⟨w8, w10, e8, e10, hs8, hb78, API⟩ := apI_new w7 ID
  obtain ⟨q, eq⟩ : ∃ q, q = w7.heap.size := ⟨_, rfl⟩
  have HE10 := Lib.hid e10
  have HE8 := Lib.hid hs8
  clear e10 hs8
  go_upto_region 9 with fail
  rw [← e8]
  clear e8
  obtain ⟨-, ⟨b0, b1⟩, -⟩ := (H7.out.2.1.below hb78).facts
  go_upto_region 10 with fail
  rw [← HE10.out, HE8.out, ← eq]
  rw [← eq] at API
  clear HE10 HE8 hb78 b0 b1
  have HQ := Lib.hid eq
  have LX : ∀ W, Below q w7 W → W.cell? ⟨g + 1, 1, none⟩ = some (.slice A n cap) := fun W hW => by rw [HQ.out] at hW; exact (H7.out.2.1.below hW).facts.2.1.2
  have b1 := LX _ API.hb
  have HAPI := Lib.hid API
  clear API eq
  go_wp2_with fail
  go_loopg [14] n (fun gh iv wr => ∃ (i : Nat) (vo vp : Value), gh + i = n ∧ iv = .int .i64 (i : Nat) ∧ ApI w7 wr q ID vo vp ((cs.take i).map (otherC keep by_)) ((cs.take i).filter fun c => keep c.kind))
  case atStart => exact ⟨0, .slice none 0 0, .slice none 0 0, by simp, rfl, HAPI.out⟩
  case round =>
  obtain ⟨i, vo, vp, hi, rfl, API⟩ := hrel
  obtain ⟨W, eW⟩ : ∃ W, W = wr := ⟨_, rfl⟩
  rw [← eW] at API ⊢
  clear eW b1
  have b1 := LX _ API.hb
  have HI := Lib.hid (And.intro hi API)
  rcases gk with _ | k
  · as_aux_lemma =>
    have hin : i = n := by omega
    have htn : cs.take i = cs := List.take_of_length_le (by have := H7.out.2.2.2.1.len; omega)
    rw [htn, ← HL.out.2.2.2.2.2.1, ← HL.out.2.2.2.2.2.2.1] at API
    obtain ⟨Ao, co, rfl, XO⟩ := own_xarg API.oo HL.out.2.2.2.2.2.2.2.2.2.2.2.1
    obtain ⟨Ap, cp, rfl, XP⟩ := own_xarg API.op HL.out.2.2.2.2.2.2.2.2.2.2.2.2
    have bW : Below w7.heap.size w7 W := by rw [← HQ.out]; exact API.hb
    have ko := API.ko
    have kp := API.kp
    obtain ⟨no, eno⟩ : ∃ k, k = os.length := ⟨_, rfl⟩
    obtain ⟨np, enp⟩ : ∃ k, k = ps.length := ⟨_, rfl⟩
    rw [← eno] at ko XO
    rw [← enp] at kp XP
    have li11 := H7.out.2.1.below bW
    have HO11 := Lib.hid (And.intro XO (And.intro XP (And.intro ko (And.intro kp (And.intro bW li11)))))
    have HNO := Lib.hid (And.intro eno enp)
    have i2 : decide (i < n) = false := decide_eq_false (by omega)
    clear hi htn API XO XP bW ko kp li11 eno enp HI
    subst hin
    have RX2 : ∀ W', Bel W W' → Calls Try.prog 10 #[.agg #[.slice cA cn cc, .int .i64 (L' : Nat), .int .u32 R, .int .u32 Wr], .agg #[.int .i64 ID, .slice Ao no co], .agg #[.int .u64 seed, .int .i64 tick, .int .u64 key], .int .i64 (f : Nat)] W' (Gives W' ID e1 l1 c2) :=
      fun W' hW => HR.out.2.1 W' Ao no co ((H7.out.2.2.1.below HO11.out.2.2.2.2.1).below hW.out) (HO11.out.1.below hW.out)
    have HRX2 := Lib.hid RX2
    clear RX2
    go_upto_region 21 with fail
    clear b1 i2
    have FS21 : ∀ Wz, Bel W Wz → ((Wz.cell? ⟨g, 0, none⟩ = some (.slice cA cn cc) ∧ Wz.cell? ⟨g, 1, none⟩ = some (.int .i64 (L' : Nat)) ∧ Wz.cell? ⟨g, 2, none⟩ = some (.int .u32 R) ∧ Wz.cell? ⟨g, 3, none⟩ = some (.int .u32 Wr)) ∧ (Wz.cell? ⟨q, 0, none⟩ = some (.int .i64 ID) ∧ Wz.cell? ⟨q, 1, none⟩ = some (.slice Ao no co)) ∧ (Wz.cell? ⟨g + 1 + 1, 0, none⟩ = some (.int .u64 seed) ∧ Wz.cell? ⟨g + 1 + 1, 1, none⟩ = some (.int .i64 tick) ∧ Wz.cell? ⟨g + 1 + 1, 2, none⟩ = some (.int .u64 key) ∧ Wz.cell? ⟨g + 1 + 1, 3, none⟩ = some (.int .i64 qf))) ∧ Bel W Wz := fun Wz hB => ⟨by have hW := hB.out; exact ⟨(HO11.out.2.2.2.2.2.below hW).facts.1, ⟨(cell_of_block ((hW.block _ (lt_of_block HO11.out.2.2.1)).trans HO11.out.2.2.1) 0).trans rfl, (cell_of_block ((hW.block _ (lt_of_block HO11.out.2.2.1)).trans HO11.out.2.2.1) 1).trans rfl⟩, (HO11.out.2.2.2.2.2.below hW).facts.2.2⟩, hB⟩
    have HFS21 := Lib.hid FS21
    clear FS21
    go_upto_region 21 with fail
    have B0 : Bel W W := ⟨Below.refl _ _⟩
    go_cut [16, 17, 18] (fun p l e wx => XRan W ID l1 e1 c2 p l e wx)
    case first =>
      as_aux_lemma =>
      go_region_held3 (fun Wz => ((Wz.cell? ⟨g, 0, none⟩ = some (.slice cA cn cc) ∧ Wz.cell? ⟨g, 1, none⟩ = some (.int .i64 (L' : Nat)) ∧ Wz.cell? ⟨g, 2, none⟩ = some (.int .u32 R) ∧ Wz.cell? ⟨g, 3, none⟩ = some (.int .u32 Wr)) ∧ (Wz.cell? ⟨q, 0, none⟩ = some (.int .i64 ID) ∧ Wz.cell? ⟨q, 1, none⟩ = some (.slice Ao no co)) ∧ (Wz.cell? ⟨g + 1 + 1, 0, none⟩ = some (.int .u64 seed) ∧ Wz.cell? ⟨g + 1 + 1, 1, none⟩ = some (.int .i64 tick) ∧ Wz.cell? ⟨g + 1 + 1, 2, none⟩ = some (.int .u64 key) ∧ Wz.cell? ⟨g + 1 + 1, 3, none⟩ = some (.int .i64 qf))) ∧ Bel W Wz)
        ((refine HFS21.out _ ?_; repeat (first | with_reducible assumption | with_reducible exact (And.right (by with_reducible assumption)) | with_reducible apply Bel.drew | with_reducible apply Bel.alloc | with_reducible refine Bel.set _ ?_ (Nat.le_refl _))))
        (first
        | (refine step_call 11 [.tmp 149] _ rfl rfl (fun _ _ => rfl) _ rfl (HFU.out _) ?_
           rintro e wq ⟨rfl, rfl⟩
           refine ⟨_, rfl, ?_⟩)
        | (refine step_call 10 [.tmp 144, .tmp 145, .tmp 147, .tmp 150] _ rfl rfl (fun _ _ => rfl) _ rfl (HRX2.out _ (And.right (by with_reducible assumption))) ?_
           rintro e wr ⟨Ar, cr, rfl, hor, hbr⟩
           refine ⟨_, rfl, ?_⟩
           have hbw : Bel W wr := Bel.call (And.right (by with_reducible assumption)) hbr
           first
           | (have hby : wr.heap[W.heap.size]? = some (.cells #[.int .i64 0, .slice none 0 0] 30 (0, 0)) := (hbr.block _ (by simp)).trans (heap_alloc_new _ _)
              obtain ⟨d0, d1, z0, z1⟩ := ent_cells hby
              have HBY := Lib.hid hby; clear hby)
           | skip
           have HO := Lib.hid (And.intro hor hbw); clear hor hbr))
      all_goals go_wp2_with fail
      all_goals go_meet
      all_goals first
        | (refine xran_alloc ?_ HO.out.1 HO.out.2.out; done)
        | (refine xran_alloc ?_ HO.out.1 HO.out.2.out; first | rfl | (simp; done))
        | (refine xran_set HBY.out (Nat.le_refl _) ?_ HO.out.1 HO.out.2.out; simp; done)
    case rest =>
    clear B0
    obtain ⟨q16, A16, p16, rfl, rfl, rfl, hX16, hb12, hq16⟩ := hcut
    obtain ⟨w12, e12⟩ : ∃ w12, w12 = wc := ⟨_, rfl⟩
    rw [← e12] at hX16 hb12 ⊢
    have H12 := Lib.hid (And.intro hX16 hb12)
    clear e12 hX16 hb12 hq16
    have RX3 : ∀ W', Bel w12 W' → Calls Try.prog 10 #[.agg #[.slice cA cn cc, .int .i64 (L' : Nat), .int .u32 R, .int .u32 Wr], .agg #[.int .i64 ID, .slice Ap np cp], .agg #[.int .u64 seed, .int .i64 tick, .int .u64 key], .int .i64 (f : Nat)] W' (Gives W' ID e1 l1 c3) :=
      fun W' hW => HR.out.2.2 W' Ap np cp (((H7.out.2.2.1.below HO11.out.2.2.2.2.1).below H12.out.2).below hW.out) ((HO11.out.2.1.below H12.out.2).below hW.out)
    have HRX3 := Lib.hid RX3
    clear RX3
    have kp12 := (H12.out.2.block _ (lt_of_block HO11.out.2.2.2.1)).trans HO11.out.2.2.2.1
    have HKP := Lib.hid kp12
    clear kp12
    have FS22 : ∀ Wz, Bel w12 Wz → ((Wz.cell? ⟨g, 0, none⟩ = some (.slice cA cn cc) ∧ Wz.cell? ⟨g, 1, none⟩ = some (.int .i64 (L' : Nat)) ∧ Wz.cell? ⟨g, 2, none⟩ = some (.int .u32 R) ∧ Wz.cell? ⟨g, 3, none⟩ = some (.int .u32 Wr)) ∧ (Wz.cell? ⟨q + 1, 0, none⟩ = some (.int .i64 ID) ∧ Wz.cell? ⟨q + 1, 1, none⟩ = some (.slice Ap np cp)) ∧ (Wz.cell? ⟨g + 1 + 1, 0, none⟩ = some (.int .u64 seed) ∧ Wz.cell? ⟨g + 1 + 1, 1, none⟩ = some (.int .i64 tick) ∧ Wz.cell? ⟨g + 1 + 1, 2, none⟩ = some (.int .u64 key) ∧ Wz.cell? ⟨g + 1 + 1, 3, none⟩ = some (.int .i64 qf))) ∧ Bel w12 Wz := fun Wz hB => ⟨by have hW := hB.out; exact ⟨((HO11.out.2.2.2.2.2.below H12.out.2).below hW).facts.1, ⟨(cell_of_block ((hW.block _ (lt_of_block HKP.out)).trans HKP.out) 0).trans rfl, (cell_of_block ((hW.block _ (lt_of_block HKP.out)).trans HKP.out) 1).trans rfl⟩, ((HO11.out.2.2.2.2.2.below H12.out.2).below hW).facts.2.2⟩, hB⟩
    have HFS22 := Lib.hid FS22
    clear FS22
    go_upto_region 22 with fail
    have B0 : Bel w12 w12 := ⟨Below.refl _ _⟩
    go_cut [19, 20, 21] (fun p l e wx => XRan w12 ID l1 e1 c3 p l e wx)
    case first =>
      as_aux_lemma =>
      go_region_held3 (fun Wz => ((Wz.cell? ⟨g, 0, none⟩ = some (.slice cA cn cc) ∧ Wz.cell? ⟨g, 1, none⟩ = some (.int .i64 (L' : Nat)) ∧ Wz.cell? ⟨g, 2, none⟩ = some (.int .u32 R) ∧ Wz.cell? ⟨g, 3, none⟩ = some (.int .u32 Wr)) ∧ (Wz.cell? ⟨q + 1, 0, none⟩ = some (.int .i64 ID) ∧ Wz.cell? ⟨q + 1, 1, none⟩ = some (.slice Ap np cp)) ∧ (Wz.cell? ⟨g + 1 + 1, 0, none⟩ = some (.int .u64 seed) ∧ Wz.cell? ⟨g + 1 + 1, 1, none⟩ = some (.int .i64 tick) ∧ Wz.cell? ⟨g + 1 + 1, 2, none⟩ = some (.int .u64 key) ∧ Wz.cell? ⟨g + 1 + 1, 3, none⟩ = some (.int .i64 qf))) ∧ Bel w12 Wz)
        ((refine HFS22.out _ ?_; repeat (first | with_reducible assumption | with_reducible exact (And.right (by with_reducible assumption)) | with_reducible apply Bel.drew | with_reducible apply Bel.alloc | with_reducible refine Bel.set _ ?_ (Nat.le_refl _))))
        (first
        | (refine step_call 11 [.tmp 161] _ rfl rfl (fun _ _ => rfl) _ rfl (HFU.out _) ?_
           rintro e wq ⟨rfl, rfl⟩
           refine ⟨_, rfl, ?_⟩)
        | (refine step_call 10 [.tmp 156, .tmp 157, .tmp 159, .tmp 162] _ rfl rfl (fun _ _ => rfl) _ rfl (HRX3.out _ (And.right (by with_reducible assumption))) ?_
           rintro e wr ⟨Ar, cr, rfl, hor, hbr⟩
           refine ⟨_, rfl, ?_⟩
           have hbw : Bel w12 wr := Bel.call (And.right (by with_reducible assumption)) hbr
           first
           | (have hby : wr.heap[w12.heap.size]? = some (.cells #[.int .i64 0, .slice none 0 0] 30 (0, 0)) := (hbr.block _ (by simp)).trans (heap_alloc_new _ _)
              obtain ⟨d0, d1, z0, z1⟩ := ent_cells hby
              have HBY := Lib.hid hby; clear hby)
           | skip
           have HO := Lib.hid (And.intro hor hbw); clear hor hbr))
      all_goals go_wp2_with fail
      all_goals go_meet
      all_goals first
        | (refine xran_alloc ?_ HO.out.1 HO.out.2.out; done)
        | (refine xran_alloc ?_ HO.out.1 HO.out.2.out; first | rfl | (simp; done))
        | (refine xran_set HBY.out (Nat.le_refl _) ?_ HO.out.1 HO.out.2.out; simp; done)
    case rest =>
    clear B0
    obtain ⟨q19, A19, p19, rfl, rfl, rfl, hX19, hb13, hq19⟩ := hcut
    obtain ⟨w13, e13⟩ : ∃ w13, w13 = wc := ⟨_, rfl⟩
    rw [← e13] at hX19 hb13 ⊢
    clear e13
    have l2 : c2.length = i := by rw [HL.out.2.1, HL.out.2.2.1]; exact H7.out.2.2.2.1.len.symm
    have l3 : c3.length = np := by rw [HL.out.2.2.2.2.2.2.2.2.2.2.1]; exact HNO.out.2.symm
    have lno : no = i := by rw [HNO.out.1, HL.out.2.2.1]; exact H7.out.2.2.2.1.len.symm
    subst lno
    have hb713 : Below w7.heap.size w7 w13 := (HO11.out.2.2.2.2.1.trans (H12.out.2.mono HO11.out.2.2.2.2.1.size)).trans (hb13.mono (Nat.le_trans HO11.out.2.2.2.2.1.size H12.out.2.size))
    have hbW13 : Below W.heap.size W w13 := H12.out.2.trans (hb13.mono H12.out.2.size)
    have X9 := H7.out.1.below hb713
    have X16 := H12.out.1.below hb13
    have li13 := H7.out.2.1.below hb713
    have ko13 := (hbW13.block _ (lt_of_block HO11.out.2.2.1)).trans HO11.out.2.2.1
    have kp13 := (hbW13.block _ (lt_of_block HO11.out.2.2.2.1)).trans HO11.out.2.2.2.1
    have xo13 := HO11.out.1.below hbW13
    have xx13 := H7.out.2.2.2.1.below hb713
    have HZ := Lib.hid (And.intro X9 (And.intro X16 (And.intro hX19 (And.intro li13 (And.intro ko13 (And.intro kp13 (And.intro xo13 (And.intro xx13 (H7.out.2.2.2.2.1.trans (hb713.mono H7.out.2.2.2.2.1.size))))))))))
    have HLN := Lib.hid (And.intro l2 l3)
    have LF : ∀ W', Below w13.heap.size w13 W' → (W'.cell? ⟨g + 1, 1, none⟩ = some (.slice A no cap) ∧ W'.cell? ⟨q9, 1, none⟩ = some (.slice A9 no p9) ∧ W'.cell? ⟨q16, 1, none⟩ = some (.slice A16 no p16) ∧ W'.cell? ⟨q19, 1, none⟩ = some (.slice A19 np p19) ∧ W'.cell? ⟨q, 1, none⟩ = some (.slice Ao no co) ∧ W'.cell? ⟨q + 1, 1, none⟩ = some (.slice Ap np cp) ∧ W'.cell? ⟨g, 2, none⟩ = some (.int .u32 R) ∧ W'.cell? ⟨g, 3, none⟩ = some (.int .u32 Wr)) := by
      intro W' hW
      have y9 := (HZ.out.1.below hW).facts.2
      rw [H7.out.2.2.2.2.2] at y9
      have y16 := (HZ.out.2.1.below hW).facts.2
      rw [HLN.out.1] at y16
      have y19 := (HZ.out.2.2.1.below hW).facts.2
      rw [HLN.out.2] at y19
      have lf := (HZ.out.2.2.2.1.below hW).facts
      have o1 := (hW.block _ (lt_of_block HZ.out.2.2.2.2.1)).trans HZ.out.2.2.2.2.1
      have p1 := (hW.block _ (lt_of_block HZ.out.2.2.2.2.2.1)).trans HZ.out.2.2.2.2.2.1
      exact ⟨lf.2.1.2, y9, y16, y19, (ent_cells o1).2.1, (ent_cells p1).2.1, lf.1.2.2.1, lf.1.2.2.2⟩
    have HLF := Lib.hid LF
    clear LF X9 X16 hX19 li13 ko13 kp13 xo13 xx13 hb713 hbW13 hb13 hq19 l2 l3 LX
    obtain ⟨a1, a2, a3, a4, a5, a6, a7, a8⟩ := HLF.out w13 (Below.refl _ _)
    go_upto_region 25 with fail
    clear a1 a2 a3 a4 a5 a6 a7 a8
    go_wp2_with fail
    go_loopg [22, 23] no (fun gh av iv wr => ∃ (i : Nat), gh + i = no ∧ av = .int .i64 ((((c1.take i).filter fun c => keep c.kind).length : Nat) : Int) ∧ iv = .int .i64 (i : Nat) ∧ Below w13.heap.size w13 wr)
    case atStart => exact ⟨0, by simp, by simp, rfl, Below.refl _ _⟩
    case round =>
    obtain ⟨i, hi, rfl, rfl, hW5⟩ := hrel
    obtain ⟨W5, e5⟩ : ∃ W5, W5 = wr := ⟨_, rfl⟩
    rw [← e5] at hW5 ⊢
    clear e5
    obtain ⟨a1, a2, a3, a4, a5, a6, a7, a8⟩ := HLF.out W5 hW5
    obtain ⟨at_, eat⟩ : ∃ at_, at_ = ((c1.take i).filter fun c => keep c.kind).length := ⟨_, rfl⟩
    rw [← eat]
    have HI2 := Lib.hid (And.intro hi (And.intro hW5 eat))
    rcases gk with _ | k2
    · have i2 : decide (i < no) = false := decide_eq_false (by omega)
      clear hi hW5 eat
      go_wp2_with fail
      go_ret
      exact ⟨rfl, HZ.out.2.2.2.2.2.2.2.2.trans (HI2.out.2.1.mono HZ.out.2.2.2.2.2.2.2.2.size)⟩
    have hin : i < no := by omega
    have i0 : (0 : Int) ≤ (i : Int) := by omega
    have i1 : (i : Int) < (no : Int) := by omega
    have i2 : decide (i < no) = true := decide_eq_true hin
    have hn20 := HL.out.2.2.2.2.1
    have hxl := HZ.out.2.2.2.2.2.2.2.1.len
    have u1 : wrap64 ((i : Int) + 1) = (i : Int) + 1 := by unfold wrap64; omega
    have lc1 := H7.out.2.2.2.2.2
    obtain ⟨c, hc⟩ : ∃ c, cs[i]? = some c := ⟨_, List.getElem?_eq_getElem (by omega)⟩
    obtain ⟨d, hd⟩ : ∃ d, c1[i]? = some d := ⟨_, List.getElem?_eq_getElem (by omega)⟩
    obtain ⟨z, hz⟩ : ∃ z, c2[i]? = some z := ⟨_, List.getElem?_eq_getElem (by have := HLN.out.1; omega)⟩
    obtain ⟨o, ho⟩ : ∃ o, os[i]? = some o := ⟨_, List.getElem?_eq_getElem (by have := HNO.out.1; omega)⟩
    have hkd := kinds_at HL.out.2.2.2.2.2.2.2.2.1 hc hd
    obtain ⟨-, hzd, hzo⟩ := HA.out.2.1.at_ i d z o hd hz ho
    have hcX := HZ.out.2.2.2.2.2.2.2.1.at_.below hW5 rfl
    obtain ⟨ab, ao, eA⟩ := hcX.base (by omega)
    rw [eA] at hcX a1
    obtain ⟨c0, -, -, -, -⟩ := hcX.cells hc
    have hatl : at_ ≤ i := by
      rw [eat]
      have := List.length_filter_le (fun c : Cmp => keep c.kind) (c1.take i)
      rw [List.length_take] at this
      omega
    obtain ⟨or0, or1⟩ := or_bounds HB.out.2.2.2.2.1 HB.out.2.2.2.2.2.1 HB.out.2.2.2.2.2.2.1 HB.out.2.2.2.2.2.2.2
    have HSK := fun W' => has_ok (bits .or .u32 R Wr) or0 or1 c.kind (H7.out.2.2.2.1.kind c (List.mem_of_getElem? hc)) W'
    rw [show hasB (bits .or .u32 R Wr) c.kind = keep c.kind from by rw [HL.out.2.2.2.2.2.2.2.1]] at HSK
    obtain ⟨X, eX⟩ : ∃ X, X = bits .or .u32 R Wr := ⟨_, rfl⟩
    rw [← eX] at HSK
    have eX2 := eX.symm
    have HX2 := Lib.hid (And.intro hc (And.intro hd (And.intro hz (And.intro ho (And.intro hkd (And.intro hzd (And.intro hzo (And.intro hin (And.intro hatl hn20)))))))))
    clear hi hW5 eat hin hn20 lc1 hc hd hz ho hkd hzd hzo hcX eA hatl or0 or1 eX hxl
    cases hk : keep c.kind
    · rw [hk] at HSK
      have HHS := Lib.hid HSK
      have HK := Lib.hid hk
      clear hk HSK
      go_upto_region 29 with fail
      go_cut [222] (fun v wx => v = .bool true ∧ Below W5.heap.size W5 wx)
      case first =>
        as_aux_lemma =>
        go_quiet ((go_at_call 13; exact quiet_of_eq (HHS.out _)))
        go_wp2_with fail
        go_meet
        exact ⟨rfl, below_drewN (Below.refl _ _) _⟩
      case rest =>
      obtain ⟨rfl, hbx⟩ := hcut
      obtain ⟨W6, e6⟩ : ∃ W6, W6 = wc := ⟨_, rfl⟩
      rw [← e6] at hbx ⊢
      clear e6 a1 a2 a3 a4 a5 a6 a7 a8 c0 eX2
      have hb6 : Below w13.heap.size w13 W6 := HI2.out.2.1.trans (hbx.mono HI2.out.2.1.size)
      obtain ⟨a1, a2, a3, a4, a5, a6, a7, a8⟩ := HLF.out W6 hb6
      obtain rfl : z = o := HX2.out.2.2.2.2.2.2.1 (by rw [HX2.out.2.2.2.2.1]; exact HK.out)
      have hcZ := (HZ.out.2.1.below hb6).at_
      obtain ⟨zb, zo, eZ⟩ := hcZ.base (by have := HLN.out.1; have := HX2.out.2.2.2.2.2.2.2.1; omega)
      have hcO := HZ.out.2.2.2.2.2.2.1.at_.below hb6 rfl
      obtain ⟨ob, oo, eO⟩ := hcO.base (by have := HNO.out.1; have := HX2.out.2.2.2.2.2.2.2.1; omega)
      rw [eZ] at hcZ a3
      rw [eO] at hcO a5
      obtain ⟨s0, s1, s2, s3, s4⟩ := hcZ.cells HX2.out.2.2.1
      obtain ⟨o0, o1, o2, o3, o4⟩ := hcO.cells HX2.out.2.2.2.1
      have hE : ∀ W, (Op.equalIn 9999 42 (.agg #[.int .i64 z.v0, .int .i64 z.v1, .int .i64 z.v2, .int .i64 z.v3]) (.agg #[.int .i64 z.v0, .int .i64 z.v1, .int .i64 z.v2, .int .i64 z.v3])).run Try.prog W = .ok true W := fun W => by rw [v4_eq]; simp
      have H6b := Lib.hid hb6
      clear hbx hb6 hcZ hcO eZ eO a1 a2 a4 a6 a7 a8
      go_upto_region 30 with fail
      go_region
      all_goals go_wp2_with fail
      all_goals (go_roundg k2)
      all_goals first
        | (have := HI2.out.1; omega)
        | (refine ⟨i + 1, by have := HI2.out.1; omega, ?_, by go_num, H6b.out.drew⟩
           rw [filter_next HX2.out.2.1, ← HI2.out.2.2, if_neg (by rw [HX2.out.2.2.2.2.1, HK.out]; decide)]
           rfl)
    · rw [hk] at HSK
      have HHS := Lib.hid HSK
      have HK := Lib.hid hk
      clear hk HSK
      go_upto_region 29 with fail
      go_cut [222] (fun v wx => v = .bool false ∧ Below W5.heap.size W5 wx)
      case first =>
        as_aux_lemma =>
        go_quiet ((go_at_call 13; exact quiet_of_eq (HHS.out _)))
        go_wp2_with fail
        go_meet
        exact ⟨rfl, below_drewN (Below.refl _ _) _⟩
      case rest =>
      obtain ⟨rfl, hbx⟩ := hcut
      obtain ⟨W6, e6⟩ : ∃ W6, W6 = wc := ⟨_, rfl⟩
      rw [← e6] at hbx ⊢
      clear e6 a1 a2 a3 a4 a5 a6 a7 a8 c0 eX2
      have hb6 : Below w13.heap.size w13 W6 := HI2.out.2.1.trans (hbx.mono HI2.out.2.1.size)
      obtain ⟨a1, a2, a3, a4, a5, a6, a7, a8⟩ := HLF.out W6 hb6
      have hkt : keep d.kind = true := by rw [HX2.out.2.2.2.2.1]; exact HK.out
      have ezd : z = d := HX2.out.2.2.2.2.2.1 hkt
      have hz := HX2.out.2.2.1
      rw [ezd] at hz
      have hwp : c3[at_]? = some d := by
        rw [HI2.out.2.2, HA.out.2.2]
        exact filter_at HX2.out.2.1 hkt
      have hcZ := (HZ.out.2.1.below hb6).at_
      obtain ⟨zb, zo, eZ⟩ := hcZ.base (by have := HLN.out.1; have := HX2.out.2.2.2.2.2.2.2.1; omega)
      have hcY := (HZ.out.1.below hb6).at_
      obtain ⟨yb, yo, eY⟩ := hcY.base (by have := H7.out.2.2.2.2.2; have := HX2.out.2.2.2.2.2.2.2.1; omega)
      have hatlt : at_ < c3.length := (List.getElem?_eq_some_iff.1 hwp).1
      have hcP := (HZ.out.2.2.1.below hb6).at_
      obtain ⟨pb, po, eP⟩ := hcP.base (by omega)
      rw [eZ] at hcZ a3
      rw [eY] at hcY a2
      rw [eP] at hcP a4
      obtain ⟨s0, s1, s2, s3, s4⟩ := hcZ.cells hz
      obtain ⟨y0, y1, y2, y3, y4⟩ := hcY.cells HX2.out.2.1
      obtain ⟨p0, p1, p2, p3, p4⟩ := hcP.cells hwp
      have j0 : (0 : Int) ≤ (at_ : Int) := by omega
      have j1 : (at_ : Int) < (np : Int) := by have := HLN.out.2; omega
      have u2 : wrap64 ((at_ : Int) + 1) = (at_ : Int) + 1 := by have := HX2.out.2.2.2.2.2.2.2.2; have := HX2.out.2.2.2.2.2.2.2.1; have := HZ.out.2.2.2.2.2.2.2.1.len; unfold wrap64; omega
      have hE : ∀ W, (Op.equalIn 9999 42 (.agg #[.int .i64 d.v0, .int .i64 d.v1, .int .i64 d.v2, .int .i64 d.v3]) (.agg #[.int .i64 d.v0, .int .i64 d.v1, .int .i64 d.v2, .int .i64 d.v3])).run Try.prog W = .ok true W := fun W => by rw [v4_eq]; simp
      have FS32 : ∀ W', Bel W6 W' → ((W'.cell? ⟨q16, 1, none⟩ = some (.slice (some ⟨zb, zo, none⟩) no p16)) ∧ (W'.cell? ⟨q9, 1, none⟩ = some (.slice (some ⟨yb, yo, none⟩) no p9)) ∧ (W'.cell? ⟨q19, 1, none⟩ = some (.slice (some ⟨pb, po, none⟩) np p19)) ∧ (W'.cell? ⟨zb, zo + i * 5, none⟩ = some (.int .u8 (d.kind : Nat)) ∧ W'.cell? ⟨zb, zo + i * 5 + 1, none⟩ = some (.int .i64 d.v0) ∧ W'.cell? ⟨zb, zo + i * 5 + 2, none⟩ = some (.int .i64 d.v1) ∧ W'.cell? ⟨zb, zo + i * 5 + 3, none⟩ = some (.int .i64 d.v2) ∧ W'.cell? ⟨zb, zo + i * 5 + 4, none⟩ = some (.int .i64 d.v3)) ∧ (W'.cell? ⟨yb, yo + i * 5, none⟩ = some (.int .u8 (d.kind : Nat)) ∧ W'.cell? ⟨yb, yo + i * 5 + 1, none⟩ = some (.int .i64 d.v0) ∧ W'.cell? ⟨yb, yo + i * 5 + 2, none⟩ = some (.int .i64 d.v1) ∧ W'.cell? ⟨yb, yo + i * 5 + 3, none⟩ = some (.int .i64 d.v2) ∧ W'.cell? ⟨yb, yo + i * 5 + 4, none⟩ = some (.int .i64 d.v3)) ∧ (W'.cell? ⟨pb, po + at_ * 5, none⟩ = some (.int .u8 (d.kind : Nat)) ∧ W'.cell? ⟨pb, po + at_ * 5 + 1, none⟩ = some (.int .i64 d.v0) ∧ W'.cell? ⟨pb, po + at_ * 5 + 2, none⟩ = some (.int .i64 d.v1) ∧ W'.cell? ⟨pb, po + at_ * 5 + 3, none⟩ = some (.int .i64 d.v2) ∧ W'.cell? ⟨pb, po + at_ * 5 + 4, none⟩ = some (.int .i64 d.v3))) ∧ Bel W6 W' := by
        intro W' hB
        have cl : ∀ {a : Addr} {v : Value}, W6.cell? a = some v → W'.cell? a = some v := fun h => (hB.out.cell (World.block_lt_of_cell? _ _ h)).trans h
        exact ⟨⟨cl a3, cl a2, cl a4, ⟨cl s0, cl s1, cl s2, cl s3, cl s4⟩, ⟨cl y0, cl y1, cl y2, cl y3, cl y4⟩, cl p0, cl p1, cl p2, cl p3, cl p4⟩, hB⟩
      have HF32 := Lib.hid FS32
      have H6b := Lib.hid (And.intro hb6 hkt)
      have B0 : Bel W6 W6 := ⟨Below.refl _ _⟩
      clear FS32 hbx hb6 hcZ hcY hcP eZ eY eP hz hwp ezd hkt hatlt a1 a2 a3 a4 a5 a6 a7 a8 s0 s1 s2 s3 s4 y0 y1 y2 y3 y4 p0 p1 p2 p3 p4
      go_upto_region 32 with fail
      go_region_held3 (fun W' => ((W'.cell? ⟨q16, 1, none⟩ = some (.slice (some ⟨zb, zo, none⟩) no p16)) ∧ (W'.cell? ⟨q9, 1, none⟩ = some (.slice (some ⟨yb, yo, none⟩) no p9)) ∧ (W'.cell? ⟨q19, 1, none⟩ = some (.slice (some ⟨pb, po, none⟩) np p19)) ∧ (W'.cell? ⟨zb, zo + i * 5, none⟩ = some (.int .u8 (d.kind : Nat)) ∧ W'.cell? ⟨zb, zo + i * 5 + 1, none⟩ = some (.int .i64 d.v0) ∧ W'.cell? ⟨zb, zo + i * 5 + 2, none⟩ = some (.int .i64 d.v1) ∧ W'.cell? ⟨zb, zo + i * 5 + 3, none⟩ = some (.int .i64 d.v2) ∧ W'.cell? ⟨zb, zo + i * 5 + 4, none⟩ = some (.int .i64 d.v3)) ∧ (W'.cell? ⟨yb, yo + i * 5, none⟩ = some (.int .u8 (d.kind : Nat)) ∧ W'.cell? ⟨yb, yo + i * 5 + 1, none⟩ = some (.int .i64 d.v0) ∧ W'.cell? ⟨yb, yo + i * 5 + 2, none⟩ = some (.int .i64 d.v1) ∧ W'.cell? ⟨yb, yo + i * 5 + 3, none⟩ = some (.int .i64 d.v2) ∧ W'.cell? ⟨yb, yo + i * 5 + 4, none⟩ = some (.int .i64 d.v3)) ∧ (W'.cell? ⟨pb, po + at_ * 5, none⟩ = some (.int .u8 (d.kind : Nat)) ∧ W'.cell? ⟨pb, po + at_ * 5 + 1, none⟩ = some (.int .i64 d.v0) ∧ W'.cell? ⟨pb, po + at_ * 5 + 2, none⟩ = some (.int .i64 d.v1) ∧ W'.cell? ⟨pb, po + at_ * 5 + 3, none⟩ = some (.int .i64 d.v2) ∧ W'.cell? ⟨pb, po + at_ * 5 + 4, none⟩ = some (.int .i64 d.v3))) ∧ Bel W6 W')
        ((refine HF32.out _ ?_; repeat (first | with_reducible assumption | with_reducible exact (And.right (by with_reducible assumption)) | with_reducible apply Bel.drew)))
        (fail)
      all_goals go_wp2_with fail
      all_goals (go_roundg k2)
      all_goals first
        | (have := HI2.out.1; omega)
        | (refine ⟨i + 1, by have := HI2.out.1; omega, ?_, by go_num, H6b.out.1.drew⟩
           rw [filter_next HX2.out.2.1, ← HI2.out.2.2, if_pos H6b.out.2]
           go_num)
  as_aux_lemma =>
  have hin : i < n := by omega
  have i0 : (0 : Int) ≤ (i : Int) := by omega
  have i1 : (i : Int) < (n : Int) := by omega
  have i2 : decide (i < n) = true := decide_eq_true hin
  have u1 : wrap64 ((i : Int) + 1) = (i : Int) + 1 := by have := HL.out.2.2.2.2.1; have := H7.out.2.2.2.1.len; unfold wrap64; omega
  obtain ⟨c, hc⟩ : ∃ c, cs[i]? = some c := ⟨_, List.getElem?_eq_getElem (by have := H7.out.2.2.2.1.len; omega)⟩
  obtain ⟨d, hd⟩ : ∃ d, c1[i]? = some d := ⟨_, List.getElem?_eq_getElem (by have := H7.out.2.2.2.2.2; omega)⟩
  have hkd := kinds_at HL.out.2.2.2.2.2.2.2.2.1 hc hd
  have bW : Below w7.heap.size w7 W := by rw [← HQ.out]; exact API.hb
  have hcA := H7.out.2.2.2.1.at_.below bW rfl
  obtain ⟨ab, ao, eA⟩ := hcA.base (by have := H7.out.2.2.2.1.len; omega)
  rw [eA] at hcA b1
  obtain ⟨c0, c1', c2', c3', c4'⟩ := hcA.cells hc
  have HJ0 := API.box c
  have HX := Lib.hid (And.intro hc (And.intro hd (And.intro hkd (And.intro bW hin))))
  clear hi API hin hc hd hkd bW hcA eA
  go_upto_region 14 with fail
  obtain ⟨W2, e2⟩ : ∃ W2, W2 = W.alloc (.cells #[.int .u8 (c.kind : Nat), .int .i64 c.v0, .int .i64 c.v1, .int .i64 c.v2, .int .i64 c.v3] 44 (0, 0)) := ⟨_, rfl⟩
  rw [← e2] at HJ0 ⊢
  have hbW2 : Below W.heap.size W W2 := by rw [e2]; exact (Below.refl _ _).alloc (Nat.le_refl _) _
  obtain ⟨b, eb⟩ : ∃ b, b = W.heap.size := ⟨_, rfl⟩
  rw [← eb] at HJ0 ⊢
  have bW2 : Below w7.heap.size w7 W2 := HX.out.2.2.2.1.trans (hbW2.mono HX.out.2.2.2.1.size)
  have HJ := Lib.hid (And.intro HJ0 bW2)
  clear HJ0 e2 eb hbW2 bW2 c0 c1' c2' c3' c4' b1
  have FS14 : ∀ W', Bel W2 W' → (W'.cell? ⟨q9, 1, none⟩ = some (.slice A9 n p9) ∧ W'.cell? ⟨g, 3, none⟩ = some (.int .u32 Wr) ∧ (W'.cell? ⟨b, 0, none⟩ = some (.int .u8 (c.kind : Nat)) ∧ W'.cell? ⟨b, 1, none⟩ = some (.int .i64 c.v0) ∧ W'.cell? ⟨b, 2, none⟩ = some (.int .i64 c.v1) ∧ W'.cell? ⟨b, 3, none⟩ = some (.int .i64 c.v2) ∧ W'.cell? ⟨b, 4, none⟩ = some (.int .i64 c.v3))) ∧ Bel W2 W' := by
    intro W' hB
    have hB2 : Below w7.heap.size w7 W' := HJ.out.2.trans (hB.out.mono HJ.out.2.size)
    have h9 := (H7.out.1.below hB2).facts.2
    rw [H7.out.2.2.2.2.2] at h9
    exact ⟨⟨h9, (H7.out.2.1.below hB2).facts.1.2.2.2, (HJ.out.1.below hB.out).facts.1⟩, hB⟩
  have HFS14 := Lib.hid FS14
  clear FS14
  have B0 : Bel W2 W2 := ⟨Below.refl _ _⟩
  have HS := fun W' => has_ok Wr HB.out.2.2.2.2.2.2.1 HB.out.2.2.2.2.2.2.2 c.kind (H7.out.2.2.2.1.kind c (List.mem_of_getElem? HX.out.1)) W'
  go_cut [109] (fun v wx => v = .bool false ∧ Below W2.heap.size W2 wx)
  case first =>
    as_aux_lemma =>
    have hcD := H7.out.1.at_.below HJ.out.2 rfl
    obtain ⟨db, dO, eD⟩ := hcD.base (by have := H7.out.2.2.2.2.2; have := HX.out.2.2.2.2; omega)
    rw [eD] at hcD
    obtain ⟨d0, d1, d2, d3, d4⟩ := hcD.cells HX.out.2.1
    rw [HX.out.2.2.1] at d0
    obtain ⟨ck, eck⟩ : ∃ ck, ck = c.kind := ⟨_, rfl⟩
    subst eD
    have FSD : ∀ W', Bel W2 W' → (W'.cell? ⟨q9, 1, none⟩ = some (.slice (some ⟨db, dO, none⟩) n p9) ∧ W'.cell? ⟨g, 3, none⟩ = some (.int .u32 Wr) ∧ (W'.cell? ⟨b, 0, none⟩ = some (.int .u8 (c.kind : Nat)) ∧ W'.cell? ⟨b, 1, none⟩ = some (.int .i64 c.v0) ∧ W'.cell? ⟨b, 2, none⟩ = some (.int .i64 c.v1) ∧ W'.cell? ⟨b, 3, none⟩ = some (.int .i64 c.v2) ∧ W'.cell? ⟨b, 4, none⟩ = some (.int .i64 c.v3)) ∧
        (W'.cell? ⟨db, dO + i * 5, none⟩ = some (.int .u8 (c.kind : Nat)) ∧ W'.cell? ⟨db, dO + i * 5 + 1, none⟩ = some (.int .i64 d.v0) ∧ W'.cell? ⟨db, dO + i * 5 + 2, none⟩ = some (.int .i64 d.v1) ∧ W'.cell? ⟨db, dO + i * 5 + 3, none⟩ = some (.int .i64 d.v2) ∧ W'.cell? ⟨db, dO + i * 5 + 4, none⟩ = some (.int .i64 d.v3))) ∧ Bel W2 W' := by
      intro W' hB
      obtain ⟨⟨h9, h3, hb⟩, -⟩ := HFS14.out W' hB
      have cl : ∀ {a : Addr} {v : Value}, W2.cell? a = some v → W'.cell? a = some v := fun h => (hB.out.cell (World.block_lt_of_cell? _ _ h)).trans h
      exact ⟨⟨h9, h3, hb, cl d0, cl d1, cl d2, cl d3, cl d4⟩, hB⟩
    have HFSD := Lib.hid FSD
    clear FSD d0 d1 d2 d3 d4 eck hcD
    cases hw : hasB Wr c.kind
    · have hdc : d = c := by
        have := HA.out.1 i c HX.out.1 hw
        rw [HX.out.2.1] at this
        exact Option.some.inj this
      subst hdc
      rw [hw] at HS
      have hE : ∀ W, (Op.equalIn 9999 42 (.agg #[.int .i64 d.v0, .int .i64 d.v1, .int .i64 d.v2, .int .i64 d.v3]) (.agg #[.int .i64 d.v0, .int .i64 d.v1, .int .i64 d.v2, .int .i64 d.v3])).run Try.prog W = .ok true W := fun W => by rw [v4_eq]; simp
      have HHS := Lib.hid HS
      clear hw HS
      go_region_held3 (fun W' => (W'.cell? ⟨q9, 1, none⟩ = some (.slice (some ⟨db, dO, none⟩) n p9) ∧ W'.cell? ⟨g, 3, none⟩ = some (.int .u32 Wr) ∧ (W'.cell? ⟨b, 0, none⟩ = some (.int .u8 (d.kind : Nat)) ∧ W'.cell? ⟨b, 1, none⟩ = some (.int .i64 d.v0) ∧ W'.cell? ⟨b, 2, none⟩ = some (.int .i64 d.v1) ∧ W'.cell? ⟨b, 3, none⟩ = some (.int .i64 d.v2) ∧ W'.cell? ⟨b, 4, none⟩ = some (.int .i64 d.v3)) ∧
        (W'.cell? ⟨db, dO + i * 5, none⟩ = some (.int .u8 (d.kind : Nat)) ∧ W'.cell? ⟨db, dO + i * 5 + 1, none⟩ = some (.int .i64 d.v0) ∧ W'.cell? ⟨db, dO + i * 5 + 2, none⟩ = some (.int .i64 d.v1) ∧ W'.cell? ⟨db, dO + i * 5 + 3, none⟩ = some (.int .i64 d.v2) ∧ W'.cell? ⟨db, dO + i * 5 + 4, none⟩ = some (.int .i64 d.v3))) ∧ Bel W2 W')
        ((refine HFSD.out _ ?_; repeat (first | with_reducible assumption | with_reducible exact (And.right (by with_reducible assumption)) | with_reducible apply Bel.drew)))
        ((refine step_callG 13 [.tmp 95, .tmp 97] _ rfl rfl (fun _ _ => rfl) _ rfl (HHS.out _) ?_
          rintro e wq ⟨rfl, rfl⟩
          refine ⟨_, rfl, ?_⟩))
      all_goals go_wp2_with fail
      all_goals go_meet
      all_goals exact ⟨rfl, (Below.refl _ _).drew⟩
    · rw [hw] at HS
      have HHS := Lib.hid HS
      obtain ⟨⟨h9, h3, ⟨f0, -, -, -, -⟩, ⟨g0, -, -, -, -⟩⟩, -⟩ := HFSD.out W2 ⟨Below.refl _ _⟩
      clear hw HS B0
      go_quiet ((go_at_call 13; exact quiet_of_eq (HHS.out _)))
      go_wp2_with fail
      go_meet
      exact ⟨rfl, below_drewN (Below.refl _ _) _⟩
  case rest =>
  obtain ⟨rfl, hbx⟩ := hcut
  obtain ⟨W3, e3⟩ : ∃ W3, W3 = wc := ⟨_, rfl⟩
  rw [← e3] at hbx ⊢
  clear e3 HFS14 HS B0
  have J3 := HJ.out.1.below hbx
  have bW3 : Below w7.heap.size w7 W3 := HJ.out.2.trans (hbx.mono HJ.out.2.size)
  obtain ⟨⟨f0, f1, f2, f3, f4⟩, ⟨z1, z4⟩, ⟨oI, oV⟩, ⟨pI, pV⟩⟩ := J3.facts
  obtain ⟨⟨-, -, a2, a3⟩, -, -⟩ := (H7.out.2.1.below bW3).facts
  obtain ⟨or0, or1⟩ := or_bounds HB.out.2.2.2.2.1 HB.out.2.2.2.2.2.1 HB.out.2.2.2.2.2.2.1 HB.out.2.2.2.2.2.2.2
  have HSK := fun W' => has_ok (bits .or .u32 R Wr) or0 or1 c.kind (H7.out.2.2.2.1.kind c (List.mem_of_getElem? HX.out.1)) W'
  rw [show hasB (bits .or .u32 R Wr) c.kind = keep c.kind from by rw [HL.out.2.2.2.2.2.2.2.1]] at HSK
  obtain ⟨X, eX⟩ : ∃ X, X = bits .or .u32 R Wr := ⟨_, rfl⟩
  rw [← eX] at HSK
  have eX2 := eX.symm
  have HJ3 := Lib.hid (And.intro J3 bW3)
  have htk : cs.take (i + 1) = cs.take i ++ [c] := by rw [List.take_add_one, HX.out.1]; rfl
  obtain ⟨osi, eosi⟩ : ∃ l, l = (cs.take i).map (otherC keep by_) := ⟨_, rfl⟩
  obtain ⟨psi, epsi⟩ : ∃ l, l = (cs.take i).filter (fun c => keep c.kind) := ⟨_, rfl⟩
  have lo20 : osi.length ≤ 20 := by rw [eosi, List.length_map, List.length_take]; have := HL.out.2.2.2.2.1; omega
  have lp20 : psi.length ≤ 20 := by
    have h1 : psi.length ≤ (cs.take i).length := by rw [epsi]; exact List.length_filter_le _ _
    rw [List.length_take] at h1
    have := HL.out.2.2.2.2.1; omega
  rw [← eosi, ← epsi] at HJ3
  obtain ⟨i9, hi9, hz0, hz1, hz2⟩ := info_parts infoComp
  have HC9 := Lib.hid (And.intro hi9 (And.intro hz0 (And.intro hz1 hz2)))
  have HT := Lib.hid (And.intro htk (And.intro eosi (And.intro epsi (And.intro lo20 lp20))))
  clear J3 bW3 hbx or0 or1 eX htk eosi epsi lo20 lp20 hi9 hz0 hz1 hz2 HJ
  go_upto_if 117 with (go_at_call 13; refine (HSK _).mono ?_; rintro e wq ⟨rfl, rfl⟩)
  clear HSK a2 a3 eX2
  go_cut [] (fun wx => ∃ vp', ApJ w7 wx q ID vo vp' osi ((cs.take (i + 1)).filter fun c => keep c.kind) b (otherC keep by_ c) ∧ Below w7.heap.size w7 wx)
  case first =>
    as_aux_lemma =>
    cases hk : keep c.kind
    · obtain ⟨s0, es0⟩ : ∃ s, s = wrap64 (c.v0 + by_) := ⟨_, rfl⟩
      obtain ⟨s3, es3⟩ : ∃ s, s = wrap64 (c.v3 + 1) := ⟨_, rfl⟩
      have HES := Lib.hid (And.intro es0 (And.intro es3 hk))
      have e0' := es0.symm
      have e3' := es3.symm
      clear es0 es3 hk
      go_wp2_with fail
      go_meet
      have h1 := (HJ3.out.1.set0 s0).set3 s3
      have eo : otherC keep by_ c = { { c with v0 := s0 } with v3 := s3 } := by
        unfold otherC
        rw [if_neg (by rw [HES.out.2.2]; decide), HES.out.1, HES.out.2.1]
      have ef : (cs.take (i + 1)).filter (fun c => keep c.kind) = psi := by
        rw [HT.out.1, List.filter_append, ← HT.out.2.2.1, List.filter_cons, if_neg (by rw [HES.out.2.2]; decide)]
        simp
      rw [eo, ef]
      have hq2 := h1.q2
      have hqe := HQ.out
      exact ⟨vp, h1, (HJ3.out.2.setCell (by show w7.heap.size ≤ b; omega) _).setCell (by show w7.heap.size ≤ b; omega) _⟩
    · have HK := Lib.hid hk
      clear hk
      obtain ⟨nw, enw⟩ : ∃ nw, nw = c.cells := ⟨_, rfl⟩
      have HN1 := Lib.hid (show nw.length = 1 * 5 from by rw [enw]; rfl)
      have HN2 := Lib.hid (show ∀ j u, nw[j]? = some u → (W3.alloc (.cells #[.int .u8 (c.kind : Nat), .int .i64 c.v0, .int .i64 c.v1, .int .i64 c.v2, .int .i64 c.v3] 44 (0, 0))).cell? ((⟨W3.heap.size, 0, none⟩ : Addr).add j) = some u from by rw [enw]; exact World.news_of_block (heap_alloc_new _ _))
      have HN3 := Lib.hid (show ∀ u ∈ nw, u.oneCell' = true from by rw [enw]; have := comps_one [c]; simpa [comps] using this)
      have HN4 := Lib.hid (show psi.length + 1 ≤ maxLen ∧ (psi.length + 1) * 40 ≤ 140737488355328 from by have := HT.out.2.2.2.2; unfold maxLen; omega)
      have HN5 := Lib.hid (show ∀ O, q + 2 ≤ (W3.alloc O).heap.size from fun O => by have := lt_of_block HJ3.out.1.i.kp; simp; omega)
      have HO := Lib.hid (show ∀ O, (W3.alloc O).ownsRow (q + 2) 44 5 vp psi.length (comps psi) from fun O => HJ3.out.1.i.op.alloc O)
      have HEN := Lib.hid enw
      have n1 : some (q + 1) ≠ vp.ownBlock := fun e => by have := (own_lt HJ3.out.1.i.op e.symm).2; omega
      have HN6 := Lib.hid n1
      clear enw n1
      go_wp2_with (at_builtin; refine wpList_append_own_at _ rfl (.tmp 119) (.tmp 121) 28 rfl (q + 2) 44 i9 _ 5 40 Try.underlying28 HC9.out.1 HC9.out.2.1 HC9.out.2.2.1 HC9.out.2.2.2 rfl (by decide) vp psi.length (comps psi) rfl (HO.out _) ⟨W3.heap.size, 0, none⟩ 1 1 nw rfl HN1.out HN2.out HN3.out HN4.out.1 HN4.out.2 (HN5.out _) ?_)
      intro v8 w8 hown8 hg8 _ hat8
      have hs3 : q + 1 < W3.heap.size := lt_of_block HJ3.out.1.i.kp
      have k8 : w8.heap[q + 1]? = some (.cells #[.int .i64 ID, vp] 30 (0, 0)) := (hg8.block _ (by simp; omega) HN6.out).trans ((Below.heap_alloc _ _ _ hs3).trans HJ3.out.1.i.kp)
      obtain ⟨-, p8, -, y8⟩ := ent_cells k8
      obtain ⟨vb, vc, ev8⟩ := own_some hown8
      subst ev8
      have HV := Lib.hid (And.intro hown8 (And.intro hg8 hat8)); clear hown8 hg8 hat8 k8 hs3
      go_wp2_with fail
      go_meet
      obtain ⟨hown8, hg8, hat8⟩ := HV.out
      rw [HEN.out] at hown8
      have h1 := HJ3.out.1.part hg8 hown8 (by rw [World.size_alloc]; exact hat8)
      have eo : otherC keep by_ c = c := by unfold otherC; rw [if_pos HK.out]
      have ef : (cs.take (i + 1)).filter (fun c => keep c.kind) = psi ++ [c] := by
        rw [HT.out.1, List.filter_append, ← HT.out.2.2.1, List.filter_cons, if_pos HK.out]
        simp
      rw [eo, ef]
      exact ⟨_, h1, by rw [← HQ.out]; exact h1.i.hb⟩
  case rest =>
  obtain ⟨vp', J4, bW4⟩ := hcut
  obtain ⟨W4, e4⟩ : ∃ W4, W4 = wc := ⟨_, rfl⟩
  rw [← e4] at J4 bW4 ⊢
  obtain ⟨d', ed'⟩ : ∃ d', d' = otherC keep by_ c := ⟨_, rfl⟩
  rw [← ed'] at J4
  clear e4 f0 f1 f2 f3 f4 z1 z4 oI oV pI pV
  obtain ⟨⟨f0, f1, f2, f3, f4⟩, ⟨z1, z4⟩, ⟨oI, oV⟩, ⟨pI, pV⟩⟩ := J4.facts
  obtain ⟨nw, enw⟩ : ∃ nw, nw = d'.cells := ⟨_, rfl⟩
  have HN1 := Lib.hid (show nw.length = 1 * 5 from by rw [enw]; rfl)
  have HN2 := Lib.hid (show ∀ j u, nw[j]? = some u → (W4.alloc (.cells #[.int .u8 (d'.kind : Nat), .int .i64 d'.v0, .int .i64 d'.v1, .int .i64 d'.v2, .int .i64 d'.v3] 44 (0, 0))).cell? ((⟨W4.heap.size, 0, none⟩ : Addr).add j) = some u from by rw [enw]; exact World.news_of_block (heap_alloc_new _ _))
  have HN3 := Lib.hid (show ∀ u ∈ nw, u.oneCell' = true from by rw [enw]; have := comps_one [d']; simpa [comps] using this)
  have HN4 := Lib.hid (show osi.length + 1 ≤ maxLen ∧ (osi.length + 1) * 40 ≤ 140737488355328 from by have := HT.out.2.2.2.1; unfold maxLen; omega)
  have HN5 := Lib.hid (show ∀ O, q + 2 ≤ (W4.alloc O).heap.size from fun O => by have := lt_of_block J4.i.kp; simp; omega)
  have HO := Lib.hid (show ∀ O, (W4.alloc O).ownsRow (q + 2) 44 5 vo osi.length (comps osi) from fun O => J4.i.oo.alloc O)
  have HN6 := Lib.hid (show some q ≠ vo.ownBlock from fun e => by have := (own_lt J4.i.oo e.symm).2; omega)
  have HEN := Lib.hid (And.intro enw ed')
  have HJ4 := Lib.hid J4
  clear enw ed' J4 bW4
  go_wp2_with (at_builtin; refine wpList_append_own_at _ rfl (.tmp 138) (.tmp 140) 28 rfl (q + 2) 44 i9 _ 5 40 Try.underlying28 HC9.out.1 HC9.out.2.1 HC9.out.2.2.1 HC9.out.2.2.2 rfl (by decide) vo osi.length (comps osi) rfl (HO.out _) ⟨W4.heap.size, 0, none⟩ 1 1 nw rfl HN1.out HN2.out HN3.out HN4.out.1 HN4.out.2 (HN5.out _) ?_)
  intro v8 w8 hown8 hg8 _ hat8
  have hs3 : q < W4.heap.size := lt_of_block HJ4.out.i.ko
  have k8 : w8.heap[q]? = some (.cells #[.int .i64 ID, vo] 30 (0, 0)) := (hg8.block _ (by simp; omega) HN6.out).trans ((Below.heap_alloc _ _ _ hs3).trans HJ4.out.i.ko)
  obtain ⟨-, p8, -, y8⟩ := ent_cells k8
  obtain ⟨vb, vc, ev8⟩ := own_some hown8
  subst ev8
  have HV := Lib.hid (And.intro hown8 (And.intro hg8 hat8)); clear hown8 hg8 hat8 k8 hs3
  go_wp2_with fail
  obtain ⟨hown8, hg8, hat8⟩ := HV.out
  rw [HEN.out.1] at hown8
  have h1 := HJ4.out.othr hg8 hown8 (by rw [World.size_alloc]; exact hat8)
  have eo : (cs.take (i + 1)).map (otherC keep by_) = osi ++ [d'] := by
    rw [HT.out.1, List.map_append, ← HT.out.2.1, HEN.out.2]; rfl
  rw [← eo] at h1
  have HR1 := Lib.hid h1
  clear h1 eo hown8 hg8 hat8
  go_roundg k
  case measure => have := HI.out.1; omega
  case rel => exact ⟨i + 1, _, vp', by have := HI.out.1; omega, by go_num, HR1.out⟩
end Go.Proofs.Ytocbddajakbemaa
