/- vm: VmLoop's walk. -/
import Derived.Test.YtocbddajakbemaaGreatOA
import Derived.Test.YtocbddajakbemaaGreatNZ
import Derived.Test.YtocbddajakbemaaGreatMU
import Derived.Deep.CutBlock
import Derived.Deep.DeepCutAuto
set_option linter.unusedVariables false
set_option linter.unusedSimpArgs false
set_option linter.unusedSimpArgs false
namespace Go.Proofs.YtocbddajakbemaaGreat
section
open Go.RowKit
theorem unrollF_none : ∀ (l : List S0), (∀ (i : Nat) s, l[i]? = some s → s.op ≠ 5) → unrollF l = l := by
  intro l
  induction l with
  | nil => intro _; rfl
  | cons s l ih =>
    intro h
    unfold unrollF
    rw [if_neg (h 0 s rfl), ih (fun i t ht => h (i + 1) t (by simpa using ht))]
theorem unrollF_at : ∀ (l : List S0) (j : Nat) (s : S0), l[j]? = some s → s.op = 5 → (∀ (i : Nat) t, i < j → l[i]? = some t → t.op ≠ 5) → unrollF l = l.set j (unrollS s) := by
  intro l
  induction l with
  | nil => intro j s h; simp at h
  | cons x l ih =>
    intro j s h h5 hn
    unfold unrollF
    rcases j with _ | j
    · simp at h
      subst h
      rw [if_pos h5]; rfl
    · rw [if_neg (hn 0 x (by omega) rfl), ih j s (by simpa using h) h5 (fun i t hi ht => hn (i + 1) t (by omega) (by simpa using ht))]
      rfl
theorem szUnroll (s : S0) : szS (unrollS s) ≤ 3 + 2 * szS s := by
  have e : szS s = 1 + s.nm.size / 30 + szEs s.e + szSs s.b + szSs s.els := by cases s; simp only [szS]; rfl
  have e2 : szS (unrollS s) = 1 + (⟨#[]⟩ : ByteArray).size / 30 + szEs s.e + szSs [blockS s.b, s] + szSs [] := by unfold unrollS; simp only [szS]
  have : (⟨#[]⟩ : ByteArray).size / 30 = 0 := by decide
  rw [e2, this]
  simp only [szSs, szBlock]
  omega
theorem szUnrollF : ∀ l : List S0, szSs (unrollF l) ≤ 3 + 2 * szSs l := by
  intro l
  induction l with
  | nil => simp [unrollF, szSs]
  | cons s l ih =>
    unfold unrollF
    by_cases c : s.op = 5
    · rw [if_pos c]
      have := szUnroll s
      simp only [szSs]; omega
    · rw [if_neg c]
      simp only [szSs]; omega
theorem unrollF_len : ∀ l : List S0, (unrollF l).length = l.length := by
  intro l
  induction l with
  | nil => rfl
  | cons s l ih =>
    unfold unrollF
    by_cases c : s.op = 5
    · rw [if_pos c]; rfl
    · rw [if_neg c, List.length_cons, ih, List.length_cons]
theorem BoIn.put {w W : World} {g : Nat} {ID : Int} {A : Option Addr} {n cap : Nat} {seed tick key : Int} (h : BoIn w W g ID A n cap seed tick key) {rb : Nat} (o : Nat) (a b c d e f : Value) (hr : g + 1 < rb) : BoIn w (put6o W rb o a b c d e f) g ID A n cap seed tick key :=
  ⟨(put6o_ne _ _ _ _ _ _ _ _ _ (by omega)).trans h.x, (put6o_ne _ _ _ _ _ _ _ _ _ (by omega)).trans h.v, put6o_below _ _ _ _ _ _ _ h.b (by omega)⟩
set_option maxRecDepth 100000 in
set_option maxHeartbeats 8000000 in
theorem vmLoop_walk (l : List S0) (LA : Option Addr) (ln lc : Nat) (ID : Int) (A : Option Addr) (n cap : Nat) (cs : List Cmp) (seed tick key : Int) (w : World) (hlq : ln = l.length) (hl : ln ≤ 9223372036854775807) (hlz : ∀ d, SsZ w d LA l)
    (hx : XArg w A n cap cs) (s0 : 0 ≤ seed) (s1 : seed ≤ 18446744073709551615) (k0 : 0 ≤ key) (k1 : key ≤ 18446744073709551615) :
    Calls Tryz.prog 4 #[.slice LA ln lc, .agg #[.int .i64 ID, .slice A n cap], .agg #[.int .u64 seed, .int .i64 tick, .int .u64 key]] w fun e w' => e = .returned (.bool true) ∧ Below w.heap.size w w' := by
  obtain ⟨w1, g, e1, eg, B1⟩ := boIn_new w ID A n cap seed tick key
  have AW := fun W => awake_ok W
  have Z1 : ∀ W, BoIn w W g ID A n cap seed tick key → Calls Tryz.prog 8 #[.slice LA ln lc, .int .i64 300] W fun e w' => ∃ k : Int, e = .returned (.int .i64 k) ∧ (k ≤ 300 → szSs l ≤ 300) ∧ BoIn w w' g ID A n cap seed tick key := by
    intro W hW
    rw [hlq]
    refine (Size_ok l LA lc 300 W (hlq ▸ hl) (fun d => (hlz d).below (eg ▸ hW.b)) (by omega) (by omega)).mono ?_
    rintro e w' ⟨k, rfl, h0, h1, hb⟩
    exact ⟨k, rfl, fun h => by have := h1 h; omega, hW.below hb⟩
  have H := Lib.hid (And.intro B1 (And.intro eg (And.intro hlq (And.intro hlz (And.intro hx (And.intro s0 (And.intro s1 (And.intro k0 k1))))))))
  have HZ := Lib.hid Z1
  clear B1 hlq hl hlz hx s0 s1 k0 k1 Z1
  go_enter Tryz.func4, Tryz.ntmps4
  go_upto_region 1 with fail
  rw [← e1, ← eg]
  clear e1 eg
  go_upto_region 3 with (go_at_call 7; refine (AW _).mono ?_; rintro e w2 ⟨rfl, hb2⟩; have B2 := Lib.hid (H.out.1.below hb2); clear hb2)
  clear AW
  have F1 := HZ.out w2 B2.out
  go_upto_if 26 with (go_at_call 8; with_reducible refine F1.mono ?_; rintro e w3 ⟨q1, rfl, hq1, B3⟩; obtain ⟨⟨b0, b1⟩, -⟩ := B3.facts; have HQ1 := Lib.hid (And.intro hq1 B3); clear hq1 B3 F1; rcases i1 : decide (300 < q1) with _ | _; rcases i3 : decide ((20 : Int) < (n : Int)) with _ | _)
  · have hs1 := HQ1.out.1 (by have := of_decide_eq_false i1; omega)
    have hn := of_decide_eq_false i3
    have B3 := HQ1.out.2
    have hl3 : ∀ d, SsAt w3 d LA l := fun d => (((H.out.2.2.2.1 d).to (by omega)).below (H.out.2.1 ▸ B3.b))
    have hcl : cs.length ≤ 20 := by have := H.out.2.2.2.2.1.len; omega
    have hlen := szSs_len l
    have CP := CopyStmts_ok l LA lc w3 (by omega) hl3
    rw [← H.out.2.2.1] at CP
    have RL : ∀ W, BoIn w W g ID A n cap seed tick key → Calls Tryz.prog 11 #[.slice LA ln lc, .agg #[.int .i64 ID, .slice A n cap], .agg #[.int .u64 seed, .int .i64 tick, .int .u64 key]] W (LrunR W l ID seed tick key cs) := fun W hW =>
      lrun_any l LA ln lc ID A n cap cs seed tick key W (runArg_of H.out.2.2.1 (by omega) (fun d => ((H.out.2.2.2.1 d).to (by omega)).below (H.out.2.1 ▸ hW.b)) (H.out.2.2.2.2.1.below (H.out.2.1 ▸ hW.b)) (by omega) H.out.2.2.2.2.2.1 H.out.2.2.2.2.2.2.1 H.out.2.2.2.2.2.2.2.1 H.out.2.2.2.2.2.2.2.2)
    have RM : ∀ W MA mc, BoIn w W g ID A n cap seed tick key → (∀ d, SsAt W d MA (unrollF l)) → Calls Tryz.prog 11 #[.slice MA ln mc, .agg #[.int .i64 ID, .slice A n cap], .agg #[.int .u64 seed, .int .i64 tick, .int .u64 key]] W (LrunR W (unrollF l) ID seed tick key cs) := fun W MA mc hW hd =>
      lrun_any (unrollF l) MA ln mc ID A n cap cs seed tick key W (runArg_of (by rw [unrollF_len]; exact H.out.2.2.1) (by have := szUnrollF l; omega) hd (H.out.2.2.2.2.1.below (H.out.2.1 ▸ hW.b)) (by omega) H.out.2.2.2.2.2.1 H.out.2.2.2.2.2.2.1 H.out.2.2.2.2.2.2.2.1 H.out.2.2.2.2.2.2.2.2)
    have HR := Lib.hid (And.intro RL (And.intro RM (And.intro hcl hlen)))
    have hs300 := Lib.hid hs1
    clear hs1 hn hl3 hcl hlen RL RM i1 i3 b0 b1 B2 HZ B3
    go_upto_region 6 with (go_at_call 13; refine CP.mono ?_; rintro e w4 ⟨v4, recs4, rfl, h41, h42, h43, hb4⟩; have M4 := Lib.hid (And.intro (show MRow w4 w3.heap.size v4 l from ⟨recs4, h41, h42, h43⟩) (And.intro hb4 (HQ1.out.2.below hb4))); clear h41 h42 h43 hb4)
    clear CP
    obtain ⟨Am, mc, rfl, -⟩ := M4.out.1.read
    obtain ⟨B, eB⟩ : ∃ B, B = w3.heap.size := ⟨_, rfl⟩
    have hln := H.out.2.2.1
    have M5 := M4.out.1
    rw [← eB, ← hln] at M5
    have HM := Lib.hid (And.intro M5 (And.intro M4.out.2.1 (And.intro M4.out.2.2 eB)))
    rw [← hln]
    clear hln M5 eB M4
    go_upto_block 0 with fail
    go_cut [8, 9] (fun iv xv wx => MRow wx B (.slice Am ln mc) (unrollF l) ∧ BoIn w wx g ID A n cap seed tick key)
    case first =>
      go_wp2_with fail
      go_loopg [8] ln (fun gh iv wr => ∃ i : Nat, gh + i = ln ∧ iv = .int .i64 (i : Nat) ∧ wr = w4 ∧ ∀ (k : Nat) t, k < i → l[k]? = some t → t.op ≠ 5)
      case atStart => exact ⟨0, rfl, rfl, rfl, fun k t hk => by omega⟩
      case round =>
        obtain ⟨i, hg, rfl, hw, hk⟩ := hrel
        have hw := hw.symm
        subst hw
        have hln := H.out.2.2.1
        by_cases hlt : i < ln
        · have i2 : decide (i < ln) = true := decide_eq_true hlt
          obtain ⟨x, hx⟩ : ∃ x, l[i]? = some x := ⟨_, List.getElem?_eq_getElem (by omega)⟩
          obtain ⟨rb, c, e, hB, hrb⟩ := HM.out.1.shape (by omega)
          simp only [Value.slice.injEq] at e
          obtain ⟨rfl, -, -⟩ := e
          obtain ⟨EA, ec, BA, bc, EL, el, hc, hfz, hE, hBs, hL⟩ := HM.out.1.cells hx
          obtain ⟨c0, c1, c2, c3, c4, c5, hlim⟩ := hc
          have i0 : (0 : Int) ≤ (i : Int) := by omega
          have i1 : (i : Int) < (ln : Int) := by omega
          have u2 : wrap64 ((i : Int) + 1) = (i : Int) + 1 := w64z _ (by omega) (by have := H.out.2.2.1; have := HR.out.2.2.2; have := hs300.out; omega)
          by_cases h5 : x.op = 5
          · have t5 : ((x.op : Int) == 5) = true := by rw [h5]; rfl
            have hX : ∃ T1 T2 T3, T1 = x.e.length ∧ T2 = x.b.length ∧ T3 = x.els.length := ⟨_, _, _, rfl, rfl, rfl⟩
            obtain ⟨ke, kb, kl, eke, ekb, ekl⟩ := hX
            rw [← eke] at c3
            rw [← ekb] at c4
            rw [← ekl] at c5
            obtain ⟨w5, e5⟩ : ∃ W, W = w4.alloc (.cells #[.int .u8 (x.op : Nat), .int .i64 x.n, .string x.nm, .slice EA ke ec, .slice BA kb bc, .slice EL kl el] 39 (0, 0)) := ⟨_, rfl⟩
            obtain ⟨qb, eqb⟩ : ∃ q, q = w4.heap.size := ⟨_, rfl⟩
            have hb5 : Below w4.heap.size w4 w5 := by rw [e5]; exact (Below.refl _ _).alloc (Nat.le_refl _) _
            have k5 : w5.heap[qb]? = some (.cells #[.int .u8 (x.op : Nat), .int .i64 x.n, .string x.nm, .slice EA ke ec, .slice BA kb bc, .slice EL kl el] 39 (0, 0)) := by rw [e5, eqb]; exact heap_alloc_new w4 _
            obtain ⟨w6, e6⟩ : ∃ W, W = w5.alloc (.cells #[.int .u8 1, .int .i64 1, .string ⟨#[]⟩, .slice none 0 0] 34 (0, 0)) := ⟨_, rfl⟩
            have hb6 : Below w5.heap.size w5 w6 := by rw [e6]; exact (Below.refl _ _).alloc (Nat.le_refl _) _
            have ko6 : w6.heap[w5.heap.size]? = some (.cells #[.int .u8 1, .int .i64 1, .string ⟨#[]⟩, .slice none 0 0] 34 (0, 0)) := by rw [e6]; exact heap_alloc_new w5 _
            have k6 := (hb6.block qb (lt_of_block k5)).trans k5
            obtain ⟨w7, e7⟩ : ∃ W, W = w6.alloc (.cells #[.int .u8 4, .int .i64 0, .string ⟨#[]⟩, .slice (some ⟨w5.heap.size, 0, none⟩) 1 1, .slice BA kb bc, .slice none 0 0, .int .u8 (x.op : Nat), .int .i64 x.n, .string x.nm, .slice EA ke ec, .slice BA kb bc, .slice EL kl el] 39 (0, 0)) := ⟨_, rfl⟩
            have hb7 : Below w6.heap.size w6 w7 := by rw [e7]; exact (Below.refl _ _).alloc (Nat.le_refl _) _
            have ks7 : w7.heap[w6.heap.size]? = some (.cells #[.int .u8 4, .int .i64 0, .string ⟨#[]⟩, .slice (some ⟨w5.heap.size, 0, none⟩) 1 1, .slice BA kb bc, .slice none 0 0, .int .u8 (x.op : Nat), .int .i64 x.n, .string x.nm, .slice EA ke ec, .slice BA kb bc, .slice EL kl el] 39 (0, 0)) := by rw [e7]; exact heap_alloc_new w6 _
            have ko7 := (hb7.block _ (lt_of_block ko6)).trans ko6
            have hb57 : Below w5.heap.size w5 w7 := hb6.trans (hb7.mono hb6.size)
            have hb47 : Below w4.heap.size w4 w7 := hb5.trans (hb57.mono hb5.size)
            obtain ⟨⟨f0, f1, f2, f3, f4, f5⟩, -⟩ := st_facts k5
            obtain ⟨⟨g0, g1, g2, g3, g4, g5⟩, -⟩ := st_facts k6
            have M7 := HM.out.1.below hb47
            obtain ⟨EA7, ec7, BA7, bc7, EL7, el7, ⟨p0, p1, p2, p3, p4, p5, -⟩, z7, -⟩ := M7.cells hx
            have z0 := z7 (i * 6)
            have z1 := z7 (i * 6 + 1)
            have z2 := z7 (i * 6 + 2)
            have z3 := z7 (i * 6 + 3)
            have z4 := z7 (i * 6 + 4)
            have z5 := z7 (i * 6 + 5)
            have HW5 := Lib.hid hb5.size
            have HX := Lib.hid (And.intro hlt (And.intro hg (And.intro hk (And.intro hx (And.intro h5 (And.intro hE (And.intro hBs (And.intro hL (And.intro hlim (And.intro hB (And.intro hrb (And.intro M7 (And.intro hb47 (And.intro ks7 (And.intro ko7 (And.intro eke (And.intro ekb ekl)))))))))))))))))
            clear hlt hg hk hx h5 hE hBs hL hlim hB hrb M7 hb47 ks7 ko7 eke ekb ekl hb5 k5 hb6 ko6 k6 hb7 hb57 z7 hfz hln
            go_upto_region 11 with fail
            rw [← e5, ← eqb]
            clear e5 eqb
            subst e7
            subst e6
            go_wp2_with fail
            go_meet
            case rel =>
              obtain ⟨hlt, hg, hk, hx, h5, hE, hBs, hL, hlim, hB, hrb, M7, hb47, ks7, ko7, eke, ekb, ekl⟩ := HX.out
              rw [unrollF_at l i x hx h5 hk]
              have hs := hb47.size
              have hs5 : (w5.alloc (.cells #[.int .u8 1, .int .i64 1, .string ⟨#[]⟩, .slice none 0 0] 34 (0, 0))).heap.size = w5.heap.size + 1 := by simp
              rw [hs5] at ks7
              obtain ⟨w7, e7⟩ : ∃ W, W = (w5.alloc (.cells #[.int .u8 1, .int .i64 1, .string ⟨#[]⟩, .slice none 0 0] 34 (0, 0))).alloc (.cells #[.int .u8 4, .int .i64 0, .string ⟨#[]⟩, .slice (some ⟨w5.heap.size, 0, none⟩) 1 1, .slice BA kb bc, .slice none 0 0, .int .u8 (x.op : Nat), .int .i64 x.n, .string x.nm, .slice EA ke ec, .slice BA kb bc, .slice EL kl el] 39 (0, 0)) := ⟨_, rfl⟩
              rw [← e7] at M7 hb47 ks7 ko7 hs ⊢
              have hgB : g + 1 < B := by rw [HM.out.2.2.2]; exact lt_of_block HQ1.out.2.v
              have hw5 : w4.heap.size ≤ w5.heap.size := HW5.out
              have hq : ∀ q, (B ≤ q ∧ q < w4.heap.size) ∧ rb ≠ q → w7.heap[q]? = w4.heap[q]? := fun q h => hb47.block q h.1.2
              have ho : ∀ q, (B ≤ q ∧ q < w4.heap.size) ∧ rb ≠ q → (B ≤ q ∧ q < w7.heap.size) ∧ rb ≠ q := fun q h => ⟨⟨h.1.1, by omega⟩, h.2⟩
              have okn : ∀ q, w4.heap.size ≤ q → q < w7.heap.size → (B ≤ q ∧ q < w7.heap.size) ∧ rb ≠ q := fun q h1 h2 => ⟨⟨by omega, h2⟩, by omega⟩
              have M := M7.set (j := i) (s := unrollS x) (by have := H.out.2.2.1; omega) EA ec (some ⟨w5.heap.size + 1, 0, none⟩) 2 none 0 ⟨(by decide : (4 : Nat) < 256), (by decide : -9223372036854775808 ≤ (0 : Int)), (by decide : (0 : Int) ≤ 9223372036854775807), hlim.2.2.2.1, (by decide : (2 : Nat) ≤ 1000000), (by decide : (0 : Nat) ≤ 1000000)⟩
                (fun d => (hE d).step hq ho) (loop_row ks7 ko7 (okn _ (by omega) (lt_of_block ks7)) (okn _ hw5 (lt_of_block ko7)) eke ekb ekl (fun d => (hE d).step hq ho) (fun d => (hBs d).step hq ho) (fun d => (hL d).step hq ho) hlim) (fun d => SsIn.nil d _)
              have eke' : (unrollS x).e.length = ke := eke.symm
              rw [eke'] at M
              have BB := (HM.out.2.2.1.below hb47).put (i * 6) (.int .u8 4) (.int .i64 0) (.string ⟨#[]⟩) (.slice EA ke ec) (.slice (some ⟨w5.heap.size + 1, 0, none⟩) 2 2) (.slice none 0 0) (show g + 1 < rb by omega)
              unfold put6o at BB
              unfold put6o at M
              exact ⟨M, BB⟩
          · have t5 : ((x.op : Int) == 5) = false := by simp; omega
            have HX := Lib.hid (And.intro hlt (And.intro hg (And.intro hk (And.intro hx h5))))
            clear hlt hg hk hx h5 hE hBs hL hfz hlim hB hrb c1 c2 c3 c4 c5 hln
            go_wp2_with fail
            go_roundg (ln - (i + 1))
            case measure => have := HX.out.1; have := HX.out.2.1; omega
            case rel =>
              obtain ⟨hlt, hg, hk, hx, h5⟩ := HX.out
              refine ⟨i + 1, by omega, by go_num, rfl, fun k t h1 h2 => ?_⟩
              by_cases e : k = i
              · subst e; rw [hx] at h2; injection h2 with h2; subst h2; exact h5
              · exact hk k t (by omega) h2
        · have i2 : decide (i < ln) = false := decide_eq_false hlt
          have eU : unrollF l = l := unrollF_none l fun k t h => hk k t (by have := (List.getElem?_eq_some_iff.1 h).1; omega) h
          have HX := Lib.hid eU
          clear hlt hg hk hln eU
          go_wp2_with fail
          go_meet
          case rel =>
            rw [HX.out]
            exact ⟨HM.out.1, HM.out.2.2.1⟩
    case rest =>
      obtain ⟨hM, hBC⟩ := hcut
      obtain ⟨A', c', e, hd⟩ := hM.read
      simp only [Value.slice.injEq] at e
      obtain ⟨rfl, -, -⟩ := e
      have RL := HR.out.1 wc hBC
      unfold LrunR at RL
      obtain ⟨⟨x0, x1⟩, v0, v1, v2⟩ := hBC.facts
      have HC := Lib.hid (And.intro hBC hd)
      clear hM hBC hd
      go_upto_region 13 with (go_at_call 11; refine RL.mono ?_; rintro e w9 ⟨I9, A9, n9, p9, er9, ok9, c9, rfl, h9, hb9⟩; have H9 := Lib.hid (And.intro h9 (And.intro (HC.out.1.below hb9) hb9)); clear h9 hb9)
      clear x0 x1 v0 v1 v2 RL
      obtain ⟨w10, e10⟩ : ∃ W, W = w9.alloc (.cells #[.int .i64 I9, .slice A9 n9 p9] 25 (0, 0)) := ⟨_, rfl⟩
      obtain ⟨q9, eq9⟩ : ∃ q, q = w9.heap.size := ⟨_, rfl⟩
      rw [← e10, ← eq9]
      have hb10 : Below w9.heap.size w9 w10 := by rw [e10]; exact (Below.refl _ _).alloc (Nat.le_refl _) _
      have k9 : w10.heap[q9]? = some (.cells #[.int .i64 I9, .slice A9 n9 p9] 25 (0, 0)) := by rw [e10, eq9]; exact heap_alloc_new w9 _
      have B10 := H9.out.2.1.below hb10
      have hbc10 : Below wc.heap.size wc w10 := H9.out.2.2.trans (hb10.mono H9.out.2.2.size)
      have RM := HR.out.2.1 w10 Am mc B10 (fun d => (HC.out.2 d).below hbc10)
      unfold LrunR at RM
      obtain ⟨⟨x0, x1⟩, v0, v1, v2⟩ := B10.facts
      have H10 := Lib.hid (And.intro k9 (And.intro B10 hb10))
      clear k9 B10 hb10 hbc10 e10 eq9
      go_upto_region 14 with (go_at_call 11; refine RM.mono ?_; rintro e w11 ⟨I11, A11, n11, p11, er11, ok11, c11, rfl, h11, hb11⟩; have H11 := Lib.hid (And.intro h11 (And.intro (H10.out.2.1.below hb11) hb11)); clear h11 hb11)
      clear x0 x1 v0 v1 v2 RM
      obtain ⟨w12, e12⟩ : ∃ W, W = w11.alloc (.cells #[.int .i64 I11, .slice A11 n11 p11] 25 (0, 0)) := ⟨_, rfl⟩
      obtain ⟨q11, eq11⟩ : ∃ q, q = w11.heap.size := ⟨_, rfl⟩
      rw [← e12, ← eq11]
      have hb12 : Below w11.heap.size w11 w12 := by rw [e12]; exact (Below.refl _ _).alloc (Nat.le_refl _) _
      have k11 : w12.heap[q11]? = some (.cells #[.int .i64 I11, .slice A11 n11 p11] 25 (0, 0)) := by rw [e12, eq11]; exact heap_alloc_new w11 _
      have B12 := H11.out.2.1.below hb12
      have hb1012 : Below w10.heap.size w10 w12 := H11.out.2.2.trans (hb12.mono H11.out.2.2.size)
      have k9 := (hb1012.block q9 (lt_of_block H10.out.1)).trans H10.out.1
      have H12 := Lib.hid (And.intro k9 (And.intro k11 (And.intro B12 (And.intro hb1012 hb12))))
      clear k9 k11 B12 hb1012 hb12 e12 eq11
      rcases ok9 with _ | _
      · go_wp2_with fail
        go_ret
        exact ⟨rfl, H.out.2.1 ▸ H12.out.2.2.1.b⟩
      rcases ok11 with _ | _
      · go_wp2_with fail
        go_ret
        exact ⟨rfl, H.out.2.1 ▸ H12.out.2.2.1.b⟩
      obtain ⟨i9, l9, Y9, C9, -⟩ := H9.out.1 rfl
      obtain ⟨i11, l11, Y11, C11, -⟩ := H11.out.1 rfl
      have i9 := i9.symm
      subst i9
      have i11 := i11.symm
      subst i11
      obtain ⟨k9, k11, B12, hb1012, hb12⟩ := H12.out
      have C9 : CompsAt w12 A9 c9 := (C9.below H10.out.2.2 rfl).below hb1012 rfl
      have C11 : CompsAt w12 A11 c11 := C11.below hb12 rfl
      have hcl := HR.out.2.2.1
      have lY9 := Y9.length
      obtain ⟨y0, y1⟩ := ent_facts k9
      obtain ⟨z0, z1⟩ := ent_facts k11
      obtain ⟨rfl, ecs⟩ := Y9.loop Y11
      have SE := same_true (ID := ID) (ca := p9) (cb := p11) w12 l9 l11 ecs (by omega) C9 C11
      have HB := Lib.hid B12
      have q2 : (er9 == er9) = true := by simp
      clear Y9 Y11 C9 C11 B12 k9 k11 l11 lY9 hcl l9 hb1012 hb12 H9 H10 H11 H12 HR ecs
      go_wp2_with (go_at_call 12; refine SE.mono ?_; rintro e w15 ⟨rfl, hb15⟩; have H15 := Lib.hid hb15; clear hb15)
      go_ret
      exact ⟨rfl, H.out.2.1 ▸ (HB.out.below H15.out).b⟩
  · go_wp2_with fail
    go_ret
    exact ⟨rfl, H.out.2.1 ▸ HQ1.out.2.b⟩
  · go_wp2_with fail
    go_ret
    exact ⟨rfl, H.out.2.1 ▸ HQ1.out.2.b⟩
end
end Go.Proofs.YtocbddajakbemaaGreat
