/- vm: VmBoth's walk. -/
import Derived.Test.YtocbddajakbemaaGreatOF
import Derived.Test.YtocbddajakbemaaGreatMU
set_option linter.unusedVariables false
set_option linter.unusedSimpArgs false
set_option linter.unusedSimpArgs false
namespace Go.Proofs.YtocbddajakbemaaGreat
section
open Go.RowKit
theorem one_at {W : World} {ob : Nat} (h : W.heap[ob]? = some (.cells #[.int .u8 1, .int .i64 1, .string ⟨#[]⟩, .slice none 0 0] 34 (0, 0))) : ∀ k, EsAt W k (some ⟨ob, 0, none⟩) [oneE] := by
  intro k
  rcases k with _ | k
  · trivial
  intro j x hj
  rcases j with _ | j
  · simp at hj
    subst hj
    refine ⟨ob, 0, none, 0, rfl, ⟨(cell_of_block h 0).trans rfl, (cell_of_block h 1).trans rfl, (cell_of_block h 2).trans rfl, (cell_of_block h 3).trans rfl, fun _ => ⟨rfl, rfl⟩, by decide⟩, ?_⟩
    rcases k with _ | k
    · trivial
    · intro j x hj; simp [oneE, E0.args] at hj
  · simp at hj
theorem block_cellsB {W : World} {sb o ob : Nat} {l : List S0} {LA : Option Addr} {lc : Nat} (h0 : W.cell? ⟨sb, o, none⟩ = some (.int .u8 4)) (h1 : W.cell? ⟨sb, o + 1, none⟩ = some (.int .i64 0)) (h2 : W.cell? ⟨sb, o + 2, none⟩ = some (.string ⟨#[]⟩))
    (h3 : W.cell? ⟨sb, o + 3, none⟩ = some (.slice (some ⟨ob, 0, none⟩) 1 1)) (h4 : W.cell? ⟨sb, o + 4, none⟩ = some (.slice LA l.length lc)) (h5 : W.cell? ⟨sb, o + 5, none⟩ = some (.slice none 0 0)) (hl : l.length ≤ 1000000) : SCells W sb o (blockS l) (some ⟨ob, 0, none⟩) 1 LA lc none 0 :=
  ⟨h0, h1, h2, h3, h4, h5, ⟨(by decide : (4 : Nat) < 256), (by decide : -9223372036854775808 ≤ (0 : Int)), (by decide : (0 : Int) ≤ 9223372036854775807), (by decide : (1 : Nat) ≤ 1000000), hl, (by decide : (0 : Nat) ≤ 1000000)⟩⟩
theorem SsAt.nil {w : World} (d : Nat) (A : Option Addr) : SsAt w d A [] := by
  cases d with
  | zero => trivial
  | succ d => intro j x hj; simp at hj
theorem blocks_at {W : World} {sb ob : Nat} {l m : List S0} {LA MA : Option Addr} {ln mn lc mc : Nat} (hb : W.heap[sb]? = some (.cells #[.int .u8 4, .int .i64 0, .string ⟨#[]⟩, .slice (some ⟨ob, 0, none⟩) 1 1, .slice LA ln lc, .slice none 0 0, .int .u8 4, .int .i64 0, .string ⟨#[]⟩, .slice (some ⟨ob, 0, none⟩) 1 1, .slice MA mn mc, .slice none 0 0] 39 (0, 0)))
    (ho : W.heap[ob]? = some (.cells #[.int .u8 1, .int .i64 1, .string ⟨#[]⟩, .slice none 0 0] 34 (0, 0))) (hln : ln = l.length) (hmn : mn = m.length) (hl : ∀ d, SsAt W d LA l) (hm : ∀ d, SsAt W d MA m) (hl1 : l.length ≤ 1000000) (hm1 : m.length ≤ 1000000) : ∀ d, SsAt W d (some ⟨sb, 0, none⟩) [blockS l, blockS m] := by
  subst hln hmn
  intro d
  rcases d with _ | d
  · trivial
  intro j s hj
  rcases j with _ | _ | j
  · simp at hj
    subst hj
    exact ⟨sb, 0, _, _, _, _, _, _, rfl, block_cellsB ((cell_of_block hb 0).trans rfl) ((cell_of_block hb 1).trans rfl) ((cell_of_block hb 2).trans rfl) ((cell_of_block hb 3).trans rfl) ((cell_of_block hb 4).trans rfl) ((cell_of_block hb 5).trans rfl) hl1, one_at ho, hl d, SsAt.nil d _⟩
  · simp at hj
    subst hj
    exact ⟨sb, 0, _, _, _, _, _, _, rfl, block_cellsB ((cell_of_block hb 6).trans rfl) ((cell_of_block hb 7).trans rfl) ((cell_of_block hb 8).trans rfl) ((cell_of_block hb 9).trans rfl) ((cell_of_block hb 10).trans rfl) ((cell_of_block hb 11).trans rfl) hm1, one_at ho, hm d, SsAt.nil d _⟩
  · simp at hj
set_option maxRecDepth 100000 in
set_option maxHeartbeats 8000000 in
theorem vmBoth_walk (l m : List S0) (LA : Option Addr) (ln lc : Nat) (MA : Option Addr) (mn mc : Nat) (ID : Int) (A : Option Addr) (n cap : Nat) (cs : List Cmp) (seed tick key : Int) (w : World) (hlq : ln = l.length) (hl : ln ≤ 9223372036854775807) (hlz : ∀ d, SsZ w d LA l)
    (hmq : mn = m.length) (hm : mn ≤ 9223372036854775807) (hmz : ∀ d, SsZ w d MA m) (hx : XArg w A n cap cs) (s0 : 0 ≤ seed) (s1 : seed ≤ 18446744073709551615) (k0 : 0 ≤ key) (k1 : key ≤ 18446744073709551615) :
    Calls Tryz.prog 3 #[.slice LA ln lc, .slice MA mn mc, .agg #[.int .i64 ID, .slice A n cap], .agg #[.int .u64 seed, .int .i64 tick, .int .u64 key]] w fun e w' => e = .returned (.bool true) ∧ Below w.heap.size w w' := by
  obtain ⟨w1, g, e1, eg, B1⟩ := boIn_new w ID A n cap seed tick key
  have AW := fun W => awake_ok W
  have Z1 : ∀ W, BoIn w W g ID A n cap seed tick key → Calls Tryz.prog 8 #[.slice LA ln lc, .int .i64 150] W fun e w' => ∃ k : Int, e = .returned (.int .i64 k) ∧ (k ≤ 150 → szSs l ≤ 150) ∧ BoIn w w' g ID A n cap seed tick key := by
    intro W hW
    rw [hlq]
    refine (Size_ok l LA lc 150 W (hlq ▸ hl) (fun d => (hlz d).below (eg ▸ hW.b)) (by omega) (by omega)).mono ?_
    rintro e w' ⟨k, rfl, h0, h1, hb⟩
    exact ⟨k, rfl, fun h => by have := h1 h; omega, hW.below hb⟩
  have Z2 : ∀ W, BoIn w W g ID A n cap seed tick key → Calls Tryz.prog 8 #[.slice MA mn mc, .int .i64 150] W fun e w' => ∃ k : Int, e = .returned (.int .i64 k) ∧ (k ≤ 150 → szSs m ≤ 150) ∧ BoIn w w' g ID A n cap seed tick key := by
    intro W hW
    rw [hmq]
    refine (Size_ok m MA mc 150 W (hmq ▸ hm) (fun d => (hmz d).below (eg ▸ hW.b)) (by omega) (by omega)).mono ?_
    rintro e w' ⟨k, rfl, h0, h1, hb⟩
    exact ⟨k, rfl, fun h => by have := h1 h; omega, hW.below hb⟩
  obtain ⟨bs, ebs⟩ : ∃ b, b = stopSs l := ⟨_, rfl⟩
  obtain ⟨bd, ebd⟩ : ∃ b, b = drawnSs m := ⟨_, rfl⟩
  have Z3 : ∀ W, BoIn w W g ID A n cap seed tick key → Calls Tryz.prog 9 #[.slice LA ln lc] W fun e w' => e = .returned (.bool bs) ∧ BoIn w w' g ID A n cap seed tick key := by
    intro W hW
    rw [hlq, ebs]
    refine (stops_ok l LA lc W (hlq ▸ hl) (fun d => (hlz d).below (eg ▸ hW.b))).mono ?_
    rintro e w' ⟨rfl, hb⟩
    exact ⟨rfl, hW.below hb⟩
  have Z4 : ∀ W, BoIn w W g ID A n cap seed tick key → Calls Tryz.prog 10 #[.slice MA mn mc] W fun e w' => e = .returned (.bool bd) ∧ BoIn w w' g ID A n cap seed tick key := by
    intro W hW
    rw [hmq, ebd]
    refine (drawn_ok m MA mc W (hmq ▸ hm) (fun d => (hmz d).below (eg ▸ hW.b))).mono ?_
    rintro e w' ⟨rfl, hb⟩
    exact ⟨rfl, hW.below hb⟩
  have H := Lib.hid (And.intro B1 (And.intro eg (And.intro hlq (And.intro hlz (And.intro hmq (And.intro hmz (And.intro hx (And.intro s0 (And.intro s1 (And.intro k0 (And.intro k1 (And.intro ebs ebd))))))))))))
  have HZ := Lib.hid (And.intro Z1 (And.intro Z2 (And.intro Z3 Z4)))
  clear B1 hlq hl hlz hmq hm hmz hx s0 s1 k0 k1 ebs ebd Z1 Z2 Z3 Z4
  go_enter Tryz.func3, Tryz.ntmps3
  go_upto_region 1 with fail
  rw [← e1, ← eg]
  clear e1 eg
  go_upto_region 3 with (go_at_call 7; refine (AW _).mono ?_; rintro e w2 ⟨rfl, hb2⟩; have B2 := Lib.hid (H.out.1.below hb2); clear hb2)
  clear AW
  have F1 := HZ.out.1 w2 B2.out
  go_upto_if 42 with (first
    | (go_at_call 8; first
      | (with_reducible refine F1.mono ?_; rintro e w3 ⟨q1, rfl, hq1, B3⟩; have F2 := HZ.out.2.1 w3 B3; have HQ1 := Lib.hid (And.intro hq1 B3); clear hq1 B3 F1; rcases i1 : decide (150 < q1) with _ | _)
      | (with_reducible refine F2.mono ?_; rintro e w4 ⟨q2, rfl, hq2, B4⟩; have F3 := HZ.out.2.2.1 w4 B4; obtain ⟨⟨b0, b1⟩, -⟩ := B4.facts; have HQ2 := Lib.hid (And.intro hq2 B4); clear hq2 B4 F2; rcases i2 : decide (150 < q2) with _ | _; rcases i3 : decide ((20 : Int) < (n : Int)) with _ | _))
    | (go_at_call 9; with_reducible refine F3.mono ?_; rintro e w5 ⟨rfl, B5⟩; have F4 := HZ.out.2.2.2 w5 B5; have HB5 := Lib.hid B5; clear B5 F3; rcases bs with _ | _)
    | (go_at_call 10; with_reducible refine F4.mono ?_; rintro e w6 ⟨rfl, B6⟩; have HB6 := Lib.hid B6; clear B6 F4; rcases bd with _ | _))
  · have hs1 := HQ1.out.1 (by have := of_decide_eq_false i1; omega)
    have hs2 := HQ2.out.1 (by have := of_decide_eq_false i2; omega)
    have hn := of_decide_eq_false i3
    have hl6 : ∀ d, SsAt w6 d LA l := fun d => (((H.out.2.2.2.1 d).to (by omega)).below (H.out.2.1 ▸ HB6.out.b))
    have hm6 : ∀ d, SsAt w6 d MA m := fun d => (((H.out.2.2.2.2.2.1 d).to (by omega)).below (H.out.2.1 ▸ HB6.out.b))
    have hx6 : XArg w6 A n cap cs := H.out.2.2.2.2.2.2.1.below (H.out.2.1 ▸ HB6.out.b)
    have hcl : cs.length ≤ 20 := by have := hx6.len; omega
    obtain ⟨w7, e7⟩ : ∃ w7, w7 = w6.alloc (.cells #[.int .u8 1, .int .i64 1, .string ⟨#[]⟩, .slice none 0 0] 34 (0, 0)) := ⟨_, rfl⟩
    obtain ⟨ob, eob⟩ : ∃ ob, ob = w6.heap.size := ⟨_, rfl⟩
    obtain ⟨w8, e8⟩ : ∃ w8, w8 = w7.alloc (.cells #[.int .u8 4, .int .i64 0, .string ⟨#[]⟩, .slice (some ⟨ob, 0, none⟩) 1 1, .slice LA ln lc, .slice none 0 0, .int .u8 4, .int .i64 0, .string ⟨#[]⟩, .slice (some ⟨ob, 0, none⟩) 1 1, .slice MA mn mc, .slice none 0 0] 39 (0, 0)) := ⟨_, rfl⟩
    obtain ⟨sb, esb⟩ : ∃ sb, sb = w7.heap.size := ⟨_, rfl⟩
    have hb7 : Below w6.heap.size w6 w7 := by rw [e7]; exact (Below.refl _ _).alloc (Nat.le_refl _) _
    have hb8 : Below w7.heap.size w7 w8 := by rw [e8]; exact (Below.refl _ _).alloc (Nat.le_refl _) _
    have hb68 : Below w6.heap.size w6 w8 := hb7.trans (hb8.mono hb7.size)
    have ko7 : w7.heap[ob]? = some (.cells #[.int .u8 1, .int .i64 1, .string ⟨#[]⟩, .slice none 0 0] 34 (0, 0)) := by rw [e7, eob]; exact heap_alloc_new w6 _
    have ko8 := (hb8.block ob (lt_of_block ko7)).trans ko7
    have ks8 : w8.heap[sb]? = some (.cells #[.int .u8 4, .int .i64 0, .string ⟨#[]⟩, .slice (some ⟨ob, 0, none⟩) 1 1, .slice LA ln lc, .slice none 0 0, .int .u8 4, .int .i64 0, .string ⟨#[]⟩, .slice (some ⟨ob, 0, none⟩) 1 1, .slice MA mn mc, .slice none 0 0] 39 (0, 0)) := by rw [e8, esb]; exact heap_alloc_new w7 _
    have hlen := szSs_len l
    have hlen2 := szSs_len m
    have PB := blocks_at ks8 ko8 H.out.2.2.1 H.out.2.2.2.2.1 (fun d => (hl6 d).below hb68) (fun d => (hm6 d).below hb68) (by omega) (by omega)
    have szb : szSs [blockS l, blockS m] ≤ 10000 := by simp only [szSs, szBlock]; omega
    have B8 := HB6.out.below hb68
    have RB := lrun_any [blockS l, blockS m] (some ⟨sb, 0, none⟩) 2 2 ID A n cap cs seed tick key w8 (runArg_of rfl szb PB (hx6.below hb68) (by omega) H.out.2.2.2.2.2.2.2.1 H.out.2.2.2.2.2.2.2.2.1 H.out.2.2.2.2.2.2.2.2.2.1 H.out.2.2.2.2.2.2.2.2.2.2.1)
    have RL : ∀ W, BoIn w W g ID A n cap seed tick key → Calls Tryz.prog 11 #[.slice LA ln lc, .agg #[.int .i64 ID, .slice A n cap], .agg #[.int .u64 seed, .int .i64 tick, .int .u64 key]] W (LrunR W l ID seed tick key cs) := fun W hW =>
      lrun_any l LA ln lc ID A n cap cs seed tick key W (runArg_of H.out.2.2.1 (by omega) (fun d => ((H.out.2.2.2.1 d).to (by omega)).below (H.out.2.1 ▸ hW.b)) (H.out.2.2.2.2.2.2.1.below (H.out.2.1 ▸ hW.b)) (by omega) H.out.2.2.2.2.2.2.2.1 H.out.2.2.2.2.2.2.2.2.1 H.out.2.2.2.2.2.2.2.2.2.1 H.out.2.2.2.2.2.2.2.2.2.2.1)
    have RM : ∀ W A1 n1 cap1 c1, BoIn w W g ID A n cap seed tick key → XArg W A1 n1 cap1 c1 → c1.length = cs.length → Calls Tryz.prog 11 #[.slice MA mn mc, .agg #[.int .i64 ID, .slice A1 n1 cap1], .agg #[.int .u64 seed, .int .i64 tick, .int .u64 key]] W (LrunR W m ID seed tick key c1) := fun W A1 n1 cap1 c1 hW hx1 hl1 =>
      lrun_any m MA mn mc ID A1 n1 cap1 c1 seed tick key W (runArg_of H.out.2.2.2.2.1 (by omega) (fun d => ((H.out.2.2.2.2.2.1 d).to (by omega)).below (H.out.2.1 ▸ hW.b)) hx1 (by omega) H.out.2.2.2.2.2.2.2.1 H.out.2.2.2.2.2.2.2.2.1 H.out.2.2.2.2.2.2.2.2.2.1 H.out.2.2.2.2.2.2.2.2.2.2.1)
    have HR := Lib.hid (And.intro RL (And.intro RM (And.intro B8 (And.intro hx6 hcl))))
    unfold LrunR at RB
    clear hs1 hs2 hn hl6 hm6 hx6 hcl ko7 ko8 ks8 hlen hlen2 PB szb RL RM hb7 hb8 hb68 i1 i2 i3 HQ1 HQ2 HB5 B2 HZ
    obtain ⟨⟨x0, x1⟩, v0, v1, v2⟩ := B8.facts
    clear B8
    go_upto_region 6 with fail
    rw [← e7, ← eob]
    clear e7 eob
    subst e8 esb
    go_upto_region 7 with (go_at_call 11; refine RB.mono ?_; rintro e w9 ⟨I9, A9, n9, p9, er9, ok9, c9, rfl, h9, hb9⟩; have H9 := Lib.hid (And.intro h9 (HR.out.2.2.1.below hb9)); clear h9 hb9)
    obtain ⟨w10, e10⟩ : ∃ W, W = w9.alloc (.cells #[.int .i64 I9, .slice A9 n9 p9] 25 (0, 0)) := ⟨_, rfl⟩
    obtain ⟨q9, eq9⟩ : ∃ q, q = w9.heap.size := ⟨_, rfl⟩
    rw [← e10, ← eq9]
    have hb10 : Below w9.heap.size w9 w10 := by rw [e10]; exact (Below.refl _ _).alloc (Nat.le_refl _) _
    have k9 : w10.heap[q9]? = some (.cells #[.int .i64 I9, .slice A9 n9 p9] 25 (0, 0)) := by rw [e10, eq9]; exact heap_alloc_new w9 _
    have B10 := H9.out.2.below hb10
    have RL := HR.out.1 w10 B10
    unfold LrunR at RL
    obtain ⟨⟨x0, x1⟩, v0, v1, v2⟩ := B10.facts
    have H10 := Lib.hid (And.intro k9 (And.intro B10 hb10))
    clear k9 B10 hb10 e10 eq9 RB
    go_upto_region 8 with (go_at_call 11; refine RL.mono ?_; rintro e w11 ⟨I11, A11, n11, p11, er11, ok11, c11, rfl, h11, hb11⟩; have H11 := Lib.hid (And.intro h11 (And.intro (H10.out.2.1.below hb11) hb11)); clear h11 hb11)
    clear x0 x1 v0 v1 v2 RL
    obtain ⟨w12, e12⟩ : ∃ W, W = w11.alloc (.cells #[.int .i64 I11, .slice A11 n11 p11] 25 (0, 0)) := ⟨_, rfl⟩
    obtain ⟨q11, eq11⟩ : ∃ q, q = w11.heap.size := ⟨_, rfl⟩
    rw [← e12, ← eq11]
    have hb12 : Below w11.heap.size w11 w12 := by rw [e12]; exact (Below.refl _ _).alloc (Nat.le_refl _) _
    have k11 : w12.heap[q11]? = some (.cells #[.int .i64 I11, .slice A11 n11 p11] 25 (0, 0)) := by rw [e12, eq11]; exact heap_alloc_new w11 _
    have B12 := H11.out.2.1.below hb12
    have hb1012 : Below w10.heap.size w10 w12 := H11.out.2.2.trans (hb12.mono H11.out.2.2.size)
    have k9 := (hb1012.block q9 (lt_of_block H10.out.1)).trans H10.out.1
    have H12 := Lib.hid (And.intro k9 (And.intro k11 (And.intro B12 (And.intro hb1012 hb12))))
    clear k9 k11 B12 hb1012 hb12 e12 eq11
    rcases ok9 with _ | _
    · go_wp2_with fail
      go_ret
      exact ⟨rfl, H.out.2.1 ▸ H12.out.2.2.1.b⟩
    rcases ok11 with _ | _
    · go_wp2_with fail
      go_ret
      exact ⟨rfl, H.out.2.1 ▸ H12.out.2.2.1.b⟩
    obtain ⟨i9, l9, Y9, C9, -⟩ := H9.out.1 rfl
    obtain ⟨i11, l11, Y11, C11, N11⟩ := H11.out.1 rfl
    have i9 := i9.symm
    subst i9
    have i11 := i11.symm
    subst i11
    obtain ⟨k9, k11, B12, hb1012, hb12⟩ := H12.out
    have C9 : CompsAt w12 A9 c9 := (C9.below H10.out.2.2 rfl).below hb1012 rfl
    have C11 : CompsAt w12 A11 c11 := C11.below hb12 rfl
    have X12 : XArg w12 A n cap cs := H.out.2.2.2.2.2.2.1.below (H.out.2.1 ▸ B12.b)
    have hcl := HR.out.2.2.2.2
    have lY9 := Y9.length
    have lY11 := Y11.length
    obtain ⟨⟨x0, x1⟩, v0, v1, v2⟩ := B12.facts
    obtain ⟨y0, y1⟩ := ent_facts k9
    obtain ⟨z0, z1⟩ := ent_facts k11
    by_cases z : er11 = 0
    · subst z
      have XA : XArg w12 A11 n11 p11 c11 := ⟨l11, C11, Y11.kind X12.kind, N11⟩
      have RM := HR.out.2.1 w12 A11 n11 p11 c11 B12 XA lY11
      unfold LrunR at RM
      have HY := Lib.hid (And.intro Y9 (And.intro Y11 (And.intro C9 (And.intro B12 (And.intro k9 (And.intro lY9 (And.intro hcl l9)))))))
      clear Y9 Y11 C9 C11 B12 k9 k11 X12 XA l11 N11 lY9 lY11 hcl l9 hb1012 hb12 H9 H10 H11 H12 HR
      go_upto_region 13 with (go_at_call 11; refine RM.mono ?_; rintro e w13 ⟨I13, A13, n13, p13, er13, ok13, c13, rfl, h13, hb13⟩; have H13 := Lib.hid (And.intro h13 (And.intro (HY.out.2.2.2.1.below hb13) hb13)); clear h13 hb13)
      clear x0 x1 v0 v1 v2 y0 y1 z0 z1 RM
      obtain ⟨w14, e14⟩ : ∃ W, W = w13.alloc (.cells #[.int .i64 I13, .slice A13 n13 p13] 25 (0, 0)) := ⟨_, rfl⟩
      obtain ⟨q13, eq13⟩ : ∃ q, q = w13.heap.size := ⟨_, rfl⟩
      rw [← e14, ← eq13]
      have hb14 : Below w13.heap.size w13 w14 := by rw [e14]; exact (Below.refl _ _).alloc (Nat.le_refl _) _
      have k13 : w14.heap[q13]? = some (.cells #[.int .i64 I13, .slice A13 n13 p13] 25 (0, 0)) := by rw [e14, eq13]; exact heap_alloc_new w13 _
      have B14 := H13.out.2.1.below hb14
      have hb1214 : Below w12.heap.size w12 w14 := H13.out.2.2.trans (hb14.mono H13.out.2.2.size)
      have k9 := (hb1214.block q9 (lt_of_block HY.out.2.2.2.2.1)).trans HY.out.2.2.2.2.1
      rcases ok13 with _ | _
      · have HB := Lib.hid B14
        clear B14 k13 k9 hb14 hb1214 e14 eq13
        go_wp2_with fail
        go_ret
        exact ⟨rfl, H.out.2.1 ▸ HB.out.b⟩
      obtain ⟨i13, l13, Y13, C13, N13⟩ := H13.out.1 rfl
      have i13 := i13.symm
      subst i13
      obtain ⟨Y9, Y11, C9, B12, -, lY9, hcl, l9⟩ := HY.out
      obtain ⟨rfl, hbad, hgood⟩ := Y9.both_good (H.out.2.2.2.2.2.2.2.2.2.2.2.1).symm (H.out.2.2.2.2.2.2.2.2.2.2.2.2).symm Y11 Y13
      have C9 : CompsAt w14 A9 c9 := C9.below hb1214 rfl
      have C13 : CompsAt w14 A13 c13 := C13.below hb14 rfl
      have X14 : XArg w14 A n cap cs := H.out.2.2.2.2.2.2.1.below (H.out.2.1 ▸ B14.b)
      obtain ⟨⟨x0, x1⟩, -⟩ := B14.facts
      obtain ⟨y0, y1⟩ := ent_facts k9
      obtain ⟨z0, z1⟩ := ent_facts k13
      by_cases z : er9 = 0
      · subst z
        have SE := same_true (ID := ID) (ca := p9) (cb := p13) w14 l9 l13 (hgood rfl) (by omega) C9 C13
        have HB := Lib.hid B14
        clear B14 k13 k9 hb14 hb1214 e14 eq13 Y9 Y11 Y13 C9 C13 B12 lY9 hcl l9 l13 X14 N13 hbad hgood
        go_wp2_with (go_at_call 12; refine SE.mono ?_; rintro e w15 ⟨rfl, hb15⟩; have H15 := Lib.hid hb15; clear hb15)
        go_ret
        exact ⟨rfl, H.out.2.1 ▸ (HB.out.below H15.out).b⟩
      · have SE := same_true (ID := ID) (ca := p9) (cb := cap) w14 l9 X14.len (hbad z) (by omega) C9 X14.at_
        have HB := Lib.hid B14
        have q1 : (er9 != 0) = true := by simpa using z
        have q2 : (er9 == er9) = true := by simp
        clear B14 k13 k9 hb14 hb1214 e14 eq13 Y9 Y11 Y13 C9 C13 B12 lY9 hcl l9 l13 X14 N13 hbad hgood z
        go_wp2_with (go_at_call 12; refine SE.mono ?_; rintro e w15 ⟨rfl, hb15⟩; have H15 := Lib.hid hb15; clear hb15)
        go_ret
        exact ⟨rfl, H.out.2.1 ▸ (HB.out.below H15.out).b⟩
    · obtain ⟨rfl, ecs⟩ := Y9.both_bad Y11 z
      have SE := same_true (ID := ID) (ca := p9) (cb := cap) w12 l9 X12.len ecs (by omega) C9 X12.at_
      have HB := Lib.hid B12
      have q1 : (er9 != 0) = true := by simpa using z
      have q2 : (er9 == er9) = true := by simp
      clear Y9 Y11 C9 C11 B12 k9 k11 X12 l11 N11 lY9 lY11 hcl l9 hb1012 hb12 H9 H10 H11 H12 HR z ecs
      go_wp2_with (go_at_call 12; refine SE.mono ?_; rintro e w15 ⟨rfl, hb15⟩; have H15 := Lib.hid hb15; clear hb15)
      go_ret
      exact ⟨rfl, H.out.2.1 ▸ (HB.out.below H15.out).b⟩
  · go_wp2_with fail
    go_ret
    exact ⟨rfl, H.out.2.1 ▸ HB6.out.b⟩
  · go_wp2_with fail
    go_ret
    exact ⟨rfl, H.out.2.1 ▸ HB5.out.b⟩
  · go_wp2_with fail
    go_ret
    exact ⟨rfl, H.out.2.1 ▸ HQ2.out.2.b⟩
  · go_wp2_with fail
    go_ret
    exact ⟨rfl, H.out.2.1 ▸ HQ2.out.2.b⟩
  · go_wp2_with fail
    go_ret
    exact ⟨rfl, H.out.2.1 ▸ HQ1.out.2.b⟩
end
end Go.Proofs.YtocbddajakbemaaGreat
