/- vm: the walk of the law's own run. -/
import Derived.Test.YtocbddajakbemaaGreatNT
set_option linter.unusedVariables false
set_option linter.unusedSimpArgs false
set_option linter.unusedSimpArgs false
namespace Go.Proofs.YtocbddajakbemaaGreat
section
open Go.RowKit
theorem ret_entZ {fn : Func} {p u v : Tmp} (h : fn.results = #[.cell p 25, .tmp u, .tmp v]) (tmps : Array Value) (w : World) (g : Nat) (cs : Array Value) (hn : cs.size = 2)
    (hp : tmps.getD p undef = .pointer (some ⟨g, 0, none⟩)) (hg : w.heap[g]? = some (.cells cs 25 (0, 0))) :
    (results fn tmps).run Tryz.prog w = .ok (.tuple #[.agg cs, tmps.getD u undef, tmps.getD v undef]) w := by
  have hp' : tmps[p]?.getD undef = .pointer (some ⟨g, 0, none⟩) := by simpa using hp
  have hi : (Tryz.prog.info? 25).map (·.size) = some cs.size := by rw [hn]; kernel_rfl
  have hl := run_loadVar_row (P := Tryz.prog) w g 25 25 cs (0, 0) _ hg Tryz.underlying25 rfl hi
  simp [results, h, hp', asAddr, hl]
def put2 (w : World) (g : Nat) (a b : Value) : World := (w.setCell ⟨g, 0, none⟩ a).setCell ⟨g, 1, none⟩ b
theorem put2_ne (w : World) (g : Nat) (a b : Value) {q : Nat} (hq : q ≠ g) : (put2 w g a b).heap[q]? = w.heap[q]? := by
  unfold put2
  rw [Below.heap_setCell _ _ _ _ hq, Below.heap_setCell _ _ _ _ hq]
theorem put2_block {w : World} {g : Nat} {x y : Value} {T : TypeId} (a b : Value) (h : w.heap[g]? = some (.cells #[x, y] T (0, 0))) : (put2 w g a b).heap[g]? = some (.cells #[a, b] T (0, 0)) := by
  unfold put2
  exact block_setCell (block_setCell h 0 _) 1 _
theorem put2_below {B : Nat} {w w' : World} {g : Nat} (a b : Value) (h : Below B w w') (hg : B ≤ g) : Below B w (put2 w' g a b) := by
  unfold put2
  exact (h.setCell (p := ⟨g, 0, none⟩) hg _).setCell (p := ⟨g, 1, none⟩) hg _
structure RnIn (w W : World) (g : Nat) (ID : Int) (A : Option Addr) (n cap : Nat) (seed tick key : Int) : Prop where
  x : W.heap[g]? = some (.cells #[.int .i64 ID, .slice A n cap] 25 (0, 0))
  v : W.heap[g + 1]? = some (.cells #[.int .u64 seed, .int .i64 tick, .int .u64 key] 28 (0, 0))
  o : W.heap[g + 2]? = some (.cells #[.int .i64 0, .slice none 0 0] 25 (0, 0))
  b : Below g w W
theorem rnIn_new (w : World) (ID : Int) (A : Option Addr) (n cap : Nat) (seed tick key : Int) : ∃ W g, W = ((w.alloc (.cells #[.int .i64 ID, .slice A n cap] 25 (0, 0))).alloc (.cells #[.int .u64 seed, .int .i64 tick, .int .u64 key] 28 (0, 0))).alloc (.cells #[.int .i64 0, .slice none 0 0] 25 (0, 0)) ∧ g = w.heap.size ∧ RnIn w W g ID A n cap seed tick key := by
  refine ⟨_, _, rfl, rfl, ?_, ?_, ?_, (((Below.refl _ _).alloc (Nat.le_refl _) _).alloc (by simp) _).alloc (by simp; omega) _⟩
  · exact (Below.heap_alloc _ _ _ (by simp only [World.size_alloc]; omega)).trans (heap_alloc_fst w _ _)
  · exact (Below.heap_alloc _ _ _ (by simp only [World.size_alloc]; omega)).trans (heap_alloc_snd w _ _)
  · have := heap_alloc_new ((w.alloc (.cells #[.int .i64 ID, .slice A n cap] 25 (0, 0))).alloc (.cells #[.int .u64 seed, .int .i64 tick, .int .u64 key] 28 (0, 0))) (.cells #[.int .i64 0, .slice none 0 0] 25 (0, 0))
    simpa using this
theorem RnIn.below {w W W' : World} {g : Nat} {ID : Int} {A : Option Addr} {n cap : Nat} {seed tick key : Int} (h : RnIn w W g ID A n cap seed tick key) (hb : Below W.heap.size W W') : RnIn w W' g ID A n cap seed tick key :=
  ⟨(hb.block _ (lt_of_block h.x)).trans h.x, (hb.block _ (lt_of_block h.v)).trans h.v, (hb.block _ (lt_of_block h.o)).trans h.o, h.b.trans (hb.mono (Nat.le_of_lt (lt_of_block h.x)))⟩
theorem RnIn.facts {w W : World} {g : Nat} {ID : Int} {A : Option Addr} {n cap : Nat} {seed tick key : Int} (h : RnIn w W g ID A n cap seed tick key) :
    (W.cell? ⟨g, 0, none⟩ = some (.int .i64 ID) ∧ W.cell? ⟨g, 1, none⟩ = some (.slice A n cap)) ∧ (W.cell? ⟨g + 1, 0, none⟩ = some (.int .u64 seed) ∧ W.cell? ⟨g + 1, 1, none⟩ = some (.int .i64 tick) ∧ W.cell? ⟨g + 1, 2, none⟩ = some (.int .u64 key)) ∧
    (W.cell? ⟨g + 1 + 1, 0, none⟩ = some (.int .i64 0) ∧ W.cell? ⟨g + 1 + 1, 1, none⟩ = some (.slice none 0 0) ∧ W.frozen? ⟨g + 1 + 1, 0, none⟩ = false ∧ W.frozen? ⟨g + 1 + 1, 1, none⟩ = false) :=
  ⟨⟨(cell_of_block h.x 0).trans rfl, (cell_of_block h.x 1).trans rfl⟩, ⟨(cell_of_block h.v 0).trans rfl, (cell_of_block h.v 1).trans rfl, (cell_of_block h.v 2).trans rfl⟩, (cell_of_block h.o 0).trans rfl, (cell_of_block h.o 1).trans rfl, free_of_block h.o 0, free_of_block h.o 1⟩
structure RunArg (w : World) (l : List S0) (LA : Option Addr) (ln : Nat) (A : Option Addr) (n cap : Nat) (cs : List Cmp) (seed key : Int) : Prop where
  lq : ln = l.length
  lm : ln ≤ 1000000
  prog : SsAt w 41 LA l
  len : l.all (rightS 40) = true → (codeP l).length ≤ 50000
  x : XArg w A n cap cs
  xl : cs.length ≤ 1000
  s0 : 0 ≤ seed
  s1 : seed ≤ 18446744073709551615
  k0 : 0 ≤ key
  k1 : key ≤ 18446744073709551615
set_option maxRecDepth 100000 in
set_option maxHeartbeats 4000000 in
theorem lrun_no (l : List S0) (LA : Option Addr) (ln lc : Nat) (ID : Int) (A : Option Addr) (n cap : Nat) (cs : List Cmp) (seed tick key : Int) (w : World) (a : RunArg w l LA ln A n cap cs seed key) (hno : okP l = false) :
    Calls Tryz.prog 11 #[.slice LA ln lc, .agg #[.int .i64 ID, .slice A n cap], .agg #[.int .u64 seed, .int .i64 tick, .int .u64 key]] w fun e w' => ∃ er : Int, e = .returned (.tuple #[.agg #[.int .i64 0, .slice none 0 0], .int .i64 er, .bool false]) ∧ Below w.heap.size w w' := by
  obtain ⟨W, g, eW, eg, RI⟩ := rnIn_new w ID A n cap seed tick key
  have C := Compile_ok l LA ln lc W a.lq a.lm (a.prog.below (eg ▸ RI.b)) a.len
  have C : Calls Tryz.prog 20 #[.slice LA ln lc] W fun e w' => Below W.heap.size W w' ∧ ∃ er : Int, er ≠ 0 ∧ e = .returned (.tuple #[.agg #[.slice none 0 0, .int .i64 0, .int .u32 0, .int .u32 0], .int .i64 er]) := by
    refine C.mono fun e w' h => ?_
    obtain ⟨h1, ⟨-, h2⟩ | ⟨h2, -⟩⟩ := h
    · exact ⟨h1, h2⟩
    · rw [hno] at h2; cases h2
  have HI := Lib.hid (And.intro RI eg)
  clear RI a hno
  go_enter Tryz.func11, Tryz.ntmps11
  go_upto_region 1 with fail
  rw [← eW, ← eg]
  clear eW eg
  go_upto_region 2 with (go_at_call 20; refine C.mono ?_; rintro e w2 ⟨hb2, er, hne, rfl⟩; have RI2 := HI.out.1.below hb2; have q1 : (er != 0) = true := (by simpa using hne); have H2 := Lib.hid RI2; clear hb2 RI2 hne)
  obtain ⟨w3, e3⟩ : ∃ w3, w3 = w2.alloc (.cells #[.slice none 0 0, .int .i64 0, .int .u32 0, .int .u32 0] 53 (0, 0)) := ⟨_, rfl⟩
  rw [← e3]
  have RI3 := H2.out.below (W' := w3) (by rw [e3]; exact (Below.refl _ w2).alloc (Nat.le_refl _) _)
  obtain ⟨-, -, o0, o1, z0, z1⟩ := RI3.facts
  have H3 := Lib.hid RI3
  clear RI3 e3
  go_wp2_with fail
  refine bodyPost_ret (ret_entZ rfl _ _ (g + 2) _ rfl rfl (put2_block (.int .i64 0) (.slice none 0 0) H3.out.o)) rfl ?_
  refine ⟨er, rfl, ?_⟩
  rw [← HI.out.2]
  exact put2_below _ _ H3.out.b (by omega)
set_option maxRecDepth 100000 in
set_option maxHeartbeats 4000000 in
theorem lrun_ok (l : List S0) (LA : Option Addr) (ln lc : Nat) (ID : Int) (A : Option Addr) (n cap : Nat) (cs : List Cmp) (seed tick key : Int) (w : World) (a : RunArg w l LA ln A n cap cs seed key) (hok : okP l = true) (r : Rrs) (hr : runF (fixP l ID seed tick key) (codeP l) 10000 (start (localsP l) cs) = some r) :
    Calls Tryz.prog 11 #[.slice LA ln lc, .agg #[.int .i64 ID, .slice A n cap], .agg #[.int .u64 seed, .int .i64 tick, .int .u64 key]] w fun e w' => ∃ A' cap', e = .returned (.tuple #[.agg #[.int .i64 ID, .slice A' (endC cs r).length cap'], .int .i64 (endN r : Nat), .bool (decide (endN r ≠ 145))]) ∧ w'.ownsRow w.heap.size 48 5 (.slice A' (endC cs r).length cap') (endC cs r).length (comps (endC cs r)) ∧ Below w.heap.size w w' := by
  have K := okP_use hok
  obtain ⟨W, g, eW, eg, RI⟩ := rnIn_new w ID A n cap seed tick key
  have C := Compile_ok l LA ln lc W a.lq a.lm (a.prog.below (eg ▸ RI.b)) a.len
  obtain ⟨cn, ecn⟩ : ∃ cn, cn = (codeP l).length := ⟨_, rfl⟩
  obtain ⟨L, eL⟩ : ∃ L, L = localsP l := ⟨_, rfl⟩
  obtain ⟨R, eR⟩ : ∃ R, R = maskP 4 l := ⟨_, rfl⟩
  obtain ⟨Wr, eWr⟩ : ∃ Wr, Wr = maskP 5 l := ⟨_, rfl⟩
  have C : Calls Tryz.prog 20 #[.slice LA ln lc] W fun e w' => Below W.heap.size W w' ∧ ∃ Ac cc, e = .returned (.tuple #[.agg #[.slice Ac cn cc, .int .i64 (L : Nat), .int .u32 R, .int .u32 Wr], .int .i64 0]) ∧ PArg w' Ac cn cc (codeP l) := by
    refine C.mono fun e w' h => ?_
    obtain ⟨h1, ⟨h2, -⟩ | ⟨-, Ac, cc, h2, h3⟩⟩ := h
    · rw [hok] at h2; cases h2
    · refine ⟨h1, Ac, cc, by rw [ecn, eL, eR, eWr]; exact h2, ecn, K.op, ?_⟩
      intro i x hx
      have hi := (List.getElem?_eq_some_iff.1 hx).1
      obtain ⟨q, cap', cur, e, hB, hh, -⟩ := own_shape h3 (by omega)
      rw [Value.slice.injEq] at e
      obtain ⟨rfl, -, rfl⟩ := e
      obtain ⟨r1, r2⟩ := insC_at hx
      have hl := insC_length (codeP l)
      refine ⟨q, 0, rfl, lt_of_block hh, ?_, ?_⟩
      · rw [Nat.zero_add, h3.cellAt (i * 2) (by omega)]; exact r1
      · rw [Nat.zero_add, h3.cellAt (i * 2 + 1) (by omega)]; exact r2
  have XR : ∀ (Ac : Option Addr) (cc : Nat) (W' : World), PArg W' Ac cn cc (codeP l) → XArg W' A n cap cs → Calls Tryz.prog 15 #[.agg #[.slice Ac cn cc, .int .i64 (L : Nat), .int .u32 R, .int .u32 Wr], .agg #[.int .i64 ID, .slice A n cap], .agg #[.int .u64 seed, .int .i64 tick, .int .u64 key], .int .i64 10000] W' (Gives W' ID (endN r) (endF r) (endC cs r)) := by
    intro Ac cc W' hp hx
    obtain ⟨r', hr', X⟩ := runs_ok (cA := Ac) (cn := cn) (cc := cc) (L := L) (R := R) (Wr := Wr) (ID := ID) (code := codeP l) (cs := cs) (seed := seed) (tick := tick) (key := key) ⟨Ac, cn, cc, (L : Nat), R, Wr, ID, seed, tick, key, newI seed tick ID key⟩ rfl (by rw [eL, eR, eWr]; exact K.sound) K.len ecn K.op a.xl a.x.kind a.s0 a.s1 a.k0 a.k1 10000 (Nat.le_refl _)
    have : r' = r := by
      rw [runF_congr (S := ⟨Ac, cn, cc, (L : Nat), R, Wr, ID, seed, tick, key, newI seed tick ID key⟩) (S' := fixP l ID seed tick key) ecn rfl rfl rfl, eL, hr] at hr'
      injection hr' with hr'
      exact hr'.symm
    subst this
    exact X W' A n cap hp hx
  obtain ⟨N, eN⟩ : ∃ N, N = endN r := ⟨_, rfl⟩
  obtain ⟨F, eF⟩ : ∃ F, F = endF r := ⟨_, rfl⟩
  obtain ⟨cs', ecs⟩ : ∃ cs', cs' = endC cs r := ⟨_, rfl⟩
  rw [← eN, ← eF, ← ecs] at XR
  rw [← eN, ← ecs]
  have hx := a.x
  have HI := Lib.hid (And.intro RI (And.intro eg (And.intro hx XR)))
  clear RI a hok hr K XR eN eF ecs ecn eL eR eWr hx
  go_enter Tryz.func11, Tryz.ntmps11
  go_upto_region 1 with fail
  rw [← eW, ← eg]
  clear eW eg
  go_upto_region 2 with (go_at_call 20; refine C.mono ?_; rintro e w2 ⟨hb2, Ac, cc, rfl, hp⟩; have RI2 := HI.out.1.below hb2; have H2 := Lib.hid (And.intro RI2 hp); clear hb2 RI2 hp)
  obtain ⟨w3, e3⟩ : ∃ w3, w3 = w2.alloc (.cells #[.slice Ac cn cc, .int .i64 (L : Nat), .int .u32 R, .int .u32 Wr] 53 (0, 0)) := ⟨_, rfl⟩
  obtain ⟨g3, eg3⟩ : ∃ g3, g3 = w2.heap.size := ⟨_, rfl⟩
  rw [← e3, ← eg3]
  have hb3 : Below w2.heap.size w2 w3 := by rw [e3]; exact (Below.refl _ w2).alloc (Nat.le_refl _) _
  have hk3 : w3.heap[g3]? = some (.cells #[.slice Ac cn cc, .int .i64 (L : Nat), .int .u32 R, .int .u32 Wr] 53 (0, 0)) := by rw [e3, eg3]; exact heap_alloc_new w2 _
  have RI3 := H2.out.1.below hb3
  obtain ⟨⟨x0, x1⟩, ⟨v0, v1, v2⟩, o0, o1, z0, z1⟩ := RI3.facts
  have c0 : w3.cell? ⟨g3, 0, none⟩ = some (.slice Ac cn cc) := (cell_of_block hk3 0).trans rfl
  have c1 : w3.cell? ⟨g3, 1, none⟩ = some (.int .i64 (L : Nat)) := (cell_of_block hk3 1).trans rfl
  have c2 : w3.cell? ⟨g3, 2, none⟩ = some (.int .u32 R) := (cell_of_block hk3 2).trans rfl
  have c3 : w3.cell? ⟨g3, 3, none⟩ = some (.int .u32 Wr) := (cell_of_block hk3 3).trans rfl
  have hx3 : XArg w3 A n cap cs := by
    refine HI.out.2.2.1.below ?_
    rw [← HI.out.2.1]
    exact RI3.b
  have X := HI.out.2.2.2 Ac cc w3 (H2.out.2.below hb3) hx3
  have H3 := Lib.hid RI3
  clear hb3 hk3 RI3 hx3 e3 eg3 C
  go_upto_region 5 with (go_at_call 15; refine X.mono ?_; rintro e w4 ⟨A4, cap4, rfl, ho4, hb4⟩; have H4 := Lib.hid (And.intro (H3.out.below hb4) ho4); clear hb4 ho4)
  clear X x0 x1 v0 v1 v2 o0 o1 z0 z1 c0 c1 c2 c3
  obtain ⟨w5, e5⟩ : ∃ w5, w5 = w4.alloc (.cells #[.int .i64 ID, .slice A4 cs'.length cap4] 25 (0, 0)) := ⟨_, rfl⟩
  obtain ⟨g5, eg5⟩ : ∃ g5, g5 = w4.heap.size := ⟨_, rfl⟩
  rw [← e5, ← eg5]
  have hb5 : Below w4.heap.size w4 w5 := by rw [e5]; exact (Below.refl _ w4).alloc (Nat.le_refl _) _
  have hk5 : w5.heap[g5]? = some (.cells #[.int .i64 ID, .slice A4 cs'.length cap4] 25 (0, 0)) := by rw [e5, eg5]; exact heap_alloc_new w4 _
  have RI5 := H4.out.1.below hb5
  have ho5 := own_blk (w' := w5) H4.out.2 (fun q hq => hb5.block q (own_lt H4.out.2 hq).1)
  obtain ⟨-, -, o0, o1, z0, z1⟩ := RI5.facts
  have y0 : w5.cell? ⟨g5, 0, none⟩ = some (.int .i64 ID) := (cell_of_block hk5 0).trans rfl
  have y1 : w5.cell? ⟨g5, 1, none⟩ = some (.slice A4 cs'.length cap4) := (cell_of_block hk5 1).trans rfl
  obtain ⟨B, eB⟩ : ∃ B, B = decide (N ≠ 145) := ⟨_, rfl⟩
  have qB : (((N : Nat) : Int) != 145) = B := by
    rw [eB]
    by_cases h : N = 145
    · subst h; rfl
    · rw [decide_eq_true h]
      simp only [bne_iff_ne, ne_eq]
      omega
  have H5 := Lib.hid (And.intro RI5 (And.intro ho5 eB))
  obtain ⟨m5, em5⟩ : ∃ m5, m5 = cs'.length := ⟨_, rfl⟩
  rw [← em5] at y1 ⊢
  have HM := Lib.hid em5
  clear hb5 hk5 RI5 ho5 e5 eg5 eB em5
  go_wp2_with fail
  refine bodyPost_ret (ret_entZ rfl _ _ (g + 2) _ rfl rfl (put2_block (.int .i64 ID) (.slice A4 m5 cap4) H5.out.1.o)) rfl ?_
  rw [HM.out, ← H5.out.2.2]
  refine ⟨A4, cap4, rfl, ?_, ?_⟩
  · rw [← HI.out.2.1]
    refine own_rebase (own_blk H5.out.2.1 (fun q hq => put2_ne _ _ _ _ ?_)) ?_
    · have h1 := (own_lt H5.out.2.1 hq).2
      have h2 := lt_of_block H3.out.o
      omega
    · have h2 := lt_of_block H3.out.x
      omega
  · rw [← HI.out.2.1]
    exact put2_below _ _ H5.out.1.b (by omega)
end
end Go.Proofs.YtocbddajakbemaaGreat
