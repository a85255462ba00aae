/- vm: the law's Given. -/
import Derived.Test.YtocbddajakbemaaMV
import Derived.Deep.AppendLies
import Derived.Deep.RegionLaw
import Derived.Deep.RegionHeld3
set_option linter.unusedVariables false
namespace Go.Proofs.Ytocbddajakbemaa
open Go.RowKit

theorem infoInsG : (Try.prog.info? 71).map (fun i => (i.zero, i.size, i.bytes)) = some (some (.agg #[.int .u8 0, .int .i64 0]), 2, 16) := by kernel_rfl
/-- The boxes of Taken. -/
structure GvIn (w : World) (g : Nat) (v : Value) (m r x : Int) (ov : Value) (W : World) : Prop where
  k0 : W.heap[g]? = some (.cells #[v, .int .i64 m, .int .u32 r, .int .u32 x] 27 (0, 0))
  k1 : W.heap[g + 1]? = some (.cells #[.slice none 0 0, .int .i64 0, .int .u32 0, .int .u32 0] 50 (0, 0))
  k2 : W.heap[g + 2]? = some (.cells #[ov, .int .i64 m, .int .u32 r, .int .u32 x] 50 (0, 0))
  hb : Below g w W
  hs : g + 3 ≤ W.heap.size
theorem gvIn_new (w : World) (v : Value) (m r x : Int) : ∃ w3, w3 = ((w.alloc (.cells #[v, .int .i64 m, .int .u32 r, .int .u32 x] 27 (0, 0))).alloc (.cells #[.slice none 0 0, .int .i64 0, .int .u32 0, .int .u32 0] 50 (0, 0))).alloc (.cells #[.slice none 0 0, .int .i64 m, .int .u32 r, .int .u32 x] 50 (0, 0)) ∧ GvIn w w.heap.size v m r x (.slice none 0 0) w3 := by
  refine ⟨_, rfl, ?_, ?_, ?_, ?_, ?_⟩
  · exact (Below.heap_alloc _ _ _ (by simp only [World.size_alloc]; omega)).trans (heap_alloc_fst w _ _)
  · exact (Below.heap_alloc _ _ _ (by simp only [World.size_alloc]; omega)).trans (heap_alloc_snd w _ _)
  · have := heap_alloc_new ((w.alloc (.cells #[v, .int .i64 m, .int .u32 r, .int .u32 x] 27 (0, 0))).alloc (.cells #[.slice none 0 0, .int .i64 0, .int .u32 0, .int .u32 0] 50 (0, 0))) (.cells #[.slice none 0 0, .int .i64 m, .int .u32 r, .int .u32 x] 50 (0, 0))
    simpa using this
  · exact (((Below.refl _ _).alloc (Nat.le_refl _) _).alloc (by simp) _).alloc (by simp; omega) _
  · simp
/-- What the walk over Taken's round holds. -/
def GvS (g q co i n cap op : Nat) (a : Int) (W : World) : Prop := W.cell? ⟨g, 0, none⟩ = some (.slice (some ⟨q, co, none⟩) n cap) ∧ W.cell? ⟨q, co + i * 2, none⟩ = some (.int .u8 (op : Nat)) ∧ W.cell? ⟨q, co + i * 2 + 1, none⟩ = some (.int .i64 a)
theorem GvS.both {g q co i n cap op : Nat} {a : Int} {W : World} (h : GvS g q co i n cap op a W) : (W.cell? ⟨g, 0, none⟩ = some (.slice (some ⟨q, co, none⟩) n cap) ∧ W.cell? ⟨q, co + i * 2, none⟩ = some (.int .u8 (op : Nat)) ∧ W.cell? ⟨q, co + i * 2 + 1, none⟩ = some (.int .i64 a)) ∧ GvS g q co i n cap op a W := ⟨h, h⟩
theorem GvS.same {g q co i n cap op : Nat} {a : Int} {W W' : World} (h : GvS g q co i n cap op a W) (hb : ∀ k, k < W.heap.size → k = g ∨ k = q → W'.heap[k]? = W.heap[k]?) : GvS g q co i n cap op a W' := by
  obtain ⟨h0, h1, h2⟩ := h
  have l0 := World.block_lt_of_cell? W _ h0
  have l1 := World.block_lt_of_cell? W _ h1
  exact ⟨cell_same h0 (hb _ l0 (by simp)), cell_same h1 (hb _ l1 (by simp)), cell_same h2 (hb _ l1 (by simp))⟩
theorem GvS.drew {g q co i n cap op : Nat} {a : Int} {W : World} (h : GvS g q co i n cap op a W) : GvS g q co i n cap op a W.drew := h
theorem GvS.alloc {g q co i n cap op : Nat} {a : Int} {W : World} (O : Obj) (h : GvS g q co i n cap op a W) : GvS g q co i n cap op a (W.alloc O) := h.same fun k hk _ => Below.heap_alloc _ _ _ hk
theorem GvS.grown {g q co i n cap op : Nat} {a : Int} {W W' : World} {row : Option Nat} (h : GvS g q co i n cap op a W) (hb : W.grownBy W' row) (h0 : some g ≠ row) (h1 : some q ≠ row) : GvS g q co i n cap op a W' :=
  h.same fun k hk e => hb.block k hk (by rcases e with rfl | rfl <;> assumption)
theorem GvS.set {g q co i n cap op b j : Nat} {a : Int} {W : World} (h : GvS g q co i n cap op a W) (v : Value) (h0 : g ≠ b) (h1 : q ≠ b) : GvS g q co i n cap op a (W.setCell ⟨b, j, none⟩ v) :=
  h.same fun k hk e => Below.heap_setCell _ _ _ _ (by rcases e with rfl | rfl <;> assumption)
theorem gv_next {w W WA w8 : World} {g : Nat} {v ov v8 : Value} {m r x : Int} {l : List In} {y : In} (TI : GvIn w g v m r x ov W) (ho : Own W (g + 3) ov l) (hA : Below W.heap.size W WA) (hg : WA.grownBy w8 ov.ownBlock)
    (h8 : w8.ownsRow (g + 3) 71 2 v8 (l.length + 1) (insC l ++ insC [y])) : GvIn w g v m r x v8 (w8.setCell ⟨g + 1 + 1, 0, none⟩ v8) ∧ Own (w8.setCell ⟨g + 1 + 1, 0, none⟩ v8) (g + 3) v8 (l ++ [y]) := by
  have hs := TI.hs
  have sA := hA.size
  have s8 := hg.size
  have hne : ∀ q, q < g + 3 → some q ≠ ov.ownBlock := fun q hq e => by have := (own_lt ho e.symm).2; omega
  have same : ∀ q, q < g + 3 → w8.heap[q]? = W.heap[q]? := fun q hq => (hg.block q (by omega) (hne q hq)).trans (hA.block q (by omega))
  have b8 : Below g w w8 := (TI.hb.trans (hA.mono (by omega))).grown hg (by have := TI.hb.size; omega) (fun q hq => by have := (own_lt ho hq).2; omega)
  refine ⟨⟨?_, ?_, ?_, ?_, ?_⟩, ?_⟩
  · exact (Below.heap_setCell _ _ _ _ (by show g ≠ g + 1 + 1; omega)).trans ((same g (by omega)).trans TI.k0)
  · exact (Below.heap_setCell _ _ _ _ (by show g + 1 ≠ g + 1 + 1; omega)).trans ((same (g + 1) (by omega)).trans TI.k1)
  · have h := block_setCell ((same (g + 2) (by omega)).trans TI.k2) 0 v8
    exact h
  · exact b8.trans (((Only.refl (g + 1 + 1) w8).setCell rfl v8).below (by omega))
  · simp [World.setCell]; omega
  · refine own_blk (w := w8) ?_ (fun q hq => Below.heap_setCell _ _ _ _ ?_)
    · rw [List.length_append, insC_append]; exact h8
    · have := (own_lt h8 hq).2; show q ≠ g + 1 + 1; omega
theorem ret_gprog1 {fn : Func} {p : Tmp} (h : fn.results = #[.cell p 50]) (tmps : Array Value) (w : World) (g : Nat) (cs : Array Value) (hn : cs.size = 4)
    (hp : tmps.getD p undef = .pointer (some ⟨g, 0, none⟩)) (hg : w.heap[g]? = some (.cells cs 50 (0, 0))) :
    (results fn tmps).run Try.prog w = .ok (.agg cs) w := by
  have hp' : tmps[p]?.getD undef = .pointer (some ⟨g, 0, none⟩) := by simpa using hp
  have hi : (Try.prog.info? 50).map (·.size) = some cs.size := by rw [hn]; kernel_rfl
  have hl := run_loadVar_row (P := Try.prog) w g 50 50 cs (0, 0) _ hg Try.underlying50 rfl hi
  simp [results, h, hp', asAddr, hl]
set_option maxRecDepth 100000 in
set_option maxHeartbeats 4000000 in
theorem Given_ok (A : Option Addr) (cap : Nat) (m r x : Int) (code : List In) (hl : code.length ≤ 1000) (w : World) (hv : CodeAt w w.heap.size A code) :
    Calls Try.prog 15 #[.agg #[.slice A code.length cap, .int .i64 m, .int .u32 r, .int .u32 x]] w fun e w' => ∃ v', e = .returned (.agg #[v', .int .i64 m, .int .u32 r, .int .u32 x]) ∧ Own w' w.heap.size v' code ∧ Below w.heap.size w w' := by
  obtain ⟨v, ev⟩ : ∃ v, v = Value.slice A code.length cap := ⟨_, rfl⟩
  rw [← ev]
  obtain ⟨n, en⟩ : ∃ n, n = code.length := ⟨_, rfl⟩
  rw [← en] at ev
  obtain ⟨g, eg⟩ : ∃ g, g = w.heap.size := ⟨_, rfl⟩
  obtain ⟨w3, e3, TI⟩ := gvIn_new w v m r x
  rw [← eg] at TI
  have H := Lib.hid (And.intro hv (And.intro hl (And.intro en (And.intro ev (And.intro eg TI)))))
  rw [ev] at e3 ⊢
  have k0 := TI.k0
  rw [ev] at k0
  clear hv hl en ev TI
  go_enter Try.func15, Try.ntmps15
  go_upto_region 2 with fail
  rw [← e3, ← eg]
  have EG := Lib.hid (And.intro e3 eg)
  clear e3 eg k0
  go_wp2_with fail
  go_loopg [4] n (fun gh iv wr => ∃ (i : Nat) (ov : Value), gh + i = n ∧ iv = .int .i64 (i : Nat) ∧ GvIn w g v m r x ov wr ∧ Own wr (g + 3) ov (code.take i))
  case atStart => exact ⟨0, .slice none 0 0, rfl, rfl, H.out.2.2.2.2.2, ⟨rfl, Or.inl ⟨rfl, rfl⟩⟩⟩
  case round =>
  obtain ⟨i, ov, hi, rfl, TI, ho⟩ := hrel
  obtain ⟨W, eW⟩ : ∃ W, W = wr := ⟨_, rfl⟩
  rw [← eW] at TI ho ⊢
  clear eW
  have k0 := TI.k0
  have ev := H.out.2.2.2.1
  rw [ev] at k0
  clear ev
  obtain ⟨d0, d1, d2, d3, z0, z1, z2, z3⟩ := ex_facts k0
  rcases gk with _ | k
  · have hin : i = n := by omega
    have ht : code.take i = code := List.take_of_length_le (by have := H.out.2.2.1; omega)
    rw [ht] at ho
    obtain ⟨f0, f1, f2, f3, -⟩ := ex_facts TI.k2
    obtain ⟨p0, p1, p2, p3, y0, y1, y2, y3⟩ := ex_facts TI.k1
    obtain ⟨Ao, co, rfl⟩ : ∃ A c, ov = .slice A code.length c := by
      rcases ho.2 with ⟨h, e⟩ | ⟨g', cap, cur, h, -⟩
      · exact ⟨none, 0, by rw [h, e]⟩
      · exact ⟨_, cap, h⟩
    have i2 : decide ((i : Int) < (n : Int)) = false := decide_eq_false (by omega)
    have HT := Lib.hid (And.intro TI ho)
    subst hin
    clear TI ho hi ht k0 z0 z1 z2 z3
    go_wp2_with fail
    obtain ⟨TI, ho⟩ := HT.out
    refine bodyPost_ret (ret_gprog1 rfl _ _ (g + 1) _ rfl rfl (put4_block (.slice Ao code.length co) (.int .i64 m) (.int .u32 r) (.int .u32 x) TI.k1)) rfl ?_
    have eg := EG.out.2
    refine ⟨_, rfl, ?_, ?_⟩
    · rw [← eg]
      have h2 : Own (put4 W (g + 1) (.slice Ao code.length co) (.int .i64 m) (.int .u32 r) (.int .u32 x)) (g + 3) (.slice Ao code.length co) code := own_blk ho (fun q hq => put4_ne _ _ _ _ _ _ (by have := (own_lt ho hq).2; omega))
      exact own_rebase h2 (by omega)
    · rw [← eg]; exact put4_below _ _ _ _ TI.hb (by omega)
  · obtain ⟨⟨op, a⟩, hx⟩ : ∃ x, code[i]? = some x := ⟨_, List.getElem?_eq_getElem (by have := H.out.2.2.1; omega)⟩
    obtain ⟨q, co, rfl, hq, c0, c1⟩ := H.out.1 i (op, a) hx
    have bw : Below w.heap.size w W := by rw [← EG.out.2]; exact TI.hb
    have HC := Lib.hid (And.intro c0 c1)
    have c0 := (bw.cell (World.block_lt_of_cell? w _ c0)).trans c0
    have c1 := (bw.cell (World.block_lt_of_cell? w _ c1)).trans c1
    have hbl := World.block_lt_of_cell? W _ c0
    obtain ⟨f0, -, -, -, y0, -⟩ := ex_facts TI.k2
    have i0 : (0 : Int) ≤ (i : Int) := by omega
    have i1 : (i : Int) < (n : Int) := by omega
    have i2 : decide (i < n) = true := decide_eq_true (by omega)
    have u1 : wrap64 ((i : Int) + 1) = (i : Int) + 1 := by have := H.out.2.1; have := H.out.2.2.1; unfold wrap64; omega
    obtain ⟨i9, hi9, hz0, hz1, hz2⟩ := info_parts infoInsG
    have HI := Lib.hid (And.intro hi9 (And.intro hz0 (And.intro hz1 hz2)))
    have HT := Lib.hid (And.intro TI (And.intro ho (And.intro hi (And.intro hx True.intro))))
    have gs3 : g + 3 ≤ W.heap.size := TI.hs
    have hti : (code.take i).length = i := by rw [List.length_take]; have := H.out.2.2.1; omega
    have HO := Lib.hid (show ∀ O, (W.alloc O).ownsRow (g + 3) 71 2 ov i (insC (code.take i)) from fun O => by have h := World.ownsRow.alloc ho O; rw [hti] at h; exact h)
    have HN := Lib.hid (And.intro gs3 (show i + 1 ≤ maxLen ∧ (i + 1) * 16 ≤ 140737488355328 from by have := H.out.2.1; have := H.out.2.2.1; unfold maxLen; omega))
    clear TI ho hi hx hq bw k0 hi9 hz0 hz1 hz2 hti gs3 z0 z1 z2 z3 d1 d2 d3
    have HF := Lib.hid (And.intro (show ∀ O, g + 1 + 1 < (W.alloc O).heap.size from fun O => by have := HN.out.1; simp; omega) (And.intro (show some (g + 1 + 1) ≠ ov.ownBlock from fun e => by have := (own_lt HT.out.2.1 e.symm).2; omega) (And.intro (show ∀ O, (W.alloc O).cell? ⟨g + 1 + 1, 0, none⟩ = some ov from fun O => cell_al O f0) (And.intro (show ∀ O, (W.alloc O).frozen? ⟨g + 1 + 1, 0, none⟩ = false from fun O => free_of_block ((Below.heap_alloc W O _ (by have := HN.out.1; show g + 2 < _; omega)).trans HT.out.1.k2) 0) (show ∀ O, g + 3 ≤ (W.alloc O).heap.size from fun O => by have := HN.out.1; simp; omega)))))
    have fA : ∀ O, (W.alloc O).cell? ⟨g + 1 + 1, 0, none⟩ = some ov := HF.out.2.2.1
    have fD : ∀ O, (W.alloc O).drew.cell? ⟨g + 1 + 1, 0, none⟩ = some ov := HF.out.2.2.1
    have P0 : GvS g q co i n cap op a W := ⟨d0, c0, c1⟩
    have n1 : g ≠ g + 1 + 1 := by omega
    have n2 : q ≠ g + 1 + 1 := by have := HF.out.2.1; have h1 : q < w.heap.size := World.block_lt_of_cell? w _ (HC.out.1); have h2 := EG.out.2; omega
    have n3 : some g ≠ ov.ownBlock := fun e => by have := (own_lt HT.out.2.1 e.symm).2; omega
    have n4 : some q ≠ ov.ownBlock := fun e => by have := (own_lt HT.out.2.1 e.symm).2; have h1 : q < w.heap.size := World.block_lt_of_cell? w _ (HC.out.1); have h2 := EG.out.2; omega
    go_upto_region 5 with fail
    clear d0 c0 c1
    have f0' : W.cell? ⟨g + 1 + 1, 0, none⟩ = some ov := f0
    have hgl := World.block_lt_of_cell? W _ f0'
    have hg0 := World.block_lt_of_cell? W _ P0.1
    have d0 := P0.1
    have c0 := P0.2.1
    have c1 := P0.2.2
    have hbl1 := World.block_lt_of_cell? W _ c1
    clear fA fD f0 y0
    go_region_law (refine step_append_lies _ rfl (.tmp 20) (.tmp 34) 48 rfl (g + 3) 71 i9 _ 2 16 Try.underlying48 HI.out.1 HI.out.2.1 HI.out.2.2.1 HI.out.2.2.2 rfl (by decide) ov i (insC (code.take i)) rfl (HO.out _) _ 1 1 (insC [(op, a)]) rfl rfl (World.news_of_block (heap_alloc_new _ _)) (insC_one _) (by decide) HN.out.2.1 HN.out.2.2 (HF.out.2.2.2.2 _) _ rfl ?_
                   intro gb cb w8 hown8 hg8 hat8 hlt8
                   have f8 : w8.cell? ⟨g + 1 + 1, 0, none⟩ = some ov := (hg8.cell_far ⟨g + 1 + 1, 0, none⟩ (HF.out.1 _) HF.out.2.1).trans (HF.out.2.2.1 _)
                   have y8 : w8.frozen? ⟨g + 1 + 1, 0, none⟩ = false := (hg8.frozen_far ⟨g + 1 + 1, 0, none⟩ (HF.out.1 _) HF.out.2.1).trans (HF.out.2.2.2.1 _)
                   have HV := Lib.hid (And.intro hown8 (And.intro hg8 hlt8)); clear hown8 hg8 hat8 hlt8)
    all_goals go_wp2_with fail
    all_goals (
      obtain ⟨hown8, hg8, -⟩ := HV.out
      obtain ⟨TI, ho, hi, hx, -⟩ := HT.out
      have hti : (code.take i).length = i := by rw [List.length_take]; have := H.out.2.2.1; omega
      have htk : code.take (i + 1) = code.take i ++ [(op, a)] := by rw [List.take_add_one, hx]; rfl
      have NX : GvIn w g v m r x (.slice (some ⟨gb, 0, none⟩) (i + 1) cb) (w8.setCell ⟨g + 1 + 1, 0, none⟩ (.slice (some ⟨gb, 0, none⟩) (i + 1) cb)) ∧ Own (w8.setCell ⟨g + 1 + 1, 0, none⟩ (.slice (some ⟨gb, 0, none⟩) (i + 1) cb)) (g + 3) (.slice (some ⟨gb, 0, none⟩) (i + 1) cb) (code.take i ++ [(op, a)]) :=
        gv_next TI ho (by repeat (first | exact Below.refl _ _ | apply Below.drew | apply belowAlloc)) hg8 (by rw [hti]; exact hown8)
      rw [← htk] at NX
      have HZ := Lib.hid NX
      clear NX
      go_roundg k
      case measure => omega
      case rel => exact ⟨i + 1, _, by omega, by go_num, HZ.out.1, HZ.out.2⟩)
end Go.Proofs.Ytocbddajakbemaa
