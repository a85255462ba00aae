/- vm, the front end: block. vm, the front end: branch at a while; statement, all. vm, the front end: statement at a while; Parse. -/
import Derived.Test.YtocbddajakbemaaGreatMK
set_option linter.unusedVariables false
set_option linter.unusedSimpArgs false
set_option linter.unusedSimpArgs false
namespace Go.Proofs.YtocbddajakbemaaGreat
section
open Go.RowKit
theorem ResS1.out {w w' : World} {s : S1} {i2 : Nat} {e : Ending} (h : ResS1 w s i2 e w') :
    ∃ A cp, e = .returned (.tuple #[.agg #[.int .u8 (s.op : Nat), .int .i64 s.num, .string s.name, .slice A s.args.many cp, .slice none 0 0, .slice none 0 0], .int .i64 (i2 : Nat), .int .i64 0]) ∧ ExAt w' (fun q => w.heap.size ≤ q ∧ q < w'.heap.size) s.args A cp ∧ Below w.heap.size w w' := h
def BRel (l : List Tk) (f o B : Nat) (w : World) (b : List S1) (i2 : Nat) (gh : Nat) (av ov : Value) (wr : World) : Prop :=
  ∃ (i : Nat) (acc : List S1) (recs : List SR), pL l f gh i o acc = some (b, i2) ∧ av = .int .i64 (i : Nat) ∧ recs.map SR.s = acc.map .si ∧ recs.length + gh ≤ 1000 ∧ wr.ownsRow B 39 6 ov recs.length (srs recs) ∧
    RowR wr (fun q => (B ≤ q ∧ q < wr.heap.size) ∧ ov.ownBlock ≠ some q) recs ∧ Below B w wr
theorem row_more {B : Nat} {wr w3 w4 w5 : World} {ov v5 : Value} {recs : List SR} {s : S2} {A1 BA : Option Addr} {q1 bc : Nat} (hown : wr.ownsRow B 39 6 ov recs.length (srs recs)) (hr : RowR wr (fun q => (B ≤ q ∧ q < wr.heap.size) ∧ ov.ownBlock ≠ some q) recs)
    (hB : B ≤ wr.heap.size) (hx3 : ExAt w3 (fun q => wr.heap.size ≤ q ∧ q < w3.heap.size) s.args A1 q1) (hs3 : Sts0 w3 (fun q => wr.heap.size ≤ q ∧ q < w3.heap.size) s.body BA) (hb3 : Below wr.heap.size wr w3) (h34 : Below w3.heap.size w3 w4) (hg5 : w4.grownBy w5 ov.ownBlock)
    (hat : v5.ownBlock = ov.ownBlock ∨ v5.ownBlock = some w4.heap.size) : RowR w5 (fun q => (B ≤ q ∧ q < w5.heap.size) ∧ v5.ownBlock ≠ some q) (recs ++ [⟨s, A1, q1, BA, bc⟩]) := by
  have s3 := hb3.size
  have s4 := h34.size
  have s5 := hg5.size
  have hq : ∀ q, q < w3.heap.size → ov.ownBlock ≠ some q → w5.heap[q]? = w3.heap[q]? := fun q h1 h2 => (hg5.block q (by omega) (fun e => h2 e.symm)).trans (h34.block q h1)
  have hn : ∀ q, q < w3.heap.size → ov.ownBlock ≠ some q → v5.ownBlock ≠ some q := by
    intro q h1 h2 e
    rcases hat with h | h
    · exact h2 (h ▸ e)
    · rw [h] at e; injection e with e; omega
  have hnew : ∀ q, wr.heap.size ≤ q → ov.ownBlock ≠ some q := fun q h1 e => by have := (own_lt hown e).1; omega
  intro r hm
  rcases List.mem_append.1 hm with hm | hm
  · obtain ⟨h1, h2⟩ := hr r hm
    have k1 : ∀ q, (B ≤ q ∧ q < wr.heap.size) ∧ ov.ownBlock ≠ some q → w5.heap[q]? = wr.heap[q]? := fun q h => (hq q (by omega) h.2).trans (hb3.block q h.1.2)
    have k2 : ∀ q, (B ≤ q ∧ q < wr.heap.size) ∧ ov.ownBlock ≠ some q → (B ≤ q ∧ q < w5.heap.size) ∧ v5.ownBlock ≠ some q := fun q h => ⟨⟨h.1.1, by omega⟩, hn q (by omega) h.2⟩
    exact ⟨h1.step k1 k2, h2.step k1 k2⟩
  · simp only [List.mem_singleton] at hm
    subst hm
    have k1 : ∀ q, wr.heap.size ≤ q ∧ q < w3.heap.size → w5.heap[q]? = w3.heap[q]? := fun q h => hq q h.2 (hnew q h.1)
    have k2 : ∀ q, wr.heap.size ≤ q ∧ q < w3.heap.size → (B ≤ q ∧ q < w5.heap.size) ∧ v5.ownBlock ≠ some q := fun q h => ⟨⟨by omega, by omega⟩, hn q h.2 (hnew q h.1)⟩
    exact ⟨hx3.step k1 k2, hs3.step k1 k2⟩
set_option maxRecDepth 100000 in
set_option maxHeartbeats 4000000 in
theorem block_ok (l : List Tk) (A : Option Addr) (cap f i o : Nat) (b : List S1) (i2 : Nat) (hc : isM l i s_cu = some true) (ho : o < 200) (hp : pL l f f (i + 1) o [] = some (b, i2)) (hl : l.length ≤ 100000) (hf : f ≤ 1000) (w : World) (ht : TksAt w A l) :
    Calls Tryz.prog 97 #[.slice A l.length cap, .int .i64 (i : Nat), .int .i64 (o : Nat)] w (ResB w b i2) := by
  have hi := isM_lt hc
  have EN := enter_ok A cap l i o s_cu hc ho (by omega) w ht
  obtain ⟨g, eg⟩ : ∃ g, g = w.heap.size := ⟨_, rfl⟩
  have R0 : BRel l f o g w b i2 f (.int .i64 ((i : Int) + 1)) (.slice none 0 0) w := ⟨i + 1, [], [], hp, rfl, rfl, by simpa using hf, ⟨rfl, Or.inl ⟨rfl, rfl⟩⟩, fun r hr => (by cases hr), Below.refl _ _⟩
  have IS : ∀ W, Below g w W → ∀ j bb, isM l j s_cuc = some bb → Calls Tryz.prog 62 #[.slice A l.length cap, .int .i64 (j : Nat), .string s_cuc] W fun e w' => e = .returned (.bool bb) ∧ W = w' := fun W hW j bb h => is_ok A cap l j s_cuc bb h W (ht.below hW eg)
  have ST : ∀ W, Below g w W → ∀ j s j2, pS1 l f j (o + 1) = some (s, j2) → Calls Tryz.prog 37 #[.slice A l.length cap, .int .i64 (j : Nat), .int .i64 ((o : Int) + 1)] W (ResS1 W s j2) := by
    intro W hW j s j2 h
    have := st1_ok l A cap f j (o + 1) s j2 h hl W (ht.below hW eg)
    rw [Int.natCast_add] at this
    exact this
  have LT : ∀ j bb, isM l j s_cuc = some bb → j < 100000 := fun j bb h => by have := isM_lt h; omega
  have w2' : wrap64 ((o : Int) + 1) = (o : Int) + 1 := by unfold wrap64; omega
  obtain ⟨i9, hi9, hz0, hz1, hz2⟩ := info_parts infoStmt
  have HI := Lib.hid (And.intro hi9 (And.intro hz0 (And.intro hz1 hz2))); clear hi9 hz0 hz1 hz2
  obtain ⟨n, en⟩ : ∃ n, n = l.length := ⟨_, rfl⟩
  rw [← en] at EN IS ST ⊢
  have H := Lib.hid (And.intro IS (And.intro ST (And.intro LT (And.intro R0 (And.intro eg (Below.refl g w))))))
  clear IS ST LT R0 hi hc ho hp hl hf ht en eg
  go_enter Tryz.func97, Tryz.ntmps97
  go_wp2_with (go_at_call 95; refine EN.mono ?_; rintro e w' ⟨rfl, rfl⟩)
  clear EN
  go_loopg [1, 10] f (fun gh av ov wr => BRel l f o g w b i2 gh av ov wr)
  case atStart => exact H.out.2.2.2.1
  case round =>
  obtain ⟨j, acc, recs, hr, rfl, hm, hln, hown, hrow, hb⟩ := hrel
  rcases gk with _ | k
  · cases hr
  rw [pL] at hr
  obtain ⟨W, eW⟩ : ∃ W, W = wr := ⟨_, rfl⟩
  rw [← eW] at hown hrow hb ⊢
  clear eW
  rcases hbb : isM l j s_cuc with _ | bb
  · rw [hbb] at hr; cases hr
  have ISx := H.out.1 W hb j bb hbb
  have hj := H.out.2.2.1 j bb hbb
  cases bb
  · rw [hbb] at hr
    simp only at hr
    rcases hst : pS1 l f j (o + 1) with _ | ⟨s, j2⟩
    · rw [hst] at hr; cases hr
    rw [hst] at hr
    simp only at hr
    have STx := H.out.2.1 W hb j s j2 hst
    have HQ := Lib.hid (And.intro hr (And.intro hm (And.intro hln (And.intro hown (And.intro hrow hb)))))
    clear hr hm hln hown hrow hb hbb hst
    go_upto_region 6 with (go_at_call 62; refine ISx.mono ?_; rintro e w' ⟨rfl, rfl⟩)
    clear ISx
    go_upto_region 9 with (go_at_call 37; refine STx.mono ?_; rintro e w3 hr; obtain ⟨A1, q1, rfl, hx3, hb3⟩ := hr.out; have HR := Lib.hid (And.intro hx3 hb3); clear hx3 hb3 hr)
    clear STx
    obtain ⟨nw, enw⟩ : ∃ nw, nw = SR.cells ⟨.si s, A1, q1, none, 0⟩ := ⟨_, rfl⟩
    have hbW := HQ.out.2.2.2.2.2
    have hWs : g ≤ W.heap.size := by rw [H.out.2.2.2.2.1]; exact hbW.size
    have hb3 := HR.out.2
    obtain ⟨Y, eY⟩ : ∃ Y : Obj, Y = .cells #[.int .u8 (s.op : Nat), .int .i64 s.num, .string s.name, .slice A1 s.args.many q1, .slice none 0 0, .slice none 0 0] 39 (0, 0) := ⟨_, rfl⟩
    have HN1 := Lib.hid (show nw.length = 1 * 6 from by rw [enw]; rfl)
    have HN2 := Lib.hid (show ∀ j u, nw[j]? = some u → ((w3.alloc (.cells #[.int .u8 (s.op : Nat), .int .i64 s.num, .string s.name, .slice A1 s.args.many q1, .slice none 0 0, .slice none 0 0] 39 (0, 0))).alloc (.cells #[.int .u8 (s.op : Nat), .int .i64 s.num, .string s.name, .slice A1 s.args.many q1, .slice none 0 0, .slice none 0 0] 39 (0, 0))).cell? ((⟨w3.heap.size + 1, 0, none⟩ : Addr).add j) = some u from by rw [enw]; exact news_new (w3.alloc _) _ _ _ (by simp))
    have HN3 := Lib.hid (show ∀ u ∈ nw, u.oneCell' = true from by rw [enw]; exact sr_one _)
    have HN4 := Lib.hid (show recs.length + 1 ≤ maxLen ∧ (recs.length + 1) * 104 ≤ 140737488355328 from by have := HQ.out.2.2.1; unfold maxLen; omega)
    have HN5 := Lib.hid (show ∀ A B, g ≤ ((w3.alloc A).alloc B).heap.size from fun A B => by have := hb3.size; simp; omega)
    have h34 : ∀ A B, Below w3.heap.size w3 ((w3.alloc A).alloc B) := fun A B => ((Below.refl _ _).alloc (Nat.le_refl _) _).alloc (by simp) _
    have HO := Lib.hid (show ∀ A B, ((w3.alloc A).alloc B).ownsRow g 39 6 u10 recs.length (srs recs) from fun A B => ((own_same HQ.out.2.2.2.1 fun q hq => hb3.block q (by omega)).alloc _).alloc _)
    have HEN := Lib.hid (And.intro enw (And.intro hWs h34)); clear enw hbW hWs hb3 h34 eY
    go_wp2_with (at_builtin; refine wpList_append_own_at _ rfl (.tmp 42) (.tmp 44) 22 rfl g 39 i9 _ 6 104 Tryz.underlying22 HI.out.1 HI.out.2.1 HI.out.2.2.1 HI.out.2.2.2 rfl (by decide) u10 recs.length (srs recs) rfl (HO.out _ _) ⟨w3.heap.size + 1, 0, none⟩ 1 1 nw rfl HN1.out HN2.out HN3.out HN4.out.1 HN4.out.2 (HN5.out _ _) ?_)
    intro v5 w5 hown5 hg5 _ hat5
    have HV := Lib.hid (And.intro hown5 (And.intro hg5 hat5)); clear hown5 hg5 hat5
    go_wp2_with fail
    go_roundg k
    case measure => omega
    case rel =>
      obtain ⟨hr, hm, hln, hown, hrow, hb⟩ := HQ.out
      obtain ⟨hown5, hg5, hat5⟩ := HV.out
      obtain ⟨enw, hWs, h34⟩ := HEN.out
      obtain ⟨hx3, hb3⟩ := HR.out
      refine ⟨j2, acc ++ [s], recs ++ [⟨.si s, A1, q1, none, 0⟩], hr, rfl, by rw [List.map_append, List.map_append, hm]; rfl, by simp; omega, ?_, ?_, ?_⟩
      · rw [List.length_append, srs_snoc, ← enw]; exact hown5
      · exact row_more hown hrow hWs hx3 (fun j s hj => by simp [S2.body] at hj) hb3 (h34 _ _) hg5 (hat5.imp_right fun h => by rw [h]; simp)
      · exact ((hb.trans (hb3.mono hWs)).trans ((h34 _ _).mono (by have := hb3.size; omega))).grown hg5 (HN5.out _ _) (fun q hq => (own_lt hown hq).2)
  · rw [hbb] at hr
    simp only [Option.some.injEq, Prod.mk.injEq] at hr
    obtain ⟨rfl, rfl⟩ := hr
    have w1' : wrap64 ((j : Int) + 1) = ((j + 1 : Nat) : Int) := by unfold wrap64; omega
    obtain ⟨BA, bc, rfl, hst⟩ := row_sts (ok := fun q => g ≤ q ∧ q < W.heap.size) hown (hrow.step (fun q _ => rfl) (fun q h => h.1)) (fun q h1 h2 => ⟨h1, h2⟩)
    have hlen : recs.length = acc.length := by have := congrArg List.length hm; simpa using this
    rw [hm] at hst
    have HQ := Lib.hid (And.intro hst hb)
    rw [hlen] at ⊢
    clear hm hln hown hrow hb hst hbb hj hlen
    go_wp2_with (go_at_call 62; refine ISx.mono ?_; rintro e w' ⟨rfl, rfl⟩)
    go_ret3
    obtain ⟨hst, hb⟩ := HQ.out
    have eg := H.out.2.2.2.2.1
    refine ⟨BA, bc, by rw [← w1']; rfl, fun j s hj => ?_, by rw [← eg]; exact hb⟩
    obtain ⟨g', A', cp', BA', bc', e, h1, h2, h3, -⟩ := hst j (.si s) (by rw [List.getElem?_map, hj]; rfl)
    rw [← eg]
    exact ⟨g', A', cp', BA', bc', e, h1, h2, h3⟩
end
end Go.Proofs.YtocbddajakbemaaGreat
namespace Go.Proofs.YtocbddajakbemaaGreat
section
open Go.RowKit
structure BrIn (w : World) (g : Nat) (a0 a3 a4 : Value) (W : World) : Prop where
  k0 : W.heap[g]? = some (.cells stZ 39 (0, 0))
  k1 : W.heap[g + 1]? = some (.cells #[a0, .int .i64 0, .string ⟨#[]⟩, a3, a4, .slice none 0 0] 39 (0, 0))
  hb : Below g w W
  hs : g + 2 ≤ W.heap.size
theorem BrIn.below {w W W' : World} {g : Nat} {a0 a3 a4 : Value} (h : BrIn w g a0 a3 a4 W) (hb : Below W.heap.size W W') : BrIn w g a0 a3 a4 W' := by
  have := h.hs
  have := hb.size
  exact ⟨(hb.block _ (by omega)).trans h.k0, (hb.block _ (by omega)).trans h.k1, h.hb.trans (hb.mono (by omega)), by omega⟩
theorem BrIn.set0 {w W : World} {g : Nat} {a0 a3 a4 : Value} (h : BrIn w g a0 a3 a4 W) (v : Value) : BrIn w g v a3 a4 (W.setCell ⟨g + 1, 0, none⟩ v) :=
  ⟨(Below.heap_setCell _ _ _ _ (by simp)).trans h.k0, block_setCell h.k1 0 v, h.hb.setCell (p := ⟨g + 1, 0, none⟩) (by simp) v, by simpa using h.hs⟩
theorem BrIn.set3 {w W : World} {g : Nat} {a0 a3 a4 : Value} (h : BrIn w g a0 a3 a4 W) (v : Value) : BrIn w g a0 v a4 (W.setCell ⟨g + 1, 3, none⟩ v) :=
  ⟨(Below.heap_setCell _ _ _ _ (by simp)).trans h.k0, block_setCell h.k1 3 v, h.hb.setCell (p := ⟨g + 1, 3, none⟩) (by simp) v, by simpa using h.hs⟩
theorem BrIn.set4 {w W : World} {g : Nat} {a0 a3 a4 : Value} (h : BrIn w g a0 a3 a4 W) (v : Value) : BrIn w g a0 a3 v (W.setCell ⟨g + 1, 4, none⟩ v) :=
  ⟨(Below.heap_setCell _ _ _ _ (by simp)).trans h.k0, block_setCell h.k1 4 v, h.hb.setCell (p := ⟨g + 1, 4, none⟩) (by simp) v, by simpa using h.hs⟩
theorem brIn_new (w : World) : BrIn w w.heap.size (.int .u8 4) (.slice none 0 0) (.slice none 0 0) ((w.alloc (.cells stZ 39 (0, 0))).alloc (.cells #[.int .u8 4, .int .i64 0, .string ⟨#[]⟩, .slice none 0 0, .slice none 0 0, .slice none 0 0] 39 (0, 0))) :=
  ⟨heap_alloc_fst w _ _, heap_alloc_snd w _ _, ((Below.refl _ _).alloc (Nat.le_refl _) _).alloc (by simp) _, by simp⟩
set_option maxRecDepth 100000 in
set_option maxHeartbeats 4000000 in
theorem branch_ok (l : List Tk) (A : Option Addr) (cap f i o j i3 : Nat) (x : Ex) (b : List S1) (hw : isM l i s_while = some true) (hp : pE l f (.ins (i + 1) o s_par s_parc) = some (x, j)) (hc : isM l j s_cu = some true) (ho : o < 200)
    (hb : pL l f f (j + 1) o [] = some (b, i3)) (hl : l.length ≤ 100000) (hf : f ≤ 1000) (w : World) (ht : TksAt w A l) :
    Calls Tryz.prog 63 #[.slice A l.length cap, .int .i64 (i : Nat), .int .i64 (o : Nat)] w (ResS2 w (.wh x b) i3) := by
  have hi := isM_lt hw
  obtain ⟨g, eg⟩ : ∃ g, g = w.heap.size := ⟨_, rfl⟩
  obtain ⟨w2, e2⟩ : ∃ w2, w2 = (w.alloc (.cells stZ 39 (0, 0))).alloc (.cells #[.int .u8 4, .int .i64 0, .string ⟨#[]⟩, .slice none 0 0, .slice none 0 0, .slice none 0 0] 39 (0, 0)) := ⟨_, rfl⟩
  have BI := brIn_new w
  rw [← eg, ← e2] at BI
  have IS := is_ok A cap l i s_while true hw w2 (ht.below BI.hb eg)
  have IN : ∀ W, Below g w W → Calls Tryz.prog 60 #[.slice A l.length cap, .int .i64 ((i : Int) + 1), .int .i64 (o : Nat), .string s_par, .string s_parc, .int .i64 1] W (ResI W x j) := by
    intro W hW
    have := (PE_ok l A cap hl f).ins W (i + 1) o s_par s_parc x j (ht.below hW eg) hp
    rw [Int.natCast_add] at this
    exact this
  have BL : ∀ W, Below g w W → Calls Tryz.prog 97 #[.slice A l.length cap, .int .i64 (j : Nat), .int .i64 (o : Nat)] W (ResB W b i3) :=
    fun W hW => block_ok l A cap f j o b i3 hc ho hb hl hf W (ht.below hW eg)
  have w1 : wrap64 ((i : Int) + 1) = (i : Int) + 1 := by unfold wrap64; omega
  have e3 := e2
  unfold stZ at e3
  obtain ⟨n, en⟩ : ∃ n, n = l.length := ⟨_, rfl⟩
  rw [← en] at IS IN BL ⊢
  have H := Lib.hid (And.intro BI (And.intro IN (And.intro BL eg)))
  have B3 := BI.set0 (.int .u8 5)
  have IN3 := IN _ B3.hb
  obtain ⟨m0, f0⟩ : w2.cell? ⟨g + 1, 0, none⟩ = some (.int .u8 4) ∧ w2.frozen? ⟨g + 1, 0, none⟩ = false := ⟨(cell_of_block BI.k1 0).trans rfl, free_of_block BI.k1 0⟩
  obtain ⟨w3, ew3⟩ : ∃ w3, w3 = w2.setCell ⟨g + 1, 0, none⟩ (.int .u8 5) := ⟨_, rfl⟩
  rw [← ew3] at B3 IN3
  have HB3 := Lib.hid B3
  clear BI IN BL hi hw hp hc ho hb hl hf ht en e2 B3
  go_enter Tryz.func63, Tryz.ntmps63
  go_upto_region 2 with fail
  rw [← e3, ← eg]
  clear e3 eg
  go_upto_region 4 with (go_at_call 62; refine IS.mono ?_; rintro e w' ⟨rfl, rfl⟩)
  rw [← ew3]
  clear IS m0 f0 ew3
  go_upto_region 5 with (go_at_call 60; refine IN3.mono ?_; rintro e w4 ⟨bb, cp, A1, q1, rfl, hr4⟩; have S4 := HB3.out.below hr4.2.2.2.2; obtain ⟨⟨d0, d1, d2, d3, d4, d5⟩, z0, z1, z2, z3, z4, z5⟩ := st_facts S4.k1; have HS4 := Lib.hid (And.intro S4 hr4); clear S4 hr4)
  clear IN3
  obtain ⟨w5, ew5⟩ : ∃ w5, w5 = w4.setCell ⟨g + 1, 3, none⟩ (.slice (some ⟨bb, 0, none⟩) 1 cp) := ⟨_, rfl⟩
  have S5 := HS4.out.1.set3 (.slice (some ⟨bb, 0, none⟩) 1 cp)
  rw [← ew5] at S5
  have BLx := H.out.2.2.1 w5 S5.hb
  have HS5 := Lib.hid S5
  clear S5
  go_upto_region 8 with fail
  rw [← ew5]
  have HE5 := Lib.hid ew5
  clear ew5 d0 d1 d2 d3 d4 d5 z0 z1 z2 z3 z4 z5
  go_upto_region 9 with (go_at_call 97; refine BLx.mono ?_; rintro e w6 ⟨BA, bc, rfl, hs6, hb6⟩; have S6 := HS5.out.below hb6; obtain ⟨⟨d0, d1, d2, d3, d4, d5⟩, z0, z1, z2, z3, z4, z5⟩ := st_facts S6.k1; have HS6 := Lib.hid (And.intro S6 (And.intro hs6 hb6)); clear S6 hs6 hb6)
  clear BLx
  obtain ⟨w7, ew7⟩ : ∃ w7, w7 = w6.setCell ⟨g + 1, 4, none⟩ (.slice BA b.length bc) := ⟨_, rfl⟩
  have S7 := HS6.out.1.set4 (.slice BA b.length bc)
  rw [← ew7] at S7
  go_upto_region 12 with fail
  rw [← ew7]
  have HE7 := Lib.hid ew7
  clear ew7 d0 d1 d2 d3 d4 d5 z0 z1 z2 z3 z4 z5
  obtain ⟨⟨d0, d1, d2, d3, d4, d5⟩, z0, z1, z2, z3, z4, z5⟩ := st_facts S7.k1
  obtain ⟨⟨h0, h1, h2, h3, h4, h5⟩, y0, y1, y2, y3, y4, y5⟩ := st_facts S7.k0
  have HS7 := Lib.hid S7
  clear S7
  go_wp2_with fail
  have S7 := HS7.out
  refine bodyPost_ret (ret_st3 rfl _ _ g _ rfl rfl (put6_block (.int .u8 5) (.int .i64 0) (.string ⟨#[]⟩) (.slice (some ⟨bb, 0, none⟩) 1 cp) (.slice BA b.length bc) (.slice none 0 0) S7.k0)) rfl ?_
  obtain ⟨S4, hbb, how, hec, hea, hb4⟩ := HS4.out
  obtain ⟨S6, hs6, hb6⟩ := HS6.out
  have eg := H.out.2.2.2
  have p3 := HB3.out.hs
  have p4 := hb4.size
  have p5 : w5.heap.size = w4.heap.size := by rw [HE5.out]; simp
  have p6 := hb6.size
  have p7 : w7.heap.size = w6.heap.size := by rw [HE7.out]; simp
  have hq7 : ∀ q, g + 2 ≤ q → (put6 w7 g (.int .u8 5) (.int .i64 0) (.string ⟨#[]⟩) (.slice (some ⟨bb, 0, none⟩) 1 cp) (.slice BA b.length bc) (.slice none 0 0)).heap[q]? = w6.heap[q]? := by
    intro q hq
    refine (put6_ne _ _ _ _ _ _ _ _ (by omega)).trans ?_
    rw [HE7.out]
    exact Below.heap_setCell _ _ _ _ (by simp; omega)
  have hq5 : ∀ q, g + 2 ≤ q → q < w4.heap.size → w6.heap[q]? = w4.heap[q]? := by
    intro q hq hlt
    refine (hb6.block q (by omega)).trans ?_
    rw [HE5.out]
    exact Below.heap_setCell _ _ _ _ (by simp; omega)
  have bz := put6_below (.int .u8 5) (.int .i64 0) (.string ⟨#[]⟩) (.slice (some ⟨bb, 0, none⟩) 1 cp) (.slice BA b.length bc) (.slice none 0 0) S7.hb (Nat.le_refl g)
  have sz := put6_size w7 g (.int .u8 5) (.int .i64 0) (.string ⟨#[]⟩) (.slice (some ⟨bb, 0, none⟩) 1 cp) (.slice BA b.length bc) (.slice none 0 0)
  obtain ⟨Z, eZ⟩ : ∃ Z, Z = put6 w7 g (.int .u8 5) (.int .i64 0) (.string ⟨#[]⟩) (.slice (some ⟨bb, 0, none⟩) 1 cp) (.slice BA b.length bc) (.slice none 0 0) := ⟨_, rfl⟩
  rw [← eZ] at hq7 bz sz
  have eZ2 := eZ
  unfold put6 at eZ2
  rw [← eZ2]
  refine ⟨some ⟨bb, 0, none⟩, cp, BA, bc, rfl, ⟨bb, A1, q1, rfl, ⟨by omega, by omega⟩, hec.step ((hq7 bb (by omega)).trans (hq5 bb (by omega) hbb.2)), hea.step (fun q hq => (hq7 q (by omega)).trans (hq5 q (by omega) (by omega))) (fun q hq => ⟨by omega, by omega⟩)⟩, ?_, by rw [← eg]; exact bz⟩
  exact hs6.step (fun q hq => hq7 q (by omega)) (fun q hq => ⟨by omega, by omega⟩)
end
end Go.Proofs.YtocbddajakbemaaGreat
namespace Go.Proofs.YtocbddajakbemaaGreat
section
open Go.RowKit
theorem ResS2.out {w w' : World} {x : Ex} {b : List S1} {i2 : Nat} {e : Ending} (h : ResS2 w (.wh x b) i2 e w') :
    ∃ A cp BA bc, e = .returned (.tuple #[.agg #[.int .u8 5, .int .i64 0, .string ⟨#[]⟩, .slice A 1 cp, .slice BA b.length bc, .slice none 0 0], .int .i64 (i2 : Nat), .int .i64 0]) ∧ ExAt w' (fun q => w.heap.size ≤ q ∧ q < w'.heap.size) (.u 0 0 x) A cp ∧ Sts0 w' (fun q => w.heap.size ≤ q ∧ q < w'.heap.size) b BA ∧ Below w.heap.size w w' := h
set_option maxRecDepth 100000 in
set_option maxHeartbeats 4000000 in
theorem st_wh (l : List Tk) (A : Option Addr) (cap f i o j i3 : Nat) (t : Tk) (x : Ex) (b : List S1) (hx : l[i]? = some t) (hk : t.kind = 1) (hK : kindM t.text = 0) (hwt : (t.text.toList == s_while.toList) = true) (hp : pE l f (.ins (i + 1) o s_par s_parc) = some (x, j))
    (hc : isM l j s_cu = some true) (ho : o < 200) (hb : pL l f f (j + 1) o [] = some (b, i3)) (hl : l.length ≤ 100000) (hf : f ≤ 1000) (w : World) (ht : TksAt w A l) :
    Calls Tryz.prog 37 #[.slice A l.length cap, .int .i64 (i : Nat), .int .i64 (o : Nat)] w (ResS2 w (.wh x b) i3) := by
  have hw : isM l i s_while = some true := by unfold isM; rw [hx]; simp [hk, hwt]
  rw [while_list] at hwt
  have htx : t.text.toList = [119, 104, 105, 108, 101] := by simpa using hwt
  have hns : (t.text.toList == [115, 116, 111, 112]) = false := by rw [htx]; decide
  have hnf : (t.text.toList == [102, 97, 105, 108]) = false := by rw [htx]; decide
  have hni : (t.text.toList == [105, 102]) = false := by rw [htx]; decide
  have BR : ∀ W, Below w.heap.size w W → Calls Tryz.prog 63 #[.slice A l.length cap, .int .i64 (i : Nat), .int .i64 (o : Nat)] W (ResS2 W (.wh x b) i3) :=
    fun W hW => branch_ok l A cap f i o j i3 x b hw hp hc ho hb hl hf W (ht.below hW rfl)
  obtain ⟨bk, rfl, c0, c1, c2, c3, c4⟩ := ht i t hx
  have hlt := (List.getElem?_eq_some_iff.1 hx).1
  have hbl := World.block_lt_of_cell? w _ c0
  obtain ⟨g, eg⟩ : ∃ g, g = w.heap.size := ⟨_, rfl⟩
  have SI := stIn_new w t.text t.n t.col
  rw [← eg] at SI BR
  obtain ⟨w2, e2⟩ : ∃ w2, w2 = (w.alloc (.cells stZ 39 (0, 0))).alloc (.cells #[.int .u8 1, .string t.text, .int .i64 t.n, .int .i64 1, .int .i64 t.col] 97 (0, 0)) := ⟨_, rfl⟩
  rw [← e2] at SI
  have KD : Calls Tryz.prog 59 #[.string t.text] w2 fun e w' => e = .returned (.int .u8 0) ∧ Below w2.heap.size w2 w' := by
    have := Kind_ok t.text w2
    rw [hK] at this
    exact this
  rw [hk] at c0
  obtain ⟨s, es⟩ : ∃ s, s = t.text := ⟨_, rfl⟩
  rw [← es] at c1 SI KD e2 hns hnf hni hwt
  obtain ⟨m0, m1⟩ := SI.facts
  have e3 := e2
  unfold stZ at e3
  obtain ⟨n, en⟩ : ∃ n, n = l.length := ⟨_, rfl⟩
  rw [← en] at BR ⊢
  have i0 : (0 : Int) ≤ (i : Int) := by omega
  have i1 : (i : Int) < (n : Int) := by omega
  have H := Lib.hid (And.intro SI (And.intro BR eg))
  clear SI BR hx hk hK hl ht hlt en e2 es hw htx hp hc ho hb hf
  go_enter Tryz.func37, Tryz.ntmps37
  go_upto_region 2 with fail
  rw [← e3, ← eg]
  clear c0 c1 c2 c3 c4 e3 eg hbl
  go_upto_region 10 with (go_at_call 59; refine KD.mono ?_; rintro e w3 ⟨rfl, hb3⟩; have S3 := H.out.1.below hb3; obtain ⟨-, p1⟩ := S3.facts; have HS3 := Lib.hid S3; clear S3 hb3)
  clear m0 m1 KD
  have BRx := H.out.2.1 w3 HS3.out.hb
  go_upto_region 17 with fail
  go_wp2_with (go_at_call 63; refine BRx.mono ?_; rintro e w4 hr; obtain ⟨A1, q1, BA, bc, rfl, hr4⟩ := hr.out; have S4 := HS3.out.below hr4.2.2; obtain ⟨⟨d0, d1, d2, d3, d4, d5⟩, z0, z1, z2, z3, z4, z5⟩ := st_facts S4.k0; have HS4 := Lib.hid (And.intro S4 hr4); clear S4 hr4 hr)
  obtain ⟨S4, hx4, hs4, hb4⟩ := HS4.out
  have eg := H.out.2.2
  have h3 := HS3.out.hs
  refine bodyPost_ret (ret_st3 rfl _ _ g _ rfl rfl (put6_block (.int .u8 5) (.int .i64 0) (.string ⟨#[]⟩) (.slice A1 1 q1) (.slice BA b.length bc) (.slice none 0 0) S4.k0)) rfl ?_
  have hq : ∀ q, w3.heap.size ≤ q → (put6 w4 g (.int .u8 5) (.int .i64 0) (.string ⟨#[]⟩) (.slice A1 1 q1) (.slice BA b.length bc) (.slice none 0 0)).heap[q]? = w4.heap[q]? := fun q hq => put6_ne _ _ _ _ _ _ _ _ (by omega)
  have bz := put6_below (.int .u8 5) (.int .i64 0) (.string ⟨#[]⟩) (.slice A1 1 q1) (.slice BA b.length bc) (.slice none 0 0) S4.hb (Nat.le_refl g)
  have sz := put6_size w4 g (.int .u8 5) (.int .i64 0) (.string ⟨#[]⟩) (.slice A1 1 q1) (.slice BA b.length bc) (.slice none 0 0)
  obtain ⟨Z, eZ⟩ : ∃ Z, Z = put6 w4 g (.int .u8 5) (.int .i64 0) (.string ⟨#[]⟩) (.slice A1 1 q1) (.slice BA b.length bc) (.slice none 0 0) := ⟨_, rfl⟩
  rw [← eZ] at hq bz sz
  have eZ2 := eZ
  unfold put6 at eZ2
  rw [← eZ2]
  refine ⟨A1, q1, BA, bc, rfl, ?_, ?_, by rw [← eg]; exact bz⟩
  · exact hx4.step (fun q h => hq q h.1) (fun q h => ⟨by omega, by omega⟩)
  · exact hs4.step (fun q h => hq q h.1) (fun q h => ⟨by omega, by omega⟩)
theorem st2_ok (l : List Tk) (A : Option Addr) (cap f i o : Nat) (s : S2) (i2 : Nat) (h : pS2 l f i o = some (s, i2)) (hl : l.length ≤ 100000) (hf : f ≤ 1000) (w : World) (ht : TksAt w A l) :
    Calls Tryz.prog 37 #[.slice A l.length cap, .int .i64 (i : Nat), .int .i64 (o : Nat)] w (ResS2 w s i2) := by
  unfold pS2 at h
  rcases hx : l[i]? with _ | t
  · rw [hx] at h; cases h
  rw [hx] at h
  simp only at h
  by_cases hc : t.kind = 1 ∧ kindM t.text = 0 ∧ (t.text.toList == s_while.toList) = true
  · rw [if_pos hc] at h
    rcases hp : pE l f (.ins (i + 1) o s_par s_parc) with _ | ⟨x, j⟩
    · rw [hp] at h; cases h
    rw [hp] at h
    simp only at h
    by_cases hd : isM l j s_cu = some true ∧ o < 200
    · rw [if_pos hd] at h
      rcases hb : pL l f f (j + 1) o [] with _ | ⟨b, i3⟩
      · rw [hb] at h; cases h
      rw [hb] at h
      simp only [Option.some.injEq, Prod.mk.injEq] at h
      obtain ⟨rfl, rfl⟩ := h
      exact st_wh l A cap f i o j i3 t x b hx hc.1 hc.2.1 hc.2.2 hp hd.1 hd.2 hb hl hf w ht
    · rw [if_neg hd] at h; cases h
  · rw [if_neg hc] at h
    rcases hs : pS1 l f i o with _ | ⟨s1, j⟩
    · rw [hs] at h; cases h
    rw [hs] at h
    simp only [Option.some.injEq, Prod.mk.injEq] at h
    obtain ⟨rfl, rfl⟩ := h
    exact (st1_ok l A cap f i o s1 j hs hl w ht).mono fun e w' hr => hr.wide
theorem ResS2.lit {w w' : World} {s : S2} {i2 : Nat} {e : Ending} (h : ResS2 w s i2 e w') :
    ∃ A cp BA bc, e = .returned (.tuple #[.agg #[.int .u8 (s.op : Nat), .int .i64 s.num, .string s.name, .slice A s.args.many cp, .slice BA s.body.length bc, .slice none 0 0], .int .i64 (i2 : Nat), .int .i64 0]) ∧ ExAt w' (fun q => w.heap.size ≤ q ∧ q < w'.heap.size) s.args A cp ∧ Sts0 w' (fun q => w.heap.size ≤ q ∧ q < w'.heap.size) s.body BA ∧ Below w.heap.size w w' := h
theorem tks_own {w : World} {B : Nat} {v : Value} {l : List Tk} (h : w.ownsRow B 97 5 v l.length (tks l)) : ∃ A cap, v = .slice A l.length cap ∧ TksAt w A l := by
  rcases l with _ | ⟨c, l⟩
  · rcases h.2 with ⟨rfl, -⟩ | ⟨g, cap, cur, rfl, r⟩
    · exact ⟨none, 0, rfl, fun j s hj => by simp at hj⟩
    · exact ⟨_, cap, rfl, fun j s hj => by simp at hj⟩
  · obtain ⟨b, cp, rfl, hb, hcell⟩ := row_own h (by rw [tks_length]; simp)
    refine ⟨_, cp, rfl, fun j s hj => ?_⟩
    have hat : ∀ (l : List Tk) (j : Nat) (t : Tk), l[j]? = some t → ∀ k, k < 5 → (tks l)[j * 5 + k]? = t.cells[k]? := by
      intro l
      induction l with
      | nil => intro j t h; simp at h
      | cons c l ih =>
        intro j t h k hk
        have hc : c.cells.length = 5 := rfl
        show (c.cells ++ tks l)[j * 5 + k]? = _
        rcases j with _ | j
        · simp at h
          subst h
          rw [Nat.zero_mul, Nat.zero_add, List.getElem?_append_left (by omega)]
        · rw [List.getElem?_append_right (by omega), hc, show (j + 1) * 5 + k - 5 = j * 5 + k by omega]
          exact ih j t (by simpa using h) k hk
    have hk : ∀ k, k < 5 → ∀ u, s.cells[k]? = some u → w.cell? ⟨b, j * 5 + k, none⟩ = some u := fun k hk u hu => hcell _ u ((hat _ _ _ hj k hk).trans hu)
    exact ⟨b, rfl, hk 0 (by omega) _ rfl, hk 1 (by omega) _ rfl, hk 2 (by omega) _ rfl, hk 3 (by omega) _ rfl, hk 4 (by omega) _ rfl⟩
def PRel (l : List Tk) (f B : Nat) (w : World) (b : List S2) (gh : Nat) (ov av : Value) (wr : World) : Prop :=
  ∃ (i : Nat) (recs : List SR), pP l f gh i (recs.map SR.s) = some b ∧ av = .int .i64 (i : Nat) ∧ recs.length + gh ≤ 1000 ∧ wr.ownsRow B 39 6 ov recs.length (srs recs) ∧
    RowR wr (fun q => (B ≤ q ∧ q < wr.heap.size) ∧ ov.ownBlock ≠ some q) recs ∧ Below B w wr
def ResP (w : World) (b : List S2) (e : Ending) (w' : World) : Prop :=
  ∃ BA bc, e = .returned (.tuple #[.slice BA b.length bc, .int .i64 0, .int .i64 0, .int .i64 0]) ∧ Sts w' (fun q => w.heap.size ≤ q ∧ q < w'.heap.size) b BA ∧ Below w.heap.size w w'
set_option maxRecDepth 100000 in
set_option maxHeartbeats 4000000 in
theorem Parse_ok (s : ByteArray) (l : List Tk) (b : List S2) (f : Nat) (hs : s.size ≤ 1000) (hlx : lexM s (s.size + 1) 0 [] = some l) (hp : pP l f f 0 [] = some b) (hl : l.length ≤ 100000) (hf : f ≤ 1000) (w : World) :
    Calls Tryz.prog 23 #[.string s] w (ResP w b) := by
  have LX := Lex_ok s l hs hlx w
  obtain ⟨i9, hi9, hz0, hz1, hz2⟩ := info_parts infoStmt
  have HI := Lib.hid (And.intro hi9 (And.intro hz0 (And.intro hz1 hz2))); clear hi9 hz0 hz1 hz2
  have H := Lib.hid (And.intro hp (And.intro hl hf))
  clear hp hl hf hs hlx
  go_enter Tryz.func23, Tryz.ntmps23
  go_wp2_with (go_at_call 36; refine LX.mono ?_; rintro e w1 ⟨v, rfl, ho, hb⟩; obtain ⟨A, cap, rfl, ht⟩ := tks_own ho; have H1 := Lib.hid (And.intro ht hb); clear ht hb ho)
  clear LX
  have hp := H.out.1
  have hl := H.out.2.1
  have hf := H.out.2.2
  have ht := H1.out.1
  obtain ⟨g, eg⟩ : ∃ g, g = w1.heap.size := ⟨_, rfl⟩
  have R0 : PRel l f g w1 b f (.slice none 0 0) (.int .i64 0) w1 := ⟨0, [], hp, rfl, by simpa using hf, ⟨rfl, Or.inl ⟨rfl, rfl⟩⟩, fun r hr => (by cases hr), Below.refl _ _⟩
  have TK : ∀ W, Below g w1 W → TksAt W A l := fun W hW => ht.below hW eg
  have ST : ∀ W, TksAt W A l → ∀ j s j2, pS2 l f j 0 = some (s, j2) → Calls Tryz.prog 37 #[.slice A l.length cap, .int .i64 (j : Nat), .int .i64 0] W (ResS2 W s j2) :=
    fun W hW j s j2 h => st2_ok l A cap f j 0 s j2 h hl hf W hW
  have H2 := Lib.hid (And.intro R0 (And.intro ST (And.intro TK eg)))
  clear hp hf ht R0 TK ST eg
  obtain ⟨n, en⟩ : ∃ n, n = l.length := ⟨_, rfl⟩
  rw [← en] at H2 hl ⊢
  have HEN := Lib.hid (And.intro en hl); clear en hl
  go_loopg [10, 11] f (fun gh ov av wr => PRel l f g w1 b gh ov av wr)
  case atStart => exact H2.out.1
  case round =>
  obtain ⟨j, recs, hr, rfl, hln, hown, hrow, hb⟩ := hrel
  rcases gk with _ | k
  · cases hr
  rw [pP] at hr
  obtain ⟨W, eW⟩ : ∃ W, W = wr := ⟨_, rfl⟩
  rw [← eW] at hown hrow hb ⊢
  clear eW
  have htk := H2.out.2.2.1 W hb
  rcases hx : l[j]? with _ | t
  · rw [hx] at hr; cases hr
  rw [hx] at hr
  simp only at hr
  obtain ⟨bk, eA, c0, c1, c2, c3, c4⟩ := htk j t hx
  subst eA
  have hlt := (List.getElem?_eq_some_iff.1 hx).1
  have hbl := World.block_lt_of_cell? W _ c0
  have i0 : (0 : Int) ≤ (j : Int) := by omega
  have i1 : (j : Int) < (n : Int) := by have := HEN.out.1; omega
  clear c1 c2 c3 c4 hlt hx
  by_cases hk : t.kind = 4
  · rw [if_pos hk] at hr
    injection hr with hr
    subst hr
    rw [hk] at c0
    obtain ⟨BA, bc, rfl, hst⟩ := row_sts (ok := fun q => g ≤ q ∧ q < W.heap.size) hown (hrow.step (fun q _ => rfl) (fun q h => h.1)) (fun q h1 h2 => ⟨h1, h2⟩)
    have hlen : (recs.map SR.s).length = recs.length := by simp
    have HQ := Lib.hid (And.intro hst (And.intro hb hlen))
    clear hln hown hrow hb hst hlen hk htk
    go_wp2_with fail
    refine bodyPost_ret (results_tmp4 rfl _ _ _) rfl ?_
    obtain ⟨hst, hb, hlen⟩ := HQ.out
    have eg := H2.out.2.2.2
    have hb1 := H1.out.2
    exact ⟨BA, bc, by rw [hlen]; rfl, hst.step (fun q _ => rfl) (fun q h => ⟨by have := hb1.size; omega, h.2⟩), hb1.trans (hb.mono (by rw [eg]; exact hb1.size))⟩
  · rw [if_neg hk] at hr
    have k4 : ((t.kind : Int) != 4) = true := by simp; omega
    have k4' : ¬ ((t.kind : Int) = 4) := by omega
    rcases hst : pS2 l f j 0 with _ | ⟨s, j2⟩
    · rw [hst] at hr; cases hr
    rw [hst] at hr
    simp only at hr
    have STx := H2.out.2.1 W htk j s j2 hst
    have HQ := Lib.hid (And.intro hr (And.intro hln (And.intro hown (And.intro hrow hb))))
    clear hr hln hown hrow hb hst htk
    go_upto_region 7 with fail
    clear k4 k4' hk c0 hbl i0 i1
    go_upto_region 10 with (go_at_call 37; refine STx.mono ?_; rintro e w3 hr; obtain ⟨A1, q1, BA, bc, rfl, hx3, hs3, hb3⟩ := hr.lit; have HR := Lib.hid (And.intro hx3 (And.intro hs3 hb3)); clear hx3 hs3 hb3 hr)
    clear STx
    obtain ⟨nw, enw⟩ : ∃ nw, nw = SR.cells ⟨s, A1, q1, BA, bc⟩ := ⟨_, rfl⟩
    have hbW := HQ.out.2.2.2.2
    have hWs : g ≤ W.heap.size := by rw [H2.out.2.2.2]; exact hbW.size
    have hb3 := HR.out.2.2
    have HN1 := Lib.hid (show nw.length = 1 * 6 from by rw [enw]; rfl)
    have HN2 := Lib.hid (show ∀ j u, nw[j]? = some u → ((w3.alloc (.cells #[.int .u8 (s.op : Nat), .int .i64 s.num, .string s.name, .slice A1 s.args.many q1, .slice BA s.body.length bc, .slice none 0 0] 39 (0, 0))).alloc (.cells #[.int .u8 (s.op : Nat), .int .i64 s.num, .string s.name, .slice A1 s.args.many q1, .slice BA s.body.length bc, .slice none 0 0] 39 (0, 0))).cell? ((⟨w3.heap.size + 1, 0, none⟩ : Addr).add j) = some u from by rw [enw]; exact news_new (w3.alloc _) _ _ _ (by simp))
    have HN3 := Lib.hid (show ∀ u ∈ nw, u.oneCell' = true from by rw [enw]; exact sr_one _)
    have HN4 := Lib.hid (show recs.length + 1 ≤ maxLen ∧ (recs.length + 1) * 104 ≤ 140737488355328 from by have := HQ.out.2.1; unfold maxLen; omega)
    have HN5 := Lib.hid (show ∀ A B, g ≤ ((w3.alloc A).alloc B).heap.size from fun A B => by have := hb3.size; simp; omega)
    have h34 : ∀ A B, Below w3.heap.size w3 ((w3.alloc A).alloc B) := fun A B => ((Below.refl _ _).alloc (Nat.le_refl _) _).alloc (by simp) _
    have HO := Lib.hid (show ∀ A B, ((w3.alloc A).alloc B).ownsRow g 39 6 u10 recs.length (srs recs) from fun A B => ((own_same HQ.out.2.2.1 fun q hq => hb3.block q (by omega)).alloc _).alloc _)
    have HEM := Lib.hid (And.intro enw (And.intro hWs h34)); clear enw hbW hWs hb3 h34
    go_wp2_with (at_builtin; refine wpList_append_own_at _ rfl (.tmp 53) (.tmp 55) 22 rfl g 39 i9 _ 6 104 Tryz.underlying22 HI.out.1 HI.out.2.1 HI.out.2.2.1 HI.out.2.2.2 rfl (by decide) u10 recs.length (srs recs) rfl (HO.out _ _) ⟨w3.heap.size + 1, 0, none⟩ 1 1 nw rfl HN1.out HN2.out HN3.out HN4.out.1 HN4.out.2 (HN5.out _ _) ?_)
    intro v5 w5 hown5 hg5 _ hat5
    have HV := Lib.hid (And.intro hown5 (And.intro hg5 hat5)); clear hown5 hg5 hat5
    go_wp2_with fail
    go_roundg k
    case measure => omega
    case rel =>
      obtain ⟨hr, hln, hown, hrow, hb⟩ := HQ.out
      obtain ⟨hown5, hg5, hat5⟩ := HV.out
      obtain ⟨enw, hWs, h34⟩ := HEM.out
      obtain ⟨hx3, hs3, hb3⟩ := HR.out
      have b5 := ((hb.trans (hb3.mono hWs)).trans ((h34 _ _).mono (by have := hb3.size; omega))).grown hg5 (HN5.out _ _) (fun q hq => (own_lt hown hq).2)
      refine ⟨j2, recs ++ [⟨s, A1, q1, BA, bc⟩], by rw [List.map_append]; exact hr, rfl, by simp; omega, ?_, ?_, b5⟩
      · rw [List.length_append, srs_snoc, ← enw]; exact hown5
      · exact row_more hown hrow hWs hx3 hs3 hb3 (h34 _ _) hg5 (hat5.imp_right fun h => by rw [h]; simp)
end
end Go.Proofs.YtocbddajakbemaaGreat
