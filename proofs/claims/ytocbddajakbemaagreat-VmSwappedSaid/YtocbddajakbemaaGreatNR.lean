/- vm, compile: Compile. -/
import Derived.Test.YtocbddajakbemaaGreatNQ
import Derived.Test.YtocbddajakbemaaGreatMS
set_option linter.unusedVariables false
set_option linter.unusedSimpArgs false
set_option linter.unusedSimpArgs false
namespace Go.Proofs.YtocbddajakbemaaGreat
section
open Go.RowKit
def codeP (l : List S0) : List (Nat × Int) := listC (stmtC 40) l [] 0
def localsP (l : List S0) : Nat := listL (stmtL 40) l []
def okP (l : List S0) : Bool := l.all (rightS 40) && (listG (stmtG 40) l [] && decide ((codeP l).length ≤ 4000))
def maskP (op : Nat) (l : List S0) : Int := maskOf (kindsOf op (codeP l))
def CRes (w : World) (l : List S0) (e : Ending) (w' : World) : Prop :=
  Below w.heap.size w w' ∧ ((okP l = false ∧ ∃ er : Int, er ≠ 0 ∧ e = .returned (.tuple #[.agg #[.slice none 0 0, .int .i64 0, .int .u32 0, .int .u32 0], .int .i64 er])) ∨
    (okP l = true ∧ ∃ A cap, e = .returned (.tuple #[.agg #[.slice A (codeP l).length cap, .int .i64 (localsP l : Nat), .int .u32 (maskP 4 l), .int .u32 (maskP 5 l)], .int .i64 0]) ∧ w'.ownsRow w.heap.size 105 2 (.slice A (codeP l).length cap) (codeP l).length (insC (codeP l))))
theorem ret_cprog2 {fn : Func} {p u : Tmp} (h : fn.results = #[.cell p 53, .tmp u]) (tmps : Array Value) (w : World) (g : Nat) (cs : Array Value) (hn : cs.size = 4)
    (hp : tmps.getD p undef = .pointer (some ⟨g, 0, none⟩)) (hg : w.heap[g]? = some (.cells cs 53 (0, 0))) :
    (results fn tmps).run Tryz.prog w = .ok (.tuple #[.agg cs, tmps.getD u undef]) w := by
  have hp' : tmps[p]?.getD undef = .pointer (some ⟨g, 0, none⟩) := by simpa using hp
  have hi : (Tryz.prog.info? 53).map (·.size) = some cs.size := by rw [hn]; kernel_rfl
  have hl := run_loadVar_row (P := Tryz.prog) w g 53 53 cs (0, 0) _ hg Tryz.underlying53 rfl hi
  simp [results, h, hp', asAddr, hl]
theorem TOk.codeAt {w : World} {B tb n cap : Nat} {t : TS} {nv : Value} {A : Option Addr} (h : TOk w B tb t (.slice A n cap) nv) (hn : n = t.code.length) : CodeAt w w.heap.size A t.code := by
  intro i x hx
  have hi := (List.getElem?_eq_some_iff.1 hx).1
  obtain ⟨g, cap', cur, e, hB, hh, -⟩ := own_shape h.code (by omega)
  rw [Value.slice.injEq] at e
  obtain ⟨rfl, -, rfl⟩ := e
  obtain ⟨r1, r2⟩ := insC_at hx
  have hl := insC_length t.code
  have hC := h.code
  rw [hn] at hC
  refine ⟨g, 0, rfl, lt_of_block hh, ?_, ?_⟩
  · rw [Nat.zero_add, hC.cellAt (i * 2) (by omega)]; exact r1
  · rw [Nat.zero_add, hC.cellAt (i * 2 + 1) (by omega)]; exact r2
set_option maxRecDepth 100000 in
set_option maxHeartbeats 8000000 in
theorem Compile_ok (l : List S0) (A : Option Addr) (n c : Nat) (w : World) (hn : n = l.length) (hl : n ≤ 1000000) (hS : SsAt w 41 A l) (hlen : l.all (rightS 40) = true → (codeP l).length ≤ 50000) :
    Calls Tryz.prog 20 #[.slice A n c] w (CRes w l) := by
  obtain ⟨g, eg⟩ : ∃ g, g = w.heap.size := ⟨_, rfl⟩
  obtain ⟨w1, e1⟩ : ∃ w1, w1 = w.alloc (.cells #[.slice none 0 0, .int .i64 0, .int .u32 0, .int .u32 0] 53 (0, 0)) := ⟨_, rfl⟩
  have hb : Below g w w1 := by rw [e1, eg]; exact (Below.refl _ _).alloc (Nat.le_refl _) _
  have hs : w1.heap.size = g + 1 := by rw [e1, eg]; simp
  have hk : w1.heap[g]? = some (.cells #[.slice none 0 0, .int .i64 0, .int .u32 0, .int .u32 0] 53 (0, 0)) := by rw [e1, eg]; exact heap_alloc_new w _
  have hS1 : SsAt w1 41 A l := hS.below (eg ▸ hb)
  have PR := PrintableZ_ok A n c l w1 hn hl hS1
  obtain ⟨P, eP⟩ : ∃ P, P = l.all (rightS 40) := ⟨_, rfl⟩
  rw [← eP] at PR hlen
  obtain ⟨d0, d1, d2, d3, z0, z1, z2, z3⟩ := ex_facts hk
  have H := Lib.hid (And.intro hb (And.intro hs (And.intro hk (And.intro hS1 (And.intro hn (And.intro hl (And.intro eP (And.intro hlen eg))))))))
  clear hb hs hk hS1 hS hn hl eP hlen
  rcases P with _ | _
  · go_enter Tryz.func20, Tryz.ntmps20
    go_upto_region 1 with fail
    rw [← e1, ← eg]
    clear e1 eg
    go_upto_region 2 with (go_at_call 31; refine PR.mono ?_; rintro e w2 ⟨rfl, hb2⟩; have HB2 := Lib.hid hb2; clear hb2)
    have hk2 := (HB2.out.block g (by have := H.out.2.1; omega)).trans H.out.2.2.1
    clear d0 d1 d2 d3 z0 z1 z2 z3
    obtain ⟨d0, d1, d2, d3, z0, z1, z2, z3⟩ := ex_facts hk2
    have HK := Lib.hid hk2
    clear hk2
    go_wp2_with fail
    refine bodyPost_ret (ret_cprog2 rfl _ _ g _ rfl rfl (put4_block (.slice none 0 0) (.int .i64 0) (.int .u32 0) (.int .u32 0) HK.out)) rfl ?_
    have eg := H.out.2.2.2.2.2.2.2.2
    have hb := H.out.1
    have hs := H.out.2.1
    refine ⟨?_, Or.inl ⟨by unfold okP; rw [← H.out.2.2.2.2.2.2.1]; rfl, 130, by decide, rfl⟩⟩
    rw [← eg]; exact put4_below _ _ _ _ (hb.trans (HB2.out.mono (by omega))) (Nat.le_refl g)
  · have hlen := H.out.2.2.2.2.2.2.2.1 rfl
    go_enter Tryz.func20, Tryz.ntmps20
    go_upto_region 1 with fail
    rw [← e1, ← eg]
    clear e1 eg
    go_upto_region 3 with (go_at_call 31; refine PR.mono ?_; rintro e w2 ⟨rfl, hb2⟩; have HB2 := Lib.hid hb2; clear hb2)
    clear PR d0 d1 d2 d3 z0 z1 z2 z3
    obtain ⟨w3, e3⟩ : ∃ w3, w3 = w2.alloc (.cells #[.slice none 0 0, .int .i64 0, .int .u32 0, .int .u32 0, .slice none 0 0, .int .i64 0] 87 (0, 0)) := ⟨_, rfl⟩
    obtain ⟨tb, etb⟩ : ∃ tb, tb = w2.heap.size := ⟨_, rfl⟩
    have k3 : TOk w3 w2.heap.size tb ⟨[], [], 0, 0⟩ (.slice none 0 0) (.slice none 0 0) := by
      refine ⟨by rw [e3, etb]; exact heap_alloc_new w2 _, ⟨rfl, Or.inl ⟨rfl, rfl⟩⟩, ⟨rfl, Or.inl ⟨rfl, rfl⟩⟩, by rw [etb]; exact Nat.le_refl _⟩
    have b3 : Below w2.heap.size w2 w3 := by rw [e3]; exact (Below.refl _ w2).alloc (Nat.le_refl _) _
    have hS2 : SsAt w2 41 A l := H.out.2.2.2.1.below HB2.out
    have hall : ∀ s, s ∈ l → rightS 40 s = true := List.all_eq_true.1 H.out.2.2.2.2.2.2.1.symm
    have LS := tlist_all w2 40 l A c hall (by have := H.out.2.2.2.2.1; have := H.out.2.2.2.2.2.1; omega) hS2 w3 tb ⟨[], [], 0, 0⟩ (.slice none 0 0) (.slice none 0 0) b3 k3 ⟨by show 0 + 0 + 2 * (codeP l).length ≤ 100000; omega, by decide⟩
    rw [← H.out.2.2.2.2.1] at LS
    have H3 := Lib.hid (And.intro k3 (And.intro b3 hall))
    clear k3 b3 hS2 hall
    go_upto_region 4 with fail
    rw [← e3, ← etb]
    clear e3 etb
    go_upto_region 5 with (go_at_call 32; refine LS.mono ?_; rintro e w4 ⟨rfl, t4, a4, cv4, nv4, k4, f4⟩; have H4 := Lib.hid (And.intro a4 (And.intro k4 f4)); clear a4 k4 f4)
    clear LS
    obtain ⟨a4, k4, f4⟩ := H4.out
    obtain ⟨Ac, cc, An, cn, ecv, env⟩ := k4.shape
    have hcode : t4.code = codeP l := by rw [a4.code]; rfl
    obtain ⟨m, em⟩ : ∃ m, m = t4.code.length := ⟨_, rfl⟩
    rw [← em] at ecv
    subst ecv
    have hbw : Below w1.heap.size w1 w4 := HB2.out.trans ((H3.out.2.1.trans (f4.below (Nat.le_trans (Nat.le_of_lt (lt_of_block H3.out.1.blk)) (Nat.le_refl _) |> fun h => by have := H3.out.1.base; omega) H3.out.1.above)).mono HB2.out.size)
    have hk4 := (hbw.block g (by have := H.out.2.1; omega)).trans H.out.2.2.1
    obtain ⟨x0, x1, x2, x3, x4, x5⟩ := k4.facts
    obtain ⟨y0, y1, y2, y3, y4, y5⟩ := k4.free
    obtain ⟨d0, d1, d2, d3, z0, z1, z2, z3⟩ := ex_facts hk4
    obtain ⟨Q, eQ⟩ : ∃ Q, Q = decide (4000 < m) := ⟨_, rfl⟩
    have eQi : decide ((4000 : Int) < (m : Int)) = Q := by rw [eQ]; exact decide_eq_decide.2 (by omega)
    obtain ⟨L, eL⟩ : ∃ L, L = t4.L := ⟨_, rfl⟩
    rw [← eL] at x1
    obtain ⟨E, eE⟩ : ∃ E, E = t4.e := ⟨_, rfl⟩
    rw [← eE] at x5
    have hLp : L = localsP l := by rw [eL, a4.L]; exact Nat.max_eq_right (Nat.zero_le _)
    have hEp : E = 0 ↔ listG (stmtG 40) l [] = true := by rw [eE, a4.e]; simp
    have F := tfail_ok w2.heap.size tb t4 _ nv4 3 w4 k4
    have HX := Lib.hid (And.intro hbw (And.intro hk4 (And.intro hcode (And.intro em (And.intro eQ (And.intro hLp hEp))))))
    have HE := Lib.hid (And.intro eE eL)
    clear hbw hk4 hcode em eQ hLp hEp a4 k4 f4 env eE eL
    rcases Q with _ | _
    · by_cases hE : E = 0
      · subst hE
        have MK := Masks_calls Ac m cc t4.code HX.out.2.2.2.1 (by have := HX.out.2.2.2.1; have := of_decide_eq_false HX.out.2.2.2.2.1.symm; omega) w4 (H4.out.2.1.codeAt HX.out.2.2.2.1)
        obtain ⟨r, er⟩ : ∃ r, r = maskOf (kindsOf 4 t4.code) := ⟨_, rfl⟩
        obtain ⟨x, ex⟩ : ∃ x, x = maskOf (kindsOf 5 t4.code) := ⟨_, rfl⟩
        rw [← er, ← ex] at MK
        have HR := Lib.hid (And.intro er ex)
        clear er ex F
        go_upto_region 10 with (go_at_call 34; refine MK.mono ?_; rintro e w5 ⟨rfl, hb5⟩; have HB5 := Lib.hid hb5; have hk5 := (hb5.block g (lt_of_block HX.out.2.1)).trans HX.out.2.1; have kt5 := (hb5.block tb (lt_of_block H4.out.2.1.blk)).trans H4.out.2.1.blk; have HK5 := Lib.hid (And.intro hk5 kt5); clear hb5 hk5 kt5 x0 x1 x2 x3 x4 x5 y0 y1 y2 y3 y4 y5 d0 d1 d2 d3 z0 z1 z2 z3; have x2 : w5.cell? ⟨tb, 2, none⟩ = some (.int .u32 0) := (cell_of_block HK5.out.2 2).trans rfl; have x3 : w5.cell? ⟨tb, 3, none⟩ = some (.int .u32 0) := (cell_of_block HK5.out.2 3).trans rfl; have y2 := free_of_block HK5.out.2 2; have y3 := free_of_block HK5.out.2 3)
        clear x2 x3 y2 y3
        obtain ⟨w6, e6⟩ : ∃ w6, w6 = (w5.setCell ⟨tb, 2, none⟩ (.int .u32 r)).setCell ⟨tb, 3, none⟩ (.int .u32 x) := ⟨_, rfl⟩
        rw [← e6]
        have ho6 : Only tb w5 w6 := by rw [e6]; exact ((Only.refl tb w5).setCell (p := ⟨tb, 2, none⟩) rfl _).setCell (p := ⟨tb, 3, none⟩) rfl _
        have kt6 : w6.heap[tb]? = some (.cells #[.slice Ac m cc, .int .i64 (L : Nat), .int .u32 r, .int .u32 x, nv4, .int .i64 t4.e] 87 (0, 0)) := by
          rw [e6, HE.out.2]
          exact block_setCell (block_setCell HK5.out.2 2 _) 3 _
        have hgt : g ≠ tb := by have := HB2.out.size; have := H.out.2.1; have := H4.out.2.1.base; omega
        have kg6 := (ho6.block g hgt).trans HK5.out.1
        have hO4 := H4.out.2.1.code
        have hO5 := own_blk (w' := w5) hO4 (fun q hq => HB5.out.block q (own_lt hO4 hq).1)
        have hO6 := own_only hO5 ho6 (own_neq hO5 HK5.out.2 (by decide))
        have hb6 : Below w1.heap.size w1 w6 := (HX.out.1.trans (HB5.out.mono HX.out.1.size)).trans (ho6.below (by have := HB2.out.size; have := H4.out.2.1.base; omega))
        have u0 : w6.cell? ⟨tb, 0, none⟩ = some (.slice Ac m cc) := (cell_of_block kt6 0).trans rfl
        have u1 : w6.cell? ⟨tb, 1, none⟩ = some (.int .i64 (L : Nat)) := (cell_of_block kt6 1).trans rfl
        have u2 : w6.cell? ⟨tb, 2, none⟩ = some (.int .u32 r) := (cell_of_block kt6 2).trans rfl
        have u3 : w6.cell? ⟨tb, 3, none⟩ = some (.int .u32 x) := (cell_of_block kt6 3).trans rfl
        obtain ⟨d0, d1, d2, d3, z0, z1, z2, z3⟩ := ex_facts kg6
        have H6 := Lib.hid (And.intro kg6 (And.intro hO6 hb6))
        clear kg6 hO4 hO5 hO6 hb6 kt6 ho6 e6 hgt
        go_wp2_with fail
        refine bodyPost_ret (ret_cprog2 rfl _ _ g _ rfl rfl (put4_block (.slice Ac m cc) (.int .i64 (L : Nat)) (.int .u32 r) (.int .u32 x) H6.out.1)) rfl ?_
        have eg := H.out.2.2.2.2.2.2.2.2
        have hm : m = (codeP l).length := by rw [HX.out.2.2.2.1, HX.out.2.2.1]
        refine ⟨?_, Or.inr ⟨?_, Ac, cc, ?_, ?_⟩⟩
        · rw [← eg]; exact put4_below _ _ _ _ (H.out.1.trans (H6.out.2.2.mono (by have := H.out.2.1; omega))) (Nat.le_refl g)
        · unfold okP
          rw [HX.out.2.2.2.2.2.2.1 trivial, ← H.out.2.2.2.2.2.2.1, ← hm, decide_eq_true (show m ≤ 4000 by have := of_decide_eq_false HX.out.2.2.2.2.1.symm; omega)]
          rfl
        · rw [HR.out.1, HR.out.2, HX.out.2.2.1, HX.out.2.2.2.2.2.1, ← hm]; rfl
        · rw [← hm, ← eg]
          have h2 := H6.out.2.1
          rw [← HX.out.2.2.2.1, HX.out.2.2.1] at h2
          refine own_rebase (own_blk h2 (fun q hq => put4_ne _ _ _ _ _ _ ?_)) ?_
          · have := (own_lt h2 hq).2; have := HB2.out.size; have := H.out.2.1; omega
          · have := HB2.out.size; have := H.out.2.1; omega
      · have q : (E == 0) = false := by simpa using hE
        have q2 : (E != 0) = true := by simpa using hE
        have HNE := Lib.hid hE
        clear hE F
        go_upto_region 8 with fail
        go_region
        all_goals (
          go_wp2_with fail
          refine bodyPost_ret (ret_cprog2 rfl _ _ g _ rfl rfl (show ((put4 w4 g (.slice none 0 0) (.int .i64 0) (.int .u32 0) (.int .u32 0)).drew).heap[g]? = _ from put4_block (.slice none 0 0) (.int .i64 0) (.int .u32 0) (.int .u32 0) HX.out.2.1)) rfl ?_
          have eg := H.out.2.2.2.2.2.2.2.2
          refine ⟨?_, Or.inl ⟨?_, E, HNE.out, rfl⟩⟩
          · rw [← eg]
            exact (put4_below (.slice none 0 0) (.int .i64 0) (.int .u32 0) (.int .u32 0) (H.out.1.trans (HX.out.1.mono (by have := H.out.2.1; omega))) (Nat.le_refl g)).drew
          · unfold okP
            rcases hg : listG (stmtG 40) l [] with _ | _
            · simp
            · exact absurd (HX.out.2.2.2.2.2.2.2 hg) HNE.out)
    · go_upto_region 7 with (go_at_call 33; refine F.mono ?_; rintro e w5 ⟨rfl, cv5, nv5, k5, f5⟩; have H5 := Lib.hid (And.intro k5 f5); clear k5 f5)
      clear F
      have hk5 := (H5.out.2.block g (lt_of_block HX.out.2.1) (H4.out.2.1.notIn HX.out.2.1 (by decide) (by decide) (by decide))).trans HX.out.2.1
      have hne : (if t4.e = 0 then 3 else t4.e) ≠ 0 := by split <;> omega
      obtain ⟨E5, eE5⟩ : ∃ E5, E5 = (if t4.e = 0 then 3 else t4.e) := ⟨_, rfl⟩
      have v5 : w5.cell? ⟨tb, 5, none⟩ = some (.int .i64 E5) := by rw [eE5]; exact H5.out.1.facts.2.2.2.2.2
      rw [← eE5] at hne
      have q : (E5 == 0) = false := by simpa using hne
      have q2 : (E5 != 0) = true := by simpa using hne
      have hb5 : Below w1.heap.size w1 w5 := HX.out.1.trans (H5.out.2.below (Nat.le_trans (by have := HB2.out.size; have := H3.out.1.base; omega) HX.out.1.size) (fun q hq => by have := H4.out.2.1.above q hq; have := HB2.out.size; omega))
      clear x0 x1 x2 x3 x4 x5 y0 y1 y2 y3 y4 y5 d0 d1 d2 d3 z0 z1 z2 z3
      obtain ⟨d0, d1, d2, d3, z0, z1, z2, z3⟩ := ex_facts hk5
      have HNE := Lib.hid (And.intro hne (And.intro hk5 hb5))
      clear hne hk5 hb5 eE5
      go_upto_region 8 with fail
      go_region
      all_goals (
        go_wp2_with fail
        refine bodyPost_ret (ret_cprog2 rfl _ _ g _ rfl rfl (show ((put4 w5 g (.slice none 0 0) (.int .i64 0) (.int .u32 0) (.int .u32 0)).drew).heap[g]? = _ from put4_block (.slice none 0 0) (.int .i64 0) (.int .u32 0) (.int .u32 0) HNE.out.2.1)) rfl ?_
        have eg := H.out.2.2.2.2.2.2.2.2
        refine ⟨?_, Or.inl ⟨?_, E5, HNE.out.1, rfl⟩⟩
        · rw [← eg]
          exact (put4_below (.slice none 0 0) (.int .i64 0) (.int .u32 0) (.int .u32 0) (H.out.1.trans (HNE.out.2.2.mono (by have := H.out.2.1; omega))) (Nat.le_refl g)).drew
        · unfold okP
          have : decide ((codeP l).length ≤ 4000) = false := decide_eq_false (by rw [← HX.out.2.2.1, ← HX.out.2.2.2.1]; have := of_decide_eq_true HX.out.2.2.2.2.1.symm; omega)
          rw [this]; simp)
end
end Go.Proofs.YtocbddajakbemaaGreat
