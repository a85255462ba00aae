/- vm, compile: stmt. -/
import Derived.Test.YtocbddajakbemaaGreatNP
set_option linter.unusedVariables false
set_option linter.unusedSimpArgs false
set_option linter.unusedSimpArgs false
namespace Go.Proofs.YtocbddajakbemaaGreat
section
open Go.RowKit
theorem row_le (m : Nat) (s : S0) (ν : List ByteArray) (b : Nat) : (rowC (exprC ν 40) s.e b).length ≤ (stmtC (m + 1) s ν b).length := by
  rw [stmtC, List.length_append]; omega
theorem bd_body {m : Nat} {s : S0} {t : TS} (hk : s.op = 4 ∨ s.op = 5) (h : Bd t (stmtC (m + 1) s t.names t.code.length).length) : Bd ((t.addRow 40 s.e).app [(12, 0)]) (listC (stmtC m) s.b ((t.addRow 40 s.e).app [(12, 0)]).names ((t.addRow 40 s.e).app [(12, 0)]).code.length).length := by
  obtain ⟨c1, c2, c3, c4, c5, c6⟩ := row_then t s.e (12, 0)
  generalize (t.addRow 40 s.e).app [(12, 0)] = t1 at *
  obtain ⟨h1, h2⟩ := h
  rw [stmtC, if_neg (by omega), if_neg (by omega), if_neg (by omega)] at h1
  refine ⟨?_, by rw [c4]; exact h2⟩
  rw [c2, c3]
  rcases hk with hk | hk
  · rw [if_pos hk] at h1
    split at h1
    · simp only [List.length_append, List.length_cons] at h1; omega
    · simp only [List.length_append, List.length_cons] at h1; omega
  · rw [if_neg (by omega), if_pos hk] at h1
    simp only [List.length_append, List.length_cons] at h1; omega
set_option maxRecDepth 100000 in
set_option maxHeartbeats 8000000 in
theorem stm_put (w0 : World) (m : Nat) (num : Int) (nm : ByteArray) (e : List E0) (b els : List S0) (EA : Option Addr) (me ec : Nat) (BA : Option Addr) (mb bc : Nat) (LA : Option Addr) (ml lc : Nat) (w : World) (tb : Nat) (t : TS) (cv nv : Value)
    (hb : Below w0.heap.size w0 w) (hk : TOk w w0.heap.size tb t cv nv) (hme : me = e.length) (hme2 : me ≤ 1000000) (hfe : ∀ x, x ∈ e → fineB 40 x = true) (hE : EsAt w0 41 EA e) (hbd : Bd t (stmtC (m + 1) (.mk 3 num nm e b els) t.names t.code.length).length) :
    Calls Tryz.prog 52 #[.pointer (some ⟨tb, 0, none⟩), .agg #[.int .u8 3, .int .i64 num, .string nm, .slice EA me ec, .slice BA mb bc, .slice LA ml lc]] w fun r w' => r = .returned (.tuple #[]) ∧ ∃ t', After (m + 1) (.mk 3 num nm e b els) t t' ∧ TRes w w0.heap.size tb cv nv t' w' := by
  obtain ⟨Ac, ccap, A0, c0, ecv, env⟩ := hk.shape
  obtain ⟨nc, enc⟩ : ∃ nc, nc = t.code.length := ⟨_, rfl⟩
  rw [← enc] at ecv
  subst ecv
  obtain ⟨w1, xb, e1, exb, I1, b1⟩ := xin_new w0 w tb t _ nv #[.int .u8 3, .int .i64 num, .string nm, .slice EA me ec, .slice BA mb bc, .slice LA ml lc] 39 hb hk
  obtain ⟨x0, x1, x2, x3, x4, x5⟩ := sbox I1.p
  obtain ⟨f0, -⟩ := I1.k.facts
  have EX := texpr_all w0 40
  have hrl := row_le m (.mk 3 num nm e b els) t.names t.code.length
  have hrl : (rowC (exprC t.names 40) e t.code.length).length ≤ (stmtC (m + 1) (.mk 3 num nm e b els) t.names t.code.length).length := hrl
  have HI := Lib.hid (And.intro I1 (And.intro b1 enc))
  have HA := Lib.hid (And.intro hme (And.intro hme2 (And.intro hfe (And.intro hE (And.intro hbd (And.intro hrl EX))))))
  clear I1 b1 hme hme2 hfe hE hbd hrl EX hb hk enc env
  go_enter Tryz.func52, Tryz.ntmps52
  go_upto_region 1 with fail
  rw [← e1, ← exb]
  clear e1 exb
  go_wp2_with fail
  go_loopg [19] me (fun gh iv wr => ∃ (j : Nat) (cvj nvj : Value), gh + j = me ∧ iv = .int .i64 (j : Nat) ∧ XIn w0 w1 w0.heap.size tb xb (.slice Ac nc ccap) nv #[.int .u8 3, .int .i64 num, .string nm, .slice EA me ec, .slice BA mb bc, .slice LA ml lc] 39 (t.addRow 40 (e.take j)) cvj nvj wr)
  case atStart => exact ⟨0, _, nv, rfl, rfl, by rw [List.take_zero, TS.addRow_nil]; exact HI.out.1⟩
  case round =>
  obtain ⟨j, cvj, nvj, hg, rfl, hI⟩ := hrel
  obtain ⟨W, eW⟩ : ∃ W, W = wr := ⟨_, rfl⟩
  rw [← eW] at hI ⊢
  clear eW x0 x1 x2 x3 x4 x5 f0
  obtain ⟨hme, hme2, hfe, hE, hbd, hrl, EX⟩ := HA.out
  by_cases hlt : j < me
  · obtain ⟨y, hy⟩ : ∃ y, e[j]? = some y := ⟨_, List.getElem?_eq_getElem (by omega)⟩
    obtain ⟨b', o, A', c', rfl, hc, hd⟩ := hE.one hy
    obtain ⟨r0, r1, r2, r3, -, -⟩ := hc.below hI.b
    obtain ⟨x0, x1, x2, x3, x4, x5⟩ := sbox hI.p
    obtain ⟨W2, e2⟩ : ∃ W2, W2 = W.alloc (.cells #[.int .u8 (y.op : Nat), .int .i64 y.n, .string y.nm, .slice A' y.args.length c'] 34 (0, 0)) := ⟨_, rfl⟩
    obtain ⟨yb, eyb⟩ : ∃ yb, yb = W.heap.size := ⟨_, rfl⟩
    have hI2 : XIn w0 w1 w0.heap.size tb xb (.slice Ac nc ccap) nv #[.int .u8 3, .int .i64 num, .string nm, .slice (some ⟨b', o, none⟩) me ec, .slice BA mb bc, .slice LA ml lc] 39 (t.addRow 40 (e.take j)) cvj nvj W2 := by rw [e2]; exact hI.more _
    have py : W2.heap[yb]? = some (.cells #[.int .u8 (y.op : Nat), .int .i64 y.n, .string y.nm, .slice A' y.args.length c'] 34 (0, 0)) := by rw [e2, eyb]; exact heap_alloc_new W _
    have hle := rowC_le (exprC t.names 40) hy t.code.length
    have hb1 := hbd.1
    have F := EX y A' c' (hfe y (List.mem_of_getElem? hy)) hc.lim hd W2 tb (t.addRow 40 (e.take j)) cvj nvj hI2.b hI2.k (by simp only [TS.code_addRow, TS.names_addRow, List.length_append]; omega) (by simp only [TS.names_addRow]; omega)
    rw [TS.addRow_snoc, ← take_snoc hy] at F
    obtain ⟨y0, y1, y2, y3⟩ := ebox py
    have i0 : (0 : Int) ≤ (j : Int) := by omega
    have i1 : (j : Int) < (me : Int) := by omega
    have i2 : decide (j < me) = true := decide_eq_true hlt
    have w2 : wrap64 ((j : Int) + 1) = (j : Int) + 1 := by unfold wrap64; omega
    have F : Calls Tryz.prog 88 #[.pointer (some ⟨tb, 0, none⟩), .agg #[.int .u8 (y.op : Nat), .int .i64 y.n, .string y.nm, .slice A' y.args.length c']] W2 fun r w' => r = .returned (.tuple #[]) ∧ TRes W2 w0.heap.size tb cvj nvj (t.addRow 40 (e.take (j + 1))) w' := F
    have HJ := Lib.hid (And.intro hI2 (And.intro hg hlt))
    clear hy hc hd hI hI2 py hle hb1 hg hlt hme hme2 hfe hE hbd hrl EX
    go_upto_region 5 with fail
    rw [← e2, ← eyb]
    clear e2 eyb r0 r1 r2 r3 x0 x1 x2 x3 x4 x5
    go_wp2_with (go_at_call 88; refine F.mono ?_; rintro e w3 ⟨rfl, h3⟩; obtain ⟨cv3, nv3, I3, -⟩ := HJ.out.1.step stmtTypes HJ.out.1.size h3; have H3 := Lib.hid I3; clear I3 h3)
    go_roundg (me - (j + 1))
    case measure => have := HJ.out.2.1; have := HJ.out.2.2; omega
    case rel => exact ⟨j + 1, cv3, nv3, by have := HJ.out.2.2; omega, by go_num, H3.out⟩
  · have i2 : decide (j < me) = false := decide_eq_false hlt
    have ht : e.take j = e := List.take_of_length_le (by omega)
    rw [ht] at hI
    obtain ⟨x0, x1, x2, x3, x4, x5⟩ := sbox hI.p
    have hb1 := hbd.1
    have hcl : (t.addRow 40 e).code.length ≤ 100000 := by simp only [TS.code_addRow, List.length_append]; omega
    have hnl : (t.addRow 40 e).names.length ≤ 100000 := by simp only [TS.names_addRow]; omega
    have hLl : (t.addRow 40 e).L ≤ 200000 := by rw [TS.L_addRow]; exact hbd.2
    have F := tputA w0.heap.size tb _ cvj nvj 5 num W hI.k (by omega)
    have HJ := Lib.hid hI
    clear hI hg hlt hme hme2 hfe hE hbd hrl EX ht hb1 hcl hnl hLl
    go_wp2_with (go_at_call 89; refine F.mono ?_; rintro e w3 ⟨rfl, h3⟩; have H3 := Lib.hid h3; clear h3)
    go_end0
    exact ⟨rfl, _, after_end (s := .mk 3 num nm e b els) (Or.inl ⟨rfl, rfl, rfl⟩), (H3.out.trans HJ.out.f).trans HI.out.2.1⟩
set_option maxRecDepth 100000 in
set_option maxHeartbeats 8000000 in
theorem stm_stop (w0 : World) (m : Nat) (num : Int) (nm : ByteArray) (e : List E0) (b els : List S0) (EA : Option Addr) (me ec : Nat) (BA : Option Addr) (mb bc : Nat) (LA : Option Addr) (ml lc : Nat) (w : World) (tb : Nat) (t : TS) (cv nv : Value)
    (hb : Below w0.heap.size w0 w) (hk : TOk w w0.heap.size tb t cv nv) (hme : me = e.length) (hme2 : me ≤ 1000000) (hfe : ∀ x, x ∈ e → fineB 40 x = true) (hE : EsAt w0 41 EA e) (hbd : Bd t (stmtC (m + 1) (.mk 6 num nm e b els) t.names t.code.length).length) :
    Calls Tryz.prog 52 #[.pointer (some ⟨tb, 0, none⟩), .agg #[.int .u8 6, .int .i64 num, .string nm, .slice EA me ec, .slice BA mb bc, .slice LA ml lc]] w fun r w' => r = .returned (.tuple #[]) ∧ ∃ t', After (m + 1) (.mk 6 num nm e b els) t t' ∧ TRes w w0.heap.size tb cv nv t' w' := by
  obtain ⟨Ac, ccap, A0, c0, ecv, env⟩ := hk.shape
  obtain ⟨nc, enc⟩ : ∃ nc, nc = t.code.length := ⟨_, rfl⟩
  rw [← enc] at ecv
  subst ecv
  obtain ⟨w1, xb, e1, exb, I1, b1⟩ := xin_new w0 w tb t _ nv #[.int .u8 6, .int .i64 num, .string nm, .slice EA me ec, .slice BA mb bc, .slice LA ml lc] 39 hb hk
  obtain ⟨x0, x1, x2, x3, x4, x5⟩ := sbox I1.p
  obtain ⟨f0, -⟩ := I1.k.facts
  have EX := texpr_all w0 40
  have hrl := row_le m (.mk 6 num nm e b els) t.names t.code.length
  have hrl : (rowC (exprC t.names 40) e t.code.length).length ≤ (stmtC (m + 1) (.mk 6 num nm e b els) t.names t.code.length).length := hrl
  have HI := Lib.hid (And.intro I1 (And.intro b1 enc))
  have HA := Lib.hid (And.intro hme (And.intro hme2 (And.intro hfe (And.intro hE (And.intro hbd (And.intro hrl EX))))))
  clear I1 b1 hme hme2 hfe hE hbd hrl EX hb hk enc env
  go_enter Tryz.func52, Tryz.ntmps52
  go_upto_region 1 with fail
  rw [← e1, ← exb]
  clear e1 exb
  go_wp2_with fail
  go_loopg [19] me (fun gh iv wr => ∃ (j : Nat) (cvj nvj : Value), gh + j = me ∧ iv = .int .i64 (j : Nat) ∧ XIn w0 w1 w0.heap.size tb xb (.slice Ac nc ccap) nv #[.int .u8 6, .int .i64 num, .string nm, .slice EA me ec, .slice BA mb bc, .slice LA ml lc] 39 (t.addRow 40 (e.take j)) cvj nvj wr)
  case atStart => exact ⟨0, _, nv, rfl, rfl, by rw [List.take_zero, TS.addRow_nil]; exact HI.out.1⟩
  case round =>
  obtain ⟨j, cvj, nvj, hg, rfl, hI⟩ := hrel
  obtain ⟨W, eW⟩ : ∃ W, W = wr := ⟨_, rfl⟩
  rw [← eW] at hI ⊢
  clear eW x0 x1 x2 x3 x4 x5 f0
  obtain ⟨hme, hme2, hfe, hE, hbd, hrl, EX⟩ := HA.out
  by_cases hlt : j < me
  · obtain ⟨y, hy⟩ : ∃ y, e[j]? = some y := ⟨_, List.getElem?_eq_getElem (by omega)⟩
    obtain ⟨b', o, A', c', rfl, hc, hd⟩ := hE.one hy
    obtain ⟨r0, r1, r2, r3, -, -⟩ := hc.below hI.b
    obtain ⟨x0, x1, x2, x3, x4, x5⟩ := sbox hI.p
    obtain ⟨W2, e2⟩ : ∃ W2, W2 = W.alloc (.cells #[.int .u8 (y.op : Nat), .int .i64 y.n, .string y.nm, .slice A' y.args.length c'] 34 (0, 0)) := ⟨_, rfl⟩
    obtain ⟨yb, eyb⟩ : ∃ yb, yb = W.heap.size := ⟨_, rfl⟩
    have hI2 : XIn w0 w1 w0.heap.size tb xb (.slice Ac nc ccap) nv #[.int .u8 6, .int .i64 num, .string nm, .slice (some ⟨b', o, none⟩) me ec, .slice BA mb bc, .slice LA ml lc] 39 (t.addRow 40 (e.take j)) cvj nvj W2 := by rw [e2]; exact hI.more _
    have py : W2.heap[yb]? = some (.cells #[.int .u8 (y.op : Nat), .int .i64 y.n, .string y.nm, .slice A' y.args.length c'] 34 (0, 0)) := by rw [e2, eyb]; exact heap_alloc_new W _
    have hle := rowC_le (exprC t.names 40) hy t.code.length
    have hb1 := hbd.1
    have F := EX y A' c' (hfe y (List.mem_of_getElem? hy)) hc.lim hd W2 tb (t.addRow 40 (e.take j)) cvj nvj hI2.b hI2.k (by simp only [TS.code_addRow, TS.names_addRow, List.length_append]; omega) (by simp only [TS.names_addRow]; omega)
    rw [TS.addRow_snoc, ← take_snoc hy] at F
    obtain ⟨y0, y1, y2, y3⟩ := ebox py
    have i0 : (0 : Int) ≤ (j : Int) := by omega
    have i1 : (j : Int) < (me : Int) := by omega
    have i2 : decide (j < me) = true := decide_eq_true hlt
    have w2 : wrap64 ((j : Int) + 1) = (j : Int) + 1 := by unfold wrap64; omega
    have F : Calls Tryz.prog 88 #[.pointer (some ⟨tb, 0, none⟩), .agg #[.int .u8 (y.op : Nat), .int .i64 y.n, .string y.nm, .slice A' y.args.length c']] W2 fun r w' => r = .returned (.tuple #[]) ∧ TRes W2 w0.heap.size tb cvj nvj (t.addRow 40 (e.take (j + 1))) w' := F
    have HJ := Lib.hid (And.intro hI2 (And.intro hg hlt))
    clear hy hc hd hI hI2 py hle hb1 hg hlt hme hme2 hfe hE hbd hrl EX
    go_upto_region 5 with fail
    rw [← e2, ← eyb]
    clear e2 eyb r0 r1 r2 r3 x0 x1 x2 x3 x4 x5
    go_wp2_with (go_at_call 88; refine F.mono ?_; rintro e w3 ⟨rfl, h3⟩; obtain ⟨cv3, nv3, I3, -⟩ := HJ.out.1.step stmtTypes HJ.out.1.size h3; have H3 := Lib.hid I3; clear I3 h3)
    go_roundg (me - (j + 1))
    case measure => have := HJ.out.2.1; have := HJ.out.2.2; omega
    case rel => exact ⟨j + 1, cv3, nv3, by have := HJ.out.2.2; omega, by go_num, H3.out⟩
  · have i2 : decide (j < me) = false := decide_eq_false hlt
    have ht : e.take j = e := List.take_of_length_le (by omega)
    rw [ht] at hI
    obtain ⟨x0, x1, x2, x3, x4, x5⟩ := sbox hI.p
    have hb1 := hbd.1
    have hcl : (t.addRow 40 e).code.length ≤ 100000 := by simp only [TS.code_addRow, List.length_append]; omega
    have hnl : (t.addRow 40 e).names.length ≤ 100000 := by simp only [TS.names_addRow]; omega
    have hLl : (t.addRow 40 e).L ≤ 200000 := by rw [TS.L_addRow]; exact hbd.2
    have F := tputA w0.heap.size tb _ cvj nvj 14 0 W hI.k (by omega)
    have HJ := Lib.hid hI
    clear hI hg hlt hme hme2 hfe hE hbd hrl EX ht hb1 hcl hnl hLl
    go_wp2_with (go_at_call 89; refine F.mono ?_; rintro e w3 ⟨rfl, h3⟩; have H3 := Lib.hid h3; clear h3)
    go_end0
    exact ⟨rfl, _, after_end (s := .mk 6 num nm e b els) (Or.inr (Or.inl ⟨rfl, rfl, rfl⟩)), (H3.out.trans HJ.out.f).trans HI.out.2.1⟩
set_option maxRecDepth 100000 in
set_option maxHeartbeats 8000000 in
theorem stm_fail (w0 : World) (m : Nat) (num : Int) (nm : ByteArray) (e : List E0) (b els : List S0) (EA : Option Addr) (me ec : Nat) (BA : Option Addr) (mb bc : Nat) (LA : Option Addr) (ml lc : Nat) (w : World) (tb : Nat) (t : TS) (cv nv : Value)
    (hb : Below w0.heap.size w0 w) (hk : TOk w w0.heap.size tb t cv nv) (hme : me = e.length) (hme2 : me ≤ 1000000) (hfe : ∀ x, x ∈ e → fineB 40 x = true) (hE : EsAt w0 41 EA e) (hbd : Bd t (stmtC (m + 1) (.mk 7 num nm e b els) t.names t.code.length).length) :
    Calls Tryz.prog 52 #[.pointer (some ⟨tb, 0, none⟩), .agg #[.int .u8 7, .int .i64 num, .string nm, .slice EA me ec, .slice BA mb bc, .slice LA ml lc]] w fun r w' => r = .returned (.tuple #[]) ∧ ∃ t', After (m + 1) (.mk 7 num nm e b els) t t' ∧ TRes w w0.heap.size tb cv nv t' w' := by
  obtain ⟨Ac, ccap, A0, c0, ecv, env⟩ := hk.shape
  obtain ⟨nc, enc⟩ : ∃ nc, nc = t.code.length := ⟨_, rfl⟩
  rw [← enc] at ecv
  subst ecv
  obtain ⟨w1, xb, e1, exb, I1, b1⟩ := xin_new w0 w tb t _ nv #[.int .u8 7, .int .i64 num, .string nm, .slice EA me ec, .slice BA mb bc, .slice LA ml lc] 39 hb hk
  obtain ⟨x0, x1, x2, x3, x4, x5⟩ := sbox I1.p
  obtain ⟨f0, -⟩ := I1.k.facts
  have EX := texpr_all w0 40
  have hrl := row_le m (.mk 7 num nm e b els) t.names t.code.length
  have hrl : (rowC (exprC t.names 40) e t.code.length).length ≤ (stmtC (m + 1) (.mk 7 num nm e b els) t.names t.code.length).length := hrl
  have HI := Lib.hid (And.intro I1 (And.intro b1 enc))
  have HA := Lib.hid (And.intro hme (And.intro hme2 (And.intro hfe (And.intro hE (And.intro hbd (And.intro hrl EX))))))
  clear I1 b1 hme hme2 hfe hE hbd hrl EX hb hk enc env
  go_enter Tryz.func52, Tryz.ntmps52
  go_upto_region 1 with fail
  rw [← e1, ← exb]
  clear e1 exb
  go_wp2_with fail
  go_loopg [19] me (fun gh iv wr => ∃ (j : Nat) (cvj nvj : Value), gh + j = me ∧ iv = .int .i64 (j : Nat) ∧ XIn w0 w1 w0.heap.size tb xb (.slice Ac nc ccap) nv #[.int .u8 7, .int .i64 num, .string nm, .slice EA me ec, .slice BA mb bc, .slice LA ml lc] 39 (t.addRow 40 (e.take j)) cvj nvj wr)
  case atStart => exact ⟨0, _, nv, rfl, rfl, by rw [List.take_zero, TS.addRow_nil]; exact HI.out.1⟩
  case round =>
  obtain ⟨j, cvj, nvj, hg, rfl, hI⟩ := hrel
  obtain ⟨W, eW⟩ : ∃ W, W = wr := ⟨_, rfl⟩
  rw [← eW] at hI ⊢
  clear eW x0 x1 x2 x3 x4 x5 f0
  obtain ⟨hme, hme2, hfe, hE, hbd, hrl, EX⟩ := HA.out
  by_cases hlt : j < me
  · obtain ⟨y, hy⟩ : ∃ y, e[j]? = some y := ⟨_, List.getElem?_eq_getElem (by omega)⟩
    obtain ⟨b', o, A', c', rfl, hc, hd⟩ := hE.one hy
    obtain ⟨r0, r1, r2, r3, -, -⟩ := hc.below hI.b
    obtain ⟨x0, x1, x2, x3, x4, x5⟩ := sbox hI.p
    obtain ⟨W2, e2⟩ : ∃ W2, W2 = W.alloc (.cells #[.int .u8 (y.op : Nat), .int .i64 y.n, .string y.nm, .slice A' y.args.length c'] 34 (0, 0)) := ⟨_, rfl⟩
    obtain ⟨yb, eyb⟩ : ∃ yb, yb = W.heap.size := ⟨_, rfl⟩
    have hI2 : XIn w0 w1 w0.heap.size tb xb (.slice Ac nc ccap) nv #[.int .u8 7, .int .i64 num, .string nm, .slice (some ⟨b', o, none⟩) me ec, .slice BA mb bc, .slice LA ml lc] 39 (t.addRow 40 (e.take j)) cvj nvj W2 := by rw [e2]; exact hI.more _
    have py : W2.heap[yb]? = some (.cells #[.int .u8 (y.op : Nat), .int .i64 y.n, .string y.nm, .slice A' y.args.length c'] 34 (0, 0)) := by rw [e2, eyb]; exact heap_alloc_new W _
    have hle := rowC_le (exprC t.names 40) hy t.code.length
    have hb1 := hbd.1
    have F := EX y A' c' (hfe y (List.mem_of_getElem? hy)) hc.lim hd W2 tb (t.addRow 40 (e.take j)) cvj nvj hI2.b hI2.k (by simp only [TS.code_addRow, TS.names_addRow, List.length_append]; omega) (by simp only [TS.names_addRow]; omega)
    rw [TS.addRow_snoc, ← take_snoc hy] at F
    obtain ⟨y0, y1, y2, y3⟩ := ebox py
    have i0 : (0 : Int) ≤ (j : Int) := by omega
    have i1 : (j : Int) < (me : Int) := by omega
    have i2 : decide (j < me) = true := decide_eq_true hlt
    have w2 : wrap64 ((j : Int) + 1) = (j : Int) + 1 := by unfold wrap64; omega
    have F : Calls Tryz.prog 88 #[.pointer (some ⟨tb, 0, none⟩), .agg #[.int .u8 (y.op : Nat), .int .i64 y.n, .string y.nm, .slice A' y.args.length c']] W2 fun r w' => r = .returned (.tuple #[]) ∧ TRes W2 w0.heap.size tb cvj nvj (t.addRow 40 (e.take (j + 1))) w' := F
    have HJ := Lib.hid (And.intro hI2 (And.intro hg hlt))
    clear hy hc hd hI hI2 py hle hb1 hg hlt hme hme2 hfe hE hbd hrl EX
    go_upto_region 5 with fail
    rw [← e2, ← eyb]
    clear e2 eyb r0 r1 r2 r3 x0 x1 x2 x3 x4 x5
    go_wp2_with (go_at_call 88; refine F.mono ?_; rintro e w3 ⟨rfl, h3⟩; obtain ⟨cv3, nv3, I3, -⟩ := HJ.out.1.step stmtTypes HJ.out.1.size h3; have H3 := Lib.hid I3; clear I3 h3)
    go_roundg (me - (j + 1))
    case measure => have := HJ.out.2.1; have := HJ.out.2.2; omega
    case rel => exact ⟨j + 1, cv3, nv3, by have := HJ.out.2.2; omega, by go_num, H3.out⟩
  · have i2 : decide (j < me) = false := decide_eq_false hlt
    have ht : e.take j = e := List.take_of_length_le (by omega)
    rw [ht] at hI
    obtain ⟨x0, x1, x2, x3, x4, x5⟩ := sbox hI.p
    have hb1 := hbd.1
    have hcl : (t.addRow 40 e).code.length ≤ 100000 := by simp only [TS.code_addRow, List.length_append]; omega
    have hnl : (t.addRow 40 e).names.length ≤ 100000 := by simp only [TS.names_addRow]; omega
    have hLl : (t.addRow 40 e).L ≤ 200000 := by rw [TS.L_addRow]; exact hbd.2
    have F := tputA w0.heap.size tb _ cvj nvj 15 0 W hI.k (by omega)
    have HJ := Lib.hid hI
    clear hI hg hlt hme hme2 hfe hE hbd hrl EX ht hb1 hcl hnl hLl
    go_wp2_with (go_at_call 89; refine F.mono ?_; rintro e w3 ⟨rfl, h3⟩; have H3 := Lib.hid h3; clear h3)
    go_end0
    exact ⟨rfl, _, after_end (s := .mk 7 num nm e b els) (Or.inr (Or.inr ⟨rfl, rfl, rfl⟩)), (H3.out.trans HJ.out.f).trans HI.out.2.1⟩
set_option maxRecDepth 100000 in
set_option maxHeartbeats 8000000 in
theorem stm_let (w0 : World) (m : Nat) (num : Int) (nm : ByteArray) (e : List E0) (b els : List S0) (EA : Option Addr) (me ec : Nat) (BA : Option Addr) (mb bc : Nat) (LA : Option Addr) (ml lc : Nat) (w : World) (tb : Nat) (t : TS) (cv nv : Value)
    (hb : Below w0.heap.size w0 w) (hk : TOk w w0.heap.size tb t cv nv) (hme : me = e.length) (hme2 : me ≤ 1000000) (hfe : ∀ x, x ∈ e → fineB 40 x = true) (hE : EsAt w0 41 EA e) (hbd : Bd t (stmtC (m + 1) (.mk 1 num nm e b els) t.names t.code.length).length) :
    Calls Tryz.prog 52 #[.pointer (some ⟨tb, 0, none⟩), .agg #[.int .u8 1, .int .i64 num, .string nm, .slice EA me ec, .slice BA mb bc, .slice LA ml lc]] w fun r w' => r = .returned (.tuple #[]) ∧ ∃ t', After (m + 1) (.mk 1 num nm e b els) t t' ∧ TRes w w0.heap.size tb cv nv t' w' := by
  obtain ⟨Ac, ccap, A0, c0, ecv, env⟩ := hk.shape
  obtain ⟨nc, enc⟩ : ∃ nc, nc = t.code.length := ⟨_, rfl⟩
  rw [← enc] at ecv
  subst ecv
  obtain ⟨w1, xb, e1, exb, I1, b1⟩ := xin_new w0 w tb t _ nv #[.int .u8 1, .int .i64 num, .string nm, .slice EA me ec, .slice BA mb bc, .slice LA ml lc] 39 hb hk
  obtain ⟨x0, x1, x2, x3, x4, x5⟩ := sbox I1.p
  obtain ⟨f0, -⟩ := I1.k.facts
  have EX := texpr_all w0 40
  have hrl := row_le m (.mk 1 num nm e b els) t.names t.code.length
  have hrl : (rowC (exprC t.names 40) e t.code.length).length ≤ (stmtC (m + 1) (.mk 1 num nm e b els) t.names t.code.length).length := hrl
  have HI := Lib.hid (And.intro I1 (And.intro b1 enc))
  have HA := Lib.hid (And.intro hme (And.intro hme2 (And.intro hfe (And.intro hE (And.intro hbd (And.intro hrl EX))))))
  clear I1 b1 hme hme2 hfe hE hbd hrl EX hb hk enc env
  go_enter Tryz.func52, Tryz.ntmps52
  go_upto_region 1 with fail
  rw [← e1, ← exb]
  clear e1 exb
  go_wp2_with fail
  go_loopg [19] me (fun gh iv wr => ∃ (j : Nat) (cvj nvj : Value), gh + j = me ∧ iv = .int .i64 (j : Nat) ∧ XIn w0 w1 w0.heap.size tb xb (.slice Ac nc ccap) nv #[.int .u8 1, .int .i64 num, .string nm, .slice EA me ec, .slice BA mb bc, .slice LA ml lc] 39 (t.addRow 40 (e.take j)) cvj nvj wr)
  case atStart => exact ⟨0, _, nv, rfl, rfl, by rw [List.take_zero, TS.addRow_nil]; exact HI.out.1⟩
  case round =>
  obtain ⟨j, cvj, nvj, hg, rfl, hI⟩ := hrel
  obtain ⟨W, eW⟩ : ∃ W, W = wr := ⟨_, rfl⟩
  rw [← eW] at hI ⊢
  clear eW x0 x1 x2 x3 x4 x5 f0
  obtain ⟨hme, hme2, hfe, hE, hbd, hrl, EX⟩ := HA.out
  by_cases hlt : j < me
  · obtain ⟨y, hy⟩ : ∃ y, e[j]? = some y := ⟨_, List.getElem?_eq_getElem (by omega)⟩
    obtain ⟨b', o, A', c', rfl, hc, hd⟩ := hE.one hy
    obtain ⟨r0, r1, r2, r3, -, -⟩ := hc.below hI.b
    obtain ⟨x0, x1, x2, x3, x4, x5⟩ := sbox hI.p
    obtain ⟨W2, e2⟩ : ∃ W2, W2 = W.alloc (.cells #[.int .u8 (y.op : Nat), .int .i64 y.n, .string y.nm, .slice A' y.args.length c'] 34 (0, 0)) := ⟨_, rfl⟩
    obtain ⟨yb, eyb⟩ : ∃ yb, yb = W.heap.size := ⟨_, rfl⟩
    have hI2 : XIn w0 w1 w0.heap.size tb xb (.slice Ac nc ccap) nv #[.int .u8 1, .int .i64 num, .string nm, .slice (some ⟨b', o, none⟩) me ec, .slice BA mb bc, .slice LA ml lc] 39 (t.addRow 40 (e.take j)) cvj nvj W2 := by rw [e2]; exact hI.more _
    have py : W2.heap[yb]? = some (.cells #[.int .u8 (y.op : Nat), .int .i64 y.n, .string y.nm, .slice A' y.args.length c'] 34 (0, 0)) := by rw [e2, eyb]; exact heap_alloc_new W _
    have hle := rowC_le (exprC t.names 40) hy t.code.length
    have hb1 := hbd.1
    have F := EX y A' c' (hfe y (List.mem_of_getElem? hy)) hc.lim hd W2 tb (t.addRow 40 (e.take j)) cvj nvj hI2.b hI2.k (by simp only [TS.code_addRow, TS.names_addRow, List.length_append]; omega) (by simp only [TS.names_addRow]; omega)
    rw [TS.addRow_snoc, ← take_snoc hy] at F
    obtain ⟨y0, y1, y2, y3⟩ := ebox py
    have i0 : (0 : Int) ≤ (j : Int) := by omega
    have i1 : (j : Int) < (me : Int) := by omega
    have i2 : decide (j < me) = true := decide_eq_true hlt
    have w2 : wrap64 ((j : Int) + 1) = (j : Int) + 1 := by unfold wrap64; omega
    have F : Calls Tryz.prog 88 #[.pointer (some ⟨tb, 0, none⟩), .agg #[.int .u8 (y.op : Nat), .int .i64 y.n, .string y.nm, .slice A' y.args.length c']] W2 fun r w' => r = .returned (.tuple #[]) ∧ TRes W2 w0.heap.size tb cvj nvj (t.addRow 40 (e.take (j + 1))) w' := F
    have HJ := Lib.hid (And.intro hI2 (And.intro hg hlt))
    clear hy hc hd hI hI2 py hle hb1 hg hlt hme hme2 hfe hE hbd hrl EX
    go_upto_region 5 with fail
    rw [← e2, ← eyb]
    clear e2 eyb r0 r1 r2 r3 x0 x1 x2 x3 x4 x5
    go_wp2_with (go_at_call 88; refine F.mono ?_; rintro e w3 ⟨rfl, h3⟩; obtain ⟨cv3, nv3, I3, -⟩ := HJ.out.1.step stmtTypes HJ.out.1.size h3; have H3 := Lib.hid I3; clear I3 h3)
    go_roundg (me - (j + 1))
    case measure => have := HJ.out.2.1; have := HJ.out.2.2; omega
    case rel => exact ⟨j + 1, cv3, nv3, by have := HJ.out.2.2; omega, by go_num, H3.out⟩
  · have i2 : decide (j < me) = false := decide_eq_false hlt
    have ht : e.take j = e := List.take_of_length_le (by omega)
    rw [ht] at hI
    obtain ⟨x0, x1, x2, x3, x4, x5⟩ := sbox hI.p
    have hb1 := hbd.1
    have hcl : (t.addRow 40 e).code.length ≤ 100000 := by simp only [TS.code_addRow, List.length_append]; omega
    have hnl : (t.addRow 40 e).names.length ≤ 100000 := by simp only [TS.names_addRow]; omega
    have hLl : (t.addRow 40 e).L ≤ 200000 := by rw [TS.L_addRow]; exact hbd.2
    have X := tlet_ok w0.heap.size tb _ cvj nvj nm W hI.k (by omega) (by omega)
    have Y := fun (W : World) (cv nv : Value) (h : TOk W w0.heap.size tb ((((t.addRow 40 e).failIf (hasM (t.addRow 40 e).names nm) 132).failIf (decide (32 ≤ (t.addRow 40 e).names.length)) 5).push nm) cv nv) => tputA w0.heap.size tb _ cv nv 3 (((t.addRow 40 e).names.length : Nat) : Int) W h (by show (((t.addRow 40 e).failIf _ 132).failIf _ 5).code.length ≤ 1000000; rw [TS.code_failIf, TS.code_failIf]; omega)
    have HF := Lib.hid (after_let (m := m) (s := .mk 1 num nm e b els) (t := t) rfl)
    have e3 : (S0.mk 1 num nm e b els).e = e := rfl
    have e4 : (S0.mk 1 num nm e b els).nm = nm := rfl
    have HF := HF.out
    rw [e3, e4] at HF
    generalize (((t.addRow 40 e).failIf (hasM (t.addRow 40 e).names nm) 132).failIf (decide (32 ≤ (t.addRow 40 e).names.length)) 5).push nm = tx at *
    generalize (t.addRow 40 e).names.length = N at *
    have HJ := Lib.hid (And.intro hI (And.intro Y HF))
    clear Y HF e3 e4
    clear hI hg hlt hme hme2 hfe hE hbd hrl EX ht hb1 hcl hnl hLl
    go_wp2_with (first | (go_at_call 90; refine X.mono ?_; rintro e w3 ⟨rfl, h3⟩; obtain ⟨cv3, nv3, I3, -⟩ := HJ.out.1.step stmtTypes HJ.out.1.size h3; have H3 := Lib.hid I3; clear I3 h3) | (go_at_call 89; refine (HJ.out.2.1 _ _ _ H3.out.k).mono ?_; rintro e w4 ⟨rfl, h4⟩; have H4 := Lib.hid h4; clear h4))
    go_end0
    exact ⟨rfl, _, HJ.out.2.2, (H4.out.trans H3.out.f).trans HI.out.2.1⟩
set_option maxRecDepth 100000 in
set_option maxHeartbeats 8000000 in
theorem stm_set (w0 : World) (m : Nat) (num : Int) (nm : ByteArray) (e : List E0) (b els : List S0) (EA : Option Addr) (me ec : Nat) (BA : Option Addr) (mb bc : Nat) (LA : Option Addr) (ml lc : Nat) (w : World) (tb : Nat) (t : TS) (cv nv : Value)
    (hb : Below w0.heap.size w0 w) (hk : TOk w w0.heap.size tb t cv nv) (hme : me = e.length) (hme2 : me ≤ 1000000) (hfe : ∀ x, x ∈ e → fineB 40 x = true) (hE : EsAt w0 41 EA e) (hbd : Bd t (stmtC (m + 1) (.mk 2 num nm e b els) t.names t.code.length).length) :
    Calls Tryz.prog 52 #[.pointer (some ⟨tb, 0, none⟩), .agg #[.int .u8 2, .int .i64 num, .string nm, .slice EA me ec, .slice BA mb bc, .slice LA ml lc]] w fun r w' => r = .returned (.tuple #[]) ∧ ∃ t', After (m + 1) (.mk 2 num nm e b els) t t' ∧ TRes w w0.heap.size tb cv nv t' w' := by
  obtain ⟨Ac, ccap, A0, c0, ecv, env⟩ := hk.shape
  obtain ⟨nc, enc⟩ : ∃ nc, nc = t.code.length := ⟨_, rfl⟩
  rw [← enc] at ecv
  subst ecv
  obtain ⟨w1, xb, e1, exb, I1, b1⟩ := xin_new w0 w tb t _ nv #[.int .u8 2, .int .i64 num, .string nm, .slice EA me ec, .slice BA mb bc, .slice LA ml lc] 39 hb hk
  obtain ⟨x0, x1, x2, x3, x4, x5⟩ := sbox I1.p
  obtain ⟨f0, -⟩ := I1.k.facts
  have EX := texpr_all w0 40
  have hrl := row_le m (.mk 2 num nm e b els) t.names t.code.length
  have hrl : (rowC (exprC t.names 40) e t.code.length).length ≤ (stmtC (m + 1) (.mk 2 num nm e b els) t.names t.code.length).length := hrl
  have HI := Lib.hid (And.intro I1 (And.intro b1 enc))
  have HA := Lib.hid (And.intro hme (And.intro hme2 (And.intro hfe (And.intro hE (And.intro hbd (And.intro hrl EX))))))
  clear I1 b1 hme hme2 hfe hE hbd hrl EX hb hk enc env
  go_enter Tryz.func52, Tryz.ntmps52
  go_upto_region 1 with fail
  rw [← e1, ← exb]
  clear e1 exb
  go_wp2_with fail
  go_loopg [19] me (fun gh iv wr => ∃ (j : Nat) (cvj nvj : Value), gh + j = me ∧ iv = .int .i64 (j : Nat) ∧ XIn w0 w1 w0.heap.size tb xb (.slice Ac nc ccap) nv #[.int .u8 2, .int .i64 num, .string nm, .slice EA me ec, .slice BA mb bc, .slice LA ml lc] 39 (t.addRow 40 (e.take j)) cvj nvj wr)
  case atStart => exact ⟨0, _, nv, rfl, rfl, by rw [List.take_zero, TS.addRow_nil]; exact HI.out.1⟩
  case round =>
  obtain ⟨j, cvj, nvj, hg, rfl, hI⟩ := hrel
  obtain ⟨W, eW⟩ : ∃ W, W = wr := ⟨_, rfl⟩
  rw [← eW] at hI ⊢
  clear eW x0 x1 x2 x3 x4 x5 f0
  obtain ⟨hme, hme2, hfe, hE, hbd, hrl, EX⟩ := HA.out
  by_cases hlt : j < me
  · obtain ⟨y, hy⟩ : ∃ y, e[j]? = some y := ⟨_, List.getElem?_eq_getElem (by omega)⟩
    obtain ⟨b', o, A', c', rfl, hc, hd⟩ := hE.one hy
    obtain ⟨r0, r1, r2, r3, -, -⟩ := hc.below hI.b
    obtain ⟨x0, x1, x2, x3, x4, x5⟩ := sbox hI.p
    obtain ⟨W2, e2⟩ : ∃ W2, W2 = W.alloc (.cells #[.int .u8 (y.op : Nat), .int .i64 y.n, .string y.nm, .slice A' y.args.length c'] 34 (0, 0)) := ⟨_, rfl⟩
    obtain ⟨yb, eyb⟩ : ∃ yb, yb = W.heap.size := ⟨_, rfl⟩
    have hI2 : XIn w0 w1 w0.heap.size tb xb (.slice Ac nc ccap) nv #[.int .u8 2, .int .i64 num, .string nm, .slice (some ⟨b', o, none⟩) me ec, .slice BA mb bc, .slice LA ml lc] 39 (t.addRow 40 (e.take j)) cvj nvj W2 := by rw [e2]; exact hI.more _
    have py : W2.heap[yb]? = some (.cells #[.int .u8 (y.op : Nat), .int .i64 y.n, .string y.nm, .slice A' y.args.length c'] 34 (0, 0)) := by rw [e2, eyb]; exact heap_alloc_new W _
    have hle := rowC_le (exprC t.names 40) hy t.code.length
    have hb1 := hbd.1
    have F := EX y A' c' (hfe y (List.mem_of_getElem? hy)) hc.lim hd W2 tb (t.addRow 40 (e.take j)) cvj nvj hI2.b hI2.k (by simp only [TS.code_addRow, TS.names_addRow, List.length_append]; omega) (by simp only [TS.names_addRow]; omega)
    rw [TS.addRow_snoc, ← take_snoc hy] at F
    obtain ⟨y0, y1, y2, y3⟩ := ebox py
    have i0 : (0 : Int) ≤ (j : Int) := by omega
    have i1 : (j : Int) < (me : Int) := by omega
    have i2 : decide (j < me) = true := decide_eq_true hlt
    have w2 : wrap64 ((j : Int) + 1) = (j : Int) + 1 := by unfold wrap64; omega
    have F : Calls Tryz.prog 88 #[.pointer (some ⟨tb, 0, none⟩), .agg #[.int .u8 (y.op : Nat), .int .i64 y.n, .string y.nm, .slice A' y.args.length c']] W2 fun r w' => r = .returned (.tuple #[]) ∧ TRes W2 w0.heap.size tb cvj nvj (t.addRow 40 (e.take (j + 1))) w' := F
    have HJ := Lib.hid (And.intro hI2 (And.intro hg hlt))
    clear hy hc hd hI hI2 py hle hb1 hg hlt hme hme2 hfe hE hbd hrl EX
    go_upto_region 5 with fail
    rw [← e2, ← eyb]
    clear e2 eyb r0 r1 r2 r3 x0 x1 x2 x3 x4 x5
    go_wp2_with (go_at_call 88; refine F.mono ?_; rintro e w3 ⟨rfl, h3⟩; obtain ⟨cv3, nv3, I3, -⟩ := HJ.out.1.step stmtTypes HJ.out.1.size h3; have H3 := Lib.hid I3; clear I3 h3)
    go_roundg (me - (j + 1))
    case measure => have := HJ.out.2.1; have := HJ.out.2.2; omega
    case rel => exact ⟨j + 1, cv3, nv3, by have := HJ.out.2.2; omega, by go_num, H3.out⟩
  · have i2 : decide (j < me) = false := decide_eq_false hlt
    have ht : e.take j = e := List.take_of_length_le (by omega)
    rw [ht] at hI
    obtain ⟨x0, x1, x2, x3, x4, x5⟩ := sbox hI.p
    have hb1 := hbd.1
    have hcl : (t.addRow 40 e).code.length ≤ 100000 := by simp only [TS.code_addRow, List.length_append]; omega
    have hnl : (t.addRow 40 e).names.length ≤ 100000 := by simp only [TS.names_addRow]; omega
    have hLl : (t.addRow 40 e).L ≤ 200000 := by rw [TS.L_addRow]; exact hbd.2
    have X := tslot_ok w0.heap.size tb _ cvj nvj nm W hI.k (by omega)
    have Y := fun (W : World) (cv nv : Value) (h : TOk W w0.heap.size tb ((t.addRow 40 e).failIf (decide (idxM (t.addRow 40 e).names nm < 0)) 131) cv nv) => tputA w0.heap.size tb _ cv nv 3 (idxM (t.addRow 40 e).names nm) W h (by rw [TS.code_failIf]; omega)
    have HF := after_set (m := m) (s := .mk 2 num nm e b els) (t := t) rfl
    have e3 : (S0.mk 2 num nm e b els).e = e := rfl
    have e4 : (S0.mk 2 num nm e b els).nm = nm := rfl
    rw [e3, e4] at HF
    generalize (t.addRow 40 e).failIf (decide (idxM (t.addRow 40 e).names nm < 0)) 131 = tx at *
    generalize idxM (t.addRow 40 e).names nm = N at *
    have HJ := Lib.hid (And.intro hI (And.intro Y HF))
    clear Y HF e3 e4
    clear hI hg hlt hme hme2 hfe hE hbd hrl EX ht hb1 hcl hnl hLl
    go_wp2_with (first | (go_at_call 91; refine X.mono ?_; rintro e w3 ⟨rfl, h3⟩; obtain ⟨cv3, nv3, I3, -⟩ := HJ.out.1.step stmtTypes HJ.out.1.size h3; have H3 := Lib.hid I3; clear I3 h3) | (go_at_call 89; refine (HJ.out.2.1 _ _ _ H3.out.k).mono ?_; rintro e w4 ⟨rfl, h4⟩; have H4 := Lib.hid h4; clear h4))
    go_end0
    exact ⟨rfl, _, HJ.out.2.2, (H4.out.trans H3.out.f).trans HI.out.2.1⟩
set_option maxRecDepth 100000 in
set_option maxHeartbeats 8000000 in
theorem stm_if0 (w0 : World) (m : Nat) (num : Int) (nm : ByteArray) (e : List E0) (b els : List S0) (EA : Option Addr) (me ec : Nat) (BA : Option Addr) (mb bc : Nat) (LA : Option Addr) (ml lc : Nat) (w : World) (tb : Nat) (t : TS) (cv nv : Value)
    (hb : Below w0.heap.size w0 w) (hk : TOk w w0.heap.size tb t cv nv) (hme : me = e.length) (hme2 : me ≤ 1000000) (hfe : ∀ x, x ∈ e → fineB 40 x = true) (hE : EsAt w0 41 EA e) (hbd : Bd t (stmtC (m + 1) (.mk 4 num nm e b els) t.names t.code.length).length) (IHL : ListT w0 m) (hmb : mb = b.length) (hmb2 : mb ≤ 1000000) (hrb : ∀ u, u ∈ b → rightS m u = true) (hSb : SsAt w0 (m + 1) BA b) (hml : ml = 0) (hels : els = []) :
    Calls Tryz.prog 52 #[.pointer (some ⟨tb, 0, none⟩), .agg #[.int .u8 4, .int .i64 num, .string nm, .slice EA me ec, .slice BA mb bc, .slice LA ml lc]] w fun r w' => r = .returned (.tuple #[]) ∧ ∃ t', After (m + 1) (.mk 4 num nm e b els) t t' ∧ TRes w w0.heap.size tb cv nv t' w' := by
  obtain ⟨Ac, ccap, A0, c0, ecv, env⟩ := hk.shape
  obtain ⟨nc, enc⟩ : ∃ nc, nc = t.code.length := ⟨_, rfl⟩
  rw [← enc] at ecv
  subst ecv
  obtain ⟨w1, xb, e1, exb, I1, b1⟩ := xin_new w0 w tb t _ nv #[.int .u8 4, .int .i64 num, .string nm, .slice EA me ec, .slice BA mb bc, .slice LA ml lc] 39 hb hk
  obtain ⟨x0, x1, x2, x3, x4, x5⟩ := sbox I1.p
  obtain ⟨f0, -⟩ := I1.k.facts
  have EX := texpr_all w0 40
  have hrl := row_le m (.mk 4 num nm e b els) t.names t.code.length
  have hrl : (rowC (exprC t.names 40) e t.code.length).length ≤ (stmtC (m + 1) (.mk 4 num nm e b els) t.names t.code.length).length := hrl
  have HI := Lib.hid (And.intro I1 (And.intro b1 enc))
  have HL := Lib.hid (And.intro IHL (And.intro hmb (And.intro hmb2 (And.intro hrb hSb))))
  have ml1 : decide (0 < ml) = false := decide_eq_false (by omega)
  have ml2 : decide ((0 : Int) < (ml : Int)) = false := decide_eq_false (by omega)
  have HE := Lib.hid hels
  have HA := Lib.hid (And.intro hme (And.intro hme2 (And.intro hfe (And.intro hE (And.intro hbd (And.intro hrl EX))))))
  clear I1 b1 hme hme2 hfe hE hbd hrl EX hb hk enc env IHL hmb hmb2 hrb hSb hml hels
  go_enter Tryz.func52, Tryz.ntmps52
  go_upto_region 1 with fail
  rw [← e1, ← exb]
  clear e1 exb
  go_wp2_with fail
  go_loopg [19] me (fun gh iv wr => ∃ (j : Nat) (cvj nvj : Value), gh + j = me ∧ iv = .int .i64 (j : Nat) ∧ XIn w0 w1 w0.heap.size tb xb (.slice Ac nc ccap) nv #[.int .u8 4, .int .i64 num, .string nm, .slice EA me ec, .slice BA mb bc, .slice LA ml lc] 39 (t.addRow 40 (e.take j)) cvj nvj wr)
  case atStart => exact ⟨0, _, nv, rfl, rfl, by rw [List.take_zero, TS.addRow_nil]; exact HI.out.1⟩
  case round =>
  obtain ⟨j, cvj, nvj, hg, rfl, hI⟩ := hrel
  obtain ⟨W, eW⟩ : ∃ W, W = wr := ⟨_, rfl⟩
  rw [← eW] at hI ⊢
  clear eW x0 x1 x2 x3 x4 x5 f0
  obtain ⟨hme, hme2, hfe, hE, hbd, hrl, EX⟩ := HA.out
  by_cases hlt : j < me
  · obtain ⟨y, hy⟩ : ∃ y, e[j]? = some y := ⟨_, List.getElem?_eq_getElem (by omega)⟩
    obtain ⟨b', o, A', c', rfl, hc, hd⟩ := hE.one hy
    obtain ⟨r0, r1, r2, r3, -, -⟩ := hc.below hI.b
    obtain ⟨x0, x1, x2, x3, x4, x5⟩ := sbox hI.p
    obtain ⟨W2, e2⟩ : ∃ W2, W2 = W.alloc (.cells #[.int .u8 (y.op : Nat), .int .i64 y.n, .string y.nm, .slice A' y.args.length c'] 34 (0, 0)) := ⟨_, rfl⟩
    obtain ⟨yb, eyb⟩ : ∃ yb, yb = W.heap.size := ⟨_, rfl⟩
    have hI2 : XIn w0 w1 w0.heap.size tb xb (.slice Ac nc ccap) nv #[.int .u8 4, .int .i64 num, .string nm, .slice (some ⟨b', o, none⟩) me ec, .slice BA mb bc, .slice LA ml lc] 39 (t.addRow 40 (e.take j)) cvj nvj W2 := by rw [e2]; exact hI.more _
    have py : W2.heap[yb]? = some (.cells #[.int .u8 (y.op : Nat), .int .i64 y.n, .string y.nm, .slice A' y.args.length c'] 34 (0, 0)) := by rw [e2, eyb]; exact heap_alloc_new W _
    have hle := rowC_le (exprC t.names 40) hy t.code.length
    have hb1 := hbd.1
    have F := EX y A' c' (hfe y (List.mem_of_getElem? hy)) hc.lim hd W2 tb (t.addRow 40 (e.take j)) cvj nvj hI2.b hI2.k (by simp only [TS.code_addRow, TS.names_addRow, List.length_append]; omega) (by simp only [TS.names_addRow]; omega)
    rw [TS.addRow_snoc, ← take_snoc hy] at F
    obtain ⟨y0, y1, y2, y3⟩ := ebox py
    have i0 : (0 : Int) ≤ (j : Int) := by omega
    have i1 : (j : Int) < (me : Int) := by omega
    have i2 : decide (j < me) = true := decide_eq_true hlt
    have w2 : wrap64 ((j : Int) + 1) = (j : Int) + 1 := by unfold wrap64; omega
    have F : Calls Tryz.prog 88 #[.pointer (some ⟨tb, 0, none⟩), .agg #[.int .u8 (y.op : Nat), .int .i64 y.n, .string y.nm, .slice A' y.args.length c']] W2 fun r w' => r = .returned (.tuple #[]) ∧ TRes W2 w0.heap.size tb cvj nvj (t.addRow 40 (e.take (j + 1))) w' := F
    have HJ := Lib.hid (And.intro hI2 (And.intro hg hlt))
    clear hy hc hd hI hI2 py hle hb1 hg hlt hme hme2 hfe hE hbd hrl EX
    go_upto_region 5 with fail
    rw [← e2, ← eyb]
    clear e2 eyb r0 r1 r2 r3 x0 x1 x2 x3 x4 x5
    go_wp2_with (go_at_call 88; refine F.mono ?_; rintro e w3 ⟨rfl, h3⟩; obtain ⟨cv3, nv3, I3, -⟩ := HJ.out.1.step stmtTypes HJ.out.1.size h3; have H3 := Lib.hid I3; clear I3 h3)
    go_roundg (me - (j + 1))
    case measure => have := HJ.out.2.1; have := HJ.out.2.2; omega
    case rel => exact ⟨j + 1, cv3, nv3, by have := HJ.out.2.2; omega, by go_num, H3.out⟩
  · have i2 : decide (j < me) = false := decide_eq_false hlt
    have ht : e.take j = e := List.take_of_length_le (by omega)
    rw [ht] at hI
    obtain ⟨x0, x1, x2, x3, x4, x5⟩ := sbox hI.p
    have hb1 := hbd.1
    have hcl : (t.addRow 40 e).code.length ≤ 100000 := by simp only [TS.code_addRow, List.length_append]; omega
    have hnl : (t.addRow 40 e).names.length ≤ 100000 := by simp only [TS.names_addRow]; omega
    have hLl : (t.addRow 40 e).L ≤ 200000 := by rw [TS.L_addRow]; exact hbd.2
    obtain ⟨IHL, hmb, hmb2, hrb, hSb⟩ := HL.out
    have F := tlaterA w0.heap.size tb _ cvj nvj 12 W hI.k hcl
    have X := fun (W : World) (cv nv : Value) (h1 : Below w0.heap.size w0 W) (h2 : TOk W w0.heap.size tb ((t.addRow 40 e).app [(12, 0)]) cv nv) => IHL b BA bc hrb (by omega) hSb W tb ((t.addRow 40 e).app [(12, 0)]) cv nv h1 h2 (bd_body (s := .mk 4 num nm e b els) (Or.inl rfl) hbd)
    rw [← hmb] at X
    have HJ := Lib.hid (And.intro hI X)
    clear X IHL hmb hmb2 hrb hSb
    clear hI hg hlt hme hme2 hfe hE hbd hrl EX ht hb1 hcl hnl hLl
    go_upto_region 16 with (go_at_call 92; refine F.mono ?_; rintro e w3 ⟨v3, rfl, p3, h3⟩; obtain ⟨cv3, nv3, I3, -⟩ := HJ.out.1.step stmtTypes HJ.out.1.size h3; obtain ⟨pb, qb, rfl, P3⟩ := p3.boxes; have H3 := Lib.hid (And.intro I3 P3); clear I3 h3 p3 P3)
    clear x0 x1 x2 x3 x4 x5
    obtain ⟨x0, x1, x2, x3, x4, x5⟩ := sbox H3.out.1.p
    go_upto_region 17 with (go_at_call 32; refine (HJ.out.2 _ _ _ H3.out.1.b H3.out.1.k).mono ?_; rintro e w4 ⟨rfl, t2, a2, h4⟩; obtain ⟨cv4, nv4, I4, f4⟩ := H3.out.1.step stmtTypes H3.out.1.size h4; have H4 := Lib.hid (And.intro I4 (And.intro (H3.out.2.keep H3.out.1.k f4) a2)); clear I4 h4 f4 a2)
    clear x0 x1 x2 x3 x4 x5
    obtain ⟨x0, x1, x2, x3, x4, x5⟩ := sbox H4.out.1.p
    obtain ⟨g1, g2, g3⟩ := after_if0 (m := m) (s := .mk 4 num nm e b els) (t := t) (t2 := t2) rfl HE.out H4.out.2.2
    have g4 : t2.code.length ≤ 1000000 := by have := HA.out.2.2.2.2.1.1; omega
    have Z := tpatch_ok w0.heap.size tb _ pb qb t2 cv4 nv4 (12, 0) w4 H4.out.1.k g1 g4 H4.out.2.1.p H4.out.2.1.q
    have HZ := Lib.hid g2
    clear g1 g2 g3 g4
    go_wp2_with (go_at_call 117; refine Z.mono ?_; rintro e w5 ⟨rfl, h5⟩; have H5 := Lib.hid h5; clear h5)
    go_end0
    exact ⟨rfl, _, HZ.out, (H5.out.trans H4.out.1.f).trans HI.out.2.1⟩
set_option maxRecDepth 100000 in
set_option maxHeartbeats 8000000 in
theorem stm_while (w0 : World) (m : Nat) (num : Int) (nm : ByteArray) (e : List E0) (b els : List S0) (EA : Option Addr) (me ec : Nat) (BA : Option Addr) (mb bc : Nat) (LA : Option Addr) (ml lc : Nat) (w : World) (tb : Nat) (t : TS) (cv nv : Value)
    (hb : Below w0.heap.size w0 w) (hk : TOk w w0.heap.size tb t cv nv) (hme : me = e.length) (hme2 : me ≤ 1000000) (hfe : ∀ x, x ∈ e → fineB 40 x = true) (hE : EsAt w0 41 EA e) (hbd : Bd t (stmtC (m + 1) (.mk 5 num nm e b els) t.names t.code.length).length) (IHL : ListT w0 m) (hmb : mb = b.length) (hmb2 : mb ≤ 1000000) (hrb : ∀ u, u ∈ b → rightS m u = true) (hSb : SsAt w0 (m + 1) BA b) (hels : els = []) :
    Calls Tryz.prog 52 #[.pointer (some ⟨tb, 0, none⟩), .agg #[.int .u8 5, .int .i64 num, .string nm, .slice EA me ec, .slice BA mb bc, .slice LA ml lc]] w fun r w' => r = .returned (.tuple #[]) ∧ ∃ t', After (m + 1) (.mk 5 num nm e b els) t t' ∧ TRes w w0.heap.size tb cv nv t' w' := by
  obtain ⟨Ac, ccap, A0, c0, ecv, env⟩ := hk.shape
  obtain ⟨nc, enc⟩ : ∃ nc, nc = t.code.length := ⟨_, rfl⟩
  rw [← enc] at ecv
  subst ecv
  obtain ⟨w1, xb, e1, exb, I1, b1⟩ := xin_new w0 w tb t _ nv #[.int .u8 5, .int .i64 num, .string nm, .slice EA me ec, .slice BA mb bc, .slice LA ml lc] 39 hb hk
  obtain ⟨x0, x1, x2, x3, x4, x5⟩ := sbox I1.p
  obtain ⟨f0, -⟩ := I1.k.facts
  have EX := texpr_all w0 40
  have hrl := row_le m (.mk 5 num nm e b els) t.names t.code.length
  have hrl : (rowC (exprC t.names 40) e t.code.length).length ≤ (stmtC (m + 1) (.mk 5 num nm e b els) t.names t.code.length).length := hrl
  have HI := Lib.hid (And.intro I1 (And.intro b1 enc))
  have HL := Lib.hid (And.intro IHL (And.intro hmb (And.intro hmb2 (And.intro hrb hSb))))
  have HE := Lib.hid hels
  have HA := Lib.hid (And.intro hme (And.intro hme2 (And.intro hfe (And.intro hE (And.intro hbd (And.intro hrl EX))))))
  clear I1 b1 hme hme2 hfe hE hbd hrl EX hb hk enc env IHL hmb hmb2 hrb hSb hels
  go_enter Tryz.func52, Tryz.ntmps52
  go_upto_region 1 with fail
  rw [← e1, ← exb]
  clear e1 exb
  go_wp2_with fail
  go_loopg [19] me (fun gh iv wr => ∃ (j : Nat) (cvj nvj : Value), gh + j = me ∧ iv = .int .i64 (j : Nat) ∧ XIn w0 w1 w0.heap.size tb xb (.slice Ac nc ccap) nv #[.int .u8 5, .int .i64 num, .string nm, .slice EA me ec, .slice BA mb bc, .slice LA ml lc] 39 (t.addRow 40 (e.take j)) cvj nvj wr)
  case atStart => exact ⟨0, _, nv, rfl, rfl, by rw [List.take_zero, TS.addRow_nil]; exact HI.out.1⟩
  case round =>
  obtain ⟨j, cvj, nvj, hg, rfl, hI⟩ := hrel
  obtain ⟨W, eW⟩ : ∃ W, W = wr := ⟨_, rfl⟩
  rw [← eW] at hI ⊢
  clear eW x0 x1 x2 x3 x4 x5 f0
  obtain ⟨hme, hme2, hfe, hE, hbd, hrl, EX⟩ := HA.out
  by_cases hlt : j < me
  · obtain ⟨y, hy⟩ : ∃ y, e[j]? = some y := ⟨_, List.getElem?_eq_getElem (by omega)⟩
    obtain ⟨b', o, A', c', rfl, hc, hd⟩ := hE.one hy
    obtain ⟨r0, r1, r2, r3, -, -⟩ := hc.below hI.b
    obtain ⟨x0, x1, x2, x3, x4, x5⟩ := sbox hI.p
    obtain ⟨W2, e2⟩ : ∃ W2, W2 = W.alloc (.cells #[.int .u8 (y.op : Nat), .int .i64 y.n, .string y.nm, .slice A' y.args.length c'] 34 (0, 0)) := ⟨_, rfl⟩
    obtain ⟨yb, eyb⟩ : ∃ yb, yb = W.heap.size := ⟨_, rfl⟩
    have hI2 : XIn w0 w1 w0.heap.size tb xb (.slice Ac nc ccap) nv #[.int .u8 5, .int .i64 num, .string nm, .slice (some ⟨b', o, none⟩) me ec, .slice BA mb bc, .slice LA ml lc] 39 (t.addRow 40 (e.take j)) cvj nvj W2 := by rw [e2]; exact hI.more _
    have py : W2.heap[yb]? = some (.cells #[.int .u8 (y.op : Nat), .int .i64 y.n, .string y.nm, .slice A' y.args.length c'] 34 (0, 0)) := by rw [e2, eyb]; exact heap_alloc_new W _
    have hle := rowC_le (exprC t.names 40) hy t.code.length
    have hb1 := hbd.1
    have F := EX y A' c' (hfe y (List.mem_of_getElem? hy)) hc.lim hd W2 tb (t.addRow 40 (e.take j)) cvj nvj hI2.b hI2.k (by simp only [TS.code_addRow, TS.names_addRow, List.length_append]; omega) (by simp only [TS.names_addRow]; omega)
    rw [TS.addRow_snoc, ← take_snoc hy] at F
    obtain ⟨y0, y1, y2, y3⟩ := ebox py
    have i0 : (0 : Int) ≤ (j : Int) := by omega
    have i1 : (j : Int) < (me : Int) := by omega
    have i2 : decide (j < me) = true := decide_eq_true hlt
    have w2 : wrap64 ((j : Int) + 1) = (j : Int) + 1 := by unfold wrap64; omega
    have F : Calls Tryz.prog 88 #[.pointer (some ⟨tb, 0, none⟩), .agg #[.int .u8 (y.op : Nat), .int .i64 y.n, .string y.nm, .slice A' y.args.length c']] W2 fun r w' => r = .returned (.tuple #[]) ∧ TRes W2 w0.heap.size tb cvj nvj (t.addRow 40 (e.take (j + 1))) w' := F
    have HJ := Lib.hid (And.intro hI2 (And.intro hg hlt))
    clear hy hc hd hI hI2 py hle hb1 hg hlt hme hme2 hfe hE hbd hrl EX
    go_upto_region 5 with fail
    rw [← e2, ← eyb]
    clear e2 eyb r0 r1 r2 r3 x0 x1 x2 x3 x4 x5
    go_wp2_with (go_at_call 88; refine F.mono ?_; rintro e w3 ⟨rfl, h3⟩; obtain ⟨cv3, nv3, I3, -⟩ := HJ.out.1.step stmtTypes HJ.out.1.size h3; have H3 := Lib.hid I3; clear I3 h3)
    go_roundg (me - (j + 1))
    case measure => have := HJ.out.2.1; have := HJ.out.2.2; omega
    case rel => exact ⟨j + 1, cv3, nv3, by have := HJ.out.2.2; omega, by go_num, H3.out⟩
  · have i2 : decide (j < me) = false := decide_eq_false hlt
    have ht : e.take j = e := List.take_of_length_le (by omega)
    rw [ht] at hI
    obtain ⟨x0, x1, x2, x3, x4, x5⟩ := sbox hI.p
    have hb1 := hbd.1
    have hcl : (t.addRow 40 e).code.length ≤ 100000 := by simp only [TS.code_addRow, List.length_append]; omega
    have hnl : (t.addRow 40 e).names.length ≤ 100000 := by simp only [TS.names_addRow]; omega
    have hLl : (t.addRow 40 e).L ≤ 200000 := by rw [TS.L_addRow]; exact hbd.2
    obtain ⟨IHL, hmb, hmb2, hrb, hSb⟩ := HL.out
    have F := tlaterA w0.heap.size tb _ cvj nvj 12 W hI.k hcl
    have X := fun (W : World) (cv nv : Value) (h1 : Below w0.heap.size w0 W) (h2 : TOk W w0.heap.size tb ((t.addRow 40 e).app [(12, 0)]) cv nv) => IHL b BA bc hrb (by omega) hSb W tb ((t.addRow 40 e).app [(12, 0)]) cv nv h1 h2 (bd_body (s := .mk 5 num nm e b els) (Or.inr rfl) hbd)
    rw [← hmb] at X
    have HJ := Lib.hid (And.intro hI X)
    clear X IHL hmb hmb2 hrb hSb
    clear hI hg hlt hme hme2 hfe hE hbd hrl EX ht hb1 hcl hnl hLl
    go_upto_region 25 with (go_at_call 92; refine F.mono ?_; rintro e w3 ⟨v3, rfl, p3, h3⟩; obtain ⟨cv3, nv3, I3, -⟩ := HJ.out.1.step stmtTypes HJ.out.1.size h3; obtain ⟨pb, qb, rfl, P3⟩ := p3.boxes; have H3 := Lib.hid (And.intro I3 P3); clear I3 h3 p3 P3)
    clear x0 x1 x2 x3 x4 x5
    obtain ⟨x0, x1, x2, x3, x4, x5⟩ := sbox H3.out.1.p
    go_upto_region 26 with (go_at_call 32; refine (HJ.out.2 _ _ _ H3.out.1.b H3.out.1.k).mono ?_; rintro e w4 ⟨rfl, t2, a2, h4⟩; obtain ⟨cv4, nv4, I4, f4⟩ := H3.out.1.step stmtTypes H3.out.1.size h4; have H4 := Lib.hid (And.intro I4 (And.intro (H3.out.2.keep H3.out.1.k f4) a2)); clear I4 h4 f4 a2)
    clear x0 x1 x2 x3 x4 x5
    obtain ⟨g1, g2, g3⟩ := after_while (m := m) (s := .mk 5 num nm e b els) (t := t) (t2 := t2) rfl HE.out H4.out.2.2
    have g4 : t2.code.length ≤ 100000 := by have := HA.out.2.2.2.2.1.1; omega
    have Y := tputA w0.heap.size tb t2 cv4 nv4 11 ((t.code.length : Nat) : Int) w4 H4.out.1.k (by omega)
    have Z := fun (W : World) (cv nv : Value) (h : TOk W w0.heap.size tb (t2.app [(11, ((t.code.length : Nat) : Int))]) cv nv) (hp : PB W tb (t.addRow 40 e).code.length pb qb) => tpatch_ok w0.heap.size tb _ pb qb _ cv nv (12, 0) W h g1 (by rw [TS.code_app, List.length_append]; simp only [List.length_cons, List.length_nil]; omega) hp.p hp.q
    rw [← HI.out.2.2] at Y
    rw [← HI.out.2.2] at Z
    rw [← HI.out.2.2] at g2
    have HZ := Lib.hid (And.intro g2 Z)
    clear g1 g2 g3 g4 Z
    go_upto_region 27 with (go_at_call 89; refine Y.mono ?_; rintro e w5 ⟨rfl, h5⟩; obtain ⟨cv5, nv5, I5, f5⟩ := H4.out.1.step stmtTypes H4.out.1.size h5; have H5 := Lib.hid (And.intro I5 (H4.out.2.1.keep H4.out.1.k f5)); clear I5 h5 f5)
    go_wp2_with (go_at_call 117; refine (HZ.out.2 _ _ _ H5.out.1.k H5.out.2).mono ?_; rintro e w6 ⟨rfl, h6⟩; have H6 := Lib.hid h6; clear h6)
    go_end0
    exact ⟨rfl, _, HZ.out.1, (H6.out.trans H5.out.1.f).trans HI.out.2.1⟩
set_option maxRecDepth 100000 in
set_option maxHeartbeats 8000000 in
theorem stm_if1 (w0 : World) (m : Nat) (num : Int) (nm : ByteArray) (e : List E0) (b els : List S0) (EA : Option Addr) (me ec : Nat) (BA : Option Addr) (mb bc : Nat) (LA : Option Addr) (ml lc : Nat) (w : World) (tb : Nat) (t : TS) (cv nv : Value)
    (hb : Below w0.heap.size w0 w) (hk : TOk w w0.heap.size tb t cv nv) (hme : me = e.length) (hme2 : me ≤ 1000000) (hfe : ∀ x, x ∈ e → fineB 40 x = true) (hE : EsAt w0 41 EA e) (hbd : Bd t (stmtC (m + 1) (.mk 4 num nm e b els) t.names t.code.length).length) (IHL : ListT w0 m) (hmb : mb = b.length) (hmb2 : mb ≤ 1000000) (hrb : ∀ u, u ∈ b → rightS m u = true) (hSb : SsAt w0 (m + 1) BA b) (hml : ml = els.length) (hml2 : ml ≤ 1000000) (hne : els ≠ []) (hrl2 : ∀ u, u ∈ els → rightS m u = true) (hSl : SsAt w0 (m + 1) LA els) :
    Calls Tryz.prog 52 #[.pointer (some ⟨tb, 0, none⟩), .agg #[.int .u8 4, .int .i64 num, .string nm, .slice EA me ec, .slice BA mb bc, .slice LA ml lc]] w fun r w' => r = .returned (.tuple #[]) ∧ ∃ t', After (m + 1) (.mk 4 num nm e b els) t t' ∧ TRes w w0.heap.size tb cv nv t' w' := by
  obtain ⟨Ac, ccap, A0, c0, ecv, env⟩ := hk.shape
  obtain ⟨nc, enc⟩ : ∃ nc, nc = t.code.length := ⟨_, rfl⟩
  rw [← enc] at ecv
  subst ecv
  obtain ⟨w1, xb, e1, exb, I1, b1⟩ := xin_new w0 w tb t _ nv #[.int .u8 4, .int .i64 num, .string nm, .slice EA me ec, .slice BA mb bc, .slice LA ml lc] 39 hb hk
  obtain ⟨x0, x1, x2, x3, x4, x5⟩ := sbox I1.p
  obtain ⟨f0, -⟩ := I1.k.facts
  have EX := texpr_all w0 40
  have hrl := row_le m (.mk 4 num nm e b els) t.names t.code.length
  have hrl : (rowC (exprC t.names 40) e t.code.length).length ≤ (stmtC (m + 1) (.mk 4 num nm e b els) t.names t.code.length).length := hrl
  have HI := Lib.hid (And.intro I1 (And.intro b1 enc))
  have HL := Lib.hid (And.intro IHL (And.intro hmb (And.intro hmb2 (And.intro hrb hSb))))
  have HE := Lib.hid (And.intro hml (And.intro hml2 (And.intro hne (And.intro hrl2 hSl))))
  have HA := Lib.hid (And.intro hme (And.intro hme2 (And.intro hfe (And.intro hE (And.intro hbd (And.intro hrl EX))))))
  clear I1 b1 hme hme2 hfe hE hbd hrl EX hb hk enc env IHL hmb hmb2 hrb hSb hml hml2 hne hrl2 hSl
  go_enter Tryz.func52, Tryz.ntmps52
  go_upto_region 1 with fail
  rw [← e1, ← exb]
  clear e1 exb
  go_wp2_with fail
  go_loopg [19] me (fun gh iv wr => ∃ (j : Nat) (cvj nvj : Value), gh + j = me ∧ iv = .int .i64 (j : Nat) ∧ XIn w0 w1 w0.heap.size tb xb (.slice Ac nc ccap) nv #[.int .u8 4, .int .i64 num, .string nm, .slice EA me ec, .slice BA mb bc, .slice LA ml lc] 39 (t.addRow 40 (e.take j)) cvj nvj wr)
  case atStart => exact ⟨0, _, nv, rfl, rfl, by rw [List.take_zero, TS.addRow_nil]; exact HI.out.1⟩
  case round =>
  obtain ⟨j, cvj, nvj, hg, rfl, hI⟩ := hrel
  obtain ⟨W, eW⟩ : ∃ W, W = wr := ⟨_, rfl⟩
  rw [← eW] at hI ⊢
  clear eW x0 x1 x2 x3 x4 x5 f0
  obtain ⟨hme, hme2, hfe, hE, hbd, hrl, EX⟩ := HA.out
  by_cases hlt : j < me
  · obtain ⟨y, hy⟩ : ∃ y, e[j]? = some y := ⟨_, List.getElem?_eq_getElem (by omega)⟩
    obtain ⟨b', o, A', c', rfl, hc, hd⟩ := hE.one hy
    obtain ⟨r0, r1, r2, r3, -, -⟩ := hc.below hI.b
    obtain ⟨x0, x1, x2, x3, x4, x5⟩ := sbox hI.p
    obtain ⟨W2, e2⟩ : ∃ W2, W2 = W.alloc (.cells #[.int .u8 (y.op : Nat), .int .i64 y.n, .string y.nm, .slice A' y.args.length c'] 34 (0, 0)) := ⟨_, rfl⟩
    obtain ⟨yb, eyb⟩ : ∃ yb, yb = W.heap.size := ⟨_, rfl⟩
    have hI2 : XIn w0 w1 w0.heap.size tb xb (.slice Ac nc ccap) nv #[.int .u8 4, .int .i64 num, .string nm, .slice (some ⟨b', o, none⟩) me ec, .slice BA mb bc, .slice LA ml lc] 39 (t.addRow 40 (e.take j)) cvj nvj W2 := by rw [e2]; exact hI.more _
    have py : W2.heap[yb]? = some (.cells #[.int .u8 (y.op : Nat), .int .i64 y.n, .string y.nm, .slice A' y.args.length c'] 34 (0, 0)) := by rw [e2, eyb]; exact heap_alloc_new W _
    have hle := rowC_le (exprC t.names 40) hy t.code.length
    have hb1 := hbd.1
    have F := EX y A' c' (hfe y (List.mem_of_getElem? hy)) hc.lim hd W2 tb (t.addRow 40 (e.take j)) cvj nvj hI2.b hI2.k (by simp only [TS.code_addRow, TS.names_addRow, List.length_append]; omega) (by simp only [TS.names_addRow]; omega)
    rw [TS.addRow_snoc, ← take_snoc hy] at F
    obtain ⟨y0, y1, y2, y3⟩ := ebox py
    have i0 : (0 : Int) ≤ (j : Int) := by omega
    have i1 : (j : Int) < (me : Int) := by omega
    have i2 : decide (j < me) = true := decide_eq_true hlt
    have w2 : wrap64 ((j : Int) + 1) = (j : Int) + 1 := by unfold wrap64; omega
    have F : Calls Tryz.prog 88 #[.pointer (some ⟨tb, 0, none⟩), .agg #[.int .u8 (y.op : Nat), .int .i64 y.n, .string y.nm, .slice A' y.args.length c']] W2 fun r w' => r = .returned (.tuple #[]) ∧ TRes W2 w0.heap.size tb cvj nvj (t.addRow 40 (e.take (j + 1))) w' := F
    have HJ := Lib.hid (And.intro hI2 (And.intro hg hlt))
    clear hy hc hd hI hI2 py hle hb1 hg hlt hme hme2 hfe hE hbd hrl EX
    go_upto_region 5 with fail
    rw [← e2, ← eyb]
    clear e2 eyb r0 r1 r2 r3 x0 x1 x2 x3 x4 x5
    go_wp2_with (go_at_call 88; refine F.mono ?_; rintro e w3 ⟨rfl, h3⟩; obtain ⟨cv3, nv3, I3, -⟩ := HJ.out.1.step stmtTypes HJ.out.1.size h3; have H3 := Lib.hid I3; clear I3 h3)
    go_roundg (me - (j + 1))
    case measure => have := HJ.out.2.1; have := HJ.out.2.2; omega
    case rel => exact ⟨j + 1, cv3, nv3, by have := HJ.out.2.2; omega, by go_num, H3.out⟩
  · have i2 : decide (j < me) = false := decide_eq_false hlt
    have ht : e.take j = e := List.take_of_length_le (by omega)
    rw [ht] at hI
    obtain ⟨x0, x1, x2, x3, x4, x5⟩ := sbox hI.p
    have hb1 := hbd.1
    have hcl : (t.addRow 40 e).code.length ≤ 100000 := by simp only [TS.code_addRow, List.length_append]; omega
    have hnl : (t.addRow 40 e).names.length ≤ 100000 := by simp only [TS.names_addRow]; omega
    have hLl : (t.addRow 40 e).L ≤ 200000 := by rw [TS.L_addRow]; exact hbd.2
    obtain ⟨IHL, hmb, hmb2, hrb, hSb⟩ := HL.out
    have F := tlaterA w0.heap.size tb _ cvj nvj 12 W hI.k hcl
    have X := fun (W : World) (cv nv : Value) (h1 : Below w0.heap.size w0 W) (h2 : TOk W w0.heap.size tb ((t.addRow 40 e).app [(12, 0)]) cv nv) => IHL b BA bc hrb (by omega) hSb W tb ((t.addRow 40 e).app [(12, 0)]) cv nv h1 h2 (bd_body (s := .mk 4 num nm e b els) (Or.inl rfl) hbd)
    rw [← hmb] at X
    have HJ := Lib.hid (And.intro hI X)
    clear X IHL hmb hmb2 hrb hSb
    clear hI hg hlt hme hme2 hfe hE hbd hrl EX ht hb1 hcl hnl hLl
    go_upto_region 16 with (go_at_call 92; refine F.mono ?_; rintro e w3 ⟨v3, rfl, p3, h3⟩; obtain ⟨cv3, nv3, I3, -⟩ := HJ.out.1.step stmtTypes HJ.out.1.size h3; obtain ⟨pb, qb, rfl, P3⟩ := p3.boxes; have H3 := Lib.hid (And.intro I3 P3); clear I3 h3 p3 P3)
    clear x0 x1 x2 x3 x4 x5
    obtain ⟨x0, x1, x2, x3, x4, x5⟩ := sbox H3.out.1.p
    go_upto_region 17 with (go_at_call 32; refine (HJ.out.2 _ _ _ H3.out.1.b H3.out.1.k).mono ?_; rintro e w4 ⟨rfl, t2, a2, h4⟩; obtain ⟨cv4, nv4, I4, f4⟩ := H3.out.1.step stmtTypes H3.out.1.size h4; have H4 := Lib.hid (And.intro I4 (And.intro (H3.out.2.keep H3.out.1.k f4) a2)); clear I4 h4 f4 a2)
    clear x0 x1 x2 x3 x4 x5
    obtain ⟨x0, x1, x2, x3, x4, x5⟩ := sbox H4.out.1.p
    have hml3 : decide (0 < ml) = true := decide_eq_true (by have := HE.out.1; have := List.length_pos_iff.2 HE.out.2.2.1; omega)
    have hml4 : decide ((0 : Int) < (ml : Int)) = true := decide_eq_true (by have := of_decide_eq_true hml3; omega)
    have g4 : t2.code.length ≤ 100000 := by
      have g := (after_if1 (m := m) (s := .mk 4 num nm e b els) (t := t) (t2 := t2) (t5 := t2) rfl HE.out.2.2.1 H4.out.2.2).2.1
      have := HA.out.2.2.2.2.1.1; omega
    have F2 := tlaterA w0.heap.size tb t2 cv4 nv4 11 w4 H4.out.1.k g4
    have HG := Lib.hid g4
    clear g4
    go_upto_region 19 with (go_at_call 92; refine F2.mono ?_; rintro e w5 ⟨v5, rfl, p5, h5⟩; obtain ⟨cv5, nv5, I5, f5⟩ := H4.out.1.step stmtTypes H4.out.1.size h5; obtain ⟨pe, qe, rfl, P5⟩ := p5.boxes; have H5 := Lib.hid (And.intro I5 (And.intro (H4.out.2.1.keep H4.out.1.k f5) P5)); clear I5 h5 p5 P5 f5)
    clear x0 x1 x2 x3 x4 x5
    obtain ⟨g1, g2, g3, g4, g5⟩ := after_if1 (m := m) (s := .mk 4 num nm e b els) (t := t) (t2 := t2) (t5 := t2) rfl HE.out.2.2.1 H4.out.2.2
    have hln := listL_le m b HL.out.2.2.2.1 (fun u hu ν b => stmtL_le m u (HL.out.2.2.2.1 u hu) ν b) t.names ((t.addRow 40 e).app [(12, 0)]).code.length
    have hcb := H4.out.2.2.code
    obtain ⟨t4, et4⟩ : ∃ t4 : TS, t4 = ⟨(t2.app [(11, 0)]).code.set (t.addRow 40 e).code.length (12, (((t2.app [(11, 0)]).code.length : Nat) : Int)), (t2.app [(11, 0)]).names, (t2.app [(11, 0)]).L, (t2.app [(11, 0)]).e⟩ := ⟨_, rfl⟩
    have Z : Calls Tryz.prog 117 #[.pointer (some ⟨pb, 0, none⟩), .pointer (some ⟨qb, 0, none⟩)] w5 fun r w' => r = .returned (.tuple #[]) ∧ TRes w5 w0.heap.size tb cv5 nv5 t4 w' := by
      rw [et4]
      exact tpatch_ok w0.heap.size tb _ pb qb (t2.app [(11, 0)]) cv5 nv5 (12, 0) w5 H5.out.1.k g1 (by have := HG.out; rw [TS.code_app, List.length_append]; simp only [List.length_cons, List.length_nil]; omega) H5.out.2.1.p H5.out.2.1.q
    have hn4 : t4.names = t.names := by rw [et4]; exact g3
    have hc4 : t4.code.length = t2.code.length + 1 := by rw [et4]; show ((t2.app [(11, 0)]).code.set _ _).length = _; rw [List.length_set, TS.code_app, List.length_append]; rfl
    have hbd4 : Bd t4 (listC (stmtC m) els t4.names t4.code.length).length := by
      rw [hn4, hc4]
      obtain ⟨q1, q2⟩ := HA.out.2.2.2.2.1
      have g2 : t2.code.length + 1 + (listC (stmtC m) els t.names (t2.code.length + 1)).length = t.code.length + (stmtC (m + 1) (.mk 4 num nm e b els) t.names t.code.length).length := g2
      have g4 : t2.L ≤ max t.L (listL (stmtL m) b t.names) := g4
      have hL4 : t4.L = t2.L := by rw [et4]; rfl
      have hnm1 : ((t.addRow 40 e).app [(12, 0)]).names = t.names := by simp
      rw [hnm1] at hcb
      have hcb : t2.code.length = ((t.addRow 40 e).app [(12, 0)]).code.length + (listC (stmtC m) b t.names ((t.addRow 40 e).app [(12, 0)]).code.length).length := by
        have := congrArg List.length hcb
        rw [List.length_append] at this
        exact this
      refine ⟨?_, ?_⟩
      · rw [hn4, hc4]
        have hcc : t.code.length ≤ t2.code.length := by
          rw [hcb]; simp <;> omega
        omega
      · rw [hL4]
        omega
    have Y := fun (W : World) (cv nv : Value) (h1 : Below w0.heap.size w0 W) (h2 : TOk W w0.heap.size tb t4 cv nv) => HL.out.1 els LA lc HE.out.2.2.2.1 (by have := HE.out.1; have := HE.out.2.1; omega) HE.out.2.2.2.2 W tb t4 cv nv h1 h2 hbd4
    rw [← HE.out.1] at Y
    have HY := Lib.hid (And.intro Y (And.intro et4 (And.intro hn4 (And.intro hc4 hbd4))))
    clear Y et4 hn4 hc4 hbd4 g1 g2 g3 g4 g5 hln hcb
    go_upto_region 20 with (go_at_call 117; refine Z.mono ?_; rintro e w6 ⟨rfl, h6⟩; obtain ⟨cv6, nv6, I6, f6⟩ := H5.out.1.step stmtTypes H5.out.1.size h6; have H6 := Lib.hid (And.intro I6 (H5.out.2.2.keep H5.out.1.k f6)); clear I6 h6 f6)
    obtain ⟨x0, x1, x2, x3, x4, x5⟩ := sbox H6.out.1.p
    go_upto_region 21 with (go_at_call 32; refine (HY.out.1 _ _ _ H6.out.1.b H6.out.1.k).mono ?_; rintro e w7 ⟨rfl, t5, a5, h7⟩; obtain ⟨cv7, nv7, I7, f7⟩ := H6.out.1.step stmtTypes H6.out.1.size h7; have H7 := Lib.hid (And.intro I7 (And.intro (H6.out.2.keep H6.out.1.k f7) a5)); clear I7 h7 f7 a5)
    clear x0 x1 x2 x3 x4 x5
    obtain ⟨g5, g6⟩ := (after_if1 (m := m) (s := .mk 4 num nm e b els) (t := t) (t2 := t2) (t5 := t5) rfl HE.out.2.2.1 H4.out.2.2).2.2.2.2 t4 HY.out.2.1 H7.out.2.2
    have g7 : t5.code.length ≤ 1000000 := by
      have h1 := HY.out.2.2.2.2.1
      rw [H7.out.2.2.code, List.length_append]
      omega
    have Z := tpatch_ok w0.heap.size tb _ pe qe t5 cv7 nv7 (11, 0) w7 H7.out.1.k g5 g7 H7.out.2.1.p H7.out.2.1.q
    have HZ := Lib.hid g6
    clear g5 g6 g7
    go_wp2_with (go_at_call 117; refine Z.mono ?_; rintro e w8 ⟨rfl, h8⟩; have H8 := Lib.hid h8; clear h8)
    refine bodyPost_ret (results_none rfl _ _ _) rfl ?_
    exact ⟨rfl, _, HZ.out, (H8.out.trans H7.out.1.f).trans HI.out.2.1⟩
theorem tstmt_all (w0 : World) : ∀ m, StmtT w0 m := by
  intro m
  induction m with
  | zero => intro s EA ec BA bc LA lc hr; simp [rightS] at hr
  | succ m IH =>
    intro s EA ec BA bc LA lc hr hlim ha w tb t cv nv hb hk hbd
    have IHL := tlist_ok w0 m IH
    obtain ⟨m', hm, hfe, hrb, hrl, ho1, ho7, hw, h3, hels, hbod⟩ := right_cases hr
    obtain rfl : m = m' := by omega
    obtain ⟨op, num, nm, e, b, els⟩ := s
    obtain ⟨-, -, -, l4, l5, l6⟩ := hlim
    obtain ⟨a1, a2, a3⟩ := ha
    have ho1 : 1 ≤ op := ho1
    have ho7 : op ≤ 7 := ho7
    rcases (show op = 1 ∨ op = 2 ∨ op = 3 ∨ op = 4 ∨ op = 5 ∨ op = 6 ∨ op = 7 by omega) with rfl | rfl | rfl | rfl | rfl | rfl | rfl
    · exact stm_let w0 m num nm e b els EA _ ec BA _ bc LA _ lc w tb t cv nv hb hk rfl l4 hfe (a1 41) hbd
    · exact stm_set w0 m num nm e b els EA _ ec BA _ bc LA _ lc w tb t cv nv hb hk rfl l4 hfe (a1 41) hbd
    · exact stm_put w0 m num nm e b els EA _ ec BA _ bc LA _ lc w tb t cv nv hb hk rfl l4 hfe (a1 41) hbd
    · by_cases he : els = []
      · exact stm_if0 w0 m num nm e b els EA _ ec BA _ bc LA _ lc w tb t cv nv hb hk rfl l4 hfe (a1 41) hbd IHL rfl l5 hrb a2 (by rw [he]; rfl) he
      · exact stm_if1 w0 m num nm e b els EA _ ec BA _ bc LA _ lc w tb t cv nv hb hk rfl l4 hfe (a1 41) hbd IHL rfl l5 hrb a2 rfl l6 he hrl a3
    · exact stm_while w0 m num nm e b els EA _ ec BA _ bc LA _ lc w tb t cv nv hb hk rfl l4 hfe (a1 41) hbd IHL rfl l5 hrb a2 (hels (by show (5 : Nat) ≠ 4; decide))
    · exact stm_stop w0 m num nm e b els EA _ ec BA _ bc LA _ lc w tb t cv nv hb hk rfl l4 hfe (a1 41) hbd
    · exact stm_fail w0 m num nm e b els EA _ ec BA _ bc LA _ lc w tb t cv nv hb hk rfl l4 hfe (a1 41) hbd
theorem tlist_all (w0 : World) (m : Nat) : ListT w0 m := tlist_ok w0 m (tstmt_all w0 m)
end
end Go.Proofs.YtocbddajakbemaaGreat
