/- vm, compile: expr. -/
import Derived.Test.YtocbddajakbemaaGreatNN
set_option linter.unusedVariables false
set_option linter.unusedSimpArgs false
set_option linter.unusedSimpArgs false
namespace Go.Proofs.YtocbddajakbemaaGreat
section
open Go.RowKit
theorem xin_new (w0 w : World) (tb : Nat) (t : TS) (cv nv : Value) (cs : Array Value) (T : TypeId) (hb : Below w0.heap.size w0 w) (hk : TOk w w0.heap.size tb t cv nv) :
    ∃ w1 xb, w1 = w.alloc (.cells cs T (0, 0)) ∧ xb = w.heap.size ∧ XIn w0 w1 w0.heap.size tb xb cv nv cs T t cv nv w1 ∧ Fr (tF tb cv nv) w (tF tb cv nv) w1 :=
  ⟨_, _, rfl, rfl, ⟨hk.alloc _, Fr.refl _ _, heap_alloc_new w _, hb.alloc hb.size _⟩, Fr.of_below ((Below.refl _ w).alloc (Nat.le_refl _) _) _⟩
set_option maxRecDepth 100000 in
set_option maxHeartbeats 4000000 in
theorem expr_1
    (w0 : World) (num : Int) (nm : ByteArray) (A : Option Addr) (m c : Nat) (w : World) (tb : Nat) (t T' : TS) (cv nv : Value) (hb : Below w0.heap.size w0 w) (hk : TOk w w0.heap.size tb t cv nv) (hl : t.code.length ≤ 100000) (hnl : t.names.length ≤ 100000)
    (hT : T' = t.app [(1, num)])
    :
    Calls Tryz.prog 88 #[.pointer (some ⟨tb, 0, none⟩), .agg #[.int .u8 1, .int .i64 num, .string nm, .slice A m c]] w fun r w' => r = .returned (.tuple #[]) ∧ TRes w w0.heap.size tb cv nv T' w' := by
  obtain ⟨w1, xb, e1, exb, I1, b1⟩ := xin_new w0 w tb t cv nv #[.int .u8 1, .int .i64 num, .string nm, .slice A m c] 34 hb hk
  obtain ⟨x0, x1, x2, x3⟩ := ebox I1.p
  have X := tputA w0.heap.size tb t cv nv 1 num w1 I1.k (by omega)
  rw [← hT] at X
  have HI := Lib.hid (And.intro I1 b1)
  clear I1 b1 hb hk hl hnl hT
  go_enter Tryz.func88, Tryz.ntmps88
  go_upto_region 1 with fail
  rw [← e1, ← exb]
  clear e1 exb
  go_wp2_with (go_at_call 89; refine X.mono ?_; rintro e w2 ⟨rfl, h2⟩; have H2 := Lib.hid h2; clear h2)
  go_end0
  exact ⟨rfl, H2.out.trans HI.out.2⟩
set_option maxRecDepth 100000 in
set_option maxHeartbeats 4000000 in
theorem expr_4
    (w0 : World) (num : Int) (nm : ByteArray) (A : Option Addr) (m c : Nat) (w : World) (tb : Nat) (t T' : TS) (cv nv : Value) (hb : Below w0.heap.size w0 w) (hk : TOk w w0.heap.size tb t cv nv) (hl : t.code.length ≤ 100000) (hnl : t.names.length ≤ 100000)
    (hT : T' = t.app [(6, 0)])
    :
    Calls Tryz.prog 88 #[.pointer (some ⟨tb, 0, none⟩), .agg #[.int .u8 4, .int .i64 num, .string nm, .slice A m c]] w fun r w' => r = .returned (.tuple #[]) ∧ TRes w w0.heap.size tb cv nv T' w' := by
  obtain ⟨w1, xb, e1, exb, I1, b1⟩ := xin_new w0 w tb t cv nv #[.int .u8 4, .int .i64 num, .string nm, .slice A m c] 34 hb hk
  obtain ⟨x0, x1, x2, x3⟩ := ebox I1.p
  have X := tputA w0.heap.size tb t cv nv 6 0 w1 I1.k (by omega)
  rw [← hT] at X
  have HI := Lib.hid (And.intro I1 b1)
  clear I1 b1 hb hk hl hnl hT
  go_enter Tryz.func88, Tryz.ntmps88
  go_upto_region 1 with fail
  rw [← e1, ← exb]
  clear e1 exb
  go_wp2_with (go_at_call 89; refine X.mono ?_; rintro e w2 ⟨rfl, h2⟩; have H2 := Lib.hid h2; clear h2)
  go_end0
  exact ⟨rfl, H2.out.trans HI.out.2⟩
set_option maxRecDepth 100000 in
set_option maxHeartbeats 4000000 in
theorem expr_5
    (w0 : World) (num : Int) (nm : ByteArray) (A : Option Addr) (m c : Nat) (w : World) (tb : Nat) (t T' : TS) (cv nv : Value) (hb : Below w0.heap.size w0 w) (hk : TOk w w0.heap.size tb t cv nv) (hl : t.code.length ≤ 100000) (hnl : t.names.length ≤ 100000)
    (hT : T' = t.app [(7, 0)])
    :
    Calls Tryz.prog 88 #[.pointer (some ⟨tb, 0, none⟩), .agg #[.int .u8 5, .int .i64 num, .string nm, .slice A m c]] w fun r w' => r = .returned (.tuple #[]) ∧ TRes w w0.heap.size tb cv nv T' w' := by
  obtain ⟨w1, xb, e1, exb, I1, b1⟩ := xin_new w0 w tb t cv nv #[.int .u8 5, .int .i64 num, .string nm, .slice A m c] 34 hb hk
  obtain ⟨x0, x1, x2, x3⟩ := ebox I1.p
  have X := tputA w0.heap.size tb t cv nv 7 0 w1 I1.k (by omega)
  rw [← hT] at X
  have HI := Lib.hid (And.intro I1 b1)
  clear I1 b1 hb hk hl hnl hT
  go_enter Tryz.func88, Tryz.ntmps88
  go_upto_region 1 with fail
  rw [← e1, ← exb]
  clear e1 exb
  go_wp2_with (go_at_call 89; refine X.mono ?_; rintro e w2 ⟨rfl, h2⟩; have H2 := Lib.hid h2; clear h2)
  go_end0
  exact ⟨rfl, H2.out.trans HI.out.2⟩
set_option maxRecDepth 100000 in
set_option maxHeartbeats 4000000 in
theorem expr_2
    (w0 : World) (num : Int) (nm : ByteArray) (A : Option Addr) (m c : Nat) (w : World) (tb : Nat) (t T' : TS) (cv nv : Value) (hb : Below w0.heap.size w0 w) (hk : TOk w w0.heap.size tb t cv nv) (hl : t.code.length ≤ 100000) (hnl : t.names.length ≤ 100000)
    (hT : T' = (t.failIf (decide (idxM t.names nm < 0)) 131).app [(2, idxM t.names nm)])
    :
    Calls Tryz.prog 88 #[.pointer (some ⟨tb, 0, none⟩), .agg #[.int .u8 2, .int .i64 num, .string nm, .slice A m c]] w fun r w' => r = .returned (.tuple #[]) ∧ TRes w w0.heap.size tb cv nv T' w' := by
  obtain ⟨w1, xb, e1, exb, I1, b1⟩ := xin_new w0 w tb t cv nv #[.int .u8 2, .int .i64 num, .string nm, .slice A m c] 34 hb hk
  obtain ⟨x0, x1, x2, x3⟩ := ebox I1.p
  have X := tslot_ok w0.heap.size tb t cv nv nm w1 I1.k (by omega)
  have Y := fun (W : World) (cv nv : Value) (h : TOk W w0.heap.size tb (t.failIf (decide (idxM t.names nm < 0)) 131) cv nv) => tputA w0.heap.size tb _ cv nv 2 (idxM t.names nm) W h (by simp; omega)
  rw [← hT] at Y
  generalize idxM t.names nm = k at *
  have HY := Lib.hid Y
  clear Y
  have HI := Lib.hid (And.intro I1 b1)
  clear I1 b1 hb hk hl hnl hT
  go_enter Tryz.func88, Tryz.ntmps88
  go_upto_region 1 with fail
  rw [← e1, ← exb]
  clear e1 exb
  go_wp2_with (first | (go_at_call 91; refine X.mono ?_; rintro e w2 ⟨rfl, h2⟩; obtain ⟨cv2, nv2, I2, f2⟩ := HI.out.1.step exprTypes HI.out.1.size h2; have H2 := Lib.hid I2; clear I2 h2 f2) | (go_at_call 89; refine (HY.out _ _ _ H2.out.k).mono ?_; rintro e w3 ⟨rfl, h3⟩; have H3 := Lib.hid h3; clear h3))
  go_end0
  exact ⟨rfl, (H3.out.trans H2.out.f).trans HI.out.2⟩
set_option maxRecDepth 100000 in
set_option maxHeartbeats 4000000 in
theorem expr_21
    (w0 : World) (num : Int) (nm : ByteArray) (A : Option Addr) (m c : Nat) (w : World) (tb : Nat) (t T' : TS) (cv nv : Value) (hb : Below w0.heap.size w0 w) (hk : TOk w w0.heap.size tb t cv nv) (hl : t.code.length ≤ 100000) (hnl : t.names.length ≤ 100000)
    (X : ∀ (W : World), XIn w0 W w0.heap.size tb w.heap.size cv nv #[.int .u8 21, .int .i64 num, .string nm, .slice A m c] 34 t cv nv W → Calls Tryz.prog 114 #[.pointer (some ⟨tb, 0, none⟩), .agg #[.int .u8 21, .int .i64 num, .string nm, .slice A m c], .int .u8 12, .int .i64 0] W fun r w' => r = .returned (.tuple #[]) ∧ TRes W w0.heap.size tb cv nv T' w')
    :
    Calls Tryz.prog 88 #[.pointer (some ⟨tb, 0, none⟩), .agg #[.int .u8 21, .int .i64 num, .string nm, .slice A m c]] w fun r w' => r = .returned (.tuple #[]) ∧ TRes w w0.heap.size tb cv nv T' w' := by
  obtain ⟨w1, xb, e1, exb, I1, b1⟩ := xin_new w0 w tb t cv nv #[.int .u8 21, .int .i64 num, .string nm, .slice A m c] 34 hb hk
  obtain ⟨x0, x1, x2, x3⟩ := ebox I1.p
  have X := X w1 (exb ▸ I1)
  have HI := Lib.hid (And.intro I1 b1)
  clear I1 b1 hb hk hl hnl
  go_enter Tryz.func88, Tryz.ntmps88
  go_upto_region 1 with fail
  rw [← e1, ← exb]
  clear e1 exb
  go_wp2_with (go_at_call 114; refine X.mono ?_; rintro e w2 ⟨rfl, h2⟩; have H2 := Lib.hid h2; clear h2)
  go_end0
  exact ⟨rfl, H2.out.trans HI.out.2⟩
set_option maxRecDepth 100000 in
set_option maxHeartbeats 4000000 in
theorem expr_22
    (w0 : World) (num : Int) (nm : ByteArray) (A : Option Addr) (m c : Nat) (w : World) (tb : Nat) (t T' : TS) (cv nv : Value) (hb : Below w0.heap.size w0 w) (hk : TOk w w0.heap.size tb t cv nv) (hl : t.code.length ≤ 100000) (hnl : t.names.length ≤ 100000)
    (X : ∀ (W : World), XIn w0 W w0.heap.size tb w.heap.size cv nv #[.int .u8 22, .int .i64 num, .string nm, .slice A m c] 34 t cv nv W → Calls Tryz.prog 114 #[.pointer (some ⟨tb, 0, none⟩), .agg #[.int .u8 22, .int .i64 num, .string nm, .slice A m c], .int .u8 13, .int .i64 1] W fun r w' => r = .returned (.tuple #[]) ∧ TRes W w0.heap.size tb cv nv T' w')
    :
    Calls Tryz.prog 88 #[.pointer (some ⟨tb, 0, none⟩), .agg #[.int .u8 22, .int .i64 num, .string nm, .slice A m c]] w fun r w' => r = .returned (.tuple #[]) ∧ TRes w w0.heap.size tb cv nv T' w' := by
  obtain ⟨w1, xb, e1, exb, I1, b1⟩ := xin_new w0 w tb t cv nv #[.int .u8 22, .int .i64 num, .string nm, .slice A m c] 34 hb hk
  obtain ⟨x0, x1, x2, x3⟩ := ebox I1.p
  have X := X w1 (exb ▸ I1)
  have HI := Lib.hid (And.intro I1 b1)
  clear I1 b1 hb hk hl hnl
  go_enter Tryz.func88, Tryz.ntmps88
  go_upto_region 1 with fail
  rw [← e1, ← exb]
  clear e1 exb
  go_wp2_with (go_at_call 114; refine X.mono ?_; rintro e w2 ⟨rfl, h2⟩; have H2 := Lib.hid h2; clear h2)
  go_end0
  exact ⟨rfl, H2.out.trans HI.out.2⟩
set_option maxRecDepth 100000 in
set_option maxHeartbeats 4000000 in
theorem expr_3
    (w0 : World) (num : Int) (nm : ByteArray) (A : Option Addr) (m c : Nat) (w : World) (tb : Nat) (t T' : TS) (cv nv : Value) (hb : Below w0.heap.size w0 w) (hk : TOk w w0.heap.size tb t cv nv) (hl : t.code.length ≤ 100000) (hnl : t.names.length ≤ 100000)
    (n : Nat) (IH : ExprT w0 n) (args : List E0) (hm : m = args.length) (hm2 : m ≤ 1000000) (hf : ∀ x, x ∈ args → fineB n x = true) (hE : EsAt w0 (n + 1) A args) (hlen : t.code.length + (rowC (exprC t.names n) args t.code.length).length ≤ 100000) (hT : T' = (t.addRow n args).app [(4, num)])
    :
    Calls Tryz.prog 88 #[.pointer (some ⟨tb, 0, none⟩), .agg #[.int .u8 3, .int .i64 num, .string nm, .slice A m c]] w fun r w' => r = .returned (.tuple #[]) ∧ TRes w w0.heap.size tb cv nv T' w' := by
  obtain ⟨w1, xb, e1, exb, I1, b1⟩ := xin_new w0 w tb t cv nv #[.int .u8 3, .int .i64 num, .string nm, .slice A m c] 34 hb hk
  obtain ⟨x0, x1, x2, x3⟩ := ebox I1.p
  have X := fun (W : World) (cv nv : Value) (h : TOk W w0.heap.size tb (t.addRow n args) cv nv) => tputA w0.heap.size tb _ cv nv 4 num W h (by simp; omega)
  rw [← hT] at X
  have HX := Lib.hid X
  have HA := Lib.hid (And.intro hm (And.intro hm2 (And.intro hf (And.intro hE (And.intro hlen (And.intro hnl (And.intro IH exb)))))))
  clear X
  have HI := Lib.hid (And.intro I1 b1)
  clear I1 b1 hb hk hl hnl hT IH hm hm2 hf hE hlen
  go_enter Tryz.func88, Tryz.ntmps88
  go_upto_region 1 with fail
  rw [← e1, ← exb]
  clear e1 exb
  go_wp2_with fail
  go_loopg [11] m (fun gh iv wr => ∃ (j : Nat) (cvj nvj : Value), gh + j = m ∧ iv = .int .i64 (j : Nat) ∧ XIn w0 w1 w0.heap.size tb xb cv nv #[.int .u8 3, .int .i64 num, .string nm, .slice A m c] 34 (t.addRow n (args.take j)) cvj nvj wr)
  case atStart => exact ⟨0, cv, nv, rfl, rfl, by rw [List.take_zero, TS.addRow_nil]; exact HI.out.1⟩
  case round =>
  obtain ⟨j, cvj, nvj, hg, rfl, hI⟩ := hrel
  obtain ⟨W, eW⟩ : ∃ W, W = wr := ⟨_, rfl⟩
  rw [← eW] at hI ⊢
  clear eW x0 x1 x2 x3
  obtain ⟨hm, hm2, hf, hE, hlen, hnl, IH, -⟩ := HA.out
  by_cases hlt : j < m
  · obtain ⟨y, hy⟩ : ∃ y, args[j]? = some y := ⟨_, List.getElem?_eq_getElem (by omega)⟩
    obtain ⟨b, o, A', c', rfl, hc, hd⟩ := hE.one hy
    obtain ⟨r0, r1, r2, r3, -, -⟩ := hc.below hI.b
    obtain ⟨x0, x1, x2, x3⟩ := ebox hI.p
    obtain ⟨W2, e2⟩ : ∃ W2, W2 = W.alloc (.cells #[.int .u8 (y.op : Nat), .int .i64 y.n, .string y.nm, .slice A' y.args.length c'] 34 (0, 0)) := ⟨_, rfl⟩
    obtain ⟨yb, eyb⟩ : ∃ yb, yb = W.heap.size := ⟨_, rfl⟩
    have hI2 : XIn w0 w1 w0.heap.size tb xb cv nv #[.int .u8 3, .int .i64 num, .string nm, .slice (some ⟨b, o, none⟩) m c] 34 (t.addRow n (args.take j)) cvj nvj W2 := by rw [e2]; exact hI.more _
    have py : W2.heap[yb]? = some (.cells #[.int .u8 (y.op : Nat), .int .i64 y.n, .string y.nm, .slice A' y.args.length c'] 34 (0, 0)) := by rw [e2, eyb]; exact heap_alloc_new W _
    have hle := rowC_le (exprC t.names n) hy t.code.length
    have F := IH y A' c' (hf y (List.mem_of_getElem? hy)) hc.lim hd W2 tb (t.addRow n (args.take j)) cvj nvj hI2.b hI2.k (by simp only [TS.code_addRow, TS.names_addRow, List.length_append]; omega) (by simpa using hnl)
    rw [TS.addRow_snoc, ← take_snoc hy] at F
    obtain ⟨y0, y1, y2, y3⟩ := ebox py
    have i0 : (0 : Int) ≤ (j : Int) := by omega
    have i1 : (j : Int) < (m : Int) := by omega
    have i2 : decide (j < m) = true := decide_eq_true hlt
    have w2 : wrap64 ((j : Int) + 1) = (j : Int) + 1 := by unfold wrap64; omega
    have F : Calls Tryz.prog 88 #[.pointer (some ⟨tb, 0, none⟩), .agg #[.int .u8 (y.op : Nat), .int .i64 y.n, .string y.nm, .slice A' y.args.length c']] W2 fun r w' => r = .returned (.tuple #[]) ∧ TRes W2 w0.heap.size tb cvj nvj (t.addRow n (args.take (j + 1))) w' := F
    have HJ := Lib.hid (And.intro hI2 (And.intro hg hlt))
    clear hy hc hd hI hI2 py hle hg hlt hm hm2 hf hE hlen hnl IH
    go_upto_region 5 with fail
    rw [← e2, ← eyb]
    clear e2 eyb r0 r1 r2 r3 x0 x1 x2 x3
    go_wp2_with (go_at_call 88; refine F.mono ?_; rintro e W3 ⟨rfl, h3⟩; obtain ⟨cv3, nv3, I3, -⟩ := HJ.out.1.step exprTypes HJ.out.1.size h3; have H3 := Lib.hid I3; clear I3 h3)
    go_roundg (m - (j + 1))
    case measure => have := HJ.out.2.1; have := HJ.out.2.2; omega
    case rel => exact ⟨j + 1, cv3, nv3, by have := HJ.out.2.2; omega, by go_num, H3.out⟩
  · have i2 : decide (j < m) = false := decide_eq_false hlt
    have ht : args.take j = args := List.take_of_length_le (by omega)
    rw [ht] at hI
    obtain ⟨x0, x1, x2, x3⟩ := ebox hI.p
    have F := HX.out W cvj nvj hI.k
    have HJ := Lib.hid hI
    clear hI hg hlt hm hm2 hf hE hlen hnl IH ht
    go_wp2_with (go_at_call 89; refine F.mono ?_; rintro e W3 ⟨rfl, h3⟩; have H3 := Lib.hid h3; clear h3)
    go_end0
    exact ⟨rfl, (H3.out.trans HJ.out.f).trans HI.out.2⟩
set_option maxRecDepth 100000 in
set_option maxHeartbeats 4000000 in
theorem expr_6
    (w0 : World) (num : Int) (nm : ByteArray) (A : Option Addr) (m c : Nat) (w : World) (tb : Nat) (t T' : TS) (cv nv : Value) (hb : Below w0.heap.size w0 w) (hk : TOk w w0.heap.size tb t cv nv) (hl : t.code.length ≤ 100000) (hnl : t.names.length ≤ 100000)
    (n : Nat) (IH : ExprT w0 n) (args : List E0) (hm : m = args.length) (hm2 : m ≤ 1000000) (hf : ∀ x, x ∈ args → fineB n x = true) (hE : EsAt w0 (n + 1) A args) (hlen : t.code.length + (rowC (exprC t.names n) args t.code.length).length ≤ 100000) (hT : T' = (t.addRow n args).app [(8, 0)])
    :
    Calls Tryz.prog 88 #[.pointer (some ⟨tb, 0, none⟩), .agg #[.int .u8 6, .int .i64 num, .string nm, .slice A m c]] w fun r w' => r = .returned (.tuple #[]) ∧ TRes w w0.heap.size tb cv nv T' w' := by
  obtain ⟨w1, xb, e1, exb, I1, b1⟩ := xin_new w0 w tb t cv nv #[.int .u8 6, .int .i64 num, .string nm, .slice A m c] 34 hb hk
  obtain ⟨x0, x1, x2, x3⟩ := ebox I1.p
  have X := fun (W : World) (cv nv : Value) (h : TOk W w0.heap.size tb (t.addRow n args) cv nv) => tputA w0.heap.size tb _ cv nv 8 0 W h (by simp; omega)
  rw [← hT] at X
  have HX := Lib.hid X
  have HA := Lib.hid (And.intro hm (And.intro hm2 (And.intro hf (And.intro hE (And.intro hlen (And.intro hnl (And.intro IH exb)))))))
  clear X
  have HI := Lib.hid (And.intro I1 b1)
  clear I1 b1 hb hk hl hnl hT IH hm hm2 hf hE hlen
  go_enter Tryz.func88, Tryz.ntmps88
  go_upto_region 1 with fail
  rw [← e1, ← exb]
  clear e1 exb
  go_wp2_with fail
  go_loopg [11] m (fun gh iv wr => ∃ (j : Nat) (cvj nvj : Value), gh + j = m ∧ iv = .int .i64 (j : Nat) ∧ XIn w0 w1 w0.heap.size tb xb cv nv #[.int .u8 6, .int .i64 num, .string nm, .slice A m c] 34 (t.addRow n (args.take j)) cvj nvj wr)
  case atStart => exact ⟨0, cv, nv, rfl, rfl, by rw [List.take_zero, TS.addRow_nil]; exact HI.out.1⟩
  case round =>
  obtain ⟨j, cvj, nvj, hg, rfl, hI⟩ := hrel
  obtain ⟨W, eW⟩ : ∃ W, W = wr := ⟨_, rfl⟩
  rw [← eW] at hI ⊢
  clear eW x0 x1 x2 x3
  obtain ⟨hm, hm2, hf, hE, hlen, hnl, IH, -⟩ := HA.out
  by_cases hlt : j < m
  · obtain ⟨y, hy⟩ : ∃ y, args[j]? = some y := ⟨_, List.getElem?_eq_getElem (by omega)⟩
    obtain ⟨b, o, A', c', rfl, hc, hd⟩ := hE.one hy
    obtain ⟨r0, r1, r2, r3, -, -⟩ := hc.below hI.b
    obtain ⟨x0, x1, x2, x3⟩ := ebox hI.p
    obtain ⟨W2, e2⟩ : ∃ W2, W2 = W.alloc (.cells #[.int .u8 (y.op : Nat), .int .i64 y.n, .string y.nm, .slice A' y.args.length c'] 34 (0, 0)) := ⟨_, rfl⟩
    obtain ⟨yb, eyb⟩ : ∃ yb, yb = W.heap.size := ⟨_, rfl⟩
    have hI2 : XIn w0 w1 w0.heap.size tb xb cv nv #[.int .u8 6, .int .i64 num, .string nm, .slice (some ⟨b, o, none⟩) m c] 34 (t.addRow n (args.take j)) cvj nvj W2 := by rw [e2]; exact hI.more _
    have py : W2.heap[yb]? = some (.cells #[.int .u8 (y.op : Nat), .int .i64 y.n, .string y.nm, .slice A' y.args.length c'] 34 (0, 0)) := by rw [e2, eyb]; exact heap_alloc_new W _
    have hle := rowC_le (exprC t.names n) hy t.code.length
    have F := IH y A' c' (hf y (List.mem_of_getElem? hy)) hc.lim hd W2 tb (t.addRow n (args.take j)) cvj nvj hI2.b hI2.k (by simp only [TS.code_addRow, TS.names_addRow, List.length_append]; omega) (by simpa using hnl)
    rw [TS.addRow_snoc, ← take_snoc hy] at F
    obtain ⟨y0, y1, y2, y3⟩ := ebox py
    have i0 : (0 : Int) ≤ (j : Int) := by omega
    have i1 : (j : Int) < (m : Int) := by omega
    have i2 : decide (j < m) = true := decide_eq_true hlt
    have w2 : wrap64 ((j : Int) + 1) = (j : Int) + 1 := by unfold wrap64; omega
    have F : Calls Tryz.prog 88 #[.pointer (some ⟨tb, 0, none⟩), .agg #[.int .u8 (y.op : Nat), .int .i64 y.n, .string y.nm, .slice A' y.args.length c']] W2 fun r w' => r = .returned (.tuple #[]) ∧ TRes W2 w0.heap.size tb cvj nvj (t.addRow n (args.take (j + 1))) w' := F
    have HJ := Lib.hid (And.intro hI2 (And.intro hg hlt))
    clear hy hc hd hI hI2 py hle hg hlt hm hm2 hf hE hlen hnl IH
    go_upto_region 5 with fail
    rw [← e2, ← eyb]
    clear e2 eyb r0 r1 r2 r3 x0 x1 x2 x3
    go_wp2_with (go_at_call 88; refine F.mono ?_; rintro e W3 ⟨rfl, h3⟩; obtain ⟨cv3, nv3, I3, -⟩ := HJ.out.1.step exprTypes HJ.out.1.size h3; have H3 := Lib.hid I3; clear I3 h3)
    go_roundg (m - (j + 1))
    case measure => have := HJ.out.2.1; have := HJ.out.2.2; omega
    case rel => exact ⟨j + 1, cv3, nv3, by have := HJ.out.2.2; omega, by go_num, H3.out⟩
  · have i2 : decide (j < m) = false := decide_eq_false hlt
    have ht : args.take j = args := List.take_of_length_le (by omega)
    rw [ht] at hI
    obtain ⟨x0, x1, x2, x3⟩ := ebox hI.p
    have F := HX.out W cvj nvj hI.k
    have HJ := Lib.hid hI
    clear hI hg hlt hm hm2 hf hE hlen hnl IH ht
    go_wp2_with (go_at_call 89; refine F.mono ?_; rintro e W3 ⟨rfl, h3⟩; have H3 := Lib.hid h3; clear h3)
    go_end0
    exact ⟨rfl, (H3.out.trans HJ.out.f).trans HI.out.2⟩
set_option maxRecDepth 100000 in
set_option maxHeartbeats 4000000 in
theorem expr_do
    (w0 : World) (num : Int) (nm : ByteArray) (A : Option Addr) (m c : Nat) (w : World) (tb : Nat) (t T' : TS) (cv nv : Value) (hb : Below w0.heap.size w0 w) (hk : TOk w w0.heap.size tb t cv nv) (hl : t.code.length ≤ 100000) (hnl : t.names.length ≤ 100000)
    (op : Nat) (ho : 7 ≤ op ∧ op ≤ 24 ∧ op ≠ 21 ∧ op ≠ 22) (n : Nat) (IH : ExprT w0 n) (args : List E0) (hm : m = args.length) (hm2 : m ≤ 1000000) (hf : ∀ x, x ∈ args → fineB n x = true) (hE : EsAt w0 (n + 1) A args) (hlen : t.code.length + (rowC (exprC t.names n) args t.code.length).length ≤ 100000) (hT : T' = (t.addRow n args).app [(9, ((op : Nat) : Int))])
    :
    Calls Tryz.prog 88 #[.pointer (some ⟨tb, 0, none⟩), .agg #[.int .u8 (op : Nat), .int .i64 num, .string nm, .slice A m c]] w fun r w' => r = .returned (.tuple #[]) ∧ TRes w w0.heap.size tb cv nv T' w' := by
  obtain ⟨w1, xb, e1, exb, I1, b1⟩ := xin_new w0 w tb t cv nv #[.int .u8 (op : Nat), .int .i64 num, .string nm, .slice A m c] 34 hb hk
  obtain ⟨x0, x1, x2, x3⟩ := ebox I1.p
  have q1 : ((op : Int) == 1) = false := by simp; omega
  have q2 : ((op : Int) == 2) = false := by simp; omega
  have q3 : ((op : Int) == 3) = false := by simp; omega
  have q4 : ((op : Int) == 4) = false := by simp; omega
  have q5 : ((op : Int) == 5) = false := by simp; omega
  have q6 : ((op : Int) == 6) = false := by simp; omega
  have q21 : ((op : Int) == 21) = false := by simp; omega
  have q22 : ((op : Int) == 22) = false := by simp; omega
  have uo : wrap64 (op : Int) = (op : Int) := by unfold wrap64; omega
  clear ho
  have X := fun (W : World) (cv nv : Value) (h : TOk W w0.heap.size tb (t.addRow n args) cv nv) => tputA w0.heap.size tb _ cv nv 9 ((op : Nat) : Int) W h (by simp; omega)
  rw [← hT] at X
  have HX := Lib.hid X
  have HA := Lib.hid (And.intro hm (And.intro hm2 (And.intro hf (And.intro hE (And.intro hlen (And.intro hnl (And.intro IH exb)))))))
  clear X
  have HI := Lib.hid (And.intro I1 b1)
  clear I1 b1 hb hk hl hnl hT IH hm hm2 hf hE hlen
  go_enter Tryz.func88, Tryz.ntmps88
  go_upto_region 1 with fail
  rw [← e1, ← exb]
  clear e1 exb
  go_wp2_with fail
  go_loopg [11] m (fun gh iv wr => ∃ (j : Nat) (cvj nvj : Value), gh + j = m ∧ iv = .int .i64 (j : Nat) ∧ XIn w0 w1 w0.heap.size tb xb cv nv #[.int .u8 (op : Nat), .int .i64 num, .string nm, .slice A m c] 34 (t.addRow n (args.take j)) cvj nvj wr)
  case atStart => exact ⟨0, cv, nv, rfl, rfl, by rw [List.take_zero, TS.addRow_nil]; exact HI.out.1⟩
  case round =>
  obtain ⟨j, cvj, nvj, hg, rfl, hI⟩ := hrel
  obtain ⟨W, eW⟩ : ∃ W, W = wr := ⟨_, rfl⟩
  rw [← eW] at hI ⊢
  clear eW x0 x1 x2 x3
  obtain ⟨hm, hm2, hf, hE, hlen, hnl, IH, -⟩ := HA.out
  by_cases hlt : j < m
  · obtain ⟨y, hy⟩ : ∃ y, args[j]? = some y := ⟨_, List.getElem?_eq_getElem (by omega)⟩
    obtain ⟨b, o, A', c', rfl, hc, hd⟩ := hE.one hy
    obtain ⟨r0, r1, r2, r3, -, -⟩ := hc.below hI.b
    obtain ⟨x0, x1, x2, x3⟩ := ebox hI.p
    obtain ⟨W2, e2⟩ : ∃ W2, W2 = W.alloc (.cells #[.int .u8 (y.op : Nat), .int .i64 y.n, .string y.nm, .slice A' y.args.length c'] 34 (0, 0)) := ⟨_, rfl⟩
    obtain ⟨yb, eyb⟩ : ∃ yb, yb = W.heap.size := ⟨_, rfl⟩
    have hI2 : XIn w0 w1 w0.heap.size tb xb cv nv #[.int .u8 (op : Nat), .int .i64 num, .string nm, .slice (some ⟨b, o, none⟩) m c] 34 (t.addRow n (args.take j)) cvj nvj W2 := by rw [e2]; exact hI.more _
    have py : W2.heap[yb]? = some (.cells #[.int .u8 (y.op : Nat), .int .i64 y.n, .string y.nm, .slice A' y.args.length c'] 34 (0, 0)) := by rw [e2, eyb]; exact heap_alloc_new W _
    have hle := rowC_le (exprC t.names n) hy t.code.length
    have F := IH y A' c' (hf y (List.mem_of_getElem? hy)) hc.lim hd W2 tb (t.addRow n (args.take j)) cvj nvj hI2.b hI2.k (by simp only [TS.code_addRow, TS.names_addRow, List.length_append]; omega) (by simpa using hnl)
    rw [TS.addRow_snoc, ← take_snoc hy] at F
    obtain ⟨y0, y1, y2, y3⟩ := ebox py
    have i0 : (0 : Int) ≤ (j : Int) := by omega
    have i1 : (j : Int) < (m : Int) := by omega
    have i2 : decide (j < m) = true := decide_eq_true hlt
    have w2 : wrap64 ((j : Int) + 1) = (j : Int) + 1 := by unfold wrap64; omega
    have F : Calls Tryz.prog 88 #[.pointer (some ⟨tb, 0, none⟩), .agg #[.int .u8 (y.op : Nat), .int .i64 y.n, .string y.nm, .slice A' y.args.length c']] W2 fun r w' => r = .returned (.tuple #[]) ∧ TRes W2 w0.heap.size tb cvj nvj (t.addRow n (args.take (j + 1))) w' := F
    have HJ := Lib.hid (And.intro hI2 (And.intro hg hlt))
    clear hy hc hd hI hI2 py hle hg hlt hm hm2 hf hE hlen hnl IH
    go_upto_region 5 with fail
    rw [← e2, ← eyb]
    clear e2 eyb r0 r1 r2 r3 x0 x1 x2 x3
    go_wp2_with (go_at_call 88; refine F.mono ?_; rintro e W3 ⟨rfl, h3⟩; obtain ⟨cv3, nv3, I3, -⟩ := HJ.out.1.step exprTypes HJ.out.1.size h3; have H3 := Lib.hid I3; clear I3 h3)
    go_roundg (m - (j + 1))
    case measure => have := HJ.out.2.1; have := HJ.out.2.2; omega
    case rel => exact ⟨j + 1, cv3, nv3, by have := HJ.out.2.2; omega, by go_num, H3.out⟩
  · have i2 : decide (j < m) = false := decide_eq_false hlt
    have ht : args.take j = args := List.take_of_length_le (by omega)
    rw [ht] at hI
    obtain ⟨x0, x1, x2, x3⟩ := ebox hI.p
    have F := HX.out W cvj nvj hI.k
    have HJ := Lib.hid hI
    clear hI hg hlt hm hm2 hf hE hlen hnl IH ht
    go_wp2_with (go_at_call 89; refine F.mono ?_; rintro e W3 ⟨rfl, h3⟩; have H3 := Lib.hid h3; clear h3)
    go_end0
    exact ⟨rfl, (H3.out.trans HJ.out.f).trans HI.out.2⟩
theorem texpr_all (w0 : World) : ∀ n, ExprT w0 n := by
  intro n
  induction n with
  | zero => intro x A c hf; simp [fineB] at hf
  | succ n IH =>
    intro x A c hf hlim hE w tb t cv nv hb hk hlen hnl
    obtain ⟨op, num, nm, args⟩ := x
    have hop : op < 256 := hlim.1
    have hm2 : args.length ≤ 1000000 := hlim.2.2.2
    have hE : EsAt w0 (n + 1) A args := hE
    have hl : t.code.length ≤ 100000 := by omega
    show Calls _ _ #[.pointer (some ⟨tb, 0, none⟩), .agg #[.int .u8 (op : Nat), .int .i64 num, .string nm, .slice A args.length c]] w _
    have hadd : t.addX (n + 1) (.mk op num nm args) = (t.app (exprC t.names (n + 1) (.mk op num nm args) t.code.length)).failIf (!(exprG t.names (n + 1) (.mk op num nm args))) 131 := rfl
    have o1 : (E0.mk op num nm args).op = op := rfl
    have o2 : (E0.mk op num nm args).n = num := rfl
    have o3 : (E0.mk op num nm args).nm = nm := rfl
    have o4 : (E0.mk op num nm args).args = args := rfl
    rw [exprC] at hadd hlen
    rcases fine_cases hf with ⟨h1, h2⟩ | ⟨h1, a, ha, hfa⟩ | ⟨h1, a, d, ha, hfa, hfc⟩
    · rw [o1] at h1
      rw [o4] at h2
      subst h2
      rcases h1 with rfl | rfl | rfl | rfl
      · refine expr_1 w0 num nm A _ c w tb t _ cv nv hb hk hl hnl ?_
        rw [hadd, exprG]; simp [o1, o2, o4, TS.failIf]
      · refine expr_2 w0 num nm A _ c w tb t _ cv nv hb hk hl hnl ?_
        rw [hadd, exprG, TS.failIf_app]
        simp only [o1, o3, o4, List.all_nil, Bool.and_true, if_true]
        congr 1
        rw [← decide_not]
        exact decide_eq_decide.2 (by omega)
      · refine expr_4 w0 num nm A _ c w tb t _ cv nv hb hk hl hnl ?_
        rw [hadd, exprG]; simp [o1, o2, o4, TS.failIf]
      · refine expr_5 w0 num nm A _ c w tb t _ cv nv hb hk hl hnl ?_
        rw [hadd, exprG]; simp [o1, o2, o4, TS.failIf]
    all_goals
      rw [o1] at h1
      rw [o4] at ha
    · subst ha
      have h1 : op = 3 ∨ op = 6 ∨ (7 ≤ op ∧ op ≤ 9) := by omega
      rw [if_neg (by rw [o1]; omega), if_neg (by rw [o1]; omega), if_neg (by rw [o1]; omega), if_neg (by rw [o1]; omega), if_neg (by rw [o1]; omega)] at hadd hlen
      have hG : exprG t.names (n + 1) (.mk op num nm [a]) = [a].all (exprG t.names n) := by rw [exprG, if_neg (by rw [o1]; omega), Bool.true_and, o4]
      rw [hG, ← TS.app_app, ← TS.failIf_app] at hadd
      have hadd : t.addX (n + 1) (.mk op num nm [a]) = (t.addRow n [a]).app [lastI (.mk op num nm [a])] := hadd
      rw [List.length_append] at hlen
      have hf1 : ∀ x, x ∈ [a] → fineB n x = true := fun x hx => by simp at hx; subst hx; exact hfa
      have hlen2 : t.code.length + (rowC (exprC t.names n) [a] t.code.length).length ≤ 100000 := by
        have h' : (rowC (exprC t.names n) (E0.mk op num nm [a]).args t.code.length).length = (rowC (exprC t.names n) [a] t.code.length).length := rfl
        omega
      rcases h1 with rfl | rfl | h1
      · exact expr_3 w0 num nm A _ c w tb t _ cv nv hb hk hl hnl n IH [a] rfl hm2 hf1 hE hlen2 hadd
      · exact expr_6 w0 num nm A _ c w tb t _ cv nv hb hk hl hnl n IH [a] rfl hm2 hf1 hE hlen2 hadd
      · refine expr_do w0 num nm A _ c w tb t _ cv nv hb hk hl hnl op (by omega) n IH [a] rfl hm2 hf1 hE hlen2 ?_
        rw [hadd]; unfold lastI; rw [if_neg (by rw [o1]; omega), if_neg (by rw [o1]; omega)]; rfl
    · subst ha
      by_cases cl : op = 21 ∨ op = 22
      · have hz := fun (jump : Nat) (v : Int) (W : World) (xb : Nat) (box : Array Value) (I : XIn w0 W w0.heap.size tb xb cv nv box 34 t cv nv W) => tlazy_ok w0 n IH op num nm a d A c jump v hfa hfc hE W tb t cv nv I.b I.k
        rw [if_neg (by rw [o1]; omega), if_neg (by rw [o1]; omega), if_neg (by rw [o1]; omega), if_neg (by rw [o1]; omega), if_pos (by rw [o1]; exact cl)] at hadd hlen
        have hG : exprG t.names (n + 1) (.mk op num nm [a, d]) = (exprG t.names n a && exprG t.names n d) := by rw [exprG, if_neg (by rw [o1]; omega), Bool.true_and]; simp [o4]
        rw [hG] at hadd
        rcases cl with rfl | rfl
        · have hadd : t.addX (n + 1) (.mk 21 num nm [a, d]) = (t.app (lazyC t.names n a d 12 0 t.code.length)).failIf (!(exprG t.names n a && exprG t.names n d)) 131 := by rw [hadd]; simp [lazyC, o1, o4]
          refine expr_21 w0 num nm A _ c w tb t _ cv nv hb hk hl hnl (fun W I => ?_)
          rw [hadd]
          exact hz 12 0 W _ _ I (by simpa [lazyC, o1, o4] using hlen) hnl
        · have hadd : t.addX (n + 1) (.mk 22 num nm [a, d]) = (t.app (lazyC t.names n a d 13 1 t.code.length)).failIf (!(exprG t.names n a && exprG t.names n d)) 131 := by rw [hadd]; simp [lazyC, o1, o4]
          refine expr_22 w0 num nm A _ c w tb t _ cv nv hb hk hl hnl (fun W I => ?_)
          rw [hadd]
          exact hz 13 1 W _ _ I (by simpa [lazyC, o1, o4] using hlen) hnl
      · rw [if_neg (by rw [o1]; omega), if_neg (by rw [o1]; omega), if_neg (by rw [o1]; omega), if_neg (by rw [o1]; omega), if_neg (by rw [o1]; exact cl)] at hadd hlen
        have hG : exprG t.names (n + 1) (.mk op num nm [a, d]) = [a, d].all (exprG t.names n) := by rw [exprG, if_neg (by rw [o1]; omega), Bool.true_and, o4]
        rw [hG, ← TS.app_app, ← TS.failIf_app] at hadd
        have hadd : t.addX (n + 1) (.mk op num nm [a, d]) = (t.addRow n [a, d]).app [lastI (.mk op num nm [a, d])] := hadd
        rw [List.length_append] at hlen
        have hf1 : ∀ x, x ∈ [a, d] → fineB n x = true := fun x hx => by simp at hx; rcases hx with rfl | rfl <;> assumption
        have hlen2 : t.code.length + (rowC (exprC t.names n) [a, d] t.code.length).length ≤ 100000 := by
          have h' : (rowC (exprC t.names n) (E0.mk op num nm [a, d]).args t.code.length).length = (rowC (exprC t.names n) [a, d] t.code.length).length := rfl
          omega
        refine expr_do w0 num nm A _ c w tb t _ cv nv hb hk hl hnl op (by omega) n IH [a, d] rfl hm2 hf1 hE hlen2 ?_
        rw [hadd]; unfold lastI; rw [if_neg (by rw [o1]; omega), if_neg (by rw [o1]; omega)]; rfl
end
end Go.Proofs.YtocbddajakbemaaGreat
