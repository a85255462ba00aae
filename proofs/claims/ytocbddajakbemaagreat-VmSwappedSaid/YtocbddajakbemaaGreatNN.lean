/- vm, compile: what the translator adds; lazy. vm, compile: lazy. vm, compile: lazy's walk. -/
import Derived.Test.YtocbddajakbemaaGreatNM
set_option linter.unusedVariables false
set_option linter.unusedSimpArgs false
set_option linter.unusedSimpArgs false
namespace Go.Proofs.YtocbddajakbemaaGreat
section
open Go.RowKit
def TS.app (t : TS) (c : List (Nat × Int)) : TS := { t with code := t.code ++ c }
def TS.addX (t : TS) (n : Nat) (x : E0) : TS := (t.app (exprC t.names n x t.code.length)).failIf (!(exprG t.names n x)) 131
def TS.addRow (t : TS) (n : Nat) (l : List E0) : TS := (t.app (rowC (exprC t.names n) l t.code.length)).failIf (!(l.all (exprG t.names n))) 131
@[simp] theorem TS.names_app (t : TS) (c : List (Nat × Int)) : (t.app c).names = t.names := rfl
@[simp] theorem TS.code_app (t : TS) (c : List (Nat × Int)) : (t.app c).code = t.code ++ c := rfl
@[simp] theorem TS.L_app (t : TS) (c : List (Nat × Int)) : (t.app c).L = t.L := rfl
@[simp] theorem TS.names_failIf (t : TS) (b : Bool) (e : Int) : (t.failIf b e).names = t.names := by cases b <;> rfl
@[simp] theorem TS.code_failIf (t : TS) (b : Bool) (e : Int) : (t.failIf b e).code = t.code := by cases b <;> rfl
@[simp] theorem TS.L_failIf (t : TS) (b : Bool) (e : Int) : (t.failIf b e).L = t.L := by cases b <;> rfl
theorem TS.failIf_app (t : TS) (b : Bool) (e : Int) (c : List (Nat × Int)) : (t.failIf b e).app c = (t.app c).failIf b e := by cases b <;> rfl
theorem TS.failIf_two (t : TS) (b b' : Bool) : (t.failIf b 131).failIf b' 131 = t.failIf (b || b') 131 := by
  cases b <;> cases b' <;> simp [TS.failIf, TS.fail]
  intro h
  split at h <;> simp_all
theorem TS.app_app (t : TS) (c d : List (Nat × Int)) : (t.app c).app d = t.app (c ++ d) := by simp [TS.app]
theorem TS.app_nil (t : TS) : t.app [] = t := by simp [TS.app]
@[simp] theorem TS.names_addX (t : TS) (n : Nat) (x : E0) : (t.addX n x).names = t.names := by simp [TS.addX]
@[simp] theorem TS.code_addX (t : TS) (n : Nat) (x : E0) : (t.addX n x).code = t.code ++ exprC t.names n x t.code.length := by simp [TS.addX]
@[simp] theorem TS.L_addX (t : TS) (n : Nat) (x : E0) : (t.addX n x).L = t.L := by simp [TS.addX]
@[simp] theorem TS.names_addRow (t : TS) (n : Nat) (l : List E0) : (t.addRow n l).names = t.names := by simp [TS.addRow]
@[simp] theorem TS.code_addRow (t : TS) (n : Nat) (l : List E0) : (t.addRow n l).code = t.code ++ rowC (exprC t.names n) l t.code.length := by simp [TS.addRow]
@[simp] theorem TS.L_addRow (t : TS) (n : Nat) (l : List E0) : (t.addRow n l).L = t.L := by simp [TS.addRow]
theorem rowC_append (f : E0 → Nat → List (Nat × Int)) (l k : List E0) : ∀ b, rowC f (l ++ k) b = rowC f l b ++ rowC f k (b + (rowC f l b).length) := by
  induction l with
  | nil => intro b; simp [rowC]
  | cons x l ih => intro b; simp [rowC, ih, Nat.add_assoc]
theorem rowC_le (f : E0 → Nat → List (Nat × Int)) {l : List E0} {j : Nat} {x : E0} (h : l[j]? = some x) (b : Nat) : (rowC f (l.take j) b).length + (f x (b + (rowC f (l.take j) b).length)).length ≤ (rowC f l b).length := by
  have hlt := (List.getElem?_eq_some_iff.1 h).1
  have e : l = l.take j ++ (x :: l.drop (j + 1)) := by
    rw [List.getElem?_eq_getElem hlt] at h
    injection h with h
    rw [← h, List.getElem_cons_drop, List.take_append_drop]
  conv => rhs; rw [e, rowC_append]
  simp [rowC]
theorem TS.addRow_snoc (t : TS) (n : Nat) (l : List E0) (x : E0) : (t.addRow n l).addX n x = t.addRow n (l ++ [x]) := by
  unfold TS.addX TS.addRow
  simp only [TS.names_failIf, TS.names_app, TS.code_failIf, TS.code_app, TS.failIf_app, TS.failIf_two, TS.app_app, rowC_append, List.length_append, List.all_append, List.all_cons, List.all_nil, Bool.and_true, Bool.not_and, rowC, List.append_nil]
theorem TS.addRow_nil (t : TS) (n : Nat) : t.addRow n [] = t := by simp [TS.addRow, rowC, TS.app_nil, TS.failIf]
theorem take_snoc {α : Type} {l : List α} {j : Nat} {x : α} (h : l[j]? = some x) : l.take (j + 1) = l.take j ++ [x] := by rw [List.take_add_one, h]; rfl
structure XIn (w0 w1 : World) (B tb xb : Nat) (cv1 nv1 : Value) (box : Array Value) (T : TypeId) (t : TS) (cv nv : Value) (W : World) : Prop where
  k : TOk W B tb t cv nv
  f : Fr (tF tb cv1 nv1) w1 (tF tb cv nv) W
  p : W.heap[xb]? = some (.cells box T (0, 0))
  b : Below B w0 W
theorem XIn.step {w0 w1 : World} {B tb xb : Nat} {cv1 nv1 : Value} {box : Array Value} {T : TypeId} {t t' : TS} {cv nv : Value} {W W' : World} (hT : T ≠ 87 ∧ T ≠ 105 ∧ T ≠ 9) (h : XIn w0 w1 B tb xb cv1 nv1 box T t cv nv W) (hB : B ≤ W.heap.size) (r : TRes W B tb cv nv t' W') :
    ∃ cv' nv', XIn w0 w1 B tb xb cv1 nv1 box T t' cv' nv' W' ∧ Fr (tF tb cv nv) W (tF tb cv' nv') W' := by
  obtain ⟨cv', nv', k', f'⟩ := r
  exact ⟨cv', nv', ⟨k', h.f.trans f', (f'.block xb (lt_of_block h.p) (h.k.notIn h.p hT.1 hT.2.1 hT.2.2)).trans h.p, h.b.trans (f'.below hB h.k.above)⟩, f'⟩
theorem XIn.size {w0 w1 : World} {B tb xb : Nat} {cv1 nv1 : Value} {box : Array Value} {T : TypeId} {t : TS} {cv nv : Value} {W : World} (h : XIn w0 w1 B tb xb cv1 nv1 box T t cv nv W) : B ≤ W.heap.size := Nat.le_of_lt (Nat.lt_of_le_of_lt h.k.base (lt_of_block h.k.blk))
theorem XIn.more {w0 w1 : World} {B tb xb : Nat} {cv1 nv1 : Value} {box : Array Value} {T : TypeId} {t : TS} {cv nv : Value} {W : World} (h : XIn w0 w1 B tb xb cv1 nv1 box T t cv nv W) (o : Obj) : XIn w0 w1 B tb xb cv1 nv1 box T t cv nv (W.alloc o) :=
  ⟨h.k.alloc o, ⟨h.f.os, h.f.tape, h.f.output, by have := h.f.size; simp; omega, fun q hq hn => (Below.heap_alloc W o q (Nat.lt_of_lt_of_le hq h.f.size)).trans (h.f.block q hq hn), h.f.own⟩, (Below.heap_alloc W o xb (lt_of_block h.p)).trans h.p, h.b.alloc h.size o⟩
theorem ebox {W : World} {xb op : Nat} {n : Int} {nm : ByteArray} {A : Option Addr} {m c : Nat} {T : TypeId} (h : W.heap[xb]? = some (.cells #[.int .u8 (op : Nat), .int .i64 n, .string nm, .slice A m c] T (0, 0))) :
    W.cell? ⟨xb, 0, none⟩ = some (.int .u8 (op : Nat)) ∧ W.cell? ⟨xb, 1, none⟩ = some (.int .i64 n) ∧ W.cell? ⟨xb, 2, none⟩ = some (.string nm) ∧ W.cell? ⟨xb, 3, none⟩ = some (.slice A m c) :=
  ⟨(cell_of_block h 0).trans rfl, (cell_of_block h 1).trans rfl, (cell_of_block h 2).trans rfl, (cell_of_block h 3).trans rfl⟩
def ExprT (w0 : World) (n : Nat) : Prop := ∀ (x : E0) (A : Option Addr) (c : Nat), fineB n x = true → ELim x → EsAt w0 n A x.args → ∀ (w : World) (tb : Nat) (t : TS) (cv nv : Value), Below w0.heap.size w0 w → TOk w w0.heap.size tb t cv nv → t.code.length + (exprC t.names n x t.code.length).length ≤ 100000 → t.names.length ≤ 100000 →
  Calls Tryz.prog 88 #[.pointer (some ⟨tb, 0, none⟩), x.agg A c] w fun r w' => r = .returned (.tuple #[]) ∧ TRes w w0.heap.size tb cv nv (t.addX n x) w'
end
end Go.Proofs.YtocbddajakbemaaGreat
set_option linter.unusedSimpArgs false
namespace Go.Proofs.YtocbddajakbemaaGreat
section
open Go.RowKit
theorem EsAt.one {w : World} {d : Nat} {A : Option Addr} {l : List E0} (h : EsAt w (d + 1) A l) {j : Nat} {x : E0} (hx : l[j]? = some x) : ∃ b o A' c, A = some ⟨b, o, none⟩ ∧ ECells w b (o + j * 4) x A' c ∧ EsAt w d A' x.args := h j x hx
theorem set_back (c : List (Nat × Int)) (x y : Nat × Int) (d : List (Nat × Int)) : (c ++ x :: d).set c.length y = c ++ y :: d := by
  rw [List.set_append_right _ _ (Nat.le_refl _), Nat.sub_self, List.set_cons_zero]
theorem get_back (c : List (Nat × Int)) (x : Nat × Int) (d : List (Nat × Int)) : (c ++ x :: d)[c.length]? = some x := by
  rw [List.getElem?_append_right (Nat.le_refl _), Nat.sub_self]; rfl
def lazyC (ν : List ByteArray) (n : Nat) (a c : E0) (jump : Nat) (v : Int) (b : Nat) : List (Nat × Int) :=
  exprC ν n a b ++ ((jump, ((b + (exprC ν n a b).length + 1 + (exprC ν n c (b + (exprC ν n a b).length + 1)).length + 2 : Nat) : Int)) ::
    (exprC ν n c (b + (exprC ν n a b).length + 1) ++ [(10, 0), (11, ((b + (exprC ν n a b).length + 1 + (exprC ν n c (b + (exprC ν n a b).length + 1)).length + 3 : Nat) : Int)), (1, v)]))
theorem lazy_steps (t : TS) (n : Nat) (a c : E0) (jump : Nat) (v : Int) (ca cc : List (Nat × Int)) (ha : ca = exprC t.names n a t.code.length) (hc : cc = exprC t.names n c (t.code.length + ca.length + 1)) :
    let t1 := t.addX n a
    let t2 := t1.app [(jump, 0)]
    let t3 := t2.addX n c
    let t4 := t3.app [(10, 0)]
    let t5 := t4.app [(11, 0)]
    let t6 : TS := { t5 with code := t5.code.set t1.code.length (jump, ((t5.code.length : Nat) : Int)) }
    let t7 := t6.app [(1, v)]
    let t8 : TS := { t7 with code := t7.code.set t4.code.length (11, ((t7.code.length : Nat) : Int)) }
    t1.code.length = t.code.length + ca.length ∧ t2.code.length = t.code.length + ca.length + 1 ∧ t3.code.length = t.code.length + ca.length + 1 + cc.length ∧ t4.code.length = t.code.length + ca.length + 1 + cc.length + 1 ∧ t5.code.length = t.code.length + ca.length + 1 + cc.length + 2 ∧ t7.code.length = t.code.length + ca.length + 1 + cc.length + 3 ∧
    t5.code[t1.code.length]? = some (jump, 0) ∧ t7.code[t4.code.length]? = some (11, 0) ∧ t8 = (t.app (lazyC t.names n a c jump v t.code.length)).failIf (!(exprG t.names n a && exprG t.names n c)) 131 := by
  intro t1 t2 t3 t4 t5 t6 t7 t8
  have hc' : cc = exprC t2.names n c t2.code.length := by
    simp only [t2, t1, TS.names_app, TS.names_addX, TS.code_app, TS.code_addX, List.length_append, List.length_cons, List.length_nil, ← ha]
    rw [hc]
  have l1 : t1.code = t.code ++ ca := by simp only [t1, TS.code_addX, ha]
  have l2 : t2.code = t.code ++ ca ++ [(jump, 0)] := by simp only [t2, TS.code_app, l1]
  have l3 : t3.code = t.code ++ ca ++ [(jump, 0)] ++ cc := by
    show (t2.addX n c).code = _
    rw [TS.code_addX, ← hc', l2]
  have l4 : t4.code = t.code ++ ca ++ [(jump, 0)] ++ cc ++ [(10, 0)] := by simp only [t4, TS.code_app, l3]
  have l5 : t5.code = t.code ++ ca ++ [(jump, 0)] ++ cc ++ [(10, 0)] ++ [(11, 0)] := by simp only [t5, TS.code_app, l4]
  have l5' : t5.code = (t.code ++ ca) ++ (jump, 0) :: (cc ++ [(10, 0), (11, 0)]) := by rw [l5]; simp
  have n5 : t5.code.length = t.code.length + ca.length + 1 + cc.length + 2 := by rw [l5]; simp <;> omega
  have n1 : t1.code.length = (t.code ++ ca).length := by rw [l1]
  have l6 : t6.code = (t.code ++ ca) ++ (jump, ((t.code.length + ca.length + 1 + cc.length + 2 : Nat) : Int)) :: (cc ++ [(10, 0), (11, 0)]) := by
    show t5.code.set t1.code.length (jump, ((t5.code.length : Nat) : Int)) = _
    rw [n5, n1, l5', set_back]
  have l7 : t7.code = (t.code ++ ca ++ (jump, ((t.code.length + ca.length + 1 + cc.length + 2 : Nat) : Int)) :: (cc ++ [(10, 0)])) ++ (11, 0) :: [(1, v)] := by
    show t6.code ++ [(1, v)] = _
    rw [l6]; simp
  have n7 : t7.code.length = t.code.length + ca.length + 1 + cc.length + 3 := by rw [l7]; simp <;> omega
  have n4 : t4.code.length = (t.code ++ ca ++ (jump, ((t.code.length + ca.length + 1 + cc.length + 2 : Nat) : Int)) :: (cc ++ [(10, 0)])).length := by rw [l4]; simp <;> omega
  have l8 : t8.code = t.code ++ lazyC t.names n a c jump v t.code.length := by
    show t7.code.set t4.code.length (11, ((t7.code.length : Nat) : Int)) = _
    rw [n7, n4, l7, set_back]
    unfold lazyC
    rw [← ha, ← hc]
    simp
  refine ⟨by rw [l1]; simp, by rw [l2]; simp <;> omega, by rw [l3]; simp <;> omega, by rw [l4]; simp <;> omega, n5, n7, ?_, ?_, ?_⟩
  · rw [n1, l5', get_back]
  · rw [n4, l7, get_back]
  · have e2 : t2.names = t.names := by show (t.addX n a).names = _; rw [TS.names_addX]
    have e : t3.e = (t.failIf (!(exprG t.names n a && exprG t.names n c)) 131).e := by
      have : t3 = ((t.app ca).app ([(jump, 0)] ++ cc)).failIf (!(exprG t.names n a && exprG t.names n c)) 131 := by
        show t2.addX n c = _
        unfold TS.addX
        rw [← hc', e2]
        show (((t.addX n a).app [(jump, 0)]).app cc).failIf _ 131 = _
        unfold TS.addX
        rw [← ha]
        simp only [TS.failIf_app, TS.failIf_two, TS.app_app, Bool.not_and, List.append_assoc]
      rw [this]
      cases (!(exprG t.names n a && exprG t.names n c)) <;> rfl
    have nm8 : t8.names = t.names := (show t8.names = (t2.addX n c).names from rfl).trans (by rw [TS.names_addX, e2])
    have L8 : t8.L = t.L := (show t8.L = (t2.addX n c).L from rfl).trans (by rw [TS.L_addX]; show (t.addX n a).L = _; rw [TS.L_addX])
    have e8 : t8.e = t3.e := rfl
    have ext : ∀ (p q : TS), p.code = q.code → p.names = q.names → p.L = q.L → p.e = q.e → p = q := by
      intro p q h1 h2 h3 h4
      cases p; cases q
      simp only at h1 h2 h3 h4
      subst h1 h2 h3 h4
      rfl
    apply ext
    · rw [l8]; simp
    · rw [nm8]; simp
    · rw [L8]; simp
    · rw [e8, e]; cases (!(exprG t.names n a && exprG t.names n c)) <;> rfl
end
end Go.Proofs.YtocbddajakbemaaGreat
set_option linter.unusedSimpArgs false
namespace Go.Proofs.YtocbddajakbemaaGreat
section
open Go.RowKit
theorem exprTypes : (34 : TypeId) ≠ 87 ∧ (34 : TypeId) ≠ 105 ∧ (34 : TypeId) ≠ 9 := by decide
structure PB (W : World) (tb at_ pb qb : Nat) : Prop where
  p : W.heap[pb]? = some (.cells #[.pointer (some ⟨tb, 0, none⟩)] 84 (0, 0))
  q : W.heap[qb]? = some (.cells #[.int .i64 (at_ : Nat)] 3 (0, 0))
theorem PB.keep {W W' : World} {B tb at_ pb qb : Nat} {cv nv : Value} {t : TS} {G : List Nat} (h : PB W tb at_ pb qb) (k : TOk W B tb t cv nv) (f : Fr (tF tb cv nv) W G W') : PB W' tb at_ pb qb :=
  ⟨(f.block pb (lt_of_block h.p) (k.notIn h.p (by decide) (by decide) (by decide))).trans h.p, (f.block qb (lt_of_block h.q) (k.notIn h.q (by decide) (by decide) (by decide))).trans h.q⟩
theorem Patch.boxes {W : World} {tb at_ : Nat} {v : Value} (h : Patch W tb at_ v) : ∃ pb qb, v = .func (.func 117) #[] #[.pointer (some ⟨pb, 0, none⟩), .pointer (some ⟨qb, 0, none⟩)] ∧ PB W tb at_ pb qb := by
  obtain ⟨pb, qb, e, h1, h2⟩ := h
  exact ⟨pb, qb, e, h1, h2⟩
theorem tputA (B tb : Nat) (t : TS) (cv nv : Value) (op : Nat) (a : Int) (w : World) (h : TOk w B tb t cv nv) (hl : t.code.length ≤ 1000000) :
    Calls Tryz.prog 89 #[.pointer (some ⟨tb, 0, none⟩), .int .u8 (op : Nat), .int .i64 a] w fun r w' => r = .returned (.tuple #[]) ∧ TRes w B tb cv nv (t.app [(op, a)]) w' := tput_ok B tb t cv nv op a w h hl
theorem tlaterA (B tb : Nat) (t : TS) (cv nv : Value) (op : Nat) (w : World) (h : TOk w B tb t cv nv) (hl : t.code.length ≤ 100000) :
    Calls Tryz.prog 92 #[.pointer (some ⟨tb, 0, none⟩), .int .u8 (op : Nat)] w fun r w' => ∃ v, r = .returned v ∧ Patch w' tb t.code.length v ∧ TRes w B tb cv nv (t.app [(op, 0)]) w' := tlater_ok B tb t cv nv op w h hl
set_option maxRecDepth 100000 in
set_option maxHeartbeats 4000000 in
theorem tlazy_ok (w0 : World) (n : Nat) (IH : ExprT w0 n) (op : Nat) (num : Int) (nm : ByteArray) (a c : E0) (A : Option Addr) (ac jump : Nat) (v : Int) (hfa : fineB n a = true) (hfc : fineB n c = true) (hE : EsAt w0 (n + 1) A [a, c])
    (w : World) (tb : Nat) (t : TS) (cv nv : Value) (hb : Below w0.heap.size w0 w) (hk : TOk w w0.heap.size tb t cv nv) (hlen : t.code.length + (lazyC t.names n a c jump v t.code.length).length ≤ 100000) (hnl : t.names.length ≤ 100000) :
    Calls Tryz.prog 114 #[.pointer (some ⟨tb, 0, none⟩), .agg #[.int .u8 (op : Nat), .int .i64 num, .string nm, .slice A 2 ac], .int .u8 (jump : Nat), .int .i64 v] w
      fun r w' => r = .returned (.tuple #[]) ∧ TRes w w0.heap.size tb cv nv ((t.app (lazyC t.names n a c jump v t.code.length)).failIf (!(exprG t.names n a && exprG t.names n c)) 131) w' := by
  obtain ⟨b, o, A1, c1, rfl, ca, ea⟩ := hE.one (j := 0) (x := a) rfl
  obtain ⟨b', o', A2, c2, e', cc, ec⟩ := hE.one (j := 1) (x := c) rfl
  rw [Option.some.injEq, Addr.mk.injEq] at e'
  obtain ⟨rfl, rfl, -⟩ := e'
  obtain ⟨B, eB⟩ : ∃ B, B = w0.heap.size := ⟨_, rfl⟩
  obtain ⟨T8, eT8⟩ : ∃ T8, T8 = (t.app (lazyC t.names n a c jump v t.code.length)).failIf (!(exprG t.names n a && exprG t.names n c)) 131 := ⟨_, rfl⟩
  have S := lazy_steps t n a c jump v _ _ rfl rfl
  simp only at S
  rw [← eT8] at S
  obtain ⟨s1, s2, s3, s4, s5, s7, sj, sk, s8⟩ := S
  have hlz : (lazyC t.names n a c jump v t.code.length).length = (exprC t.names n a t.code.length).length + 1 + (exprC t.names n c (t.code.length + (exprC t.names n a t.code.length).length + 1)).length + 3 := by unfold lazyC; simp <;> omega
  rw [hlz] at hlen
  -- the functions called, one after the other
  have X1 : ∀ (W : World) (cv nv : Value), Below w0.heap.size w0 W → TOk W w0.heap.size tb t cv nv → _ := fun W cv nv h1 h2 => IH a A1 c1 hfa ca.lim ea W tb t cv nv h1 h2 (by omega) hnl
  have X2 := fun (W : World) (cv nv : Value) (h2 : TOk W w0.heap.size tb (t.addX n a) cv nv) => tlaterA w0.heap.size tb (t.addX n a) cv nv jump W h2 (by omega)
  have X3 := fun (W : World) (cv nv : Value) (h1 : Below w0.heap.size w0 W) (h2 : TOk W w0.heap.size tb ((t.addX n a).app [(jump, 0)]) cv nv) => IH c A2 c2 hfc cc.lim ec W tb ((t.addX n a).app [(jump, 0)]) cv nv h1 h2 (by
    have := s3
    rw [TS.code_addX, List.length_append] at this
    omega) (by simpa using hnl)
  have X4 := fun (W : World) (cv nv : Value) (h2 : TOk W w0.heap.size tb (((t.addX n a).app [(jump, 0)]).addX n c) cv nv) => tputA w0.heap.size tb _ cv nv 10 0 W h2 (by omega)
  have X5 := fun (W : World) (cv nv : Value) (h2 : TOk W w0.heap.size tb ((((t.addX n a).app [(jump, 0)]).addX n c).app [(10, 0)]) cv nv) => tlaterA w0.heap.size tb _ cv nv 11 W h2 (by omega)
  have X6 := fun (W : World) (cv nv : Value) (pb qb : Nat) (h2 : TOk W w0.heap.size tb (((((t.addX n a).app [(jump, 0)]).addX n c).app [(10, 0)]).app [(11, 0)]) cv nv) (hp : PB W tb (t.addX n a).code.length pb qb) => tpatch_ok w0.heap.size tb _ pb qb _ cv nv _ W h2 sj (by omega) hp.p hp.q
  obtain ⟨t6, et6⟩ : ∃ t6 : TS, t6 = { code := (((((t.addX n a).app [(jump, 0)]).addX n c).app [(10, 0)]).app [(11, 0)]).code.set (t.addX n a).code.length (jump, (((((((t.addX n a).app [(jump, 0)]).addX n c).app [(10, 0)]).app [(11, 0)]).code.length : Nat) : Int)), names := (((((t.addX n a).app [(jump, 0)]).addX n c).app [(10, 0)]).app [(11, 0)]).names, L := (((((t.addX n a).app [(jump, 0)]).addX n c).app [(10, 0)]).app [(11, 0)]).L, e := (((((t.addX n a).app [(jump, 0)]).addX n c).app [(10, 0)]).app [(11, 0)]).e } := ⟨_, rfl⟩
  simp only at X6
  rw [← et6] at X6 s7 sk s8
  have hl6 : t6.code.length ≤ 100000 := by
    have := s7
    rw [TS.code_app, List.length_append] at this
    omega
  have X7 := fun (W : World) (cv nv : Value) (h2 : TOk W w0.heap.size tb t6 cv nv) => tputA w0.heap.size tb t6 cv nv 1 v W h2 (by omega)
  have X8 := fun (W : World) (cv nv : Value) (pb qb : Nat) (h2 : TOk W w0.heap.size tb (t6.app [(1, v)]) cv nv) (hp : PB W tb ((((t.addX n a).app [(jump, 0)]).addX n c).app [(10, 0)]).code.length pb qb) => tpatch_ok w0.heap.size tb _ pb qb _ cv nv _ W h2 sk (by omega) hp.p hp.q
  simp only at X8
  rw [s8] at X8
  generalize hp1 : t.addX n a = t1 at *
  generalize hp2 : t1.app [(jump, 0)] = t2 at *
  generalize hp3 : t2.addX n c = t3 at *
  generalize hp4 : t3.app [(10, 0)] = t4 at *
  generalize hp5 : t4.app [(11, 0)] = t5 at *
  generalize hp7 : t6.app [(1, v)] = t7 at *
  rw [← eT8]
  obtain ⟨w1, e1⟩ : ∃ w1, w1 = w.alloc (.cells #[.int .u8 (op : Nat), .int .i64 num, .string nm, .slice (some ⟨b, o, none⟩) 2 ac] 34 (0, 0)) := ⟨_, rfl⟩
  obtain ⟨xb, exb⟩ : ∃ xb, xb = w.heap.size := ⟨_, rfl⟩
  have hBw : w0.heap.size ≤ w.heap.size := hb.size
  have I1 : XIn w0 w1 w0.heap.size tb xb cv nv #[.int .u8 (op : Nat), .int .i64 num, .string nm, .slice (some ⟨b, o, none⟩) 2 ac] 34 t cv nv w1 := by
    refine ⟨by rw [e1]; exact hk.alloc _, Fr.refl _ _, by rw [e1, exb]; exact heap_alloc_new w _, ?_⟩
    rw [e1]; exact hb.alloc hBw _
  have b1 : Fr (tF tb cv nv) w (tF tb cv nv) w1 := by rw [e1]; exact Fr.of_below ((Below.refl _ w).alloc (Nat.le_refl _) _) _
  rw [Nat.zero_mul, Nat.add_zero] at ca
  rw [Nat.one_mul] at cc
  have HX := Lib.hid (And.intro X1 (And.intro X2 (And.intro X3 (And.intro X4 (And.intro X5 (And.intro X6 (And.intro X7 X8)))))))
  have HC := Lib.hid (And.intro ca (And.intro cc b1))
  have HI := Lib.hid I1
  obtain ⟨-, -, -, x3⟩ := ebox I1.p
  obtain ⟨r0, r1, r2, r3, -, -⟩ := ca.below I1.b
  clear X1 X2 X3 X4 X5 X6 X7 X8 ca cc b1 I1 IH hE ea ec hp1 hp2 hp3 hp4 hp5 hp7 et6 s1 s2 s3 s4 s5 s7 s8 sj sk hl6 hlen hlz hnl hb hk eB eT8 hBw hfa hfc
  go_enter Tryz.func114, Tryz.ntmps114
  go_upto_region 1 with fail
  rw [← e1, ← exb]
  clear e1 exb
  go_upto_region 2 with (go_at_call 88; refine (HX.out.1 _ _ _ HI.out.b HI.out.k).mono ?_; rintro e w2 ⟨rfl, h2⟩; obtain ⟨cv2, nv2, I2, -⟩ := HI.out.step exprTypes HI.out.size h2; have H2 := Lib.hid I2; clear I2 h2)
  clear r0 r1 r2 r3 x3
  go_upto_region 3 with (go_at_call 92; refine (HX.out.2.1 _ _ _ H2.out.k).mono ?_; rintro e w3 ⟨v3, rfl, p3, h3⟩; obtain ⟨cv3, nv3, I3, -⟩ := H2.out.step exprTypes H2.out.size h3; obtain ⟨pb, qb, rfl, P3⟩ := p3.boxes; have H3 := Lib.hid (And.intro I3 P3); clear I3 h3 p3 P3)
  obtain ⟨-, -, -, x3⟩ := ebox H3.out.1.p
  obtain ⟨r0, r1, r2, r3, -, -⟩ := HC.out.2.1.below H3.out.1.b
  go_upto_region 4 with (go_at_call 88; refine (HX.out.2.2.1 _ _ _ H3.out.1.b H3.out.1.k).mono ?_; rintro e w4 ⟨rfl, h4⟩; obtain ⟨cv4, nv4, I4, f4⟩ := H3.out.1.step exprTypes H3.out.1.size h4; have H4 := Lib.hid (And.intro I4 (H3.out.2.keep H3.out.1.k f4)); clear I4 h4 f4)
  clear r0 r1 r2 r3 x3
  go_upto_region 5 with (go_at_call 89; refine (HX.out.2.2.2.1 _ _ _ H4.out.1.k).mono ?_; rintro e w5 ⟨rfl, h5⟩; obtain ⟨cv5, nv5, I5, f5⟩ := H4.out.1.step exprTypes H4.out.1.size h5; have H5 := Lib.hid (And.intro I5 (H4.out.2.keep H4.out.1.k f5)); clear I5 h5 f5)
  go_upto_region 6 with (go_at_call 92; refine (HX.out.2.2.2.2.1 _ _ _ H5.out.1.k).mono ?_; rintro e w6 ⟨v6, rfl, p6, h6⟩; obtain ⟨cv6, nv6, I6, f6⟩ := H5.out.1.step exprTypes H5.out.1.size h6; obtain ⟨pe, qe, rfl, P6⟩ := p6.boxes; have H6 := Lib.hid (And.intro I6 (And.intro (H5.out.2.keep H5.out.1.k f6) P6)); clear I6 h6 p6 P6 f6)
  go_upto_region 7 with (go_at_call 117; refine (HX.out.2.2.2.2.2.1 _ _ _ _ _ H6.out.1.k H6.out.2.1).mono ?_; rintro e w7 ⟨rfl, h7⟩; obtain ⟨cv7, nv7, I7, f7⟩ := H6.out.1.step exprTypes H6.out.1.size h7; have H7 := Lib.hid (And.intro I7 (H6.out.2.2.keep H6.out.1.k f7)); clear I7 h7 f7)
  go_upto_region 8 with (go_at_call 89; refine (HX.out.2.2.2.2.2.2.1 _ _ _ H7.out.1.k).mono ?_; rintro e w8 ⟨rfl, h8⟩; obtain ⟨cv8, nv8, I8, f8⟩ := H7.out.1.step exprTypes H7.out.1.size h8; have H8 := Lib.hid (And.intro I8 (H7.out.2.keep H7.out.1.k f8)); clear I8 h8 f8)
  go_wp2_with (go_at_call 117; refine (HX.out.2.2.2.2.2.2.2 _ _ _ _ _ H8.out.1.k H8.out.2).mono ?_; rintro e w9 ⟨rfl, h9⟩; have H9 := Lib.hid h9; clear h9)
  go_end0
  exact ⟨rfl, (H9.out.trans H8.out.1.f).trans HC.out.2.2⟩
end
end Go.Proofs.YtocbddajakbemaaGreat
