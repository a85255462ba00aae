/- vm, compile: what statements add to a translator. vm, compile: list. vm, compile: what each kind of statement makes of a translator. -/
import Derived.Test.YtocbddajakbemaaGreatNO
set_option linter.unusedVariables false
set_option linter.unusedSimpArgs false
set_option linter.unusedSimpArgs false
namespace Go.Proofs.YtocbddajakbemaaGreat
section
open Go.RowKit
def namesV : List S0 → List ByteArray → List ByteArray
  | [], ν => ν
  | s :: l, ν => namesV l (nextV s ν)
theorem namesV_snoc (l : List S0) (s : S0) : ∀ ν, namesV (l ++ [s]) ν = nextV s (namesV l ν) := by
  induction l with
  | nil => intro ν; rfl
  | cons x l ih => intro ν; exact ih _
theorem listC_snoc (f : S0 → List ByteArray → Nat → List (Nat × Int)) (l : List S0) (s : S0) : ∀ ν b, listC f (l ++ [s]) ν b = listC f l ν b ++ f s (namesV l ν) (b + (listC f l ν b).length) := by
  induction l with
  | nil => intro ν b; simp [listC, namesV]
  | cons x l ih => intro ν b; simp [listC, namesV, ih, Nat.add_assoc]
theorem listL_snoc (f : S0 → List ByteArray → Nat) (l : List S0) (s : S0) : ∀ ν, listL f (l ++ [s]) ν = max (listL f l ν) (f s (namesV l ν)) := by
  induction l with
  | nil => intro ν; simp [listL, namesV]
  | cons x l ih => intro ν; simp [listL, namesV, ih, Nat.max_assoc]
theorem listG_snoc (f : S0 → List ByteArray → Bool) (l : List S0) (s : S0) : ∀ ν, listG f (l ++ [s]) ν = (listG f l ν && f s (namesV l ν)) := by
  induction l with
  | nil => intro ν; simp [listG, namesV]
  | cons x l ih => intro ν; simp [listG, namesV, ih, Bool.and_assoc]
theorem namesV_take (l : List S0) : ∀ ν, ν.length ≤ (namesV l ν).length ∧ (namesV l ν).take ν.length = ν := by
  induction l with
  | nil => intro ν; exact ⟨Nat.le_refl _, List.take_length⟩
  | cons s l ih =>
    intro ν
    obtain ⟨h1, h2⟩ := ih (nextV s ν)
    have hn : ν.length ≤ (nextV s ν).length ∧ (nextV s ν).take ν.length = ν := by
      unfold nextV
      split
      · exact ⟨by simp, by simp⟩
      · exact ⟨Nat.le_refl _, List.take_length⟩
    refine ⟨Nat.le_trans hn.1 h1, ?_⟩
    have : (namesV l (nextV s ν)).take ν.length = ((namesV l (nextV s ν)).take (nextV s ν).length).take ν.length := by rw [List.take_take, Nat.min_eq_left hn.1]
    show (namesV l (nextV s ν)).take ν.length = ν
    rw [this, h2, hn.2]
theorem nextV_le (m : Nat) (s : S0) (ν : List ByteArray) (b : Nat) : (nextV s ν).length ≤ ν.length + (stmtC (m + 1) s ν b).length := by
  unfold nextV
  split
  · rename_i h
    rw [stmtC, if_pos h]
    simp <;> omega
  · omega
theorem listC_le (f : S0 → List ByteArray → Nat → List (Nat × Int)) {l : List S0} : ∀ {j : Nat} {s : S0}, l[j]? = some s → ∀ ν b, (listC f (l.take j) ν b).length + (f s (namesV (l.take j) ν) (b + (listC f (l.take j) ν b).length)).length ≤ (listC f l ν b).length := by
  induction l with
  | nil => intro j s h; simp at h
  | cons x l ih =>
    intro j s h ν b
    rcases j with _ | j
    · simp at h; subst h; simp [listC, namesV]
    · have := ih (by simpa using h) (nextV x ν) (b + (f x ν b).length)
      simp only [List.take_succ_cons, listC, namesV, List.length_append]
      simp only [Nat.add_assoc] at this ⊢
      omega
theorem namesV_le (m : Nat) (l : List S0) (hr : ∀ s, s ∈ l → rightS m s = true) : ∀ ν b, (namesV l ν).length ≤ ν.length + (listC (stmtC m) l ν b).length := by
  induction l with
  | nil => intro ν b; simp [namesV]
  | cons s l ih =>
    intro ν b
    obtain ⟨m', rfl, -⟩ := right_cases (hr s (List.mem_cons_self ..))
    have h1 := nextV_le m' s ν b
    have h2 := ih (fun t ht => hr t (List.mem_cons_of_mem _ ht)) (nextV s ν) (b + (stmtC (m' + 1) s ν b).length)
    simp only [namesV, listC, List.length_append]
    omega
theorem listL_le (m : Nat) (l : List S0) (hr : ∀ s, s ∈ l → rightS m s = true) (hs : ∀ s, s ∈ l → ∀ ν b, stmtL m s ν ≤ ν.length + (stmtC m s ν b).length) : ∀ ν b, listL (stmtL m) l ν ≤ ν.length + (listC (stmtC m) l ν b).length := by
  induction l with
  | nil => intro ν b; simp [listL]
  | cons s l ih =>
    intro ν b
    obtain ⟨m', rfl, -⟩ := right_cases (hr s (List.mem_cons_self ..))
    have h1 := nextV_le m' s ν b
    have h2 := ih (fun t ht => hr t (List.mem_cons_of_mem _ ht)) (fun t ht => hs t (List.mem_cons_of_mem _ ht)) (nextV s ν) (b + (stmtC (m' + 1) s ν b).length)
    have h3 := hs s (List.mem_cons_self ..) ν b
    simp only [listL, listC, List.length_append]
    omega
theorem stmtL_le : ∀ (m : Nat) (s : S0), rightS m s = true → ∀ ν b, stmtL m s ν ≤ ν.length + (stmtC m s ν b).length := by
  intro m
  induction m with
  | zero => intro s h; simp [rightS] at h
  | succ m ih =>
    intro s hr ν b
    obtain ⟨m', hm, hfe, hrb, hrl, ho1, ho7, hw, h3, hels, hbod⟩ := right_cases hr
    obtain rfl : m = m' := by omega
    rw [stmtL]
    by_cases k1 : s.op = 1
    · rw [if_pos k1, stmtC, if_pos k1]; simp <;> omega
    rw [if_neg k1]
    by_cases k45 : s.op = 4 ∨ s.op = 5
    · rw [if_pos k45, stmtC, if_neg k1, if_neg (by omega), if_neg (by omega)]
      have hB := fun b => listL_le m s.b hrb (fun t ht ν b => ih t (hrb t ht) ν b) ν b
      have hE := fun b => listL_le m s.els hrl (fun t ht ν b => ih t (hrl t ht) ν b) ν b
      by_cases k4 : s.op = 4
      · rw [if_pos k4]
        by_cases ke : s.els = []
        · rw [if_pos ke]
          have := hB (b + (rowC (exprC ν 40) s.e b).length + 1)
          rw [ke]
          simp only [List.length_append, List.length_cons, listL]
          omega
        · rw [if_neg ke]
          have h1 := hB (b + (rowC (exprC ν 40) s.e b).length + 1)
          have h2 := hE (b + (rowC (exprC ν 40) s.e b).length + 1 + (listC (stmtC m) s.b ν (b + (rowC (exprC ν 40) s.e b).length + 1)).length + 1)
          simp only [List.length_append, List.length_cons]
          omega
      · rw [if_neg k4, if_pos (by omega)]
        have h1 := hB (b + (rowC (exprC ν 40) s.e b).length + 1)
        rw [hels (by omega)]
        simp only [List.length_append, List.length_cons, listL]
        omega
    · rw [if_neg k45]; omega
structure After (m : Nat) (s : S0) (t t' : TS) : Prop where
  code : t'.code = t.code ++ stmtC m s t.names t.code.length
  names : t'.names = nextV s t.names
  L : t'.L = max t.L (stmtL m s t.names)
  e : t'.e = 0 ↔ (t.e = 0 ∧ stmtG m s t.names = true)
structure AfterR (m : Nat) (l : List S0) (ν : List ByteArray) (t t' : TS) : Prop where
  code : t'.code = t.code ++ listC (stmtC m) l t.names t.code.length
  names : t'.names = ν
  L : t'.L = max t.L (listL (stmtL m) l t.names)
  e : t'.e = 0 ↔ (t.e = 0 ∧ listG (stmtG m) l t.names = true)
theorem AfterR.nil (m : Nat) (t : TS) : AfterR m [] t.names t t := ⟨by simp [listC], rfl, by simp [listL], by simp [listG]⟩
theorem AfterR.snoc {m : Nat} {l : List S0} {t t1 t2 : TS} {s : S0} (h : AfterR m l (namesV l t.names) t t1) (k : After m s t1 t2) : AfterR m (l ++ [s]) (namesV (l ++ [s]) t.names) t t2 := by
  refine ⟨?_, ?_, ?_, ?_⟩
  · rw [k.code, h.code, h.names, listC_snoc, List.length_append, List.append_assoc]
  · rw [k.names, h.names, namesV_snoc]
  · rw [k.L, h.L, h.names, listL_snoc, Nat.max_assoc]
  · rw [k.e, h.e, h.names, listG_snoc, Bool.and_eq_true, and_assoc]
def Bd (t : TS) (n : Nat) : Prop := t.names.length + t.code.length + 2 * n ≤ 100000 ∧ t.L ≤ 200000
def StmtT (w0 : World) (m : Nat) : Prop := ∀ (s : S0) (EA : Option Addr) (ec : Nat) (BA : Option Addr) (bc : Nat) (LA : Option Addr) (lc : Nat), rightS m s = true → SLim s → SArgs w0 m s EA BA LA → ∀ (w : World) (tb : Nat) (t : TS) (cv nv : Value), Below w0.heap.size w0 w → TOk w w0.heap.size tb t cv nv → Bd t (stmtC m s t.names t.code.length).length →
  Calls Tryz.prog 52 #[.pointer (some ⟨tb, 0, none⟩), s.agg EA ec BA bc LA lc] w fun r w' => r = .returned (.tuple #[]) ∧ ∃ t', After m s t t' ∧ TRes w w0.heap.size tb cv nv t' w'
def ListT (w0 : World) (m : Nat) : Prop := ∀ (l : List S0) (A : Option Addr) (c : Nat), (∀ s, s ∈ l → rightS m s = true) → l.length ≤ 1000000 → SsAt w0 (m + 1) A l → ∀ (w : World) (tb : Nat) (t : TS) (cv nv : Value), Below w0.heap.size w0 w → TOk w w0.heap.size tb t cv nv → Bd t (listC (stmtC m) l t.names t.code.length).length →
  Calls Tryz.prog 32 #[.pointer (some ⟨tb, 0, none⟩), .slice A l.length c] w fun r w' => r = .returned (.tuple #[]) ∧ ∃ t', AfterR m l t.names t t' ∧ TRes w w0.heap.size tb cv nv t' w'
theorem own_take {w : World} {B e s n m cap : Nat} {A : Option Addr} {xs : List Value} (h : w.ownsRow B e s (.slice A n cap) n xs) (hm : m ≤ n) : w.ownsRow B e s (.slice A m cap) m (xs.take (m * s)) := by
  have h1 := h.1
  refine ⟨by rw [List.length_take, h1, Nat.min_eq_left (Nat.mul_le_mul_right s hm)], ?_⟩
  rcases h.2 with ⟨h0, hn⟩ | ⟨g, cap', cur, e, hB, hh, a1, a2, a3, a4⟩
  · rw [Value.slice.injEq] at h0
    obtain ⟨rfl, hn0, rfl⟩ := h0
    obtain rfl : m = 0 := by omega
    exact Or.inl ⟨rfl, rfl⟩
  · rw [Value.slice.injEq] at e
    obtain ⟨rfl, -, rfl⟩ := e
    refine Or.inr ⟨g, cap, cur, rfl, hB, hh, by omega, a2, a3, ?_⟩
    rw [← a4, List.take_take, Nat.min_eq_left (Nat.mul_le_mul_right s hm)]
theorem strC_take (l : List ByteArray) (m : Nat) : (strC l).take (m * 1) = strC (l.take m) := by unfold strC; rw [Nat.mul_one, List.map_take]
theorem TOk.cut {w : World} {B tb n m cap : Nat} {t : TS} {cv : Value} {A : Option Addr} (h : TOk w B tb t cv (.slice A n cap)) (hn : n = t.names.length) (hm : m ≤ n) :
    TOk (w.setCell ⟨tb, 4, none⟩ (.slice A m cap)) B tb { t with names := t.names.take m } cv (.slice A m cap) ∧ Fr (tF tb cv (.slice A n cap)) w (tF tb cv (.slice A m cap)) (w.setCell ⟨tb, 4, none⟩ (.slice A m cap)) := by
  have ho : Only tb w (w.setCell ⟨tb, 4, none⟩ (.slice A m cap)) := (Only.refl tb w).setCell (p := ⟨tb, 4, none⟩) rfl _
  have hN := h.nam
  rw [← hn] at hN
  have hN := own_take hN hm
  rw [strC_take] at hN
  refine ⟨⟨block_setCell h.blk 4 _, own_only h.code ho (own_neq h.code h.blk (by decide)), own_only (by simpa [Nat.min_eq_left, ← hn, hm] using hN) ho (own_neq hN h.blk (by decide)), h.base⟩, ?_⟩
  have := (Fr.of_only ho).more (cv.ownBlock.toList ++ (Value.slice A n cap).ownBlock.toList)
  have e : (Value.slice A n cap).ownBlock = (Value.slice A m cap).ownBlock := by cases A <;> rfl
  have e2 : tF tb cv (.slice A m cap) = tF tb cv (.slice A n cap) := by unfold tF; rw [e]
  rw [e2]
  exact this
end
end Go.Proofs.YtocbddajakbemaaGreat
set_option linter.unusedSimpArgs false
namespace Go.Proofs.YtocbddajakbemaaGreat
section
open Go.RowKit
theorem stmtTypes : (39 : TypeId) ≠ 87 ∧ (39 : TypeId) ≠ 105 ∧ (39 : TypeId) ≠ 9 := by decide
theorem sbox {W : World} {xb : Nat} {a0 a1 a2 a3 a4 a5 : Value} {T : TypeId} (h : W.heap[xb]? = some (.cells #[a0, a1, a2, a3, a4, a5] T (0, 0))) :
    W.cell? ⟨xb, 0, none⟩ = some a0 ∧ W.cell? ⟨xb, 1, none⟩ = some a1 ∧ W.cell? ⟨xb, 2, none⟩ = some a2 ∧ W.cell? ⟨xb, 3, none⟩ = some a3 ∧ W.cell? ⟨xb, 4, none⟩ = some a4 ∧ W.cell? ⟨xb, 5, none⟩ = some a5 :=
  ⟨(cell_of_block h 0).trans rfl, (cell_of_block h 1).trans rfl, (cell_of_block h 2).trans rfl, (cell_of_block h 3).trans rfl, (cell_of_block h 4).trans rfl, (cell_of_block h 5).trans rfl⟩
structure LIn (w0 w : World) (B tb : Nat) (cv0 nv0 : Value) (t : TS) (cv nv : Value) (W : World) : Prop where
  k : TOk W B tb t cv nv
  f : Fr (tF tb cv0 nv0) w (tF tb cv nv) W
  b : Below B w0 W
theorem LIn.size {w0 w : World} {B tb : Nat} {cv0 nv0 : Value} {t : TS} {cv nv : Value} {W : World} (h : LIn w0 w B tb cv0 nv0 t cv nv W) : B ≤ W.heap.size := Nat.le_of_lt (Nat.lt_of_le_of_lt h.k.base (lt_of_block h.k.blk))
theorem LIn.more {w0 w : World} {B tb : Nat} {cv0 nv0 : Value} {t : TS} {cv nv : Value} {W : World} (h : LIn w0 w B tb cv0 nv0 t cv nv W) (o : Obj) : LIn w0 w B tb cv0 nv0 t cv nv (W.alloc o) :=
  ⟨h.k.alloc o, ⟨h.f.os, h.f.tape, h.f.output, by have := h.f.size; simp; omega, fun q hq hn => (Below.heap_alloc W o q (Nat.lt_of_lt_of_le hq h.f.size)).trans (h.f.block q hq hn), h.f.own⟩, h.b.alloc h.size o⟩
theorem LIn.step {w0 w : World} {B tb : Nat} {cv0 nv0 : Value} {t t' : TS} {cv nv : Value} {W W' : World} (h : LIn w0 w B tb cv0 nv0 t cv nv W) (r : TRes W B tb cv nv t' W') : ∃ cv' nv', LIn w0 w B tb cv0 nv0 t' cv' nv' W' := by
  obtain ⟨cv', nv', k', f'⟩ := r
  exact ⟨cv', nv', k', h.f.trans f', h.b.trans (f'.below h.size h.k.above)⟩
set_option maxRecDepth 100000 in
set_option maxHeartbeats 4000000 in
theorem tlist_ok (w0 : World) (m : Nat) (IH : StmtT w0 m) : ListT w0 m := by
  intro l A c hr hl hS w tb t cv nv hb hk hBd
  obtain ⟨n, en⟩ : ∃ n, n = l.length := ⟨_, rfl⟩
  rw [← en]
  obtain ⟨Ac, cc, A0, c0, ecv, env⟩ := hk.shape
  obtain ⟨v, ev⟩ : ∃ v, v = t.names.length := ⟨_, rfl⟩
  rw [← ev] at env
  subst env
  obtain ⟨-, -, -, -, f4, -⟩ := hk.facts
  have I0 : LIn w0 w w0.heap.size tb cv (.slice A0 v c0) t cv (.slice A0 v c0) w := ⟨hk, Fr.refl _ _, hb⟩
  have H := Lib.hid (And.intro I0 (And.intro en (And.intro hr (And.intro hl (And.intro hS (And.intro hBd (And.intro ev IH)))))))
  clear I0 en hr hl hS hBd ev IH hb hk ecv
  go_enter Tryz.func32, Tryz.ntmps32
  go_wp2_with fail
  go_loopg [14] n (fun gh iv wr => ∃ (j : Nat) (tj : TS) (cvj nvj : Value), gh + j = n ∧ iv = .int .i64 (j : Nat) ∧ AfterR m (l.take j) (namesV (l.take j) t.names) t tj ∧ LIn w0 w w0.heap.size tb cv (.slice A0 v c0) tj cvj nvj wr)
  case atStart => exact ⟨0, t, cv, _, rfl, rfl, AfterR.nil m t, H.out.1⟩
  case round =>
  obtain ⟨j, tj, cvj, nvj, hg, rfl, hA, hI⟩ := hrel
  obtain ⟨W, eW⟩ : ∃ W, W = wr := ⟨_, rfl⟩
  rw [← eW] at hI ⊢
  clear eW f4
  obtain ⟨-, en, hr, hl, hS, hBd, ev, IH⟩ := H.out
  by_cases hlt : j < n
  · obtain ⟨s, hs⟩ : ∃ s, l[j]? = some s := ⟨_, List.getElem?_eq_getElem (by omega)⟩
    obtain ⟨b, o, EA, ec, BA, bc, LA, lc, rfl, hc, he, hd1, hd2⟩ := hS j s hs
    obtain ⟨r0, r1, r2, r3, r4, r5, -⟩ := hc.below hI.b
    obtain ⟨W2, e2⟩ : ∃ W2, W2 = W.alloc (.cells #[.int .u8 (s.op : Nat), .int .i64 s.n, .string s.nm, .slice EA s.e.length ec, .slice BA s.b.length bc, .slice LA s.els.length lc] 39 (0, 0)) := ⟨_, rfl⟩
    obtain ⟨yb, eyb⟩ : ∃ yb, yb = W.heap.size := ⟨_, rfl⟩
    have hI2 : LIn w0 w w0.heap.size tb cv (.slice A0 v c0) tj cvj nvj W2 := by rw [e2]; exact hI.more _
    have py : W2.heap[yb]? = some (.cells #[.int .u8 (s.op : Nat), .int .i64 s.n, .string s.nm, .slice EA s.e.length ec, .slice BA s.b.length bc, .slice LA s.els.length lc] 39 (0, 0)) := by rw [e2, eyb]; exact heap_alloc_new W _
    have hle := listC_le (stmtC m) hs t.names t.code.length
    have hrs := hr s (List.mem_of_getElem? hs)
    have hcl : tj.code.length = t.code.length + (listC (stmtC m) (l.take j) t.names t.code.length).length := by rw [hA.code, List.length_append]
    have hrt : ∀ u, u ∈ l.take j → rightS m u = true := fun u hu => hr u (List.mem_of_mem_take hu)
    have hnv := namesV_le m (l.take j) hrt t.names t.code.length
    have hLl := listL_le m (l.take j) hrt (fun u hu ν b => stmtL_le m u (hrt u hu) ν b) t.names t.code.length
    have hbd : Bd tj (stmtC m s tj.names tj.code.length).length := by
      obtain ⟨q1, q2⟩ := hBd
      refine ⟨?_, ?_⟩
      · rw [hA.names, hcl]
        omega
      · rw [hA.L]; omega
    have F := IH s EA ec BA bc LA lc hrs hc.lim ⟨he, hd1, hd2⟩ W2 tb tj cvj nvj hI2.b hI2.k hbd
    obtain ⟨y0, y1, y2, y3, y4, y5⟩ := sbox py
    have i0 : (0 : Int) ≤ (j : Int) := by omega
    have i1 : (j : Int) < (n : Int) := by omega
    have i2 : decide (j < n) = true := decide_eq_true hlt
    have w2 : wrap64 ((j : Int) + 1) = (j : Int) + 1 := by unfold wrap64; omega
    have F : Calls Tryz.prog 52 #[.pointer (some ⟨tb, 0, none⟩), .agg #[.int .u8 (s.op : Nat), .int .i64 s.n, .string s.nm, .slice EA s.e.length ec, .slice BA s.b.length bc, .slice LA s.els.length lc]] W2 fun r w' => r = .returned (.tuple #[]) ∧ ∃ t', After m s tj t' ∧ TRes W2 w0.heap.size tb cvj nvj t' w' := F
    have HJ := Lib.hid (And.intro hI2 (And.intro hg (And.intro hlt (And.intro hs hA))))
    clear hs hc he hd1 hd2 hI hI2 py hle hg hlt en hr hl hS hBd ev IH hrs hcl hrt hnv hLl hbd hA
    go_upto_region 4 with fail
    rw [← e2, ← eyb]
    clear e2 eyb r0 r1 r2 r3 r4 r5
    go_wp2_with (go_at_call 52; refine F.mono ?_; rintro e W3 ⟨rfl, t3, a3, h3⟩; obtain ⟨cv3, nv3, I3⟩ := HJ.out.1.step h3; have H3 := Lib.hid (And.intro I3 a3); clear I3 h3 a3)
    go_roundg (n - (j + 1))
    case measure => have := HJ.out.2.1; have := HJ.out.2.2.1; omega
    case rel =>
      refine ⟨j + 1, t3, cv3, nv3, by have := HJ.out.2.2.1; omega, by go_num, ?_, H3.out.1⟩
      rw [take_snoc HJ.out.2.2.2.1]
      exact HJ.out.2.2.2.2.snoc H3.out.2
  · have i2 : decide (j < n) = false := decide_eq_false hlt
    have ht : l.take j = l := List.take_of_length_le (by omega)
    rw [ht] at hA
    obtain ⟨Ac2, cc2, A2, c2, ecv2, rfl⟩ := hI.k.shape
    obtain ⟨n2, en2⟩ : ∃ n2, n2 = tj.names.length := ⟨_, rfl⟩
    rw [← en2] at hI
    obtain ⟨hv1, hv2⟩ := namesV_take l t.names
    rw [← hA.names, ← en2, ← ev] at hv1
    have hk := hI.k.cut en2 hv1
    obtain ⟨-, -, -, -, f4, -⟩ := hI.k.facts
    obtain ⟨-, -, -, -, z4, -⟩ := hI.k.free
    have hcap : n2 ≤ c2 := by
      rcases hI.k.nam.2 with ⟨h1, h2⟩ | ⟨g', cap, cur, h1, -, -, h2, -⟩
      · omega
      · rw [Value.slice.injEq] at h1
        omega
    have i0 : (0 : Int) ≤ (v : Int) := by omega
    have i1 : (v : Int) ≤ (c2 : Int) := by omega
    have i3 : (v : Int) ≤ (n2 : Int) := by omega
    have hA2 : AfterR m l t.names t { tj with names := tj.names.take v } := by
      refine ⟨hA.code, ?_, hA.L, hA.e⟩
      show tj.names.take v = t.names
      rw [hA.names, ev, hv2]
    have HJ := Lib.hid (And.intro hk (And.intro hI hA2))
    clear hk hI hA hA2 hg hlt en hr hl hS hBd ev IH ht hv1 hv2 hcap en2 ecv2
    go_wp2_with fail
    go_end0
    obtain ⟨⟨k1, f1⟩, hI, hA2⟩ := HJ.out
    exact ⟨rfl, _, hA2, cvj, _, k1, hI.f.trans f1⟩
end
end Go.Proofs.YtocbddajakbemaaGreat
set_option linter.unusedSimpArgs false
namespace Go.Proofs.YtocbddajakbemaaGreat
section
open Go.RowKit
theorem TS.failIf_e (t : TS) (b : Bool) {e : Int} (he : e ≠ 0) : (t.failIf b e).e = 0 ↔ (t.e = 0 ∧ b = false) := by
  cases b
  · simp [TS.failIf]
  · simp only [TS.failIf, TS.fail, if_true]
    constructor
    · intro h
      split at h
      · exact absurd h he
      · rename_i h2; exact absurd h h2
    · rintro ⟨-, h⟩; cases h
theorem TS.addRow_e (t : TS) (n : Nat) (l : List E0) : (t.addRow n l).e = 0 ↔ (t.e = 0 ∧ l.all (exprG t.names n) = true) := by
  unfold TS.addRow
  rw [TS.failIf_e _ _ (by decide)]
  constructor
  · rintro ⟨h1, h2⟩; exact ⟨h1, by simpa using h2⟩
  · rintro ⟨h1, h2⟩; exact ⟨h1, by simpa using h2⟩
@[simp] theorem TS.e_app (t : TS) (c : List (Nat × Int)) : (t.app c).e = t.e := rfl
theorem after_end {m op : Nat} {s : S0} {t : TS} {a : Int} (hk : (s.op = 3 ∧ op = 5 ∧ a = s.n) ∨ (s.op = 6 ∧ op = 14 ∧ a = 0) ∨ (s.op = 7 ∧ op = 15 ∧ a = 0)) : After (m + 1) s t ((t.addRow 40 s.e).app [(op, a)]) := by
  refine ⟨?_, ?_, ?_, ?_⟩
  · rw [TS.code_app, TS.code_addRow, stmtC, if_neg (by omega), if_neg (by omega), List.append_assoc]
    rcases hk with ⟨h1, rfl, rfl⟩ | ⟨h1, rfl, rfl⟩ | ⟨h1, rfl, rfl⟩
    · rw [if_pos h1]
    · rw [if_neg (by omega), if_neg (by omega), if_neg (by omega), if_pos h1]
    · rw [if_neg (by omega), if_neg (by omega), if_neg (by omega), if_neg (by omega), if_pos h1]
  · rw [TS.names_app, TS.names_addRow, nextV, if_neg (by omega)]
  · rw [TS.L_app, TS.L_addRow, stmtL, if_neg (by omega), if_neg (by omega), Nat.max_zero]
  · rw [TS.e_app, TS.addRow_e, stmtG, if_neg (by omega), if_neg (by omega), if_neg (by omega), Bool.and_true]
theorem after_let {m : Nat} {s : S0} {t : TS} (hk : s.op = 1) : After (m + 1) s t (((((t.addRow 40 s.e).failIf (hasM (t.addRow 40 s.e).names s.nm) 132).failIf (decide (32 ≤ (t.addRow 40 s.e).names.length)) 5).push s.nm).app [(3, (((t.addRow 40 s.e).names.length : Nat) : Int))]) := by
  refine ⟨?_, ?_, ?_, ?_⟩
  · rw [TS.code_app]
    show (((t.addRow 40 s.e).failIf _ 132).failIf _ 5).code ++ _ = _
    rw [TS.code_failIf, TS.code_failIf, TS.code_addRow, TS.names_addRow, stmtC, if_pos hk, List.append_assoc]
  · rw [TS.names_app, nextV, if_pos hk]
    show (((t.addRow 40 s.e).failIf _ 132).failIf _ 5).names ++ [s.nm] = _
    rw [TS.names_failIf, TS.names_failIf, TS.names_addRow]
  · rw [TS.L_app, stmtL, if_pos hk]
    show max (((t.addRow 40 s.e).failIf _ 132).failIf _ 5).L ((((t.addRow 40 s.e).failIf _ 132).failIf _ 5).names.length + 1) = _
    rw [TS.L_failIf, TS.L_failIf, TS.L_addRow, TS.names_failIf, TS.names_failIf, TS.names_addRow]
  · rw [TS.e_app]
    show (((t.addRow 40 s.e).failIf _ 132).failIf _ 5).e = 0 ↔ _
    rw [TS.failIf_e _ _ (by decide), TS.failIf_e _ _ (by decide), TS.addRow_e, TS.names_addRow, stmtG, if_pos hk, Bool.and_eq_true, Bool.and_eq_true]
    constructor
    · rintro ⟨⟨⟨h1, h2⟩, h3⟩, h4⟩
      exact ⟨h1, h2, by rw [h3]; rfl, decide_eq_true (by have := of_decide_eq_false h4; omega)⟩
    · rintro ⟨h1, h2, h3, h4⟩
      exact ⟨⟨⟨h1, h2⟩, by simpa using h3⟩, decide_eq_false (by have := of_decide_eq_true h4; omega)⟩
theorem after_set {m : Nat} {s : S0} {t : TS} (hk : s.op = 2) : After (m + 1) s t (((t.addRow 40 s.e).failIf (decide (idxM (t.addRow 40 s.e).names s.nm < 0)) 131).app [(3, idxM (t.addRow 40 s.e).names s.nm)]) := by
  refine ⟨?_, ?_, ?_, ?_⟩
  · rw [TS.code_app, TS.code_failIf, TS.code_addRow, TS.names_addRow, stmtC, if_neg (by omega), if_pos hk, List.append_assoc]
  · rw [TS.names_app, TS.names_failIf, TS.names_addRow, nextV, if_neg (by omega)]
  · rw [TS.L_app, TS.L_failIf, TS.L_addRow, stmtL, if_neg (by omega), if_neg (by omega), Nat.max_zero]
  · rw [TS.e_app, TS.failIf_e _ _ (by decide), TS.addRow_e, TS.names_addRow, stmtG, if_neg (by omega), if_pos hk, Bool.and_eq_true]
    constructor
    · rintro ⟨⟨h1, h2⟩, h3⟩
      exact ⟨h1, h2, decide_eq_true (by have := of_decide_eq_false h3; omega)⟩
    · rintro ⟨h1, h2, h3⟩
      exact ⟨⟨h1, h2⟩, decide_eq_false (by have := of_decide_eq_true h3; omega)⟩
theorem row_then (t : TS) (l : List E0) (x : Nat × Int) : ((t.addRow 40 l).app [x]).code = t.code ++ rowC (exprC t.names 40) l t.code.length ++ [x] ∧ ((t.addRow 40 l).app [x]).code.length = t.code.length + (rowC (exprC t.names 40) l t.code.length).length + 1 ∧ ((t.addRow 40 l).app [x]).names = t.names ∧ ((t.addRow 40 l).app [x]).L = t.L ∧ (((t.addRow 40 l).app [x]).e = 0 ↔ (t.e = 0 ∧ l.all (exprG t.names 40) = true)) ∧ (t.addRow 40 l).code.length = t.code.length + (rowC (exprC t.names 40) l t.code.length).length := by
  refine ⟨by rw [TS.code_app, TS.code_addRow], ?_, by simp, by simp, by rw [TS.e_app]; exact TS.addRow_e t 40 l, by simp⟩
  rw [TS.code_app, TS.code_addRow]
  simp <;> omega
theorem set_mid (a b : List (Nat × Int)) (x y : Nat × Int) (n : Nat) (hn : n = a.length) : (a ++ [x] ++ b).set n y = a ++ y :: b := by
  rw [hn, List.append_assoc, List.singleton_append, set_back]
theorem get_mid (a b : List (Nat × Int)) (x : Nat × Int) (n : Nat) (hn : n = a.length) : (a ++ [x] ++ b)[n]? = some x := by
  rw [hn, List.append_assoc, List.singleton_append, get_back]
theorem after_if0 {m : Nat} {s : S0} {t t2 : TS} (hk : s.op = 4) (he : s.els = []) (h : AfterR m s.b ((t.addRow 40 s.e).app [(12, 0)]).names ((t.addRow 40 s.e).app [(12, 0)]) t2) :
    t2.code[(t.addRow 40 s.e).code.length]? = some (12, 0) ∧ After (m + 1) s t { t2 with code := t2.code.set (t.addRow 40 s.e).code.length (12, ((t2.code.length : Nat) : Int)) } ∧ t2.code.length = t.code.length + (stmtC (m + 1) s t.names t.code.length).length := by
  obtain ⟨c1, c2, c3, c4, c5, c6⟩ := row_then t s.e (12, 0)
  generalize (t.addRow 40 s.e).app [(12, 0)] = t1 at *
  obtain ⟨ce, ece⟩ : ∃ ce, ce = rowC (exprC t.names 40) s.e t.code.length := ⟨_, rfl⟩
  rw [← ece] at c1 c2 c6
  have hc := h.code
  rw [c1, c3] at hc
  have hlx : (t.code ++ ce ++ [((12 : Nat), (0 : Int))]).length = t.code.length + ce.length + 1 := by simp <;> omega
  rw [hlx] at hc
  have hS : stmtC (m + 1) s t.names t.code.length = ce ++ ((12, ((t.code.length + ce.length + 1 + (listC (stmtC m) s.b t.names (t.code.length + ce.length + 1)).length : Nat) : Int)) :: listC (stmtC m) s.b t.names (t.code.length + ce.length + 1)) := by
    rw [stmtC, if_neg (by omega), if_neg (by omega), if_neg (by omega), if_pos hk, if_pos he, ← ece]
  obtain ⟨cb, ecb⟩ : ∃ cb, cb = listC (stmtC m) s.b t.names (t.code.length + ce.length + 1) := ⟨_, rfl⟩
  rw [← ecb] at hc hS
  have hl : t2.code.length = t.code.length + ce.length + 1 + cb.length := by rw [hc]; simp <;> omega
  refine ⟨by rw [hc]; exact get_mid _ _ _ _ (by rw [c6]; simp), ⟨?_, ?_, ?_, ?_⟩, by rw [hl, hS]; simp <;> omega⟩
  · show t2.code.set _ _ = _
    rw [hl, hc, set_mid _ _ _ _ _ (by rw [c6]; simp), hS]
    simp
  · show t2.names = _
    rw [h.names, c3, nextV, if_neg (by omega)]
  · show t2.L = _
    rw [h.L, c3, c4, stmtL, if_neg (by omega), if_pos (Or.inl hk), he]
    simp [listL]
  · show t2.e = 0 ↔ _
    rw [h.e, c5, c3, stmtG, if_neg (by omega), if_neg (by omega), if_pos (Or.inl hk), he, Bool.and_eq_true, Bool.and_eq_true]
    simp [listG, and_assoc]
theorem after_while {m : Nat} {s : S0} {t t2 : TS} (hk : s.op = 5) (he : s.els = []) (h : AfterR m s.b ((t.addRow 40 s.e).app [(12, 0)]).names ((t.addRow 40 s.e).app [(12, 0)]) t2) :
    (t2.app [(11, ((t.code.length : Nat) : Int))]).code[(t.addRow 40 s.e).code.length]? = some (12, 0) ∧ After (m + 1) s t { t2.app [(11, ((t.code.length : Nat) : Int))] with code := (t2.app [(11, ((t.code.length : Nat) : Int))]).code.set (t.addRow 40 s.e).code.length (12, (((t2.app [(11, ((t.code.length : Nat) : Int))]).code.length : Nat) : Int)) } ∧ t2.code.length + 1 = t.code.length + (stmtC (m + 1) s t.names t.code.length).length := by
  obtain ⟨c1, c2, c3, c4, c5, c6⟩ := row_then t s.e (12, 0)
  generalize (t.addRow 40 s.e).app [(12, 0)] = t1 at *
  obtain ⟨ce, ece⟩ : ∃ ce, ce = rowC (exprC t.names 40) s.e t.code.length := ⟨_, rfl⟩
  rw [← ece] at c1 c2 c6
  have hc := h.code
  rw [c1, c3] at hc
  have hlx : (t.code ++ ce ++ [((12 : Nat), (0 : Int))]).length = t.code.length + ce.length + 1 := by simp <;> omega
  rw [hlx] at hc
  have hS : stmtC (m + 1) s t.names t.code.length = ce ++ ((12, ((t.code.length + ce.length + 1 + (listC (stmtC m) s.b t.names (t.code.length + ce.length + 1)).length + 1 : Nat) : Int)) :: (listC (stmtC m) s.b t.names (t.code.length + ce.length + 1) ++ [(11, ((t.code.length : Nat) : Int))])) := by
    rw [stmtC, if_neg (by omega), if_neg (by omega), if_neg (by omega), if_neg (by omega), if_pos hk, ← ece]
  obtain ⟨cb, ecb⟩ : ∃ cb, cb = listC (stmtC m) s.b t.names (t.code.length + ce.length + 1) := ⟨_, rfl⟩
  rw [← ecb] at hc hS
  have hc3 : (t2.app [(11, ((t.code.length : Nat) : Int))]).code = t.code ++ ce ++ [(12, 0)] ++ (cb ++ [(11, ((t.code.length : Nat) : Int))]) := by rw [TS.code_app, hc]; simp
  have hl : t2.code.length = t.code.length + ce.length + 1 + cb.length := by rw [hc]; simp <;> omega
  have hl3 : (t2.app [(11, ((t.code.length : Nat) : Int))]).code.length = t.code.length + ce.length + 1 + cb.length + 1 := by rw [TS.code_app, List.length_append, hl]; rfl
  refine ⟨by rw [hc3]; exact get_mid _ _ _ _ (by rw [c6]; simp), ⟨?_, ?_, ?_, ?_⟩, by rw [hl, hS]; simp <;> omega⟩
  · show (t2.app [(11, ((t.code.length : Nat) : Int))]).code.set _ _ = _
    rw [hl3, hc3, set_mid _ _ _ _ _ (by rw [c6]; simp), hS]
    simp
  · show t2.names = _
    rw [h.names, c3, nextV, if_neg (by omega)]
  · show t2.L = _
    rw [h.L, c3, c4, stmtL, if_neg (by omega), if_pos (Or.inr hk), he]
    simp [listL]
  · show t2.e = 0 ↔ _
    rw [h.e, c5, c3, stmtG, if_neg (by omega), if_neg (by omega), if_pos (Or.inr hk), he, Bool.and_eq_true, Bool.and_eq_true]
    simp [listG, and_assoc]
theorem after_if1 {m : Nat} {s : S0} {t t2 t5 : TS} (hk : s.op = 4) (he : s.els ≠ []) (h : AfterR m s.b ((t.addRow 40 s.e).app [(12, 0)]).names ((t.addRow 40 s.e).app [(12, 0)]) t2) :
    (t2.app [(11, 0)]).code[(t.addRow 40 s.e).code.length]? = some (12, 0) ∧ t2.code.length + 1 + (listC (stmtC m) s.els t.names (t2.code.length + 1)).length = t.code.length + (stmtC (m + 1) s t.names t.code.length).length ∧ t2.names = t.names ∧ t2.L ≤ max t.L (listL (stmtL m) s.b t.names) ∧
    ∀ t4, t4 = { t2.app [(11, 0)] with code := (t2.app [(11, 0)]).code.set (t.addRow 40 s.e).code.length (12, (((t2.app [(11, 0)]).code.length : Nat) : Int)) } → AfterR m s.els t4.names t4 t5 → t5.code[t2.code.length]? = some (11, 0) ∧ After (m + 1) s t { t5 with code := t5.code.set t2.code.length (11, ((t5.code.length : Nat) : Int)) } := by
  obtain ⟨c1, c2, c3, c4, c5, c6⟩ := row_then t s.e (12, 0)
  generalize (t.addRow 40 s.e).app [(12, 0)] = t1 at *
  obtain ⟨ce, ece⟩ : ∃ ce, ce = rowC (exprC t.names 40) s.e t.code.length := ⟨_, rfl⟩
  rw [← ece] at c1 c2 c6
  have hc := h.code
  rw [c1, c3] at hc
  have hlx : (t.code ++ ce ++ [((12 : Nat), (0 : Int))]).length = t.code.length + ce.length + 1 := by simp <;> omega
  rw [hlx] at hc
  have hS : stmtC (m + 1) s t.names t.code.length = ce ++ ((12, ((t.code.length + ce.length + 1 + (listC (stmtC m) s.b t.names (t.code.length + ce.length + 1)).length + 1 : Nat) : Int)) :: (listC (stmtC m) s.b t.names (t.code.length + ce.length + 1) ++
          ((11, ((t.code.length + ce.length + 1 + (listC (stmtC m) s.b t.names (t.code.length + ce.length + 1)).length + 1 + (listC (stmtC m) s.els t.names (t.code.length + ce.length + 1 + (listC (stmtC m) s.b t.names (t.code.length + ce.length + 1)).length + 1)).length : Nat) : Int)) ::
            listC (stmtC m) s.els t.names (t.code.length + ce.length + 1 + (listC (stmtC m) s.b t.names (t.code.length + ce.length + 1)).length + 1)))) := by
    rw [stmtC, if_neg (by omega), if_neg (by omega), if_neg (by omega), if_pos hk, if_neg he, ← ece]
  obtain ⟨cb, ecb⟩ : ∃ cb, cb = listC (stmtC m) s.b t.names (t.code.length + ce.length + 1) := ⟨_, rfl⟩
  rw [← ecb] at hc hS
  have hl : t2.code.length = t.code.length + ce.length + 1 + cb.length := by rw [hc]; simp <;> omega
  obtain ⟨cl, ecl⟩ : ∃ cl, cl = listC (stmtC m) s.els t.names (t.code.length + ce.length + 1 + cb.length + 1) := ⟨_, rfl⟩
  rw [← ecl] at hS
  have hc3 : (t2.app [(11, 0)]).code = t.code ++ ce ++ [(12, 0)] ++ (cb ++ [(11, 0)]) := by rw [TS.code_app, hc]; simp
  have hl3 : (t2.app [(11, 0)]).code.length = t.code.length + ce.length + 1 + cb.length + 1 := by rw [TS.code_app, List.length_append, hl]; rfl
  have hn2 : t2.names = t.names := by rw [h.names, c3]
  refine ⟨by rw [hc3]; exact get_mid _ _ _ _ (by rw [c6]; simp), by rw [hl, ← ecl, hS]; simp <;> omega, hn2, by rw [h.L, c3, c4]; exact Nat.le_refl _, ?_⟩
  intro t4 e4 k
  have hc4 : t4.code = t.code ++ ce ++ (12, ((t.code.length + ce.length + 1 + cb.length + 1 : Nat) : Int)) :: (cb ++ [(11, 0)]) := by
    rw [e4]
    show (t2.app [(11, 0)]).code.set _ _ = _
    rw [hl3, hc3, set_mid _ _ _ _ _ (by rw [c6]; simp)]
  have hl4 : t4.code.length = t.code.length + ce.length + 1 + cb.length + 1 := by rw [hc4]; simp <;> omega
  have hn4 : t4.names = t.names := by rw [e4]; exact hn2
  have hk5 := k.code
  rw [hn4, hl4, ← ecl, hc4] at hk5
  have hk5' : t5.code = (t.code ++ ce ++ (12, ((t.code.length + ce.length + 1 + cb.length + 1 : Nat) : Int)) :: cb) ++ [(11, 0)] ++ cl := by rw [hk5]; simp
  have hl5 : t5.code.length = t.code.length + ce.length + 1 + cb.length + 1 + cl.length := by rw [hk5']; simp <;> omega
  have hL4 : t4.L = t2.L := by rw [e4]; rfl
  have hE4 : t4.e = t2.e := by rw [e4]; rfl
  refine ⟨by rw [hk5']; exact get_mid _ _ _ _ (by rw [hl]; simp <;> omega), ?_, ?_, ?_, ?_⟩
  · show t5.code.set _ _ = _
    rw [hl5, hk5', set_mid _ _ _ _ _ (by rw [hl]; simp <;> omega), hS]
    simp
  · show t5.names = _
    rw [k.names, hn4, nextV, if_neg (by omega)]
  · show t5.L = _
    rw [k.L, hL4, h.L, c3, c4, hn4, stmtL, if_neg (by omega), if_pos (Or.inl hk), Nat.max_assoc]
  · show t5.e = 0 ↔ _
    rw [k.e, hE4, h.e, c5, c3, hn4, stmtG, if_neg (by omega), if_neg (by omega), if_pos (Or.inl hk), Bool.and_eq_true, Bool.and_eq_true]
    simp only [and_assoc]
end
end Go.Proofs.YtocbddajakbemaaGreat
