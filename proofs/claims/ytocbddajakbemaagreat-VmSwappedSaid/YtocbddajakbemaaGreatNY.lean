/- vm, Great seat: sizes of trees, and the contract of marcheslaw12.SizeExpr. vm, Great seat: the contract of marcheslaw12.SizeExpr. vm, Great seat: the contract of marcheslaw12.Size (wip/vmz-size-gen.py writes it). -/
import Derived.Test.YtocbddajakbemaaGreatNC
set_option linter.unusedVariables false
set_option linter.unusedSimpArgs false
set_option linter.unusedSimpArgs false
namespace Go.Proofs.YtocbddajakbemaaGreat
section
open Go.RowKit
mutual
def szE : E0 → Nat
  | .mk _ _ nm args => 1 + nm.size / 30 + szEs args
def szEs : List E0 → Nat
  | [] => 0
  | x :: l => szE x + szEs l
end
mutual
def szS : S0 → Nat
  | .mk _ _ nm e b els => 1 + nm.size / 30 + szEs e + szSs b + szSs els
def szSs : List S0 → Nat
  | [] => 0
  | x :: l => szS x + szSs l
end
theorem szEs_take : ∀ (l : List E0) (j : Nat) (x : E0), l[j]? = some x → szEs (l.take (j + 1)) = szEs (l.take j) + szE x := by
  intro l
  induction l with
  | nil => intro j x h; simp at h
  | cons y l ih =>
    intro j x h
    cases j with
    | zero => simp at h; subst h; simp [szEs]
    | succ j => simp at h; simp [szEs, ih j x h]; omega
theorem szSs_take : ∀ (l : List S0) (j : Nat) (x : S0), l[j]? = some x → szSs (l.take (j + 1)) = szSs (l.take j) + szS x := by
  intro l
  induction l with
  | nil => intro j x h; simp at h
  | cons y l ih =>
    intro j x h
    cases j with
    | zero => simp at h; subst h; simp [szSs]
    | succ j => simp at h; simp [szSs, ih j x h]; omega
theorem szE_pos (x : E0) : 1 ≤ szE x := by cases x; simp only [szE]; omega
theorem szS_pos (x : S0) : 1 ≤ szS x := by cases x; simp only [szS]; omega
theorem szEs_len : ∀ l : List E0, l.length ≤ szEs l
  | [] => by simp [szEs]
  | x :: l => by have := szEs_len l; have := szE_pos x; simp only [szEs, List.length_cons]; omega
theorem szSs_len : ∀ l : List S0, l.length ≤ szSs l
  | [] => by simp [szSs]
  | x :: l => by have := szSs_len l; have := szS_pos x; simp only [szSs, List.length_cons]; omega
theorem szE_mem : ∀ (l : List E0) (j : Nat) (x : E0), l[j]? = some x → szE x ≤ szEs l := by
  intro l
  induction l with
  | nil => intro j x h; simp at h
  | cons y l ih =>
    intro j x h
    cases j with
    | zero => simp at h; subst h; simp [szEs]
    | succ j => simp at h; have := ih j x h; simp [szEs]; omega
theorem szS_mem : ∀ (l : List S0) (j : Nat) (x : S0), l[j]? = some x → szS x ≤ szSs l := by
  intro l
  induction l with
  | nil => intro j x h; simp at h
  | cons y l ih =>
    intro j x h
    cases j with
    | zero => simp at h; subst h; simp [szSs]
    | succ j => simp at h; have := ih j x h; simp [szSs]; omega
def EZ (x : E0) : Prop := x.op < 256 ∧ -9223372036854775808 ≤ x.n ∧ x.n ≤ 9223372036854775807 ∧ x.args.length ≤ 9223372036854775807 ∧ x.nm.size ≤ 9223372036854775807
structure ECz (w : World) (b o : Nat) (x : E0) (A : Option Addr) (c : Nat) : Prop where
  c0 : w.cell? ⟨b, o, none⟩ = some (.int .u8 (x.op : Nat))
  c1 : w.cell? ⟨b, o + 1, none⟩ = some (.int .i64 x.n)
  c2 : w.cell? ⟨b, o + 2, none⟩ = some (.string x.nm)
  c3 : w.cell? ⟨b, o + 3, none⟩ = some (.slice A x.args.length c)
  nil : A = none → x.args.length = 0 ∧ c = 0
  lim : EZ x
def EsZ (w : World) : Nat → Option Addr → List E0 → Prop
  | 0, _, _ => True
  | d + 1, A, l => ∀ (j : Nat) (x : E0), l[j]? = some x → ∃ b o A' c, A = some ⟨b, o, none⟩ ∧ ECz w b (o + j * 4) x A' c ∧ EsZ w d A' x.args
theorem ECz.below {w w' : World} {b o : Nat} {x : E0} {A : Option Addr} {c : Nat} (h : ECz w b o x A c) (hb : Below w.heap.size w w') : ECz w' b o x A c :=
  ⟨(hb.cell (World.block_lt_of_cell? w _ h.c0)).trans h.c0, (hb.cell (World.block_lt_of_cell? w _ h.c1)).trans h.c1, (hb.cell (World.block_lt_of_cell? w _ h.c2)).trans h.c2, (hb.cell (World.block_lt_of_cell? w _ h.c3)).trans h.c3, h.nil, h.lim⟩
theorem EsZ.below {w w' : World} (hb : Below w.heap.size w w') : ∀ {d : Nat} {A : Option Addr} {l : List E0}, EsZ w d A l → EsZ w' d A l := by
  intro d
  induction d with
  | zero => intro A l _; trivial
  | succ d ih =>
    intro A l h j x hj
    obtain ⟨b, o, A', c, e, hc, hd⟩ := h j x hj
    exact ⟨b, o, A', c, e, hc.below hb, ih hd⟩
theorem ECz.to {w : World} {b o : Nat} {x : E0} {A : Option Addr} {c : Nat} (h : ECz w b o x A c) (hs : szE x ≤ 1000000) : ECells w b o x A c := by
  refine ⟨h.c0, h.c1, h.c2, h.c3, h.nil, h.lim.1, h.lim.2.1, h.lim.2.2.1, ?_⟩
  cases x with
  | mk op n nm args =>
    have := szEs_len args
    simp only [szE] at hs
    show args.length ≤ 1000000
    omega
theorem EsZ.to {w : World} : ∀ {d : Nat} {A : Option Addr} {l : List E0}, EsZ w d A l → szEs l ≤ 1000000 → EsAt w d A l := by
  intro d
  induction d with
  | zero => intro A l _ _; trivial
  | succ d ih =>
    intro A l h hs j x hj
    obtain ⟨b, o, A', c, e, hc, hd⟩ := h j x hj
    have := szE_mem l j x hj
    refine ⟨b, o, A', c, e, hc.to (by omega), ih hd ?_⟩
    cases x with
    | mk op n nm args => simp only [szE] at this; show szEs args ≤ 1000000; omega
structure SCz (w : World) (b o : Nat) (s : S0) (EA : Option Addr) (ec : Nat) (BA : Option Addr) (bc : Nat) (LA : Option Addr) (lc : Nat) : Prop where
  c0 : w.cell? ⟨b, o, none⟩ = some (.int .u8 (s.op : Nat))
  c1 : w.cell? ⟨b, o + 1, none⟩ = some (.int .i64 s.n)
  c2 : w.cell? ⟨b, o + 2, none⟩ = some (.string s.nm)
  c3 : w.cell? ⟨b, o + 3, none⟩ = some (.slice EA s.e.length ec)
  c4 : w.cell? ⟨b, o + 4, none⟩ = some (.slice BA s.b.length bc)
  c5 : w.cell? ⟨b, o + 5, none⟩ = some (.slice LA s.els.length lc)
  lim : s.op < 256 ∧ -9223372036854775808 ≤ s.n ∧ s.n ≤ 9223372036854775807 ∧ s.e.length ≤ 9223372036854775807 ∧ s.b.length ≤ 9223372036854775807 ∧ s.els.length ≤ 9223372036854775807 ∧ s.nm.size ≤ 9223372036854775807
def SsZ (w : World) : Nat → Option Addr → List S0 → Prop
  | 0, _, _ => True
  | d + 1, A, l => ∀ (j : Nat) (s : S0), l[j]? = some s → ∃ b o EA ec BA bc LA lc, A = some ⟨b, o, none⟩ ∧ SCz w b (o + j * 6) s EA ec BA bc LA lc ∧ (∀ k, EsZ w k EA s.e) ∧ SsZ w d BA s.b ∧ SsZ w d LA s.els
theorem SCz.below {w w' : World} {b o : Nat} {s : S0} {EA BA LA : Option Addr} {ec bc lc : Nat} (h : SCz w b o s EA ec BA bc LA lc) (hb : Below w.heap.size w w') : SCz w' b o s EA ec BA bc LA lc :=
  ⟨(hb.cell (World.block_lt_of_cell? w _ h.c0)).trans h.c0, (hb.cell (World.block_lt_of_cell? w _ h.c1)).trans h.c1, (hb.cell (World.block_lt_of_cell? w _ h.c2)).trans h.c2, (hb.cell (World.block_lt_of_cell? w _ h.c3)).trans h.c3, (hb.cell (World.block_lt_of_cell? w _ h.c4)).trans h.c4, (hb.cell (World.block_lt_of_cell? w _ h.c5)).trans h.c5, h.lim⟩
theorem SsZ.below {w w' : World} (hb : Below w.heap.size w w') : ∀ {d : Nat} {A : Option Addr} {l : List S0}, SsZ w d A l → SsZ w' d A l := by
  intro d
  induction d with
  | zero => intro A l _; trivial
  | succ d ih =>
    intro A l h j x hj
    obtain ⟨b, o, EA, ec, BA, bc, LA, lc, e, hc, he, hd, hd2⟩ := h j x hj
    exact ⟨b, o, EA, ec, BA, bc, LA, lc, e, hc.below hb, fun k => (he k).below hb, ih hd, ih hd2⟩
theorem SsZ.to {w : World} : ∀ {d : Nat} {A : Option Addr} {l : List S0}, SsZ w d A l → szSs l ≤ 1000000 → SsAt w d A l := by
  intro d
  induction d with
  | zero => intro A l _ _; trivial
  | succ d ih =>
    intro A l h hs j x hj
    obtain ⟨b, o, EA, ec, BA, bc, LA, lc, e, hc, he, hd, hd2⟩ := h j x hj
    have hm := szS_mem l j x hj
    cases x with
    | mk op n nm es bb ll =>
      simp only [szS] at hm
      have h1 := szEs_len es
      have h2 := szSs_len bb
      have h3 := szSs_len ll
      have z := hc.lim
      exact ⟨b, o, EA, ec, BA, bc, LA, lc, e, ⟨hc.c0, hc.c1, hc.c2, hc.c3, hc.c4, hc.c5, z.1, z.2.1, z.2.2.1, by show es.length ≤ 1000000; omega, by show bb.length ≤ 1000000; omega, by show ll.length ≤ 1000000; omega⟩, fun k => (he k).to (by show szEs es ≤ 1000000; omega), ih hd (by show szSs bb ≤ 1000000; omega), ih hd2 (by show szSs ll ≤ 1000000; omega)⟩
end
end Go.Proofs.YtocbddajakbemaaGreat
set_option linter.unusedSimpArgs false
namespace Go.Proofs.YtocbddajakbemaaGreat
section
open Go.RowKit
def SzEC (s : Nat) : Prop := ∀ (x : E0) (A : Option Addr) (c : Nat) (left : Int) (w : World), SizeOf.sizeOf x ≤ s → EZ x → (∀ d, EsZ w d A x.args) → 0 ≤ left → left ≤ 1000000000 →
  Calls Tryz.prog 18 #[x.agg A c, .int .i64 left] w fun e w' => ∃ n : Int, e = .returned (.int .i64 n) ∧ 1 ≤ n ∧ n ≤ left + 400000000000000000 ∧ (n ≤ left → n = (szE x : Nat)) ∧ Below w.heap.size w w'
theorem sizeOf_args (op : Nat) (n : Int) (nm : ByteArray) (args : List E0) (j : Nat) (x : E0) (h : args[j]? = some x) : SizeOf.sizeOf x < SizeOf.sizeOf (E0.mk op n nm args) := by
  have := List.sizeOf_lt_of_mem (List.mem_of_getElem? h)
  simp only [E0.mk.sizeOf_spec]
  omega
set_option maxRecDepth 100000 in
set_option maxHeartbeats 4000000 in
theorem sizeE_succ (s : Nat) (IH : SzEC s) : SzEC (s + 1) := by
  intro x A c left w hs hx h hl0 hl1
  obtain ⟨op, n, nm, args⟩ := x
  show Calls Tryz.prog 18 #[.agg #[.int .u8 (op : Nat), .int .i64 n, .string nm, .slice A args.length c], .int .i64 left] w _
  obtain ⟨m, em⟩ : ∃ m, m = args.length := ⟨_, rfl⟩
  obtain ⟨q, eq⟩ : ∃ q, q = nm.size := ⟨_, rfl⟩
  have hm : m ≤ 9223372036854775807 := by rw [em]; exact hx.2.2.2.1
  have hq : q ≤ 9223372036854775807 := by rw [eq]; exact hx.2.2.2.2
  rw [← em]
  obtain ⟨w2, e2⟩ : ∃ w2, w2 = w.alloc (.cells #[.int .u8 (op : Nat), .int .i64 n, .string nm, .slice A m c] 34 (0, 0)) := ⟨_, rfl⟩
  have hb : Below w.heap.size w w2 := by rw [e2]; exact (Below.refl _ w).alloc (Nat.le_refl _) _
  have h0 : w2.heap[w.heap.size]? = some (.cells #[.int .u8 (op : Nat), .int .i64 n, .string nm, .slice A m c] 34 (0, 0)) := by
    rw [e2]; exact heap_alloc_new w _
  obtain ⟨g, eg⟩ : ∃ g, g = w.heap.size := ⟨_, rfl⟩
  rw [← eg] at h0
  obtain ⟨f0, f1, f2, f3, -⟩ := ex_facts h0
  obtain ⟨B, eB⟩ : ∃ B : Nat, B = 1 + q / 30 := ⟨_, rfl⟩
  have hB : B ≤ 400000000000000000 := by omega
  have H := Lib.hid (And.intro hb (And.intro h (And.intro em (And.intro hm (And.intro IH (And.intro hs (And.intro f3 (And.intro hl0 (And.intro hl1 (And.intro eB (And.intro hB eq)))))))))))
  clear hb h0 h hx em hm IH hs hl0 hl1 eB hB f3 f0 f1
  go_enter Tryz.func18, Tryz.ntmps18
  go_upto_region 1 with fail
  rw [← e2, ← eg]
  have EG := Lib.hid eg
  clear e2 eg
  go_wp2_with fail
  go_loopg [5, 6] m (fun gh nv iv wr => ∃ (j : Nat) (N : Int), gh + j = m ∧ nv = .int .i64 N ∧ iv = .int .i64 (j : Nat) ∧ 1 ≤ N ∧ N ≤ left + 400000000000000000 ∧ (N ≤ left → N = (B + szEs (args.take j) : Nat)) ∧ Below w2.heap.size w2 wr)
  case atStart =>
    obtain ⟨hb, h, em, hm, IH, hs, f3, hl0, hl1, eB, hB, eq⟩ := H.out
    refine ⟨0, (B : Nat), rfl, ?_, rfl, ?_, ?_, ?_, Below.refl _ _⟩
    · have : (1 : Int) + (nm.size : Int) / 30 = (B : Nat) := by omega
      rw [this]
    · omega
    · omega
    · intro _; simp [szEs]
  case round =>
    obtain ⟨j, N, hg, rfl, rfl, hN1, hN2, hN3, hW⟩ := hrel
    obtain ⟨W, eW⟩ : ∃ W, W = wr := ⟨_, rfl⟩
    rw [← eW] at hW ⊢
    clear eW
    obtain ⟨hb, h, em, hm, IH, hs, f3, hl0, hl1, eB, hB, eq⟩ := H.out
    have f3W := (hW.cell (World.block_lt_of_cell? w2 _ f3)).trans f3
    by_cases hlt : j < m
    · have i2 : decide (j < m) = true := decide_eq_true hlt
      by_cases hle : N ≤ left
      · have i3 : decide (N ≤ left) = true := decide_eq_true hle
        obtain ⟨x, hx⟩ : ∃ x, args[j]? = some x := ⟨_, List.getElem?_eq_getElem (by omega)⟩
        obtain ⟨b, o, A', c', eA, hc, -⟩ := h 1 j x hx
        have hd : ∀ d, EsZ w d A' x.args := by
          intro d
          obtain ⟨b2, o2, A2, c2, eA2, hc2, hd2⟩ := h (d + 1) j x hx
          rw [eA] at eA2
          simp only [Option.some.injEq, Addr.mk.injEq] at eA2
          obtain ⟨rfl, rfl, -⟩ := eA2
          have e3 := hc.c3.symm.trans hc2.c3
          simp only [Option.some.injEq, Value.slice.injEq] at e3
          rw [e3.1]; exact hd2
        have hbW : Below w.heap.size w W := hb.trans (hW.mono hb.size)
        have hcW := hc.below hbW
        have F := IH x A' c' (left - N) W (by have := sizeOf_args op n nm args j x hx; omega) hc.lim (fun d => (hd d).below hbW) (by omega) (by omega)
        obtain ⟨c0, c1, c2, c3, -, -⟩ := hcW
        have i0 : (0 : Int) ≤ (j : Int) := by omega
        have i1 : (j : Int) < (m : Int) := by omega
        have u2 : wrap64 ((j : Int) + 1) = (j : Int) + 1 := by unfold wrap64; omega
        obtain ⟨L, eL⟩ : ∃ L, L = left - N := ⟨_, rfl⟩
        rw [← eL] at F
        have u1 : wrap64 (left - N) = L := by rw [eL]; unfold wrap64; omega
        have F : Calls Tryz.prog 18 #[.agg #[.int .u8 (x.op : Nat), .int .i64 x.n, .string x.nm, .slice A' x.args.length c'], .int .i64 L] W fun e w' => ∃ n : Int, e = .returned (.int .i64 n) ∧ 1 ≤ n ∧ n ≤ L + 400000000000000000 ∧ (n ≤ L → n = (szE x : Nat)) ∧ Below W.heap.size W w' := F
        subst eA
        have HX := Lib.hid (And.intro hx (And.intro hlt (And.intro hg (And.intro hN1 (And.intro hN2 (And.intro hN3 (And.intro hW (And.intro eL hle))))))))
        clear hx hlt hg hN1 hN2 hN3 hW eL hle h hc hd hbW hb em hm IH hs f3 hl0 hl1 eB hB eq hq
        go_wp2_with (go_at_call 18; refine F.mono ?_; rintro e w3 ⟨k, rfl, hk1, hk2, hk3, hb3⟩; have u3 : wrap64 (N + k) = N + k := (by unfold wrap64; have := HX.out.2.2.2.1; have := HX.out.2.2.2.2.2.2.2.1; have := HX.out.2.2.2.2.1; have := H.out.2.2.2.2.2.2.2.2.1; omega); have H3 := Lib.hid (And.intro hk1 (And.intro hk2 (And.intro hk3 hb3))); clear hk1 hk2 hk3 hb3)
        go_roundg (m - (j + 1))
        case measure => have := HX.out.2.1; have := HX.out.2.2.1; omega
        case rel =>
          obtain ⟨hx, hlt, hg, hN1, hN2, hN3, hW, eL, hle⟩ := HX.out
          obtain ⟨hk1, hk2, hk3, hb3⟩ := H3.out
          refine ⟨j + 1, N + k, by omega, by first | rfl | go_num, by go_num, by omega, by omega, ?_, hW.trans (hb3.mono hW.size)⟩
          intro hh
          have z1 := hN3 hle
          have z2 := hk3 (by omega)
          rw [szEs_take args j x hx]
          omega
      · have i3 : decide (N ≤ left) = false := decide_eq_false hle
        have HX := Lib.hid (And.intro hlt (And.intro hg (And.intro hN1 (And.intro hN2 (And.intro hN3 (And.intro hW hle))))))
        clear hlt hg hN1 hN2 hN3 hW hle h hb em hm IH hs f3 hl0 hl1 eB hB eq hq
        go_wp2_with fail
        go_ret
        obtain ⟨hlt, hg, hN1, hN2, hN3, hW, hle⟩ := HX.out
        exact ⟨N, rfl, hN1, hN2, fun h => by omega, H.out.1.trans (hW.mono H.out.1.size)⟩
    · have i2 : decide (j < m) = false := decide_eq_false hlt
      have HX := Lib.hid (And.intro hlt (And.intro hg (And.intro hN1 (And.intro hN2 (And.intro hN3 hW)))))
      clear hlt hg hN1 hN2 hN3 hW h hb em hm IH hs f3 hl0 hl1 eB hB eq hq
      go_wp2_with fail
      go_ret
      obtain ⟨hlt, hg, hN1, hN2, hN3, hW⟩ := HX.out
      refine ⟨N, rfl, hN1, hN2, fun h => ?_, H.out.1.trans (hW.mono H.out.1.size)⟩
      obtain ⟨hb, -, em, hm, IH, hs, f3, hl0, hl1, eB, hB, eq⟩ := H.out
      rw [hN3 h, List.take_of_length_le (by omega)]
      simp only [szE]
      rw [eB, eq]
theorem sizeE_all : ∀ s, SzEC s := by
  intro s
  induction s with
  | zero =>
    intro x A c left w hs
    exfalso
    obtain ⟨op, n, nm, args⟩ := x
    simp only [E0.mk.sizeOf_spec] at hs
    omega
  | succ s ih => exact sizeE_succ s ih
theorem SizeExpr_ok (x : E0) (A : Option Addr) (c : Nat) (left : Int) (w : World) (hx : EZ x) (h : ∀ d, EsZ w d A x.args) (h0 : 0 ≤ left) (h1 : left ≤ 1000000000) :
    Calls Tryz.prog 18 #[x.agg A c, .int .i64 left] w fun e w' => ∃ n : Int, e = .returned (.int .i64 n) ∧ 1 ≤ n ∧ n ≤ left + 400000000000000000 ∧ (n ≤ left → n = (szE x : Nat)) ∧ Below w.heap.size w w' :=
  sizeE_all _ x A c left w (Nat.le_refl _) hx h h0 h1
end
end Go.Proofs.YtocbddajakbemaaGreat
set_option linter.unusedSimpArgs false
namespace Go.Proofs.YtocbddajakbemaaGreat
section
open Go.RowKit
def SzSR (l : List S0) (A : Option Addr) (c : Nat) (left : Int) (w : World) : Prop :=
  Calls Tryz.prog 8 #[.slice A l.length c, .int .i64 left] w fun e w' => ∃ n : Int, e = .returned (.int .i64 n) ∧ 0 ≤ n ∧ (left < 0 → n = 0) ∧ (0 ≤ left → n ≤ left + 400000000000000000) ∧ (n ≤ left → n = (szSs l : Nat)) ∧ Below w.heap.size w w'
def SzSC (s : Nat) : Prop := ∀ (l : List S0) (A : Option Addr) (c : Nat) (left : Int) (w : World), SizeOf.sizeOf l ≤ s → l.length ≤ 9223372036854775807 → (∀ d, SsZ w d A l) → -400000000000000000 ≤ left → left ≤ 1000000000 → SzSR l A c left w
theorem sizeOf_stmt (l : List S0) (j : Nat) (x : S0) (h : l[j]? = some x) : SizeOf.sizeOf x.b < SizeOf.sizeOf l ∧ SizeOf.sizeOf x.els < SizeOf.sizeOf l := by
  have := List.sizeOf_lt_of_mem (List.mem_of_getElem? h)
  obtain ⟨op, n, nm, es, bb, ll⟩ := x
  simp only [S0.mk.sizeOf_spec] at this
  show SizeOf.sizeOf bb < _ ∧ SizeOf.sizeOf ll < _
  omega
theorem w64z (x : Int) (h0 : -9223372036854775808 ≤ x) (h1 : x ≤ 9223372036854775807) : wrap64 x = x := by unfold wrap64; omega
theorem size_ar (q : Nat) (hq : q ≤ 9223372036854775807) (N left : Int) (h0 : 0 ≤ N) (h1 : N ≤ left) (h2 : left ≤ 1000000000) : ∃ R0 R1 B : Int, wrap64 ((q : Int) / 30) = R0 ∧ wrap64 (1 + R0) = R1 ∧ wrap64 (N + R1) = B ∧ B = N + (1 + (q : Int) / 30) ∧ N + 1 ≤ B ∧ B ≤ left + 400000000000000000 := by
  refine ⟨(q : Int) / 30, 1 + (q : Int) / 30, N + (1 + (q : Int) / 30), ?_, ?_, ?_, rfl, by omega, by omega⟩
  · unfold wrap64; omega
  · unfold wrap64; omega
  · unfold wrap64; omega
set_option maxRecDepth 100000 in
set_option maxHeartbeats 4000000 in
theorem sizeS_succ (s : Nat) (IH : SzSC s) : SzSC (s + 1) := by
  intro l A c left w hs hm h hl0 hl1
  unfold SzSR
  obtain ⟨ln, em⟩ : ∃ ln, ln = l.length := ⟨_, rfl⟩
  rw [← em] at hm ⊢
  have H := Lib.hid (And.intro em (And.intro hm (And.intro h (And.intro hl0 (And.intro hl1 (And.intro IH hs))))))
  clear em hm h hl0 hl1 IH hs
  go_enter Tryz.func8, Tryz.ntmps8
  go_wp2_with fail
  go_loopg [5, 6] ln (fun gh nv iv wr => ∃ (j : Nat) (N : Int), gh + j = ln ∧ nv = .int .i64 N ∧ iv = .int .i64 (j : Nat) ∧ 0 ≤ N ∧ (0 ≤ left → N ≤ left + 400000000000000000) ∧ (left < 0 → N = 0) ∧ (N ≤ left → N = (szSs (l.take j) : Nat)) ∧ Below w.heap.size w wr)
  case atStart => exact ⟨0, 0, rfl, rfl, rfl, by omega, by intro _; omega, fun _ => rfl, by intro _; simp [szSs], Below.refl _ _⟩
  case round =>
    obtain ⟨j, N, hg, rfl, rfl, hN0, hN1, hN2, hN4, hW⟩ := hrel
    obtain ⟨W, eW⟩ : ∃ W, W = wr := ⟨_, rfl⟩
    rw [← eW] at hW ⊢
    clear eW
    obtain ⟨em, hm, h, hl0, hl1, IH, hs⟩ := H.out
    by_cases hlt : j < ln
    · have i2 : decide (j < ln) = true := decide_eq_true hlt
      by_cases hle : N ≤ left
      · have i3 : decide (N ≤ left) = true := decide_eq_true hle
        obtain ⟨x, hx⟩ : ∃ x, l[j]? = some x := ⟨_, List.getElem?_eq_getElem (by omega)⟩
        obtain ⟨b, o, EA, ec, BA, bc, LA, lc, eA, hc, hes, -, -⟩ := h 1 j x hx
        have hd : ∀ d, SsZ w d BA x.b ∧ SsZ w d LA x.els := by
          intro d
          obtain ⟨b2, o2, EA2, ec2, BA2, bc2, LA2, lc2, eA2, hc2, -, hd2, hd3⟩ := h (d + 1) j x hx
          rw [eA] at eA2
          simp only [Option.some.injEq, Addr.mk.injEq] at eA2
          obtain ⟨rfl, rfl, -⟩ := eA2
          have e4 := hc.c4.symm.trans hc2.c4
          have e5 := hc.c5.symm.trans hc2.c5
          simp only [Option.some.injEq, Value.slice.injEq] at e4 e5
          rw [e4.1, e5.1]; exact ⟨hd2, hd3⟩
        have hbod := fun d => (hd d).1
        have hels := fun d => (hd d).2
        clear hd
        subst eA
        have hcW := hc.below hW
        obtain ⟨c0, c1, c2, c3, c4, c5, -⟩ := hcW
        have i0 : (0 : Int) ≤ (j : Int) := by omega
        have i1 : (j : Int) < (ln : Int) := by omega
        obtain ⟨q, eq⟩ : ∃ q, q = x.nm.size := ⟨_, rfl⟩
        have hq : q ≤ 9223372036854775807 := by rw [eq]; exact hc.lim.2.2.2.2.2.2
        obtain ⟨R0, R1, B, v0, v1, u0, eB, hB⟩ := size_ar x.nm.size (by omega) N left hN0 hle hl1
        have HV := Lib.hid (And.intro v0 (And.intro v1 u0))
        clear v0 v1 u0
        obtain ⟨ee, eee⟩ : ∃ ee, ee = x.e.length := ⟨_, rfl⟩
        have HX0 := Lib.hid (And.intro hx (And.intro hlt (And.intro hg (And.intro hN0 (And.intro hN1 (And.intro hN2 (And.intro hN4 (And.intro hW (And.intro hle (And.intro eB (And.intro hB (And.intro hc (And.intro hes (And.intro hbod (And.intro hels (And.intro eee (And.intro eq hq)))))))))))))))))
        rw [← eee] at c3
        clear hx hlt hg hN0 hN1 hN2 hN4 hW hle eB hB hc hes hbod hels eee eq hq em hm h hl0 hl1 IH hs
        obtain ⟨v0, v1, u0⟩ := HV.out
        go_wp2_with fail
        clear v0 v1 u0
        go_loopg [5, 7] ee (fun gi mv kv wi => ∃ (k : Nat) (M : Int), gi + k = ee ∧ mv = .int .i64 M ∧ kv = .int .i64 (k : Nat) ∧ B ≤ M ∧ M ≤ left + 400000000000000000 ∧ (M ≤ left → M = B + (szEs (x.e.take k) : Nat)) ∧ Below W.heap.size W wi)
        case atStart =>
          obtain ⟨hx, hlt, hg, hN0, hN1, hN2, hN4, hW, hle, eB, hB, hc, hes, hbod, hels, eee, eq, hq⟩ := HX0.out
          exact ⟨0, B, rfl, by rw [HV.out.2.2], rfl, by omega, by omega, by intro _; simp [szEs], Below.refl _ _⟩
        case round =>
          obtain ⟨k, M, hgi, rfl, rfl, hM1, hM2, hM3, hWI⟩ := hrel
          obtain ⟨WI, eWI⟩ : ∃ WI, WI = wr := ⟨_, rfl⟩
          rw [← eWI] at hWI ⊢
          clear eWI c0 c1 c2 c3 c4 c5
          obtain ⟨hx, hlt, hg, hN0, hN1, hN2, hN4, hW, hle, eB, hB, hc, hes, hbod, hels, hem, eq, hq⟩ := HX0.out
          obtain ⟨em, hm, h, hl0, hl1, IH, hs⟩ := H.out
          have hbW : Below w.heap.size w WI := hW.trans (hWI.mono hW.size)
          have hbI := hbW
          by_cases hkn : k < ee
          · have i4 : decide (k < ee) = true := decide_eq_true hkn
            by_cases hce : M ≤ left
            · have i5 : decide (M ≤ left) = true := decide_eq_true hce
              obtain ⟨y, hy⟩ : ∃ y, x.e[k]? = some y := ⟨_, List.getElem?_eq_getElem (by omega)⟩
              obtain ⟨b9, o9, A9, c9, eA9, hcy, -⟩ := hes 1 k y hy
              have hdy : ∀ d, EsZ w d A9 y.args := by
                intro d
                obtain ⟨b2, o2, A2, c2', eA2, hc2, hd2⟩ := hes (d + 1) k y hy
                rw [eA9] at eA2
                simp only [Option.some.injEq, Addr.mk.injEq] at eA2
                obtain ⟨rfl, rfl, -⟩ := eA2
                have e3 := hcy.c3.symm.trans hc2.c3
                simp only [Option.some.injEq, Value.slice.injEq] at e3
                rw [e3.1]; exact hd2
              obtain ⟨L, eL⟩ : ∃ L, L = left - M := ⟨_, rfl⟩
              have F := SizeExpr_ok y A9 c9 L WI hcy.lim (fun d => (hdy d).below hbI) (by omega) (by omega)
              have F : Calls Tryz.prog 18 #[.agg #[.int .u8 (y.op : Nat), .int .i64 y.n, .string y.nm, .slice A9 y.args.length c9], .int .i64 L] WI fun e w' => ∃ n : Int, e = .returned (.int .i64 n) ∧ 1 ≤ n ∧ n ≤ L + 400000000000000000 ∧ (n ≤ L → n = (szE y : Nat)) ∧ Below WI.heap.size WI w' := F
              have j0 : (0 : Int) ≤ (k : Int) := by omega
              have j1 : (k : Int) < (ee : Int) := by omega
              have u2 : wrap64 ((k : Int) + 1) = (k : Int) + 1 := by have := hc.lim.2.2.2.1; exact w64z _ (by omega) (by omega)
              have u1 : wrap64 (left - M) = L := by clear u2; rw [eL]; exact w64z _ (by omega) (by omega)
              subst eA9
              have hcI := hc.below hbI
              obtain ⟨-, -, -, c3, -, -, -⟩ := hcI
              rw [← hem] at c3
              obtain ⟨d0, d1, d2, d3, -, -⟩ := hcy.below hbI
              have HY := Lib.hid (And.intro hy (And.intro hkn (And.intro hgi (And.intro hM1 (And.intro hM2 (And.intro hM3 (And.intro hWI (And.intro eL hce))))))))
              have HB := Lib.hid (And.intro hl1 (And.intro hN0 hB))
              clear hx hlt hg hN0 hN1 hN2 hN4 hW hle eB hB hc hes hbod hels eq hq em hm h hl0 hl1 IH hs hem hbW hbI hkn hce hy hcy hdy eL hgi hM1 hM2 hM3 hWI
              go_wp2_with (go_at_call 18; refine F.mono ?_; rintro e w3 ⟨r, rfl, hk1, hk2, hk3, hb3⟩; have u3 : wrap64 (M + r) = M + r := (by have h1 := HY.out.2.2.2.1; have h2 := HY.out.2.2.2.2.1; have h3 := HY.out.2.2.2.2.2.2.2.1; have h4 := HB.out; clear u1 u2; exact w64z _ (by omega) (by omega)); have H3 := Lib.hid (And.intro hk1 (And.intro hk2 (And.intro hk3 hb3))); clear hk1 hk2 hk3 hb3)
              go_roundg (ee - (k + 1))
              case measure => have := HY.out.2.1; have := HY.out.2.2.1; omega
              case rel =>
                obtain ⟨hy, hkn, hgi, hM1, hM2, hM3, hWI, eL, hce⟩ := HY.out
                obtain ⟨hk1, hk2, hk3, hb3⟩ := H3.out
                refine ⟨k + 1, M + r, by omega, by first | rw [u3] | rfl | go_num, by go_num, by omega, by omega, ?_, hWI.trans (hb3.mono hWI.size)⟩
                intro hh
                have z1 := hM3 hce
                have z2 := hk3 (by omega)
                rw [szEs_take x.e k y hy]
                omega
            · have i5 : decide (M ≤ left) = false := decide_eq_false hce
              have c3I := (hc.below hbI).c3
              rw [← hem] at c3I
              have hME : M ≤ left → M = (szSs (l.take j) + (1 + x.nm.size / 30) + szEs x.e : Nat) := fun h => absurd h hce
              obtain ⟨L, eL⟩ : ∃ L, L = left - M := ⟨_, rfl⟩
              have F1 := IH x.b BA bc L WI (by have := (sizeOf_stmt l j x hx).1; omega) hc.lim.2.2.2.2.1 (fun d => (hbod d).below hbI) (by omega) (by omega)
              have F2 : ∀ (W3 : World), Below WI.heap.size WI W3 → ∀ LL : Int, -400000000000000000 ≤ LL → LL ≤ 1000000000 → SzSR x.els LA lc LL W3 := fun W3 hb3 LL hL0 hL1 => IH x.els LA lc LL W3 (by have := (sizeOf_stmt l j x hx).2; omega) hc.lim.2.2.2.2.2.1 (fun d => (hels d).below (hbI.trans (hb3.mono hbI.size))) hL0 hL1
              have hcI := hc.below hbI
              obtain ⟨-, -, -, -, c4, c5, -⟩ := hcI
              have HX := Lib.hid (And.intro hx (And.intro hlt (And.intro hg (And.intro hN4 (And.intro hME (And.intro hW (And.intro hWI (And.intro hle (And.intro hbI (And.intro hem hM1))))))))))
              have HA := Lib.hid (And.intro (show (0 : Int) ≤ M by omega) (And.intro hM2 (And.intro (show (0 : Int) ≤ left by omega) (And.intro hl1 eL))))
              have w1 : wrap64 ((j : Int) + 1) = (j : Int) + 1 := w64z _ (by omega) (by omega)
              have HW := Lib.hid w1
              clear w1
              have u1 : wrap64 (left - M) = L := by rw [eL]; exact w64z _ (by omega) (by omega)
              have HF := Lib.hid F2
              unfold SzSR at F1
              clear hx hlt hg hN0 hN1 hN2 hN4 hME hle eL hM1 hM2 hM3 hbI hWI hW h hc hes hbod hels IH hs hm hl0 hl1 em hbW F2 hgi hem HX0 hce hkn eB hB eq hq
              go_wp2_with (go_at_call 8; first
                | (refine F1.mono ?_; clear u1; rintro e w3 ⟨r, rfl, hr1, hr2, hr3, hr4, hb3⟩; obtain ⟨a1, a2, a3, a4, a5⟩ := HA.out; obtain ⟨Q, eQ⟩ : ∃ Q, Q = M + r := ⟨_, rfl⟩; have hQ : M ≤ Q ∧ Q ≤ left + 400000000000000000 ∧ (Q ≤ left → M ≤ left ∧ r ≤ L) := (by omega); obtain ⟨L2, eL2⟩ : ∃ L2, L2 = left - Q := ⟨_, rfl⟩; have F3 := HF.out w3 hb3 L2 (by omega) (by omega); unfold SzSR at F3; have k4 := (hb3.cell (World.block_lt_of_cell? WI _ c4)).trans c4; have k5 := (hb3.cell (World.block_lt_of_cell? WI _ c5)).trans c5; have v1 : wrap64 (M + r) = Q := (by rw [eQ]; exact w64z _ (by omega) (by omega)); have HV1 := Lib.hid v1; have v2 : wrap64 (left - Q) = L2 := (by clear v1; rw [eL2]; exact w64z _ (by omega) (by omega)); have HR := Lib.hid (And.intro hr4 (And.intro hb3 (And.intro hQ (And.intro eL2 eQ)))); clear hr1 hr2 hr3 hr4 hb3 hQ eL2 eQ a1 a2 a3 a4 a5 F1 c4 c5)
                | (refine F3.mono ?_; clear v1 v2; rintro e w4 ⟨r2, rfl, hr1, hr2, hr3, hr4, hb4⟩; obtain ⟨a1, a2, a3, a4, a5⟩ := HA.out; obtain ⟨-, -, hQ, eL2, -⟩ := HR.out; obtain ⟨T, eT⟩ : ∃ T, T = Q + r2 := ⟨_, rfl⟩; have hT : Q ≤ T ∧ T ≤ left + 400000000000000000 ∧ (T ≤ left → Q ≤ left ∧ r2 ≤ L2) := (by omega); have v3 : wrap64 (Q + r2) = T := (by rw [eT]; exact w64z _ (by omega) (by omega)); have HR2 := Lib.hid (And.intro hr4 (And.intro hb4 (And.intro hT eT))); clear hr1 hr2 hr3 hr4 hb4 hT eT a1 a2 a3 a4 a5 hQ eL2 F3))
              go_roundg (ln - (j + 1))
              case measure => have := HX.out.2.1; have := HX.out.2.2.1; omega
              case rel =>
                have hlt := HX.out.2.1
                have hg := HX.out.2.2.1
                have hW := HX.out.2.2.2.2.2.1
                have hWI := HX.out.2.2.2.2.2.2.1
                have hb3 := HR.out.2.1
                have hb4 := HR2.out.2.1
                have t0 : (0 : Int) ≤ T := Int.le_trans (Int.le_trans HA.out.1 HR.out.2.2.1.1) HR2.out.2.2.1.1
                have t1 : T ≤ left + 400000000000000000 := HR2.out.2.2.1.2.1
                have t2 : (0 : Int) ≤ left := HA.out.2.2.1
                have HV3 := Lib.hid v3
                clear v3
                refine ⟨j + 1, T, by omega, by rw [HV1.out, HV3.out], by rw [HW.out]; rfl, t0, fun _ => t1, fun h => by omega, ?_, (hW.trans (hWI.mono hW.size)).trans ((hb3.trans (hb4.mono hb3.size)).mono (hW.trans (hWI.mono hW.size)).size)⟩
                intro hh
                have z0 := HR2.out.2.2.1.2.2 hh
                have z1 := HR.out.2.2.1.2.2 z0.1
                have z2 := HX.out.2.2.2.2.1 z1.1
                have z3 := HR.out.1 z1.2
                have z4 := HR2.out.1 z0.2
                rw [szSs_take l j x HX.out.1]
                have z5 : szS x = 1 + x.nm.size / 30 + szEs x.e + szSs x.b + szSs x.els := by cases x; simp only [szS]; rfl
                have z6 := HR.out.2.2.2.2
                have z7 := HR2.out.2.2.2
                clear z0 z1 t0 t1 t2 hh hlt hg
                omega
          · have i4 : decide (k < ee) = false := decide_eq_false hkn
            have c3I := (hc.below hbI).c3
            rw [← hem] at c3I
            have hME : M ≤ left → M = (szSs (l.take j) + (1 + x.nm.size / 30) + szEs x.e : Nat) := (fun h => by have z := hM3 h; rw [List.take_of_length_le (by omega)] at z; have z2 := hN4 hle; omega)
            obtain ⟨L, eL⟩ : ∃ L, L = left - M := ⟨_, rfl⟩
            have F1 := IH x.b BA bc L WI (by have := (sizeOf_stmt l j x hx).1; omega) hc.lim.2.2.2.2.1 (fun d => (hbod d).below hbI) (by omega) (by omega)
            have F2 : ∀ (W3 : World), Below WI.heap.size WI W3 → ∀ LL : Int, -400000000000000000 ≤ LL → LL ≤ 1000000000 → SzSR x.els LA lc LL W3 := fun W3 hb3 LL hL0 hL1 => IH x.els LA lc LL W3 (by have := (sizeOf_stmt l j x hx).2; omega) hc.lim.2.2.2.2.2.1 (fun d => (hels d).below (hbI.trans (hb3.mono hbI.size))) hL0 hL1
            have hcI := hc.below hbI
            obtain ⟨-, -, -, -, c4, c5, -⟩ := hcI
            have HX := Lib.hid (And.intro hx (And.intro hlt (And.intro hg (And.intro hN4 (And.intro hME (And.intro hW (And.intro hWI (And.intro hle (And.intro hbI (And.intro hem hM1))))))))))
            have HA := Lib.hid (And.intro (show (0 : Int) ≤ M by omega) (And.intro hM2 (And.intro (show (0 : Int) ≤ left by omega) (And.intro hl1 eL))))
            have w1 : wrap64 ((j : Int) + 1) = (j : Int) + 1 := w64z _ (by omega) (by omega)
            have HW := Lib.hid w1
            clear w1
            have u1 : wrap64 (left - M) = L := by rw [eL]; exact w64z _ (by omega) (by omega)
            have HF := Lib.hid F2
            unfold SzSR at F1
            clear hx hlt hg hN0 hN1 hN2 hN4 hME hle eL hM1 hM2 hM3 hbI hWI hW h hc hes hbod hels IH hs hm hl0 hl1 em hbW F2 hgi hem HX0 hkn eB hB eq hq
            go_wp2_with (go_at_call 8; first
              | (refine F1.mono ?_; clear u1; rintro e w3 ⟨r, rfl, hr1, hr2, hr3, hr4, hb3⟩; obtain ⟨a1, a2, a3, a4, a5⟩ := HA.out; obtain ⟨Q, eQ⟩ : ∃ Q, Q = M + r := ⟨_, rfl⟩; have hQ : M ≤ Q ∧ Q ≤ left + 400000000000000000 ∧ (Q ≤ left → M ≤ left ∧ r ≤ L) := (by omega); obtain ⟨L2, eL2⟩ : ∃ L2, L2 = left - Q := ⟨_, rfl⟩; have F3 := HF.out w3 hb3 L2 (by omega) (by omega); unfold SzSR at F3; have k4 := (hb3.cell (World.block_lt_of_cell? WI _ c4)).trans c4; have k5 := (hb3.cell (World.block_lt_of_cell? WI _ c5)).trans c5; have v1 : wrap64 (M + r) = Q := (by rw [eQ]; exact w64z _ (by omega) (by omega)); have HV1 := Lib.hid v1; have v2 : wrap64 (left - Q) = L2 := (by clear v1; rw [eL2]; exact w64z _ (by omega) (by omega)); have HR := Lib.hid (And.intro hr4 (And.intro hb3 (And.intro hQ (And.intro eL2 eQ)))); clear hr1 hr2 hr3 hr4 hb3 hQ eL2 eQ a1 a2 a3 a4 a5 F1 c4 c5)
              | (refine F3.mono ?_; clear v1 v2; rintro e w4 ⟨r2, rfl, hr1, hr2, hr3, hr4, hb4⟩; obtain ⟨a1, a2, a3, a4, a5⟩ := HA.out; obtain ⟨-, -, hQ, eL2, -⟩ := HR.out; obtain ⟨T, eT⟩ : ∃ T, T = Q + r2 := ⟨_, rfl⟩; have hT : Q ≤ T ∧ T ≤ left + 400000000000000000 ∧ (T ≤ left → Q ≤ left ∧ r2 ≤ L2) := (by omega); have v3 : wrap64 (Q + r2) = T := (by rw [eT]; exact w64z _ (by omega) (by omega)); have HR2 := Lib.hid (And.intro hr4 (And.intro hb4 (And.intro hT eT))); clear hr1 hr2 hr3 hr4 hb4 hT eT a1 a2 a3 a4 a5 hQ eL2 F3))
            go_roundg (ln - (j + 1))
            case measure => have := HX.out.2.1; have := HX.out.2.2.1; omega
            case rel =>
              have hlt := HX.out.2.1
              have hg := HX.out.2.2.1
              have hW := HX.out.2.2.2.2.2.1
              have hWI := HX.out.2.2.2.2.2.2.1
              have hb3 := HR.out.2.1
              have hb4 := HR2.out.2.1
              have t0 : (0 : Int) ≤ T := Int.le_trans (Int.le_trans HA.out.1 HR.out.2.2.1.1) HR2.out.2.2.1.1
              have t1 : T ≤ left + 400000000000000000 := HR2.out.2.2.1.2.1
              have t2 : (0 : Int) ≤ left := HA.out.2.2.1
              have HV3 := Lib.hid v3
              clear v3
              refine ⟨j + 1, T, by omega, by rw [HV1.out, HV3.out], by rw [HW.out]; rfl, t0, fun _ => t1, fun h => by omega, ?_, (hW.trans (hWI.mono hW.size)).trans ((hb3.trans (hb4.mono hb3.size)).mono (hW.trans (hWI.mono hW.size)).size)⟩
              intro hh
              have z0 := HR2.out.2.2.1.2.2 hh
              have z1 := HR.out.2.2.1.2.2 z0.1
              have z2 := HX.out.2.2.2.2.1 z1.1
              have z3 := HR.out.1 z1.2
              have z4 := HR2.out.1 z0.2
              rw [szSs_take l j x HX.out.1]
              have z5 : szS x = 1 + x.nm.size / 30 + szEs x.e + szSs x.b + szSs x.els := by cases x; simp only [szS]; rfl
              have z6 := HR.out.2.2.2.2
              have z7 := HR2.out.2.2.2
              clear z0 z1 t0 t1 t2 hh hlt hg
              omega
      · have i3 : decide (N ≤ left) = false := decide_eq_false hle
        have HX := Lib.hid (And.intro hN0 (And.intro hN1 (And.intro hN2 (And.intro hN4 (And.intro hW hle)))))
        clear hlt hg hN0 hN1 hN2 hN4 hW hle em hm h hl0 hl1 IH hs
        go_wp2_with fail
        go_ret
        obtain ⟨hN0, hN1, hN2, hN4, hW, hle⟩ := HX.out
        exact ⟨N, rfl, hN0, hN2, hN1, fun h => by omega, hW⟩
    · have i2 : decide (j < ln) = false := decide_eq_false hlt
      have HX := Lib.hid (And.intro hN0 (And.intro hN1 (And.intro hN2 (And.intro hN4 (And.intro hW hlt)))))
      clear hlt hg hN0 hN1 hN2 hN4 hW em hm h hl0 hl1 IH hs
      go_wp2_with fail
      go_ret
      obtain ⟨hN0, hN1, hN2, hN4, hW, hlt⟩ := HX.out
      refine ⟨N, rfl, hN0, hN2, hN1, fun h => ?_, hW⟩
      have e := hN4 h
      rw [List.take_of_length_le (by have := H.out.1; omega)] at e
      exact e
theorem sizeS_all : ∀ s, SzSC s := by
  intro s
  induction s with
  | zero =>
    intro l A c left w hs
    exfalso
    cases l <;> simp at hs
  | succ s ih => exact sizeS_succ s ih
theorem Size_ok (l : List S0) (A : Option Addr) (c : Nat) (left : Int) (w : World) (hl : l.length ≤ 9223372036854775807) (h : ∀ d, SsZ w d A l) (h0 : 0 ≤ left) (h1 : left ≤ 1000000000) :
    Calls Tryz.prog 8 #[.slice A l.length c, .int .i64 left] w fun e w' => ∃ n : Int, e = .returned (.int .i64 n) ∧ 0 ≤ n ∧ (n ≤ left → n = (szSs l : Nat)) ∧ Below w.heap.size w w' := by
  refine (sizeS_all _ l A c left w (Nat.le_refl _) hl h (by omega) h1).mono ?_
  rintro e w' ⟨n, rfl, a, -, -, d, f⟩
  exact ⟨n, rfl, a, d, f⟩
end
end Go.Proofs.YtocbddajakbemaaGreat
