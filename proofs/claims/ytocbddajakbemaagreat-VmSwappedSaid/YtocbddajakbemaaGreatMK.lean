/- vm, the front end: statements in memory; statement without a block: fail, let, set. vm, the front end: statement: kind [ x ] = y; vm, the front end: a statement without a block, all cases; statements in memory. -/
import Derived.Test.YtocbddajakbemaaGreatMJ
import Derived.Deep.AppendLies
import Derived.Deep.RegionHeld3
import Derived.Deep.RegionLaw
set_option linter.unusedVariables false
set_option linter.unusedSimpArgs false
set_option linter.unusedSimpArgs false
namespace Go.Proofs.YtocbddajakbemaaGreat
section
open Go.RowKit
def S1.op : S1 → Nat
  | .le op _ _ => op
  | .pu _ _ _ => 3
  | .en op => op
def S1.num : S1 → Int
  | .pu n _ _ => (n : Nat)
  | _ => 0
def S1.name : S1 → ByteArray
  | .le _ s _ => s
  | _ => ⟨#[]⟩
def S1.args : S1 → Ex
  | .le _ _ x => .u 0 0 x
  | .pu _ i x => .b 0 i x
  | .en _ => .l 0 0 ⟨#[]⟩
def stC (op : Nat) (num : Int) (name : ByteArray) (A : Option Addr) (m cp : Nat) (BA : Option Addr) (bn bc : Nat) : Array Value := #[.int .u8 (op : Nat), .int .i64 num, .string name, .slice A m cp, .slice BA bn bc, .slice none 0 0]
def stZ : Array Value := #[.int .u8 0, .int .i64 0, .string ⟨#[]⟩, .slice none 0 0, .slice none 0 0, .slice none 0 0]
def ResS1 (w : World) (s : S1) (i2 : Nat) (e : Ending) (w' : World) : Prop :=
  ∃ A cp, e = .returned (.tuple #[.agg (stC s.op s.num s.name A s.args.many cp none 0 0), .int .i64 (i2 : Nat), .int .i64 0]) ∧ ExAt w' (fun q => w.heap.size ≤ q ∧ q < w'.heap.size) s.args A cp ∧ Below w.heap.size w w'
theorem ret_st3 {fn : Func} {p u v : Tmp} (h : fn.results = #[.cell p 39, .tmp u, .tmp v]) (tmps : Array Value) (w : World) (g : Nat) (cs : Array Value) (hn : cs.size = 6)
    (hp : tmps.getD p undef = .pointer (some ⟨g, 0, none⟩)) (hg : w.heap[g]? = some (.cells cs 39 (0, 0))) :
    (results fn tmps).run Tryz.prog w = .ok (.tuple #[.agg cs, tmps.getD u undef, tmps.getD v undef]) w := by
  have hp' : tmps[p]?.getD undef = .pointer (some ⟨g, 0, none⟩) := by simpa using hp
  have hi : (Tryz.prog.info? 39).map (·.size) = some cs.size := by rw [hn]; kernel_rfl
  have hl := run_loadVar_row (P := Tryz.prog) w g 39 39 cs (0, 0) _ hg Tryz.underlying39 rfl hi
  simp [results, h, hp', asAddr, hl]
def put6 (w : World) (g : Nat) (a b c d e f : Value) : World := (((((w.setCell ⟨g, 0, none⟩ a).setCell ⟨g, 1, none⟩ b).setCell ⟨g, 2, none⟩ c).setCell ⟨g, 3, none⟩ d).setCell ⟨g, 4, none⟩ e).setCell ⟨g, 5, none⟩ f
theorem put6_ne (w : World) (g : Nat) (a b c d e f : Value) {q : Nat} (hq : q ≠ g) : (put6 w g a b c d e f).heap[q]? = w.heap[q]? := by
  unfold put6
  rw [Below.heap_setCell _ _ _ _ hq, Below.heap_setCell _ _ _ _ hq, Below.heap_setCell _ _ _ _ hq, Below.heap_setCell _ _ _ _ hq, Below.heap_setCell _ _ _ _ hq, Below.heap_setCell _ _ _ _ hq]
theorem put6_size (w : World) (g : Nat) (a b c d e f : Value) : (put6 w g a b c d e f).heap.size = w.heap.size := by unfold put6; simp
theorem put6_block {w : World} {g : Nat} {x y z u v t : Value} {T : TypeId} (a b c d e f : Value) (h : w.heap[g]? = some (.cells #[x, y, z, u, v, t] T (0, 0))) : (put6 w g a b c d e f).heap[g]? = some (.cells #[a, b, c, d, e, f] T (0, 0)) := by
  unfold put6
  exact block_setCell (block_setCell (block_setCell (block_setCell (block_setCell (block_setCell h 0 _) 1 _) 2 _) 3 _) 4 _) 5 _
theorem put6_below {B : Nat} {w w' : World} {g : Nat} (a b c d e f : Value) (h : Below B w w') (hg : B ≤ g) : Below B w (put6 w' g a b c d e f) := by
  unfold put6
  exact (((((h.setCell (p := ⟨g, 0, none⟩) hg _).setCell (p := ⟨g, 1, none⟩) hg _).setCell (p := ⟨g, 2, none⟩) hg _).setCell (p := ⟨g, 3, none⟩) hg _).setCell (p := ⟨g, 4, none⟩) hg _).setCell (p := ⟨g, 5, none⟩) hg _
theorem st_facts {w : World} {g : Nat} {x y z u v t : Value} {T : TypeId} (h : w.heap[g]? = some (.cells #[x, y, z, u, v, t] T (0, 0))) :
    (w.cell? ⟨g, 0, none⟩ = some x ∧ w.cell? ⟨g, 1, none⟩ = some y ∧ w.cell? ⟨g, 2, none⟩ = some z ∧ w.cell? ⟨g, 3, none⟩ = some u ∧ w.cell? ⟨g, 4, none⟩ = some v ∧ w.cell? ⟨g, 5, none⟩ = some t) ∧
    w.frozen? ⟨g, 0, none⟩ = false ∧ w.frozen? ⟨g, 1, none⟩ = false ∧ w.frozen? ⟨g, 2, none⟩ = false ∧ w.frozen? ⟨g, 3, none⟩ = false ∧ w.frozen? ⟨g, 4, none⟩ = false ∧ w.frozen? ⟨g, 5, none⟩ = false :=
  ⟨⟨(cell_of_block h 0).trans rfl, (cell_of_block h 1).trans rfl, (cell_of_block h 2).trans rfl, (cell_of_block h 3).trans rfl, (cell_of_block h 4).trans rfl, (cell_of_block h 5).trans rfl⟩, free_of_block h 0, free_of_block h 1, free_of_block h 2, free_of_block h 3, free_of_block h 4, free_of_block h 5⟩
theorem stop_list : s_stop.toList = [115, 116, 111, 112] := by decide +kernel
theorem fail_list : s_fail.toList = [102, 97, 105, 108] := by decide +kernel
theorem if_list : s_if.toList = [105, 102] := by decide +kernel
theorem while_list : s_while.toList = [119, 104, 105, 108, 101] := by decide +kernel
theorem let_list : s_let.toList = [108, 101, 116] := by decide +kernel
structure StIn (w : World) (g : Nat) (s : ByteArray) (tn col : Int) (w2 : World) : Prop where
  k0 : w2.heap[g]? = some (.cells stZ 39 (0, 0))
  k1 : w2.heap[g + 1]? = some (.cells #[.int .u8 1, .string s, .int .i64 tn, .int .i64 1, .int .i64 col] 97 (0, 0))
  hb : Below g w w2
  hs : g + 2 ≤ w2.heap.size
theorem StIn.below {w w2 w3 : World} {g : Nat} {s : ByteArray} {tn col : Int} (h : StIn w g s tn col w2) (hb : Below w2.heap.size w2 w3) : StIn w g s tn col w3 := by
  have := h.hs
  have := hb.size
  exact ⟨(hb.block _ (by omega)).trans h.k0, (hb.block _ (by omega)).trans h.k1, h.hb.trans (hb.mono (by omega)), by omega⟩
theorem stIn_new (w : World) (s : ByteArray) (tn col : Int) : StIn w w.heap.size s tn col ((w.alloc (.cells stZ 39 (0, 0))).alloc (.cells #[.int .u8 1, .string s, .int .i64 tn, .int .i64 1, .int .i64 col] 97 (0, 0))) :=
  ⟨heap_alloc_fst w _ _, heap_alloc_snd w _ _, ((Below.refl _ _).alloc (Nat.le_refl _) _).alloc (by simp) _, by simp⟩
theorem StIn.facts {w w2 : World} {g : Nat} {s : ByteArray} {tn col : Int} (h : StIn w g s tn col w2) : w2.cell? ⟨g + 1, 0, none⟩ = some (.int .u8 1) ∧ w2.cell? ⟨g + 1, 1, none⟩ = some (.string s) :=
  ⟨(cell_of_block h.k1 0).trans rfl, (cell_of_block h.k1 1).trans rfl⟩
set_option maxRecDepth 100000 in
set_option maxHeartbeats 4000000 in
theorem st_fail (l : List Tk) (A : Option Addr) (cap f i o : Nat) (t : Tk) (hx : l[i]? = some t) (hk : t.kind = 1) (hK : kindM t.text = 0) (hf : (t.text.toList == s_fail.toList) = true)
    (hs : isM l (i + 1) s_semi = some true) (hl : l.length ≤ 100000) (w : World) (ht : TksAt w A l) :
    Calls Tryz.prog 37 #[.slice A l.length cap, .int .i64 (i : Nat), .int .i64 (o : Nat)] w (ResS1 w (.en 7) (i + 2)) := by
  have hns : (t.text.toList == [115, 116, 111, 112]) = false := by
    rw [fail_list] at hf
    have : t.text.toList = [102, 97, 105, 108] := by simpa using hf
    rw [this]; decide
  have hf2 : (t.text.toList == [102, 97, 105, 108]) = true := by rw [← fail_list]; exact hf
  obtain ⟨b, rfl, c0, c1, c2, c3, c4⟩ := ht i t hx
  have hlt := (List.getElem?_eq_some_iff.1 hx).1
  have hbl := World.block_lt_of_cell? w _ c0
  obtain ⟨g, eg⟩ : ∃ g, g = w.heap.size := ⟨_, rfl⟩
  have SI := stIn_new w t.text t.n t.col
  rw [← eg] at SI
  obtain ⟨w2, e2⟩ : ∃ w2, w2 = (w.alloc (.cells stZ 39 (0, 0))).alloc (.cells #[.int .u8 1, .string t.text, .int .i64 t.n, .int .i64 1, .int .i64 t.col] 97 (0, 0)) := ⟨_, rfl⟩
  rw [← e2] at SI
  have KD : Calls Tryz.prog 59 #[.string t.text] w2 fun e w' => e = .returned (.int .u8 0) ∧ Below w2.heap.size w2 w' := by
    have := Kind_ok t.text w2
    rw [hK] at this
    exact this
  have IS : ∀ W, Below g w W → Calls Tryz.prog 62 #[.slice (some ⟨b, 0, none⟩) l.length cap, .int .i64 ((i : Int) + 1), .string s_semi] W fun e w' => e = .returned (.bool true) ∧ W = w' := by
    intro W hW
    have := is_ok (some ⟨b, 0, none⟩) cap l (i + 1) s_semi true hs W (ht.below hW eg)
    rw [Int.natCast_add] at this
    exact this
  have w1 : wrap64 ((i : Int) + 1) = (i : Int) + 1 := by unfold wrap64; omega
  have w2' : wrap64 ((i : Int) + 2) = ((i + 2 : Nat) : Int) := by unfold wrap64; omega
  rw [hk] at c0
  obtain ⟨s, es⟩ : ∃ s, s = t.text := ⟨_, rfl⟩
  rw [← es] at c1 SI KD e2 hf2 hns
  obtain ⟨m0, m1⟩ := SI.facts
  have e3 := e2
  unfold stZ at e3
  obtain ⟨n, en⟩ : ∃ n, n = l.length := ⟨_, rfl⟩
  rw [← en] at IS ⊢
  have i0 : (0 : Int) ≤ (i : Int) := by omega
  have i1 : (i : Int) < (n : Int) := by omega
  have H := Lib.hid (And.intro SI (And.intro IS eg))
  clear SI IS hx hk hK hf hs hl ht hlt en e2 es
  go_enter Tryz.func37, Tryz.ntmps37
  go_upto_region 2 with fail
  rw [← e3, ← eg]
  clear c0 c1 c2 c3 c4 e3 eg hbl
  go_upto_region 10 with (go_at_call 59; refine KD.mono ?_; rintro e w3 ⟨rfl, hb3⟩; have S3 := H.out.1.below hb3; obtain ⟨-, p1⟩ := S3.facts; obtain ⟨⟨d0, d1, d2, d3, d4, d5⟩, z0, z1, z2, z3, z4, z5⟩ := st_facts S3.k0; have HS3 := Lib.hid S3; clear S3 hb3)
  clear m0 m1 KD
  have IS := H.out.2.1 w3 HS3.out.hb
  go_wp2_with (go_at_call 62; refine IS.mono ?_; rintro e w' ⟨rfl, rfl⟩)
  have eg := H.out.2.2
  refine bodyPost_ret (ret_st3 rfl _ _ g _ rfl rfl (put6_block (.int .u8 7) (.int .i64 0) (.string ⟨#[]⟩) (.slice none 0 0) (.slice none 0 0) (.slice none 0 0) HS3.out.k0)) rfl ?_
  exact ⟨none, 0, by rw [← w2']; rfl, ⟨rfl, rfl⟩, by rw [← eg]; exact put6_below _ _ _ _ _ _ HS3.out.hb (Nat.le_refl _)⟩
theorem le_new {w w4 w5 : World} {g : Nat} {s : ByteArray} {tn col : Int} {x : Ex} {A1 : Option Addr} {q1 : Nat} (a c : Value) (Y : Obj) (hx : ExAt w5 (fun q => w4.heap.size ≤ q ∧ q < w5.heap.size) x A1 q1) (S : StIn w g s tn col w5) (h4 : g + 2 ≤ w4.heap.size) :
    ∃ V, V = (((put6 w5 g a (.int .i64 0) c (.slice (some ⟨w5.heap.size + 1, 0, none⟩) 1 1) (.slice none 0 0) (.slice none 0 0)).alloc Y).alloc (.cells #[.int .u8 (x.op : Nat), .int .i64 x.num, .string x.name, .slice A1 x.many q1] 34 (0, 0))).drew ∧
      V.heap[g]? = some (.cells #[a, .int .i64 0, c, .slice (some ⟨w5.heap.size + 1, 0, none⟩) 1 1, .slice none 0 0, .slice none 0 0] 39 (0, 0)) ∧
      ExAt V (fun q => g ≤ q ∧ q < V.heap.size) (.u 0 0 x) (some ⟨w5.heap.size + 1, 0, none⟩) 1 ∧ Below g w V := by
  obtain ⟨U, eU⟩ : ∃ U, U = put6 w5 g a (.int .i64 0) c (.slice (some ⟨w5.heap.size + 1, 0, none⟩) 1 1) (.slice none 0 0) (.slice none 0 0) := ⟨_, rfl⟩
  have hU : ∀ q, q ≠ g → U.heap[q]? = w5.heap[q]? := fun q hq => by rw [eU]; exact put6_ne _ _ _ _ _ _ _ _ hq
  have sU : U.heap.size = w5.heap.size := by rw [eU]; exact put6_size _ _ _ _ _ _ _ _
  have kU : U.heap[g]? = some (.cells #[a, .int .i64 0, c, .slice (some ⟨w5.heap.size + 1, 0, none⟩) 1 1, .slice none 0 0, .slice none 0 0] 39 (0, 0)) := by rw [eU]; exact put6_block _ _ _ _ _ _ S.k0
  have bU : Below g w U := by rw [eU]; exact put6_below _ _ _ _ _ _ S.hb (Nat.le_refl _)
  refine ⟨_, rfl, ?_⟩
  rw [← eU]
  obtain ⟨V, eV⟩ : ∃ V, V = ((U.alloc Y).alloc (.cells #[.int .u8 (x.op : Nat), .int .i64 x.num, .string x.name, .slice A1 x.many q1] 34 (0, 0))).drew := ⟨_, rfl⟩
  have hV : Below U.heap.size U V := by rw [eV]; exact (((Below.refl _ _).alloc (Nat.le_refl _) _).alloc (by simp) _).drew
  have sV : V.heap.size = U.heap.size + 2 := by rw [eV]; show ((U.alloc Y).alloc _).heap.size = _; simp
  have kV : V.heap[w5.heap.size + 1]? = some (.cells #[.int .u8 (x.op : Nat), .int .i64 x.num, .string x.name, .slice A1 x.many q1] 34 (0, 0)) := by rw [eV, ← sU]; exact heap_alloc_snd U _ _
  rw [← eV]
  have hs := S.hs
  refine ⟨(hV.block g (by omega)).trans kU, ⟨w5.heap.size + 1, A1, q1, rfl, ⟨by omega, by omega⟩, ⟨(cell_of_block kV 0).trans rfl, (cell_of_block kV 1).trans rfl, (cell_of_block kV 2).trans rfl, (cell_of_block kV 3).trans rfl⟩, ?_⟩, bU.trans (hV.mono (by omega))⟩
  exact hx.step (fun q hq => (hV.block q (by omega)).trans (hU q (by omega))) (fun q hq => ⟨by omega, by omega⟩)
set_option maxRecDepth 100000 in
set_option maxHeartbeats 4000000 in
theorem st_le (l : List Tk) (A : Option Addr) (cap f i o op ia : Nat) (t t2 : Tk) (x : Ex) (i2 : Nat) (hx : l[i]? = some t) (hk : t.kind = 1) (hK : kindM t.text = 0) (hns : (t.text.toList == s_stop.toList) = false) (hnf : (t.text.toList == s_fail.toList) = false)
    (hni : (t.text.toList == s_if.toList) = false) (hnw : (t.text.toList == s_while.toList) = false) (hlet : (op = 1 ∧ (t.text.toList == s_let.toList) = true ∧ ia = i + 1) ∨ (op = 2 ∧ (t.text.toList == s_let.toList) = false ∧ ia = i))
    (hx2 : l[ia]? = some t2) (hk2 : t2.kind = 1) (hn2 : nameM t2.text = true) (hv : pV l f (ia + 1) o = some (x, i2)) (hl : l.length ≤ 100000) (w : World) (ht : TksAt w A l) :
    Calls Tryz.prog 37 #[.slice A l.length cap, .int .i64 (i : Nat), .int .i64 (o : Nat)] w (ResS1 w (.le op t2.text x) i2) := by
  rw [stop_list] at hns
  rw [fail_list] at hnf
  rw [if_list] at hni
  rw [while_list] at hnw
  rw [let_list] at hlet
  obtain ⟨b, rfl, c0, c1, c2, c3, c4⟩ := ht i t hx
  have hlt := (List.getElem?_eq_some_iff.1 hx).1
  have hlt2 := (List.getElem?_eq_some_iff.1 hx2).1
  have hbl := World.block_lt_of_cell? w _ c0
  obtain ⟨g, eg⟩ : ∃ g, g = w.heap.size := ⟨_, rfl⟩
  have SI := stIn_new w t.text t.n t.col
  rw [← eg] at SI
  obtain ⟨w2, e2⟩ : ∃ w2, w2 = (w.alloc (.cells stZ 39 (0, 0))).alloc (.cells #[.int .u8 1, .string t.text, .int .i64 t.n, .int .i64 1, .int .i64 t.col] 97 (0, 0)) := ⟨_, rfl⟩
  rw [← e2] at SI
  have KD : Calls Tryz.prog 59 #[.string t.text] w2 fun e w' => e = .returned (.int .u8 0) ∧ Below w2.heap.size w2 w' := by
    have := Kind_ok t.text w2
    rw [hK] at this
    exact this
  have NM := Name_ok t2.text hn2
  have VL : ∀ W, Below g w W → Calls Tryz.prog 61 #[.slice (some ⟨b, 0, none⟩) l.length cap, .int .i64 ((ia : Int) + 1), .int .i64 (o : Nat)] W (ResE W x i2) := by
    intro W hW
    have := val_ok l (some ⟨b, 0, none⟩) cap f (ia + 1) o x i2 hv hl W (ht.below hW eg)
    rw [Int.natCast_add] at this
    exact this
  have TK : ∀ W, Below g w W → W.cell? ⟨b, ia * 5, none⟩ = some (.int .u8 1) ∧ W.cell? ⟨b, ia * 5 + 1, none⟩ = some (.string t2.text) := by
    intro W hW
    obtain ⟨b', eb, e0, e1, -⟩ := (ht.below hW eg) ia t2 hx2
    injection eb with eb
    injection eb with eb
    subst eb
    rw [hk2] at e0
    exact ⟨e0, e1⟩
  have u1 : wrap64 ((ia : Int) + 1) = (ia : Int) + 1 := by unfold wrap64; omega
  rw [hk] at c0
  obtain ⟨s, es⟩ : ∃ s, s = t.text := ⟨_, rfl⟩
  rw [← es] at c1 SI KD e2 hns hnf hni hnw hlet
  obtain ⟨s2, es2⟩ : ∃ s2, s2 = t2.text := ⟨_, rfl⟩
  rw [← es2] at NM TK ⊢
  obtain ⟨m0, m1⟩ := SI.facts
  have e3 := e2
  unfold stZ at e3
  obtain ⟨n, en⟩ : ∃ n, n = l.length := ⟨_, rfl⟩
  rw [← en] at VL ⊢
  have i0 : (0 : Int) ≤ (i : Int) := by omega
  have i1 : (i : Int) < (n : Int) := by omega
  have j0 : (0 : Int) ≤ (ia : Int) := by omega
  have j1 : (ia : Int) < (n : Int) := by omega
  have w1' : ia = i + 1 → wrap64 ((i : Int) + 1) = (ia : Int) := by intro h; subst h; unfold wrap64; omega
  have H := Lib.hid (And.intro SI (And.intro VL (And.intro TK (And.intro eg (And.intro hlet w1')))))
  clear SI VL TK hx hk hK hl ht hlt en e2 es hx2 hk2 hn2 hv hlt2 es2 hlet w1'
  go_enter Tryz.func37, Tryz.ntmps37
  go_upto_region 2 with fail
  rw [← e3, ← eg]
  clear c0 c1 c2 c3 c4 e3 eg hbl
  go_upto_region 10 with (go_at_call 59; refine KD.mono ?_; rintro e w3 ⟨rfl, hb3⟩; have S3 := H.out.1.below hb3; obtain ⟨-, p1⟩ := S3.facts; have HS3 := Lib.hid S3; clear S3 hb3)
  clear m0 m1 KD
  go_upto_region 19 with fail
  obtain ⟨SI, VL, TK, eg, hlet, w1'⟩ := H.out
  obtain ⟨e0, e1⟩ := TK w3 HS3.out.hb
  have hbl3 := World.block_lt_of_cell? w3 _ e0
  clear SI VL TK eg i0 i1
  rcases hlet with ⟨rfl, hl1, hia⟩ | ⟨rfl, hl1, rfl⟩
  all_goals (first
    | (have w1 := w1' hia
       clear w1' hia
       go_upto_region 22 with fail
       rw [w1]
       clear w1)
    | (clear w1'
       go_upto_region 22 with fail))
  all_goals (
    go_upto_region 24 with (go_at_call 64; refine (NM _).mono ?_; rintro e w4 ⟨rfl, hb4⟩; have S4 := HS3.out.below hb4; have HS4 := Lib.hid S4; clear S4 hb4)
    have VLx := H.out.2.1 w4 HS4.out.hb
    clear NM e0 e1 hbl3
    go_upto_region 25 with (go_at_call 61; refine VLx.mono ?_; rintro e w5 hr; obtain ⟨A1, q1, rfl, hx5, hb5⟩ := hr.out; have S5 := HS4.out.below hb5; have HS5 := Lib.hid (And.intro S5 (And.intro hx5 hb5)); clear S5 hx5 hb5 hr)
    clear VLx
    obtain ⟨S5, hx5, hb5⟩ := HS5.out
    obtain ⟨-, e1⟩ := H.out.2.2.1 w5 S5.hb
    obtain ⟨⟨d0, d1, d2, d3, d4, d5⟩, z0, z1, z2, z3, z4, z5⟩ := st_facts S5.k0
    have hbl5 := World.block_lt_of_cell? w5 _ e1
    have hgl5 : g < w5.heap.size := by have := S5.hs; omega
    clear S5 hx5 hb5
    go_region
    go_wp2_with fail
    obtain ⟨S5, hx5, hb5⟩ := HS5.out
    obtain ⟨V, eV, kV, hV, bV⟩ := le_new (.int .u8 _) (.string s2) (.cells #[.int .u8 (x.op : Nat), .int .i64 x.num, .string x.name, .slice A1 x.many q1] 34 (0, 0)) hx5 S5 HS4.out.hs
    unfold put6 at eV
    rw [← eV]
    have eg := H.out.2.2.2.1
    refine bodyPost_ret (ret_st3 rfl _ _ g _ rfl rfl kV) rfl ?_
    refine ⟨some ⟨w5.heap.size + 1, 0, none⟩, 1, rfl, ?_, ?_⟩ <;> rw [← eg] <;> assumption)
end
end Go.Proofs.YtocbddajakbemaaGreat
namespace Go.Proofs.YtocbddajakbemaaGreat
section
open Go.RowKit
def StZ (g : Nat) (W : World) : Prop := ∃ a b c d e f, W.heap[g]? = some (.cells #[a, b, c, d, e, f] 39 (0, 0))
def PuS (g gy : Nat) (s : ByteArray) (y : Ex) (A2 : Option Addr) (q2 : Nat) (W : World) : Prop :=
  W.cell? ⟨g + 1, 1, none⟩ = some (.string s) ∧ W.cell? ⟨gy, 0, none⟩ = some (.int .u8 (y.op : Nat)) ∧ W.cell? ⟨gy, 1, none⟩ = some (.int .i64 y.num) ∧ W.cell? ⟨gy, 2, none⟩ = some (.string y.name) ∧ W.cell? ⟨gy, 3, none⟩ = some (.slice A2 y.many q2) ∧ StZ g W
theorem cell_same {w w' : World} {b i : Nat} {v : Value} (h : w.cell? ⟨b, i, none⟩ = some v) (hb : w'.heap[b]? = w.heap[b]?) : w'.cell? ⟨b, i, none⟩ = some v := (show w'.cell? ⟨b, i, none⟩ = w.cell? ⟨b, i, none⟩ by unfold World.cell?; rw [hb]).trans h
theorem StZ.lt {g : Nat} {W : World} (h : StZ g W) : g < W.heap.size := by
  obtain ⟨a, b, c, d, e, f, h⟩ := h; exact lt_of_block h
theorem PuS.same {g gy : Nat} {s : ByteArray} {y : Ex} {A2 : Option Addr} {q2 : Nat} {W W' : World} (h : PuS g gy s y A2 q2 W) (hb : ∀ q, q < W.heap.size → q = g ∨ q = g + 1 ∨ q = gy → W'.heap[q]? = W.heap[q]?) : PuS g gy s y A2 q2 W' := by
  obtain ⟨h0, h1, h2, h3, h4, h5⟩ := h
  have l0 := World.block_lt_of_cell? W _ h0
  have l1 := World.block_lt_of_cell? W _ h1
  have l5 := h5.lt
  refine ⟨cell_same h0 (hb _ l0 (by simp)), cell_same h1 (hb _ l1 (by simp)), cell_same h2 (hb _ l1 (by simp)), cell_same h3 (hb _ l1 (by simp)), cell_same h4 (hb _ l1 (by simp)), ?_⟩
  obtain ⟨a, b, c, d, e, f, h5⟩ := h5
  exact ⟨a, b, c, d, e, f, (hb _ l5 (by simp)).trans h5⟩
theorem PuS.both {g gy : Nat} {s : ByteArray} {y : Ex} {A2 : Option Addr} {q2 : Nat} {W : World} (h : PuS g gy s y A2 q2 W) : (W.cell? ⟨g + 1, 1, none⟩ = some (.string s) ∧ W.cell? ⟨gy, 0, none⟩ = some (.int .u8 (y.op : Nat)) ∧ W.cell? ⟨gy, 1, none⟩ = some (.int .i64 y.num) ∧ W.cell? ⟨gy, 2, none⟩ = some (.string y.name) ∧ W.cell? ⟨gy, 3, none⟩ = some (.slice A2 y.many q2)) ∧ PuS g gy s y A2 q2 W :=
  ⟨⟨h.1, h.2.1, h.2.2.1, h.2.2.2.1, h.2.2.2.2.1⟩, h⟩
theorem PuS.drew {g gy : Nat} {s : ByteArray} {y : Ex} {A2 : Option Addr} {q2 : Nat} {W : World} (h : PuS g gy s y A2 q2 W) : PuS g gy s y A2 q2 W.drew := h
theorem PuS.alloc {g gy : Nat} {s : ByteArray} {y : Ex} {A2 : Option Addr} {q2 : Nat} {W : World} (O : Obj) (h : PuS g gy s y A2 q2 W) : PuS g gy s y A2 q2 (W.alloc O) := h.same fun q hq _ => Below.heap_alloc _ _ _ hq
theorem PuS.below {g gy : Nat} {s : ByteArray} {y : Ex} {A2 : Option Addr} {q2 : Nat} {W W' : World} (h : PuS g gy s y A2 q2 W) (hb : Below W.heap.size W W') : PuS g gy s y A2 q2 W' := h.same fun q hq _ => hb.block q hq
theorem PuS.grown {g gy bb : Nat} {s : ByteArray} {y : Ex} {A2 : Option Addr} {q2 : Nat} {W W' : World} (h : PuS g gy s y A2 q2 W) (hb : W.grownBy W' (some bb)) (h0 : g ≠ bb) (h1 : g + 1 ≠ bb) (h2 : gy ≠ bb) : PuS g gy s y A2 q2 W' :=
  h.same fun q hq e => hb.block q hq (fun c => by injection c with c; omega)
theorem StZ.set {g i : Nat} {W : World} (h : StZ g W) (hi : i < 6) (v : Value) : StZ g (W.setCell ⟨g, i, none⟩ v) := by
  obtain ⟨a, b, c, d, e, f, h⟩ := h
  have := block_setCell h i v
  rcases (by omega : i = 0 ∨ i = 1 ∨ i = 2 ∨ i = 3 ∨ i = 4 ∨ i = 5) with rfl | rfl | rfl | rfl | rfl | rfl <;> exact ⟨_, _, _, _, _, _, this⟩
theorem PuS.set {g gy i : Nat} {s : ByteArray} {y : Ex} {A2 : Option Addr} {q2 : Nat} {W : World} (h : PuS g gy s y A2 q2 W) (hi : i < 6) (v : Value) (hg : gy ≠ g) : PuS g gy s y A2 q2 (W.setCell ⟨g, i, none⟩ v) := by
  obtain ⟨h0, h1, h2, h3, h4, h5⟩ := h
  have hb : ∀ q, q ≠ g → (W.setCell ⟨g, i, none⟩ v).heap[q]? = W.heap[q]? := fun q hq => Below.heap_setCell _ _ _ _ hq
  exact ⟨cell_same h0 (hb _ (by omega)), cell_same h1 (hb _ hg), cell_same h2 (hb _ hg), cell_same h3 (hb _ hg), cell_same h4 (hb _ hg), h5.set hi v⟩
theorem PuS.facts {g gy : Nat} {s : ByteArray} {y : Ex} {A2 : Option Addr} {q2 : Nat} {W : World} (h : PuS g gy s y A2 q2 W) : ∃ a b c d e f, (W.cell? ⟨g, 0, none⟩ = some a ∧ W.cell? ⟨g, 1, none⟩ = some b ∧ W.cell? ⟨g, 2, none⟩ = some c ∧ W.cell? ⟨g, 3, none⟩ = some d ∧ W.cell? ⟨g, 4, none⟩ = some e ∧ W.cell? ⟨g, 5, none⟩ = some f) ∧
    W.frozen? ⟨g, 0, none⟩ = false ∧ W.frozen? ⟨g, 1, none⟩ = false ∧ W.frozen? ⟨g, 2, none⟩ = false ∧ W.frozen? ⟨g, 3, none⟩ = false ∧ W.frozen? ⟨g, 4, none⟩ = false ∧ W.frozen? ⟨g, 5, none⟩ = false := by
  obtain ⟨a, b, c, d, e, f, k⟩ := h.2.2.2.2.2
  exact ⟨a, b, c, d, e, f, st_facts k⟩
theorem own_blk {w w' : World} {B e s n : Nat} {v : Value} {xs : List Value} (h : w.ownsRow B e s v n xs) (hb : ∀ q, v.ownBlock = some q → w'.heap[q]? = w.heap[q]?) : w'.ownsRow B e s v n xs := by
  refine ⟨h.1, ?_⟩
  rcases h.2 with h | ⟨g, cap, cur, rfl, hB, hh, r⟩
  · exact Or.inl h
  · exact Or.inr ⟨g, cap, cur, rfl, hB, (hb g rfl).trans hh, r⟩
theorem belowNext {w W W' : World} (h : Below w.heap.size w W) (hb : Below W.heap.size W W') : Below w.heap.size w W' := h.trans (hb.mono h.size)
theorem belowSize {w W : World} (h : Below w.heap.size w W) : w.heap.size ≤ W.heap.size := h.size
theorem belowAlloc {w W : World} (O : Obj) (h : Below w.heap.size w W) : Below w.heap.size w (W.alloc O) := h.alloc h.size O
theorem pu_new {w w3 w4 w5 wA W7 w8 : World} {g bb gb cb : Nat} {s : ByteArray} {tn col : Int} {x y : Ex} {A1 A2 : Option Addr} {q1 q2 : Nat} (a c : Value) (v : Int) (S3 : StIn w g s tn col w3) (hbb : w3.heap.size ≤ bb ∧ bb < w4.heap.size)
    (hea4 : ExAt w4 (fun q => w3.heap.size ≤ q ∧ q < bb) x A1 q1) (hb34 : Below w3.heap.size w3 w4) (S5 : StIn w g s tn col w5) (hy5 : ExAt w5 (fun q => w4.heap.size ≤ q ∧ q < w5.heap.size) y A2 q2) (hb5 : Below w4.heap.size w4 w5)
    (hbA : Below w5.heap.size w5 wA) (HA : Below wA.heap.size wA W7) (hg8 : W7.grownBy w8 (some bb)) (hown8 : w8.ownsRow w3.heap.size 34 4 (.slice (some ⟨gb, 0, none⟩) 2 cb) 2 (x.row A1 q1 ++ y.row A2 q2))
    (hat8 : some bb = some gb ∨ gb = W7.heap.size) (hlt8 : gb < w8.heap.size) (hz : StZ g w8) :
    ∃ V, V = put6 w8 g a (.int .i64 v) c (.slice (some ⟨gb, 0, none⟩) 2 cb) (.slice none 0 0) (.slice none 0 0) ∧ V.heap[g]? = some (.cells #[a, .int .i64 v, c, .slice (some ⟨gb, 0, none⟩) 2 cb, .slice none 0 0, .slice none 0 0] 39 (0, 0)) ∧
      ExAt V (fun q => g ≤ q ∧ q < V.heap.size) (.b 0 x y) (some ⟨gb, 0, none⟩) cb ∧ Below g w V := by
  refine ⟨_, rfl, ?_⟩
  obtain ⟨V, eV⟩ : ∃ V, V = put6 w8 g a (.int .i64 v) c (.slice (some ⟨gb, 0, none⟩) 2 cb) (.slice none 0 0) (.slice none 0 0) := ⟨_, rfl⟩
  have hV : ∀ q, q ≠ g → V.heap[q]? = w8.heap[q]? := fun q hq => by rw [eV]; exact put6_ne _ _ _ _ _ _ _ _ hq
  have sV : V.heap.size = w8.heap.size := by rw [eV]; exact put6_size _ _ _ _ _ _ _ _
  obtain ⟨z0, z1, z2, z3, z4, z5, hz⟩ := hz
  have kV : V.heap[g]? = some (.cells #[a, .int .i64 v, c, .slice (some ⟨gb, 0, none⟩) 2 cb, .slice none 0 0, .slice none 0 0] 39 (0, 0)) := by rw [eV]; exact put6_block _ _ _ _ _ _ hz
  have h3 := S3.hs
  have s34 := hb34.size
  have s5 := hb5.size
  have sA := hbA.size
  have s7 := HA.size
  have s8 := hg8.size
  have hgb : w3.heap.size ≤ gb := by
    rcases hat8 with h | h
    · injection h with h; omega
    · omega
  obtain ⟨b', cp', e', -, hcell⟩ := row_own hown8 (by simp [Ex.row])
  simp only [Value.slice.injEq, Option.some.injEq, Addr.mk.injEq, and_true, true_and] at e'
  obtain ⟨rfl, rfl⟩ := e'
  have b57 : Below w5.heap.size w5 W7 := hbA.trans (HA.mono hbA.size)
  have b8 : Below g w w8 := (S5.hb.trans (b57.mono (by omega))).grown hg8 (by omega) (fun q hq => by injection hq with hq; omega)
  have hq8 : ∀ q, q < w5.heap.size → q ≠ bb → w8.heap[q]? = w5.heap[q]? := fun q h1 h2 => (hg8.block q (by omega) (by simp; omega)).trans (b57.block q h1)
  rw [← eV]
  refine ⟨kV, ⟨gb, A1, q1, A2, q2, rfl, ⟨by omega, by omega⟩, ?_, ?_, ?_, ?_⟩, by rw [eV]; exact put6_below _ _ _ _ _ _ b8 (Nat.le_refl _)⟩
  · refine ExC.step (exC_row fun j u h => ?_) (hV gb (by omega))
    rw [Nat.zero_add]
    refine hcell j u ?_
    rw [List.getElem?_append_left (List.getElem?_eq_some_iff.1 h).1]; exact h
  · refine ExC.step (exC_row fun j u h => ?_) (hV gb (by omega))
    refine hcell (4 + j) u ?_
    rw [List.getElem?_append_right (by simp [Ex.row])]
    simpa [Ex.row] using h
  · refine hea4.step (fun q hq => ?_) (fun q hq => ⟨by omega, by omega⟩)
    exact (hV q (by omega)).trans ((hq8 q (by omega) (by omega)).trans (hb5.block q (by omega)))
  · refine hy5.step (fun q hq => ?_) (fun q hq => ⟨by omega, by omega⟩)
    exact (hV q (by omega)).trans (hq8 q (by omega) (by omega))
set_option maxRecDepth 100000 in
set_option maxHeartbeats 4000000 in
theorem st_pu (l : List Tk) (A : Option Addr) (cap f i o j i3 : Nat) (t : Tk) (x y : Ex) (hx : l[i]? = some t) (hk : t.kind = 1) (hK : 0 < kindM t.text) (hi : pE l f (.ins (i + 1) o s_sq s_sqc) = some (x, j)) (hv : pV l f j o = some (y, i3))
    (hl : l.length ≤ 100000) (w : World) (ht : TksAt w A l) :
    Calls Tryz.prog 37 #[.slice A l.length cap, .int .i64 (i : Nat), .int .i64 (o : Nat)] w (ResS1 w (.pu (kindM t.text) x y) i3) := by
  obtain ⟨b, rfl, c0, c1, c2, c3, c4⟩ := ht i t hx
  have hlt := (List.getElem?_eq_some_iff.1 hx).1
  have hbl := World.block_lt_of_cell? w _ c0
  obtain ⟨g, eg⟩ : ∃ g, g = w.heap.size := ⟨_, rfl⟩
  have SI := stIn_new w t.text t.n t.col
  rw [← eg] at SI
  obtain ⟨w2, e2⟩ : ∃ w2, w2 = (w.alloc (.cells stZ 39 (0, 0))).alloc (.cells #[.int .u8 1, .string t.text, .int .i64 t.n, .int .i64 1, .int .i64 t.col] 97 (0, 0)) := ⟨_, rfl⟩
  rw [← e2] at SI
  have KD := Kind_ok t.text
  have hK10 := kindM_le t.text
  obtain ⟨K, eK⟩ : ∃ K, K = kindM t.text := ⟨_, rfl⟩
  rw [← eK] at KD hK hK10 ⊢
  have IN : ∀ W, Below g w W → Calls Tryz.prog 60 #[.slice (some ⟨b, 0, none⟩) l.length cap, .int .i64 ((i : Int) + 1), .int .i64 (o : Nat), .string s_sq, .string s_sqc, .int .i64 1] W (ResI W x j) := by
    intro W hW
    have := (PE_ok l (some ⟨b, 0, none⟩) cap hl f).ins W (i + 1) o s_sq s_sqc x j (ht.below hW eg) hi
    rw [Int.natCast_add] at this
    exact this
  have VL : ∀ W, Below g w W → Calls Tryz.prog 61 #[.slice (some ⟨b, 0, none⟩) l.length cap, .int .i64 (j : Nat), .int .i64 (o : Nat)] W (ResE W y i3) :=
    fun W hW => val_ok l (some ⟨b, 0, none⟩) cap f j o y i3 hv hl W (ht.below hW eg)
  have w1 : wrap64 ((i : Int) + 1) = (i : Int) + 1 := by unfold wrap64; omega
  have wK : wrap64 (K : Int) = (K : Int) := by unfold wrap64; omega
  rw [hk] at c0
  obtain ⟨s, es⟩ : ∃ s, s = t.text := ⟨_, rfl⟩
  rw [← es] at c1 SI KD e2
  obtain ⟨m0, m1⟩ := SI.facts
  have e3 := e2
  unfold stZ at e3
  obtain ⟨n, en⟩ : ∃ n, n = l.length := ⟨_, rfl⟩
  rw [← en] at IN VL ⊢
  have i0 : (0 : Int) ≤ (i : Int) := by omega
  have i1 : (i : Int) < (n : Int) := by omega
  have H := Lib.hid (And.intro SI (And.intro IN (And.intro VL (And.intro eg (And.intro hK10 eK)))))
  clear SI IN VL hx hk hi hv hl ht hlt en e2 es eK hK10
  go_enter Tryz.func37, Tryz.ntmps37
  go_upto_region 2 with fail
  rw [← e3, ← eg]
  clear c0 c1 c2 c3 c4 e3 eg hbl
  go_upto_region 5 with (go_at_call 59; refine (KD _).mono ?_; rintro e w3 ⟨rfl, hb3⟩; have S3 := H.out.1.below hb3; have HS3 := Lib.hid S3; clear S3 hb3)
  clear m0 m1 hK
  have IN := H.out.2.1 w3 HS3.out.hb
  go_upto_region 6 with (go_at_call 60; refine IN.mono ?_; rintro e w4 ⟨bb, cp, A1, q1, rfl, hr4⟩; have S4 := HS3.out.below hr4.2.2.2.2; have HS4 := Lib.hid (And.intro S4 hr4); clear S4 hr4)
  clear IN
  have VL := H.out.2.2.1 w4 HS4.out.1.hb
  go_upto_region 9 with (go_at_call 61; refine VL.mono ?_; rintro e w5 hr; obtain ⟨A2, q2, rfl, hy5, hb5⟩ := hr.out; have S5 := HS4.out.1.below hb5; have HS5 := Lib.hid (And.intro S5 (And.intro hy5 hb5)); clear S5 hy5 hb5 hr)
  clear VL
  obtain ⟨gy, egy⟩ : ∃ gy, gy = w5.heap.size := ⟨_, rfl⟩
  obtain ⟨wA, eA⟩ : ∃ wA, wA = w5.alloc (.cells #[.int .u8 (y.op : Nat), .int .i64 y.num, .string y.name, .slice A2 y.many q2] 34 (0, 0)) := ⟨_, rfl⟩
  rw [← eA, ← egy]
  obtain ⟨S4, hbb, how4, hec4, hea4, hb34⟩ := HS4.out
  obtain ⟨S5, hy5, hb5⟩ := HS5.out
  have s3 := HS3.out.hs
  have s4 := hb34.size
  have s5 := hb5.size
  have hbA : Below w5.heap.size w5 wA := by rw [eA]; exact (Below.refl _ _).alloc (Nat.le_refl _) _
  have sA : wA.heap.size = w5.heap.size + 1 := by rw [eA]; simp
  have SA := S5.below hbA
  have kA : wA.heap[gy]? = some (.cells #[.int .u8 (y.op : Nat), .int .i64 y.num, .string y.name, .slice A2 y.many q2] 34 (0, 0)) := by rw [eA, egy]; exact heap_alloc_new w5 _
  obtain ⟨y0, y1, y2, y3, -⟩ := ex_facts kA
  have P0 : PuS g gy s y A2 q2 wA := ⟨SA.facts.2, y0, y1, y2, y3, ⟨_, _, _, _, _, _, SA.k0⟩⟩
  have RB : ∀ W, Below wA.heap.size wA W → W.ownsRow w3.heap.size 34 4 (.slice (some ⟨bb, 0, none⟩) 1 cp) 1 (x.row A1 q1) := by
    intro W hW
    have e : W.heap[bb]? = w4.heap[bb]? := (hW.block bb (by omega)).trans ((hbA.block bb (by omega)).trans (hb5.block bb hbb.2))
    exact own_blk how4 (fun q hq => by simp [Value.ownBlock] at hq; subst hq; exact e)
  have n1 : gy ≠ g := by omega
  have n2 : g ≠ bb := by omega
  have n3 : g + 1 ≠ bb := by omega
  have n4 : gy ≠ bb := by omega
  obtain ⟨i9, hi9, hz0, hz1, hz2⟩ := info_parts infoExpr
  have HI := Lib.hid (And.intro hi9 (And.intro hz0 (And.intro hz1 hz2)))
  have HN := Lib.hid (And.intro (show (y.row A2 q2).length = 1 * 4 from rfl) (Ex.row_one y A2 q2))
  have HR := Lib.hid (And.intro RB (show w3.heap.size ≤ wA.heap.size by omega))
  have HE := Lib.hid (And.intro eA egy)
  clear S4 hbb how4 hec4 hea4 hb34 S5 hy5 hb5 s3 s4 s5 hbA sA SA kA y0 y1 y2 y3 RB hi9 hz0 hz1 hz2 eA egy
  go_region_held3 (fun W => (W.cell? ⟨g + 1, 1, none⟩ = some (.string s) ∧ W.cell? ⟨gy, 0, none⟩ = some (.int .u8 (y.op : Nat)) ∧ W.cell? ⟨gy, 1, none⟩ = some (.int .i64 y.num) ∧ W.cell? ⟨gy, 2, none⟩ = some (.string y.name) ∧ W.cell? ⟨gy, 3, none⟩ = some (.slice A2 y.many q2)) ∧ PuS g gy s y A2 q2 W)
    ((refine PuS.both ?_; repeat (first | with_reducible assumption | with_reducible exact (And.right (by with_reducible assumption)) | with_reducible apply PuS.drew | with_reducible apply PuS.alloc | with_reducible refine PuS.set ?_ (by omega) _ n1)))
    (first
      | (refine step_call 59 [.tmp 54] _ rfl rfl (fun _ _ => rfl) _ rfl (KD _) ?_
         rintro e w7 ⟨rfl, hb7⟩
         refine ⟨_, rfl, ?_⟩
         have P7 : PuS g gy s y A2 q2 w7 := PuS.below (And.right (by with_reducible assumption)) hb7
         obtain ⟨a0, a1, a2, a3, a4, a5, ⟨d0, d1, d2, d3, d4, d5⟩, z0, z1, z2, z3, z4, z5⟩ := P7.facts
         first
         | (have hA : Below wA.heap.size wA w7 := belowNext (by repeat (first | exact Below.refl _ _ | apply Below.drew | apply belowAlloc)) hb7
            have HA7 := Lib.hid hA; clear hA)
         | skip
         first
         | (have hO : w7.heap[wA.heap.size]? = some (.cells #[.int .u8 (y.op : Nat), .int .i64 y.num, .string y.name, .slice A2 y.many q2] 34 (0, 0)) := (hb7.block _ (by simp)).trans (heap_alloc_new _ _)
            have HO7 := Lib.hid hO; clear hO)
         | skip
         have HB7 := Lib.hid hb7; clear hb7)
      | (refine step_append_lies _ rfl (.tmp 57) (.tmp 59) 32 rfl w3.heap.size 34 i9 _ 4 56 Tryz.underlying32 HI.out.1 HI.out.2.1 HI.out.2.2.1 HI.out.2.2.2 rfl (by decide) (.slice (some ⟨bb, 0, none⟩) 1 cp) 1 (x.row A1 q1) rfl
           (HR.out.1 _ (by repeat (first | exact Below.refl _ _ | exact HA7.out | apply Below.drew | apply belowAlloc))) _ 1 1 (y.row A2 q2) rfl HN.out.1 (by first | exact World.news_of_block (heap_alloc_new _ _) | exact World.news_of_block HO7.out) HN.out.2 (by decide) (by decide) (by decide)
           (Nat.le_trans HR.out.2 (belowSize (by repeat (first | exact Below.refl _ _ | exact HA7.out | apply Below.drew | apply belowAlloc)))) _ rfl ?_
         intro gb cb w8 hown8 hg8 hat8 hlt8
         have P8 : PuS g gy s y A2 q2 w8 := PuS.grown (And.right (by with_reducible assumption)) hg8 n2 n3 n4
         obtain ⟨a0, a1, a2, a3, a4, a5, ⟨d0, d1, d2, d3, d4, d5⟩, z0, z1, z2, z3, z4, z5⟩ := P8.facts
         have HV := Lib.hid (And.intro hown8 (And.intro hg8 (And.intro hat8 hlt8))); clear hown8 hg8 hat8 hlt8))
  all_goals go_wp2_with fail
  all_goals (
    obtain ⟨S4, hbb, how4, hec4, hea4, hb34⟩ := HS4.out
    obtain ⟨S5, hy5, hb5⟩ := HS5.out
    obtain ⟨hown8, hg8, hat8, hlt8⟩ := HV.out
    have hbA : Below w5.heap.size w5 wA := by rw [HE.out.1]; exact (Below.refl _ _).alloc (Nat.le_refl _) _
    have eg := H.out.2.2.2.1
    have NEW := fun v => by
      first
        | exact pu_new (.int .u8 3) (.string ⟨#[]⟩) v HS3.out hbb hea4 hb34 S5 hy5 hb5 hbA HA7.out hg8 hown8 hat8 hlt8 P8.2.2.2.2.2
        | exact pu_new (.int .u8 3) (.string ⟨#[]⟩) v HS3.out hbb hea4 hb34 S5 hy5 hb5 hbA (belowAlloc _ HA7.out) hg8 hown8 hat8 hlt8 P8.2.2.2.2.2
    obtain ⟨V, eV, kV, hV, bV⟩ := NEW (K : Int)
    unfold put6 at eV
    rw [show IntKind.i64.wrap (K : Int) = (K : Int) from Go.IntWalk.i64_in _ (by have := H.out.2.2.2.2.1; omega), ← eV]
    refine bodyPost_ret (ret_st3 rfl _ _ g _ rfl rfl kV) rfl ?_
    refine ⟨some ⟨gb, 0, none⟩, cb, ?_, ?_, ?_⟩
    · rfl
    · rw [← eg]; exact hV
    · rw [← eg]; exact bV)
end
end Go.Proofs.YtocbddajakbemaaGreat
namespace Go.Proofs.YtocbddajakbemaaGreat
section
open Go.RowKit
theorem st1_ok (l : List Tk) (A : Option Addr) (cap f i o : Nat) (s : S1) (i2 : Nat) (h : pS1 l f i o = some (s, i2)) (hl : l.length ≤ 100000) (w : World) (ht : TksAt w A l) :
    Calls Tryz.prog 37 #[.slice A l.length cap, .int .i64 (i : Nat), .int .i64 (o : Nat)] w (ResS1 w s i2) := by
  unfold pS1 at h
  rcases hx : l[i]? with _ | t
  · rw [hx] at h; cases h
  rw [hx] at h
  simp only at h
  by_cases hk : t.kind ≠ 1
  · rw [if_pos hk] at h; cases h
  rw [if_neg hk] at h
  have hk : t.kind = 1 := by omega
  by_cases hK : 0 < kindM t.text
  · rw [if_pos hK] at h
    rcases hp : pE l f (.ins (i + 1) o s_sq s_sqc) with _ | ⟨x, j⟩
    · rw [hp] at h; cases h
    rw [hp] at h
    simp only at h
    rcases hv : pV l f j o with _ | ⟨y, i3⟩
    · rw [hv] at h; cases h
    rw [hv] at h
    simp only [Option.some.injEq, Prod.mk.injEq] at h
    obtain ⟨rfl, rfl⟩ := h
    exact st_pu l A cap f i o j i3 t x y hx hk hK hp hv hl w ht
  rw [if_neg hK] at h
  have hK : kindM t.text = 0 := by omega
  by_cases h1 : (t.text.toList == s_stop.toList) = true
  · rw [if_pos h1] at h; cases h
  rw [if_neg h1] at h
  by_cases h2 : (t.text.toList == s_fail.toList) = true
  · rw [if_pos h2] at h
    by_cases h3 : isM l (i + 1) s_semi = some true
    · rw [if_pos h3] at h
      simp only [Option.some.injEq, Prod.mk.injEq] at h
      obtain ⟨rfl, rfl⟩ := h
      exact st_fail l A cap f i o t hx hk hK h2 h3 hl w ht
    · rw [if_neg h3] at h; cases h
  rw [if_neg h2] at h
  by_cases h3 : (t.text.toList == s_if.toList) = true ∨ (t.text.toList == s_while.toList) = true
  · rw [if_pos h3] at h; cases h
  rw [if_neg h3] at h
  have e1 : (t.text.toList == s_stop.toList) = false := by simpa using h1
  have e2 : (t.text.toList == s_fail.toList) = false := by simpa using h2
  have e3 : (t.text.toList == s_if.toList) = false := by
    rcases hb : (t.text.toList == s_if.toList) with _ | _
    · rfl
    · exact absurd (Or.inl hb) h3
  have e4 : (t.text.toList == s_while.toList) = false := by
    rcases hb : (t.text.toList == s_while.toList) with _ | _
    · rfl
    · exact absurd (Or.inr hb) h3
  by_cases h4 : (t.text.toList == s_let.toList) = true
  · rw [if_pos h4] at h
    rcases hx2 : l[i + 1]? with _ | t2
    · rw [hx2] at h; cases h
    rw [hx2] at h
    simp only at h
    by_cases h5 : t2.kind = 1 ∧ nameM t2.text = true
    · rw [if_pos h5] at h
      rcases hv : pV l f (i + 2) o with _ | ⟨y, i3⟩
      · rw [hv] at h; cases h
      rw [hv] at h
      simp only [Option.some.injEq, Prod.mk.injEq] at h
      obtain ⟨rfl, rfl⟩ := h
      exact st_le l A cap f i o 1 (i + 1) t t2 y i3 hx hk hK e1 e2 e3 e4 (Or.inl ⟨rfl, h4, rfl⟩) hx2 h5.1 h5.2 hv hl w ht
    · rw [if_neg h5] at h; cases h
  rw [if_neg h4] at h
  by_cases h5 : nameM t.text = true
  · rw [if_pos h5] at h
    rcases hv : pV l f (i + 1) o with _ | ⟨y, i3⟩
    · rw [hv] at h; cases h
    rw [hv] at h
    simp only [Option.some.injEq, Prod.mk.injEq] at h
    obtain ⟨rfl, rfl⟩ := h
    exact st_le l A cap f i o 2 i t t y i3 hx hk hK e1 e2 e3 e4 (Or.inr ⟨rfl, by simpa using h4, rfl⟩) hx hk h5 hv hl w ht
  · rw [if_neg h5] at h; cases h
def S2.op : S2 → Nat
  | .si s => s.op
  | .wh _ _ => 5
def S2.num : S2 → Int
  | .si s => s.num
  | .wh _ _ => 0
def S2.name : S2 → ByteArray
  | .si s => s.name
  | .wh _ _ => ⟨#[]⟩
def S2.args : S2 → Ex
  | .si s => s.args
  | .wh x _ => .u 0 0 x
def S2.body : S2 → List S1
  | .si _ => []
  | .wh _ b => b
structure StC (w : World) (g o : Nat) (s : S2) (A : Option Addr) (cp : Nat) (BA : Option Addr) (bc : Nat) : Prop where
  c0 : w.cell? ⟨g, o, none⟩ = some (.int .u8 (s.op : Nat))
  c1 : w.cell? ⟨g, o + 1, none⟩ = some (.int .i64 s.num)
  c2 : w.cell? ⟨g, o + 2, none⟩ = some (.string s.name)
  c3 : w.cell? ⟨g, o + 3, none⟩ = some (.slice A s.args.many cp)
  c4 : w.cell? ⟨g, o + 4, none⟩ = some (.slice BA s.body.length bc)
  c5 : w.cell? ⟨g, o + 5, none⟩ = some (.slice none 0 0)
theorem StC.step {w w' : World} {g o cp bc : Nat} {s : S2} {A BA : Option Addr} (h : StC w g o s A cp BA bc) (hb : w'.heap[g]? = w.heap[g]?) : StC w' g o s A cp BA bc := by
  have e : ∀ i, w'.cell? ⟨g, i, none⟩ = w.cell? ⟨g, i, none⟩ := fun i => by unfold World.cell?; rw [hb]
  exact ⟨(e _).trans h.c0, (e _).trans h.c1, (e _).trans h.c2, (e _).trans h.c3, (e _).trans h.c4, (e _).trans h.c5⟩
def Sts0 (w : World) (ok : Nat → Prop) (l : List S1) (BA : Option Addr) : Prop :=
  ∀ (j : Nat) (s : S1), l[j]? = some s → ∃ g A cp BA' bc, BA = some ⟨g, 0, none⟩ ∧ ok g ∧ StC w g (j * 6) (.si s) A cp BA' bc ∧ ExAt w ok s.args A cp
def Sts (w : World) (ok : Nat → Prop) (l : List S2) (BA : Option Addr) : Prop :=
  ∀ (j : Nat) (s : S2), l[j]? = some s → ∃ g A cp BA' bc, BA = some ⟨g, 0, none⟩ ∧ ok g ∧ StC w g (j * 6) s A cp BA' bc ∧ ExAt w ok s.args A cp ∧ Sts0 w ok s.body BA'
theorem Sts0.step {w w' : World} {ok ok' : Nat → Prop} {l : List S1} {BA : Option Addr} (h : Sts0 w ok l BA) (hs : ∀ q, ok q → w'.heap[q]? = w.heap[q]?) (ho : ∀ q, ok q → ok' q) : Sts0 w' ok' l BA := by
  intro j s hj
  obtain ⟨g, A, cp, BA', bc, e, h1, h2, h3⟩ := h j s hj
  exact ⟨g, A, cp, BA', bc, e, ho g h1, h2.step (hs g h1), h3.step hs ho⟩
theorem Sts.step {w w' : World} {ok ok' : Nat → Prop} {l : List S2} {BA : Option Addr} (h : Sts w ok l BA) (hs : ∀ q, ok q → w'.heap[q]? = w.heap[q]?) (ho : ∀ q, ok q → ok' q) : Sts w' ok' l BA := by
  intro j s hj
  obtain ⟨g, A, cp, BA', bc, e, h1, h2, h3, h4⟩ := h j s hj
  exact ⟨g, A, cp, BA', bc, e, ho g h1, h2.step (hs g h1), h3.step hs ho, h4.step hs ho⟩
theorem Sts0.wide {w : World} {ok : Nat → Prop} {l : List S1} {BA : Option Addr} (h : Sts0 w ok l BA) : Sts w ok (l.map .si) BA := by
  intro j s hj
  rw [List.getElem?_map] at hj
  rcases hx : l[j]? with _ | s1
  · rw [hx] at hj; cases hj
  rw [hx] at hj
  injection hj with hj
  subst hj
  obtain ⟨g, A, cp, BA', bc, e, h1, h2, h3⟩ := h j s1 hx
  exact ⟨g, A, cp, BA', bc, e, h1, h2, h3, fun j s hj => by simp [S2.body] at hj⟩
def ResS2 (w : World) (s : S2) (i2 : Nat) (e : Ending) (w' : World) : Prop :=
  ∃ A cp BA bc, e = .returned (.tuple #[.agg (stC s.op s.num s.name A s.args.many cp BA s.body.length bc), .int .i64 (i2 : Nat), .int .i64 0]) ∧ ExAt w' (fun q => w.heap.size ≤ q ∧ q < w'.heap.size) s.args A cp ∧ Sts0 w' (fun q => w.heap.size ≤ q ∧ q < w'.heap.size) s.body BA ∧ Below w.heap.size w w'
theorem ResS1.wide {w w' : World} {s : S1} {i2 : Nat} {e : Ending} (h : ResS1 w s i2 e w') : ResS2 w (.si s) i2 e w' := by
  obtain ⟨A, cp, e, h1, h2⟩ := h
  exact ⟨A, cp, none, 0, e, h1, fun j s hj => by simp [S2.body] at hj, h2⟩
def ResB (w : World) (b : List S1) (i2 : Nat) (e : Ending) (w' : World) : Prop :=
  ∃ BA bc, e = .returned (.tuple #[.slice BA b.length bc, .int .i64 (i2 : Nat), .int .i64 0]) ∧ Sts0 w' (fun q => w.heap.size ≤ q ∧ q < w'.heap.size) b BA ∧ Below w.heap.size w w'
structure SR where
  s : S2
  A : Option Addr
  cp : Nat
  BA : Option Addr
  bc : Nat
def SR.cells (r : SR) : List Value := (stC r.s.op r.s.num r.s.name r.A r.s.args.many r.cp r.BA r.s.body.length r.bc).toList
def srs (l : List SR) : List Value := l.flatMap SR.cells
theorem srs_length (l : List SR) : (srs l).length = l.length * 6 := by
  induction l with
  | nil => rfl
  | cons c l ih => show (c.cells ++ srs l).length = _; rw [List.length_append, ih]; simp [SR.cells, stC]; omega
theorem srs_snoc (l : List SR) (t : SR) : srs (l ++ [t]) = srs l ++ t.cells := by simp [srs]
theorem sr_one (t : SR) : ∀ u ∈ t.cells, u.oneCell' = true := by
  intro u hu
  simp only [SR.cells, stC, List.mem_cons, List.not_mem_nil, or_false] at hu
  rcases hu with rfl | rfl | rfl | rfl | rfl | rfl <;> rfl
theorem srs_at {l : List SR} {j : Nat} {r : SR} (h : l[j]? = some r) (k : Nat) (hk : k < 6) : (srs l)[j * 6 + k]? = r.cells[k]? := by
  induction l generalizing j with
  | nil => simp at h
  | cons c l ih =>
    have hc : c.cells.length = 6 := rfl
    show (c.cells ++ srs l)[j * 6 + k]? = _
    rcases j with _ | j
    · simp at h
      subst h
      rw [Nat.zero_mul, Nat.zero_add, List.getElem?_append_left (by omega)]
    · rw [List.getElem?_append_right (by omega), hc, show (j + 1) * 6 + k - 6 = j * 6 + k by omega]
      exact ih (by simpa using h)
def RowR (w : World) (ok : Nat → Prop) (l : List SR) : Prop := ∀ r, r ∈ l → ExAt w ok r.s.args r.A r.cp ∧ Sts0 w ok r.s.body r.BA
theorem RowR.step {w w' : World} {ok ok' : Nat → Prop} {l : List SR} (h : RowR w ok l) (hs : ∀ q, ok q → w'.heap[q]? = w.heap[q]?) (ho : ∀ q, ok q → ok' q) : RowR w' ok' l :=
  fun r hr => ⟨(h r hr).1.step hs ho, (h r hr).2.step hs ho⟩
theorem infoStmt : (Tryz.prog.info? 39).map (fun i => (i.zero, i.size, i.bytes)) = some (some (.agg stZ), 6, 104) := by kernel_rfl
theorem row_sts {w : World} {B : Nat} {v : Value} {l : List SR} {ok : Nat → Prop} (h : w.ownsRow B 39 6 v l.length (srs l)) (hr : RowR w ok l) (ho : ∀ q, B ≤ q → q < w.heap.size → ok q) :
    ∃ BA bc, v = .slice BA l.length bc ∧ Sts w ok (l.map SR.s) BA := by
  rcases l with _ | ⟨c, l⟩
  · rcases h.2 with ⟨rfl, -⟩ | ⟨g, cap, cur, rfl, r⟩
    · exact ⟨none, 0, rfl, fun j s hj => by simp at hj⟩
    · exact ⟨_, cap, rfl, fun j s hj => by simp at hj⟩
  · obtain ⟨b, cp, rfl, hb, hcell⟩ := row_own h (by rw [srs_length]; simp)
    refine ⟨_, cp, rfl, fun j s hj => ?_⟩
    rw [List.getElem?_map] at hj
    rcases hx : (c :: l)[j]? with _ | r
    · rw [hx] at hj; cases hj
    rw [hx] at hj
    injection hj with hj
    subst hj
    have hk : ∀ k, k < 6 → ∀ u, r.cells[k]? = some u → w.cell? ⟨b, j * 6 + k, none⟩ = some u := fun k hk u hu => hcell _ u ((srs_at hx k hk).trans hu)
    obtain ⟨h1, h2⟩ := hr r (List.mem_of_getElem? hx)
    exact ⟨b, r.A, r.cp, r.BA, r.bc, rfl, ho b hb.1 hb.2, ⟨hk 0 (by omega) _ rfl, hk 1 (by omega) _ rfl, hk 2 (by omega) _ rfl, hk 3 (by omega) _ rfl, hk 4 (by omega) _ rfl, hk 5 (by omega) _ rfl⟩, h1, h2⟩
end
end Go.Proofs.YtocbddajakbemaaGreat
