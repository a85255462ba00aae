/- vm, the front end: expressions in memory; operand. vm, the front end: unary, inside. vm, the front end: expr. vm, the front end: reading expressions, all jobs. vm, the front end: value. -/
import Derived.Test.YtocbddajakbemaaGreatMI
set_option linter.unusedVariables false
set_option linter.unusedSimpArgs false
set_option linter.unusedSimpArgs false
namespace Go.Proofs.YtocbddajakbemaaGreat
section
open Go.RowKit
def Ex.op : Ex → Nat
  | .l op _ _ => op
  | .u op _ _ => op
  | .b op _ _ => op
def Ex.num : Ex → Int
  | .l _ n _ => n
  | .u _ n _ => n
  | .b _ _ _ => 0
def Ex.name : Ex → ByteArray
  | .l _ _ s => s
  | _ => ⟨#[]⟩
def Ex.many : Ex → Nat
  | .l _ _ _ => 0
  | .u _ _ _ => 1
  | .b _ _ _ => 2
def Ex.cells (x : Ex) (A : Option Addr) (cp : Nat) : Array Value := #[.int .u8 (x.op : Nat), .int .i64 x.num, .string x.name, .slice A x.many cp]
structure ExC (w : World) (b o : Nat) (x : Ex) (A : Option Addr) (cp : Nat) : Prop where
  c0 : w.cell? ⟨b, o, none⟩ = some (.int .u8 (x.op : Nat))
  c1 : w.cell? ⟨b, o + 1, none⟩ = some (.int .i64 x.num)
  c2 : w.cell? ⟨b, o + 2, none⟩ = some (.string x.name)
  c3 : w.cell? ⟨b, o + 3, none⟩ = some (.slice A x.many cp)
theorem ExC.step {w w' : World} {b o cp : Nat} {x : Ex} {A : Option Addr} (h : ExC w b o x A cp) (hb : w'.heap[b]? = w.heap[b]?) : ExC w' b o x A cp := by
  have e : ∀ i, w'.cell? ⟨b, i, none⟩ = w.cell? ⟨b, i, none⟩ := fun i => by unfold World.cell?; rw [hb]
  exact ⟨(e _).trans h.c0, (e _).trans h.c1, (e _).trans h.c2, (e _).trans h.c3⟩
theorem ExC.lt {w : World} {b o cp : Nat} {x : Ex} {A : Option Addr} (h : ExC w b o x A cp) : b < w.heap.size := World.block_lt_of_cell? w _ h.c0
def ExAt (w : World) (ok : Nat → Prop) : Ex → Option Addr → Nat → Prop
  | .l _ _ _, A, cp => A = none ∧ cp = 0
  | .u _ _ x, A, _ => ∃ b A1 c1, A = some ⟨b, 0, none⟩ ∧ ok b ∧ ExC w b 0 x A1 c1 ∧ ExAt w ok x A1 c1
  | .b _ x y, A, _ => ∃ b A1 c1 A2 c2, A = some ⟨b, 0, none⟩ ∧ ok b ∧ ExC w b 0 x A1 c1 ∧ ExC w b 4 y A2 c2 ∧ ExAt w ok x A1 c1 ∧ ExAt w ok y A2 c2
theorem ExAt.step {w w' : World} {ok ok' : Nat → Prop} (hs : ∀ q, ok q → w'.heap[q]? = w.heap[q]?) (ho : ∀ q, ok q → ok' q) : ∀ {x : Ex} {A : Option Addr} {cp : Nat}, ExAt w ok x A cp → ExAt w' ok' x A cp := by
  intro x
  induction x with
  | l op n s => intro A cp h; exact h
  | u op n x ih =>
    rintro A cp ⟨b, A1, c1, e, hb, hc, hx⟩
    exact ⟨b, A1, c1, e, ho b hb, hc.step (hs b hb), ih hx⟩
  | b op x y ihx ihy =>
    rintro A cp ⟨b, A1, c1, A2, c2, e, hb, hc, hd, hx, hy⟩
    exact ⟨b, A1, c1, A2, c2, e, ho b hb, hc.step (hs b hb), hd.step (hs b hb), ihx hx, ihy hy⟩
def ResE (w : World) (x : Ex) (i2 : Nat) (e : Ending) (w' : World) : Prop :=
  ∃ A cp, e = .returned (.tuple #[.agg (x.cells A cp), .int .i64 (i2 : Nat), .int .i64 0]) ∧ ExAt w' (fun q => w.heap.size ≤ q ∧ q < w'.heap.size) x A cp ∧ Below w.heap.size w w'
def Ex.row (x : Ex) (A : Option Addr) (cp : Nat) : List Value := [.int .u8 (x.op : Nat), .int .i64 x.num, .string x.name, .slice A x.many cp]
def ResI (w : World) (x : Ex) (i2 : Nat) (e : Ending) (w' : World) : Prop :=
  ∃ b cp A1 c1, e = .returned (.tuple #[.slice (some ⟨b, 0, none⟩) 1 cp, .int .i64 (i2 : Nat), .int .i64 0]) ∧ (w.heap.size ≤ b ∧ b < w'.heap.size) ∧ w'.ownsRow w.heap.size 34 4 (.slice (some ⟨b, 0, none⟩) 1 cp) 1 (x.row A1 c1) ∧ ExC w' b 0 x A1 c1 ∧ ExAt w' (fun q => w.heap.size ≤ q ∧ q < b) x A1 c1 ∧ Below w.heap.size w w'
theorem ret_ex3 {fn : Func} {p u v : Tmp} (h : fn.results = #[.cell p 34, .tmp u, .tmp v]) (tmps : Array Value) (w : World) (g : Nat) (cs : Array Value) (hn : cs.size = 4)
    (hp : tmps.getD p undef = .pointer (some ⟨g, 0, none⟩)) (hg : w.heap[g]? = some (.cells cs 34 (0, 0))) :
    (results fn tmps).run Tryz.prog w = .ok (.tuple #[.agg cs, tmps.getD u undef, tmps.getD v undef]) w := by
  have hp' : tmps[p]?.getD undef = .pointer (some ⟨g, 0, none⟩) := by simpa using hp
  have hi : (Tryz.prog.info? 34).map (·.size) = some cs.size := by rw [hn]; kernel_rfl
  have hl := run_loadVar_row (P := Tryz.prog) w g 34 34 cs (0, 0) _ hg Tryz.underlying34 rfl hi
  simp [results, h, hp', asAddr, hl]
theorem heap_alloc_fst (w : World) (a b : Obj) : ((w.alloc a).alloc b).heap[w.heap.size]? = some a := (Below.heap_alloc _ _ _ (by simp)).trans (heap_alloc_new w a)
theorem heap_alloc_snd (w : World) (a b : Obj) : ((w.alloc a).alloc b).heap[w.heap.size + 1]? = some b := by
  have := heap_alloc_new (w.alloc a) b
  simpa using this
def put4 (w : World) (g : Nat) (a b c d : Value) : World := (((w.setCell ⟨g, 0, none⟩ a).setCell ⟨g, 1, none⟩ b).setCell ⟨g, 2, none⟩ c).setCell ⟨g, 3, none⟩ d
theorem put4_ne (w : World) (g : Nat) (a b c d : Value) {q : Nat} (hq : q ≠ g) : (put4 w g a b c d).heap[q]? = w.heap[q]? := by
  unfold put4
  rw [Below.heap_setCell _ _ _ _ hq, Below.heap_setCell _ _ _ _ hq, Below.heap_setCell _ _ _ _ hq, Below.heap_setCell _ _ _ _ hq]
theorem put4_size (w : World) (g : Nat) (a b c d : Value) : (put4 w g a b c d).heap.size = w.heap.size := by unfold put4; simp
theorem put4_block {w : World} {g : Nat} {x y z u : Value} {T : TypeId} (a b c d : Value) (h : w.heap[g]? = some (.cells #[x, y, z, u] T (0, 0))) : (put4 w g a b c d).heap[g]? = some (.cells #[a, b, c, d] T (0, 0)) := by
  unfold put4
  exact block_setCell (block_setCell (block_setCell (block_setCell h 0 _) 1 _) 2 _) 3 _
theorem put4_below {B : Nat} {w w' : World} {g : Nat} (a b c d : Value) (h : Below B w w') (hg : B ≤ g) : Below B w (put4 w' g a b c d) := by
  unfold put4
  exact (((h.setCell (p := ⟨g, 0, none⟩) hg _).setCell (p := ⟨g, 1, none⟩) hg _).setCell (p := ⟨g, 2, none⟩) hg _).setCell (p := ⟨g, 3, none⟩) hg _
theorem tick_list : s_tick.toList = [116, 105, 99, 107] := by decide +kernel
theorem self_list : s_self.toList = [115, 101, 108, 102] := by decide +kernel
theorem kindM_le (s : ByteArray) : kindM s ≤ 10 := by unfold kindM; split <;> omega
def exZ : Array Value := #[.int .u8 0, .int .i64 0, .string ⟨#[]⟩, .slice none 0 0]
set_option maxRecDepth 100000 in
set_option maxHeartbeats 4000000 in
theorem od_ok (l : List Tk) (A : Option Addr) (cap f i o : Nat) (x : Ex) (i2 : Nat) (h : pE l (f + 1) (.od i o) = some (x, i2)) (hl : l.length ≤ 100000) (w : World) (ht : TksAt w A l)
    (IH : ∀ w' i o b e x i2, TksAt w' A l → pE l f (.ins i o b e) = some (x, i2) → Calls Tryz.prog 60 #[.slice A l.length cap, .int .i64 (i : Nat), .int .i64 (o : Nat), .string b, .string e, .int .i64 1] w' (ResI w' x i2)) :
    Calls Tryz.prog 128 #[.slice A l.length cap, .int .i64 (i : Nat), .int .i64 (o : Nat)] w (ResE w x i2) := by
  rw [pE] at h
  rcases hx : l[i]? with _ | t
  · rw [hx] at h; cases h
  rw [hx] at h
  simp only at h
  obtain ⟨b, rfl, c0, c1, c2, c3, c4⟩ := ht i t hx
  have hlt := (List.getElem?_eq_some_iff.1 hx).1
  obtain ⟨n, en⟩ : ∃ n, n = l.length := ⟨_, rfl⟩
  have hbl := World.block_lt_of_cell? w _ c0
  have i0 : (0 : Int) ≤ (i : Int) := by omega
  have i1 : (i : Int) < (n : Int) := by omega
  have w1 : wrap64 ((i : Int) + 1) = (i : Int) + 1 := by unfold wrap64; omega
  have w1' : wrap64 ((i : Int) + 1) = ((i + 1 : Nat) : Int) := by rw [w1]; rfl
  by_cases h2 : t.kind = 2
  · rw [if_pos h2] at h
    injection h with h
    injection h with hx1 hx2
    subst hx1 hx2
    rw [← en]
    rw [h2] at c0
    clear IH ht
    go_enter Tryz.func128, Tryz.ntmps128
    go_wp2_with fail
    refine bodyPost_ret (ret_ex3 rfl _ _ w.heap.size _ rfl rfl (heap_alloc_fst w _ _)) rfl ?_
    exact ⟨none, 0, by rw [Int.natCast_add]; rfl, ⟨rfl, rfl⟩, ((Below.refl _ _).alloc (Nat.le_refl _) _).alloc (by simp) _⟩
  · rw [if_neg h2] at h
    have hpar : isM l i s_par = some false := by
      by_cases c : isM l i s_par = some false
      · exact c
      · rw [if_pos c] at h; cases h
    rw [if_neg (fun c => c hpar)] at h
    by_cases hk1 : t.kind = 1
    · rw [if_neg (fun c => c hk1)] at h
      rw [hk1] at c0
      have KD := Kind_ok t.text
      obtain ⟨s, es⟩ : ∃ s, s = t.text := ⟨_, rfl⟩
      rw [← es] at c1 h KD
      obtain ⟨g, eg⟩ : ∃ g, g = w.heap.size := ⟨_, rfl⟩
      obtain ⟨w2, e2⟩ : ∃ w2, w2 = (w.alloc (.cells exZ 34 (0, 0))).alloc (.cells #[.int .u8 1, .string s, .int .i64 t.n, .int .i64 1, .int .i64 t.col] 97 (0, 0)) := ⟨_, rfl⟩
      have k0 : w2.heap[g]? = some (.cells exZ 34 (0, 0)) := by rw [e2, eg]; exact heap_alloc_fst w _ _
      have k1 : w2.heap[g + 1]? = some (.cells #[.int .u8 1, .string s, .int .i64 t.n, .int .i64 1, .int .i64 t.col] 97 (0, 0)) := by rw [e2, eg]; exact heap_alloc_snd w _ _
      have hb2 : Below g w w2 := by rw [e2, eg]; exact ((Below.refl _ _).alloc (Nat.le_refl _) _).alloc (by simp) _
      have hs2 : w2.heap.size = g + 2 := by rw [e2, eg]; simp
      have IS := is_ok (some ⟨b, 0, none⟩) cap l i s_par false hpar w2 (ht.below hb2 eg)
      rw [← en] at IS ⊢
      have e3 := e2
      unfold exZ at e3
      have m0 : w2.cell? ⟨g + 1, 0, none⟩ = some (.int .u8 1) := (cell_of_block k1 0).trans rfl
      have m1 : w2.cell? ⟨g + 1, 1, none⟩ = some (.string s) := (cell_of_block k1 1).trans rfl
      have H := Lib.hid (And.intro h (And.intro hl (And.intro ht (And.intro IH (And.intro eg (And.intro k0 (And.intro k1 (And.intro hb2 (And.intro hs2 (And.intro en hlt)))))))))); clear h hl ht IH k0 k1 hb2 hs2 en hlt h2 hk1 es hpar
      go_enter Tryz.func128, Tryz.ntmps128
      go_upto_region 2 with fail
      rw [← e3, ← eg]
      clear c0 c1 c2 c3 c4 hbl hx e2 e3 eg
      go_upto_region 11 with (go_at_call 62; refine IS.mono ?_; rintro e w' ⟨rfl, rfl⟩)
      clear IS
      obtain ⟨h, hl, ht, IH, eg, k0, k1, hb2, hs2, en, hlt⟩ := H.out
      by_cases hK : 0 < kindM s
      · rw [if_pos hK] at h
        rcases hp : pE l f (.ins (i + 1) o s_sq s_sqc) with _ | ⟨x', j⟩
        · rw [hp] at h; cases h
        rw [hp] at h
        simp only at h
        injection h with h
        injection h with hx1 hx2
        subst hx1 hx2
        have hK10 : kindM s ≤ 10 := kindM_le s
        obtain ⟨K, eK⟩ : ∃ K, K = kindM s := ⟨_, rfl⟩
        rw [← eK] at KD hK hK10 ⊢
        have t1 : decide ((0 : Int) < (K : Int)) = true := decide_eq_true (by omega)
        have w2 : wrap64 (K : Int) = (K : Int) := by unfold wrap64; omega
        have INS : ∀ W, Below g w W → Calls Tryz.prog 60 #[.slice (some ⟨b, 0, none⟩) n cap, .int .i64 ((i : Int) + 1), .int .i64 (o : Nat), .string s_sq, .string s_sqc, .int .i64 1] W (ResI W x' j) := by
          intro W hb
          have := IH W (i + 1) o s_sq s_sqc x' j (ht.below hb eg) hp
          rw [← en, Int.natCast_add] at this
          exact this
        have H2 := Lib.hid (And.intro INS (And.intro k0 (And.intro k1 (And.intro hb2 (And.intro hs2 (And.intro eg (And.intro hK10 eK))))))); clear H INS k0 k1 hb2 hs2 eg hK10 eK hl ht IH en hlt hp
        go_upto_region 12 with (go_at_call 59; refine (KD _).mono ?_; rintro e w3 ⟨rfl, hb3⟩; have HB3 := Lib.hid hb3; clear hb3)
        clear m0 m1
        go_upto_region 13 with (go_at_call 60; refine (H2.out.1 w3 (H2.out.2.2.2.1.trans (HB3.out.mono (by have := H2.out.2.2.2.2.1; omega)))).mono ?_; rintro e w4 ⟨bb, cp, A1, q1, rfl, hr4⟩; have HR4 := Lib.hid hr4; clear hr4)
        have hb3 := HB3.out
        have hb4 := HR4.out.2.2.2.2
        obtain ⟨-, k0, k1, hb2, hs2, eg, -⟩ := H2.out
        have hs3 := hb3.size
        have k1' : w4.heap[g + 1]? = some (.cells #[.int .u8 1, .string s, .int .i64 t.n, .int .i64 1, .int .i64 t.col] 97 (0, 0)) := (hb4.block (g + 1) (by omega)).trans ((hb3.block (g + 1) (by omega)).trans k1)
        have k0' : w4.heap[g]? = some (.cells exZ 34 (0, 0)) := (hb4.block g (by omega)).trans ((hb3.block g (by omega)).trans k0)
        have m1 : w4.cell? ⟨g + 1, 1, none⟩ = some (.string s) := (cell_of_block k1' 1).trans rfl
        have H3 := Lib.hid k0'
        clear k0' k1' k0 k1 hb3 hb4 hb2 hs2 eg hs3
        go_wp2_with (go_at_call 59; refine (KD _).mono ?_; rintro e w5 ⟨rfl, hb5⟩; have k5 := (hb5.block g (lt_of_block H3.out)).trans H3.out; have d0 : w5.cell? ⟨g, 0, none⟩ = some (.int .u8 0) := (cell_of_block k5 0).trans rfl; have d1 : w5.cell? ⟨g, 1, none⟩ = some (.int .i64 0) := (cell_of_block k5 1).trans rfl; have d2 : w5.cell? ⟨g, 2, none⟩ = some (.string ⟨#[]⟩) := (cell_of_block k5 2).trans rfl; have d3 : w5.cell? ⟨g, 3, none⟩ = some (.slice none 0 0) := (cell_of_block k5 3).trans rfl; have z0 := free_of_block k5 0; have z1 := free_of_block k5 1; have z2 := free_of_block k5 2; have z3 := free_of_block k5 3; have HB5 := Lib.hid (And.intro hb5 k5); clear hb5 k5)
        obtain ⟨hb5, k5⟩ := HB5.out
        obtain ⟨hbb, -, hec, hea, hb4⟩ := HR4.out
        obtain ⟨-, -, -, hb2, hs2, eg, -, eK⟩ := H2.out
        have hb3 := HB3.out
        have hs3 := hb3.size
        have hs4 := hb4.size
        have hs5 := hb5.size
        have hB : Below g w w5 := hb2.trans ((hb3.mono (by omega)).trans ((hb4.mono (by omega)).trans (hb5.mono (by omega))))
        obtain ⟨X, eX⟩ : ∃ X, X = put4 w5 g (.int .u8 3) (.int .i64 (K : Int)) (.string ⟨#[]⟩) (.slice (some ⟨bb, 0, none⟩) 1 cp) := ⟨_, rfl⟩
        have hX : X.heap[g]? = some (.cells #[.int .u8 3, .int .i64 (K : Int), .string ⟨#[]⟩, .slice (some ⟨bb, 0, none⟩) 1 cp] 34 (0, 0)) := by rw [eX]; exact put4_block _ _ _ _ k5
        have hq : ∀ q, w3.heap.size ≤ q ∧ q < w4.heap.size → X.heap[q]? = w4.heap[q]? := fun q hq => by rw [eX, put4_ne _ _ _ _ _ _ (by omega)]; exact hb5.block q hq.2
        have hXs : X.heap.size = w5.heap.size := by rw [eX]; exact put4_size _ _ _ _ _ _
        have hXb : Below g w X := by rw [eX]; exact put4_below _ _ _ _ hB (Nat.le_refl _)
        show bodyPost _ _ _ _ _ (put4 w5 g (.int .u8 3) (.int .i64 (K : Int)) (.string ⟨#[]⟩) (.slice (some ⟨bb, 0, none⟩) 1 cp))
        rw [← eX]
        refine bodyPost_ret (ret_ex3 rfl _ _ g _ rfl rfl hX) rfl ?_
        refine ⟨some ⟨bb, 0, none⟩, cp, by rw [← eK]; rfl, ⟨bb, A1, q1, rfl, ⟨by omega, by omega⟩, hec.step (hq bb hbb), hea.step (fun q h => hq q ⟨h.1, by omega⟩) (fun q hq => ⟨by omega, by omega⟩)⟩, by rw [← eg]; exact hXb⟩
      · rw [if_neg hK] at h
        have hf4 : ¬ fourL.findIdx (eqS s) < 4 := by
          intro c; rw [if_pos c] at h; cases h
        rw [if_neg hf4] at h
        have htk : (s.toList == s_tick.toList) = false := by
          cases c : (s.toList == s_tick.toList)
          · rfl
          · rw [if_pos c] at h; cases h
        rw [if_neg (by rw [htk]; exact Bool.false_ne_true)] at h
        have htk2 : (s.toList == [116, 105, 99, 107]) = false := by rw [← tick_list]; exact htk
        clear htk
        have KD2 : Calls Tryz.prog 59 #[.string s] w2 fun e w' => e = .returned (.int .u8 0) ∧ Below w2.heap.size w2 w' := by
          have := KD w2
          rw [show kindM s = 0 by omega] at this
          exact this
        have HF := Lib.hid hf4
        have H2 := Lib.hid (And.intro h (And.intro k0 (And.intro k1 (And.intro hb2 (And.intro hs2 eg))))); clear H k0 k1 hb2 hs2 eg hK h hl ht IH en hlt KD hf4
        go_upto_region 14 with (go_at_call 59; refine KD2.mono ?_; rintro e w3 ⟨rfl, hb3⟩; have HB3 := Lib.hid hb3; clear hb3)
        clear KD2 m0 m1
        go_upto_region 16 with fail
        obtain ⟨w4, e4⟩ : ∃ w4, w4 = (w3.alloc (.cells (fourL.map Value.string).toArray 9 (0, 0))).alloc (.cells #[.int .u8 6, .int .u8 9, .int .u8 23, .int .u8 24] 5 (0, 0)) := ⟨_, rfl⟩
        obtain ⟨-, k0, k1, hb2, hs2, eg⟩ := H2.out
        have hb3 := HB3.out
        have hs3 := hb3.size
        have hb4 : Below w2.heap.size w2 w4 := by rw [e4]; exact (hb3.alloc (by omega) _).alloc (by simp; omega) _
        have k0' : w4.heap[g]? = some (.cells exZ 34 (0, 0)) := (hb4.block g (by omega)).trans k0
        have k1' : w4.heap[g + 1]? = some (.cells #[.int .u8 1, .string s, .int .i64 t.n, .int .i64 1, .int .i64 t.col] 97 (0, 0)) := (hb4.block (g + 1) (by omega)).trans k1
        have k3 : w4.heap[w3.heap.size]? = some (.cells (fourL.map Value.string).toArray 9 (0, 0)) := by rw [e4]; exact heap_alloc_fst w3 _ _
        have m1 : w4.cell? ⟨g + 1, 1, none⟩ = some (.string s) := (cell_of_block k1' 1).trans rfl
        have d0 : w4.cell? ⟨g, 0, none⟩ = some (.int .u8 0) := (cell_of_block k0' 0).trans rfl
        have d1 : w4.cell? ⟨g, 1, none⟩ = some (.int .i64 0) := (cell_of_block k0' 1).trans rfl
        have d2 : w4.cell? ⟨g, 2, none⟩ = some (.string ⟨#[]⟩) := (cell_of_block k0' 2).trans rfl
        have d3 : w4.cell? ⟨g, 3, none⟩ = some (.slice none 0 0) := (cell_of_block k0' 3).trans rfl
        have z0 := free_of_block k0' 0
        have z1 := free_of_block k0' 1
        have z2 := free_of_block k0' 2
        have z3 := free_of_block k0' 3
        have hB : Below g w w4 := hb2.trans (hb4.mono (by omega))
        have e5 := e4
        simp only [fourL, List.map] at e5
        rw [← e5]
        obtain ⟨g3, eg3⟩ : ∃ g3, g3 = w3.heap.size := ⟨_, rfl⟩
        rw [← eg3] at k3 ⊢
        obtain ⟨h, -⟩ := H2.out
        have H3 := Lib.hid (And.intro h (And.intro k0' (And.intro k3 (And.intro hB (And.intro eg k1')))))
        clear H2 HB3 h k0 k1 hb2 hs2 eg hb3 hs3 hb4 k0' k1' k3 hB e4 e5 eg3
        go_wp2_with fail
        go_loopg [18] 4 (fun gh iv wr => ∃ j : Nat, gh = 4 - j ∧ j ≤ 4 ∧ iv = .int .i64 (j : Nat) ∧ ∃ m, wr = w4.drewN m)
        case atStart => exact ⟨0, rfl, Nat.zero_le _, rfl, 0, rfl⟩
        case round =>
          obtain ⟨j, rfl, hj, rfl, m, rfl⟩ := hrel
          by_cases hlt : j < 4
          · obtain ⟨y, hy⟩ : ∃ y, fourL[j]? = some y := ⟨_, List.getElem?_eq_getElem hlt⟩
            have c0 := strs_at H3.out.2.2.1 hy
            have ht : (s.toList == y.toList) = false := by
              cases c : (s.toList == y.toList)
              · rfl
              · exfalso
                have c2 : eqS s y = true := by unfold eqS; rw [BEq.comm]; exact c
                refine HF.out ?_
                have hle := List.findIdx_le_length (xs := fourL) (p := eqS s)
                have := List.findIdx_lt_length_of_exists (xs := fourL) (p := eqS s) ⟨y, List.mem_of_getElem? hy, c2⟩
                exact this
            have i0 : (0 : Int) ≤ (j : Int) := by omega
            have i1 : (j : Int) < 4 := by omega
            have w2 : wrap64 ((j : Int) + 1) = (j : Int) + 1 := by unfold wrap64; omega
            have HY := Lib.hid hlt; clear hj hy hlt
            go_wp2_with fail
            go_quiet (fail)
            go_wp2_with fail
            go_roundg (4 - (j + 1))
            case measure => have := HY.out; omega
            case rel => exact ⟨j + 1, rfl, HY.out, by go_num, _, rfl⟩
          · obtain rfl : j = 4 := by omega
            clear hj hlt
            obtain ⟨h, k0, -, hB, eg, k1⟩ := H3.out
            by_cases hse : (s.toList == s_self.toList) = true
            · rw [if_pos hse] at h
              injection h with h
              injection h with hx1 hx2
              subst hx1 hx2
              have hse2 : (s.toList == [115, 101, 108, 102]) = true := by rw [← self_list]; exact hse
              have H4 := Lib.hid (And.intro k0 (And.intro hB eg)); clear H3 k0 hB eg k1 hse
              go_wp2_with fail
              obtain ⟨k0, hB, eg⟩ := H4.out
              refine bodyPost_ret (ret_ex3 rfl _ _ g _ rfl rfl (put4_block (.int .u8 5) (.int .i64 0) (.string ⟨#[]⟩) (.slice none 0 0) k0)) rfl ?_
              exact ⟨none, 0, by rw [← w1']; rfl, ⟨rfl, rfl⟩, by rw [← eg]; exact put4_below _ _ _ _ (below_drewN hB m) (Nat.le_refl _)⟩
            · rw [if_neg hse] at h
              by_cases hnm : nameM s = true
              · rw [if_pos hnm] at h
                injection h with h
                injection h with hx1 hx2
                subst hx1 hx2
                have hse2 : (s.toList == [115, 101, 108, 102]) = false := by
                  cases c : (s.toList == [115, 101, 108, 102])
                  · rfl
                  · rw [← self_list] at c; exact absurd c hse
                have NM := Name_ok s hnm
                have H4 := Lib.hid (And.intro k0 (And.intro hB (And.intro eg k1))); clear H3 k0 hB eg hnm hse k1
                go_wp2_with (go_at_call 64; refine (NM _).mono ?_; rintro e w5 ⟨rfl, hb5⟩; have m1' : w5.cell? ⟨g + 1, 1, none⟩ = some (.string s) := (cell_of_block ((hb5.block (g + 1) (lt_of_block H4.out.2.2.2)).trans H4.out.2.2.2) 1).trans rfl; have k5 := (hb5.block g (lt_of_block H4.out.1)).trans H4.out.1; have d0 : w5.cell? ⟨g, 0, none⟩ = some (.int .u8 0) := (cell_of_block k5 0).trans rfl; have d1 : w5.cell? ⟨g, 1, none⟩ = some (.int .i64 0) := (cell_of_block k5 1).trans rfl; have d2 : w5.cell? ⟨g, 2, none⟩ = some (.string ⟨#[]⟩) := (cell_of_block k5 2).trans rfl; have d3 : w5.cell? ⟨g, 3, none⟩ = some (.slice none 0 0) := (cell_of_block k5 3).trans rfl; have z0 := free_of_block k5 0; have z1 := free_of_block k5 1; have z2 := free_of_block k5 2; have z3 := free_of_block k5 3; have HB5 := Lib.hid (And.intro hb5 k5); clear hb5 k5)
                obtain ⟨k0, hB, eg, -⟩ := H4.out
                obtain ⟨hb5, k5⟩ := HB5.out
                refine bodyPost_ret (ret_ex3 rfl _ _ g _ rfl rfl (put4_block (.int .u8 2) (.int .i64 0) (.string s) (.slice none 0 0) k5)) rfl ?_
                have hlg := lt_of_block k0
                exact ⟨none, 0, by rw [← w1']; rfl, ⟨rfl, rfl⟩, by rw [← eg]; exact put4_below _ _ _ _ ((below_drewN hB m).trans (hb5.mono (by show g ≤ w4.heap.size; omega))) (Nat.le_refl _)⟩
              · rw [if_neg hnm] at h; cases h
    · rw [if_pos hk1] at h; cases h
end
end Go.Proofs.YtocbddajakbemaaGreat
namespace Go.Proofs.YtocbddajakbemaaGreat
section
open Go.RowKit
theorem ex_facts {w : World} {g : Nat} {x y z u : Value} {T : TypeId} (h : w.heap[g]? = some (.cells #[x, y, z, u] T (0, 0))) :
    w.cell? ⟨g, 0, none⟩ = some x ∧ w.cell? ⟨g, 1, none⟩ = some y ∧ w.cell? ⟨g, 2, none⟩ = some z ∧ w.cell? ⟨g, 3, none⟩ = some u ∧
    w.frozen? ⟨g, 0, none⟩ = false ∧ w.frozen? ⟨g, 1, none⟩ = false ∧ w.frozen? ⟨g, 2, none⟩ = false ∧ w.frozen? ⟨g, 3, none⟩ = false :=
  ⟨(cell_of_block h 0).trans rfl, (cell_of_block h 1).trans rfl, (cell_of_block h 2).trans rfl, (cell_of_block h 3).trans rfl, free_of_block h 0, free_of_block h 1, free_of_block h 2, free_of_block h 3⟩
theorem ResE.out {w w' : World} {x : Ex} {i2 : Nat} {e : Ending} (h : ResE w x i2 e w') :
    ∃ A cp, e = .returned (.tuple #[.agg #[.int .u8 (x.op : Nat), .int .i64 x.num, .string x.name, .slice A x.many cp], .int .i64 (i2 : Nat), .int .i64 0]) ∧ ExAt w' (fun q => w.heap.size ≤ q ∧ q < w'.heap.size) x A cp ∧ Below w.heap.size w w' := h
set_option maxRecDepth 100000 in
set_option maxHeartbeats 4000000 in
theorem un_ok (l : List Tk) (A : Option Addr) (cap f i o : Nat) (x : Ex) (i2 : Nat) (h : pE l (f + 1) (.un i o) = some (x, i2)) (w : World) (ht : TksAt w A l)
    (IH : ∀ w' i o x i2, TksAt w' A l → pE l f (.od i o) = some (x, i2) → Calls Tryz.prog 128 #[.slice A l.length cap, .int .i64 (i : Nat), .int .i64 (o : Nat)] w' (ResE w' x i2)) :
    Calls Tryz.prog 118 #[.slice A l.length cap, .int .i64 (i : Nat), .int .i64 (o : Nat)] w (ResE w x i2) := by
  rw [pE] at h
  by_cases hc : isM l i s_minus = some false ∧ isM l i s_not = some false
  · rw [if_pos hc] at h
    obtain ⟨g, eg⟩ : ∃ g, g = w.heap.size := ⟨_, rfl⟩
    obtain ⟨w2, e2⟩ : ∃ w2, w2 = w.alloc (.cells exZ 34 (0, 0)) := ⟨_, rfl⟩
    have k0 : w2.heap[g]? = some (.cells exZ 34 (0, 0)) := by rw [e2, eg]; exact heap_alloc_new w _
    have hb2 : Below g w w2 := by rw [e2, eg]; exact (Below.refl _ _).alloc (Nat.le_refl _) _
    have hs2 : w2.heap.size = g + 1 := by rw [e2, eg]; simp
    have ht2 := ht.below hb2 eg
    have I1 := is_ok A cap l i s_minus false hc.1 w2 ht2
    have I2 := is_ok A cap l i s_not false hc.2 w2 ht2
    have OD := IH w2 i o x i2 ht2 h
    obtain ⟨n, en⟩ : ∃ n, n = l.length := ⟨_, rfl⟩
    rw [← en] at I1 I2 OD ⊢
    have e3 := e2
    unfold exZ at e3
    have H := Lib.hid (And.intro k0 (And.intro hb2 (And.intro hs2 eg))); clear k0 hb2 hs2 e2 ht2 hc ht IH h en
    go_enter Tryz.func118, Tryz.ntmps118
    go_upto_region 1 with fail
    rw [← e3, ← eg]
    clear e3 eg
    go_upto_region 4 with (go_at_call 62; refine I1.mono ?_; rintro e w' ⟨rfl, rfl⟩)
    go_upto_region 6 with (go_at_call 62; refine I2.mono ?_; rintro e w' ⟨rfl, rfl⟩)
    clear I1 I2
    go_wp2_with (go_at_call 128; refine OD.mono ?_; rintro e w3 hr; obtain ⟨A1, q1, rfl, hx3, hb3⟩ := hr.out; have k3 := (hb3.block g (by have := H.out.2.2.1; omega)).trans H.out.1; obtain ⟨d0, d1, d2, d3, z0, z1, z2, z3⟩ := ex_facts k3; have HR := Lib.hid (And.intro hx3 (And.intro hb3 k3)); clear hx3 hb3 k3 hr)
    obtain ⟨k0, hb2, hs2, eg⟩ := H.out
    obtain ⟨hx3, hb3, k3⟩ := HR.out
    have hs3 := hb3.size
    refine bodyPost_ret (ret_ex3 rfl _ _ g _ rfl rfl (put4_block (.int .u8 (x.op : Nat)) (.int .i64 x.num) (.string x.name) (.slice A1 x.many q1) k3)) rfl ?_
    refine ⟨A1, q1, rfl, hx3.step (fun q hq => put4_ne _ _ _ _ _ _ (by omega)) (fun q hq => ⟨by omega, ?_⟩), by rw [← eg]; exact put4_below _ _ _ _ (hb2.trans (hb3.mono (by omega))) (Nat.le_refl _)⟩
    show q < (put4 _ _ _ _ _ _).heap.size
    rw [put4_size]; exact hq.2
  · rw [if_neg hc] at h; cases h
theorem alloc_size (W : World) (o : Obj) : (W.alloc o).heap.size = W.heap.size + 1 := by simp
theorem infoExpr : (Tryz.prog.info? 34).map (fun i => (i.zero, i.size, i.bytes)) = some (some (.agg exZ), 4, 56) := by kernel_rfl
theorem Ex.row_one (x : Ex) (A : Option Addr) (cp : Nat) : ∀ u ∈ x.row A cp, u.oneCell' = true := by
  intro u hu
  simp only [Ex.row, List.mem_cons, List.not_mem_nil, or_false] at hu
  rcases hu with rfl | rfl | rfl | rfl <;> rfl
theorem row_own {w : World} {B n k T : Nat} {v : Value} {cs : List Value} (h : w.ownsRow B T k v n cs) (hn : 0 < cs.length) :
    ∃ b cp, v = .slice (some ⟨b, 0, none⟩) n cp ∧ (B ≤ b ∧ b < w.heap.size) ∧ ∀ j u, cs[j]? = some u → w.cell? ⟨b, j, none⟩ = some u := by
  rcases h.2 with ⟨rfl, rfl⟩ | ⟨g, cap, cur, rfl, hB, hh, h1, h2, h3, h4⟩
  · have := h.1
    rw [Nat.zero_mul] at this; omega
  · refine ⟨g, cap, rfl, ⟨hB, lt_of_block' hh⟩, fun j u hu => ?_⟩
    have := h.cells (g := g) rfl j u hu
    rw [show (⟨g, 0, none⟩ : Addr).add j = ⟨g, j, none⟩ by rcases j with _ | j <;> simp [Addr.add]] at this
    exact this
theorem exC_row {w : World} {b o : Nat} {x : Ex} {A : Option Addr} {cp : Nat} (h : ∀ j u, (x.row A cp)[j]? = some u → w.cell? ⟨b, o + j, none⟩ = some u) : ExC w b o x A cp :=
  ⟨h 0 _ rfl, h 1 _ rfl, h 2 _ rfl, h 3 _ rfl⟩
set_option maxRecDepth 100000 in
set_option maxHeartbeats 4000000 in
theorem ins_ok (l : List Tk) (A : Option Addr) (cap f i o : Nat) (sb se : ByteArray) (x : Ex) (i2 : Nat) (h : pE l (f + 1) (.ins i o sb se) = some (x, i2)) (hl : l.length ≤ 100000) (w : World) (ht : TksAt w A l)
    (IH : ∀ w' i o x i2, o ≤ 200 → TksAt w' A l → pE l f (.ex i o 1) = some (x, i2) → Calls Tryz.prog 96 #[.slice A l.length cap, .int .i64 (i : Nat), .int .i64 (o : Nat), .int .i64 1] w' (ResE w' x i2)) :
    Calls Tryz.prog 60 #[.slice A l.length cap, .int .i64 (i : Nat), .int .i64 (o : Nat), .string sb, .string se, .int .i64 1] w (ResI w x i2) := by
  rw [pE] at h
  by_cases hc : isM l i sb = some true ∧ o < 200
  · rw [if_pos hc] at h
    rcases hp : pE l f (.ex (i + 1) (o + 1) 1) with _ | ⟨x', j⟩
    · rw [hp] at h; cases h
    rw [hp] at h
    simp only at h
    by_cases he : isM l j se = some true
    · rw [if_pos he] at h
      injection h with h
      injection h with hx1 hx2
      subst hx1 hx2
      have hi : i < l.length := by
        rcases hx : l[i]? with _ | t
        · unfold isM at hc; rw [hx] at hc; cases hc.1
        · exact (List.getElem?_eq_some_iff.1 hx).1
      have hj : j < l.length := by
        rcases hx : l[j]? with _ | t
        · unfold isM at he; rw [hx] at he; cases he
        · exact (List.getElem?_eq_some_iff.1 hx).1
      have w1' : wrap64 ((j : Int) + 1) = ((j + 1 : Nat) : Int) := by unfold wrap64; omega
      have w2' : wrap64 ((o : Int) + 1) = (o : Int) + 1 := by unfold wrap64; omega
      have EN := enter_ok A cap l i o sb hc.1 hc.2 (by omega) w ht
      have EX : Calls Tryz.prog 96 #[.slice A l.length cap, .int .i64 ((i : Int) + 1), .int .i64 ((o : Int) + 1), .int .i64 1] w (ResE w x' j) := by
        have := IH w (i + 1) (o + 1) x' j (by omega) ht hp
        rw [Int.natCast_add, Int.natCast_add] at this
        exact this
      have IS := fun W h => is_ok A cap l j se true he W (ht.below (B := w.heap.size) (w' := W) h rfl)
      obtain ⟨i9, hi9, hz0, hz1, hz2⟩ := info_parts infoExpr
      have HI := Lib.hid (And.intro hi9 (And.intro hz0 (And.intro hz1 hz2))); clear hi9 hz0 hz1 hz2
      have HIS := Lib.hid IS
      obtain ⟨n, en⟩ : ∃ n, n = l.length := ⟨_, rfl⟩
      rw [← en] at EN EX HIS
      rw [← en]
      clear IS ht hc he hp IH hi hj hl en
      go_enter Tryz.func60, Tryz.ntmps60
      go_wp2_with (go_at_call 95; refine EN.mono ?_; rintro e w' ⟨rfl, rfl⟩)
      clear EN
      have REL : ∃ rel : Nat → Value → Value → Value → World → Prop, (∀ gh a b c wr, rel gh a b c wr ↔ ((gh = 1 ∧ a = .int .i64 ((i : Int) + 1) ∧ b = .slice none 0 0 ∧ c = .int .i64 0 ∧ w = wr) ∨ (gh = 0 ∧ a = .int .i64 (j : Nat) ∧ c = .int .i64 1 ∧ ∃ bb cp A1 q1, b = .slice (some ⟨bb, 0, none⟩) 1 cp ∧ (w.heap.size ≤ bb ∧ bb < wr.heap.size) ∧ wr.ownsRow w.heap.size 34 4 (.slice (some ⟨bb, 0, none⟩) 1 cp) 1 (x'.row A1 q1) ∧ ExC wr bb 0 x' A1 q1 ∧ ExAt wr (fun q => w.heap.size ≤ q ∧ q < bb) x' A1 q1 ∧ Below w.heap.size w wr))) := ⟨_, fun _ _ _ _ _ => Iff.rfl⟩
      obtain ⟨rel, hrelE⟩ := REL
      go_loopg [1, 16, 17] 1 rel
      case atStart => exact (hrelE _ _ _ _ _).2 (Or.inl ⟨rfl, rfl, rfl, rfl, rfl⟩)
      case round =>
        rcases (hrelE _ _ _ _ _).1 hrel with ⟨rfl, rfl, rfl, rfl, rfl⟩ | ⟨rfl, rfl, rfl, bb, cp, A1, q1, rfl, hbb, how, hec, hea, hb⟩
        · clear hrel
          go_upto_region 15 with (go_at_call 96; refine EX.mono ?_; rintro e w3 hr; obtain ⟨A1, q1, rfl, hx3, hb3⟩ := hr.out; have HR := Lib.hid (And.intro hx3 hb3); clear hx3 hb3 hr)
          obtain ⟨nw, enw⟩ : ∃ nw, nw = x'.row A1 q1 := ⟨_, rfl⟩
          have HN1 := Lib.hid (show nw.length = 1 * 4 from by rw [enw]; rfl)
          have HN2 := Lib.hid (show ∀ j u, nw[j]? = some u → ((w3.alloc (.cells #[.int .u8 (x'.op : Nat), .int .i64 x'.num, .string x'.name, .slice A1 x'.many q1] 34 (0, 0))).alloc (.cells #[.int .u8 (x'.op : Nat), .int .i64 x'.num, .string x'.name, .slice A1 x'.many q1] 34 (0, 0))).cell? ((⟨w3.heap.size + 1, 0, none⟩ : Addr).add j) = some u from by rw [enw]; exact news_new (w3.alloc _) _ _ _ (by simp))
          have HN3 := Lib.hid (show ∀ u ∈ nw, u.oneCell' = true from by rw [enw]; exact Ex.row_one _ _ _)
          have HN5 := Lib.hid (show ∀ A B, w.heap.size ≤ ((w3.alloc A).alloc B).heap.size from fun A B => by have := HR.out.2.size; simp; omega)
          have HO := Lib.hid (show ∀ W : World, W.ownsRow w.heap.size 34 4 (.slice none 0 0) 0 [] from fun W => ⟨rfl, Or.inl ⟨rfl, rfl⟩⟩)
          have HEN := Lib.hid enw; clear enw
          go_wp2_with (at_builtin; refine wpList_append_own_at _ rfl (.tmp 60) (.tmp 62) 32 rfl w.heap.size 34 i9 _ 4 56 Tryz.underlying32 HI.out.1 HI.out.2.1 HI.out.2.2.1 HI.out.2.2.2 rfl (by decide) (.slice none 0 0) 0 [] rfl (HO.out _) ⟨w3.heap.size + 1, 0, none⟩ 1 1 nw rfl HN1.out HN2.out HN3.out (by decide) (by decide) (HN5.out _ _) ?_)
          intro v5 w5 hown5 hg5 _ hat5
          have HV := Lib.hid (And.intro hown5 (And.intro hg5 hat5)); clear hown5 hg5 hat5
          go_wp2_with fail
          obtain ⟨hx3, hb3⟩ := HR.out
          obtain ⟨hown5, hg5, hat5⟩ := HV.out
          rw [HEN.out] at hown5
          have hown6 : w5.ownsRow w.heap.size 34 4 v5 1 (x'.row A1 q1) := hown5
          obtain ⟨bb, cp, rfl, hbb, hcell⟩ := row_own hown6 (by show 0 < 4; omega)
          have hsz : ∀ A B, ((w3.alloc A).alloc B).heap.size = w3.heap.size + 2 := fun A B => by simp
          have hbb2 : bb = w3.heap.size + 2 := by
            rcases hat5 with h | h
            · simp [Value.ownBlock] at h
            · simpa [Value.ownBlock] using h
          have hb5 := ((hb3.alloc hb3.size _).alloc (by rw [alloc_size]; have := hb3.size; omega) _).grown hg5 (by rw [hsz]; have := hb3.size; omega) (fun q hq => by simp [Value.ownBlock] at hq)
          have h35 : ∀ q, q < w3.heap.size → w5.heap[q]? = w3.heap[q]? := fun q hq => (hg5.block q (by rw [hsz]; omega) (by simp [Value.ownBlock])).trans ((Below.heap_alloc _ _ _ (by rw [alloc_size]; omega)).trans (Below.heap_alloc _ _ _ hq))
          go_roundg 0
          case measure => omega
          case rel =>
            refine (hrelE _ _ _ _ _).2 (Or.inr ⟨rfl, rfl, rfl, bb, cp, A1, q1, rfl, hbb, hown6, exC_row (fun j u h => by rw [Nat.zero_add]; exact hcell j u h), hx3.step (fun q hq => h35 q hq.2) (fun q hq => ⟨hq.1, by omega⟩), hb5⟩)
        · clear hrel
          go_wp2_with (go_at_call 62; refine (HIS.out _ hb).mono ?_; rintro e w' ⟨rfl, rfl⟩)
          go_ret3
          exact ⟨bb, cp, A1, q1, by rw [← w1']; rfl, hbb, how, hec, hea, hb⟩
    · rw [if_neg he] at h; cases h
  · rw [if_neg hc] at h; cases h
end
end Go.Proofs.YtocbddajakbemaaGreat
namespace Go.Proofs.YtocbddajakbemaaGreat
section
open Go.RowKit
theorem strong_le (j : Nat) : 0 ≤ strongL.getD j 0 ∧ strongL.getD j 0 ≤ 5 := by
  by_cases h : j < 13
  · have : ∀ j : Fin 13, 0 ≤ strongL.getD j.1 0 ∧ strongL.getD j.1 0 ≤ 5 := by decide
    exact this ⟨j, h⟩
  · rw [List.getD_eq_getElem?_getD, List.getElem?_eq_none (by show 13 ≤ j; omega)]
    decide
theorem twoM_le (t : Tk) : 0 ≤ (twoM t).2 ∧ (twoM t).2 ≤ 5 := by
  unfold twoM
  split
  · split
    · exact strong_le _
    · decide
  · decide
def XRel (l : List Tk) (w : World) (g gx o f : Nat) (m : Int) (x : Ex) (i2 gh : Nat) (iv : Value) (wr : World) : Prop :=
  ∃ xx ii AA qq, gh ≤ f ∧ iv = .int .i64 (ii : Nat) ∧ pE l gh (.lp xx ii o m) = some (x, i2) ∧
    wr.heap[gx]? = some (.cells #[.int .u8 (xx.op : Nat), .int .i64 xx.num, .string xx.name, .slice AA xx.many qq] 34 (0, 0)) ∧
    ExAt wr (fun q => g < q ∧ q < wr.heap.size ∧ q ≠ gx) xx AA qq ∧ wr.heap[g]? = some (.cells exZ 34 (0, 0)) ∧ Below g w wr
theorem pair_new {w w4 w5 w6 : World} {g gx : Nat} {x y : Ex} {A1 A2 : Option Addr} {q1 q2 : Nat} {T : TypeId} {op : Nat} (Y : Obj) {X0 : Array Value}
    (hx : ExAt w4 (fun q => g < q ∧ q < w4.heap.size ∧ q ≠ gx) x A1 q1) (hb5 : Below w4.heap.size w4 w5) (hy : ExAt w6 (fun q => w5.heap.size ≤ q ∧ q < w6.heap.size) y A2 q2) (hb6 : Below w5.heap.size w5 w6)
    (hg : g < gx) (hgx : gx < w4.heap.size) (hb : Below g w w4) (kg : w4.heap[g]? = some (.cells X0 T (0, 0))) (kx : ∃ a b c d, w4.heap[gx]? = some (.cells #[a, b, c, d] T (0, 0))) :
    ∃ W, W = ((put4 w6 gx (.int .u8 (op : Nat)) (.int .i64 0) (.string ⟨#[]⟩) (.slice (some ⟨w6.heap.size + 1, 0, none⟩) 2 2)).alloc Y).alloc (.cells #[.int .u8 (x.op : Nat), .int .i64 x.num, .string x.name, .slice A1 x.many q1, .int .u8 (y.op : Nat), .int .i64 y.num, .string y.name, .slice A2 y.many q2] T (0, 0)) ∧
      W.heap[gx]? = some (.cells #[.int .u8 ((Ex.b op x y).op : Nat), .int .i64 (Ex.b op x y).num, .string (Ex.b op x y).name, .slice (some ⟨w6.heap.size + 1, 0, none⟩) (Ex.b op x y).many 2] T (0, 0)) ∧
      ExAt W (fun q => g < q ∧ q < W.heap.size ∧ q ≠ gx) (.b op x y) (some ⟨w6.heap.size + 1, 0, none⟩) 2 ∧ W.heap[g]? = some (.cells X0 T (0, 0)) ∧ Below g w W := by
  obtain ⟨O, eO⟩ : ∃ O, O = Obj.cells #[.int .u8 (x.op : Nat), .int .i64 x.num, .string x.name, .slice A1 x.many q1, .int .u8 (y.op : Nat), .int .i64 y.num, .string y.name, .slice A2 y.many q2] T (0, 0) := ⟨_, rfl⟩
  rw [← eO]
  have s5 := hb5.size
  have s6 := hb6.size
  have h46 : Below w4.heap.size w4 w6 := hb5.trans (hb6.mono s5)
  obtain ⟨a, b, c, d, kx⟩ := kx
  obtain ⟨V, eV⟩ : ∃ V, V = put4 w6 gx (.int .u8 (op : Nat)) (.int .i64 0) (.string ⟨#[]⟩) (.slice (some ⟨w6.heap.size + 1, 0, none⟩) 2 2) := ⟨_, rfl⟩
  have hV : ∀ q, q ≠ gx → V.heap[q]? = w6.heap[q]? := fun q hq => by rw [eV]; exact put4_ne _ _ _ _ _ _ hq
  have hVs : V.heap.size = w6.heap.size := by rw [eV]; exact put4_size _ _ _ _ _ _
  have kV : V.heap[gx]? = some (.cells #[.int .u8 (op : Nat), .int .i64 0, .string ⟨#[]⟩, .slice (some ⟨w6.heap.size + 1, 0, none⟩) 2 2] T (0, 0)) := by rw [eV]; exact put4_block _ _ _ _ ((h46.block gx hgx).trans kx)
  have bV : Below g w V := by rw [eV]; exact put4_below _ _ _ _ (hb.trans (h46.mono (by omega))) (by omega)
  refine ⟨_, rfl, ?_⟩
  rw [← eV]
  obtain ⟨W, eW⟩ : ∃ W, W = (V.alloc Y).alloc O := ⟨_, rfl⟩
  have hW : Below V.heap.size V W := by rw [eW]; exact ((Below.refl _ _).alloc (Nat.le_refl _) _).alloc (by simp) _
  have hWs : W.heap.size = V.heap.size + 2 := by rw [eW]; simp
  have kW : W.heap[w6.heap.size + 1]? = some O := by rw [eW, ← hVs]; exact heap_alloc_snd V _ _
  rw [← eW]
  rw [eO] at kW
  refine ⟨(hW.block gx (by omega)).trans kV, ?_, ?_, bV.trans (hW.mono (by omega))⟩
  · refine ⟨w6.heap.size + 1, A1, q1, A2, q2, rfl, ⟨by omega, by omega, by omega⟩, ?_, ?_, ?_, ?_⟩
    · exact ⟨(cell_of_block kW 0).trans rfl, (cell_of_block kW 1).trans rfl, (cell_of_block kW 2).trans rfl, (cell_of_block kW 3).trans rfl⟩
    · exact ⟨(cell_of_block kW 4).trans rfl, (cell_of_block kW 5).trans rfl, (cell_of_block kW 6).trans rfl, (cell_of_block kW 7).trans rfl⟩
    · exact hx.step (fun q hq => (hW.block q (by omega)).trans ((hV q hq.2.2).trans (h46.block q hq.2.1))) (fun q hq => ⟨hq.1, by omega, hq.2.2⟩)
    · exact hy.step (fun q hq => (hW.block q (by omega)).trans (hV q (by omega))) (fun q hq => ⟨by omega, by omega, by omega⟩)
  · exact (hW.block g (by omega)).trans ((hV g (by omega)).trans ((h46.block g (by omega)).trans kg))
set_option maxRecDepth 100000 in
set_option maxHeartbeats 4000000 in
theorem ex_ok (l : List Tk) (A : Option Addr) (cap f i o : Nat) (m : Int) (x : Ex) (i2 : Nat) (h : pE l (f + 1) (.ex i o m) = some (x, i2)) (hl : l.length ≤ 100000) (w : World) (ht : TksAt w A l)
    (IU : ∀ w' i o x i2, TksAt w' A l → pE l f (.un i o) = some (x, i2) → Calls Tryz.prog 118 #[.slice A l.length cap, .int .i64 (i : Nat), .int .i64 (o : Nat)] w' (ResE w' x i2))
    (IX : ∀ k, k ≤ f → ∀ w' i o m x i2, TksAt w' A l → pE l k (.ex i o m) = some (x, i2) → Calls Tryz.prog 96 #[.slice A l.length cap, .int .i64 (i : Nat), .int .i64 (o : Nat), .int .i64 m] w' (ResE w' x i2)) :
    Calls Tryz.prog 96 #[.slice A l.length cap, .int .i64 (i : Nat), .int .i64 (o : Nat), .int .i64 m] w (ResE w x i2) := by
  rw [pE] at h
  rcases hu : pE l f (.un i o) with _ | ⟨x1, i1⟩
  · rw [hu] at h; cases h
  rw [hu] at h
  simp only at h
  obtain ⟨g, eg⟩ : ∃ g, g = w.heap.size := ⟨_, rfl⟩
  obtain ⟨w2, e2⟩ : ∃ w2, w2 = w.alloc (.cells exZ 34 (0, 0)) := ⟨_, rfl⟩
  have k0 : w2.heap[g]? = some (.cells exZ 34 (0, 0)) := by rw [e2, eg]; exact heap_alloc_new w _
  have hb2 : Below g w w2 := by rw [e2, eg]; exact (Below.refl _ _).alloc (Nat.le_refl _) _
  have hs2 : w2.heap.size = g + 1 := by rw [e2, eg]; simp
  have ht2 := ht.below hb2 eg
  have UN := IU w2 i o x1 i1 ht2 hu
  obtain ⟨n, en⟩ : ∃ n, n = l.length := ⟨_, rfl⟩
  rw [← en] at UN IX ⊢
  have e3 := e2
  unfold exZ at e3
  have H := Lib.hid (And.intro h (And.intro hl (And.intro ht (And.intro IX (And.intro k0 (And.intro hb2 (And.intro hs2 (And.intro eg en)))))))); clear k0 hb2 hs2 e2 ht2 ht IU IX h en hl hu
  go_enter Tryz.func96, Tryz.ntmps96
  go_upto_region 1 with fail
  rw [← e3, ← eg]
  clear e3 eg
  go_wp2_with (go_at_call 118; refine UN.mono ?_; rintro e w3 hr; obtain ⟨A1, q1, rfl, hx3, hb3⟩ := hr.out; have HR := Lib.hid (And.intro hx3 hb3); clear hx3 hb3 hr)
  clear UN
  obtain ⟨gx, egx⟩ : ∃ gx, gx = w3.heap.size := ⟨_, rfl⟩
  obtain ⟨w4, e4⟩ : ∃ w4, w4 = w3.alloc (.cells #[.int .u8 (x1.op : Nat), .int .i64 x1.num, .string x1.name, .slice A1 x1.many q1] 34 (0, 0)) := ⟨_, rfl⟩
  rw [← e4, ← egx]
  go_loopg [1] f (fun gh iv wr => XRel l w g gx o f m x i2 gh iv wr)
  case atStart =>
    obtain ⟨h, hl, ht, IX, k0, hb2, hs2, eg, en⟩ := H.out
    obtain ⟨hx3, hb3⟩ := HR.out
    have s3 := hb3.size
    have hb4 : Below w3.heap.size w3 w4 := by rw [e4]; exact (Below.refl _ _).alloc (Nat.le_refl _) _
    have hs4 : w4.heap.size = w3.heap.size + 1 := by rw [e4]; simp
    refine ⟨x1, i1, A1, q1, Nat.le_refl _, rfl, h, by rw [e4, egx]; exact heap_alloc_new w3 _, hx3.step (fun q hq => hb4.block q hq.2) (fun q hq => ⟨by omega, by omega, by omega⟩), ?_, hb2.trans ((hb3.mono (by omega)).trans (hb4.mono (by omega)))⟩
    exact (hb4.block g (by omega)).trans ((hb3.block g (by omega)).trans k0)
  case round =>
    obtain ⟨h, hl, ht, IX, k0, hb2, hs2, eg, en⟩ := H.out
    have s3 := HR.out.2.size
    have hggx : g < gx := by omega
    clear HR e4 h k0 hb2 hs2 egx s3
    obtain ⟨xx, ii, AA, qq, hgf, rfl, hp, kx, hx, k0, hb⟩ := hrel
    rcases gk with _ | k
    · cases hp
    rw [pE] at hp
    rcases hti : l[ii]? with _ | t
    · rw [hti] at hp; cases hp
    rw [hti] at hp
    simp only at hp
    obtain ⟨b, rfl, c0, c1, c2, c3, c4⟩ := (ht.below hb eg) ii t hti
    have hlt := (List.getElem?_eq_some_iff.1 hti).1
    have i0 : (0 : Int) ≤ (ii : Int) := by omega
    have i1 : (ii : Int) < (n : Int) := by omega
    have TW := two_ok t wr
    obtain ⟨hst0, hst5⟩ := twoM_le t
    obtain ⟨st, est⟩ : ∃ st, st = (twoM t).2 := ⟨_, rfl⟩
    obtain ⟨op, eop⟩ : ∃ op, op = (twoM t).1 := ⟨_, rfl⟩
    rw [← est] at hp TW hst0 hst5
    rw [← eop] at hp TW
    clear est eop
    have HK := Lib.hid (And.intro hp (And.intro kx (And.intro hx (And.intro k0 (And.intro hb (And.intro hlt (And.intro hst0 (And.intro hst5 (And.intro hl (And.intro ht (And.intro IX (And.intro eg (And.intro en (And.intro hggx hgf))))))))))))))
    clear hgf hp kx hx k0 hb hlt hst0 hst5 hl ht IX eg en H hti hggx
    go_upto_region 5 with (go_at_call 119; refine TW.mono ?_; rintro e w5 ⟨rfl, hb5⟩; have HB5 := Lib.hid hb5; clear hb5)
    obtain ⟨hp, kx, hx, k0, hb, hlt, hst0, hst5, hl, ht, IX, eg, en, hggx, hgf⟩ := HK.out
    have hb5 := HB5.out
    have kx5 := (hb5.block gx (lt_of_block kx)).trans kx
    have k05 := (hb5.block g (lt_of_block k0)).trans k0
    obtain ⟨x0, x1', x2, x3, y0, y1, y2, y3⟩ := ex_facts kx5
    by_cases hend : st < m ∨ st = 0
    · rw [if_pos hend] at hp
      injection hp with hp
      injection hp with hx1 hx2
      subst hx1 hx2
      have hs5 := hb5.size
      have hgl := lt_of_block k0
      have F : ∃ W, W = put4 w5 g (.int .u8 (xx.op : Nat)) (.int .i64 xx.num) (.string xx.name) (.slice AA xx.many qq) ∧ W.heap[g]? = some (.cells #[.int .u8 (xx.op : Nat), .int .i64 xx.num, .string xx.name, .slice AA xx.many qq] 34 (0, 0)) ∧ ExAt W (fun q => g ≤ q ∧ q < W.heap.size) xx AA qq ∧ Below g w W := by
        refine ⟨_, rfl, put4_block _ _ _ _ k05, hx.step (fun q hq => (put4_ne _ _ _ _ _ _ (by omega)).trans (hb5.block q hq.2.1)) (fun q hq => ⟨by omega, by rw [put4_size]; omega⟩), put4_below _ _ _ _ (hb.trans (hb5.mono (by omega))) (Nat.le_refl _)⟩
      obtain ⟨d0, d1, d2, d3, z0, z1, z2, z3⟩ := ex_facts k05
      have HF := Lib.hid (And.intro F eg)
      clear F eg HK HB5 kx hx k0 hb hlt hst0 hst5 hl ht IX en hggx hgf hb5 kx5 k05 hs5 hgl TW
      by_cases hsm : st < m
      · have t1 : decide (st < m) = true := decide_eq_true hsm
        clear hend
        go_wp2_with fail
        obtain ⟨⟨W, eW, kW, hW, bW⟩, eg⟩ := HF.out
        show bodyPost _ _ _ _ _ (put4 w5 g (.int .u8 (xx.op : Nat)) (.int .i64 xx.num) (.string xx.name) (.slice AA xx.many qq))
        rw [← eW]
        refine bodyPost_ret (ret_ex3 rfl _ _ g _ rfl rfl kW) rfl ?_
        refine ⟨AA, qq, rfl, ?_, ?_⟩ <;> rw [← eg] <;> assumption
      · obtain rfl : st = 0 := hend.resolve_left hsm
        have t1 : decide ((0 : Int) < m) = false := decide_eq_false hsm
        clear hend
        go_wp2_with fail
        obtain ⟨⟨W, eW, kW, hW, bW⟩, eg⟩ := HF.out
        show bodyPost _ _ _ _ _ (put4 w5 g (.int .u8 (xx.op : Nat)) (.int .i64 xx.num) (.string xx.name) (.slice AA xx.many qq))
        rw [← eW]
        refine bodyPost_ret (ret_ex3 rfl _ _ g _ rfl rfl kW) rfl ?_
        refine ⟨AA, qq, rfl, ?_, ?_⟩ <;> rw [← eg] <;> assumption
    · rw [if_neg hend] at hp
      rcases hy : pE l k (.ex (ii + 1) o (st + 1)) with _ | ⟨y, i3⟩
      · rw [hy] at hp; cases hp
      rw [hy] at hp
      simp only at hp
      rcases ht2 : l[i3]? with _ | t2
      · rw [ht2] at hp; cases hp
      rw [ht2] at hp
      simp only at hp
      by_cases h33 : st = 3 ∧ (twoM t2).2 = 3
      · rw [if_pos h33] at hp; cases hp
      rw [if_neg h33] at hp
      obtain ⟨hsm, hs0⟩ := not_or.1 hend
      have t1 : decide (st < m) = false := decide_eq_false hsm
      have t2' : (st == 0) = false := by rw [beq_eq_false_iff_ne]; exact hs0
      have u1 : wrap64 ((ii : Int) + 1) = (ii : Int) + 1 := by unfold wrap64; omega
      have u2 : wrap64 (st + 1) = st + 1 := by unfold wrap64; omega
      have EX : Calls Tryz.prog 96 #[.slice (some ⟨b, 0, none⟩) n cap, .int .i64 ((ii : Int) + 1), .int .i64 (o : Nat), .int .i64 (st + 1)] w5 (ResE w5 y i3) := by
        have := IX k (by omega) w5 (ii + 1) o (st + 1) y i3 (ht.below (hb.trans (hb5.mono (by have := hb.size; have := lt_of_block k0; omega))) eg) hy
        rw [Int.natCast_add] at this
        exact this
      have hi3 := (List.getElem?_eq_some_iff.1 ht2).1
      have j0 : (0 : Int) ≤ (i3 : Int) := by omega
      have j1 : (i3 : Int) < (n : Int) := by omega
      have HL := Lib.hid (And.intro hp (And.intro ht2 (And.intro h33 (And.intro ht (And.intro eg (And.intro hb (And.intro kx (And.intro hx (And.intro k0 (And.intro hb5 (And.intro kx5 (And.intro k05 (And.intro hggx hgf)))))))))))))
      clear hp ht2 h33 hend hsm hs0 hy hi3 ht eg hb kx hx k0 hb5 kx5 k05 hggx hgf IX HK HB5 hst0 hst5 hl hlt en TW
      go_upto_region 10 with (go_at_call 96; refine EX.mono ?_; rintro e w6 hr; obtain ⟨A2, q2, rfl, hy6, hb6⟩ := hr.out; obtain ⟨v0, v1, v2, v3, r0, r1, r2, r3⟩ := ex_facts ((hb6.block gx (lt_of_block HL.out.2.2.2.2.2.2.2.2.2.2.1)).trans HL.out.2.2.2.2.2.2.2.2.2.2.1); have hlg : gx < w6.heap.size := Nat.lt_of_lt_of_le (lt_of_block HL.out.2.2.2.2.2.2.2.2.2.2.1) hb6.size; have HY := Lib.hid (And.intro hy6 hb6); clear hy6 hb6 hr)
      clear EX x0 x1' x2 x3 y0 y1 y2 y3 t1 t2'
      go_upto_region 12 with fail
      obtain ⟨hp, ht2, h33, ht, eg, hb, kx, hx, k0, hb5, kx5, k05, hggx, hgf⟩ := HL.out
      obtain ⟨hy6, hb6⟩ := HY.out
      obtain ⟨W, eW, kxW, hxW, k0W, hbW⟩ := pair_new (op := op) (w := w) (w4 := wr) (w5 := w5) (w6 := w6) (.cells #[.int .u8 (y.op : Nat), .int .i64 y.num, .string y.name, .slice A2 y.many q2] 34 (0, 0)) hx hb5 hy6 hb6 hggx (lt_of_block kx) hb k0 ⟨_, _, _, _, kx⟩
      unfold put4 at eW
      rw [← eW]
      obtain ⟨b', eb, e0, e1, e2, e3, e4⟩ := (ht.below hbW eg) i3 t2 ht2
      injection eb with eb
      injection eb with eb
      subst eb
      have TW := two_ok t2 W
      obtain ⟨st2, est2⟩ : ∃ st2, st2 = (twoM t2).2 := ⟨_, rfl⟩
      rw [← est2] at TW h33
      have HM := Lib.hid (And.intro hp (And.intro kxW (And.intro hxW (And.intro k0W (And.intro hbW (And.intro h33 (And.intro hggx hgf)))))))
      clear hp ht2 h33 ht eg hb kx hx k0 hb5 kx5 k05 hggx hgf hy6 hb6 eW kxW hxW k0W hbW HL HY v0 v1 v2 v3 r0 r1 r2 r3 hlg est2
      go_upto_region 13 with (go_at_call 119; refine TW.mono ?_; rintro e w10 ⟨rfl, hb10⟩; have HB10 := Lib.hid hb10; clear hb10)
      clear TW
      obtain ⟨hp, kxW, hxW, k0W, hbW, h33, hggx, hgf⟩ := HM.out
      have hb10 := HB10.out
      have hs10 := hb10.size
      have XR : XRel l w g gx o f m x i2 k (.int .i64 (i3 : Nat)) w10 :=
        ⟨.b op xx y, i3, _, _, by omega, rfl, hp, (hb10.block gx (lt_of_block kxW)).trans kxW, hxW.step (fun q hq => hb10.block q hq.2.1) (fun q hq => ⟨hq.1, by omega, hq.2.2⟩), (hb10.block g (lt_of_block k0W)).trans k0W, hbW.trans (hb10.mono (by have := lt_of_block k0W; omega))⟩
      have HXR := Lib.hid XR
      clear XR hp kxW hxW k0W hbW hggx hgf hb10 hs10 HM HB10
      by_cases h3 : st = 3
      · subst h3
        have h32 : (st2 == 3) = false := by rw [beq_eq_false_iff_ne]; exact fun c => h33 ⟨rfl, c⟩
        clear h33
        go_wp2_with fail
        clear h32
        go_roundg k
        case measure => omega
        case rel => exact HXR.out
      · have h31 : (st == 3) = false := by rw [beq_eq_false_iff_ne]; exact h3
        clear h33 h3
        go_wp2_with fail
        clear h31
        go_roundg k
        case measure => omega
        case rel => exact HXR.out
end
end Go.Proofs.YtocbddajakbemaaGreat
namespace Go.Proofs.YtocbddajakbemaaGreat
section
open Go.RowKit
structure PEs (l : List Tk) (A : Option Addr) (cap f : Nat) : Prop where
  od : ∀ w i o x i2, TksAt w A l → pE l f (.od i o) = some (x, i2) → Calls Tryz.prog 128 #[.slice A l.length cap, .int .i64 (i : Nat), .int .i64 (o : Nat)] w (ResE w x i2)
  un : ∀ w i o x i2, TksAt w A l → pE l f (.un i o) = some (x, i2) → Calls Tryz.prog 118 #[.slice A l.length cap, .int .i64 (i : Nat), .int .i64 (o : Nat)] w (ResE w x i2)
  ins : ∀ w i o b e x i2, TksAt w A l → pE l f (.ins i o b e) = some (x, i2) → Calls Tryz.prog 60 #[.slice A l.length cap, .int .i64 (i : Nat), .int .i64 (o : Nat), .string b, .string e, .int .i64 1] w (ResI w x i2)
  ex : ∀ k, k ≤ f → ∀ w i o m x i2, TksAt w A l → pE l k (.ex i o m) = some (x, i2) → Calls Tryz.prog 96 #[.slice A l.length cap, .int .i64 (i : Nat), .int .i64 (o : Nat), .int .i64 m] w (ResE w x i2)
theorem PE_ok (l : List Tk) (A : Option Addr) (cap : Nat) (hl : l.length ≤ 100000) : ∀ f, PEs l A cap f := by
  intro f
  induction f with
  | zero =>
    refine ⟨fun w i o x i2 _ h => (by cases h), fun w i o x i2 _ h => (by cases h), fun w i o b e x i2 _ h => (by cases h), fun k hk w i o m x i2 _ h => ?_⟩
    obtain rfl : k = 0 := by omega
    cases h
  | succ f ih =>
    refine ⟨fun w i o x i2 ht h => od_ok l A cap f i o x i2 h hl w ht ih.ins, fun w i o x i2 ht h => un_ok l A cap f i o x i2 h w ht ih.od,
      fun w i o b e x i2 ht h => ins_ok l A cap f i o b e x i2 h hl w ht (fun w' i o x i2 _ ht h => ih.ex f (Nat.le_refl _) w' i o 1 x i2 ht h), fun k hk w i o m x i2 ht h => ?_⟩
    rcases Nat.lt_or_ge k (f + 1) with hlt | hge
    · exact ih.ex k (by omega) w i o m x i2 ht h
    · obtain rfl : k = f + 1 := by omega
      exact ex_ok l A cap f i o m x i2 h hl w ht ih.un ih.ex
end
end Go.Proofs.YtocbddajakbemaaGreat
namespace Go.Proofs.YtocbddajakbemaaGreat
section
open Go.RowKit
theorem isM_lt {l : List Tk} {i : Nat} {s : ByteArray} {b : Bool} (h : isM l i s = some b) : i < l.length := by
  rcases hx : l[i]? with _ | t
  · unfold isM at h; rw [hx] at h; cases h
  · exact (List.getElem?_eq_some_iff.1 hx).1
set_option maxRecDepth 100000 in
set_option maxHeartbeats 4000000 in
theorem val_ok (l : List Tk) (A : Option Addr) (cap f i o : Nat) (x : Ex) (i3 : Nat) (h : pV l f i o = some (x, i3)) (hl : l.length ≤ 100000) (w : World) (ht : TksAt w A l) :
    Calls Tryz.prog 61 #[.slice A l.length cap, .int .i64 (i : Nat), .int .i64 (o : Nat)] w (ResE w x i3) := by
  unfold pV at h
  by_cases he : isM l i s_eq = some true
  · rw [if_pos he] at h
    rcases hp : pE l f (.ex (i + 1) o 1) with _ | ⟨x', j⟩
    · rw [hp] at h; cases h
    rw [hp] at h
    simp only at h
    by_cases hs : isM l j s_semi = some true
    · rw [if_pos hs] at h
      injection h with h
      injection h with hx1 hx2
      subst hx1 hx2
      have hi := isM_lt he
      have hj := isM_lt hs
      obtain ⟨g, eg⟩ : ∃ g, g = w.heap.size := ⟨_, rfl⟩
      obtain ⟨w2, e2⟩ : ∃ w2, w2 = w.alloc (.cells exZ 34 (0, 0)) := ⟨_, rfl⟩
      have k0 : w2.heap[g]? = some (.cells exZ 34 (0, 0)) := by rw [e2, eg]; exact heap_alloc_new w _
      have hb2 : Below g w w2 := by rw [e2, eg]; exact (Below.refl _ _).alloc (Nat.le_refl _) _
      have hs2 : w2.heap.size = g + 1 := by rw [e2, eg]; simp
      have I1 := is_ok A cap l i s_eq true he w2 (ht.below hb2 eg)
      have EX : Calls Tryz.prog 96 #[.slice A l.length cap, .int .i64 ((i : Int) + 1), .int .i64 (o : Nat), .int .i64 1] w2 (ResE w2 x' j) := by
        have := (PE_ok l A cap hl f).ex f (Nat.le_refl _) w2 (i + 1) o 1 x' j (ht.below hb2 eg) hp
        rw [Int.natCast_add] at this
        exact this
      have I2 := fun W h => is_ok A cap l j s_semi true hs W (ht.below (B := g) (w' := W) h eg)
      have u1 : wrap64 ((i : Int) + 1) = (i : Int) + 1 := by unfold wrap64; omega
      have u2 : wrap64 ((j : Int) + 1) = ((j + 1 : Nat) : Int) := by unfold wrap64; omega
      have e3 := e2
      unfold exZ at e3
      obtain ⟨n, en⟩ : ∃ n, n = l.length := ⟨_, rfl⟩
      rw [← en] at I1 I2 EX ⊢
      have H := Lib.hid (And.intro k0 (And.intro hb2 (And.intro hs2 (And.intro eg I2))))
      clear k0 hb2 hs2 e2 ht hi hj hp he hs hl en I2
      go_enter Tryz.func61, Tryz.ntmps61
      go_upto_region 1 with fail
      rw [← e3, ← eg]
      clear e3 eg
      go_upto_region 3 with (go_at_call 62; refine I1.mono ?_; rintro e w' ⟨rfl, rfl⟩)
      clear I1
      go_upto_region 4 with (go_at_call 96; refine EX.mono ?_; rintro e w3 hr; obtain ⟨A1, q1, rfl, hx3, hb3⟩ := hr.out; have HR := Lib.hid (And.intro hx3 hb3); clear hx3 hb3 hr)
      clear EX
      obtain ⟨k0, hb2, hs2, eg, I2⟩ := H.out
      obtain ⟨hx3, hb3⟩ := HR.out
      have s3 := hb3.size
      obtain ⟨d0, d1, d2, d3, z0, z1, z2, z3⟩ := ex_facts ((hb3.block g (by omega)).trans k0)
      have hlg : g < w3.heap.size := by omega
      have IS := I2 (w3.alloc (.cells #[.int .u8 (x'.op : Nat), .int .i64 x'.num, .string x'.name, .slice A1 x'.many q1] 34 (0, 0))) (hb2.trans ((hb3.mono (by omega)).trans ((Below.refl _ _).alloc (by omega) _)))
      clear k0 hb2 hs2 eg I2 hx3 hb3 s3
      go_wp2_with (go_at_call 62; refine IS.mono ?_; rintro e w' ⟨rfl, rfl⟩)
      obtain ⟨k0, hb2, hs2, eg, I2⟩ := H.out
      obtain ⟨hx3, hb3⟩ := HR.out
      have s3 := hb3.size
      have kp : (put4 w3 g (.int .u8 (x'.op : Nat)) (.int .i64 x'.num) (.string x'.name) (.slice A1 x'.many q1)).heap[g]? = _ := put4_block _ _ _ _ ((hb3.block g (by omega)).trans k0)
      have bp := put4_below (g := g) (.int .u8 (x'.op : Nat)) (.int .i64 x'.num) (.string x'.name) (.slice A1 x'.many q1) (hb2.trans (hb3.mono (by omega))) (Nat.le_refl _)
      have sp := put4_size w3 g (.int .u8 (x'.op : Nat)) (.int .i64 x'.num) (.string x'.name) (.slice A1 x'.many q1)
      refine bodyPost_ret (ret_ex3 rfl _ _ g _ rfl rfl ((Below.heap_alloc (put4 w3 g (.int .u8 (x'.op : Nat)) (.int .i64 x'.num) (.string x'.name) (.slice A1 x'.many q1)) _ _ (by rw [sp]; exact hlg)).trans kp)) rfl ?_
      refine ⟨A1, q1, by rw [← u2]; rfl, ?_, ?_⟩
      · refine hx3.step (fun q hq => ?_) (fun q hq => ⟨by omega, ?_⟩)
        · refine (Below.heap_alloc (put4 w3 g (.int .u8 (x'.op : Nat)) (.int .i64 x'.num) (.string x'.name) (.slice A1 x'.many q1)) _ _ (by rw [sp]; exact hq.2)).trans (put4_ne _ _ _ _ _ _ (by omega))
        · show q < ((put4 w3 g _ _ _ _).alloc _).heap.size
          rw [alloc_size, sp]; omega
      · rw [← eg]
        exact bp.alloc (by rw [sp]; omega) _
    · rw [if_neg hs] at h; cases h
  · rw [if_neg he] at h; cases h
end
end Go.Proofs.YtocbddajakbemaaGreat
