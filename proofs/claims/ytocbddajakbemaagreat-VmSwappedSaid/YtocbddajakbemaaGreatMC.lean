/- vm: Run. -/
import Derived.Test.YtocbddajakbemaaGreatMB
import Derived.Laws.OwnMore
import Derived.Deep.RegionWith
import Derived.Deep.RegionLaw
set_option linter.unusedVariables false
set_option linter.unusedSimpArgs false
set_option linter.unusedSimpArgs false
namespace Go.Proofs.YtocbddajakbemaaGreat
section
open Go.RowKit
structure RArg where
  cA : Option Addr
  cn : Nat
  cc : Nat
  L : Nat
  R : Int
  Wr : Int
  ID : Int
  A : Option Addr
  n : Nat
  cap : Nat
  seed : Int
  tick : Int
  key : Int
def RArg.prog (a : RArg) : Array Value := #[.slice a.cA a.cn a.cc, .int .i64 (a.L : Nat), .int .u32 a.R, .int .u32 a.Wr]
def RArg.ent (a : RArg) : Array Value := #[.int .i64 a.ID, .slice a.A a.n a.cap]
def RArg.env (a : RArg) : Array Value := #[.int .u64 a.seed, .int .i64 a.tick, .int .u64 a.key]
def RArg.fix (a : RArg) : Fix := ⟨a.cA, a.cn, a.cc, (a.L : Nat), a.R, a.Wr, a.ID, a.seed, a.tick, a.key, newI a.seed a.tick a.ID a.key⟩
structure Bx (W : World) (g : Nat) (a : RArg) : Prop where
  p : W.heap[g]? = some (.cells a.prog 53 (0, 0))
  e : W.heap[g + 1]? = some (.cells a.ent 25 (0, 0))
  v : W.heap[g + 2]? = some (.cells a.env 28 (0, 0))
  r : W.heap[g + 3]? = some (.cells #[.int .i64 0, .slice none 0 0] 25 (0, 0))
theorem Bx.below {W W' : World} {g B : Nat} {a : RArg} (h : Bx W g a) (hb : Below B W W') (hB : g + 4 ≤ B) : Bx W' g a :=
  ⟨(hb.block _ (by omega)).trans h.p, (hb.block _ (by omega)).trans h.e, (hb.block _ (by omega)).trans h.v, (hb.block _ (by omega)).trans h.r⟩
theorem Bx.cells {W : World} {g : Nat} {a : RArg} (h : Bx W g a) :
    (W.cell? ⟨g, 0, none⟩ = some (.slice a.cA a.cn a.cc) ∧ W.cell? ⟨g, 1, none⟩ = some (.int .i64 (a.L : Nat)) ∧ W.cell? ⟨g, 2, none⟩ = some (.int .u32 a.R) ∧ W.cell? ⟨g, 3, none⟩ = some (.int .u32 a.Wr)) ∧
    (W.cell? ⟨g + 1, 0, none⟩ = some (.int .i64 a.ID) ∧ W.cell? ⟨g + 1, 1, none⟩ = some (.slice a.A a.n a.cap)) ∧
    (W.cell? ⟨g + 1 + 1, 0, none⟩ = some (.int .u64 a.seed) ∧ W.cell? ⟨g + 1 + 1, 1, none⟩ = some (.int .i64 a.tick) ∧ W.cell? ⟨g + 1 + 1, 2, none⟩ = some (.int .u64 a.key)) :=
  ⟨⟨(cell_of_block h.p 0).trans rfl, (cell_of_block h.p 1).trans rfl, (cell_of_block h.p 2).trans rfl, (cell_of_block h.p 3).trans rfl⟩, ⟨(cell_of_block h.e 0).trans rfl, (cell_of_block h.e 1).trans rfl⟩, ⟨(cell_of_block h.v 0).trans rfl, (cell_of_block h.v 1).trans rfl, (cell_of_block h.v 2).trans rfl⟩⟩
theorem bx_new (w : World) (a : RArg) : Bx ((((w.alloc (.cells a.prog 53 (0, 0))).alloc (.cells a.ent 25 (0, 0))).alloc (.cells a.env 28 (0, 0))).alloc (.cells #[.int .i64 0, .slice none 0 0] 25 (0, 0))) w.heap.size a := by
  have s1 := heap_alloc_new w (.cells a.prog 53 (0, 0))
  have s2 := heap_alloc_new (w.alloc (.cells a.prog 53 (0, 0))) (.cells a.ent 25 (0, 0))
  have s3 := heap_alloc_new ((w.alloc (.cells a.prog 53 (0, 0))).alloc (.cells a.ent 25 (0, 0))) (.cells a.env 28 (0, 0))
  have s4 := heap_alloc_new (((w.alloc (.cells a.prog 53 (0, 0))).alloc (.cells a.ent 25 (0, 0))).alloc (.cells a.env 28 (0, 0))) (.cells #[.int .i64 0, .slice none 0 0] 25 (0, 0))
  have z : ∀ (W : World) (o : Obj), (W.alloc o).heap.size = W.heap.size + 1 := fun W o => by simp
  simp only [z] at s2 s3 s4
  refine ⟨?_, ?_, ?_, s4⟩
  · exact (Below.heap_alloc _ _ _ (by simp only [z]; omega)).trans ((Below.heap_alloc _ _ _ (by simp only [z]; omega)).trans ((Below.heap_alloc _ _ _ (by simp only [z]; omega)).trans s1))
  · exact (Below.heap_alloc _ _ _ (by simp only [z]; omega)).trans ((Below.heap_alloc _ _ _ (by simp only [z]; omega)).trans s2)
  · exact (Below.heap_alloc _ _ _ (by simp only [z]; omega)).trans s3
def RReady (w wx : World) (g : Nat) (a : RArg) (f : Nat) (cs : List Cmp) (p : Value) : Prop :=
  ∃ rb D, p = .pointer (some ⟨rb, 0, none⟩) ∧ MOk wx (g + 4) rb a.fix D [] (List.replicate a.L 0) cs ∧ D.fuel = (f : Nat) ∧ D.at_ = 0 ∧ D.drawn = 0 ∧ Bx wx g a ∧ Below g w wx
theorem zeros_ints (n : Nat) : (madeCells #[Value.int .i64 0] n).toList = ints (List.replicate n 0) := by
  rw [toList_madeCells_one]; simp [ints]
theorem ready_of {w W : World} {g : Nat} {a : RArg} {f lb B' p : Nat} (hp : p = W.heap.size) {v : Value} {cs : List Cmp} (hb : Below g w W) (hx : Bx W g a) (hlb : g + 4 ≤ lb) (hB : g + 4 ≤ B') (hn : a.n = cs.length) (hL : a.L ≤ 1000)
    (hl : W.heap[lb]? = some (.cells (madeCells #[.int .i64 0] a.L) 3 (0, 0))) (hc : W.ownsRow B' 48 5 v a.n (comps cs)) :
    RReady w (W.alloc (.cells (mcells a.fix ⟨(f : Nat), 0, 0, .slice none 0 0, .slice (some ⟨lb, 0, none⟩) a.L a.L, v⟩) 81 (0, 0))) g a f cs (.pointer (some ⟨p, 0, none⟩)) := by
  subst hp
  have hg : g + 4 ≤ W.heap.size := by have := lt_of_block hl; omega
  refine ⟨W.heap.size, ⟨(f : Nat), 0, 0, .slice none 0 0, .slice (some ⟨lb, 0, none⟩) a.L a.L, v⟩, rfl, ⟨heap_alloc_new W _, ⟨rfl, Or.inl ⟨rfl, rfl⟩⟩, World.ownsRow.alloc ?_ _, World.ownsRow.alloc ?_ _, fun q hq => by simp [Value.ownBlock] at hq, hg⟩, rfl, rfl, rfl, hx.below ((Below.refl _ W).alloc (Nat.le_refl _) _) hg, hb.alloc (by omega) _⟩
  · refine ⟨by simp [ints], Or.inr ⟨lb, a.L, _, by simp, hlb, hl, by simp, by unfold maxLen; omega, by simp [size_madeCells], ?_⟩⟩
    rw [← zeros_ints]
    simp only [List.length_replicate, Nat.mul_one]
    exact List.take_of_length_le (by simp [size_madeCells])
  · rw [← hn]; exact own_rebase hc hB
theorem cell_two_ne (W : World) (k q i : Nat) (u v : Value) (h : q ≠ k) : ((W.setCell ⟨k, 0, none⟩ u).setCell ⟨k, 1, none⟩ v).cell? ⟨q, i, none⟩ = W.cell? ⟨q, i, none⟩ := by
  unfold World.cell?
  rw [Below.heap_setCell _ _ _ _ (show q ≠ (⟨k, 1, none⟩ : Addr).block from h), Below.heap_setCell _ _ _ _ (show q ≠ (⟨k, 0, none⟩ : Addr).block from h)]
theorem deed_err {S : Fix} {op : Nat} {a : Int} {σ : Mst} {n : Nat} (hr : deedF S op a σ = some (.error n)) : 0 < n ∧ n < 256 := by
  unfold deedF at hr
  split at hr
  · cases hr
  · (repeat' split at hr) <;> first | (cases hr; done) | (injection hr with hr; injection hr with hr; subst hr; first | (constructor <;> omega) | (unfold evE at *; (repeat' split at *) <;> first | omega | contradiction | (constructor <;> omega)))
theorem run_err {S : Fix} {code : List (Nat × Int)} {n f' : Nat} : ∀ {f : Nat} {σ : Mst}, runF S code f σ = some (.error (n, f')) → 0 < n ∧ n < 256 := by
  intro f
  induction f with
  | zero =>
    intro σ h
    rw [runF.eq_def] at h
    simp only at h
    repeat' split at h
    all_goals first | (cases h; done) | (injection h with h; injection h with h; injection h with h1 h2; subst h1; constructor <;> omega)
  | succ f ih =>
    intro σ h
    rw [runF.eq_def] at h
    simp only at h
    (repeat' split at h)
    all_goals first | (cases h; done) | (rename_i hd; injection h with h; injection h with h; injection h with h1 h2; subst h1; exact deed_err hd) | exact ih h
def RunGives (w : World) (a : RArg) (cs : List Cmp) (r : Except (Nat × Nat) (Nat × Mst)) (e : Ending) (w' : World) : Prop :=
  ∃ A cap, match r with
  | .ok (f, σ) => e = .returned (.tuple #[.agg #[.int .i64 a.ID, .slice A σ.cs.length cap], .int .i64 (f : Nat), .int .i64 0]) ∧ w'.ownsRow w.heap.size 48 5 (.slice A σ.cs.length cap) σ.cs.length (comps σ.cs) ∧ Below w.heap.size w w'
  | .error (n, f) => e = .returned (.tuple #[.agg #[.int .i64 a.ID, .slice A cs.length cap], .int .i64 (f : Nat), .int .i64 (n : Nat)]) ∧ w'.ownsRow w.heap.size 48 5 (.slice A cs.length cap) cs.length (comps cs) ∧ Below w.heap.size w w'
theorem CodeAt.mono {w : World} {B B' : Nat} {A : Option Addr} {code : List (Nat × Int)} (h : CodeAt w B A code) (hB : B ≤ B') : CodeAt w B' A code := by
  intro i x hx
  obtain ⟨cb, co, e, hl, h1, h2⟩ := h i x hx
  exact ⟨cb, co, e, by omega, h1, h2⟩
theorem step_call {ops : Array Oper} {o : Oper} {a : Act} {w : World} {K : Act → World → Prop} {Q : Exit → Act → World → Prop} {E : Prop} (f : FuncId) (xs : List Operand) (ts : Array TypeId) (hg : o.guard = none)
    (hop : o.op = .call { callee := .value (.func f), args := xs.toArray, argTypes := ts }) (hcall : ∀ args W, (callFunc f args).run Tryz.prog W = .ok (.enter f args) W) (args : List Value) (ha : xs.map a.eval = args)
    {R : Ending → World → Prop} (hc : Calls Tryz.prog f args.toArray w R) (hR : ∀ e w', R e w' → ∃ v, e = .returned v ∧ K (a.put o.dst v) w') :
    if Region.wanted o (yielded ops a.tmps) = true then Oper.wp Tryz.prog o a w K Q else E := by
  have hw : Region.wanted o (yielded ops a.tmps) = true := by simp [Region.wanted, hg]
  rw [if_pos hw]
  subst ha
  unfold Oper.wp
  have e1 : (execOp a.eval o).run Tryz.prog w = .ok (.enter f (xs.map a.eval).toArray) w := by
    simp [execOp, hop, resolve, invoke, Act.eval, hcall, Deferred.ofValue]
  rw [e1]
  refine Calls.mono hc fun e w' he => ?_
  obtain ⟨v, rfl, hk⟩ := hR e w' he
  exact hk
set_option maxRecDepth 100000 in
set_option maxHeartbeats 8000000 in
theorem Run_ok (a : RArg) (cs : List Cmp) (code : List (Nat × Int)) (r : Except (Nat × Nat) (Nat × Mst)) (f : Nat) (hf : f ≤ 10000) (hL : a.L ≤ 1000) (w : World) (hn : a.n = cs.length) (hl : cs.length ≤ 1000000) (hnil : a.A = none → a.n = 0 ∧ a.cap = 0) (hc : CompsAt w a.A cs)
    (s0 : 0 ≤ a.seed) (s1 : a.seed ≤ 18446744073709551615) (k0 : 0 ≤ a.key) (k1 : a.key ≤ 18446744073709551615)
    (hcode : CodeAt w w.heap.size a.cA code) (hcn : a.cn = code.length) (hcl : code.length ≤ 4000) (hfine : Fine cs) (hr : runF a.fix code f ⟨0, 0, [], List.replicate a.L 0, cs⟩ = some r)
    (HS : ∀ w', Below w.heap.size w w' → Calls Tryz.prog 26 #[.agg #[.slice a.cA a.cn a.cc, .int .i64 (a.L : Nat), .int .u32 a.R, .int .u32 a.Wr]] w' fun e w'' => e = .returned (.bool true) ∧ Below w'.heap.size w' w'') :
    Calls Tryz.prog 15 #[.agg #[.slice a.cA a.cn a.cc, .int .i64 (a.L : Nat), .int .u32 a.R, .int .u32 a.Wr], .agg #[.int .i64 a.ID, .slice a.A a.n a.cap], .agg #[.int .u64 a.seed, .int .i64 a.tick, .int .u64 a.key], .int .i64 f] w (RunGives w a cs r) := by
  obtain ⟨cA, cn, cc, L, R, Wr, ID, A, n, cap, seed, tick, key⟩ := a
  have HR := Lib.hid (And.intro hcode (And.intro hcn (And.intro hcl (And.intro hfine (And.intro hr (And.intro hf (And.intro hL (And.intro hc (And.intro hn (And.intro hl hnil)))))))))); clear hcode hcn hcl hfine hr
  simp only at hL hn hnil hc s0 s1 k0 k1 HS HR ⊢
  have t0 : decide ((f : Int) < 0) = false := decide_eq_false (by omega)
  have t1 : decide ((10000 : Int) < f) = false := decide_eq_false (by omega)
  obtain ⟨i0, hi, hz0, hz1, hz2⟩ := info_parts infoInt
  have hmk : ∀ W : World, (Instr.makeSlice 77 (.int .i64 (L : Nat)) (.int .i64 (L : Nat))).run Tryz.prog W = .ok (.slice (some ⟨W.heap.size, 0, none⟩) L L) (W.alloc (.cells (madeCells #[.int .i64 0] L) 3 (0, 0))) := by
    intro W
    have := run_make (P := Tryz.prog) W 77 3 i0 (.int .i64 0) Tryz.underlying77 hi hz0 .i64 .i64 (L : Nat) (L : Nat) (by omega) (by omega) (by rw [hz2]; omega) (by omega)
    rw [hz1] at this
    simpa [Value.cells] using this
  clear hi hz0 hz1 hz2
  generalize hZ : madeCells #[.int .i64 0] L = Z at hmk
  have H := Lib.hid (And.intro HS hmk); clear HS hmk
  have HK := Lib.hid (And.intro hn (And.intro hl (And.intro hnil (And.intro hc (And.intro s0 (And.intro s1 (And.intro k0 (And.intro k1 (And.intro hL hZ))))))))); clear hn hl hnil hc s0 s1 k0 k1 hL hZ
  go_enter Tryz.func15, Tryz.ntmps15
  go_upto_region 1 with fail
  have bx := bx_new w ⟨cA, cn, cc, L, R, Wr, ID, A, n, cap, seed, tick, key⟩
  have hb : Below w.heap.size w ((((w.alloc (.cells (RArg.prog ⟨cA, cn, cc, L, R, Wr, ID, A, n, cap, seed, tick, key⟩) 53 (0, 0))).alloc (.cells (RArg.ent ⟨cA, cn, cc, L, R, Wr, ID, A, n, cap, seed, tick, key⟩) 25 (0, 0))).alloc (.cells (RArg.env ⟨cA, cn, cc, L, R, Wr, ID, A, n, cap, seed, tick, key⟩) 28 (0, 0))).alloc (.cells #[.int .i64 0, .slice none 0 0] 25 (0, 0))) :=
    ((((Below.refl _ _).alloc (Nat.le_refl _) _).alloc (by simp) _).alloc (by simp; omega) _).alloc (by simp; omega) _
  have hs : ((((w.alloc (.cells (RArg.prog ⟨cA, cn, cc, L, R, Wr, ID, A, n, cap, seed, tick, key⟩) 53 (0, 0))).alloc (.cells (RArg.ent ⟨cA, cn, cc, L, R, Wr, ID, A, n, cap, seed, tick, key⟩) 25 (0, 0))).alloc (.cells (RArg.env ⟨cA, cn, cc, L, R, Wr, ID, A, n, cap, seed, tick, key⟩) 28 (0, 0))).alloc (.cells #[.int .i64 0, .slice none 0 0] 25 (0, 0))).heap.size = w.heap.size + 4 := by simp
  simp only [RArg.prog, RArg.ent, RArg.env] at bx hb hs
  obtain ⟨w1, ew1⟩ : ∃ w1, w1 = ((((w.alloc (.cells #[.slice cA cn cc, .int .i64 (L : Nat), .int .u32 R, .int .u32 Wr] 53 (0, 0))).alloc (.cells #[.int .i64 ID, .slice A n cap] 25 (0, 0))).alloc (.cells #[.int .u64 seed, .int .i64 tick, .int .u64 key] 28 (0, 0))).alloc (.cells #[.int .i64 0, .slice none 0 0] 25 (0, 0))) := ⟨_, rfl⟩
  rw [← ew1] at bx hb hs ⊢
  clear ew1
  obtain ⟨g, eg⟩ : ∃ g, g = w.heap.size := ⟨_, rfl⟩
  rw [← eg] at bx hb hs ⊢
  obtain ⟨⟨c0, c1, c2, c3⟩, ⟨e0, e1⟩, ⟨v0, v1, v2⟩⟩ := bx.cells
  simp only at c0 c1 c2 c3 e0 e1 v0 v1 v2
  have HW := Lib.hid (And.intro bx (And.intro hb (And.intro hs eg))); clear bx hb hs eg
  go_wp2_with (go_at_call 26; refine (H.out.1 _ (by rw [← HW.out.2.2.2]; exact HW.out.2.1)).mono ?_; rintro e w2 ⟨rfl, hb2⟩)
  have HB := Lib.hid hb2
  have hbx := HW.out.1.below hb2 (by have := HW.out.2.2.1; omega)
  have hbb := HW.out.2.1.trans (hb2.mono (by have := HW.out.2.2.1; omega))
  have hs2 := hb2.size
  obtain ⟨⟨c0, c1, c2, c3⟩, ⟨e0, e1⟩, ⟨v0, v1, v2⟩⟩ := hbx.cells
  simp only at c0 c1 c2 c3 e0 e1 v0 v1 v2
  have HX := Lib.hid (And.intro hbx (And.intro hbb (show g + 4 ≤ w2.heap.size from by have := HW.out.2.2.1; omega))); clear hbx hbb hs2 hb2
  have hmk := H.out.2
  have OWN : ∀ W, Below w2.heap.size w2 W → Calls Tryz.prog 27 #[.agg #[.int .i64 ID, .slice A n cap]] W fun e w' => ∃ A3 cap3, e = .returned (.agg #[.int .i64 ID, .slice A3 n cap3]) ∧
      w'.ownsRow w2.heap.size 48 5 (.slice A3 n cap3) n (comps cs) ∧ Below W.heap.size W w' ∧ Below w2.heap.size w2 w' ∧ Bx w' g ⟨cA, cn, cc, L, R, Wr, ID, A, n, cap, seed, tick, key⟩ := by
    intro W hch
    refine (own_ok ID A n cap cs W ((HK.out.2.2.2.1.below HX.out.2.1 HW.out.2.2.2).below hch rfl) HK.out.1 HK.out.2.1 HK.out.2.2.1).mono ?_
    rintro e w3 ⟨v, rfl, ho, hb3⟩
    obtain ⟨A3, cap3, rfl, -, -⟩ := compsAt_own ho
    have hb4 := hch.trans (hb3.mono hch.size)
    exact ⟨A3, cap3, rfl, own_rebase ho hch.size, hb3, hb4, HX.out.1.below hb4 HX.out.2.2⟩
  have NEW := fun W => New_calls seed tick ID key W HK.out.2.2.2.2.1 HK.out.2.2.2.2.2.1 HK.out.2.2.2.2.2.2.1 HK.out.2.2.2.2.2.2.2.1
  have HO := Lib.hid (And.intro OWN NEW); clear OWN NEW
  clear c0 c1 c2 c3 e0 e1 v0 v1 v2
  have SK : ∀ W, Below w2.heap.size w2 W → Below w2.heap.size w2 W ∧ (W.cell? ⟨g, 0, none⟩ = some (.slice cA cn cc) ∧ W.cell? ⟨g, 1, none⟩ = some (.int .i64 (L : Nat)) ∧ W.cell? ⟨g, 2, none⟩ = some (.int .u32 R) ∧ W.cell? ⟨g, 3, none⟩ = some (.int .u32 Wr)) ∧
      (W.cell? ⟨g + 1, 0, none⟩ = some (.int .i64 ID) ∧ W.cell? ⟨g + 1, 1, none⟩ = some (.slice A n cap)) ∧
      (W.cell? ⟨g + 1 + 1, 0, none⟩ = some (.int .u64 seed) ∧ W.cell? ⟨g + 1 + 1, 1, none⟩ = some (.int .i64 tick) ∧ W.cell? ⟨g + 1 + 1, 2, none⟩ = some (.int .u64 key)) := fun W h => ⟨h, (HX.out.1.below h HX.out.2.2).cells⟩
  have HSK := Lib.hid SK; clear SK
  go_cut [11] (fun p wx => RReady w wx g ⟨cA, cn, cc, L, R, Wr, ID, A, n, cap, seed, tick, key⟩ f cs p)
  case first =>
    go_region_held3 (fun W => Below w2.heap.size w2 W ∧ (W.cell? ⟨g, 0, none⟩ = some (.slice cA cn cc) ∧ W.cell? ⟨g, 1, none⟩ = some (.int .i64 (L : Nat)) ∧ W.cell? ⟨g, 2, none⟩ = some (.int .u32 R) ∧ W.cell? ⟨g, 3, none⟩ = some (.int .u32 Wr)) ∧
      (W.cell? ⟨g + 1, 0, none⟩ = some (.int .i64 ID) ∧ W.cell? ⟨g + 1, 1, none⟩ = some (.slice A n cap)) ∧
      (W.cell? ⟨g + 1 + 1, 0, none⟩ = some (.int .u64 seed) ∧ W.cell? ⟨g + 1 + 1, 1, none⟩ = some (.int .i64 tick) ∧ W.cell? ⟨g + 1 + 1, 2, none⟩ = some (.int .u64 key)))
      (first | exact HSK.out _ ((Below.refl _ w2).drew) | (refine HSK.out _ ?_; assumption) | (refine HSK.out _ (Below.alloc (And.left (by assumption)) ?_ _); exact Below.size (And.left (by assumption))))
      (first
      | (refine step_call 27 [.tmp 26] _ rfl rfl (fun _ _ => rfl) _ rfl (HO.out.1 _ (by first | exact (Below.refl _ w2).drew | exact (Below.refl _ w2).drew.alloc (Nat.le_refl _) _)) ?_
         rintro e w3 ⟨A3, cap3, rfl, ho, hb3, hb4, hbx3⟩
         refine ⟨_, rfl, ?_⟩
         have HOWN := Lib.hid (And.intro ho (And.intro hb3 hbx3)); clear ho hb3 hbx3)
      | (refine step_call 28 [.tmp 34, .tmp 36, .tmp 38, .tmp 40] _ rfl rfl (fun _ _ => rfl) _ rfl (HO.out.2 _) ?_
         rintro e w4 ⟨rfl, hb5⟩
         refine ⟨_, rfl, ?_⟩
         have hb6 : Below w2.heap.size w2 w4 := by
           first
             | exact Below.trans (And.left (by assumption)) (hb5.mono (Below.size (And.left (by assumption))))
         have HNEW := Lib.hid hb5; clear hb5))
    all_goals go_wp2_with fail
    all_goals go_meet
    · obtain ⟨ho, hw, -⟩ := HOWN.out
      refine ready_of (a := ⟨cA, cn, cc, L, R, Wr, ID, A, n, cap, seed, tick, key⟩) (lb := w3.heap.size) (B' := w2.heap.size) rfl (HX.out.2.1.trans (hb6.mono (Nat.le_trans (Nat.le_add_right _ _) HX.out.2.2))) (HX.out.1.below hb6 HX.out.2.2) (Nat.le_trans HX.out.2.2 hb4.size) HX.out.2.2 HK.out.1 HK.out.2.2.2.2.2.2.2.2.1 ?_ (own_same ho fun q hq => (HNEW.out.block q (by simp; omega)).trans (Below.heap_alloc _ _ _ hq))
      have := (HNEW.out.block w3.heap.size (by simp)).trans (heap_alloc_new w3 _)
      rw [← HK.out.2.2.2.2.2.2.2.2.2] at this
      exact this
    · obtain ⟨ho, hw, -⟩ := HOWN.out
      have hb7 : Below w2.heap.size w2 (w4.alloc (.cells Z 3 (0, 0))) := hb6.alloc hb6.size _
      refine ready_of (a := ⟨cA, cn, cc, L, R, Wr, ID, A, n, cap, seed, tick, key⟩) (lb := w4.heap.size) (B' := w2.heap.size) (by simp) (HX.out.2.1.trans (hb7.mono (Nat.le_trans (Nat.le_add_right _ _) HX.out.2.2))) (HX.out.1.below hb7 HX.out.2.2) (Nat.le_trans HX.out.2.2 hb6.size) HX.out.2.2 HK.out.1 HK.out.2.2.2.2.2.2.2.2.1 ?_ ((own_same ho fun q hq => HNEW.out.block q hq).alloc _)
      have := heap_alloc_new w4 (.cells Z 3 (0, 0))
      rw [← HK.out.2.2.2.2.2.2.2.2.2] at this ⊢
      exact this
    · obtain ⟨ho, hw, -⟩ := HOWN.out
      refine ready_of (a := ⟨cA, cn, cc, L, R, Wr, ID, A, n, cap, seed, tick, key⟩) (lb := w2.heap.size) (B' := w2.heap.size) rfl (HX.out.2.1.trans (hb6.mono (Nat.le_trans (Nat.le_add_right _ _) HX.out.2.2))) (HX.out.1.below hb6 HX.out.2.2) HX.out.2.2 HX.out.2.2 HK.out.1 HK.out.2.2.2.2.2.2.2.2.1 ?_ (own_same ho fun q hq => HNEW.out.block q hq)
      have h3 := (hw.block w2.heap.size (by simp)).trans (heap_alloc_new w2.drew _)
      have := (HNEW.out.block w2.heap.size (Nat.lt_of_lt_of_le (by simp) hw.size)).trans h3
      rw [← HK.out.2.2.2.2.2.2.2.2.2] at this
      exact this
  case rest =>
  obtain ⟨rb, D, rfl, hm, ef, ea, ed, hbx, hb⟩ := hcut
  clear HSK HO hmk H HK HX HB c0 c1 c2 c3 e0 e1 v0 v1 v2 t0 t1
  obtain ⟨hcode, hcn, hcl, hfine, hr, hf2, hL2, hc, hn, hl, hnil⟩ := HR.out
  obtain ⟨-, -, -, eg⟩ := HW.out
  clear HW HR hf
  try simp only at hcode hcn hcl hr hL2 hc hn hnil
  rw [← eg] at hcode
  have hcx : CodeAt wc (g + 4) cA code := (hcode.below hb).mono (by omega)
  have AO := all_ok (g + 4) rb _ D code ⟨0, 0, [], List.replicate L 0, cs⟩ wc f r hm ⟨hfine, by simpa using hL2, by simp, by simp⟩ ef ea ed (by omega) hcx hcn hcl hr
  have hlt := hm.mF_lt
  have hsz : g + 4 ≤ wc.heap.size := by have := lt_of_block hm.blk; have := hm.base; omega
  have HA := Lib.hid (And.intro hb (And.intro hbx (And.intro eg (And.intro hr (And.intro hc (And.intro hn (And.intro hl (And.intro hnil (And.intro hlt hsz))))))))); clear hf2 hb hbx eg hr hc hn hl hnil hlt hsz hm ef ea ed hfine hcn hcl hL2 hcode hcx
  go_upto_region 4 with fail
  go_wp2_with fail
  refine AO.mono ?_
  intro e w5 he
  obtain ⟨hb, hbx, eg, hr, hc, hn, hl, hnil, hlt, hsz⟩ := HA.out
  rcases r with ⟨n1, f1⟩ | ⟨f1, σ1⟩
  · as_aux_lemma =>
    obtain ⟨rfl, D', st', ls', cs', hm', ef', F⟩ := he
    have hb4 : Below (g + 4) wc w5 := F.below hsz (fun q hq => (hlt q hq).2)
    have hb5 : Below g w w5 := hb.trans (hb4.mono (by omega))
    have hx5 := hbx.below hb4 (Nat.le_refl _)
    have hn1 := (run_err hr).1
    have hgr : g + 4 ≤ rb := hm'.base
    have hs5 : g + 4 ≤ w5.heap.size := Nat.le_trans hsz F.size
    have hc5 := hc.below hb5 eg
    have OWN : ∀ W, Below w5.heap.size w5 W → Calls Tryz.prog 27 #[.agg #[.int .i64 ID, .slice A n cap]] W fun e w' => ∃ A3 cap3, e = .returned (.agg #[.int .i64 ID, .slice A3 n cap3]) ∧
        w'.ownsRow w5.heap.size 48 5 (.slice A3 n cap3) n (comps cs) ∧ Below w5.heap.size w5 w' := by
      intro W hch
      refine (own_ok ID A n cap cs W (hc5.below hch rfl) hn hl hnil).mono ?_
      rintro e w3 ⟨v, rfl, ho, hb3⟩
      obtain ⟨A3, cap3, rfl, -, -⟩ := compsAt_own ho
      exact ⟨A3, cap3, rfl, own_rebase ho hch.size, hch.trans (hb3.mono hch.size)⟩
    have t1 : ((n1 : Int) != 0) = true := by simp; omega
    have e0 : w5.cell? ⟨g + 1, 0, none⟩ = some (.int .i64 ID) := (cell_of_block hx5.e 0).trans rfl
    have e1 : w5.cell? ⟨g + 1, 1, none⟩ = some (.slice A n cap) := (cell_of_block hx5.e 1).trans rfl
    have r9 : w5.cell? ⟨rb, 9, none⟩ = some (.int .i64 (f1 : Nat)) := (hm'.cells.1 9).trans (by rw [← ef']; rfl)
    have hne : rb ≠ g + 1 + 1 + 1 := by omega
    have HA2 := Lib.hid (And.intro hb5 (And.intro hx5 (And.intro hm'.blk (And.intro hs5 (And.intro OWN (And.intro eg hn)))))); clear AO HA hb hbx eg hr hc hn hl hnil hlt hsz hb4 hb5 hx5 hn1 hgr hm' ef' F hs5 hc5 OWN
    go_upto_region 6 with fail
    go_region_held3 (fun W => W.cell? ⟨g + 1, 0, none⟩ = some (.int .i64 ID) ∧ W.cell? ⟨g + 1, 1, none⟩ = some (.slice A n cap) ∧ W.cell? ⟨rb, 9, none⟩ = some (.int .i64 (f1 : Nat)))
      (first | go_keep | (refine ⟨?_, ?_, ?_⟩ <;> (refine (cell_two_ne _ _ _ _ _ _ ?_).trans ?_ <;> first | omega | assumption)))
      (first
      | (refine step_call 27 [.tmp 48] _ rfl rfl (fun _ _ => rfl) _ rfl (HA2.out.2.2.2.2.1 _ ((Below.refl _ w5).drew)) ?_
         rintro e w6 ⟨A3, cap3, rfl, ho, hb6⟩
         refine ⟨_, rfl, ?_⟩
         have hx6 := HA2.out.2.1.below hb6 HA2.out.2.2.2.1
         have k0 : w6.cell? ⟨g + 1, 0, none⟩ = some (.int .i64 ID) := (cell_of_block hx6.e 0).trans rfl
         have k1 : w6.cell? ⟨g + 1, 1, none⟩ = some (.slice A n cap) := (cell_of_block hx6.e 1).trans rfl
         have k9 : w6.cell? ⟨rb, 9, none⟩ = some (.int .i64 (f1 : Nat)) := by
           rw [← r9]; exact hb6.cell (lt_of_block HA2.out.2.2.1)
         have d0 : w6.cell? ⟨g + 1 + 1 + 1, 0, none⟩ = some (.int .i64 0) := (cell_of_block hx6.r 0).trans rfl
         have d1 : w6.cell? ⟨g + 1 + 1 + 1, 1, none⟩ = some (.slice none 0 0) := (cell_of_block hx6.r 1).trans rfl
         have z0 : w6.frozen? ⟨g + 1 + 1 + 1, 0, none⟩ = false := free_of_block hx6.r 0
         have z1 : w6.frozen? ⟨g + 1 + 1 + 1, 1, none⟩ = false := free_of_block hx6.r 1
         have HOWN := Lib.hid (And.intro ho (And.intro hb6 hx6.r)); clear ho hb6 hx6))
    all_goals go_wp2_with fail
    all_goals (refine bodyPost_ret (ret_ent3 rfl _ _ (g + 1 + 1 + 1) _ _ rfl (block_setCell (block_setCell HOWN.out.2.2 0 _) 1 _)) rfl ?_)
    all_goals (obtain ⟨hb5, -, -, hs5, -, eg, hn⟩ := HA2.out)
    all_goals (obtain ⟨ho, hb6, -⟩ := HOWN.out)
    all_goals (subst hn)
    all_goals (refine ⟨A3, cap3, rfl, own_rebase (own_low ho (((Only.refl (g + 1 + 1 + 1) w6).setCell (p := ⟨g + 1 + 1 + 1, 0, none⟩) rfl (.int .i64 ID)).setCell (p := ⟨g + 1 + 1 + 1, 1, none⟩) rfl (.slice A3 cs.length cap3)) (by omega)) (by have := hb5.size; omega), ?_⟩)
    all_goals (rw [← eg])
    all_goals exact ((hb5.trans (hb6.mono (by omega))).setCell (by simp; omega) _).setCell (by simp; omega) _
  · as_aux_lemma =>
    obtain ⟨rfl, D', hm', ef', F⟩ := he
    have hb4 : Below (g + 4) wc w5 := F.below hsz (fun q hq => (hlt q hq).2)
    have hb5 : Below g w w5 := hb.trans (hb4.mono (by omega))
    have hx5 := hbx.below hb4 (Nat.le_refl _)
    have hgr : g + 4 ≤ rb := hm'.base
    have hs5 : g + 4 ≤ w5.heap.size := Nat.le_trans hsz F.size
    obtain ⟨A3, cap3, ecv, -, -⟩ := compsAt_own hm'.cmp
    have t1 : ((0 : Int) != 0) = false := rfl
    have r9 : w5.cell? ⟨rb, 9, none⟩ = some (.int .i64 (f1 : Nat)) := (hm'.cells.1 9).trans (by rw [← ef']; rfl)
    have r4 : w5.cell? ⟨rb, 4, none⟩ = some (.int .i64 ID) := (hm'.cells.1 4).trans rfl
    have r5 : w5.cell? ⟨rb, 5, none⟩ = some (.slice A3 σ1.cs.length cap3) := (hm'.cells.1 5).trans (by rw [← ecv]; rfl)
    have d0 : w5.cell? ⟨g + 1 + 1 + 1, 0, none⟩ = some (.int .i64 0) := (cell_of_block hx5.r 0).trans rfl
    have d1 : w5.cell? ⟨g + 1 + 1 + 1, 1, none⟩ = some (.slice none 0 0) := (cell_of_block hx5.r 1).trans rfl
    have z0 : w5.frozen? ⟨g + 1 + 1 + 1, 0, none⟩ = false := free_of_block hx5.r 0
    have z1 : w5.frozen? ⟨g + 1 + 1 + 1, 1, none⟩ = false := free_of_block hx5.r 1
    have hne : rb ≠ g + 1 + 1 + 1 := by omega
    have hrun := hm'.cmp
    rw [ecv] at hrun
    have HA2 := Lib.hid (And.intro hb5 (And.intro hx5 (And.intro hrun (And.intro hs5 (And.intro eg hgr))))); clear AO HA hb hbx eg hr hc hn hl hnil hlt hsz hb4 hb5 hx5 hgr hm' ef' F hs5 ecv hrun
    go_upto_region 7 with fail
    go_region
    all_goals go_wp2_with fail
    obtain ⟨hb5, hx5, hrun, hs5, eg, hgr⟩ := HA2.out
    obtain ⟨X, eX⟩ : ∃ X, X = (w5.setCell ⟨g + 1 + 1 + 1, 0, none⟩ (.int .i64 ID)).setCell ⟨g + 1 + 1 + 1, 1, none⟩ (.slice A3 σ1.cs.length cap3) := ⟨_, rfl⟩
    have hX : X.drew.heap[g + 1 + 1 + 1]? = some (.cells #[.int .i64 ID, .slice A3 σ1.cs.length cap3] 25 (0, 0)) := by
      rw [eX]; exact block_setCell (block_setCell hx5.r 0 _) 1 _
    have oX : Only (g + 1 + 1 + 1) w5 X := by
      rw [eX]; exact ((Only.refl (g + 1 + 1 + 1) w5).setCell (p := ⟨g + 1 + 1 + 1, 0, none⟩) rfl _).setCell (p := ⟨g + 1 + 1 + 1, 1, none⟩) rfl _
    have bX : Below g w X := by
      rw [eX]; exact (hb5.setCell (by simp; omega) _).setCell (by simp; omega) _
    rw [← eX]
    refine bodyPost_ret (ret_ent3 rfl _ _ (g + 1 + 1 + 1) _ _ rfl hX) rfl ?_
    have hown : X.ownsRow (g + 4) 48 5 (.slice A3 σ1.cs.length cap3) σ1.cs.length (comps σ1.cs) := own_low hrun oX (by omega)
    refine ⟨A3, cap3, rfl, own_rebase (World.ownsRow.drew hown) (by omega), ?_⟩
    rw [← eg]
    exact bX.drew
end
end Go.Proofs.YtocbddajakbemaaGreat
