/- vm: compile.Sound: the work. vm: compile.Sound, whole. -/
import Derived.Test.YtocbddajakbemaaGreatME
set_option linter.unusedVariables false
set_option linter.unusedSimpArgs false
set_option linter.unusedSimpArgs false
namespace Go.Proofs.YtocbddajakbemaaGreat
section
open Go.RowKit
def natI (l : List Nat) : List Int := l.map fun k : Nat => (k : Int)
structure WS (w : World) (g bd : Nat) (ds : List Int) (tv : Value) (rt : List Nat) : Prop where
  d : w.heap[bd]? = some (.cells (ints ds).toArray 3 (0, 0))
  t : w.ownsRow (g + 1) 3 1 tv rt.length (ints (natI rt.reverse))
  ne : tv.ownBlock ≠ some bd
  base : g + 1 ≤ bd
structure WF (n f : Nat) (ds : List Int) (rt : List Nat) : Prop where
  len : ds.length = n + 1
  val : ∀ v, v ∈ ds → 0 ≤ v ∧ v ≤ 65
  pl : ∀ t, t ∈ rt → t ≤ n
  room : rt.length + f ≤ n + 5
theorem ints_set (ds : List Int) (i : Nat) (x : Int) : (ints ds).toArray.setIfInBounds i (.int .i64 x) = (ints (ds.set i x)).toArray := by
  unfold ints
  rw [List.setIfInBounds_toArray, List.map_set]
theorem WS.drewN {w : World} {g bd : Nat} {ds : List Int} {tv : Value} {rt : List Nat} (h : WS w g bd ds tv rt) (k : Nat) : WS (w.drewN k) g bd ds tv rt := ⟨h.d, h.t, h.ne, h.base⟩
theorem WS.below {w w' : World} {g bd : Nat} {ds : List Int} {tv : Value} {rt : List Nat} (h : WS w g bd ds tv rt) (hb : Below w.heap.size w w') : WS w' g bd ds tv rt :=
  ⟨(hb.block _ (lt_of_block' h.d)).trans h.d, own_below h.t hb, h.ne, h.base⟩
theorem WS.at_ {w : World} {g bd : Nat} {ds : List Int} {tv : Value} {rt : List Nat} (h : WS w g bd ds tv rt) {i : Nat} {v : Int} (hv : ds[i]? = some v) : w.cell? ⟨bd, i, none⟩ = some (.int .i64 v) := by
  rw [cell_of_block h.d]
  simp [ints, hv]
theorem WS.set {w : World} {g bd : Nat} {ds : List Int} {tv : Value} {rt : List Nat} (h : WS w g bd ds tv rt) (i : Nat) (x : Int) : WS (w.setCell ⟨bd, i, none⟩ (.int .i64 x)) g bd (ds.set i x) tv rt :=
  ⟨by have := block_setCell h.d i (.int .i64 x); rw [ints_set] at this; exact this, own_only h.t ((Only.refl bd w).setCell (p := ⟨bd, i, none⟩) rfl _) h.ne, h.ne, h.base⟩
theorem WS.pop {w : World} {g bd i : Nat} {ds : List Int} {tv : Value} {rt : List Nat} (h : WS w g bd ds tv (i :: rt)) : ∃ gt cap, tv = .slice (some ⟨gt, 0, none⟩) (rt.length + 1) cap ∧ w.cell? ⟨gt, rt.length, none⟩ = some (.int .i64 (i : Nat)) ∧ rt.length + 1 ≤ cap ∧ cap ≤ maxLen ∧ WS w g bd ds (.slice (some ⟨gt, 0, none⟩) rt.length cap) rt := by
  have ht := h.t
  rw [List.length_cons] at ht
  obtain ⟨gt, cap, cur, rfl, hb, hh, h1, h2, h3, h4⟩ := own_shape ht (by omega)
  have e : natI ((i :: rt).reverse) = natI rt.reverse ++ [(i : Int)] := by simp [natI]
  rw [e] at ht
  refine ⟨gt, cap, rfl, own_ints_at ht (by simp [natI]), h1, h2, h.d, own_drop ht, ?_, h.base⟩
  have := h.ne
  simpa [Value.ownBlock] using this
theorem run_index_eff (o : Nat) (h : o ≤ 15) (W : World) : (Instr.index 110 (.agg effV.toArray) (.int .u8 o)).run Tryz.prog W = .ok (.agg #[.int .i64 (takesF o), .int .i64 (addsF o)]) W := by
  match o, h with
  | 0, _ => (show Sem.run _ _ _ = _); kernel_rfl
  | 1, _ => (show Sem.run _ _ _ = _); kernel_rfl
  | 2, _ => (show Sem.run _ _ _ = _); kernel_rfl
  | 3, _ => (show Sem.run _ _ _ = _); kernel_rfl
  | 4, _ => (show Sem.run _ _ _ = _); kernel_rfl
  | 5, _ => (show Sem.run _ _ _ = _); kernel_rfl
  | 6, _ => (show Sem.run _ _ _ = _); kernel_rfl
  | 7, _ => (show Sem.run _ _ _ = _); kernel_rfl
  | 8, _ => (show Sem.run _ _ _ = _); kernel_rfl
  | 9, _ => (show Sem.run _ _ _ = _); kernel_rfl
  | 10, _ => (show Sem.run _ _ _ = _); kernel_rfl
  | 11, _ => (show Sem.run _ _ _ = _); kernel_rfl
  | 12, _ => (show Sem.run _ _ _ = _); kernel_rfl
  | 13, _ => (show Sem.run _ _ _ = _); kernel_rfl
  | 14, _ => (show Sem.run _ _ _ = _); kernel_rfl
  | 15, _ => (show Sem.run _ _ _ = _); kernel_rfl
theorem eff_bounds (o : Nat) (h : o ≤ 15) : 0 ≤ takesF o ∧ takesF o ≤ 2 ∧ 0 ≤ addsF o ∧ addsF o ≤ 1 := by
  match o, h with
  | 0, _ => decide
  | 1, _ => decide
  | 2, _ => decide
  | 3, _ => decide
  | 4, _ => decide
  | 5, _ => decide
  | 6, _ => decide
  | 7, _ => decide
  | 8, _ => decide
  | 9, _ => decide
  | 10, _ => decide
  | 11, _ => decide
  | 12, _ => decide
  | 13, _ => decide
  | 14, _ => decide
  | 15, _ => decide
theorem next_le {L n o i : Nat} {a : Int} (h : rightF L n (o, a) = true) (hi : i < n) : ∀ u, u ∈ nextF (o, a) i → 0 ≤ u ∧ u ≤ (n : Int) := by
  intro u hu
  unfold nextF at hu
  unfold rightF at h
  simp only at hu h
  split at hu
  · simp at hu h; subst hu; omega
  · simp at hu h; rcases hu with rfl | rfl <;> omega
  · simp at hu h; rcases hu with rfl | rfl <;> omega
  · simp at hu
  · simp at hu
  · simp at hu; subst hu; omega
structure VIn (w wr : World) (g bd n f : Nat) (pc : Array Value) (ds : List Int) (tv : Value) (rt : List Nat) (A : Option Addr) (l : List Int) (m kk : Nat) : Prop where
  ws : WS wr g bd ds tv rt
  bw : Below g w wr
  pw : wr.heap[g]? = some (.cells pc 53 (0, 0))
  it : IntsAt wr A l
  ne : ∀ b, A = some ⟨b, 0, none⟩ → b ≠ bd ∧ tv.ownBlock ≠ some b ∧ b < wr.heap.size
  len : ds.length = n + 1
  val : ∀ v, v ∈ ds → 0 ≤ v ∧ v ≤ 65
  pl : ∀ t, t ∈ rt → t ≤ n
  room : rt.length ≤ m + kk
theorem VIn.next {w wr : World} {g bd n f m kk : Nat} {pc : Array Value} {ds : List Int} {tv : Value} {rt : List Nat} {A : Option Addr} {l : List Int} (V : VIn w wr g bd n f pc ds tv rt A l m kk) : VIn w wr g bd n f pc ds tv rt A l m (kk + 1) :=
  ⟨V.ws, V.bw, V.pw, V.it, V.ne, V.len, V.val, V.pl, Nat.le_succ_of_le V.room⟩
theorem VIn.push {w wr w5 : World} {g bd n f m kk t : Nat} {pc : Array Value} {ds : List Int} {tv v5 : Value} {rt : List Nat} {A : Option Addr} {l : List Int} {d : Int} {o : Obj} (V : VIn w wr g bd n f pc ds tv rt A l m kk) (ht : t ≤ n) (hd0 : 0 ≤ d) (hd1 : d ≤ 65) (hgd : g < bd)
    (hown5 : w5.ownsRow (g + 1) 3 1 v5 (rt.length + 1) (ints (natI rt.reverse) ++ [.int .i64 (t : Nat)])) (hg5 : ((wr.setCell ⟨bd, t, none⟩ (.int .i64 d)).alloc o).grownBy w5 tv.ownBlock)
    (hat5 : v5.ownBlock = tv.ownBlock ∨ v5.ownBlock = some (wr.heap.size + 1)) :
    VIn w w5 g bd n f pc (ds.set t d) v5 (t :: rt) A l m (kk + 1) ∧ w5.cell? ⟨bd, t, none⟩ = some (.int .i64 d) := by
  have hS := V.ws.set t d
  have hsz : (wr.setCell ⟨bd, t, none⟩ (.int .i64 d)).heap.size = wr.heap.size := by simp [World.setCell]
  have hsa : ((wr.setCell ⟨bd, t, none⟩ (.int .i64 d)).alloc o).heap.size = wr.heap.size + 1 := by rw [World.size_alloc, hsz]
  have lbd := lt_of_block' V.ws.d
  have lg := lt_of_block' V.pw
  have same : ∀ q, q < wr.heap.size → tv.ownBlock ≠ some q → w5.heap[q]? = (wr.setCell ⟨bd, t, none⟩ (.int .i64 d)).heap[q]? := fun q hq hne =>
    (hg5.block q (by omega) (fun e => hne e.symm)).trans (Below.heap_alloc _ _ _ (by omega))
  have same2 : ∀ q, q < wr.heap.size → tv.ownBlock ≠ some q → q ≠ bd → w5.heap[q]? = wr.heap[q]? := fun q hq hne hb => (same q hq hne).trans (Below.heap_setCell _ _ _ _ hb)
  have ngt : tv.ownBlock ≠ some g := fun e => by have := (own_lt V.ws.t e).2; omega
  have n5 : ∀ q, q < wr.heap.size → tv.ownBlock ≠ some q → v5.ownBlock ≠ some q := fun q hq hne e => by
    rcases hat5 with h | h
    · exact hne (h.symm.trans e)
    · rw [h] at e; injection e with e; omega
  have hd5 : w5.heap[bd]? = some (.cells (ints (ds.set t d)).toArray 3 (0, 0)) := (same bd lbd V.ws.ne).trans hS.d
  refine ⟨⟨⟨hd5, ?_, n5 bd lbd V.ws.ne, V.ws.base⟩, ?_, (same2 g lg ngt (by omega)).trans V.pw, ?_, ?_, by rw [List.length_set]; exact V.len, ?_, ?_, ?_⟩, ?_⟩
  · have e : natI ((t :: rt).reverse) = natI rt.reverse ++ [(t : Int)] := by simp [natI]
    rw [e, List.length_cons, show ints (natI rt.reverse ++ [(t : Int)]) = ints (natI rt.reverse) ++ [.int .i64 (t : Nat)] from by simp [ints]]
    exact hown5
  · refine ⟨hg5.os.trans V.bw.os, hg5.tape.trans V.bw.tape, hg5.output.trans V.bw.output, ?_, fun q hq => ?_⟩
    · have := hg5.size; have := V.bw.size; omega
    · have h1 : q < wr.heap.size := by omega
      have h2 : tv.ownBlock ≠ some q := fun e => by have := (own_lt V.ws.t e).2; omega
      exact (same2 q h1 h2 (by omega)).trans (V.bw.block q hq)
  · intro j u hu
    obtain ⟨b, e, hc⟩ := V.it j u hu
    obtain ⟨h1, h2, h3⟩ := V.ne b e
    refine ⟨b, e, ?_⟩
    unfold World.cell? at hc ⊢
    rw [same2 b h3 h2 h1]; exact hc
  · intro b e
    obtain ⟨h1, h2, h3⟩ := V.ne b e
    exact ⟨h1, n5 b h3 h2, by have := hg5.size; omega⟩
  · intro v hv
    rcases List.mem_or_eq_of_mem_set hv with h | h
    · exact V.val v h
    · rw [h]; exact ⟨hd0, hd1⟩
  · intro q hq
    rcases List.mem_cons.1 hq with rfl | h
    · exact ht
    · exact V.pl q h
  · rw [List.length_cons]; have := V.room; omega
  · rw [cell_of_block hd5]
    have hl : t < ds.length := by rw [V.len]; omega
    simp [ints, hl]
def VRel (w : World) (g bd n f : Nat) (pc : Array Value) (A : Option Addr) (l : List Int) (d : Int) (m : Nat) (res : Option (List Int × List Nat)) (gh : Nat) (tv iv : Value) (wr : World) : Prop :=
  ∃ kk ds rt, gh = l.length - kk ∧ kk ≤ l.length ∧ iv = .int .i64 (kk : Nat) ∧ visit d ((l.map Int.toNat).drop kk) (ds, rt) = res ∧ VIn w wr g bd n f pc ds tv rt A l m kk
theorem right_op {L n o : Nat} {a : Int} (h : rightF L n (o, a) = true) : 1 ≤ o ∧ o ≤ 15 := by
  rcases (show o = 0 ∨ (1 ≤ o ∧ o ≤ 15) ∨ 16 ≤ o from by omega) with rfl | h1 | h1
  · simp [rightF] at h
  · exact h1
  · rw [right_big L n o a h1] at h; cases h
def SRel (w : World) (g bd n : Nat) (code : List (Nat × Int)) (pc : Array Value) (r : Bool) (f : Nat) (tv : Value) (wr : World) : Prop :=
  ∃ ds rt, soundL code f (ds, rt) = some r ∧ WF n f ds rt ∧ WS wr g bd ds tv rt ∧ Below g w wr ∧ wr.heap[g]? = some (.cells pc 53 (0, 0))
set_option maxRecDepth 100000 in
set_option maxHeartbeats 4000000 in
theorem Sound_run (A : Option Addr) (n cap L : Nat) (R Wr : Int) (code : List (Nat × Int)) (r : Bool) (w : World) (hn : n = code.length) (hlen : code.length ≤ 4000) (ho : ∀ x, x ∈ code → x.1 < 256) (hc : CodeAt w w.heap.size A code)
    (hL : L ≤ 32) (hall : code.all (rightF L code.length) = true) (h4 : maskOf (kindsOf 4 code) = R) (h5 : maskOf (kindsOf 5 code) = Wr) (hr : soundL code (code.length + 3) (1 :: List.replicate code.length 0, [0]) = some r) :
    Calls Tryz.prog 26 #[.agg #[.slice A n cap, .int .i64 (L : Nat), .int .u32 R, .int .u32 Wr]] w fun e w' => e = .returned (.bool r) ∧ Below w.heap.size w w' := by
  have hmf : ∀ (fn : Fn) (first cap : Array Value) (w : World), (Instr.makeFunc fn first cap).run Tryz.prog w = .ok (.func fn first cap) w := fun _ _ _ _ => rfl
  obtain ⟨i0, hi, hz0, hz1, hz2⟩ := info_parts infoInt
  have hmk : ∀ W : World, (Instr.makeSlice 77 (.int .i64 ((n : Int) + 1)) (.int .i64 ((n : Int) + 1))).run Tryz.prog W = .ok (.slice (some ⟨W.heap.size, 0, none⟩) (n + 1) (n + 1)) (W.alloc (.cells (madeCells #[.int .i64 0] (n + 1)) 3 (0, 0))) := by
    intro W
    have := run_make (P := Tryz.prog) W 77 3 i0 (.int .i64 0) Tryz.underlying77 hi hz0 .i64 .i64 ((n + 1 : Nat) : Int) ((n + 1 : Nat) : Int) (by omega) (by omega) (by rw [hz2]; omega) (by omega)
    rw [hz1] at this
    simpa [Value.cells] using this
  clear hi hz0 hz1 hz2
  obtain ⟨w1, ew1⟩ : ∃ w1, w1 = w.alloc (.cells #[.slice A n cap, .int .i64 (L : Nat), .int .u32 R, .int .u32 Wr] 53 (0, 0)) := ⟨_, rfl⟩
  have hb : Below w.heap.size w w1 := by rw [ew1]; exact (Below.refl _ _).alloc (Nat.le_refl _) _
  have hp : w1.heap[w.heap.size]? = some (.cells #[.slice A n cap, .int .i64 (L : Nat), .int .u32 R, .int .u32 Wr] 53 (0, 0)) := by rw [ew1]; exact heap_alloc_new w _
  have c0 : w1.cell? ⟨w.heap.size, 0, none⟩ = some (.slice A n cap) := (cell_of_block hp 0).trans rfl
  have hs : w.heap.size < w1.heap.size := lt_of_block' hp
  have MK := Masks_calls A n cap code hn hlen w1 ((hc.below hb).mono (Nat.le_of_lt hs))
  rw [h4, h5] at MK
  have CI := fun w2 (hb12 : Below w.heap.size w w2) (hp2) (hs2 : w.heap.size ≤ w2.heap.size) => containsIns_ok A n cap L R Wr code w.heap.size w2 hL hn hlen ho ((hc.below hb12).mono hs2) hp2
  rw [hn, hall] at CI
  rw [← hn] at CI
  have hw1 : wrap64 ((n : Int) + 1) = (n : Int) + 1 := by unfold wrap64; omega
  have t0 : decide ((L : Int) < 0) = false := decide_eq_false (by omega)
  have t1 : decide ((32 : Int) < L) = false := decide_eq_false (by omega)
  have tn : decide ((4000 : Int) < (n : Int)) = false := decide_eq_false (by omega)
  have H := Lib.hid (And.intro hb (And.intro hp (And.intro hs (And.intro hr (And.intro hn (And.intro hlen (And.intro ho (And.intro hc (And.intro hall (And.intro CI hmk)))))))))); clear hb hp hs hr hn hlen ho hc h4 h5 hall CI hL hmk
  go_enter Tryz.func26, Tryz.ntmps26
  go_upto_region 1 with fail
  rw [← ew1]
  clear ew1
  go_upto_region 2 with (go_at_call 34; refine MK.mono ?_; rintro e w2 ⟨rfl, hb2⟩; have HB := Lib.hid hb2; clear hb2)
  have hb12 := H.out.1.trans (HB.out.mono (Nat.le_of_lt H.out.2.2.1))
  have hp2 := (HB.out.block _ H.out.2.2.1).trans H.out.2.1
  have d0 : w2.cell? ⟨w.heap.size, 0, none⟩ = some (.slice A n cap) := (cell_of_block hp2 0).trans rfl
  have d1 : w2.cell? ⟨w.heap.size, 1, none⟩ = some (.int .i64 (L : Nat)) := (cell_of_block hp2 1).trans rfl
  have hG : ∀ w3, Below w2.heap.size w2 w3 → Below w.heap.size w w3 ∧ w3.heap[w.heap.size]? = some (.cells #[.slice A n cap, .int .i64 (L : Nat), .int .u32 R, .int .u32 Wr] 53 (0, 0)) ∧ w3.cell? ⟨w.heap.size, 0, none⟩ = some (.slice A n cap) ∧ w3.cell? ⟨w.heap.size, 2, none⟩ = some (.int .u32 R) ∧ w3.cell? ⟨w.heap.size, 3, none⟩ = some (.int .u32 Wr) := fun w3 h3 => by
    have hl2 : w.heap.size < w2.heap.size := lt_of_block' hp2
    have := (h3.block _ hl2).trans hp2
    exact ⟨hb12.trans (h3.mono (Nat.le_of_lt hl2)), this, (cell_of_block this 0).trans rfl, (cell_of_block this 2).trans rfl, (cell_of_block this 3).trans rfl⟩
  have CI := H.out.2.2.2.2.2.2.2.2.2.1 w2 hb12 hp2 (Nat.le_of_lt (lt_of_block' hp2))
  have HG := Lib.hid hG; clear hG hb12 hp2 MK
  go_upto_region 5 with (go_at_call 43; refine CI.mono ?_; rintro e w3 ⟨rfl, hb3⟩; obtain ⟨hb4, hp4, e0, e2, e3⟩ := HG.out _ hb3; have HB3 := Lib.hid (And.intro hb4 hp4); clear hb3 hb4 hp4)
  clear CI HG
  have hmk := H.out.2.2.2.2.2.2.2.2.2.2
  go_upto_region 6 with fail
  obtain ⟨g, eg⟩ : ∃ g, g = w.heap.size := ⟨_, rfl⟩
  obtain ⟨bd, ebd⟩ : ∃ bd, bd = w3.heap.size := ⟨_, rfl⟩
  obtain ⟨w4, ew4⟩ : ∃ w4, w4 = w3.alloc (.cells (madeCells #[.int .i64 0] (n + 1)) 3 (0, 0)) := ⟨_, rfl⟩
  rw [← eg, ← ebd, ← ew4]
  have hs4 : w4.heap.size = bd + 1 := by rw [ew4, ebd]; simp
  have hgb : g < bd := by rw [eg, ebd]; exact lt_of_block' HB3.out.2
  have hb4 : Below bd w3 w4 := by rw [ew4, ebd]; exact (Below.refl _ _).alloc (Nat.le_refl _) _
  have hk4 : w4.heap[bd]? = some (.cells (ints (List.replicate (n + 1) 0)).toArray 3 (0, 0)) := by
    rw [ew4, ebd, ← zeros_ints]; exact heap_alloc_new w3 _
  have hp3 := HB3.out.2
  rw [← eg] at hp3
  have hp4 := (hb4.block g hgb).trans hp3
  have x0 : w4.cell? ⟨bd, 0, none⟩ = some (.int .i64 0) := (cell_of_block hk4 0).trans (by simp [ints])
  have y0 : w4.frozen? ⟨bd, 0, none⟩ = false := free_of_block hk4 0
  have hbw : Below g w w4 := by have := HB3.out.1; rw [← eg] at this; exact this.trans (hb4.mono (by omega))
  have H4 := Lib.hid (And.intro hs4 (And.intro hgb (And.intro hk4 (And.intro hp4 (And.intro hbw eg))))); clear hs4 hgb hk4 hp4 hbw eg ebd ew4 hb4 hmk e0 e2 e3 d0 d1 c0 HB3 HB
  go_wp2_with fail
  obtain ⟨w5, ew5⟩ : ∃ w5, w5 = (w4.setCell ⟨bd, 0, none⟩ (.int .i64 1)).alloc (.cells #[.int .i64 0] 3 (0, 0)) := ⟨_, rfl⟩
  have hz : (w4.setCell ⟨bd, 0, none⟩ (.int .i64 1)).heap.size = bd + 1 := by rw [← H4.out.1]; simp [World.setCell]
  have R0 : SRel w g bd n code #[.slice A n cap, .int .i64 (L : Nat), .int .u32 R, .int .u32 Wr] r (n + 3) (.slice (some ⟨bd + 1, 0, none⟩) 1 1) w5 := by
    obtain ⟨hs4, hgb, hk4, hp4, hbw, eg⟩ := H4.out
    obtain ⟨-, -, -, hr, hn, -⟩ := H.out
    rw [← hn] at hr
    have hset := block_setCell hk4 0 (.int .i64 1)
    rw [ints_set] at hset
    have hk5 : w5.heap[bd]? = some (.cells (ints (1 :: List.replicate n 0)).toArray 3 (0, 0)) := by
      rw [ew5]; exact (Below.heap_alloc _ _ _ (by rw [hz]; omega)).trans (hset.trans rfl)
    have hn5 : w5.heap[bd + 1]? = some (.cells #[.int .i64 0] 3 (0, 0)) := by
      rw [ew5, ← hz]; exact heap_alloc_new _ _
    refine ⟨_, _, hr, ⟨by simp, ?_, ?_, by simp; omega⟩, ⟨hk5, ⟨rfl, Or.inr ⟨bd + 1, 1, _, rfl, by omega, hn5, Nat.le_refl _, by unfold maxLen; omega, rfl, rfl⟩⟩, by simp [Value.ownBlock], by omega⟩, ?_, ?_⟩
    · intro v hv
      rcases List.mem_cons.1 hv with rfl | h
      · omega
      · rw [List.mem_replicate] at h; omega
    · intro t ht; simp at ht; omega
    · rw [ew5]; exact (hbw.setCell (by show g ≤ bd; omega) _).alloc (by rw [hz]; omega) _
    · rw [ew5]; exact (Below.heap_alloc _ _ _ (by rw [hz]; omega)).trans ((Below.heap_setCell _ _ _ _ (by show g ≠ bd; omega)).trans hp4)
  rw [show w4.heap.size = bd + 1 from H4.out.1]
  rw [← ew5]
  clear ew5 hz x0 y0
  go_loopg [7] (n + 3) (fun gh tv wr => SRel w g bd n code #[.slice A n cap, .int .i64 (L : Nat), .int .u32 R, .int .u32 Wr] r gh tv wr)
  case atStart => exact R0
  case round =>
  obtain ⟨hgb, eg, hn, hlen, ho, hc, hall⟩ : g < bd ∧ g = w.heap.size ∧ n = code.length ∧ code.length ≤ 4000 ∧ (∀ x, x ∈ code → x.1 < 256) ∧ CodeAt w g A code ∧ code.all (rightF L n) = true := by
    obtain ⟨-, hgb, -, -, -, eg⟩ := H4.out
    obtain ⟨-, -, -, -, hn, hlen, ho, hc, hall, -⟩ := H.out
    exact ⟨hgb, eg, hn, hlen, ho, by rw [eg]; exact hc, by rw [hn]; exact hall⟩
  have HN := Lib.hid (And.intro hgb (And.intro eg (And.intro hn (And.intro hlen (And.intro ho (And.intro hc hall)))))); clear H H4 R0 hgb eg hn hlen ho hc hall
  obtain ⟨ds, rt, hrr, hwf, hws, hbw, hpw⟩ := hrel
  have p0 : wr.cell? ⟨g, 0, none⟩ = some (.slice A n cap) := (cell_of_block hpw 0).trans rfl
  rcases gk with _ | f
  · cases hrr
  rcases rt with _ | ⟨i, rt⟩
  · as_aux_lemma =>
    obtain ⟨v, hv⟩ : ∃ v, ds[n]? = some v := ⟨_, List.getElem?_eq_getElem (by rw [hwf.len]; omega)⟩
    have hv0 := hws.at_ hv
    have hres : r = decide (v ≤ 1) := by
      have hn := HN.out.2.2.1
      rw [soundL, ← hn, hv] at hrr
      injection hrr with hrr; exact hrr.symm
    obtain ⟨A', cap', rfl⟩ : ∃ A' cap', u7 = .slice A' 0 cap' := by
      rcases hws.t.2 with ⟨e, _⟩ | ⟨gt, cp, cur, e, _⟩
      · exact ⟨_, _, e⟩
      · exact ⟨_, _, e⟩
    have HZ := Lib.hid (And.intro hres hbw); clear hres hbw hrr hwf hws hpw hv
    go_wp2_with fail
    go_ret
    rw [HZ.out.1]
    have eg := HN.out.2.1
    rw [← eg]
    exact ⟨rfl, HZ.out.2⟩
  · obtain ⟨gt, tc, eu, ht0, ht1, ht2, hws2⟩ := hws.pop
    obtain ⟨k, ek⟩ : ∃ k, k = rt.length := ⟨_, rfl⟩
    rw [← ek] at ht0 ht1 hws2 eu
    subst eu
    clear hws
    have hin : i ≤ n ∧ rt.length + f + 2 ≤ n + 5 := ⟨hwf.pl i (by simp), by have := hwf.room; simp at this; omega⟩
    have hn4 : n ≤ 4000 := by have := HN.out.2.2.2.1; have := HN.out.2.2.1; omega
    have hk : k ≤ 8010 := by have := hwf.room; simp at this; omega
    have k0 : wrap64 ((k : Int) + 1 - 1) = (k : Int) := by unfold wrap64; omega
    have k1 : wrap64 (k : Int) = (k : Int) := by unfold wrap64; omega
    have k2 : (0 : Int) ≤ (k : Int) := by omega
    have k3 : (k : Int) ≤ (tc : Int) := by omega
    have hwf2 : WF n f ds rt := ⟨hwf.len, hwf.val, fun t ht => hwf.pl t (List.mem_cons_of_mem _ ht), by have := hwf.room; simp at this; omega⟩
    by_cases hi : i = n
    · as_aux_lemma =>
      have hr2 : soundL code f (ds, rt) = some r := by
        rw [soundL, if_pos (hi.trans HN.out.2.2.1)] at hrr
        exact hrr
      subst hi
      have HZ := Lib.hid (And.intro hr2 (And.intro hwf2 (And.intro hws2 (And.intro hbw (And.intro hpw ek))))); clear hr2 hwf2 hws2 hbw hrr hwf hpw ek hin
      go_wp2_with fail
      go_roundg f
      case measure => omega
      case rel => exact ⟨ds, rt, HZ.out.1, HZ.out.2.1, HZ.out.2.2.1, HZ.out.2.2.2.1, HZ.out.2.2.2.2.1⟩
    · obtain ⟨⟨o, a⟩, hx⟩ : ∃ x, code[i]? = some x := ⟨_, List.getElem?_eq_getElem (by have := HN.out.2.2.1; omega)⟩
      obtain ⟨v, hv⟩ : ∃ v, ds[i]? = some v := ⟨_, List.getElem?_eq_getElem (by rw [hwf.len]; omega)⟩
      have hv0 := hws2.at_ hv
      have hvb := hwf.val v (List.mem_of_getElem? hv)
      obtain ⟨cb, co, eA, hcb, x0, x1⟩ := HN.out.2.2.2.2.2.1.below hbw i _ hx
      subst eA
      simp only at x0 x1
      have hrt := List.all_eq_true.1 HN.out.2.2.2.2.2.2 _ (List.mem_of_getElem? hx)
      have hop := right_op hrt
      have tin : decide ((i : Int) = (n : Int)) = false := decide_eq_false (by omega)
      have tin2 : ¬ i = n := hi
      have i1 : (0 : Int) ≤ (i : Int) := by omega
      have i2 : (i : Int) < (n : Int) := by omega
      have i3 : (i : Int) < (n : Int) + 1 := by omega
      have hv1 : wrap64 (v - 1) = v - 1 := by unfold wrap64; omega
      have hgr : g < wr.heap.size := lt_of_block' hpw
      have hbr : bd < wr.heap.size := lt_of_block' hws2.d
      have hcr : cb < wr.heap.size := by omega
      have HZ := Lib.hid (And.intro hrr (And.intro hwf2 (And.intro hws2 (And.intro hbw (And.intro hpw (And.intro ek (And.intro hx (And.intro hv (And.intro hvb (And.intro hrt (And.intro hop (And.intro hcb (And.intro hin hn4)))))))))))))
      clear hrr hwf2 hws2 hbw hwf hpw ek hx hv hvb hrt hop hcb
      go_upto_region 12 with fail
      have a0 : (wr.drew.alloc (.cells #[.int .u8 0, .int .i64 0] 105 (0, 0))).cell? ⟨g, 0, none⟩ = some (.slice (some ⟨cb, co, none⟩) n cap) := (cell_alloc_below wr.drew _ hgr 0).trans p0
      have a1 : (wr.drew.alloc (.cells #[.int .u8 0, .int .i64 0] 105 (0, 0))).cell? ⟨cb, co + i * 2, none⟩ = some (.int .u8 (o : Nat)) := (cell_alloc_below wr.drew _ hcr _).trans x0
      have a2 : (wr.drew.alloc (.cells #[.int .u8 0, .int .i64 0] 105 (0, 0))).cell? ⟨cb, co + i * 2 + 1, none⟩ = some (.int .i64 a) := (cell_alloc_below wr.drew _ hcr _).trans x1
      have a3 : (wr.drew.alloc (.cells #[.int .u8 0, .int .i64 0] 105 (0, 0))).cell? ⟨bd, i, none⟩ = some (.int .i64 v) := (cell_alloc_below wr.drew _ hbr _).trans hv0
      have b3 : (wr.drew.alloc (.cells #[.int .u8 o, .int .i64 a] 105 (0, 0))).cell? ⟨bd, i, none⟩ = some (.int .i64 v) := (cell_alloc_below wr.drew _ hbr _).trans hv0
      have hnb : (wr.drew.alloc (.cells #[.int .u8 0, .int .i64 0] 105 (0, 0))).heap[wr.heap.size]? = some (.cells #[.int .u8 0, .int .i64 0] 105 (0, 0)) := heap_alloc_new wr.drew _
      have n0 : (wr.drew.alloc (.cells #[.int .u8 0, .int .i64 0] 105 (0, 0))).cell? ⟨wr.heap.size, 0, none⟩ = some (.int .u8 0) := (cell_of_block hnb 0).trans rfl
      have n0f : (wr.drew.alloc (.cells #[.int .u8 0, .int .i64 0] 105 (0, 0))).frozen? ⟨wr.heap.size, 0, none⟩ = false := free_of_block hnb 0
      have n1 : ((wr.drew.alloc (.cells #[.int .u8 0, .int .i64 0] 105 (0, 0))).setCell ⟨wr.heap.size, 0, none⟩ (.int .u8 (o : Nat))).cell? ⟨wr.heap.size, 1, none⟩ = some (.int .i64 0) := (cell_of_block (block_setCell hnb 0 _) 1).trans rfl
      have n1f : ((wr.drew.alloc (.cells #[.int .u8 0, .int .i64 0] 105 (0, 0))).setCell ⟨wr.heap.size, 0, none⟩ (.int .u8 (o : Nat))).frozen? ⟨wr.heap.size, 1, none⟩ = false := free_of_block (block_setCell hnb 0 _) 1
      go_region
      rw [hv1]
      obtain ⟨h, eh⟩ : ∃ h, h = wr.heap.size := ⟨_, rfl⟩
      obtain ⟨wA, ewA⟩ : ∃ wA, wA = (wr.alloc (.cells #[.int .u8 o, .int .i64 a] 105 (0, 0))).drew := ⟨_, rfl⟩
      have hA1 : Below h wr wA := by rw [ewA, eh]; exact ((Below.refl _ wr).alloc (Nat.le_refl _) _).drew
      have hA2 : wA.heap[h]? = some (.cells #[.int .u8 o, .int .i64 a] 105 (0, 0)) := by rw [ewA, eh]; exact heap_alloc_new wr _
      have hA3 : wA.heap.size = h + 1 := by rw [ewA, eh]; simp [World.drew]
      rw [← eh, ← ewA]
      obtain ⟨E, eE⟩ : ∃ E, E = effV.toArray := ⟨_, rfl⟩
      obtain ⟨T, eT⟩ : ∃ T, T = takesF o := ⟨_, rfl⟩
      obtain ⟨AD, eAD⟩ : ∃ AD, AD = addsF o := ⟨_, rfl⟩
      have idx := fun W => run_index_eff o HZ.out.2.2.2.2.2.2.2.2.2.2.1.2 W
      have EFF := fun W => effects_ok W
      rw [← eE, ← eT, ← eAD] at idx
      simp only [← eE] at EFF
      have SK : ∀ W, Below wA.heap.size wA W → Below wA.heap.size wA W ∧ W.cell? ⟨h, 0, none⟩ = some (.int .u8 o) := fun W hW => ⟨hW, (cell_of_block ((hW.block h (by omega)).trans hA2) 0).trans rfl⟩
      have HA := Lib.hid (And.intro hA1 (And.intro hA2 (And.intro hA3 (And.intro eh (And.intro eT (And.intro eAD SK))))))
      have HEF := Lib.hid EFF
      have HT := Lib.hid (And.intro hi (And.intro ht1 (And.intro ht2 (And.intro hk (And.intro hin hn4)))))
      clear hi tin tin2 i1 i2 i3 k0 k1 k2 k3 hv1 ht1 ht2 hk hin hn4 hw1 tn t0 t1
      clear hA1 hA2 hA3 eh eT eAD SK EFF ewA eE a0 a1 a2 a3 b3 hnb n0 n0f n1 n1f p0 ht0 x0 x1 hv0 hgr hbr hcr
      go_upto_region 13 with fail
      go_cut [11] (fun p wx => ∃ hf, p = .pointer (some ⟨hf, 0, none⟩) ∧ wA.heap.size ≤ hf ∧ wx.heap[hf]? = some (.cells #[.int .i64 T, .int .i64 AD] 109 (0, 0)) ∧ Below wA.heap.size wA wx)
      case first =>
        go_region_held3 (fun W => Below wA.heap.size wA W ∧ W.cell? ⟨h, 0, none⟩ = some (.int .u8 o))
          (first | exact HA.out.2.2.2.2.2.2 _ ((Below.refl _ wA).drew) | (refine HA.out.2.2.2.2.2.2 _ ?_; assumption) | (refine HA.out.2.2.2.2.2.2 _ (Below.alloc (And.left (by assumption)) ?_ _); exact Below.size (And.left (by assumption))) | (refine HA.out.2.2.2.2.2.2 _ (Below.alloc (by assumption) ?_ _); exact Below.size (by assumption)) | (refine HA.out.2.2.2.2.2.2 _ (Below.setCell (Below.setCell (by assumption) ?_ _) ?_ _) <;> exact Nat.le_refl _))
          (first
          | (refine step_call 44 [] _ rfl rfl (fun _ _ => rfl) _ rfl (HEF.out wA.drew) ?_
             rintro e wE ⟨rfl, hbE⟩
             refine ⟨_, rfl, ?_⟩
             have hbE2 : Below wA.heap.size wA wE := (Below.refl _ wA).drew.trans (hbE.mono (Nat.le_refl _))
             have HbE := Lib.hid hbE; clear hbE)
          | (refine step_call 44 [] _ rfl rfl (fun _ _ => rfl) _ rfl (HEF.out (wA.drew.alloc (.cells #[.int .i64 0, .int .i64 0] 109 (0, 0)))) ?_
             rintro e wE ⟨rfl, hbE⟩
             refine ⟨_, rfl, ?_⟩
             have hbE2 : Below wA.heap.size wA wE := ((Below.refl _ wA).drew.alloc (Nat.le_refl _) _).trans (hbE.mono (show wA.heap.size ≤ _ from by simp))
             have hzE : wE.heap[wA.heap.size]? = some (.cells #[.int .i64 0, .int .i64 0] 109 (0, 0)) := (hbE.block _ (by simp)).trans (heap_alloc_new wA.drew _)
             have z0 : wE.cell? ⟨wA.heap.size, 0, none⟩ = some (.int .i64 0) := (cell_of_block hzE 0).trans rfl
             have z1 : wE.cell? ⟨wA.heap.size, 1, none⟩ = some (.int .i64 0) := (cell_of_block hzE 1).trans rfl
             have z0f : wE.frozen? ⟨wA.heap.size, 0, none⟩ = false := free_of_block hzE 0
             have z1f : wE.frozen? ⟨wA.heap.size, 1, none⟩ = false := free_of_block hzE 1
             have HbE := Lib.hid (And.intro hbE hzE); clear hbE hzE))
        all_goals go_wp2_with fail
        all_goals go_meet
        all_goals first | exact ⟨_, rfl, hbE2.size, heap_alloc_new wE _, hbE2.alloc hbE2.size _⟩ | exact ⟨_, rfl, Nat.le_refl _, block_setCell (block_setCell HbE.out.2 0 _) 1 _, (hbE2.setCell (Nat.le_refl _) _).setCell (Nat.le_refl _) _⟩
      case rest =>
      obtain ⟨hf, rfl, hf1, hf2, hbx⟩ := hcut
      clear idx HEF
      have hx2 : wc.heap[h]? = some (.cells #[.int .u8 o, .int .i64 a] 105 (0, 0)) := (hbx.block h (by have := HA.out.2.2.1; omega)).trans HA.out.2.1
      have e0 : wc.cell? ⟨h, 0, none⟩ = some (.int .u8 o) := (cell_of_block hx2 0).trans rfl
      have e1 : wc.cell? ⟨h, 1, none⟩ = some (.int .i64 a) := (cell_of_block hx2 1).trans rfl
      have f0 : wc.cell? ⟨hf, 0, none⟩ = some (.int .i64 T) := (cell_of_block hf2 0).trans rfl
      have f0f : wc.frozen? ⟨hf, 0, none⟩ = false := free_of_block hf2 0
      have eT := HA.out.2.2.2.2.1
      obtain ⟨T2, eT2⟩ : ∃ T2, T2 = takesX (o, a) := ⟨_, rfl⟩
      have HB := Lib.hid (And.intro hf1 (And.intro hf2 (And.intro hbx (And.intro hx2 eT2)))); clear hf1 hf2 hbx hx2 eT eT2
      obtain ⟨w13, e13⟩ : ∃ w13, w13 = wc := ⟨_, rfl⟩
      rw [← e13] at e0 e1 f0 f0f HB ⊢
      clear e13
      go_upto_region 14 with fail
      go_cut [101] (fun t wx => t = .bool (decide (o = 9) && decide (10 ≤ a)) ∧ w13 = wx)
      case first =>
        by_cases ho9 : o = 9
        · as_aux_lemma =>
          subst ho9
          go_wp2_with fail
          go_meet
          exact ⟨by simp, rfl⟩
        · as_aux_lemma =>
          have HQ := Lib.hid (decide_eq_false ho9)
          go_wp2_with fail
          go_meet
          rw [HQ.out]
          exact ⟨rfl, rfl⟩
      case rest =>
      obtain ⟨rfl, rfl⟩ := hcut
      obtain ⟨tb, etb⟩ : ∃ tb, tb = (decide (o = 9) && decide (10 ≤ a)) := ⟨_, rfl⟩
      rw [← etb]
      have hTT : T2 = if tb = true then 2 else T := by
        rw [HB.out.2.2.2.2, HA.out.2.2.2.2.1, etb]; unfold takesX
        simp
      have HTT := Lib.hid hTT; clear hTT etb
      go_upto_if 101 with fail
      go_cut [] (fun wx => wx.heap[hf]? = some (.cells #[.int .i64 T2, .int .i64 AD] 109 (0, 0)) ∧ Below wA.heap.size wA wx)
      case first =>
        cases tb
        · as_aux_lemma =>
          go_wp2_with fail
          go_meet
          have e := HTT.out
          simp only [Bool.false_eq_true, if_false] at e
          rw [e]
          exact ⟨HB.out.2.1, HB.out.2.2.1⟩
        · as_aux_lemma =>
          go_wp2_with fail
          go_meet
          have e := HTT.out
          simp only [if_true] at e
          rw [e]
          exact ⟨block_setCell HB.out.2.1 0 (.int .i64 2), HB.out.2.2.1.setCell HB.out.1 _⟩
      case rest =>
      obtain ⟨hf2, hbx⟩ := hcut
      obtain ⟨hf1, -, -, -, eT2⟩ := HB.out
      clear HB e0 e1 f0 f0f HTT
      obtain ⟨w15, e15⟩ : ∃ w15, w15 = wc := ⟨_, rfl⟩
      rw [← e15] at hf2 hbx ⊢
      clear e15
      obtain ⟨hA1, hA2, hA3, eh, eT, eAD, -⟩ := HA.out
      obtain ⟨hrr, hwf, hws, hbw, hpw, ek, hx, hv, hvb, hrt, hop, hcb, hin, hn4⟩ := HZ.out
      obtain ⟨hne, ht1, ht2, hk, -, -⟩ := HT.out
      have hx2 : w15.heap[h]? = some (.cells #[.int .u8 o, .int .i64 a] 105 (0, 0)) := (hbx.block h (by omega)).trans hA2
      have hb15 : Below wr.heap.size wr w15 := by rw [← eh]; exact hA1.trans (hbx.mono (by omega))
      have hws := hws.below hb15
      have hpw := (hb15.block g (lt_of_block' hpw)).trans hpw
      have hbw := hbw.trans (hb15.mono (Nat.le_of_lt (lt_of_block' (by assumption : wr.heap[g]? = _))))
      have heb := eff_bounds o hop.2
      have hT2 : 0 ≤ T2 ∧ T2 ≤ 2 := by
        rw [eT2]; unfold takesX; split
        · omega
        · exact ⟨heb.1, heb.2.1⟩
      rw [← eAD] at heb
      have hns := HN.out.2.2.1
      rw [soundL, if_neg (by rw [← hns]; exact hne), hx, hv] at hrr
      simp only at hrr
      rw [← eT2, ← eAD] at hrr
      obtain ⟨d, ed⟩ : ∃ d, d = v - 1 + (AD - T2) := ⟨_, rfl⟩
      rw [← ed] at hrr
      have q1 : wrap64 (AD - T2) = AD - T2 := by unfold wrap64; omega
      have q2 : wrap64 (v - 1 + (AD - T2)) = d := by unfold wrap64; omega
      have f0 : w15.cell? ⟨hf, 0, none⟩ = some (.int .i64 T2) := (cell_of_block hf2 0).trans rfl
      have f1 : w15.cell? ⟨hf, 1, none⟩ = some (.int .i64 AD) := (cell_of_block hf2 1).trans rfl
      have g0 : w15.cell? ⟨h, 0, none⟩ = some (.int .u8 o) := (cell_of_block hx2 0).trans rfl
      have g1 : w15.cell? ⟨h, 1, none⟩ = some (.int .i64 a) := (cell_of_block hx2 1).trans rfl
      by_cases hd1 : v - 1 < T2
      · rw [if_pos hd1] at hrr
        injection hrr with hrr
        subst hrr
        as_aux_lemma =>
        have t1 : decide (v - 1 < T2) = true := decide_eq_true hd1
        have HQ := Lib.hid hbw
        have HE := Lib.hid HN.out.2.1
        clear HA HZ HT HN hd1 hrt hx hv hvb hop hcb hws hpw hbw heb hT2 hns hwf hA1 hA2 hA3 eh eT eAD ed eT2 hf2 hbx hx2 hb15 hf1 hne ht1 ht2 hk hin hn4 ek
        go_wp2_with fail
        go_ret
        rw [← HE.out]
        exact ⟨rfl, HQ.out⟩
      rw [if_neg hd1] at hrr
      by_cases hd2 : 64 < d
      · rw [if_pos hd2] at hrr
        injection hrr with hrr
        subst hrr
        as_aux_lemma =>
        have t1 : decide (v - 1 < T2) = false := decide_eq_false hd1
        have t2 : decide (64 < d) = true := decide_eq_true hd2
        have HQ := Lib.hid hbw
        have HE := Lib.hid HN.out.2.1
        clear HA HZ HT HN hd1 hd2 hrt hx hv hvb hop hcb hws hpw hbw heb hT2 hns hwf hA1 hA2 hA3 eh eT eAD ed eT2 hf2 hbx hx2 hb15 hf1 hne ht1 ht2 hk hin hn4 ek
        go_wp2_with fail
        go_ret
        rw [← HE.out]
        exact ⟨rfl, HQ.out⟩
      rw [if_neg hd2] at hrr
      have t1 : decide (v - 1 < T2) = false := decide_eq_false hd1
      have t2 : decide (64 < d) = false := decide_eq_false hd2
      have d0 : 0 ≤ d := by omega
      have d3 : wrap64 (d + 1) = d + 1 := by unfold wrap64; omega
      have NX := next_ok o i a (by omega) (by omega) w15
      have HQ := Lib.hid (And.intro hrr (And.intro hws (And.intro hpw (And.intro hbw (And.intro hwf (And.intro hrt (And.intro ek (And.intro d0 (And.intro (show d ≤ 64 from by omega) (And.intro hk (And.intro (And.intro hin hne) (And.intro hn4 (And.intro ht1 ht2)))))))))))))
      clear HA HZ HT hd1 hd2 hrt hx hv hvb hop hcb hws hpw hbw heb hT2 hns hwf hA1 hA2 hA3 eh eT eAD ed eT2 hf2 hbx hx2 hb15 hf1 hne ht1 ht2 hk hin hn4 ek hrr d0
      go_upto_region 22 with (go_at_call 45; refine NX.mono ?_; rintro e w16 ⟨A16, rfl, hi16, hf16, hb16⟩; have HX := Lib.hid (And.intro hi16 (And.intro hf16 hb16)); clear hi16 hf16 hb16)
      obtain ⟨l, el⟩ : ∃ l, l = nextF (o, a) i := ⟨_, rfl⟩
      have R0 : VRel w g bd n f #[.slice (some ⟨cb, co, none⟩) n cap, .int .i64 (L : Nat), .int .u32 R, .int .u32 Wr] A16 l (d + 1) rt.length (visit (d + 1) (nextN (o, a) i) (ds, rt)) l.length (.slice (some ⟨gt, 0, none⟩) k tc) (.int .i64 (0 : Nat)) w16 := by
        obtain ⟨hi16, hf16, hb16⟩ := HX.out
        obtain ⟨hrr, hws, hpw, hbw, hwf, -⟩ := HQ.out
        rw [← el] at hi16
        refine ⟨0, ds, rt, rfl, Nat.zero_le _, rfl, by rw [el]; rfl, ⟨hws.below hb16, hbw.trans (hb16.mono (Nat.le_of_lt (lt_of_block' hpw))), (hb16.block _ (lt_of_block' hpw)).trans hpw, hi16, ?_, hwf.len, hwf.val, hwf.pl, Nat.le_refl _⟩⟩
        intro b eb
        have h1 := hf16 b eb
        have h2 := lt_of_block' hws.d
        refine ⟨by omega, fun h3 => ?_, h1.2⟩
        have h4 := (own_lt hws.t h3).1
        omega
      have hll : l.length ≤ 2 := by rw [el]; unfold nextF; (repeat' split) <;> simp
      have hle : ∀ u, u ∈ l → 0 ≤ u ∧ u ≤ (n : Int) := by
        obtain ⟨-, -, -, -, -, hrt, -, -, -, -, hin, -, -, -⟩ := HQ.out
        rw [el]
        exact next_le hrt (by have := HN.out; omega)
      rw [← el]
      have HL := Lib.hid (And.intro hll (And.intro hle el)); clear hll hle el
      obtain ⟨hrr, hws, hpw, hbw, hwf, hrt, ek, hd0, hd64, hk, hin, hn4, ht1, ht2⟩ := HQ.out
      have HR := Lib.hid (And.intro hrr (And.intro hd0 (And.intro hd64 (And.intro hin hn4)))); clear HQ hrr hws hpw hbw hwf hrt ek hd0 hd64 hk hin hn4 ht1 ht2 HX f0 f1 g0 g1 q1 q2 t1 t2 NX
      generalize hres : visit (d + 1) (nextN (o, a) i) (ds, rt) = res at R0 HR
      clear hres
      as_aux_lemma =>
      go_loopg [7, 120] l.length (fun gh tv iv wr => VRel w g bd n f #[.slice (some ⟨cb, co, none⟩) n cap, .int .i64 (L : Nat), .int .u32 R, .int .u32 Wr] A16 l (d + 1) rt.length res gh tv iv wr)
      case atStart => exact R0
      case round =>
      clear R0
      obtain ⟨kk, ds1, rt1, hgh, hkk, rfl, hvis, V⟩ := hrel
      by_cases hlt : kk < l.length
      · obtain ⟨u, hu⟩ : ∃ u, l[kk]? = some u := ⟨_, List.getElem?_eq_getElem hlt⟩
        have hub := HL.out.2.1 u (List.mem_of_getElem? hu)
        obtain ⟨t, rfl⟩ : ∃ t : Nat, u = (t : Int) := ⟨u.toNat, by omega⟩
        obtain ⟨b16, eA, c16⟩ := V.it kk _ hu
        subst eA
        have ht : t ≤ n := by omega
        obtain ⟨v1, hv1⟩ : ∃ v1, ds1[t]? = some v1 := ⟨_, List.getElem?_eq_getElem (by rw [V.len]; omega)⟩
        have c1 := V.ws.at_ hv1
        have fr1 : wr.frozen? ⟨bd, t, none⟩ = false := free_of_block V.ws.d t
        have hdrop : (l.map Int.toNat).drop kk = t :: (l.map Int.toNat).drop (kk + 1) := by
          rw [List.drop_eq_getElem_cons (by simpa using hlt)]
          have : (l.map Int.toNat)[kk]'(by simpa using hlt) = t := by
            have h2 := List.getElem?_eq_some_iff.1 hu
            rw [List.getElem_map, h2.2]; simp
          rw [this]
        rw [hdrop, visit, hv1] at hvis
        simp only at hvis
        have j0 : (0 : Int) ≤ (kk : Int) := by omega
        have j1 : (kk : Int) < (l.length : Int) := by omega
        have j2 : decide (kk < l.length) = true := decide_eq_true hlt
        have j3 : (0 : Int) ≤ (t : Int) := by omega
        have j4 : (t : Int) < (n : Int) + 1 := by omega
        have hl2 := HL.out.1
        have j5 : wrap64 ((kk : Int) + 1) = (kk : Int) + 1 := by unfold wrap64; omega
        have hd0 := HR.out.2.1
        have j6 : ¬ d + 1 = 0 := by omega
        by_cases hz : v1 = 0
        · subst hz
          rw [if_pos rfl] at hvis
          obtain ⟨i1, hi1, hz0, hz1, hz2⟩ := info_parts infoInt
          have hrl : rt1.length ≤ 10000 := by have := V.room; have := HR.out; omega
          have hsz : (wr.setCell ⟨bd, t, none⟩ (.int .i64 (d + 1))).heap.size = wr.heap.size := by simp [World.setCell]
          have lgw := lt_of_block' V.pw
          have HI := Lib.hid (And.intro hi1 (And.intro hz0 (And.intro hz1 (And.intro hz2 (And.intro hrl (And.intro hsz lgw)))))); clear hi1 hz0 hz1 hz2 hrl hsz lgw
          have HO := Lib.hid (V.ws.set t (d + 1)).t
          have hgbd := HN.out.1
          have HV := Lib.hid (And.intro hgh (And.intro hvis (And.intro V (And.intro hlt (And.intro ht (And.intro hd0 hgbd)))))); clear hgh hvis V hlt hu hub ht hv1 hdrop hl2 hd0 hkk hgbd
          as_aux_lemma =>
          go_wp2_with (at_builtin; refine wpList_append_own_at _ rfl (.tmp 134) (.tmp 136) 77 rfl (g + 1) 3 i1 (.int .i64 0) 1 8 Tryz.underlying77 HI.out.1 HI.out.2.1 HI.out.2.2.1 HI.out.2.2.2.1 rfl (by decide) _ _ _ rfl (HO.out.alloc _) ⟨(wr.setCell ⟨bd, t, none⟩ (.int .i64 (d + 1))).heap.size, 0, none⟩ 1 1 [.int .i64 (t : Nat)] ?c00 ?c0 ?c1 ?c2 ?c3 ?c4 ?c5 ?_)
          case c00 => rw [HI.out.2.2.2.2.2.1]; rfl
          case c0 => rfl
          case c1 => exact cell_one_new _ _ _
          case c2 => intro u hu; rw [List.mem_singleton] at hu; subst hu; rfl
          case c3 => have := HI.out.2.2.2.2.1; unfold maxLen; omega
          case c4 => have := HI.out.2.2.2.2.1; omega
          case c5 => have := HI.out.2.2.2.2.2.1; have := HI.out.2.2.2.2.2.2; rw [World.size_alloc]; omega
          intro v5 w5 hown5 hg5 _ hat5
          obtain ⟨hgh, hvis, V, hlt, ht, hd0, hgbd⟩ := HV.out
          obtain ⟨hrr, -, hd64, -, -⟩ := HR.out
          obtain ⟨V5, c5⟩ := V.push ht (by omega) (by omega) hgbd hown5 hg5 hat5
          have HV5 := Lib.hid (And.intro V5 (And.intro hvis hlt)); clear V5 hown5 hg5 hat5 hgh hvis V hlt ht hd0 hgbd hrr hd64 HO HI c1 fr1
          go_wp2_with fail
          go_roundg (l.length - (kk + 1))
          case measure => have := HV.out.1; have := HV.out.2.2.2.1; omega
          case rel => exact ⟨kk + 1, _, _, rfl, HV5.out.2.2, by go_num, HV5.out.2.1, HV5.out.1⟩
        · rw [if_neg hz] at hvis
          by_cases he : v1 = d + 1
          · rw [if_pos he] at hvis
            subst he
            as_aux_lemma =>
            have HV := Lib.hid (And.intro hgh (And.intro hvis (And.intro V (And.intro hlt hu)))); clear hgh hvis V hlt hu hub ht hv1 hdrop hl2 hd0 hkk
            go_wp2_with fail
            go_roundg (l.length - (kk + 1))
            case measure => have := HV.out.1; have := HV.out.2.2.2.1; omega
            case rel => exact ⟨kk + 1, ds1, rt1, rfl, HV.out.2.2.2.1, by go_num, HV.out.2.1, HV.out.2.2.1.next⟩
          · rw [if_neg he] at hvis
            as_aux_lemma =>
            have hrf : r = false := by
              have h1 := HR.out.1
              rw [← hvis] at h1
              simp only at h1
              injection h1 with h1
              exact h1.symm
            have HV := Lib.hid (And.intro V.bw (And.intro hrf HN.out.2.1)); clear hgh hvis V hlt hu hub ht hv1 hdrop hl2 hd0 hkk hrf
            go_wp2_with fail
            go_ret
            rw [HV.out.2.1, ← HV.out.2.2]
            exact ⟨rfl, HV.out.1⟩
      · as_aux_lemma =>
        have hkl : kk = l.length := by omega
        have hd : (l.map Int.toNat).drop kk = [] := by rw [hkl]; exact List.drop_of_length_le (by simp)
        rw [hd, visit] at hvis
        have j2 : decide (kk < l.length) = false := decide_eq_false hlt
        have hrr := HR.out.1
        rw [← hvis] at hrr
        simp only at hrr
        have hrm : rt1.length ≤ rt.length + 2 := by have := V.room; have := HL.out.1; omega
        have hin := HR.out.2.2.2.1
        have R1 : SRel w g bd n code #[.slice (some ⟨cb, co, none⟩) n cap, .int .i64 (L : Nat), .int .u32 R, .int .u32 Wr] r f u7 wr := ⟨ds1, rt1, hrr, ⟨V.len, V.val, V.pl, by omega⟩, V.ws, V.bw, V.pw⟩
        have HV := Lib.hid R1; clear hgh hvis V hlt hkl hd hrr hrm hin R1 hkk
        go_wp2_with fail
        go_roundg f
        case measure => omega
        case rel => exact HV.out
end
end Go.Proofs.YtocbddajakbemaaGreat
namespace Go.Proofs.YtocbddajakbemaaGreat
section
open Go.RowKit
theorem Sound_ok (A : Option Addr) (n cap : Nat) (L R Wr : Int) (code : List (Nat × Int)) (b : Bool) (w : World) (hn : n = code.length) (hlen : code.length ≤ 4000) (ho : ∀ x, x ∈ code → x.1 < 256) (hc : CodeAt w w.heap.size A code) (hb : soundF L R Wr code = some b) :
    Calls Tryz.prog 26 #[.agg #[.slice A n cap, .int .i64 L, .int .u32 R, .int .u32 Wr]] w fun e w' => e = .returned (.bool b) ∧ Below w.heap.size w w' := by
  unfold soundF at hb
  by_cases h1 : L < 0 ∨ 32 < L
  · rw [if_pos h1] at hb
    injection hb with hb; subst hb
    exact Sound_no A n cap L R Wr code w hn hlen ho hc (Or.inl h1)
  rw [if_neg h1] at hb
  have hL0 : 0 ≤ L := by omega
  have hL1 : L ≤ 32 := by omega
  by_cases h2 : code.all (rightF L.toNat code.length) = false
  · rw [if_pos h2] at hb
    injection hb with hb; subst hb
    exact Sound_no A n cap L R Wr code w hn hlen ho hc (Or.inr ⟨hL0, hL1, Or.inl h2⟩)
  rw [if_neg h2] at hb
  have h2 : code.all (rightF L.toNat code.length) = true := by simpa using h2
  by_cases h3 : maskOf (kindsOf 4 code) ≠ R
  · rw [if_pos h3] at hb
    injection hb with hb; subst hb
    exact Sound_no A n cap L R Wr code w hn hlen ho hc (Or.inr ⟨hL0, hL1, Or.inr ⟨h2, Or.inl h3⟩⟩)
  rw [if_neg h3] at hb
  have h3 : maskOf (kindsOf 4 code) = R := by simpa using h3
  by_cases h4 : maskOf (kindsOf 5 code) ≠ Wr
  · rw [if_pos h4] at hb
    injection hb with hb; subst hb
    exact Sound_no A n cap L R Wr code w hn hlen ho hc (Or.inr ⟨hL0, hL1, Or.inr ⟨h2, Or.inr ⟨h3, h4⟩⟩⟩)
  rw [if_neg h4] at hb
  have h4 : maskOf (kindsOf 5 code) = Wr := by simpa using h4
  obtain ⟨L', rfl⟩ : ∃ L' : Nat, L = (L' : Nat) := ⟨L.toNat, by omega⟩
  rw [Int.toNat_natCast] at h2
  exact Sound_run A n cap L' R Wr code b w hn hlen ho hc (by omega) h2 h3 h4 hb
end
end Go.Proofs.YtocbddajakbemaaGreat
