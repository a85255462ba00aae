/- vm: compile.Prog.right, effects, next; slices.ContainsFunc of instructions. vm: compile.effects, compile.next. vm: slices.ContainsFunc of instructions that are not right. vm: compile.Sound: what it computes; a code that is turned down at once. -/
import Derived.Test.YtocbddajakbemaaGreatMD
import Derived.Deep.MidRow
set_option linter.unusedVariables false
set_option linter.unusedSimpArgs false
set_option linter.unusedSimpArgs false
namespace Go.Proofs.YtocbddajakbemaaGreat
section
open Go.RowKit
def rightF (L n : Nat) (x : Nat × Int) : Bool :=
  match x.1 with
  | 1 => true
  | 2 | 3 => decide (0 ≤ x.2) && decide (x.2 ≤ (L : Int) - 1)
  | 4 | 5 => decide (1 ≤ x.2) && decide (x.2 ≤ 10)
  | 11 | 12 | 13 => decide (0 ≤ x.2) && decide (x.2 ≤ (n : Int))
  | 9 => (decide (7 ≤ x.2) && decide (x.2 ≤ 20)) || (decide (23 ≤ x.2) && decide (x.2 ≤ 24))
  | o => decide (1 ≤ o) && decide (o ≤ 15) && (x.2 == 0)
theorem right_big (L n o : Nat) (a : Int) (h : 16 ≤ o) : rightF L n (o, a) = false := by
  unfold rightF
  simp only
  split
  all_goals first | omega | (rw [show decide (o ≤ 15) = false from decide_eq_false (by omega)]; simp)
theorem in_ok (b o : Nat) (a lo hi : Int) (w : World) (h : w.heap[b]? = some (.cells #[.int .u8 o, .int .i64 a] 105 (0, 0))) :
    Calls Tryz.prog 68 #[.int .i64 lo, .int .i64 hi, .pointer (some ⟨b, 0, none⟩)] w fun e w' => e = .returned (.bool (decide (lo ≤ a) && decide (a ≤ hi))) ∧ w = w' := by
  have c1 : w.cell? ⟨b, 1, none⟩ = some (.int .i64 a) := (cell_of_block h 1).trans rfl
  clear h
  by_cases h1 : lo ≤ a
  · by_cases h2 : a ≤ hi
    · go_enter Tryz.func68, Tryz.ntmps68
      go_wp2_with fail
      go_ret
      exact ⟨by simp [h1, h2], rfl⟩
    · go_enter Tryz.func68, Tryz.ntmps68
      go_wp2_with fail
      go_ret
      exact ⟨by simp [h1, h2], rfl⟩
  · have HD := Lib.hid (decide_eq_false h1)
    go_enter Tryz.func68, Tryz.ntmps68
    go_wp2_with fail
    go_ret
    exact ⟨by rw [HD.out, Bool.false_and]; rfl, rfl⟩
set_option maxRecDepth 100000 in
set_option maxHeartbeats 1000000 in
theorem right_ok (A : Option Addr) (n cap L : Nat) (R Wr : Int) (o : Nat) (a : Int) (w : World) (hL : L ≤ 32) (hn : n ≤ 4000) (ho : o < 256) :
    Calls Tryz.prog 42 #[.agg #[.slice A n cap, .int .i64 (L : Nat), .int .u32 R, .int .u32 Wr], .agg #[.int .u8 o, .int .i64 a]] w fun e w' => e = .returned (.bool (rightF L n (o, a))) ∧ Below w.heap.size w w' := by
  have hmf : ∀ (fn : Fn) (first cap : Array Value) (w : World), (Instr.makeFunc fn first cap).run Tryz.prog w = .ok (.func fn first cap) w := fun _ _ _ _ => rfl
  obtain ⟨w1, ew1⟩ : ∃ w1, w1 = (w.alloc (.cells #[.slice A n cap, .int .i64 (L : Nat), .int .u32 R, .int .u32 Wr] 53 (0, 0))).alloc (.cells #[.int .u8 o, .int .i64 a] 105 (0, 0)) := ⟨_, rfl⟩
  have hb : Below w.heap.size w w1 := by rw [ew1]; exact ((Below.refl _ _).alloc (Nat.le_refl _) _).alloc (by simp) _
  have hp : w1.heap[w.heap.size]? = some (.cells #[.slice A n cap, .int .i64 (L : Nat), .int .u32 R, .int .u32 Wr] 53 (0, 0)) := by
    rw [ew1]; exact (Below.heap_alloc _ _ _ (by simp)).trans (heap_alloc_new w _)
  have hi : w1.heap[w.heap.size + 1]? = some (.cells #[.int .u8 o, .int .i64 a] 105 (0, 0)) := by
    have := heap_alloc_new (w.alloc (.cells #[.slice A n cap, .int .i64 (L : Nat), .int .u32 R, .int .u32 Wr] 53 (0, 0))) (.cells #[.int .u8 o, .int .i64 a] 105 (0, 0))
    rw [ew1]; simpa using this
  have c0 : w1.cell? ⟨w.heap.size, 0, none⟩ = some (.slice A n cap) := (cell_of_block hp 0).trans rfl
  have c1 : w1.cell? ⟨w.heap.size, 1, none⟩ = some (.int .i64 (L : Nat)) := (cell_of_block hp 1).trans rfl
  have d0 : w1.cell? ⟨w.heap.size + 1, 0, none⟩ = some (.int .u8 o) := (cell_of_block hi 0).trans rfl
  have d1 : w1.cell? ⟨w.heap.size + 1, 1, none⟩ = some (.int .i64 a) := (cell_of_block hi 1).trans rfl
  have IN := fun lo h => in_ok (w.heap.size + 1) o a lo h w1 hi
  have hw : wrap64 ((L : Int) - 1) = (L : Int) - 1 := by unfold wrap64; omega
  have HI := Lib.hid (And.intro IN hb); clear IN hb hp hi
  go_enter Tryz.func42, Tryz.ntmps42
  go_upto_region 2 with fail
  rw [← ew1]
  clear ew1
  rcases (show o = 1 ∨ (o = 2 ∨ o = 3) ∨ (o = 4 ∨ o = 5) ∨ (o = 11 ∨ o = 12 ∨ o = 13) ∨ o = 9 ∨ (o = 6 ∨ o = 7 ∨ o = 8 ∨ o = 10 ∨ o = 14 ∨ o = 15) ∨ o = 0 ∨ 16 ≤ o from by omega) with rfl | (rfl | rfl) | (rfl | rfl) | (rfl | rfl | rfl) | rfl | (rfl | rfl | rfl | rfl | rfl | rfl) | rfl | hge
  · as_aux_lemma =>
    go_wp2_with fail
    go_ret
    exact ⟨rfl, HI.out.2⟩
  iterate 2 (
    as_aux_lemma =>
    go_wp2_with (go_at_call 68; refine (HI.out.1 _ _).mono ?_; rintro e w' ⟨rfl, rfl⟩)
    go_ret
    exact ⟨rfl, HI.out.2⟩)
  iterate 2 (
    as_aux_lemma =>
    go_wp2_with (go_at_call 68; refine (HI.out.1 _ _).mono ?_; rintro e w' ⟨rfl, rfl⟩)
    go_ret
    exact ⟨rfl, HI.out.2⟩)
  iterate 3 (
    as_aux_lemma =>
    go_wp2_with (go_at_call 68; refine (HI.out.1 _ _).mono ?_; rintro e w' ⟨rfl, rfl⟩)
    go_ret
    exact ⟨rfl, HI.out.2⟩)
  · as_aux_lemma =>
    cases h7 : (decide ((7 : Int) ≤ a) && decide (a ≤ 20))
    · have h7' := h7
      have HJ := Lib.hid h7; clear h7
      go_wp2_with (go_at_call 68; refine (HI.out.1 _ _).mono ?_; rintro e w' ⟨rfl, rfl⟩)
      go_ret
      refine ⟨?_, HI.out.2⟩
      show _ = Ending.returned (.bool ((decide ((7 : Int) ≤ a) && decide (a ≤ 20)) || (decide ((23 : Int) ≤ a) && decide (a ≤ 24))))
      rw [HJ.out]
      rfl
    · have HJ := Lib.hid h7
      go_wp2_with (go_at_call 68; refine (HI.out.1 _ _).mono ?_; rintro e w' ⟨rfl, rfl⟩)
      go_ret
      refine ⟨?_, HI.out.2⟩
      show _ = Ending.returned (.bool ((decide ((7 : Int) ≤ a) && decide (a ≤ 20)) || (decide ((23 : Int) ≤ a) && decide (a ≤ 24))))
      rw [HJ.out]
      rfl
  iterate 6 (
    as_aux_lemma =>
    go_wp2_with fail
    go_ret
    exact ⟨rfl, HI.out.2⟩)
  · as_aux_lemma =>
    go_wp2_with fail
    go_ret
    exact ⟨rfl, HI.out.2⟩
  · as_aux_lemma =>
    have n1 : ¬ o = 1 := by omega
    have n2 : ¬ o = 2 := by omega
    have n3 : ¬ o = 3 := by omega
    have n4 : ¬ o = 4 := by omega
    have n5 : ¬ o = 5 := by omega
    have n9 : ¬ o = 9 := by omega
    have n11 : ¬ o = 11 := by omega
    have n12 : ¬ o = 12 := by omega
    have n13 : ¬ o = 13 := by omega
    have g1 : (1 : Int) ≤ (o : Int) := by omega
    have g15 : ¬ (o : Int) ≤ 15 := by omega
    have HG := Lib.hid (right_big L n o a hge)
    go_wp2_with fail
    go_ret
    exact ⟨by rw [HG.out]; rfl, HI.out.2⟩
end
end Go.Proofs.YtocbddajakbemaaGreat
namespace Go.Proofs.YtocbddajakbemaaGreat
section
open Go.RowKit
theorem wpList_val {P : Program} {ops : Array Oper} {rest : List Oper} {o : Oper} {a : Act} {w : World} {Q : Exit → Act → World → Prop} (hg : o.guard = none) (v : Value)
    (hr : (execOp a.eval o).run P w = .ok (.value v) w) (h : wpList P ops Q rest (a.put o.dst v) w) : wpList P ops Q (o :: rest) a w :=
  wpList_plain hg fun K hK => by unfold Oper.wp; rw [hr]; exact hK _ _ h
theorem Mid_store {P : Program} {ops : Array Oper} {rest : List Oper} {op : Oper} {a : Act} {w : World} {Q : Exit → Act → World → Prop} (hgd : op.guard = none) (ty : TypeId) (x y : Operand) (ho : op.op = .store ty x y)
    (b o : Nat) (cells : Array Value) (hx : a.eval x = .pointer (some ⟨b, o, none⟩)) (hy : a.eval y = .agg cells)
    (ht : w.there b o cells.size) (hi : (P.info? ty).map (·.size) = some cells.size) (h1 : cells.all (·.oneCell') = true)
    (h : wpList P ops Q rest (a.put op.dst undef) (w.setCells b o cells.toList)) : wpList P ops Q (op :: rest) a w :=
  wpList_store_mid hgd ty x y ho b o cells hx hy ht hi h1 h
theorem setCells_below (w : World) (vs : List Value) (b o : Nat) {B : Nat} (hB : B ≤ b) : Below B w (w.setCells b o vs) := by
  induction vs generalizing w o with
  | nil => exact Below.refl _ _
  | cons v vs ih => exact ((Below.refl B w).setCell (p := ⟨b, o, none⟩) hB v).trans (ih _ _)
theorem ret_cell1 {fn : Func} {p : Tmp} {ty : TypeId} (h : fn.results = #[.cell p ty]) (tmps : Array Value) (w : World) (g : Nat) (v : Value)
    (hp : tmps.getD p undef = .pointer (some ⟨g, 0, none⟩)) (hl : (loadVar ty ⟨g, 0, none⟩).run Tryz.prog w = .ok v w) : (results fn tmps).run Tryz.prog w = .ok v w := by
  have hp' : tmps[p]?.getD undef = .pointer (some ⟨g, 0, none⟩) := by simpa using hp
  simp [results, h, hp', asAddr, hl]
def effI : List Int := [0,0, 0,1, 0,1, 1,0, 1,1, 2,0, 0,1, 0,1, 1,1, 1,1, 1,1, 0,0, 1,0, 1,0, 0,0, 0,0]
def effV : List Value := effI.map (Value.int .i64)
set_option maxRecDepth 100000 in
set_option maxHeartbeats 1000000 in
theorem effects_ok (w : World) : Calls Tryz.prog 44 #[] w fun e w' => e = .returned (.agg effV.toArray) ∧ Below w.heap.size w w' := by
  go_enter Tryz.func44, Tryz.ntmps44
  go_upto_region 1 with fail
  obtain ⟨w1, ew1⟩ : ∃ w1, w1 = w.alloc (.cells (Array.replicate 32 (.int .i64 0)) 110 (0, 0)) := ⟨_, rfl⟩
  have ew2 := ew1
  simp only [Array.replicate, List.replicate] at ew2
  rw [← ew2]
  have hb : Below w.heap.size w w1 := by rw [ew1]; exact (Below.refl _ w).alloc (Nat.le_refl _) _
  have hk : w1.heap[w.heap.size]? = some (.cells (Array.replicate 32 (.int .i64 0)) 110 (0, 0)) := by rw [ew1]; exact heap_alloc_new w _
  clear ew1 ew2
  have hthere : w1.there w.heap.size 0 effV.length := by
    intro j hj
    have hj2 : j < 32 := Nat.lt_of_lt_of_eq hj (by kernel_rfl)
    refine ⟨?_, free_of_block hk _⟩
    rw [cell_of_block hk]
    simp [hj2]
  refine wp_region_lit ?_
  refine wpList_val rfl (.agg #[.int .i64 0, .int .i64 1]) (by kernel_rfl) ?_
  refine wpList_val rfl (.agg #[.int .i64 0, .int .i64 1]) (by kernel_rfl) ?_
  refine wpList_val rfl (.agg #[.int .i64 1, .int .i64 0]) (by kernel_rfl) ?_
  refine wpList_val rfl (.agg #[.int .i64 1, .int .i64 1]) (by kernel_rfl) ?_
  refine wpList_val rfl (.agg #[.int .i64 2, .int .i64 0]) (by kernel_rfl) ?_
  refine wpList_val rfl (.agg #[.int .i64 0, .int .i64 1]) (by kernel_rfl) ?_
  refine wpList_val rfl (.agg #[.int .i64 0, .int .i64 1]) (by kernel_rfl) ?_
  refine wpList_val rfl (.agg #[.int .i64 1, .int .i64 1]) (by kernel_rfl) ?_
  refine wpList_val rfl (.agg #[.int .i64 1, .int .i64 1]) (by kernel_rfl) ?_
  refine wpList_val rfl (.agg #[.int .i64 1, .int .i64 1]) (by kernel_rfl) ?_
  refine wpList_val rfl (.agg #[.int .i64 1, .int .i64 0]) (by kernel_rfl) ?_
  refine wpList_val rfl (.agg #[.int .i64 1, .int .i64 0]) (by kernel_rfl) ?_
  refine wpList_val rfl (.agg effV.toArray) (by kernel_rfl) ?_
  refine Mid_store rfl 110 (.tmp 0) (.tmp 13) rfl w.heap.size 0 effV.toArray (by kernel_rfl) (by kernel_rfl) ?_ (by kernel_rfl) (by kernel_rfl) ?_
  · exact hthere
  have hrange := World.rangeAt_setCells_same w1 w.heap.size 0 effV hthere
  have hbel : Below w.heap.size w (w1.setCells w.heap.size 0 effV) := hb.trans (setCells_below w1 effV _ _ (Nat.le_refl _))
  rename_i hK
  refine wpList_nil ?_
  refine (show _ from hK _ _ ?_)
  refine wp_ret ?_
  have hl := run_loadVar_mid (P := Tryz.prog) _ w.heap.size 0 110 effV _ hrange Tryz.underlying110 rfl (by kernel_rfl)
  exact bodyPost_ret (v := .agg effV.toArray) (ret_cell1 rfl _ _ w.heap.size _ (by kernel_rfl) hl) (by kernel_rfl) ⟨rfl, hbel⟩
def nextF (x : Nat × Int) (i : Nat) : List Int :=
  match x.1 with
  | 11 => [x.2]
  | 12 | 13 => [(i : Int) + 1, x.2]
  | 14 | 15 => []
  | _ => [(i : Int) + 1]
theorem next_else (o i : Nat) (a : Int) (h : o ≠ 11 ∧ o ≠ 12 ∧ o ≠ 13 ∧ o ≠ 14 ∧ o ≠ 15) : nextF (o, a) i = [(i : Int) + 1] := by
  unfold nextF
  simp only
  split <;> first | omega | rfl
def IntsAt (w : World) (A : Option Addr) (l : List Int) : Prop := ∀ (j : Nat) (u : Int), l[j]? = some u → ∃ b, A = some ⟨b, 0, none⟩ ∧ w.cell? ⟨b, j, none⟩ = some (.int .i64 u)
set_option maxHeartbeats 1000000 in
theorem next_ok (o i : Nat) (a : Int) (hi : i ≤ 4000) (ho : o < 256) (w : World) :
    Calls Tryz.prog 45 #[.agg #[.int .u8 o, .int .i64 a], .int .i64 i] w fun e w' => ∃ A, e = .returned (.slice A (nextF (o, a) i).length (nextF (o, a) i).length) ∧ IntsAt w' A (nextF (o, a) i) ∧ (∀ b, A = some ⟨b, 0, none⟩ → w.heap.size ≤ b ∧ b < w'.heap.size) ∧ Below w.heap.size w w' := by
  have hb : ∀ o1, Below w.heap.size w (w.alloc o1) := fun o1 => (Below.refl _ w).alloc (Nat.le_refl _) _
  have hb2 : ∀ o1 o2, Below w.heap.size w ((w.alloc o1).alloc o2) := fun o1 o2 => (hb o1).alloc (by simp) _
  have hw : wrap64 ((i : Int) + 1) = (i : Int) + 1 := by unfold wrap64; omega
  have h1 : ∀ o1 (x : Int), IntsAt ((w.alloc o1).alloc (.cells #[.int .i64 x] 3 (0, 0))) (some ⟨w.heap.size + 1, 0, none⟩) [x] := by
    intro o1 x j u hu
    have hk := heap_alloc_new (w.alloc o1) (.cells #[.int .i64 x] 3 (0, 0))
    rw [show (w.alloc o1).heap.size = w.heap.size + 1 from by simp] at hk
    refine ⟨_, rfl, ?_⟩
    rw [cell_of_block hk]
    match j, hu with
    | 0, hu => simp at hu; subst hu; rfl
  have h2 : ∀ o1 (x y : Int), IntsAt ((w.alloc o1).alloc (.cells #[.int .i64 x, .int .i64 y] 3 (0, 0))) (some ⟨w.heap.size + 1, 0, none⟩) [x, y] := by
    intro o1 x y j u hu
    have hk := heap_alloc_new (w.alloc o1) (.cells #[.int .i64 x, .int .i64 y] 3 (0, 0))
    rw [show (w.alloc o1).heap.size = w.heap.size + 1 from by simp] at hk
    refine ⟨_, rfl, ?_⟩
    rw [cell_of_block hk]
    match j, hu with
    | 0, hu => simp at hu; subst hu; rfl
    | 1, hu => simp at hu; subst hu; rfl
  have HI := Lib.hid (And.intro hb (And.intro hb2 (And.intro h1 h2))); clear hb hb2 h1 h2
  rcases (show o = 11 ∨ (o = 12 ∨ o = 13) ∨ (o = 14 ∨ o = 15) ∨ (o ≠ 11 ∧ o ≠ 12 ∧ o ≠ 13 ∧ o ≠ 14 ∧ o ≠ 15) from by omega) with rfl | (rfl | rfl) | (rfl | rfl) | hne
  · go_enter Tryz.func45, Tryz.ntmps45
    go_wp2_with fail
    go_ret
    exact ⟨_, rfl, HI.out.2.2.1 _ _, (fun b hb => by cases hb; simp), HI.out.2.1 _ _⟩
  · go_enter Tryz.func45, Tryz.ntmps45
    go_wp2_with fail
    go_ret
    exact ⟨_, rfl, HI.out.2.2.2 _ _ _, (fun b hb => by cases hb; simp), HI.out.2.1 _ _⟩
  · go_enter Tryz.func45, Tryz.ntmps45
    go_wp2_with fail
    go_ret
    exact ⟨_, rfl, HI.out.2.2.2 _ _ _, (fun b hb => by cases hb; simp), HI.out.2.1 _ _⟩
  · go_enter Tryz.func45, Tryz.ntmps45
    go_wp2_with fail
    go_ret
    exact ⟨none, rfl, (fun j u hu => by simp [nextF] at hu), (fun b hb => by cases hb), HI.out.1 _⟩
  · go_enter Tryz.func45, Tryz.ntmps45
    go_wp2_with fail
    go_ret
    exact ⟨none, rfl, (fun j u hu => by simp [nextF] at hu), (fun b hb => by cases hb), HI.out.1 _⟩
  · have HE := Lib.hid (next_else o i a hne)
    obtain ⟨n11, n12, n13, n14, n15⟩ := hne
    go_enter Tryz.func45, Tryz.ntmps45
    go_wp2_with fail
    go_ret
    rw [HE.out]
    exact ⟨_, rfl, HI.out.2.2.1 _ _, (fun b hb => by cases hb; simp), HI.out.2.1 _ _⟩
end
end Go.Proofs.YtocbddajakbemaaGreat
namespace Go.Proofs.YtocbddajakbemaaGreat
section
open Go.RowKit
theorem wrong_ok (A : Option Addr) (n cap L : Nat) (R Wr : Int) (o : Nat) (a : Int) (pb : Nat) (w : World) (hL : L ≤ 32) (hn : n ≤ 4000) (ho : o < 256)
    (hp : w.heap[pb]? = some (.cells #[.slice A n cap, .int .i64 (L : Nat), .int .u32 R, .int .u32 Wr] 53 (0, 0))) :
    Calls Tryz.prog 41 #[.agg #[.int .u8 o, .int .i64 a], .pointer (some ⟨pb, 0, none⟩)] w fun e w' => e = .returned (.bool (!rightF L n (o, a))) ∧ Below w.heap.size w w' := by
  have hlt := lt_of_block' hp
  obtain ⟨w1, ew1⟩ : ∃ w1, w1 = w.alloc (.cells #[.int .u8 o, .int .i64 a] 105 (0, 0)) := ⟨_, rfl⟩
  have hb : Below w.heap.size w w1 := by rw [ew1]; exact (Below.refl _ _).alloc (Nat.le_refl _) _
  have hp1 := (hb.block pb hlt).trans hp
  have c0 : w1.cell? ⟨pb, 0, none⟩ = some (.slice A n cap) := (cell_of_block hp1 0).trans rfl
  have c1 : w1.cell? ⟨pb, 1, none⟩ = some (.int .i64 (L : Nat)) := (cell_of_block hp1 1).trans rfl
  have c2 : w1.cell? ⟨pb, 2, none⟩ = some (.int .u32 R) := (cell_of_block hp1 2).trans rfl
  have c3 : w1.cell? ⟨pb, 3, none⟩ = some (.int .u32 Wr) := (cell_of_block hp1 3).trans rfl
  have hi : w1.heap[w.heap.size]? = some (.cells #[.int .u8 o, .int .i64 a] 105 (0, 0)) := by rw [ew1]; exact heap_alloc_new w _
  have d0 : w1.cell? ⟨w.heap.size, 0, none⟩ = some (.int .u8 o) := (cell_of_block hi 0).trans rfl
  have d1 : w1.cell? ⟨w.heap.size, 1, none⟩ = some (.int .i64 a) := (cell_of_block hi 1).trans rfl
  have RT := right_ok A n cap L R Wr o a w1 hL hn ho
  have H := Lib.hid (And.intro RT hb); clear RT hb hp1 hi hp
  go_enter Tryz.func41, Tryz.ntmps41
  go_upto_region 1 with fail
  rw [← ew1]
  clear ew1
  go_wp2_with (go_at_call 42; refine H.out.1.mono ?_; rintro e w' ⟨rfl, hb2⟩; have HB := Lib.hid hb2; clear hb2)
  go_ret
  exact ⟨rfl, H.out.2.trans (HB.out.mono H.out.2.size)⟩
def okTo (L n : Nat) (code : List (Nat × Int)) (k : Nat) : Bool := (code.take k).all (rightF L n)
theorem okTo_succ {L n : Nat} {code : List (Nat × Int)} {k : Nat} {x : Nat × Int} (h : code[k]? = some x) : okTo L n code (k + 1) = (okTo L n code k && rightF L n x) := by
  unfold okTo
  rw [List.take_add_one, h, List.all_append]
  simp
theorem okTo_all {L n : Nat} {code : List (Nat × Int)} {k : Nat} {x : Nat × Int} (h : code[k]? = some x) (hr : rightF L n x = false) : code.all (rightF L n) = false := by
  rw [List.all_eq_false]
  exact ⟨x, List.mem_of_getElem? h, by simp [hr]⟩
set_option maxRecDepth 100000 in
set_option maxHeartbeats 1000000 in
theorem indexIns_ok (A : Option Addr) (n cap L : Nat) (R Wr : Int) (code : List (Nat × Int)) (pb : Nat) (w : World) (hL : L ≤ 32) (hn : n = code.length) (hlen : code.length ≤ 4000) (ho : ∀ x, x ∈ code → x.1 < 256)
    (hc : CodeAt w w.heap.size A code) (hp : w.heap[pb]? = some (.cells #[.slice A n cap, .int .i64 (L : Nat), .int .u32 R, .int .u32 Wr] 53 (0, 0))) :
    Calls Tryz.prog 69 #[.slice A n cap, .func (.func 41) #[] #[.pointer (some ⟨pb, 0, none⟩)]] w fun e w' => ∃ r : Int, e = .returned (.int .i64 r) ∧ decide (0 ≤ r) = !(code.all (rightF L n)) ∧ Below w.heap.size w w' := by
  have hlt := lt_of_block' hp
  have H := Lib.hid (And.intro hn (And.intro hlen (And.intro ho (And.intro hc (And.intro hp (And.intro hlt hL)))))); clear hn hlen ho hc hp hlt hL
  go_enter Tryz.func69, Tryz.ntmps69
  go_wp2_with fail
  go_loopg [8] n (fun gh iv wr => ∃ j : Nat, gh = n - j ∧ j ≤ n ∧ iv = .int .i64 (j : Nat) ∧ okTo L n code j = true ∧ Below w.heap.size w wr)
  case atStart => exact ⟨0, rfl, Nat.zero_le _, rfl, rfl, Below.refl _ _⟩
  case round =>
    obtain ⟨j, hgh, hj, rfl, hok, hb⟩ := hrel
    by_cases hjn : j < n
    · obtain ⟨hn, hlen, ho, hc, hp, hlt, hL⟩ := H.out
      obtain ⟨⟨o, a⟩, hx⟩ : ∃ x, code[j]? = some x := ⟨_, List.getElem?_eq_getElem (by omega)⟩
      obtain ⟨cb, co, rfl, hcb, x0, x1⟩ := hc.below hb j _ hx
      simp only at x0 x1
      have P := wrong_ok (some ⟨cb, co, none⟩) n cap L R Wr o a pb wr hL (by omega) (ho _ (List.mem_of_getElem? hx)) ((hb.block pb hlt).trans hp)
      have i0 : (0 : Int) ≤ (j : Int) := by omega
      have i1 : (j : Int) < (n : Int) := by omega
      have i2 : decide (j < n) = true := decide_eq_true hjn
      have hw : wrap64 ((j : Int) + 1) = (j : Int) + 1 := by unfold wrap64; omega
      have HX := Lib.hid (And.intro hgh (And.intro hok (And.intro hb (And.intro hx (And.intro hjn hw))))); clear hgh hj hok hb hx hjn hn hlen ho hc hp hlt hL hw
      go_wp2_with fail
      refine P.mono ?_
      rintro e w' ⟨rfl, hb2⟩
      have HB := Lib.hid hb2; clear hb2 P
      cases hr : rightF L n (o, a)
      · have HR := Lib.hid hr
        go_wp2_with fail
        go_ret
        refine ⟨(j : Int), rfl, ?_, HX.out.2.2.1.trans (HB.out.mono HX.out.2.2.1.size)⟩
        rw [okTo_all HX.out.2.2.2.1 HR.out]
        simp
      · have HR := Lib.hid hr
        go_wp2_with fail
        go_roundg (n - (j + 1))
        case measure => have := HX.out.1; have := HX.out.2.2.2.2.1; omega
        case rel => exact ⟨j + 1, rfl, by have := HX.out.2.2.2.2.1; omega, by rw [HX.out.2.2.2.2.2]; rfl, by rw [okTo_succ HX.out.2.2.2.1, HX.out.2.1, HR.out]; rfl, HX.out.2.2.1.trans (HB.out.mono HX.out.2.2.1.size)⟩
    · have hall : code.all (rightF L n) = true := by
        have : j = code.length := by have := H.out.1; omega
        rw [this] at hok
        unfold okTo at hok
        rwa [List.take_length] at hok
      have i2 : decide (j < n) = false := decide_eq_false hjn
      have HI := Lib.hid (And.intro hall hb)
      clear hjn hall hb hgh hj hok
      go_wp2_with fail
      go_ret
      exact ⟨-1, rfl, by rw [HI.out.1]; rfl, HI.out.2⟩
theorem containsIns_ok (A : Option Addr) (n cap L : Nat) (R Wr : Int) (code : List (Nat × Int)) (pb : Nat) (w : World) (hL : L ≤ 32) (hn : n = code.length) (hlen : code.length ≤ 4000) (ho : ∀ x, x ∈ code → x.1 < 256)
    (hc : CodeAt w w.heap.size A code) (hp : w.heap[pb]? = some (.cells #[.slice A n cap, .int .i64 (L : Nat), .int .u32 R, .int .u32 Wr] 53 (0, 0))) :
    Calls Tryz.prog 43 #[.slice A n cap, .func (.func 41) #[] #[.pointer (some ⟨pb, 0, none⟩)]] w fun e w' => e = .returned (.bool (!(code.all (rightF L n)))) ∧ Below w.heap.size w w' := by
  have P := indexIns_ok A n cap L R Wr code pb w hL hn hlen ho hc hp
  clear hL hn hlen ho hc hp
  go_enter Tryz.func43, Tryz.ntmps43
  go_wp2_with fail
  refine P.mono ?_
  rintro e w' ⟨r, rfl, hr, hb⟩
  have HB := Lib.hid (And.intro hr hb); clear hr hb P
  go_wp2_with fail
  go_ret
  exact ⟨by rw [← HB.out.1]; rfl, HB.out.2⟩
end
end Go.Proofs.YtocbddajakbemaaGreat
namespace Go.Proofs.YtocbddajakbemaaGreat
section
open Go.RowKit
def takesF (o : Nat) : Int := effI.getD (2 * o) 0
def addsF (o : Nat) : Int := effI.getD (2 * o + 1) 0
def takesX (x : Nat × Int) : Int := if x.1 = 9 ∧ 10 ≤ x.2 then 2 else takesF x.1
def visit (d : Int) : List Nat → List Int × List Nat → Option (List Int × List Nat)
  | [], s => some s
  | t :: r, (ds, rt) => match ds[t]? with
    | none => none
    | some v => if v = 0 then visit d r (ds.set t d, t :: rt) else if v = d then visit d r (ds, rt) else none
def nextN (x : Nat × Int) (i : Nat) : List Nat := (nextF x i).map Int.toNat
def soundL (code : List (Nat × Int)) : Nat → List Int × List Nat → Option Bool
  | 0, _ => none
  | _ + 1, (ds, []) => match ds[code.length]? with
    | some v => some (decide (v ≤ 1))
    | none => none
  | f + 1, (ds, i :: rt) => if i = code.length then soundL code f (ds, rt) else
    match code[i]?, ds[i]? with
    | some x, some v => if v - 1 < takesX x then some false else if 64 < v - 1 + (addsF x.1 - takesX x) then some false else
      match visit (v - 1 + (addsF x.1 - takesX x) + 1) (nextN x i) (ds, rt) with
      | none => some false
      | some s => soundL code f s
    | _, _ => none
def soundF (L R Wr : Int) (code : List (Nat × Int)) : Option Bool :=
  if L < 0 ∨ 32 < L then some false else if code.all (rightF L.toNat code.length) = false then some false else if maskOf (kindsOf 4 code) ≠ R then some false else if maskOf (kindsOf 5 code) ≠ Wr then some false else
    soundL code (code.length + 3) (1 :: List.replicate code.length 0, [0])
set_option maxRecDepth 100000 in
set_option maxHeartbeats 2000000 in
theorem Sound_no (A : Option Addr) (n cap : Nat) (L R Wr : Int) (code : List (Nat × Int)) (w : World) (hn : n = code.length) (hlen : code.length ≤ 4000) (ho : ∀ x, x ∈ code → x.1 < 256) (hc : CodeAt w w.heap.size A code)
    (hno : (L < 0 ∨ 32 < L) ∨ (0 ≤ L ∧ L ≤ 32 ∧ (code.all (rightF L.toNat code.length) = false ∨ (code.all (rightF L.toNat code.length) = true ∧ (maskOf (kindsOf 4 code) ≠ R ∨ (maskOf (kindsOf 4 code) = R ∧ maskOf (kindsOf 5 code) ≠ Wr)))))) :
    Calls Tryz.prog 26 #[.agg #[.slice A n cap, .int .i64 L, .int .u32 R, .int .u32 Wr]] w fun e w' => e = .returned (.bool false) ∧ Below w.heap.size w w' := by
  have hmf : ∀ (fn : Fn) (first cap : Array Value) (w : World), (Instr.makeFunc fn first cap).run Tryz.prog w = .ok (.func fn first cap) w := fun _ _ _ _ => rfl
  obtain ⟨w1, ew1⟩ : ∃ w1, w1 = w.alloc (.cells #[.slice A n cap, .int .i64 L, .int .u32 R, .int .u32 Wr] 53 (0, 0)) := ⟨_, rfl⟩
  have hb : Below w.heap.size w w1 := by rw [ew1]; exact (Below.refl _ _).alloc (Nat.le_refl _) _
  have hp : w1.heap[w.heap.size]? = some (.cells #[.slice A n cap, .int .i64 L, .int .u32 R, .int .u32 Wr] 53 (0, 0)) := by rw [ew1]; exact heap_alloc_new w _
  have c0 : w1.cell? ⟨w.heap.size, 0, none⟩ = some (.slice A n cap) := (cell_of_block hp 0).trans rfl
  have hs : w.heap.size < w1.heap.size := lt_of_block' hp
  have MK := Masks_calls A n cap code hn hlen w1 ((hc.below hb).mono (Nat.le_of_lt hs))
  obtain ⟨m4, em4⟩ : ∃ m, m = maskOf (kindsOf 4 code) := ⟨_, rfl⟩
  obtain ⟨m5, em5⟩ : ∃ m, m = maskOf (kindsOf 5 code) := ⟨_, rfl⟩
  rw [← em4, ← em5] at MK hno
  have tn : decide ((4000 : Int) < (n : Int)) = false := decide_eq_false (by omega)
  have H := Lib.hid (And.intro hb (And.intro hp (And.intro hs (And.intro hno (And.intro hn (And.intro hlen (And.intro ho hc))))))); clear hb hp hs hno hn hlen ho hc em4 em5
  go_enter Tryz.func26, Tryz.ntmps26
  go_upto_region 1 with fail
  rw [← ew1]
  clear ew1
  go_upto_region 2 with (go_at_call 34; refine MK.mono ?_; rintro e w2 ⟨rfl, hb2⟩; have HB := Lib.hid hb2; clear hb2)
  have hb12 := H.out.1.trans (HB.out.mono (Nat.le_of_lt H.out.2.2.1))
  have hp2 := (HB.out.block _ H.out.2.2.1).trans H.out.2.1
  have d0 : w2.cell? ⟨w.heap.size, 0, none⟩ = some (.slice A n cap) := (cell_of_block hp2 0).trans rfl
  have d1 : w2.cell? ⟨w.heap.size, 1, none⟩ = some (.int .i64 L) := (cell_of_block hp2 1).trans rfl
  have HC := Lib.hid (And.intro hb12 hp2)
  rcases H.out.2.2.2.1 with (hL | hL) | ⟨hL0, hL1, hno⟩
  · have t1 : decide (L < 0) = true := decide_eq_true hL
    clear hb12 hp2 MK H
    go_wp2_with fail
    go_ret
    exact ⟨rfl, HC.out.1⟩
  · have t0 : decide (L < 0) = false := decide_eq_false (by omega)
    have t1 : decide (32 < L) = true := decide_eq_true hL
    clear hb12 hp2 MK H
    go_wp2_with fail
    go_ret
    exact ⟨rfl, HC.out.1⟩
  · obtain ⟨L, rfl⟩ : ∃ L' : Nat, L = (L' : Nat) := ⟨L.toNat, by omega⟩
    rw [Int.toNat_natCast] at hno
    obtain ⟨-, -, hs, -, hn, hlen, ho, hc⟩ := H.out
    have CI := containsIns_ok A n cap L R Wr code w.heap.size w2 (by omega) hn hlen ho ((hc.below hb12).mono (by have := HB.out.size; omega)) hp2
    rw [← hn] at hno
    have t0 : decide ((L : Int) < 0) = false := decide_eq_false (by omega)
    have t1 : decide ((32 : Int) < L) = false := decide_eq_false (by omega)
    have hG : ∀ w3, Below w2.heap.size w2 w3 → Below w.heap.size w w3 ∧ w3.cell? ⟨w.heap.size, 2, none⟩ = some (.int .u32 R) ∧ w3.cell? ⟨w.heap.size, 3, none⟩ = some (.int .u32 Wr) := fun w3 h3 => by
      have hl2 : w.heap.size < w2.heap.size := lt_of_block' hp2
      have := (h3.block _ hl2).trans hp2
      exact ⟨hb12.trans (h3.mono (Nat.le_of_lt hl2)), (cell_of_block this 2).trans rfl, (cell_of_block this 3).trans rfl⟩
    have HG := Lib.hid (And.intro hG hn); clear hG
    rcases hno with hno | ⟨hall, hno⟩
    · rw [hno] at CI
      clear hb12 hp2 MK H hs hn hlen ho hc
      go_wp2_with (go_at_call 43; refine CI.mono ?_; rintro e w3 ⟨rfl, hb3⟩; have HB3 := Lib.hid hb3; clear hb3)
      go_ret
      exact ⟨rfl, (HG.out.1 _ HB3.out).1⟩
    · rw [hall] at CI
      have HN := Lib.hid hno
      clear hb12 hp2 MK H hs hn hlen ho hc
      rcases HN.out with hm | ⟨hm4, hm5⟩
      · have m1 : (m4 != R) = true := by simpa using hm
        have m2 : ¬ m4 = R := hm
        clear HN hno
        go_wp2_with (go_at_call 43; refine CI.mono ?_; rintro e w3 ⟨rfl, hb3⟩; obtain ⟨hb4, c2, c3⟩ := HG.out.1 _ hb3; have HB3 := Lib.hid hb4; clear hb3 hb4)
        go_ret
        exact ⟨rfl, HB3.out⟩
      · subst hm4
        have m1 : (m5 != Wr) = true := by simpa using hm5
        have m2 : ¬ m5 = Wr := hm5
        clear HN hno
        go_wp2_with (go_at_call 43; refine CI.mono ?_; rintro e w3 ⟨rfl, hb3⟩; obtain ⟨hb4, c2, c3⟩ := HG.out.1 _ hb3; have HB3 := Lib.hid hb4; clear hb3 hb4)
        go_ret
        exact ⟨rfl, HB3.out⟩
end
end Go.Proofs.YtocbddajakbemaaGreat
