/- RngWrong. -/
import Derived.Test.YtcljjpdggbkjfaaFair
import Derived.Laws.MakeOwn
set_option linter.unusedVariables false
namespace Go.Proofs.Ytcljjpdggbkjfaa
open Go.RowKit

theorem info49 : (Try.prog.info? 49).map (fun i => (i.zero, i.size, i.bytes)) = some (some (.agg #[.int .i64 0, .int .i64 0, .int .i64 0]), 3, 24) := by kernel_rfl

/-- The cells of n results that say: nothing, an argument that is wrong. -/
def rows : Nat → List Value
  | 0 => []
  | n + 1 => rows n ++ [.int .i64 0, .int .i64 0, .int .i64 2]
theorem rows_length (n : Nat) : (rows n).length = n * 3 := by
  induction n with
  | zero => rfl
  | succ n ih => simp only [rows, List.length_append, ih, List.length_cons, List.length_nil]; omega
theorem rows_one (n : Nat) : ∀ u ∈ rows n, u.oneCell' = true := by
  induction n with
  | zero => intro u h; cases h
  | succ n ih =>
    intro u h
    simp only [rows, List.mem_append, List.mem_cons, List.not_mem_nil, or_false] at h
    rcases h with h | h | h | h
    · exact ih u h
    all_goals subst h; rfl

theorem own_ne {w : World} {base : Nat} {e t : TypeId} {size n g : Nat} {v : Value} {xs : List Value} {cs : Array Value} (h : w.ownsRow base e size v n xs) (hg : w.heap[g]? = some (.cells cs t (0, 0))) (hne : e ≠ t) : v.ownBlock ≠ some g := by
  rcases h.2 with ⟨rfl, _⟩ | ⟨g', cap, cur, rfl, _, hh, _⟩
  · simp [Value.ownBlock]
  · intro he
    have : g' = g := by simpa [Value.ownBlock] using he
    subst this
    rw [hg] at hh
    injection hh with hh
    injection hh with _ q
    exact hne q.symm

/-- The list 'all' lies at ga and holds n results. -/
def Held (w : World) (ga n : Nat) (wr : World) : Prop :=
  ga < wr.heap.size ∧ w.heap.size ≤ ga ∧ Below w.heap.size w wr ∧ ∃ v, wr.heap[ga]? = some (.cells #[v] 47 (0, 0)) ∧ wr.ownsRow w.heap.size 49 3 v n (rows n)

theorem Held.below {w wr wx : World} {ga n : Nat} (h : Held w ga n wr) (hb : Below wr.heap.size wr wx) : Held w ga n wx := by
  obtain ⟨h1, h2, h3, v, h4, h5⟩ := h
  refine ⟨Nat.lt_of_lt_of_le h1 hb.size, h2, then_ h3 hb, v, (hb.block ga h1).trans h4, ?_⟩
  rcases h5 with ⟨l, h5⟩
  refine ⟨l, ?_⟩
  rcases h5 with h5 | ⟨g, cap, cur, e, hg, hh, r⟩
  · exact Or.inl h5
  · exact Or.inr ⟨g, cap, cur, e, hg, (hb.block g (lt_of_block hh)).trans hh, r⟩

/-- Blocks of other element types are as they were. -/
def Keeps (wr wx : World) : Prop := ∀ (q : Nat) (cs : Array Value) (t : TypeId), wr.heap[q]? = some (.cells cs t (0, 0)) → t ≠ 47 → t ≠ 49 → wx.heap[q]? = some (.cells cs t (0, 0))
theorem Keeps.trans {a b c : World} (h : Keeps a b) (k : Keeps b c) : Keeps a c := fun q cs t e h1 h2 => k q cs t (h q cs t e h1 h2) h1 h2
theorem Keeps.of_below {a b : World} (h : Below a.heap.size a b) : Keeps a b := fun q cs t e _ _ => (h.block q (lt_of_block e)).trans e

set_option maxHeartbeats 400000 in
theorem put_calls (w : World) (ga n : Nat) (wr : World) (hn : n ≤ 1000) (h : Held w ga n wr) :
    Calls Try.prog 19 #[.int .i64 0, .int .i64 0, .int .i64 2, .pointer (some ⟨ga, 0, none⟩)] wr fun e w' => e = .returned (.tuple #[]) ∧ Held w ga (n + 1) w' ∧ Keeps wr w' := by
  obtain ⟨i0, hi, hz0, hz1, hz2⟩ := info_parts info49
  obtain ⟨h1, h2, h3, v, h4, h5⟩ := h
  have hc := cell_of_one h4
  have hf := free_of_one h4
  have H := Lib.hid (And.intro h3 (And.intro h4 (And.intro h5 (And.intro hi (And.intro hz0 (And.intro hz1 hz2))))))
  have H1 := Lib.hid h1
  have H2 := Lib.hid h2
  clear h1 h2 h3 h4 h5 hi hz0 hz1 hz2
  go_enter Try.func19, Try.ntmps19
  go_wp2_with (at_builtin; refine wpList_append_own _ rfl _ _ 47 rfl w.heap.size 49 i0 (.agg #[.int .i64 0, .int .i64 0, .int .i64 0]) 3 24 Try.underlying47 H.out.2.2.2.1 H.out.2.2.2.2.1 H.out.2.2.2.2.2.1 H.out.2.2.2.2.2.2 rfl (by decide) _ _ _ rfl (H.out.2.2.1.alloc _) ⟨wr.heap.size, 0, none⟩ 1 1 [.int .i64 0, .int .i64 0, .int .i64 2] rfl rfl ?c1 ?c2 ?c3 ?c4 ?c5 ?_)
  case c1 =>
    intro j u hu
    have hb := heap_alloc_new wr (.cells #[.int .i64 0, .int .i64 0, .int .i64 2] 49)
    match j, hu with
    | 0, hu => simp at hu; subst hu; exact (cell_of_block hb 0).trans rfl
    | 1, hu => simp at hu; subst hu; exact (cell_of_block hb 1).trans rfl
    | 2, hu => simp at hu; subst hu; exact (cell_of_block hb 2).trans rfl
    | j + 3, hu => simp at hu
  case c2 => intro u hu; simp at hu; rcases hu with rfl | rfl | rfl <;> rfl
  case c3 => unfold maxLen; omega
  case c4 => omega
  case c5 => have := H1.out; have := H2.out; simp; omega
  intro v' w1 hown' hgrow _
  obtain ⟨g', cap', rfl⟩ : ∃ g' cap', v' = .slice (some ⟨g', 0, none⟩) (n + 1) cap' := by
    rcases hown'.2 with ⟨_, h0⟩ | ⟨g', cap', _, hv, _⟩
    · omega
    · exact ⟨g', cap', hv⟩
  have hne := own_ne H.out.2.2.1 H.out.2.1 (by decide)
  have hg1 : w1.heap[ga]? = some (.cells #[v] 47 (0, 0)) := (hgrow.block ga (by have := H1.out; simp; omega) (fun e => hne e.symm)).trans ((Below.heap_alloc _ _ _ H1.out).trans H.out.2.1)
  have hc1 := cell_of_one hg1
  have hf1 := free_of_one hg1
  have HN := Lib.hid (And.intro hown' (And.intro hgrow hg1))
  clear hown' hgrow hg1 hne
  go_wp2_with fail
  go_end0
  have hne2 := own_ne HN.out.1 HN.out.2.2 (by decide)
  have hsz := HN.out.2.1.size
  have hw : w.heap.size ≤ wr.heap.size := H.out.1.size
  refine ⟨rfl, ⟨?_, H2.out, ?_, _, one_setCell HN.out.2.2, ?_⟩, ?_⟩
  · have := H1.out; simp at hsz ⊢; omega
  · refine Below.setCell ((H.out.1.alloc hw _).grown HN.out.2.1 (by simp; omega) ?_) (p := ⟨ga, 0, none⟩) H2.out _
    intro q hq
    exact own_base H.out.2.2.1 hq
  · exact ownsRow_setCell_other HN.out.1 (a := ⟨ga, 0, none⟩) hne2 _
  · intro q cs t e h47 h49
    have hq : q ≠ ga := by
      rintro rfl
      have h4 := H.out.2.1
      rw [e] at h4
      injection h4 with h4
      injection h4 with _ h5
      exact h47 h5
    have hv := own_ne H.out.2.2.1 e (fun q => h49 q.symm)
    refine (Below.heap_setCell _ _ _ _ hq).trans ?_
    refine (HN.out.2.1.block q (by have := lt_of_block e; simp; omega) (fun q => hv q.symm)).trans ?_
    exact (Below.heap_alloc _ _ _ (lt_of_block e)).trans e

theorem rows_at (n j : Nat) (h : j < n) : (rows n)[j * 3]? = some (.int .i64 0) ∧ (rows n)[j * 3 + 1]? = some (.int .i64 0) ∧ (rows n)[j * 3 + 2]? = some (.int .i64 2) := by
  induction n with
  | zero => omega
  | succ n ih =>
    have hl := rows_length n
    simp only [rows]
    rcases Nat.lt_or_ge j n with hlt | hge
    · rw [List.getElem?_append_left (by omega), List.getElem?_append_left (by omega), List.getElem?_append_left (by omega)]
      exact ih hlt
    · have : j = n := by omega
      subst this
      rw [List.getElem?_append_right (by omega), List.getElem?_append_right (by omega), List.getElem?_append_right (by omega), hl]
      refine ⟨by rw [show j * 3 - j * 3 = 0 from by omega]; rfl, by rw [show j * 3 + 1 - j * 3 = 1 from by omega]; rfl, by rw [show j * 3 + 2 - j * 3 = 2 from by omega]; rfl⟩

/-- What 'all' holds when n results lie in it. -/
theorem Held.look {w wr : World} {ga n : Nat} (h : Held w ga n wr) (hn : 0 < n) : ∃ gv cap, wr.cell? ⟨ga, 0, none⟩ = some (.slice (some ⟨gv, 0, none⟩) n cap) ∧ gv < wr.heap.size ∧
    ∀ j, j < n → wr.cell? ⟨gv, j * 3, none⟩ = some (.int .i64 0) ∧ wr.cell? ⟨gv, j * 3 + 1, none⟩ = some (.int .i64 0) ∧ wr.cell? ⟨gv, j * 3 + 2, none⟩ = some (.int .i64 2) := by
  obtain ⟨_, _, _, v, h4, hl, h5⟩ := h
  rcases h5 with ⟨_, h0⟩ | ⟨g, cap, cur, rfl, _, hh, _, _, hsz, htk⟩
  · omega
  · refine ⟨g, cap, cell_of_one h4, lt_of_block hh, fun j hj => ?_⟩
    obtain ⟨r1, r2, r3⟩ := rows_at n j hj
    rw [← htk, List.getElem?_take, if_pos (by omega), Array.getElem?_toList] at r1 r2 r3
    exact ⟨(cell_of_block hh _).trans r1, (cell_of_block hh _).trans r2, (cell_of_block hh _).trans r3⟩

theorem held_start (w : World) : Held w w.heap.size 0 (w.alloc (.cells #[.slice none 0 0] 47)) :=
  ⟨by simp, Nat.le_refl _, (Below.refl _ _).alloc (Nat.le_refl _) _, _, heap_alloc_new w _, World.ownsRow_nil _ _ _ _⟩

theorem Weigh_two (s k a : Int) (w : World) (h : a < 0) : Calls Try.prog 16 #[.int .u64 s, .int .i64 k, .slice (some ⟨w.heap.size, 0, none⟩) 2 2] (w.alloc (.cells #[.int .i64 5, .int .i64 a] 3)) fun e w' =>
      e = .returned (.tuple #[.int .i64 0, .int .i64 0, .int .i64 2]) ∧ Below (w.alloc (.cells #[.int .i64 5, .int .i64 a] 3)).heap.size (w.alloc (.cells #[.int .i64 5, .int .i64 a] 3)) w' :=
  Weigh_bad (some ⟨w.heap.size, 0, none⟩) 2 [5, a] s k _ (Ints.lit (heap_alloc_new w _)) (by simp) 1 (by simp) (by simp [okW]; omega) (fun j hj => by rw [show j = 0 from by omega]; simp [okW])
theorem Weigh_one (s k f : Int) (w : World) (h : 1099511627776 < f) : Calls Try.prog 16 #[.int .u64 s, .int .i64 k, .slice (some ⟨w.heap.size, 0, none⟩) 1 1] (w.alloc (.cells #[.int .i64 f] 3)) fun e w' =>
      e = .returned (.tuple #[.int .i64 0, .int .i64 0, .int .i64 2]) ∧ Below (w.alloc (.cells #[.int .i64 f] 3)).heap.size (w.alloc (.cells #[.int .i64 f] 3)) w' :=
  Weigh_bad (some ⟨w.heap.size, 0, none⟩) 1 [f] s k _ (Ints.lit (heap_alloc_new w _)) (by simp) 0 (by simp) (by simp [okW]; omega) (fun j hj => by omega)

theorem Held.alloc {w wr : World} {ga n : Nat} (h : Held w ga n wr) (o : Obj) : Held w ga n (wr.alloc o) := h.below ((Below.refl _ _).alloc (Nat.le_refl _) o)

set_option maxRecDepth 100000 in
set_option maxHeartbeats 4000000 in
theorem wrong_walk (s k x : Int) (w : World) (s0 : 0 ≤ s) (s1 : s ≤ 18446744073709551615) (k0 : -9223372036854775808 ≤ k) (k1 : k ≤ 9223372036854775807) (x0 : -9223372036854775808 ≤ x) (x1 : x ≤ 9223372036854775807) :
    Calls Try.prog 8 #[.int .u64 s, .int .i64 k, .int .i64 x] w fun e w' => e = .returned (.bool true) ∧ Below w.heap.size w w' := by
  obtain ⟨a, ha, ha1, ha2⟩ : ∃ a, (if (-1 : Int) < x then (-1 : Int) else x) = a ∧ a ≤ -1 ∧ -9223372036854775808 ≤ a := ⟨_, rfl, by split <;> omega, by split <;> omega⟩
  obtain ⟨b, hb, hb1, hb2⟩ : ∃ b, (if x < (1 : Int) then (1 : Int) else x) = b ∧ 1 ≤ b ∧ b ≤ 9223372036854775807 := ⟨_, rfl, by split <;> omega, by split <;> omega⟩
  obtain ⟨c, hc, hc1, hc2⟩ : ∃ c, (if (0 : Int) < x then (0 : Int) else x) = c ∧ c ≤ 0 ∧ -9223372036854775808 ≤ c := ⟨_, rfl, by split <;> omega, by split <;> omega⟩
  obtain ⟨d, hd, hd1, hd2⟩ : ∃ d, (if x < (0 : Int) then (0 : Int) else x) = d ∧ 0 ≤ d ∧ d ≤ 9223372036854775807 := ⟨_, rfl, by split <;> omega, by split <;> omega⟩
  obtain ⟨f, hf, hf1, hf2⟩ : ∃ f, (if x < (1099511627777 : Int) then (1099511627777 : Int) else x) = f ∧ 1099511627777 ≤ f ∧ f ≤ 9223372036854775807 := ⟨_, rfl, by split <;> omega, by split <;> omega⟩
  obtain ⟨g, hg, hg1, hg2⟩ : ∃ g, (if x < (1025 : Int) then (1025 : Int) else x) = g ∧ 1025 ≤ g ∧ g ≤ 9223372036854775807 := ⟨_, rfl, by split <;> omega, by split <;> omega⟩
  obtain ⟨m, hm, hm1, hm2⟩ : ∃ m, (if (7 : Int) < b - 1 then (7 : Int) else b - 1) = m ∧ m < b ∧ -9223372036854775808 ≤ m := ⟨_, rfl, by split <;> omega, by split <;> omega⟩
  obtain ⟨O, hmk⟩ : ∃ O : Obj, ∀ W : World, (Instr.makeSlice 39 (.int .i64 1025) (.int .i64 1025)).run Try.prog W = .ok (.slice (some ⟨W.heap.size, 0, none⟩) 1025 1025) (W.alloc O) := by
    obtain ⟨i0, hi, hz0, hz1, hz2⟩ := info_parts info3
    refine ⟨.cells (madeCells (Value.int .i64 0).cells (1025 * i0.size)) 3, fun W => ?_⟩
    exact run_make (P := Try.prog) W 39 3 i0 (.int .i64 0) Try.underlying39 hi hz0 .i64 .i64 1025 1025 (by decide) (by decide) (by rw [hz2]; decide) (by decide)
  go_enter Try.func8, Try.ntmps8
  have HH0 := Lib.hid (held_start w)
  go_wp2_with fail
  refine (Below_calls_no s k c _ (by omega)).mono ?_
  rintro e w1 ⟨rfl, hb⟩
  have HH1 := Lib.hid (HH0.out.below hb); clear hb HH0
  go_wp2_with fail
  refine (put_calls w w.heap.size 0 _ (by decide) HH1.out).mono ?_
  rintro e w2 ⟨rfl, hh, -⟩
  have HH2 := Lib.hid hh; clear hh HH1
  go_wp2_with fail
  refine (Range_calls_no s k d (d - 1) _ (by omega)).mono ?_
  rintro e w3 ⟨rfl, hb⟩
  have HH3 := Lib.hid (HH2.out.below hb); clear hb HH2
  go_wp2_with fail
  refine (put_calls w w.heap.size 1 _ (by decide) HH3.out).mono ?_
  rintro e w4 ⟨rfl, hh, -⟩
  have HH4 := Lib.hid hh; clear hh HH3
  go_wp2_with fail
  refine (Weigh_zero none 0 [] s k _ (fun j hj => by simp at hj) (by decide) (fun j hj => by simp at hj) rfl).mono ?_
  rintro e w5 ⟨rfl, hb⟩
  have HH5 := Lib.hid (HH4.out.below hb); clear hb HH4
  go_wp2_with fail
  refine (put_calls w w.heap.size 2 _ (by decide) HH5.out).mono ?_
  rintro e w6 ⟨rfl, hh, -⟩
  have HH6 := Lib.hid hh; clear hh HH5
  go_wp2_with fail
  refine (Weigh_two s k a _ (by omega)).mono ?_
  rintro e w7 ⟨rfl, hb⟩
  have HH7 := Lib.hid ((HH6.out.alloc _).below hb); clear hb HH6
  go_wp2_with fail
  refine (put_calls w w.heap.size 3 _ (by decide) HH7.out).mono ?_
  rintro e w8 ⟨rfl, hh, -⟩
  have HH8 := Lib.hid hh; clear hh HH7
  go_wp2_with fail
  refine (Weigh_one s k f _ (by omega)).mono ?_
  rintro e w9 ⟨rfl, hb⟩
  have HH9 := Lib.hid ((HH8.out.alloc _).below hb); clear hb HH8
  go_wp2_with fail
  refine (put_calls w w.heap.size 4 _ (by decide) HH9.out).mono ?_
  rintro e w10 ⟨rfl, hh, -⟩
  have HH10 := Lib.hid hh; clear hh HH9
  go_wp2_with fail
  refine (Weigh_long _ 1025 1025 s k _ (by decide)).mono ?_
  rintro e w11 ⟨rfl, hb⟩
  have HH11 := Lib.hid ((HH10.out.alloc _).below hb); clear hb HH10
  go_wp2_with fail
  refine (put_calls w w.heap.size 5 _ (by decide) HH11.out).mono ?_
  rintro e w12 ⟨rfl, hh, -⟩
  have HH12 := Lib.hid hh; clear hh HH11 hmk hf
  go_wp2_with fail
  have HS := Lib.hid (heap_alloc_new w12 (.cells #[.int .i64 a, .int .i64 5, .int .i64 6, .int .i64 5, .int .i64 0, .int .i64 c, .int .i64 b, .int .i64 m] 51))
  go_loopg [106] 4 (fun gh i wr => ∃ j : Nat, gh = 4 - j ∧ j ≤ 4 ∧ i = .int .i64 j ∧ (Held w w.heap.size (6 + j) wr ∧ wr.heap[w12.heap.size]? = some (.cells #[.int .i64 a, .int .i64 5, .int .i64 6, .int .i64 5, .int .i64 0, .int .i64 c, .int .i64 b, .int .i64 m] 51 (0, 0))))
  case atStart => exact ⟨0, rfl, by omega, rfl, HH12.out.alloc _, HS.out⟩
  case round =>
    obtain ⟨j, hgh, hj, rfl, hR⟩ := hrel
    have Hgh := Lib.hid hgh; clear hgh
    have HR := Lib.hid hR; clear hR
    rcases (show j = 0 ∨ j = 1 ∨ j = 2 ∨ j = 3 ∨ j = 4 from by omega) with rfl | rfl | rfl | rfl | rfl
    · have q0 := (cell_of_block HR.out.2 0).trans rfl
      have q1 := (cell_of_block HR.out.2 1).trans rfl
      go_wp2_with fail
      refine (Chance_calls_no s k (a) (5) _ (by omega)).mono ?_
      rintro e w13 ⟨rfl, hb⟩
      have HK := Lib.hid (Keeps.of_below (then_ ((Below.refl _ _).alloc (Nat.le_refl _) _) hb))
      have HH13 := Lib.hid ((HR.out.1.alloc _).below hb); clear hb q0 q1
      go_wp2_with fail
      refine (put_calls w w.heap.size 6 _ (by decide) HH13.out).mono ?_
      rintro e w14 ⟨rfl, hh, hk⟩
      have HZ := Lib.hid (And.intro hh (HK.out.trans hk)); clear hh hk
      go_wp2_with fail
      go_roundg 3
      case measure => have := Hgh.out; omega
      case rel => exact ⟨1, rfl, by omega, by go_num, HZ.out.1, HZ.out.2 _ _ _ HR.out.2 (by decide) (by decide)⟩
    · have q0 := (cell_of_block HR.out.2 2).trans rfl
      have q1 := (cell_of_block HR.out.2 3).trans rfl
      go_wp2_with fail
      refine (Chance_calls_no s k (6) (5) _ (by omega)).mono ?_
      rintro e w13 ⟨rfl, hb⟩
      have HK := Lib.hid (Keeps.of_below (then_ ((Below.refl _ _).alloc (Nat.le_refl _) _) hb))
      have HH13 := Lib.hid ((HR.out.1.alloc _).below hb); clear hb q0 q1
      go_wp2_with fail
      refine (put_calls w w.heap.size 7 _ (by decide) HH13.out).mono ?_
      rintro e w14 ⟨rfl, hh, hk⟩
      have HZ := Lib.hid (And.intro hh (HK.out.trans hk)); clear hh hk
      go_wp2_with fail
      go_roundg 2
      case measure => have := Hgh.out; omega
      case rel => exact ⟨2, rfl, by omega, by go_num, HZ.out.1, HZ.out.2 _ _ _ HR.out.2 (by decide) (by decide)⟩
    · have q0 := (cell_of_block HR.out.2 4).trans rfl
      have q1 := (cell_of_block HR.out.2 5).trans rfl
      go_wp2_with fail
      refine (Chance_calls_no s k (0) (c) _ (by omega)).mono ?_
      rintro e w13 ⟨rfl, hb⟩
      have HK := Lib.hid (Keeps.of_below (then_ ((Below.refl _ _).alloc (Nat.le_refl _) _) hb))
      have HH13 := Lib.hid ((HR.out.1.alloc _).below hb); clear hb q0 q1
      go_wp2_with fail
      refine (put_calls w w.heap.size 8 _ (by decide) HH13.out).mono ?_
      rintro e w14 ⟨rfl, hh, hk⟩
      have HZ := Lib.hid (And.intro hh (HK.out.trans hk)); clear hh hk
      go_wp2_with fail
      go_roundg 1
      case measure => have := Hgh.out; omega
      case rel => exact ⟨3, rfl, by omega, by go_num, HZ.out.1, HZ.out.2 _ _ _ HR.out.2 (by decide) (by decide)⟩
    · have q0 := (cell_of_block HR.out.2 6).trans rfl
      have q1 := (cell_of_block HR.out.2 7).trans rfl
      go_wp2_with fail
      refine (Chance_calls_no s k (b) (m) _ (by omega)).mono ?_
      rintro e w13 ⟨rfl, hb⟩
      have HK := Lib.hid (Keeps.of_below (then_ ((Below.refl _ _).alloc (Nat.le_refl _) _) hb))
      have HH13 := Lib.hid ((HR.out.1.alloc _).below hb); clear hb q0 q1
      go_wp2_with fail
      refine (put_calls w w.heap.size 9 _ (by decide) HH13.out).mono ?_
      rintro e w14 ⟨rfl, hh, hk⟩
      have HZ := Lib.hid (And.intro hh (HK.out.trans hk)); clear hh hk
      go_wp2_with fail
      go_roundg 0
      case measure => have := Hgh.out; omega
      case rel => exact ⟨4, rfl, by omega, by go_num, HZ.out.1, HZ.out.2 _ _ _ HR.out.2 (by decide) (by decide)⟩
    · have HR1 := Lib.hid HR.out.1
      clear HR HS HH12 hj Hgh
      go_wp2_with fail
      have HS := Lib.hid (heap_alloc_new wr (.cells #[.int .i64 a, .int .i64 g] 3))
      go_loopg [132] 2 (fun gh i wx => ∃ j : Nat, gh = 2 - j ∧ j ≤ 2 ∧ i = .int .i64 j ∧ (Held w w.heap.size (10 + j) wx ∧ wx.heap[wr.heap.size]? = some (.cells #[.int .i64 a, .int .i64 g] 3 (0, 0))))
      case atStart => exact ⟨0, rfl, by omega, rfl, HR1.out.alloc _, HS.out⟩
      case round =>
        obtain ⟨j, hgh, hj, rfl, hR⟩ := hrel
        have Hg2 := Lib.hid hgh; clear hgh
        have HR2 := Lib.hid hR; clear hR
        rcases (show j = 0 ∨ j = 1 ∨ j = 2 from by omega) with rfl | rfl | rfl
        · have q0 := (cell_of_block HR2.out.2 0).trans rfl
          go_wp2_with fail
          refine (Perm_no s k a _ (by omega)).mono ?_
          rintro e w13 ⟨rfl, hb⟩
          have HK := Lib.hid (Keeps.of_below hb)
          have HH13 := Lib.hid (HR2.out.1.below hb); clear hb q0
          go_wp2_with fail
          refine (put_calls w w.heap.size 10 _ (by decide) HH13.out).mono ?_
          rintro e w14 ⟨rfl, hh, hk⟩
          have HZ := Lib.hid (And.intro hh (HK.out.trans hk)); clear hh hk
          go_wp2_with fail
          go_roundg 1
          case measure => have := Hg2.out; omega
          case rel => exact ⟨1, rfl, by omega, by go_num, HZ.out.1, HZ.out.2 _ _ _ HR2.out.2 (by decide) (by decide)⟩
        · have q0 := (cell_of_block HR2.out.2 1).trans rfl
          go_wp2_with fail
          refine (Perm_no s k g _ (by omega)).mono ?_
          rintro e w13 ⟨rfl, hb⟩
          have HK := Lib.hid (Keeps.of_below hb)
          have HH13 := Lib.hid (HR2.out.1.below hb); clear hb q0
          go_wp2_with fail
          refine (put_calls w w.heap.size 11 _ (by decide) HH13.out).mono ?_
          rintro e w14 ⟨rfl, hh, hk⟩
          have HZ := Lib.hid (And.intro hh (HK.out.trans hk)); clear hh hk
          go_wp2_with fail
          go_roundg 0
          case measure => have := Hg2.out; omega
          case rel => exact ⟨2, rfl, by omega, by go_num, HZ.out.1, HZ.out.2 _ _ _ HR2.out.2 (by decide) (by decide)⟩
        · obtain ⟨gv, cap, hcv, hgv, hcs⟩ := HR2.out.1.look (by decide)
          have HV := Lib.hid (And.intro hgv hcs)
          have HH := Lib.hid HR2.out.1
          clear HR2 HS HR1 hj Hg2 hgv hcs
          go_wp2_with fail
          go_loopg [153] 12 (fun gh i wy => ∃ j : Nat, gh = 12 - j ∧ j ≤ 12 ∧ i = .int .i64 j ∧ Below wr.heap.size wr wy)
          case atStart => exact ⟨0, rfl, by omega, rfl, Below.refl _ _⟩
          case round =>
            obtain ⟨j, hgh, hj, rfl, hb⟩ := hrel
            have Hg3 := Lib.hid hgh; clear hgh
            have HB := Lib.hid hb; clear hb
            by_cases hlt : j < 12
            · obtain ⟨e0, e1, e2⟩ := HV.out.2 j hlt
              have d0 := (HB.out.cell (p := ⟨gv, j * 3, none⟩) HV.out.1).trans e0
              have d1 := (HB.out.cell (p := ⟨gv, j * 3 + 1, none⟩) HV.out.1).trans e1
              have d2 := (HB.out.cell (p := ⟨gv, j * 3 + 2, none⟩) HV.out.1).trans e2
              clear e0 e1 e2 hj
              go_wp2_with fail
              go_roundg (12 - (j + 1))
              case measure => have := Hg3.out; omega
              case rel => exact ⟨j + 1, rfl, by omega, by go_num, HB.out.alloc HB.out.size _⟩
            · clear hj
              go_wp2_with fail
              refine (Fold_no s c _ (by omega)).mono ?_
              rintro e w' ⟨rfl, rfl⟩
              go_wp2_with fail
              refine (awake_calls _).mono ?_
              rintro e w9 ⟨rfl, hb⟩
              have HF := Lib.hid (then_ (then_ HH.out.2.2.1 HB.out) hb)
              clear hb
              go_wp2_with fail
              go_ret
              exact ⟨rfl, HF.out⟩
end Go.Proofs.Ytcljjpdggbkjfaa
