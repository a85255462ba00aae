/- Models: NewModel, Freq, Total, below, learn. -/
import Derived.Test.YtdekcilfkelhlaaARead
import Derived.Laws.CopyOwn
import Derived.Laws.MakeOwn
import Derived.Deep.RegionLaw
import Derived.Outline
set_option linter.unusedVariables false
namespace Go.Proofs.Ytdekcilfkelhlaa
open Go.RowKit

theorem Mul64_one (n : Nat) (w : World) (hn : n ≤ 1000) :
    Calls Try.prog 78 #[.int .u64 1, .int .u64 (n : Int)] w fun e w' => e = .returned (.tuple #[.int .u64 0, .int .u64 (n : Int)]) ∧ w = w' := by
  have h1 : bits .and .u64 (n : Int) 4294967295 = (n : Int) := by
    have := u64_and_nat n 4294967295 (by omega) (by omega)
    rw [show (4294967295 : Nat) = 2 ^ 32 - 1 from rfl, Nat.and_two_pow_sub_one_eq_mod, Nat.mod_eq_of_lt (by omega)] at this
    exact this
  have h2 : (n : Int) / 4294967296 = 0 := by omega
  have h3 : bits .and .u64 1 4294967295 = 1 := by decide +kernel
  have h4 : bits .and .u64 0 4294967295 = 0 := by decide +kernel
  go_enter Try.func78, Try.ntmps78
  go_wp2_with fail
  go_ret2
  exact ⟨rfl, rfl⟩
theorem Mul_one (n : Nat) (w : World) (hn : n ≤ 1000) :
    Calls Try.prog 63 #[.int .u64 1, .int .u64 (n : Int)] w fun e w' => e = .returned (.tuple #[.int .u64 0, .int .u64 (n : Int)]) ∧ w = w' := by
  go_enter Try.func63, Try.ntmps63
  go_wp2_with fail
  refine (Mul64_one n _ hn).mono ?_
  rintro e w' ⟨rfl, rfl⟩
  go_wp2_with fail
  go_ret2
  exact ⟨rfl, rfl⟩

theorem info3 : (Try.prog.info? 3).map (fun i => (i.zero, i.size, i.bytes)) = some (some (.int .i64 0), 1, 8) := by kernel_rfl
theorem size3 : (Try.prog.info? 3).map (·.size) = some 1 := by kernel_rfl
/-- A row whose first c cells are 1, the others 0. -/
def ones (n c : Nat) : List Value := List.replicate c (.int .i64 1) ++ List.replicate (n - c) (.int .i64 0)
theorem ones_length {n c : Nat} (h : c ≤ n) : (ones n c).length = n := by unfold ones; simp; omega
theorem ones_at {n c i : Nat} (h : i < c) : (ones n c)[i]? = some (.int .i64 1) := by
  unfold ones; rw [List.getElem?_append_left (by simpa using h), List.getElem?_replicate, if_pos h]
theorem ones_splice {n c m : Nat} (h : c + m ≤ n) : splice (ones n c) c (List.replicate m (.int .i64 1)) = ones n (c + m) := by
  unfold splice ones
  rw [List.take_append_of_le_length (by simp), List.take_of_length_le (by simp)]
  rw [List.drop_append, List.drop_eq_nil_of_le (by simp), List.nil_append, List.length_replicate, List.length_replicate, List.drop_replicate, ← List.append_assoc, List.replicate_append_replicate]
  congr 2; omega

set_option maxRecDepth 100000 in
set_option maxHeartbeats 1000000 in
theorem Repeat_ok (gx n : Nat) (w : World) (hx : w.cell? ⟨gx, 0, none⟩ = some (.int .i64 1)) (h1 : 1 ≤ n) (hn : n ≤ 1000) :
    Calls Try.prog 39 #[.slice (some ⟨gx, 0, none⟩) 1 1, .int .i64 (n : Int)] w fun e w' => e = .returned (.slice (some ⟨w.heap.size, 0, none⟩) n n) ∧ w'.heap[w.heap.size]? = some (.cells (ones n n).toArray 3 (0, 0)) ∧ Below w.heap.size w w' := by
  obtain ⟨i0, hi, hz0, hz1, hz2⟩ := info_parts info3
  have hmk : ∀ W : World, (Instr.makeSlice 48 (.int .i64 (n : Int)) (.int .i64 (n : Int))).run Try.prog W = .ok (.slice (some ⟨W.heap.size, 0, none⟩) n n) (W.alloc (.cells (madeCells (Value.int .i64 0).cells (n * 1)) 3)) := fun W => by
    have := run_make (P := Try.prog) W 48 3 i0 (.int .i64 0) Try.underlying48 hi hz0 .i64 .i64 (n : Int) (n : Int) (by omega) (by omega) (by rw [hz2]; omega) (by omega)
    rw [hz1] at this
    simpa using this
  have hmc : madeCells (Value.int .i64 0).cells (n * 1) = (ones n 0).toArray := by
    apply Array.ext
    · simp [madeCells, ones]
    · intro i h1 h2
      simp [madeCells, ones, Nat.mod_one, Value.cells]
  clear hi hz0 hz1 hz2
  have HX := Lib.hid hx
  rw [hmc] at hmk
  clear hmc
  have hsx : ∀ o : Obj, (w.alloc o).cell? ⟨gx, 0, none⟩ = some (.int .i64 1) := fun o => (World.cell?_alloc_lt w o _ (World.block_lt_of_cell? w _ hx)).trans hx
  go_enter Try.func39, Try.ntmps39
  go_wp2_with fail
  refine (Mul_one n _ hn).mono ?_
  rintro e w' ⟨rfl, rfl⟩
  have HS := Lib.hid hsx; clear hsx hx
  go_wp2_with (with_reducible refine wpList_copy_splice rfl (.tmp 31) (.tmp 32) 48 48 rfl 3 Try.underlying48 size3 (some ⟨w.heap.size, 0, none⟩) (some ⟨gx, 0, none⟩) n n 1 1 rfl rfl w.heap.size 0 (ones n 0) 3 (heap_alloc_new w _) [.int .i64 1] ?c1 ?c2 ?c3 ?c4 w.heap.size w ?c5 (Nat.le_refl _) ?_)
  case c1 => show 1 = min 1 n; omega
  case c2 =>
    intro j v hv
    rcases j with _ | j
    · simp at hv; subst hv; exact HS.out _
    · simp at hv
  case c3 => rw [ones_length (by omega)]; simp; omega
  case c4 => intro v hv; simp at hv; subst hv; rfl
  case c5 => exact (Below.refl _ _).alloc (Nat.le_refl _) _
  intro w1 hw1 hb1
  have e1 : splice (ones n 0) 0 [Value.int .i64 1] = ones n (0 + 1) := ones_splice (n := n) (c := 0) (m := 1) (by omega)
  rw [e1] at hw1
  have H1 := Lib.hid (And.intro (show w1.heap[w.heap.size]? = some (.cells (ones n 1).toArray 3 (0, 0)) from hw1) hb1)
  clear hw1 hb1 e1 HS
  go_wp2_with fail
  go_loopg [8] (n - 1) (fun gh v wr => ∃ c : Nat, gh = n - c ∧ 1 ≤ c ∧ c ≤ n ∧ v = .int .i64 c ∧ (wr.heap[w.heap.size]? = some (.cells (ones n c).toArray 3 (0, 0)) ∧ Below w.heap.size w wr))
  case atStart => exact ⟨1, by omega, by omega, h1, rfl, H1.out⟩
  case round =>
    obtain ⟨c, hgh, hc1, hcn, rfl, hR⟩ := hrel
    have Hgh := Lib.hid hgh; clear hgh
    have HR := Lib.hid hR; clear hR H1
    by_cases hlt : c < n
    · obtain ⟨m, hm⟩ : ∃ m, m = min c (n - c) := ⟨_, rfl⟩
      have hm1 : 1 ≤ m ∧ c + m ≤ n ∧ m ≤ c := by omega
      obtain ⟨hm1, hm2, hm3⟩ := hm1
      have s1 : (List.replicate m (Value.int .i64 1)).length = Nat.min c (n - c) := by rw [List.length_replicate, hm]
      have s2 : ∀ j v, (List.replicate m (Value.int .i64 1))[j]? = some v → wr.cell? (Addr.add ⟨w.heap.size, 0, none⟩ j) = some v := by
        intro j v hv
        rw [List.getElem?_replicate] at hv
        split at hv
        · injection hv with hv
          subst hv
          rw [add_zero', cell_of_block HR.out.1 j]
          simpa using ones_at (n := n) (c := c) (i := j) (by omega)
        · cases hv
      have s3 : c + (List.replicate m (Value.int .i64 1)).length ≤ (ones n c).length := by rw [ones_length hcn, List.length_replicate]; exact hm2
      have s4 : ∀ v ∈ List.replicate m (Value.int .i64 1), v.oneCell' = true := by intro v hv; rw [List.eq_of_mem_replicate hv]; rfl
      have S := Lib.hid (And.intro s1 (And.intro s2 (And.intro s3 (And.intro s4 hm))))
      clear s1 s2 s3 s4 hm
      go_wp2_with fail
      go_region_law (refine step_copy_splice rfl (.tmp 41) (.tmp 44) 48 48 rfl 3 Try.underlying48 size3 (some ⟨w.heap.size, c, none⟩) (some ⟨w.heap.size, 0, none⟩) (n - c) (n - c) c n (by simp [Act.eval, Act.put]; omega) (by simp [Act.eval, Act.put]) w.heap.size c (ones n c) 3 HR.out.1 (List.replicate m (Value.int .i64 1)) S.out.1 (fun _ => ⟨rfl, _, rfl, S.out.2.1⟩) S.out.2.2.1 S.out.2.2.2.1 w.heap.size w HR.out.2.drew (Nat.le_refl _) ?_; intro w2 hw2 hb2)
      all_goals
        have e2 := ones_splice (n := n) (c := c) (m := m) hm2
        rw [e2] at hw2
        have H2 := Lib.hid (And.intro (show w2.heap[w.heap.size]? = some (.cells (ones n (c + m)).toArray 3 (0, 0)) from hw2) hb2)
        clear hw2 hb2 e2
        go_wp2_with fail
        go_roundg (n - (c + m))
        case measure => have := Hgh.out; omega
        case rel => exact ⟨c + m, rfl, by omega, hm2, congrArg (Value.int .i64) ((Go.IntWalk.i64_in _ (by omega)).trans (by simp)), H2.out⟩
    · obtain rfl : c = n := by omega
      go_wp2_with fail
      go_ret
      exact ⟨rfl, HR.out⟩

/-- A model at block bm, its frequencies in block g: fr; the total is their sum. -/
structure MOk (w : World) (bm g : Nat) (fr : List Nat) : Prop where
  blk : w.heap[bm]? = some (.cells #[.slice (some ⟨g, 0, none⟩) fr.length fr.length, .int .i64 (fr.sum : Nat)] 84 (0, 0))
  row : w.heap[g]? = some (.cells (fr.map fun x => Value.int .i64 ((x : Nat) : Int)).toArray 3 (0, 0))
  pos : 0 < fr.length
  few : fr.length ≤ 256
  one : ∀ x, x ∈ fr → 1 ≤ x
  tot : fr.sum ≤ 8192
section
variable {w w' : World} {bm g : Nat} {fr : List Nat}
theorem MOk.same (h : MOk w bm g fr) (h1 : w'.heap[bm]? = w.heap[bm]?) (h2 : w'.heap[g]? = w.heap[g]?) : MOk w' bm g fr := ⟨h1.trans h.blk, h2.trans h.row, h.pos, h.few, h.one, h.tot⟩
theorem MOk.below (h : MOk w bm g fr) (hb : Below w.heap.size w w') : MOk w' bm g fr := h.same (hb.block _ (lt_of_block h.blk)) (hb.block _ (lt_of_block h.row))
theorem MOk.keep {F G : List Nat} (h : MOk w bm g fr) (fr' : Fr F w G w') (h1 : bm ∉ F) (h2 : g ∉ F) : MOk w' bm g fr := h.same (fr'.block _ (lt_of_block h.blk) h1) (fr'.block _ (lt_of_block h.row) h2)
theorem MOk.ne (h : MOk w bm g fr) : bm ≠ g := by
  rintro rfl
  have h1 := h.blk
  rw [h.row] at h1
  injection h1 with h1
  injection h1 with _ h2
  exact absurd h2 (by decide)
theorem MOk.at_ (h : MOk w bm g fr) {i : Nat} (hi : i < fr.length) : w.cell? ⟨g, i, none⟩ = some (.int .i64 ((fr.getD i 0 : Nat) : Int)) := by
  rw [cell_of_block h.row i]; simp [List.getD_eq_getElem?_getD, hi]
theorem MOk.c0 (h : MOk w bm g fr) : w.cell? ⟨bm, 0, none⟩ = some (.slice (some ⟨g, 0, none⟩) fr.length fr.length) := (cell_of_block h.blk 0).trans rfl
theorem MOk.c1 (h : MOk w bm g fr) : w.cell? ⟨bm, 1, none⟩ = some (.int .i64 (fr.sum : Nat)) := (cell_of_block h.blk 1).trans rfl
end

theorem sum_replicate (n : Nat) : (List.replicate n 1).sum = n := by induction n with
  | zero => rfl
  | succ n ih => rw [List.replicate_succ, List.sum_cons, ih]; omega
theorem NewModel_ok (n : Nat) (w : World) (h1 : 1 ≤ n) (hn : n ≤ 256) :
    Calls Try.prog 12 #[.int .i64 (n : Int)] w fun e w' => ∃ bm g, e = .returned (.tuple #[.pointer (some ⟨bm, 0, none⟩), .int .i64 0]) ∧ MOk w' bm g (List.replicate n 1) ∧ w.heap.size ≤ bm ∧ w.heap.size ≤ g ∧ Below w.heap.size w w' := by
  go_enter Try.func12, Try.ntmps12
  go_wp2_with fail
  refine (Repeat_ok w.heap.size n _ ((cell_of_block (heap_alloc_new w _) 0).trans rfl) h1 (by omega)).mono ?_
  rintro e w1 ⟨rfl, hr, hb⟩
  obtain ⟨g, hg⟩ : ∃ g, g = (w.alloc (.cells #[.int .i64 1] 3)).heap.size := ⟨_, rfl⟩
  rw [← hg] at hr
  have hgl : w.heap.size ≤ g := by rw [hg]; simp
  have H := Lib.hid (And.intro hr (And.intro (((Below.refl _ _).alloc (Nat.le_refl _) _).trans (hb.mono (by simp)) : Below w.heap.size w w1) (And.intro hg hgl)))
  clear hr hb hg hgl
  go_wp2_with fail
  go_ret2
  have e1 : ones n n = (List.replicate n 1).map fun x => Value.int .i64 ((x : Nat) : Int) := by unfold ones; simp
  refine ⟨w1.heap.size, g, ?_, ⟨?_, ?_, by simp; omega, by simpa using hn, fun x hx => by rw [List.eq_of_mem_replicate hx]; exact Nat.le_refl _, by rw [sum_replicate]; omega⟩, H.out.2.1.size, H.out.2.2.2, H.out.2.1.alloc H.out.2.1.size _⟩
  · rfl
  · rw [List.length_replicate, sum_replicate, H.out.2.2.1]
    have := heap_alloc_new w1 (.cells #[.slice (some ⟨w.heap.size + 1, 0, none⟩) n n, .int .i64 (n : Int)] 84)
    simpa using this
  · rw [← e1]; exact (Below.heap_alloc _ _ _ (lt_of_block H.out.1)).trans H.out.1

theorem there_ok {bm g : Nat} {fr : List Nat} (w : World) (h : MOk w bm g fr) :
    Calls Try.prog 41 #[.pointer (some ⟨bm, 0, none⟩)] w fun e w' => e = .returned (.bool true) ∧ w = w' := by
  have c0 := h.c0
  have hp := h.pos
  have hf := h.few
  have hd : decide ((0 : Int) < (fr.length : Int)) = true := decide_eq_true (by omega)
  clear h
  go_enter Try.func41, Try.ntmps41
  go_wp2_with fail
  go_ret
  exact ⟨rfl, rfl⟩
theorem has_ok {bm g : Nat} {fr : List Nat} (s : Int) (b : Bool) (w : World) (h : MOk w bm g fr) (hb : (b = true ∧ 0 ≤ s ∧ s < fr.length) ∨ (b = false ∧ (s < 0 ∨ (fr.length : Int) ≤ s))) :
    Calls Try.prog 40 #[.pointer (some ⟨bm, 0, none⟩), .int .i64 s] w fun e w' => e = .returned (.bool b) ∧ w = w' := by
  have c0 := h.c0
  have hf := h.few
  have H := Lib.hid h
  clear h
  rcases hb with ⟨rfl, h0, h1⟩ | ⟨rfl, h0 | h0⟩
  · go_enter Try.func40, Try.ntmps40
    go_wp2_with fail
    refine (there_ok _ H.out).mono ?_
    rintro e w' ⟨rfl, rfl⟩
    go_wp2_with fail
    go_ret
    exact ⟨rfl, rfl⟩
  · go_enter Try.func40, Try.ntmps40
    go_wp2_with fail
    refine (there_ok _ H.out).mono ?_
    rintro e w' ⟨rfl, rfl⟩
    go_wp2_with fail
    go_ret
    exact ⟨rfl, rfl⟩
  · have hs : 0 ≤ s := by omega
    have hd : decide (s < (fr.length : Int)) = false := decide_eq_false (by omega)
    go_enter Try.func40, Try.ntmps40
    go_wp2_with fail
    refine (there_ok _ H.out).mono ?_
    rintro e w' ⟨rfl, rfl⟩
    go_wp2_with fail
    go_ret
    first | exact ⟨rfl, rfl⟩ | exact ⟨ret_congr (congrArg Value.bool hd), rfl⟩
theorem Total_ok {bm g : Nat} {fr : List Nat} (w : World) (h : MOk w bm g fr) :
    Calls Try.prog 14 #[.pointer (some ⟨bm, 0, none⟩)] w fun e w' => e = .returned (.int .i64 (fr.sum : Nat)) ∧ w = w' := by
  have c1 := h.c1
  have H := Lib.hid h
  clear h
  go_enter Try.func14, Try.ntmps14
  go_wp2_with fail
  refine (there_ok _ H.out).mono ?_
  rintro e w' ⟨rfl, rfl⟩
  go_wp2_with fail
  go_ret
  exact ⟨rfl, rfl⟩
theorem Freq_ok {bm g : Nat} {fr : List Nat} (s : Int) (w : World) (h : MOk w bm g fr) :
    Calls Try.prog 13 #[.pointer (some ⟨bm, 0, none⟩), .int .i64 s] w fun e w' => e = .returned (.int .i64 ((if 0 ≤ s then fr.getD s.toNat 0 else 0 : Nat) : Int)) ∧ w = w' := by
  by_cases hs : 0 ≤ s ∧ s < fr.length
  · obtain ⟨S, rfl⟩ := Int.eq_ofNat_of_zero_le hs.1
    have c0 := h.c0
    have c1 := h.at_ (i := S) (by omega)
    have hf := h.few
    rw [if_pos (by omega), Int.toNat_natCast]
    generalize fr.getD S 0 = x at *
    have hh := has_ok (S : Int) true w h (Or.inl ⟨rfl, hs.1, hs.2⟩)
    have H := Lib.hid hh
    obtain ⟨h0, h1⟩ := hs
    clear h hh
    go_enter Try.func13, Try.ntmps13
    go_wp2_with fail
    refine H.out.mono ?_
    rintro e w' ⟨rfl, rfl⟩
    go_wp2_with fail
    go_ret
    exact ⟨rfl, rfl⟩
  · have e0 : (if 0 ≤ s then fr.getD s.toNat 0 else 0 : Nat) = 0 := by
      split
      · rw [List.getD_eq_getElem?_getD, List.getElem?_eq_none (by omega)]; rfl
      · rfl
    rw [e0]
    have hh := has_ok s false w h (Or.inr ⟨rfl, by omega⟩)
    have H := Lib.hid hh
    clear h hh e0
    go_enter Try.func13, Try.ntmps13
    go_wp2_with fail
    refine H.out.mono ?_
    rintro e w' ⟨rfl, rfl⟩
    go_wp2_with fail
    go_ret
    exact ⟨rfl, rfl⟩

theorem sum_take_le (l : List Nat) (k : Nat) : (l.take k).sum ≤ l.sum := by
  have := congrArg List.sum (List.take_append_drop k l)
  rw [List.sum_append] at this
  omega
theorem sum_take_succ (l : List Nat) (k : Nat) (h : k < l.length) : (l.take (k + 1)).sum = (l.take k).sum + l.getD k 0 := by
  rw [List.take_succ_eq_append_getElem h, List.sum_append]
  simp [List.getD_eq_getElem?_getD, h]
theorem below_ok {bm g : Nat} {fr : List Nat} (s : Nat) (w : World) (h : MOk w bm g fr) (hs : s ≤ fr.length) :
    Calls Try.prog 64 #[.pointer (some ⟨bm, 0, none⟩), .int .i64 (s : Int)] w fun e w' => e = .returned (.int .u64 ((fr.take s).sum : Nat)) ∧ w = w' := by
  have c0 := h.c0
  have hf := h.few
  have H := Lib.hid h
  have ht := h.tot
  clear h
  go_enter Try.func64, Try.ntmps64
  go_wp2_with fail
  go_loopg [5, 15] s (fun gh v i wr => ∃ j X : Nat, gh = s - j ∧ j ≤ s ∧ i = .int .i64 j ∧ v = .int .i64 (X : Int) ∧ (X = (fr.take j).sum ∧ wr = w))
  case atStart => exact ⟨0, 0, rfl, by omega, rfl, rfl, by simp, rfl⟩
  case round =>
    obtain ⟨j, X, hgh, hj, rfl, rfl, hX, rfl⟩ := hrel
    have Hgh := Lib.hid hgh; clear hgh
    have hXb : X ≤ 8192 := by rw [hX]; exact Nat.le_trans (sum_take_le _ _) ht
    have HX := Lib.hid hX; clear hX
    by_cases hlt : j < s
    · have c1 := H.out.at_ (i := j) (by omega)
      have hss := sum_take_succ fr j (by omega)
      have hb2 := sum_take_le fr (j + 1)
      rw [hss, ← HX.out] at hb2
      have i0 : (0 : Int) ≤ (j : Int) := by omega
      have i1 : (j : Int) < (s : Int) := by omega
      obtain ⟨x, hx⟩ : ∃ x, x = fr.getD j 0 := ⟨_, rfl⟩
      rw [← hx] at c1 hb2 hss
      have HS := Lib.hid hss; clear hss hx
      have hxb : x ≤ 8192 := by omega
      go_wp2_with fail
      go_roundg (s - (j + 1))
      case measure => have := Hgh.out; omega
      case rel => exact ⟨j + 1, X + x, rfl, by omega, by go_num, by go_num, by rw [HS.out, ← HX.out], rfl⟩
    · obtain rfl : j = s := by omega
      go_wp2_with fail
      go_ret
      exact ⟨ret_congr (congrArg (fun q : Nat => Value.int .u64 (q : Int)) HX.out), rfl⟩
end Go.Proofs.Ytdekcilfkelhlaa
