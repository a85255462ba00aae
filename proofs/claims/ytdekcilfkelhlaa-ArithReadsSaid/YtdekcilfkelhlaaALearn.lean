/- learn. -/
import Derived.Test.YtdekcilfkelhlaaAModel
set_option linter.unusedVariables false
namespace Go.Proofs.Ytdekcilfkelhlaa
open Go.RowKit

/-- The memory of a model. -/
structure MAt (w : World) (bm g : Nat) (fr : List Nat) (tot : Nat) : Prop where
  blk : w.heap[bm]? = some (.cells #[.slice (some ⟨g, 0, none⟩) fr.length fr.length, .int .i64 (tot : Nat)] 84 (0, 0))
  row : w.heap[g]? = some (.cells (fr.map fun x => Value.int .i64 ((x : Nat) : Int)).toArray 3 (0, 0))
section
variable {w w' : World} {bm g tot : Nat} {fr : List Nat}
theorem MOk.mat (h : MOk w bm g fr) : MAt w bm g fr fr.sum := ⟨h.blk, h.row⟩
theorem MAt.same (h : MAt w bm g fr tot) (h1 : w'.heap[bm]? = w.heap[bm]?) (h2 : w'.heap[g]? = w.heap[g]?) : MAt w' bm g fr tot := ⟨h1.trans h.blk, h2.trans h.row⟩
theorem MAt.drew (h : MAt w bm g fr tot) : MAt w.drew bm g fr tot := h.same rfl rfl
theorem MAt.ne (h : MAt w bm g fr tot) : bm ≠ g := by
  rintro rfl
  have h1 := h.blk
  rw [h.row] at h1
  injection h1 with h1
  injection h1 with _ h2
  exact absurd h2 (by decide)
theorem MAt.at_ (h : MAt w bm g fr tot) {i : Nat} (hi : i < fr.length) : w.cell? ⟨g, i, none⟩ = some (.int .i64 ((fr.getD i 0 : Nat) : Int)) := by
  rw [cell_of_block h.row i]; simp [List.getD_eq_getElem?_getD, hi]
theorem MAt.c0 (h : MAt w bm g fr tot) : w.cell? ⟨bm, 0, none⟩ = some (.slice (some ⟨g, 0, none⟩) fr.length fr.length) := (cell_of_block h.blk 0).trans rfl
theorem MAt.c1 (h : MAt w bm g fr tot) : w.cell? ⟨bm, 1, none⟩ = some (.int .i64 (tot : Nat)) := (cell_of_block h.blk 1).trans rfl
theorem MAt.f1 (h : MAt w bm g fr tot) : w.frozen? ⟨bm, 1, none⟩ = false := free_of_block h.blk 1
theorem MAt.fg (h : MAt w bm g fr tot) (i : Nat) : w.frozen? ⟨g, i, none⟩ = false := free_of_block h.row i
theorem MAt.set_row (h : MAt w bm g fr tot) (i x : Nat) : MAt (w.setCell ⟨g, i, none⟩ (.int .i64 (x : Nat))) bm g (fr.set i x) tot := by
  refine ⟨(Below.heap_setCell w ⟨g, i, none⟩ _ bm h.ne).trans ?_, ?_⟩
  · rw [List.length_set]; exact h.blk
  · have := block_setCell h.row i (.int .i64 (x : Nat))
    rw [this, List.map_set]
    simp
theorem MAt.set_tot (h : MAt w bm g fr tot) (x : Nat) : MAt (w.setCell ⟨bm, 1, none⟩ (.int .i64 (x : Nat))) bm g fr x := by
  refine ⟨?_, (Below.heap_setCell w ⟨bm, 1, none⟩ _ g h.ne.symm).trans h.row⟩
  simpa using block_setCell h.blk 1 (.int .i64 (x : Nat))
end
theorem fr2_set {w w' : World} {bm g : Nat} (h : Fr [bm, g] w [bm, g] w') (p : Addr) (u : Value) (hp : p.block = bm ∨ p.block = g) : Fr [bm, g] w [bm, g] (w'.setCell p u) := by
  have k : Fr [bm, g] w' [bm, g] (w'.setCell p u) := ⟨rfl, rfl, rfl, by simp [World.setCell], fun q _ hn => Below.heap_setCell _ _ _ _ (fun e => hn (by rw [← e] at hp; rcases hp with hp | hp <;> simp [hp])), fun _ h => Or.inl h⟩
  exact h.trans k

def half1 (f : Nat) : Nat := (f + 1) / 2
/-- The frequencies behind a symbol. -/
def learn (fr : List Nat) (s : Nat) : List Nat :=
  if fr.sum + 32 ≤ 8192 then fr.set s (fr.getD s 0 + 32) else (fr.set s (fr.getD s 0 + 32)).map half1
theorem sum_set (l : List Nat) (s x : Nat) (h : s < l.length) : (l.set s (l.getD s 0 + x)).sum = l.sum + x := by
  induction l generalizing s with
  | nil => simp at h
  | cons a l ih =>
    cases s with
    | zero => simp; omega
    | succ s =>
      have := ih s (by simpa using h)
      simp only [List.set_cons_succ, List.sum_cons, List.getD_cons_succ]
      rw [this]; omega
theorem sum_half (l : List Nat) : 2 * (l.map half1).sum ≤ l.sum + l.length := by
  induction l with
  | nil => simp
  | cons a l ih => simp only [List.map_cons, List.sum_cons, List.length_cons]; unfold half1 at *; omega
theorem learn_length (fr : List Nat) (s : Nat) : (learn fr s).length = fr.length := by unfold learn; split <;> simp
theorem mem_set {l : List Nat} {s y x : Nat} (h : x ∈ l.set s y) : x = y ∨ x ∈ l := by
  rcases List.mem_or_eq_of_mem_set h with h | h
  · exact Or.inr h
  · exact Or.inl h
theorem learn_good {fr : List Nat} {s : Nat} (h0 : s < fr.length) (h1 : fr.length ≤ 256) (h2 : ∀ x, x ∈ fr → 1 ≤ x) (h3 : fr.sum ≤ 8192) : (∀ x, x ∈ learn fr s → 1 ≤ x) ∧ (learn fr s).sum ≤ 8192 := by
  have hs := sum_set fr s 32 h0
  unfold learn
  split
  · refine ⟨fun x hx => ?_, by omega⟩
    rcases mem_set hx with rfl | hx
    · omega
    · exact h2 x hx
  · have := sum_half (fr.set s (fr.getD s 0 + 32))
    rw [List.length_set, hs] at this
    refine ⟨fun x hx => ?_, by omega⟩
    obtain ⟨y, hy, rfl⟩ := List.mem_map.1 hx
    have : 1 ≤ y := by
      rcases mem_set hy with rfl | hx
      · omega
      · exact h2 y hx
    unfold half1; omega
/-- The row when i frequencies have been halved. -/
def halfUpto (l : List Nat) (i : Nat) : List Nat := (l.take i).map half1 ++ l.drop i
theorem halfUpto_length (l : List Nat) (i : Nat) : (halfUpto l i).length = l.length := by unfold halfUpto; simp; omega
theorem halfUpto_at (l : List Nat) (i : Nat) (h : i < l.length) : (halfUpto l i).getD i 0 = l.getD i 0 := by
  unfold halfUpto
  simp only [List.getD_eq_getElem?_getD]
  rw [List.getElem?_append_right (by simp; omega)]
  simp
  congr 2; omega
theorem halfUpto_set (l : List Nat) (i : Nat) (h : i < l.length) : (halfUpto l i).set i (half1 (l.getD i 0)) = halfUpto l (i + 1) := by
  unfold halfUpto
  rw [List.set_append_right _ _ (by simp; omega)]
  rw [List.take_succ_eq_append_getElem h, List.map_append, List.append_assoc]
  congr 1
  have e : i - (List.map half1 (List.take i l)).length = 0 := by rw [List.length_map, List.length_take]; omega
  rw [e, List.drop_eq_getElem_cons h, List.set_cons_zero, List.map_singleton, List.singleton_append, List.getD_eq_getElem?_getD, List.getElem?_eq_getElem h, Option.getD_some]
theorem halfUpto_all (l : List Nat) : halfUpto l l.length = l.map half1 := by unfold halfUpto; simp

set_option maxRecDepth 100000 in
set_option maxHeartbeats 1000000 in
theorem learn_ok {bm g : Nat} {fr : List Nat} (s : Nat) (w : World) (h : MOk w bm g fr) (hs : s < fr.length) :
    Calls Try.prog 67 #[.pointer (some ⟨bm, 0, none⟩), .int .i64 (s : Int)] w fun e w' => e = .returned (.tuple #[]) ∧ MOk w' bm g (learn fr s) ∧ Fr [bm, g] w [bm, g] w' := by
  obtain ⟨hg1, hg2⟩ := learn_good hs h.few h.one h.tot
  have hss := sum_set fr s 32 hs
  have hp := h.pos
  have hf := h.few
  have ht := h.tot
  suffices Calls Try.prog 67 #[.pointer (some ⟨bm, 0, none⟩), .int .i64 (s : Int)] w fun e w' => e = .returned (.tuple #[]) ∧ MAt w' bm g (learn fr s) (learn fr s).sum ∧ Fr [bm, g] w [bm, g] w' by
    refine this.mono ?_
    rintro e w' ⟨rfl, h1, h2⟩
    exact ⟨rfl, ⟨h1.blk, h1.row, by rw [learn_length]; exact hp, by rw [learn_length]; exact hf, hg1, hg2⟩, h2⟩
  clear hg1 hg2
  have hl : ∀ x : Nat, (fr.set s x).length = fr.length := fun x => List.length_set
  have hm := h.mat
  have c0 := hm.c0
  have cs := hm.at_ hs
  have fs := hm.fg s
  have hx := h.tot
  have hxx : fr.getD s 0 ≤ 8192 := by
    have := sum_take_le fr (s + 1)
    rw [sum_take_succ fr s hs] at this
    omega
  have hlr : learn fr s = if fr.sum + 32 ≤ 8192 then fr.set s (fr.getD s 0 + 32) else (fr.set s (fr.getD s 0 + 32)).map half1 := rfl
  obtain ⟨x, ex⟩ : ∃ x, x = fr.getD s 0 := ⟨_, rfl⟩
  obtain ⟨t, et⟩ : ∃ t, t = fr.sum := ⟨_, rfl⟩
  obtain ⟨n, en⟩ : ∃ n, n = fr.length := ⟨_, rfl⟩
  obtain ⟨gr, eg⟩ : ∃ gr, gr = fr.set s (x + 32) := ⟨_, rfl⟩
  obtain ⟨lr, el⟩ : ∃ lr, lr = learn fr s := ⟨_, rfl⟩
  rw [← el] at hlr ⊢
  rw [← ex] at cs hlr hss hxx
  rw [← eg] at hlr hss
  have hgl : gr.length = n := by rw [eg, hl, en]
  rw [← et] at hss hm hlr hx ht
  rw [← en] at c0 hs hp hf
  have H := Lib.hid (And.intro hm (And.intro hlr (And.intro hss (And.intro eg hgl))))
  clear hm hlr hss eg hgl el hl h ex et en
  go_enter Try.func67, Try.ntmps67
  go_upto_region 0 with fail
  go_cut [] (fun wx => MAt wx bm g gr t ∧ Fr [bm, g] w [bm, g] wx)
  case first =>
    go_wp2_with fail
    go_meet
    refine ⟨?_, fr2_set (Fr.refl _ _) _ _ (Or.inr rfl)⟩
    rw [H.out.2.2.2.1]
    exact H.out.1.set_row s (x + 32)
  case rest =>
    have c1 := hcut.1.c1
    have f1 := hcut.1.f1
    have HC := Lib.hid hcut; clear hcut cs fs c0
    go_upto_region 1 with fail
    go_cut [] (fun wx => MAt wx bm g gr (t + 32) ∧ Fr [bm, g] w [bm, g] wx)
    case first =>
      go_wp2_with fail
      go_meet
      exact ⟨HC.out.1.set_tot (t + 32), fr2_set HC.out.2 _ _ (Or.inl rfl)⟩
    case rest =>
      have c1 := hcut.1.c1
      have f1 := hcut.1.f1
      have c0 := hcut.1.c0
      rw [H.out.2.2.2.2] at c0
      have HD := Lib.hid hcut; clear hcut HC
      by_cases hle : t + 32 ≤ 8192
      · go_wp2_with fail
        first | go_end0 | refine bodyPost_ret (results_none rfl _ _ _) rfl ?_
        refine ⟨rfl, ?_, HD.out.2⟩
        have e := H.out.2.1
        rw [if_pos hle] at e
        rw [e, H.out.2.2.1]
        exact HD.out.1
      · have he := H.out.2.1
        rw [if_neg hle] at he
        have HE := Lib.hid he; clear he
        go_upto_region 3 with fail
        go_cut [] (fun wx => MAt wx bm g gr 0 ∧ Fr [bm, g] w [bm, g] wx)
        case first =>
          go_wp2_with fail
          go_meet
          exact ⟨HD.out.1.set_tot 0, fr2_set HD.out.2 _ _ (Or.inl rfl)⟩
        case rest =>
          have c0 := hcut.1.c0
          rw [H.out.2.2.2.2] at c0
          have HF := Lib.hid hcut; clear hcut HD
          go_wp2_with fail
          go_loopg [35] n (fun gh i wr => ∃ j : Nat, gh = n - j ∧ j ≤ n ∧ i = .int .i64 j ∧ (MAt wr bm g (halfUpto gr j) ((gr.map half1).take j).sum ∧ Fr [bm, g] w [bm, g] wr))
          case atStart => exact ⟨0, rfl, by omega, rfl, by simpa [halfUpto] using HF.out.1, HF.out.2⟩
          case round =>
            obtain ⟨j, hgh, hj, rfl, hR⟩ := hrel
            have Hgh := Lib.hid hgh; clear hgh
            have HR := Lib.hid hR; clear hR HF
            by_cases hlt : j < n
            · have c0 := HR.out.1.c0
              have cj := HR.out.1.at_ (i := j) (by rw [halfUpto_length, H.out.2.2.2.2]; exact hlt)
              rw [halfUpto_length, H.out.2.2.2.2] at c0
              rw [halfUpto_at gr j (by rw [H.out.2.2.2.2]; exact hlt)] at cj
              have fj := HR.out.1.fg j
              have hy : gr.getD j 0 ≤ 8224 ∧ ((gr.map half1).take j).sum ≤ 8224 ∧ ((gr.map half1).take (j + 1)).sum = ((gr.map half1).take j).sum + half1 (gr.getD j 0) ∧ half1 (gr.getD j 0) ≤ 8224 := by
                have h1 := sum_take_le gr (j + 1)
                rw [sum_take_succ gr j (by rw [H.out.2.2.2.2]; exact hlt), H.out.2.2.1] at h1
                have h2 := sum_take_le (gr.map half1) j
                have h3 := sum_half gr
                rw [H.out.2.2.1, H.out.2.2.2.2] at h3
                have h4 := sum_take_succ (gr.map half1) j (by rw [List.length_map, H.out.2.2.2.2]; exact hlt)
                have h5 : (gr.map half1).getD j 0 = half1 (gr.getD j 0) := by
                  simp only [List.getD_eq_getElem?_getD, List.getElem?_map]
                  rw [List.getElem?_eq_getElem (by rw [H.out.2.2.2.2]; exact hlt)]; rfl
                rw [h5] at h4
                refine ⟨by omega, by omega, h4, ?_⟩
                unfold half1; omega
              obtain ⟨hy1, hy2, hy3, hy4⟩ := hy
              obtain ⟨y, ey⟩ : ∃ y, y = gr.getD j 0 := ⟨_, rfl⟩
              obtain ⟨z, ez⟩ : ∃ z, z = half1 y := ⟨_, rfl⟩
              obtain ⟨S, eS⟩ : ∃ S, S = ((gr.map half1).take j).sum := ⟨_, rfl⟩
              rw [← ey] at cj hy1 hy3 hy4
              rw [← ez] at hy3 hy4
              rw [← eS] at hy2 hy3
              have hz : ((y : Int) + 1) / 2 = (z : Int) := by rw [ez]; unfold half1; omega
              have hset : MAt (wr.setCell ⟨g, j, none⟩ (.int .i64 (z : Nat))) bm g (halfUpto gr (j + 1)) S := by
                have := HR.out.1.set_row j z
                rw [ez, ey, halfUpto_set gr j (by rw [H.out.2.2.2.2]; exact hlt), ← ey, ← ez, ← eS] at this
                exact this
              have HY := Lib.hid (And.intro hset (And.intro hy3 hz)); clear hset hy3 ez eS ey
              clear hz
              go_upto_region 7 with fail
              go_cut [35] (fun i wx => i = .int .i64 j ∧ MAt wx bm g (halfUpto gr (j + 1)) S ∧ wx.cell? ⟨g, j, none⟩ = some (.int .i64 (z : Nat)) ∧ Fr [bm, g] w [bm, g] wx)
              case first =>
                go_wp2_with fail
                go_meet
                rw [HY.out.2.2]
                refine ⟨rfl, HY.out.1, ?_, fr2_set HR.out.2 _ _ (Or.inr rfl)⟩
                rw [cell_of_block (block_setCell HR.out.1.row j _) j, set_get (x := Value.int .i64 (y : Int)) (by rw [← cell_of_block HR.out.1.row j]; exact cj)]
              case rest =>
                obtain ⟨rfl, hm1, cj, hfr⟩ := hcut
                have c0 := hm1.c0
                have c1 := hm1.c1
                have f1 := hm1.f1
                rw [halfUpto_length, H.out.2.2.2.2] at c0
                have HM := Lib.hid (And.intro hm1 hfr); clear hm1 hfr HR fj
                go_wp2_with fail
                go_region
                all_goals
                  have hend : MAt ((wc.setCell ⟨bm, 1, none⟩ (.int .i64 ((S : Int) + (z : Int)))).drew) bm g (halfUpto gr (j + 1)) (S + z) := (HM.out.1.set_tot (S + z)).drew
                  have HE2 := Lib.hid (And.intro hend (fr2_set HM.out.2 ⟨bm, 1, none⟩ (.int .i64 ((S : Int) + (z : Int))) (Or.inl rfl)))
                  clear hend
                  go_wp2_with fail
                  go_roundg (n - (j + 1))
                  case measure => have := Hgh.out; omega
                  case rel =>
                    refine ⟨j + 1, rfl, by omega, by go_num, ?_, HE2.out.2.drewN 1⟩
                    rw [HY.out.2.1]
                    exact HE2.out.1
            · obtain rfl : j = n := by omega
              go_wp2_with fail
              go_end0
              refine ⟨rfl, ?_, HR.out.2⟩
              have h1 := HR.out.1
              rw [HE.out]
              have e : j = gr.length := H.out.2.2.2.2.symm
              rw [e, halfUpto_all, List.take_of_length_le (by simp)] at h1
              exact h1
end Go.Proofs.Ytdekcilfkelhlaa
