/- vm: all, walked. vm: rng.New. vm: slices.Clone of components; own. vm: SameComps, SameEntity. vm: the law's entity. -/
import Derived.Test.YtocbddajakbemaaGreatMA
import Derived.Laws.Rows
import Derived.BigQuiet
import Derived.ChangeKeysEq
set_option linter.unusedVariables false
set_option linter.unusedSimpArgs false
set_option linter.unusedSimpArgs false
namespace Go.Proofs.YtocbddajakbemaaGreat
section
open Go.RowKit
theorem cell_alloc_below (w : World) (o : Obj) {b : Nat} (hb : b < w.heap.size) (i : Nat) : (w.alloc o).cell? ⟨b, i, none⟩ = w.cell? ⟨b, i, none⟩ := by
  unfold World.cell?
  rw [Below.heap_alloc w o b hb]
theorem small_wraps (i gk : Nat) (hi : i ≤ 4000) (hg : gk ≤ 1000000) : wrap64 ((i : Int) + 1) = ((i : Int) + 1) ∧ wrap64 ((gk : Int) + 1 - 1) = (gk : Nat) ∧ wrap64 (gk : Int) = (gk : Nat) := by
  refine ⟨?_, ?_, ?_⟩ <;> (unfold wrap64; omega)
set_option maxRecDepth 100000 in
theorem call_deed (op : Nat) (h1 : 1 ≤ op) (h2 : op ≤ 15) (args : Array Value) (w : World) : (callFunc (deedId op) args).run Tryz.prog w = .ok (.enter (deedId op) args) w := by
  match op with
  | 1 => rfl
  | 2 => rfl
  | 3 => rfl
  | 4 => rfl
  | 5 => rfl
  | 6 => rfl
  | 7 => rfl
  | 8 => rfl
  | 9 => rfl
  | 10 => rfl
  | 11 => rfl
  | 12 => rfl
  | 13 => rfl
  | 14 => rfl
  | 15 => rfl
  | 0 => omega
  | n + 16 => omega
theorem own_same {w w' : World} {B e s n : Nat} {v : Value} {xs : List Value} (h : w.ownsRow B e s v n xs) (ho : ∀ q, q < w.heap.size → w'.heap[q]? = w.heap[q]?) : w'.ownsRow B e s v n xs := by
  refine ⟨h.1, ?_⟩
  rcases h.2 with h | ⟨g, cap, cur, rfl, hB, hh, r⟩
  · exact Or.inl h
  · exact Or.inr ⟨g, cap, cur, rfl, hB, (ho g (lt_of_block hh)).trans hh, r⟩
theorem MOk.grew {w w' : World} {B rb : Nat} {S : Fix} {D : Dyn} {st ls : List Int} {cs : List Cmp} (h : MOk w B rb S D st ls cs) (ho : ∀ q, q < w.heap.size → w'.heap[q]? = w.heap[q]?) : MOk w' B rb S D st ls cs :=
  ⟨(ho rb (lt_of_block h.blk)).trans h.blk, own_same h.stk ho, own_same h.lcl ho, own_same h.cmp ho, h.sl, h.base⟩
theorem leave_ok (tmps : Array Value) (q : Nat) (v : Int) (w : World) (R : Ending → World → Prop) (h2 : tmps[2]? = some (.pointer (some ⟨q, 0, none⟩))) (hc : w.cell? ⟨q, 0, none⟩ = some (.int .i64 v)) (hR : R (.returned (.int .i64 v)) w) :
    Leaves Tryz.prog Tryz.f29 tmps R [{ target := .fn (.func 48) #[.pointer (some ⟨q, 0, none⟩)], args := #[] }] .returning w := by
  refine leaves_cons (f := 48) (args := #[.pointer (some ⟨q, 0, none⟩)]) (by simp) (by simp [go_sem]) ?_
  refine (catch_idle ⟨q, 0, none⟩ _).mono ?_
  rintro e u' w'' ⟨rfl, rfl, rfl⟩
  have h2' : tmps[2]?.getD undef = .pointer (some ⟨q, 0, none⟩) := by rw [h2]; rfl
  simp [Leaves, settle, results, Tryz.results29, go_sem, h2, hc, hR]
theorem leave_bad (tmps : Array Value) (q : Nat) (v : Int) (n : Nat) (w : World) (R : Ending → World → Prop) (h2 : tmps[2]? = some (.pointer (some ⟨q, 0, none⟩))) (hc : w.cell? ⟨q, 0, none⟩ = some (.int .i64 v)) (hz : w.frozen? ⟨q, 0, none⟩ = false)
    (hc2 : (w.setCell ⟨q, 0, none⟩ (.int .i64 (n : Nat))).cell? ⟨q, 0, none⟩ = some (.int .i64 (n : Nat))) (hR : R (.returned (.int .i64 (n : Nat))) (w.setCell ⟨q, 0, none⟩ (.int .i64 (n : Nat)))) :
    Leaves Tryz.prog Tryz.f29 tmps R [{ target := .fn (.func 48) #[.pointer (some ⟨q, 0, none⟩)], args := #[] }] (.panicking [{ v := .iface 35 (.int .i64 (n : Nat)), recovered := false }]) w := by
  refine leaves_cons (f := 48) (args := #[.pointer (some ⟨q, 0, none⟩)]) (by simp) (by simp [go_sem]) ?_
  refine (catch_panicking ⟨q, 0, none⟩ v n [] _ hc hz).mono ?_
  rintro e u' w'' ⟨rfl, rfl, rfl⟩
  simp [Leaves, settle, results, Tryz.results29, go_sem, h2, hc2, hR]
def AllRel (w : World) (B rb : Nat) (S : Fix) (D : Dyn) (code : List (Nat × Int)) (r : Except (Nat × Nat) (Nat × Mst)) (f : Nat) (wr : World) : Prop :=
  ∃ σ D', runF S code f σ = some r ∧ Keeps σ ∧ MOk wr B rb S D' σ.rs.reverse σ.ls σ.cs ∧ D'.fuel = (f : Nat) ∧ D'.at_ = σ.at_ ∧ D'.drawn = σ.drawn ∧ Fr (mF rb D) w (mF rb D') wr ∧ CodeAt wr B S.cA code ∧
    wr.heap[w.heap.size]? = some (.cells #[.int .i64 0] 35 (0, 0)) ∧ wr.heap[w.heap.size + 1]? = some (.map dE.toArray 15) ∧ w.heap.size ∉ mF rb D' ∧ w.heap.size + 1 ∉ mF rb D'
set_option maxRecDepth 100000 in
set_option maxHeartbeats 4000000 in
theorem all_ok (B rb : Nat) (S : Fix) (D : Dyn) (code : List (Nat × Int)) (σ : Mst) (w : World) (f : Nat) (r : Except (Nat × Nat) (Nat × Mst)) (h : MOk w B rb S D σ.rs.reverse σ.ls σ.cs) (hk : Keeps σ) (e0 : D.fuel = (f : Nat)) (e1 : D.at_ = σ.at_) (e2 : D.drawn = σ.drawn)
    (hf : f ≤ 1000000) (hc : CodeAt w B S.cA code) (hn : S.cn = code.length) (hcl : code.length ≤ 4000) (hr : runF S code f σ = some r) :
    Calls Tryz.prog 29 #[.pointer (some ⟨rb, 0, none⟩)] w (Ended w B rb S D r) := by
  have hmf : ∀ (fn : Fn) (first cap : Array Value) (w : World), (Instr.makeFunc fn first cap).run Tryz.prog w = .ok (.func fn first cap) w := fun _ _ _ _ => rfl
  have hlt := fun q hq => (h.mF_lt q hq).1
  have DS := deeds_ok (w.alloc (.cells #[.int .i64 0] 35 (0, 0)))
  obtain ⟨w1, ew1⟩ : ∃ w1, w1 = dW (w.alloc (.cells #[.int .i64 0] 35 (0, 0))) 15 := ⟨_, rfl⟩
  rw [← ew1] at DS
  have hsz : (w.alloc (.cells #[.int .i64 0] 35 (0, 0))).heap.size = w.heap.size + 1 := by simp
  rw [hsz] at DS
  have hbl : Below (w.heap.size + 1) (w.alloc (.cells #[.int .i64 0] 35 (0, 0))) w1 := by rw [ew1, ← hsz]; exact dW_below _ 15
  have hmap : w1.heap[w.heap.size + 1]? = some (.map dE.toArray 15) := by rw [ew1, ← hsz]; exact dW_block _ 15 (by decide)
  have hcell : w1.heap[w.heap.size]? = some (.cells #[.int .i64 0] 35 (0, 0)) := (hbl.block _ (by omega)).trans (heap_alloc_new w _)
  have hF : Fr (mF rb D) w (mF rb D) w1 := ((Fr.refl _ w).alloc _).trans (Fr.of_below (hbl.mono (by omega)) _)
  have ho : ∀ q, q < w.heap.size → w1.heap[q]? = w.heap[q]? := fun q hq => (hbl.block q (by omega)).trans (Below.heap_alloc w _ q hq)
  have h1 := h.grew ho
  have hB : B ≤ w.heap.size := Nat.le_of_lt (Nat.lt_of_le_of_lt h.base (lt_of_block h.blk))
  have hc1 : CodeAt w1 B S.cA code := hc.below ⟨hF.os, hF.tape, hF.output, hF.size, fun k hk => ho k (by omega)⟩
  have rel0 : AllRel w B rb S D code r f w1 := ⟨σ, D, hr, hk, h1, e0, e1, e2, hF, hc1, hcell, hmap, fun hq => absurd (hlt _ hq) (by omega), fun hq => absurd (hlt _ hq) (by omega)⟩
  have HH := Lib.hid (And.intro hB (And.intro hf (And.intro hn (And.intro hcl rel0)))); clear h hk e0 e1 e2 hf hc hn hcl hr hlt hsz hbl hmap hcell hF ho h1 hB hc1 rel0 ew1
  go_enter_defers Tryz.func29, Tryz.ntmps29
  go_wp2_with fail
  refine DS.mono ?_
  rintro e wd ⟨rfl, rfl⟩
  go_wp2_with fail
  go_loopg [] f (fun gh wr => gh ≤ f ∧ AllRel w B rb S D code r gh wr)
  case atStart => exact ⟨Nat.le_refl _, HH.out.2.2.2.2⟩
  case round =>
  obtain ⟨hgf, σ, D', hr, hk, hm, e0, e1, e2, hF, hcode, hcell, hmap, hq0, hq1⟩ := hrel
  obtain ⟨hB, hf, hn, hcl, -⟩ := HH.out
  clear HH DS
  have c10 : wr.cell? ⟨rb, 10, none⟩ = some (.int .i64 σ.at_) := (hm.cells.1 10).trans (by rw [← e1]; rfl)
  have c0 : wr.cell? ⟨rb, 0, none⟩ = some (.slice S.cA S.cn S.cc) := (hm.cells.1 0).trans rfl
  have c9 : wr.cell? ⟨rb, 9, none⟩ = some (.int .i64 (gk : Nat)) := (hm.cells.1 9).trans (by rw [← e0]; rfl)
  have f9 := hm.cells.2 9
  have f10 := hm.cells.2 10
  obtain ⟨n, en⟩ : ∃ n, n = S.cn := ⟨_, rfl⟩
  rw [← en] at c0 hn
  rw [runF.eq_def] at hr
  simp only at hr
  by_cases h0 : σ.at_ < 0
  · rw [if_pos h0] at hr; cases hr
  rw [if_neg h0] at hr
  by_cases hend : (code.length : Int) ≤ σ.at_
  · rw [if_pos hend] at hr
    as_aux_lemma =>
      injection hr with hr; subst hr
      have t0 : decide (σ.at_ < (n : Int)) = false := decide_eq_false (by omega)
      have cq := (cell_of_block hcell 0).trans rfl
      have fq := free_of_block hcell 0
      have H := Lib.hid (And.intro hB (And.intro hm (And.intro e0 (And.intro hF (And.intro hcell (And.intro hq0 hq1)))))); clear hB hm e0 hF hcell hq0 hq1 hk e1 e2 hgf hcode hmap hf hn hcl h0 hend en
      go_wp2_with fail
      go_quiet (fail)
      go_wp2_with fail
      have ho : Only w.heap.size wr ((wr.drewN nq).setCell ⟨w.heap.size, 0, none⟩ (.int .i64 0)) := ((Only.refl w.heap.size wr).drewN nq).setCell (p := ⟨w.heap.size, 0, none⟩) rfl _
      refine leave_ok _ w.heap.size 0 _ _ rfl ?_ ⟨rfl, D', H.out.2.1.other H.out.2.2.2.2.2.1 ho, H.out.2.2.1, H.out.2.2.2.1.set_new (Nat.le_refl _) ho⟩
      exact (cell_of_block (block_setCell (w := wr.drewN nq) H.out.2.2.2.2.1 0 _) 0).trans rfl
  rw [if_neg hend] at hr
  have t0 : decide (σ.at_ < (n : Int)) = true := decide_eq_true (by omega)
  rcases gk with _ | gk
  · simp only at hr
    injection hr with hr; subst hr
    as_aux_lemma =>
      have t1 : ((0 : Int) == 0) = true := rfl
      have SB := fun W => stop_bad 145 (by decide) W
      have H := Lib.hid (And.intro hB (And.intro hm (And.intro e0 (And.intro hF (And.intro hcell (And.intro hq0 hq1)))))); clear hB hm e0 hF hcell hq0 hq1 hk e1 e2 hgf hcode hmap hf hn hcl h0 hend en
      go_wp2_with fail
      go_quiet (fail)
      go_wp2_with fail
      refine (SB _).mono ?_
      rintro e w2 ⟨rfl, rfl⟩
      unfold bad
      go_wp2_with fail
      have ho : Only w.heap.size wr ((wr.drewN nq).setCell ⟨w.heap.size, 0, none⟩ (.int .i64 145)) := ((Only.refl w.heap.size wr).drewN nq).setCell (p := ⟨w.heap.size, 0, none⟩) rfl _
      refine leave_bad _ w.heap.size 0 145 (wr.drewN nq) _ rfl ?_ ?_ ?_ ⟨rfl, D', _, _, _, H.out.2.1.other H.out.2.2.2.2.2.1 ho, H.out.2.2.1, H.out.2.2.2.1.set_new (Nat.le_refl _) ho⟩
      · exact (cell_of_block (w := wr.drewN nq) H.out.2.2.2.2.1 0).trans rfl
      · exact free_of_block (w := wr.drewN nq) H.out.2.2.2.2.1 0
      · exact (cell_of_block (block_setCell (w := wr.drewN nq) H.out.2.2.2.2.1 0 _) 0).trans rfl
  · rcases hx : code[σ.at_.toNat]? with _ | ⟨op, a⟩
    · rw [hx] at hr; cases hr
    rw [hx] at hr
    simp only at hr
    obtain ⟨i, ei⟩ : ∃ i, i = σ.at_.toNat := ⟨_, rfl⟩
    have ei2 : σ.at_ = (i : Nat) := by omega
    rw [← ei] at hx
    obtain ⟨cb, co, eA, hcb, hx1, hx2⟩ := hcode i _ hx
    rw [eA] at c0
    rw [ei2] at c10 t0
    have j0 : (0 : Int) ≤ (i : Int) := by omega
    have j1 : (i : Int) < (n : Int) := by omega
    have j4 : (((gk : Int) + 1) == 0) = false := decide_eq_false (by omega)
    have HJ := Lib.hid (small_wraps i gk (by omega) (by omega))
    rw [show (((gk + 1 : Nat)) : Int) = (gk : Int) + 1 from by omega] at c9
    simp only at hx1 hx2
    have HX := Lib.hid (And.intro hB (And.intro hf (And.intro hn (And.intro hcl (And.intro hgf (And.intro hr (And.intro hk (And.intro hm (And.intro e0 (And.intro e1 (And.intro e2 (And.intro hF (And.intro hcode (And.intro hcell (And.intro hmap (And.intro hq0 (And.intro hq1 (And.intro ei2 (And.intro eA hcb)))))))))))))))))))
    clear hB hf hn hcl hgf hr hk hm e0 e1 e2 hF hcode hcell hmap hq0 hq1 ei2 eA hcb h0 hend ei hx en
    go_wp2_with fail
    go_quiet (fail)
    go_wp2_with fail
    have hlr : rb < wr.heap.size := lt_of_block HX.out.2.2.2.2.2.2.2.1.blk
    have hlc : cb < wr.heap.size := Nat.lt_of_lt_of_le HX.out.2.2.2.2.2.2.2.2.2.2.2.2.2.2.2.2.2.2.2 (Nat.le_trans HX.out.2.2.2.2.2.2.2.1.base (Nat.le_of_lt hlr))
    have a0 : ((wr.drewN (nq + 1)).alloc (.cells #[.int .u8 0, .int .i64 0] 105 (0, 0))).cell? ⟨rb, 0, none⟩ = some (.slice (some ⟨cb, co, none⟩) n S.cc) := (cell_alloc_below _ _ hlr 0).trans c0
    have a10 : ((wr.drewN (nq + 1)).alloc (.cells #[.int .u8 0, .int .i64 0] 105 (0, 0))).cell? ⟨rb, 10, none⟩ = some (.int .i64 (i : Nat)) := (cell_alloc_below _ _ hlr 10).trans c10
    have ax1 : ((wr.drewN (nq + 1)).alloc (.cells #[.int .u8 0, .int .i64 0] 105 (0, 0))).cell? ⟨cb, co + i * 2, none⟩ = some (.int .u8 (op : Nat)) := (cell_alloc_below _ _ hlc _).trans hx1
    have ax2 : ((wr.drewN (nq + 1)).alloc (.cells #[.int .u8 0, .int .i64 0] 105 (0, 0))).cell? ⟨cb, co + i * 2 + 1, none⟩ = some (.int .i64 a) := (cell_alloc_below _ _ hlc _).trans hx2
    have hnb : ((wr.drewN (nq + 1)).alloc (.cells #[.int .u8 0, .int .i64 0] 105 (0, 0))).heap[wr.heap.size]? = some (.cells #[.int .u8 0, .int .i64 0] 105 (0, 0)) := heap_alloc_new (wr.drewN (nq + 1)) _
    have n0 : ((wr.drewN (nq + 1)).alloc (.cells #[.int .u8 0, .int .i64 0] 105 (0, 0))).cell? ⟨wr.heap.size, 0, none⟩ = some (.int .u8 0) := (cell_of_block hnb 0).trans rfl
    have n0f : ((wr.drewN (nq + 1)).alloc (.cells #[.int .u8 0, .int .i64 0] 105 (0, 0))).frozen? ⟨wr.heap.size, 0, none⟩ = false := free_of_block hnb 0
    have n1 : (((wr.drewN (nq + 1)).alloc (.cells #[.int .u8 0, .int .i64 0] 105 (0, 0))).setCell ⟨wr.heap.size, 0, none⟩ (.int .u8 (op : Nat))).cell? ⟨wr.heap.size, 1, none⟩ = some (.int .i64 0) := (cell_of_block (block_setCell hnb 0 _) 1).trans rfl
    have n1f : (((wr.drewN (nq + 1)).alloc (.cells #[.int .u8 0, .int .i64 0] 105 (0, 0))).setCell ⟨wr.heap.size, 0, none⟩ (.int .u8 (op : Nat))).frozen? ⟨wr.heap.size, 1, none⟩ = false := free_of_block (block_setCell hnb 0 _) 1
    go_region
    obtain ⟨w4, ew4⟩ : ∃ w4, w4 = (((wr.drewN (nq + 1)).alloc (.cells #[.int .u8 0, .int .i64 0] 105 (0, 0))).setCell ⟨wr.heap.size, 0, none⟩ (.int .u8 (op : Nat))).setCell ⟨wr.heap.size, 1, none⟩ (.int .i64 a) := ⟨_, rfl⟩
    rw [← ew4]
    obtain ⟨g, eg⟩ : ∃ g, g = wr.heap.size := ⟨_, rfl⟩
    rw [← eg] at ew4 hnb ⊢
    have oA : Only g ((wr.drewN (nq + 1)).alloc (.cells #[.int .u8 0, .int .i64 0] 105 (0, 0))) w4 := by
      rw [ew4]; exact ((Only.refl g _).setCell (p := ⟨g, 0, none⟩) rfl _).setCell (p := ⟨g, 1, none⟩) rfl _
    have hgb : w4.heap[g]? = some (.cells #[.int .u8 (op : Nat), .int .i64 a] 105 (0, 0)) := by
      rw [ew4]; exact (block_setCell (block_setCell hnb 0 _) 1 _).trans rfl
    clear ew4 hnb n0 n0f n1 n1f a0 a10 ax1 ax2 c0 c10 c9 hx1 hx2 f9 f10
    as_aux_lemma =>
    obtain ⟨hB, hf, hn, hcl, hgf, hr, hk, hm, e0, e1, e2, hF, hcode, hcell, hmap, hq0, hq1, ei2, eA, hcb⟩ := HX.out
    clear HX
    have hm4 : MOk w4 B rb S D' σ.rs.reverse σ.ls σ.cs := ((hm.drewN (nq + 1)).alloc _).other (q := g) (fun hq => absurd (hm.mF_lt g hq).1 (by omega)) oA
    obtain ⟨w5, ew5⟩ : ∃ w5, w5 = w4.setCell ⟨rb, 9, none⟩ (.int .i64 (wrap64 (gk : Int))) := ⟨_, rfl⟩
    obtain ⟨w6, ew6⟩ : ∃ w6, w6 = w5.setCell ⟨rb, 10, none⟩ (.int .i64 (wrap64 ((i : Int) + 1))) := ⟨_, rfl⟩
    have o5 : Only rb w4 w5 := by rw [ew5]; exact (Only.refl rb w4).setCell (p := ⟨rb, 9, none⟩) rfl _
    have o6 : Only rb w5 w6 := by rw [ew6]; exact (Only.refl rb w5).setCell (p := ⟨rb, 10, none⟩) rfl _
    have hm5 : MOk w5 B rb S { D' with fuel := (wrap64 (gk : Int)) } σ.rs.reverse σ.ls σ.cs := hm4.head o5 (by rw [ew5]; exact block_setCell hm4.blk 9 _) rfl rfl rfl
    have hm6 : MOk w6 B rb S { D' with fuel := (wrap64 (gk : Int)), at_ := (wrap64 ((i : Int) + 1)) } σ.rs.reverse σ.ls σ.cs := hm5.head o6 (by rw [ew6]; exact block_setCell hm5.blk 10 _) rfl rfl rfl
    have F6 : Fr (mF rb D') wr (mF rb { D' with fuel := (wrap64 (gk : Int)), at_ := (wrap64 ((i : Int) + 1)) }) w6 :=
      (((((Fr.refl (mF rb D') wr).drewN (nq + 1)).alloc _).set_new (Nat.le_of_eq eg.symm) oA).trans (Fr.of_head (D' := { D' with fuel := (wrap64 (gk : Int)) }) o5 rfl rfl rfl)).trans (Fr.of_head o6 rfl rfl rfl)
    have d9 : w4.cell? ⟨rb, 9, none⟩ = some (.int .i64 ((gk : Int) + 1)) := (hm4.cells.1 9).trans (by show some (Value.int .i64 D'.fuel) = _; rw [e0]; rfl)
    have g9 := hm4.cells.2 9
    have d10 : w4.cell? ⟨rb, 10, none⟩ = some (.int .i64 (i : Nat)) := (hm4.cells.1 10).trans (by show some (Value.int .i64 D'.at_) = _; rw [e1, ei2])
    have g10 := hm4.cells.2 10
    have hgr : g ≠ rb := by omega
    have hg6 : w6.heap[g]? = some (.cells #[.int .u8 (op : Nat), .int .i64 a] 105 (0, 0)) := (o6.block g hgr).trans ((o5.block g hgr).trans hgb)
    have x0 : w4.cell? ⟨g, 0, none⟩ = some (.int .u8 (op : Nat)) := (cell_of_block hgb 0).trans rfl
    have x1 : w4.cell? ⟨g, 1, none⟩ = some (.int .i64 a) := (cell_of_block hgb 1).trans rfl
    have hrg : rb ≠ g := fun e => hgr e.symm
    have W6 : w6 = (w4.setCell ⟨rb, 9, none⟩ (.int .i64 (wrap64 (gk : Int)))).setCell ⟨rb, 10, none⟩ (.int .i64 (wrap64 ((i : Int) + 1))) := by rw [ew6, ew5]
    have hmap6 : w6.heap[w.heap.size + 1]? = some (.map dE.toArray 15) := (F6.block _ (lt_of_block hmap) hq1).trans hmap
    rcases hd : deedF S op a { σ with at_ := σ.at_ + 1 } with _ | r1
    · rw [hd] at hr; cases hr
    rw [hd] at hr
    have hop := deedF_op hd
    have hlk := lookup_deed w6 _ op hop.1 hop.2 hmap6
    have DO := deed_ok B rb S { D' with fuel := (wrap64 (gk : Int)), at_ := (wrap64 ((i : Int) + 1)) } { σ with at_ := σ.at_ + 1 } w6 op a r1 hm6 hk.1 hk.2.1 (by show (wrap64 ((i : Int) + 1)) = σ.at_ + 1; rw [HJ.out.1, ei2]) e2 hk.2.2.1 hk.2.2.2 hd
    have HX := Lib.hid (And.intro hB (And.intro hgf (And.intro hr (And.intro hk (And.intro hd (And.intro hF (And.intro hcode (And.intro hcell (And.intro hmap (And.intro hq0 (And.intro hq1 (And.intro hm (And.intro F6 eg)))))))))))))
    have hcd := call_deed op hop.1 hop.2
    rw [W6] at hlk
    generalize deedId op = F at hlk hcd DO
    clear ew5 ew6
    clear hB hf hn hcl hgf hr hk hm e0 e1 e2 hF hcode hcell hmap hq0 hq1 ei2 eA hcb hm4 o5 o6 hm5 hm6 F6 hgb hg6 hmap6 hd oA hlr hlc hop eg
    as_aux_lemma =>
    go_wp2_with fail
    rw [← W6]
    refine DO.mono ?_
    intro e w7 he
    rcases r1 with n1 | σ1
    · as_aux_lemma =>
      obtain ⟨rfl, D2, st2, ls2, cs2, m2, f2, F2⟩ := he
      obtain ⟨hB, hgf, hr, hk, hd, hF, hcode, hcell, hmap, hq0, hq1, hm, F6, eg⟩ := HX.out
      clear HX DO hlk hcd x0 x1 d9 d10 g9 g10
      simp only at hr
      injection hr with hr; subst hr
      have F7 := F6.trans F2
      have hb7 : w7.heap[w.heap.size]? = some (.cells #[.int .i64 0] 35 (0, 0)) := (F7.block _ (lt_of_block hcell) hq0).trans hcell
      have hq7 : w.heap.size ∉ mF rb D2 := fun hq => by
        rcases F7.own _ hq with h1 | h1
        · exact hq0 h1
        · have := lt_of_block hcell; omega
      have ho : Only w.heap.size w7 (w7.setCell ⟨w.heap.size, 0, none⟩ (.int .i64 (n1 : Nat))) := (Only.refl w.heap.size w7).setCell (p := ⟨w.heap.size, 0, none⟩) rfl _
      unfold bad
      go_wp2_with fail
      refine leave_bad _ w.heap.size 0 n1 w7 _ rfl ((cell_of_block hb7 0).trans rfl) (free_of_block hb7 0) ?_ ⟨rfl, D2, _, _, _, m2.other hq7 ho, f2.trans HJ.out.2.2, (hF.trans F7).set_new (Nat.le_refl _) ho⟩
      exact (cell_of_block (block_setCell hb7 0 _) 0).trans rfl
    · as_aux_lemma =>
      obtain ⟨rfl, D2, m2, f2, a2, dr2, F2⟩ := he
      obtain ⟨hB, hgf, hr, hk, hd, hF, hcode, hcell, hmap, hq0, hq1, hm, F6, eg⟩ := HX.out
      clear HX DO hlk hcd x0 x1 d9 d10 g9 g10
      simp only at hr
      have F7 := F6.trans F2
      have hlt := hm.mF_lt
      have hBw : B ≤ wr.heap.size := Nat.le_trans hm.base (Nat.le_of_lt (lt_of_block hm.blk))
      have own7 : ∀ q, q < wr.heap.size → q ∉ mF rb D' → q ∉ mF rb D2 := fun q hq hn hq2 => by
        rcases F7.own _ hq2 with h1 | h1
        · exact hn h1
        · omega
      have l0 := lt_of_block hcell
      have l1 := lt_of_block hmap
      have REL : AllRel w B rb S D code r gk w7 := ⟨σ1, D2, hr, keeps_step (σ := { σ with at_ := σ.at_ + 1 }) ⟨hk.1, hk.2.1, hk.2.2.1, hk.2.2.2⟩ hd, m2, f2.trans HJ.out.2.2, a2, dr2, hF.trans F7, hcode.below (F7.below hBw (fun q hq => (hlt q hq).2)),
        (F7.block _ l0 hq0).trans hcell, (F7.block _ l1 hq1).trans hmap, own7 _ l0 hq0, own7 _ l1 hq1⟩
      clear hr hk hd hF hcode hcell hmap hq0 hq1 hm F6 eg F7 hlt own7 l0 l1 m2 f2 a2 dr2 F2
      go_wp2_with fail
      go_roundg gk
      case measure => omega
      case rel => exact ⟨by omega, REL⟩
end
end Go.Proofs.YtocbddajakbemaaGreat
namespace Go.Proofs.YtocbddajakbemaaGreat
section
open Go.RowKit
def mixIn (x w : Int) : Int := mixI (IntKind.u64.wrap (bits .xor .u64 x w + 11400714819323198485))
def newI (seed tick entity key : Int) : Int := mixIn (mixIn (mixIn (mixI (IntKind.u64.wrap (seed + 11400714819323198485))) (IntKind.u64.wrap tick)) (IntKind.u64.wrap entity)) key
def stage (seed tick entity key : Int) : Nat → Int
  | 0 => mixI (IntKind.u64.wrap (seed + 11400714819323198485))
  | 1 => mixIn (mixI (IntKind.u64.wrap (seed + 11400714819323198485))) (IntKind.u64.wrap tick)
  | 2 => mixIn (mixIn (mixI (IntKind.u64.wrap (seed + 11400714819323198485))) (IntKind.u64.wrap tick)) (IntKind.u64.wrap entity)
  | _ => newI seed tick entity key
set_option maxHeartbeats 400000 in
theorem New_calls (seed tick entity key : Int) (w : World) (s0 : 0 ≤ seed) (s1 : seed ≤ 18446744073709551615) (k0 : 0 ≤ key) (k1 : key ≤ 18446744073709551615) :
    Calls Tryz.prog 28 #[.int .u64 seed, .int .i64 tick, .int .i64 entity, .int .u64 key] w fun e w' => e = .returned (.int .u64 (newI seed tick entity key)) ∧ Below w.heap.size w w' := by
  obtain ⟨t, ht⟩ : ∃ t, t = IntKind.u64.wrap tick := ⟨_, rfl⟩
  obtain ⟨u, hu⟩ : ∃ u, u = IntKind.u64.wrap entity := ⟨_, rfl⟩
  have mx := fun (z : Int) (w : World) => mix_calls (IntKind.u64.wrap z) w (Bv.wrap_lo _) (Bv.wrap_hi _)
  have HT := Lib.hid (And.intro ht (And.intro hu mx))
  have bt : Below w.heap.size w (w.alloc (.cells #[.int .u64 (IntKind.u64.wrap tick), .int .u64 (IntKind.u64.wrap entity), .int .u64 key] 26)) := (Below.refl _ _).alloc (Nat.le_refl _) _
  have HB := Lib.hid bt
  clear ht hu mx bt
  go_enter Tryz.func28, Tryz.ntmps28
  go_wp2_with (go_at_call 47; refine (HT.out.2.2 _ _).mono ?_; rintro e w' ⟨rfl, rfl⟩)
  go_loopg [9, 22] 3 (fun gh x i wr => ∃ j : Nat, gh = 3 - j ∧ j ≤ 3 ∧ i = .int .i64 j ∧ x = .int .u64 (stage seed tick entity key j) ∧ wr = w.alloc (.cells #[.int .u64 (IntKind.u64.wrap tick), .int .u64 (IntKind.u64.wrap entity), .int .u64 key] 26))
  case atStart => exact ⟨0, rfl, by omega, rfl, rfl, rfl⟩
  case round =>
    obtain ⟨j, hgh, hj, rfl, rfl, rfl⟩ := hrel
    have Hgh := Lib.hid hgh; clear hgh
    rcases (show j = 0 ∨ j = 1 ∨ j = 2 ∨ j = 3 from by omega) with rfl | rfl | rfl | rfl
    · go_wp2_with (go_at_call 47; refine (HT.out.2.2 _ _).mono ?_; rintro e w' ⟨rfl, rfl⟩)
      go_roundg 2
      case measure => have := Hgh.out; omega
      case rel => exact ⟨1, rfl, by omega, by go_num, rfl, rfl⟩
    · go_wp2_with (go_at_call 47; refine (HT.out.2.2 _ _).mono ?_; rintro e w' ⟨rfl, rfl⟩)
      go_roundg 1
      case measure => have := Hgh.out; omega
      case rel => exact ⟨2, rfl, by omega, by go_num, rfl, rfl⟩
    · go_wp2_with (go_at_call 47; refine (HT.out.2.2 _ _).mono ?_; rintro e w' ⟨rfl, rfl⟩)
      go_roundg 0
      case measure => have := Hgh.out; omega
      case rel => exact ⟨3, rfl, by omega, by go_num, rfl, rfl⟩
    · go_wp2_with fail
      go_ret
      exact ⟨rfl, HB.out⟩
end
end Go.Proofs.YtocbddajakbemaaGreat
namespace Go.Proofs.YtocbddajakbemaaGreat
section
open Go.RowKit
def CompsAt (w : World) (A : Option Addr) (cs : List Cmp) : Prop := ∀ j u, (comps cs)[j]? = some u → ∃ ad, A = some ad ∧ w.cell? (ad.add j) = some u
theorem CompsAt.below {w w' : World} {B : Nat} {A : Option Addr} {cs : List Cmp} (h : CompsAt w A cs) (hb : Below B w w') (hB : B = w.heap.size) : CompsAt w' A cs := by
  intro j u hu
  obtain ⟨ad, e, hc⟩ := h j u hu
  subst hB
  exact ⟨ad, e, (hb.cell (World.block_lt_of_cell? w _ hc)).trans hc⟩
theorem CompsAt.alloc {w : World} {A : Option Addr} {cs : List Cmp} (h : CompsAt w A cs) (o : Obj) : CompsAt (w.alloc o) A cs := h.below ((Below.refl _ _).alloc (Nat.le_refl _) _) rfl
theorem comps_length (cs : List Cmp) : (comps cs).length = cs.length * 5 := by
  induction cs with
  | nil => rfl
  | cons c cs ih => show (c.cells ++ comps cs).length = _; rw [List.length_append, ih]; simp [Cmp.cells]; omega
theorem comps_one (cs : List Cmp) : ∀ u ∈ comps cs, u.oneCell' = true := by
  intro u hu
  unfold comps at hu
  rw [List.mem_flatMap] at hu
  obtain ⟨c, _, hu⟩ := hu
  simp only [Cmp.cells, List.mem_cons, List.not_mem_nil, or_false] at hu
  rcases hu with rfl | rfl | rfl | rfl | rfl <;> rfl
theorem infoComp : (Tryz.prog.info? 48).map (fun i => (i.zero, i.size, i.bytes)) = some (some (.agg #[.int .u8 0, .int .i64 0, .int .i64 0, .int .i64 0, .int .i64 0]), 5, 40) := by kernel_rfl
theorem compsAt_own {w : World} {B n : Nat} {v : Value} {cs : List Cmp} (h : w.ownsRow B 48 5 v n (comps cs)) : ∃ A cap, v = .slice A n cap ∧ CompsAt w A cs ∧ (A = none → n = 0 ∧ cap = 0) := by
  rcases h.2 with ⟨rfl, rfl⟩ | ⟨g, cap, cur, rfl, hB, hh, h1, h2, h3, h4⟩
  · refine ⟨none, 0, rfl, fun j u hu => ?_, fun _ => ⟨rfl, rfl⟩⟩
    have := h.1
    rw [List.length_eq_zero_iff.1 (this.trans (Nat.zero_mul _))] at hu
    simp at hu
  · refine ⟨some ⟨g, 0, none⟩, cap, rfl, fun j u hu => ⟨_, rfl, ?_⟩, fun e => by cases e⟩
    exact h.cells (g := g) rfl j u hu
theorem ret_ent1 {fn : Func} {p : Tmp} (h : fn.results = #[.cell p 25]) (tmps : Array Value) (w : World) (g : Nat) (a b : Value)
    (hp : tmps.getD p undef = .pointer (some ⟨g, 0, none⟩)) (hg : w.heap[g]? = some (.cells #[a, b] 25 (0, 0))) :
    (results fn tmps).run Tryz.prog w = .ok (.agg #[a, b]) w := by
  have hp' : tmps[p]?.getD undef = .pointer (some ⟨g, 0, none⟩) := by simpa using hp
  have hl := run_loadVar_row (P := Tryz.prog) w g 25 25 #[a, b] (0, 0) _ hg Tryz.underlying25 rfl (by kernel_rfl)
  simp [results, h, hp', asAddr, hl]
theorem ret_ent3 {fn : Func} {p u v : Tmp} (h : fn.results = #[.cell p 25, .tmp u, .tmp v]) (tmps : Array Value) (w : World) (g : Nat) (a b : Value)
    (hp : tmps.getD p undef = .pointer (some ⟨g, 0, none⟩)) (hg : w.heap[g]? = some (.cells #[a, b] 25 (0, 0))) :
    (results fn tmps).run Tryz.prog w = .ok (.tuple #[.agg #[a, b], tmps.getD u undef, tmps.getD v undef]) w := by
  have hp' : tmps[p]?.getD undef = .pointer (some ⟨g, 0, none⟩) := by simpa using hp
  have hl := run_loadVar_row (P := Tryz.prog) w g 25 25 #[a, b] (0, 0) _ hg Tryz.underlying25 rfl (by kernel_rfl)
  simp [results, h, hp', asAddr, hl]
theorem own_low {w w' : World} {B b e s n : Nat} {v : Value} {xs : List Value} (h : w.ownsRow B e s v n xs) (ho : Only b w w') (hb : b < B) : w'.ownsRow B e s v n xs :=
  own_only h ho (fun hq => by have := (own_lt h hq).2; omega)
theorem own_rebase {w : World} {B B' e s n : Nat} {v : Value} {xs : List Value} (h : w.ownsRow B e s v n xs) (hB : B' ≤ B) : w.ownsRow B' e s v n xs := by
  refine ⟨h.1, ?_⟩
  rcases h.2 with h | ⟨g, cap, cur, rfl, hb, r⟩
  · exact Or.inl h
  · exact Or.inr ⟨g, cap, cur, rfl, Nat.le_trans hB hb, r⟩
theorem CloneC_nil (w : World) :
    Calls Tryz.prog 46 #[.slice none 0 0] w fun e w' => e = .returned (.slice none 0 0) ∧ w = w' := by
  have q : ∀ (w : World) (a : Option Addr) (n c n' c' : Nat), (binOp .eql 23 (.slice a n c) (.slice none n' c')).run Tryz.prog w = .ok (.bool a.isNone) w := fun w a n c n' c' => Lib.run_eql_slice_nil w _ _ a n c n' c' Tryz.underlying23
  go_enter Tryz.func46, Tryz.ntmps46
  go_wp2_with fail
  go_ret
  exact ⟨rfl, rfl⟩
theorem CloneC_some (ad : Addr) (n cap : Nat) (cs : List Cmp) (w : World) (h : CompsAt w (some ad) cs) (hn : n = cs.length) (hl : cs.length ≤ 1000000) :
    Calls Tryz.prog 46 #[.slice (some ad) n cap] w fun e w' => ∃ v, e = .returned v ∧ w'.ownsRow w.heap.size 48 5 v n (comps cs) ∧ Below w.heap.size w w' := by
  obtain ⟨i0, hi, hz0, hz1, hz2⟩ := info_parts infoComp
  have HI := Lib.hid (And.intro hi (And.intro hz0 (And.intro hz1 hz2))); clear hi hz0 hz1 hz2
  have hnews : ∀ o, ∀ j u, (comps cs)[j]? = some u → (w.alloc o).cell? (ad.add j) = some u := by
    intro o j u hu
    obtain ⟨ad', e, hc⟩ := h.alloc o j u hu
    injection e with e
    subst e
    exact hc
  have hlen := comps_length cs
  rw [← hn] at hlen
  have H := Lib.hid (And.intro hnews (And.intro hlen (show n ≤ 1000000 from by omega))); clear hnews h hlen hn hl
  have q : ∀ (w : World) (a : Option Addr) (n c n' c' : Nat), (binOp .eql 23 (.slice a n c) (.slice none n' c')).run Tryz.prog w = .ok (.bool a.isNone) w := fun w a n c n' c' => Lib.run_eql_slice_nil w _ _ a n c n' c' Tryz.underlying23
  go_enter Tryz.func46, Tryz.ntmps46
  go_wp2_with (at_builtin; refine wpList_append_own_at _ rfl _ _ 23 rfl w.heap.size 48 i0 _ 5 40 Tryz.underlying23 HI.out.1 HI.out.2.1 HI.out.2.2.1 HI.out.2.2.2 rfl (by decide) (.slice (some ⟨w.heap.size, 0, none⟩) 0 0) 0 [] rfl ?c0 ad n cap (comps cs) rfl ?c1 ?c2 ?c3 ?c4 ?c5 ?c6 ?_)
  case c0 => exact ⟨rfl, Or.inr ⟨_, 0, _, rfl, Nat.le_refl _, heap_alloc_new w _, Nat.le_refl _, by unfold maxLen; omega, rfl, rfl⟩⟩
  case c1 => exact H.out.2.1
  case c2 => exact H.out.1 _
  case c3 => exact comps_one _
  case c4 => have := H.out.2.2; unfold maxLen; omega
  case c5 => have := H.out.2.2; omega
  case c6 => simp
  intro v' w1 hown hg _ hat
  have HN := Lib.hid (And.intro hown (And.intro hg hat)); clear hown hg hat
  go_wp2_with fail
  go_ret
  refine ⟨_, rfl, ?_, ?_⟩
  · exact (show 0 + n = n from Nat.zero_add n) ▸ HN.out.1
  · exact ((Below.refl _ _).alloc (Nat.le_refl _) _).grown HN.out.2.1 (by simp) (by intro q hq; simp [Value.ownBlock] at hq; omega)
theorem CloneC_ok (A : Option Addr) (n cap : Nat) (cs : List Cmp) (w : World) (h : CompsAt w A cs) (hn : n = cs.length) (hl : cs.length ≤ 1000000) (hnil : A = none → n = 0 ∧ cap = 0) :
    Calls Tryz.prog 46 #[.slice A n cap] w fun e w' => ∃ v, e = .returned v ∧ w'.ownsRow w.heap.size 48 5 v n (comps cs) ∧ Below w.heap.size w w' := by
  rcases A with _ | ad
  · obtain ⟨rfl, rfl⟩ := hnil rfl
    refine (CloneC_nil w).mono ?_
    rintro e w' ⟨rfl, rfl⟩
    have : cs = [] := List.length_eq_zero_iff.1 hn.symm
    subst this
    exact ⟨_, rfl, ⟨rfl, Or.inl ⟨rfl, rfl⟩⟩, Below.refl _ _⟩
  · exact CloneC_some ad n cap cs w h hn hl
theorem own_ok (ID : Int) (A : Option Addr) (n cap : Nat) (cs : List Cmp) (w : World) (h : CompsAt w A cs) (hn : n = cs.length) (hl : cs.length ≤ 1000000) (hnil : A = none → n = 0 ∧ cap = 0) :
    Calls Tryz.prog 27 #[.agg #[.int .i64 ID, .slice A n cap]] w fun e w' => ∃ v, e = .returned (.agg #[.int .i64 ID, v]) ∧ w'.ownsRow w.heap.size 48 5 v n (comps cs) ∧ Below w.heap.size w w' := by
  obtain ⟨w1, ew1⟩ : ∃ w1, w1 = (w.alloc (.cells #[.int .i64 ID, .slice A n cap] 25 (0, 0))).alloc (.cells #[.int .i64 0, .slice none 0 0] 25 (0, 0)) := ⟨_, rfl⟩
  have hb1 : Below w.heap.size w w1 := by rw [ew1]; exact ((Below.refl _ _).alloc (Nat.le_refl _) _).alloc (by simp) _
  have hs1 : w1.heap.size = w.heap.size + 2 := by rw [ew1]; simp
  have hk0 : w1.heap[w.heap.size]? = some (.cells #[.int .i64 ID, .slice A n cap] 25 (0, 0)) := by
    rw [ew1]; exact (Below.heap_alloc _ _ _ (by simp)).trans (heap_alloc_new w _)
  have hk1 : w1.heap[w.heap.size + 1]? = some (.cells #[.int .i64 0, .slice none 0 0] 25 (0, 0)) := by
    have := heap_alloc_new (w.alloc (.cells #[.int .i64 ID, .slice A n cap] 25 (0, 0))) (.cells #[.int .i64 0, .slice none 0 0] 25 (0, 0))
    rw [ew1]; simpa using this
  have c1 : w1.cell? ⟨w.heap.size, 1, none⟩ = some (.slice A n cap) := (cell_of_block hk0 1).trans rfl
  have hcl := CloneC_ok A n cap cs w1 (h.below hb1 rfl) hn hl hnil
  have H := Lib.hid (And.intro hb1 (And.intro hs1 (And.intro hk0 (And.intro hk1 hcl)))); clear hb1 hs1 hk0 hk1 hcl h hn hl hnil
  go_enter Tryz.func27, Tryz.ntmps27
  go_wp2_with fail
  rw [← ew1]
  refine H.out.2.2.2.2.mono ?_
  rintro e w2 ⟨v, rfl, ho, hb2⟩
  obtain ⟨A', cap', rfl, -, -⟩ := compsAt_own ho
  obtain ⟨hb1, hs1, hk0, hk1, -⟩ := H.out
  have hk0' := (hb2.block _ (by omega)).trans hk0
  have hk1' := (hb2.block _ (by omega)).trans hk1
  obtain ⟨g, eg⟩ : ∃ g, g = w.heap.size := ⟨_, rfl⟩
  rw [← eg] at hk0' hk1' ⊢
  have d00 : w2.cell? ⟨g, 0, none⟩ = some (.int .i64 ID) := (cell_of_block hk0' 0).trans rfl
  have d01 : w2.cell? ⟨g, 1, none⟩ = some (.slice A n cap) := (cell_of_block hk0' 1).trans rfl
  have f01 := free_of_block hk0' 1
  have d10 : w2.cell? ⟨g + 1, 0, none⟩ = some (.int .i64 0) := (cell_of_block hk1' 0).trans rfl
  have d11 : w2.cell? ⟨g + 1, 1, none⟩ = some (.slice none 0 0) := (cell_of_block hk1' 1).trans rfl
  have f10 := free_of_block hk1' 0
  have f11 := free_of_block hk1' 1
  have HH := Lib.hid (And.intro ho (And.intro hb2 (And.intro hb1 (And.intro hs1 eg)))); clear ho hb2 hb1 hs1 hk0 hk1 hk0' eg H c1 ew1
  go_wp2_with fail
  obtain ⟨ho, hb2, hb1, hs1, eg⟩ := HH.out
  refine bodyPost_ret (ret_ent1 rfl _ _ (g + 1) _ _ rfl (block_setCell (block_setCell ((Below.heap_setCell _ _ _ _ (by simp)).trans hk1') 0 _) 1 _)) rfl ?_
  refine ⟨_, rfl, ?_, ?_⟩
  · have o1 : Only g w2 (w2.setCell ⟨g, 1, none⟩ (.slice A' n cap')) := (Only.refl g w2).setCell (p := ⟨g, 1, none⟩) rfl _
    have r1 := own_low ho o1 (by omega)
    have r2 := own_low r1 (((Only.refl (g + 1) _).setCell (p := ⟨g + 1, 0, none⟩) rfl (.int .i64 ID)).setCell (p := ⟨g + 1, 1, none⟩) rfl (.slice A' n cap')) (by omega)
    exact own_rebase r2 (by omega)
  · have hb3 : Below w.heap.size w w2 := hb1.trans (hb2.mono (by omega))
    exact ((hb3.setCell (by simp; omega) _).setCell (by simp; omega) _).setCell (by simp; omega) _
end
end Go.Proofs.YtocbddajakbemaaGreat
namespace Go.Proofs.YtocbddajakbemaaGreat
section
open Go.RowKit
theorem infoI : Tryz.prog.info? 3 = some ((Tryz.prog.info? 3).getD default) := by kernel_rfl
theorem v4_eq (d : Nat) (a0 a1 a2 a3 b0 b1 b2 b3 : Int) (w : World) :
    (Op.equalIn (d + 2) 46 (.agg #[.int .i64 a0, .int .i64 a1, .int .i64 a2, .int .i64 a3]) (.agg #[.int .i64 b0, .int .i64 b1, .int .i64 b2, .int .i64 b3])).run Tryz.prog w = .ok (decide (a0 = b0 ∧ a1 = b1 ∧ a2 = b2 ∧ a3 = b3)) w := by
  have hc : Tryz.prog.cellsOf 3 = 1 := by kernel_rfl
  rw [run_equalIn_array w (d + 1) _ _ Tryz.underlying46 infoI, hc, show List.range 4 = [0, 1, 2, 3] from rfl]
  simp [Op.eqItems, part, Tryz.underlying3, go_sem]
  repeat' split
  all_goals simp_all
theorem CompsAt.base {w : World} {A : Option Addr} {cs : List Cmp} (h : CompsAt w A cs) (hl : 0 < cs.length) : ∃ b o, A = some ⟨b, o, none⟩ := by
  have h0 : (comps cs)[0]? = some ((comps cs)[0]'(by rw [comps_length]; omega)) := List.getElem?_eq_getElem _
  obtain ⟨ad, e, hc⟩ := h 0 _ h0
  have := World.cell?_spot hc
  obtain ⟨b, o, m⟩ := ad
  simp only [Addr.add, if_true] at this
  subst this
  exact ⟨b, o, e⟩
theorem CompsAt.cells {w : World} {b o : Nat} {cs : List Cmp} {i : Nat} {c : Cmp} (h : CompsAt w (some ⟨b, o, none⟩) cs) (hc : cs[i]? = some c) :
    w.cell? ⟨b, o + i * 5, none⟩ = some (.int .u8 (c.kind : Nat)) ∧ w.cell? ⟨b, o + i * 5 + 1, none⟩ = some (.int .i64 c.v0) ∧ w.cell? ⟨b, o + i * 5 + 2, none⟩ = some (.int .i64 c.v1) ∧ w.cell? ⟨b, o + i * 5 + 3, none⟩ = some (.int .i64 c.v2) ∧ w.cell? ⟨b, o + i * 5 + 4, none⟩ = some (.int .i64 c.v3) := by
  have g : ∀ k u, k < 5 → c.cells[k]? = some u → w.cell? ⟨b, o + (i * 5 + k), none⟩ = some u := by
    intro k u hk hu
    obtain ⟨a, e, hx⟩ := h (i * 5 + k) u ((comps_at hc k hk).trans hu)
    injection e with e; subst e
    have e : Addr.add ⟨b, o, none⟩ (i * 5 + k) = ⟨b, o + (i * 5 + k), none⟩ := by
      unfold Addr.add
      split
      · rename_i h0; rw [h0]; rfl
      · rfl
    rw [e] at hx; exact hx
  exact ⟨g 0 _ (by omega) rfl, g 1 _ (by omega) rfl, g 2 _ (by omega) rfl, g 3 _ (by omega) rfl, g 4 _ (by omega) rfl⟩
set_option maxRecDepth 100000 in
set_option maxHeartbeats 4000000 in
theorem sameComps_ok (A B : Option Addr) (ca cb : Nat) (cs ds : List Cmp) (b : Bool) (hbd : b = decide (cs = ds)) (w : World) (ha : CompsAt w A cs) (hb : CompsAt w B ds) (hl : cs.length ≤ 1000000) (hd : ds.length ≤ 1000000) :
    Calls Tryz.prog 21 #[.slice A cs.length ca, .slice B ds.length cb] w fun e w' => e = .returned (.bool b) ∧ Below w.heap.size w w' := by
  by_cases hle : cs.length = ds.length
  · obtain ⟨n, en⟩ : ∃ n, n = cs.length := ⟨_, rfl⟩
    rw [← hle, ← en]
    have H := Lib.hid (And.intro ha (And.intro hb (And.intro hl (And.intro hle (And.intro en hbd)))))
    clear ha hb hl hd hle en hbd
    go_enter Tryz.func21, Tryz.ntmps21
    go_wp2_with fail
    go_loopg [5] n (fun gh iv wr => ∃ i : Nat, gh + i = n ∧ iv = .int .i64 (i : Nat) ∧ cs.take i = ds.take i ∧ Below w.heap.size w wr)
    case atStart => exact ⟨0, by simp, rfl, rfl, Below.refl _ _⟩
    case round =>
    obtain ⟨i, hi, rfl, ht, hW⟩ := hrel
    have HW := Lib.hid hW
    clear hW
    rcases gk with _ | k
    · have hin : i = n := by omega
      have hcd : b = true := by
        rw [H.out.2.2.2.2.2]
        apply decide_eq_true
        rw [List.take_of_length_le (by have := H.out.2.2.2.2.1; omega), List.take_of_length_le (by have := H.out.2.2.2.2.1; have := H.out.2.2.2.1; omega)] at ht
        exact ht
      have i2 : decide ((i : Int) < (n : Int)) = false := decide_eq_false (by omega)
      have HT := Lib.hid (And.intro hcd ht)
      clear hi ht hcd
      subst hin
      go_wp2_with fail
      go_ret
      exact ⟨by rw [HT.out.1]; rfl, HW.out⟩
    · obtain ⟨c, hc⟩ : ∃ c, cs[i]? = some c := ⟨_, List.getElem?_eq_getElem (by have := H.out.2.2.2.2.1; omega)⟩
      obtain ⟨d, hd⟩ : ∃ d, ds[i]? = some d := ⟨_, List.getElem?_eq_getElem (by have := H.out.2.2.2.2.1; have := H.out.2.2.2.1; omega)⟩
      have hA := H.out.1.below HW.out rfl
      have hB := H.out.2.1.below HW.out rfl
      obtain ⟨ab, ao, eA⟩ := hA.base (by have := H.out.2.2.2.2.1; omega)
      obtain ⟨bb, bo, eB⟩ := hB.base (by have := H.out.2.2.2.2.1; have := H.out.2.2.2.1; omega)
      rw [eA] at hA
      rw [eB] at hB
      obtain ⟨c0, c1, c2, c3, c4⟩ := hA.cells hc
      obtain ⟨d0, d1, d2, d3, d4⟩ := hB.cells hd
      subst eA eB
      have i0 : (0 : Int) ≤ (i : Int) := by omega
      have i1 : (i : Int) < (n : Int) := by omega
      have i2 : decide (i < n) = true := decide_eq_true (by omega)
      have u2 : wrap64 ((i : Int) + 1) = (i : Int) + 1 := by have := H.out.2.2.1; have := H.out.2.2.2.2.1; unfold wrap64; omega
      have HT := Lib.hid (And.intro hi (And.intro ht (And.intro hc hd)))
      clear hi ht hc hd hA hB
      by_cases hcd : c = d
      · subst hcd
        have hE : ∀ W, (Op.equalIn 9999 46 (.agg #[.int .i64 c.v0, .int .i64 c.v1, .int .i64 c.v2, .int .i64 c.v3]) (.agg #[.int .i64 c.v0, .int .i64 c.v1, .int .i64 c.v2, .int .i64 c.v3])).run Tryz.prog W = .ok true W := fun W => by rw [v4_eq]; simp
        go_upto_region 6 with fail
        go_region
        all_goals go_wp2_with fail
        all_goals (go_roundg k)
        all_goals first
          | omega
          | (obtain ⟨hi, ht, hc, hd⟩ := HT.out
             exact ⟨i + 1, by omega, by go_num, by rw [List.take_add_one, List.take_add_one, ht, hc, hd], HW.out.drew⟩)
      · have hbf : b = false := by
          rw [H.out.2.2.2.2.2]
          apply decide_eq_false
          intro e
          rw [e, HT.out.2.2.2] at HT
          exact hcd (Option.some.inj HT.out.2.2.1).symm
        have HF := Lib.hid hbf
        clear hbf
        by_cases hk : c.kind = d.kind
        · have hE : ∀ W, (Op.equalIn 9999 46 (.agg #[.int .i64 c.v0, .int .i64 c.v1, .int .i64 c.v2, .int .i64 c.v3]) (.agg #[.int .i64 d.v0, .int .i64 d.v1, .int .i64 d.v2, .int .i64 d.v3])).run Tryz.prog W = .ok false W := fun W => by
            rw [v4_eq, decide_eq_false]
            rintro ⟨e0, e1, e2, e3⟩
            apply hcd
            rcases c with ⟨k, v0, v1, v2, v3⟩
            rcases d with ⟨k', v0', v1', v2', v3'⟩
            simp only at hk e0 e1 e2 e3
            subst hk e0 e1 e2 e3
            rfl
          rw [← hk] at d0
          clear hk hcd
          go_upto_region 6 with fail
          go_region
          all_goals go_wp2_with fail
          all_goals go_ret
          all_goals exact ⟨by rw [HF.out]; rfl, HW.out.drew⟩
        · have hk2 : ((c.kind : Int) == (d.kind : Int)) = false := by simp; omega
          have hk3 : ¬ (c.kind : Int) = (d.kind : Int) := by omega
          clear hcd
          go_upto_region 6 with fail
          go_region
          all_goals go_wp2_with fail
          all_goals go_ret
          all_goals exact ⟨by rw [HF.out]; rfl, HW.out.drew⟩
  · have hbf : b = false := by
      rw [hbd]
      apply decide_eq_false
      intro e
      exact hle (by rw [e])
    subst hbf
    have e1 : ((cs.length : Int) != (ds.length : Int)) = true := by simp; omega
    clear hle hbd ha hb
    obtain ⟨n, en⟩ : ∃ n, n = cs.length := ⟨_, rfl⟩
    obtain ⟨m, em⟩ : ∃ m, m = ds.length := ⟨_, rfl⟩
    rw [← en, ← em] at e1 ⊢
    clear en em
    go_enter Tryz.func21, Tryz.ntmps21
    go_wp2_with fail
    go_ret
    exact ⟨rfl, Below.refl _ _⟩
set_option maxRecDepth 100000 in
set_option maxHeartbeats 4000000 in
theorem sameEntity_ok (I J : Int) (A B : Option Addr) (ca cb : Nat) (cs ds : List Cmp) (b : Bool) (hbd : b = decide (I = J ∧ cs = ds)) (w : World) (ha : CompsAt w A cs) (hb : CompsAt w B ds) (hl : cs.length ≤ 1000000) (hd : ds.length ≤ 1000000) :
    Calls Tryz.prog 12 #[.agg #[.int .i64 I, .slice A cs.length ca], .agg #[.int .i64 J, .slice B ds.length cb]] w fun e w' => e = .returned (.bool b) ∧ Below w.heap.size w w' := by
  obtain ⟨w2, e2⟩ : ∃ w2, w2 = (w.alloc (.cells #[.int .i64 I, .slice A cs.length ca] 25 (0, 0))).alloc (.cells #[.int .i64 J, .slice B ds.length cb] 25 (0, 0)) := ⟨_, rfl⟩
  have hb2 : Below w.heap.size w w2 := by rw [e2]; exact ((Below.refl _ _).alloc (Nat.le_refl _) _).alloc (by simp) _
  have SC := fun b hb' => sameComps_ok A B ca cb cs ds b hb' w2 (ha.below hb2 rfl) (hb.below hb2 rfl) hl hd
  obtain ⟨g, eg⟩ : ∃ g, g = w.heap.size := ⟨_, rfl⟩
  have kA : w2.heap[g]? = some (.cells #[.int .i64 I, .slice A cs.length ca] 25 (0, 0)) := by rw [e2, eg]; exact (Below.heap_alloc _ _ _ (by simp)).trans (heap_alloc_new _ _)
  have kB : w2.heap[g + 1]? = some (.cells #[.int .i64 J, .slice B ds.length cb] 25 (0, 0)) := by
    rw [e2, eg]
    have := heap_alloc_new (w.alloc (.cells #[.int .i64 I, .slice A cs.length ca] 25 (0, 0))) (.cells #[.int .i64 J, .slice B ds.length cb] 25 (0, 0))
    simpa using this
  have f0 : w2.cell? ⟨g, 0, none⟩ = some (.int .i64 I) := (cell_of_block kA 0).trans rfl
  have f1 : w2.cell? ⟨g, 1, none⟩ = some (.slice A cs.length ca) := (cell_of_block kA 1).trans rfl
  have f2 : w2.cell? ⟨g + 1, 0, none⟩ = some (.int .i64 J) := (cell_of_block kB 0).trans rfl
  have f3 : w2.cell? ⟨g + 1, 1, none⟩ = some (.slice B ds.length cb) := (cell_of_block kB 1).trans rfl
  have hs2 := hb2.size
  have H := Lib.hid (And.intro hb2 (And.intro hbd (And.intro SC hs2)))
  obtain ⟨n, en⟩ : ∃ n, n = cs.length := ⟨_, rfl⟩
  obtain ⟨m, em⟩ : ∃ m, m = ds.length := ⟨_, rfl⟩
  rw [← en, ← em] at e2 SC
  rw [← en] at f1
  rw [← em] at f3
  rw [← en, ← em]
  clear hb2 hbd hs2 kA kB ha hb hl hd en em
  by_cases hij : I = J
  · subst hij
    have SC := SC (decide (cs = ds)) rfl
    obtain ⟨c, ec⟩ : ∃ c, c = decide (cs = ds) := ⟨_, rfl⟩
    rw [← ec] at SC
    have HE := Lib.hid ec
    clear ec
    go_enter Tryz.func12, Tryz.ntmps12
    go_upto_region 1 with fail
    rw [← e2, ← eg]
    clear e2 eg
    go_wp2_with (go_at_call 21; refine SC.mono ?_; rintro e w3 ⟨rfl, hb3⟩; have H3 := Lib.hid hb3; clear hb3)
    go_ret
    refine ⟨?_, H.out.1.trans (H3.out.mono H.out.2.2.2)⟩
    rw [H.out.2.1, HE.out]
    simp
  · have hij2 : (I == J) = false := by simpa using hij
    have hbf : b = false := by rw [H.out.2.1]; exact decide_eq_false (fun h => hij h.1)
    have HF := Lib.hid hbf
    clear hbf SC
    go_enter Tryz.func12, Tryz.ntmps12
    go_upto_region 1 with fail
    rw [← e2, ← eg]
    clear e2 eg
    go_wp2_with fail
    go_ret
    exact ⟨by rw [HF.out]; rfl, H.out.1⟩
end
end Go.Proofs.YtocbddajakbemaaGreat
namespace Go.Proofs.YtocbddajakbemaaGreat
section
open Go.RowKit
def ent : List Cmp := [⟨2, 3, -4, 0, 0⟩, ⟨7, 10, 20, 30, 40⟩]
set_option maxRecDepth 100000 in
set_option maxHeartbeats 4000000 in
theorem entity_ok (w : World) :
    Calls Tryz.prog 16 #[] w fun e w' => ∃ b, e = .returned (.agg #[.int .i64 5, .slice (some ⟨b, 0, none⟩) 2 2]) ∧ CompsAt w' (some ⟨b, 0, none⟩) ent ∧ Below w.heap.size w w' := by
  go_enter Tryz.func16, Tryz.ntmps16
  go_wp2_with fail
  obtain ⟨X, eX⟩ : ∃ X, X = (w.alloc (.cells #[.int .i64 5, .slice (some ⟨w.heap.size + 1, 0, none⟩) 2 2] 25 (0, 0))).alloc (.cells #[.int .u8 2, .int .i64 3, .int .i64 (-4), .int .i64 0, .int .i64 0, .int .u8 7, .int .i64 10, .int .i64 20, .int .i64 30, .int .i64 40] 48 (0, 0)) := ⟨_, rfl⟩
  rw [← eX]
  have k0 : X.heap[w.heap.size]? = some (.cells #[.int .i64 5, .slice (some ⟨w.heap.size + 1, 0, none⟩) 2 2] 25 (0, 0)) := by rw [eX]; exact (Below.heap_alloc _ _ _ (by simp)).trans (heap_alloc_new _ _)
  have k1 : X.heap[w.heap.size + 1]? = some (.cells #[.int .u8 2, .int .i64 3, .int .i64 (-4), .int .i64 0, .int .i64 0, .int .u8 7, .int .i64 10, .int .i64 20, .int .i64 30, .int .i64 40] 48 (0, 0)) := by
    rw [eX]
    have := heap_alloc_new (w.alloc (.cells #[.int .i64 5, .slice (some ⟨w.heap.size + 1, 0, none⟩) 2 2] 25 (0, 0))) (.cells #[.int .u8 2, .int .i64 3, .int .i64 (-4), .int .i64 0, .int .i64 0, .int .u8 7, .int .i64 10, .int .i64 20, .int .i64 30, .int .i64 40] 48 (0, 0))
    simpa using this
  refine bodyPost_ret (ret_ent1 rfl _ _ w.heap.size _ _ rfl k0) rfl ?_
  refine ⟨w.heap.size + 1, rfl, fun j u hu => ⟨_, rfl, ?_⟩, by rw [eX]; exact ((Below.refl _ _).alloc (Nat.le_refl _) _).alloc (by simp) _⟩
  have e : Addr.add ⟨w.heap.size + 1, 0, none⟩ j = ⟨w.heap.size + 1, j, none⟩ := by
    unfold Addr.add
    split
    · rename_i h0; rw [h0]
    · simp
  rw [e, cell_of_block k1]
  rw [← hu]
  simp [comps, ent, Cmp.cells]
end
end Go.Proofs.YtocbddajakbemaaGreat
