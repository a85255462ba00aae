/- vm: awake's walk. -/
import Derived.Test.YtocbddajakbemaaGreatMT
set_option linter.unusedVariables false
set_option linter.unusedSimpArgs false
set_option linter.unusedSimpArgs false
namespace Go.Proofs.YtocbddajakbemaaGreat
section
open Go.RowKit
theorem prog_cells {W : World} {q : Nat} {a b c d : Value} (h : W.heap[q]? = some (.cells #[a, b, c, d] 53 (0, 0))) : W.cell? ⟨q, 0, none⟩ = some a ∧ W.cell? ⟨q, 1, none⟩ = some b ∧ W.cell? ⟨q, 2, none⟩ = some c ∧ W.cell? ⟨q, 3, none⟩ = some d :=
  ⟨(cell_of_block h 0).trans rfl, (cell_of_block h 1).trans rfl, (cell_of_block h 2).trans rfl, (cell_of_block h 3).trans rfl⟩
theorem ent_cells {W : World} {q : Nat} {a b : Value} (h : W.heap[q]? = some (.cells #[a, b] 25 (0, 0))) : W.cell? ⟨q, 0, none⟩ = some a ∧ W.cell? ⟨q, 1, none⟩ = some b ∧ W.frozen? ⟨q, 0, none⟩ = false ∧ W.frozen? ⟨q, 1, none⟩ = false :=
  ⟨(cell_of_block h 0).trans rfl, (cell_of_block h 1).trans rfl, free_of_block h 0, free_of_block h 1⟩
theorem step_callG {ops : Array Oper} {o : Oper} {a : Act} {w : World} {K : Act → World → Prop} {Q : Exit → Act → World → Prop} {E : Prop} (f : FuncId) (xs : List Operand) (ts : Array TypeId) (hw : Region.wanted o (yielded ops a.tmps) = true)
    (hop : o.op = .call { callee := .value (.func f), args := xs.toArray, argTypes := ts }) (hcall : ∀ args W, (callFunc f args).run Tryz.prog W = .ok (.enter f args) W) (args : List Value) (ha : xs.map a.eval = args)
    {R : Ending → World → Prop} (hc : Calls Tryz.prog f args.toArray w R) (hR : ∀ e w', R e w' → ∃ v, e = .returned v ∧ K (a.put o.dst v) w') :
    if Region.wanted o (yielded ops a.tmps) = true then Oper.wp Tryz.prog o a w K Q else E := by
  rw [if_pos hw]
  subst ha
  unfold Oper.wp
  have e1 : (execOp a.eval o).run Tryz.prog w = .ok (.enter f (xs.map a.eval).toArray) w := by
    simp [execOp, hop, resolve, invoke, Act.eval, hcall, Deferred.ofValue]
  rw [e1]
  refine Calls.mono hc fun e w' he => ?_
  obtain ⟨v, rfl, hk⟩ := hR e w' he
  exact hk
theorem same_ent {W : World} {A : Option Addr} {ca b : Nat} (h : CompsAt W A ent) (h2 : CompsAt W (some ⟨b, 0, none⟩) ent) :
    Calls Tryz.prog 12 #[.agg #[.int .i64 5, .slice A 2 ca], .agg #[.int .i64 5, .slice (some ⟨b, 0, none⟩) 2 2]] W fun e w' => e = .returned (.bool true) ∧ Below W.heap.size W w' :=
  sameEntity_ok 5 5 A (some ⟨b, 0, none⟩) ca 2 ent ent true (by decide) W h h2 (by decide) (by decide)
theorem EBox.facts {W : World} {q n c : Nat} {A : Option Addr} {cs : List Cmp} (h : EBox W q A n c cs) : W.cell? ⟨q, 0, none⟩ = some (.int .i64 5) ∧ W.cell? ⟨q, 1, none⟩ = some (.slice A n c) :=
  ⟨(cell_of_block h.blk 0).trans rfl, (cell_of_block h.blk 1).trans rfl⟩
def Ran (w : World) (left err : Nat) (cs : List Cmp) (p l e : Value) (wx : World) : Prop :=
  ∃ q A n c, p = .pointer (some ⟨q, 0, none⟩) ∧ l = .int .i64 (left : Nat) ∧ e = .int .i64 (err : Nat) ∧ EBox wx q A n c cs ∧ Below w.heap.size w wx
theorem ran_alloc {w W : World} {left err B : Nat} {cs : List Cmp} {A : Option Addr} {c p : Nat} (hp : p = W.heap.size) (ho : W.ownsRow B 48 5 (.slice A cs.length c) cs.length (comps cs)) (hb : Below w.heap.size w W) :
    Ran w left err cs (.pointer (some ⟨p, 0, none⟩)) (.int .i64 (left : Nat)) (.int .i64 (err : Nat)) (W.alloc (.cells #[.int .i64 5, .slice A cs.length c] 25 (0, 0))) := by
  subst hp
  exact ⟨_, A, cs.length, c, rfl, rfl, rfl, EBox.new (w0 := w) ho, hb.alloc hb.size _⟩
theorem ran_set {w W : World} {left err B : Nat} {cs : List Cmp} {A : Option Addr} {c q : Nat} (hq : W.heap[q]? = some (.cells #[.int .i64 0, .slice none 0 0] 25 (0, 0))) (hlt : w.heap.size ≤ q) (hB : q < B) (ho : W.ownsRow B 48 5 (.slice A cs.length c) cs.length (comps cs)) (hb : Below w.heap.size w W) :
    Ran w left err cs (.pointer (some ⟨q, 0, none⟩)) (.int .i64 (left : Nat)) (.int .i64 (err : Nat)) ((W.setCell ⟨q, 0, none⟩ (.int .i64 5)).setCell ⟨q, 1, none⟩ (.slice A cs.length c)) := by
  have hO : Only q W ((W.setCell ⟨q, 0, none⟩ (.int .i64 5)).setCell ⟨q, 1, none⟩ (.slice A cs.length c)) := ((Only.refl q W).setCell (p := ⟨q, 0, none⟩) rfl _).setCell (p := ⟨q, 1, none⟩) rfl _
  obtain ⟨A', c', e, hc, -⟩ := compsAt_own (own_low ho hO hB)
  simp only [Value.slice.injEq, true_and] at e
  obtain ⟨rfl, rfl⟩ := e
  exact ⟨_, A, cs.length, c, rfl, rfl, rfl, ⟨block_setCell (block_setCell hq 0 _) 1 _, hc, rfl, own_off ho⟩, hb.trans (hO.below hlt)⟩
set_option maxRecDepth 100000 in
set_option maxHeartbeats 8000000 in
theorem awake_ok (w : World) : Calls Tryz.prog 7 #[] w fun e w' => e = .returned (.bool true) ∧ Below w.heap.size w w' := by
  have PA := prog_a w
  have w0 : Below w.heap.size w w := Below.refl _ _
  have HB0 := Lib.hid w0
  clear w0
  have et0 : (ByteArray.mk #[108, 101, 116, 32, 97, 32, 61, 32, 51, 59, 32, 119, 104, 105, 108, 101, 32, 40, 97, 41, 32, 123, 32, 118, 97, 114, 115, 91, 48, 93, 32, 61, 32, 97, 59, 32, 97, 32, 61, 32, 97, 32, 45, 32, 49, 59, 32, 125]) = text0 := rfl
  go_enter Tryz.func7, Tryz.ntmps7
  go_upto_region 2 with (go_at_call 14; refine PA.mono ?_; rintro e w1 ⟨A1, c1, rfl, hc1, hb1⟩; have H1 := Lib.hid (And.intro hc1 hb1); clear hc1 hb1)
  clear PA et0
  obtain ⟨g1, eg1⟩ : ∃ g, g = w1.heap.size := ⟨_, rfl⟩
  obtain ⟨w2, e2⟩ : ∃ w2, w2 = w1.alloc (.cells #[.slice A1 12 c1, .int .i64 1, .int .u32 0, .int .u32 128] 53 (0, 0)) := ⟨_, rfl⟩
  rw [← e2, ← eg1]
  have hb12 : Below w1.heap.size w1 w2 := by rw [e2]; exact (Below.refl _ _).alloc (Nat.le_refl _) _
  have k2 : w2.heap[g1]? = some (.cells #[.slice A1 12 c1, .int .i64 1, .int .u32 0, .int .u32 128] 53 (0, 0)) := by rw [e2, eg1]; exact heap_alloc_new _ _
  have hc2 : CodeAt w2 w2.heap.size A1 prog0 := (H1.out.1.below hb12).mono hb12.size
  have S0 : Below w.heap.size w w2 := H1.out.2.trans (hb12.mono H1.out.2.size)
  have H2 := Lib.hid (And.intro k2 (And.intro hc2 S0))
  have FA : ∀ W, Below w2.heap.size w2 W → Below w2.heap.size w2 W ∧ W.cell? ⟨g1, 0, none⟩ = some (.slice A1 12 c1) ∧ W.cell? ⟨g1, 1, none⟩ = some (.int .i64 1) ∧ W.cell? ⟨g1, 2, none⟩ = some (.int .u32 0) ∧ W.cell? ⟨g1, 3, none⟩ = some (.int .u32 128) := by
    intro W hW
    exact ⟨hW, prog_cells ((hW.block g1 (lt_of_block H2.out.1)).trans H2.out.1)⟩
  have HFA := Lib.hid FA
  clear e2 eg1 hb12 k2 hc2 S0 FA H1
  have RA : ∀ W b, Below w2.heap.size w2 W → CompsAt W (some ⟨b, 0, none⟩) ent → Calls Tryz.prog 15 #[.agg #[.slice A1 12 c1, .int .i64 1, .int .u32 0, .int .u32 128], .agg #[.int .i64 5, .slice (some ⟨b, 0, none⟩) 2 2], .agg #[.int .u64 0, .int .i64 0, .int .u64 0], .int .i64 40] W (Gives W 5 0 6 entA) :=
    fun W b hW he => run_a ((H2.out.2.1.below hW).mono hW.size) he
  have HRA := Lib.hid RA
  clear RA
  go_cut [2, 3, 4] (fun p l e wx => Ran w2 6 0 entA p l e wx)
  case first =>
    go_region_held3 (fun W => Below w2.heap.size w2 W ∧ W.cell? ⟨g1, 0, none⟩ = some (.slice A1 12 c1) ∧ W.cell? ⟨g1, 1, none⟩ = some (.int .i64 1) ∧ W.cell? ⟨g1, 2, none⟩ = some (.int .u32 0) ∧ W.cell? ⟨g1, 3, none⟩ = some (.int .u32 128))
      (first | exact HFA.out _ ((Below.refl _ w2).drew) | (refine HFA.out _ ?_; assumption) | (refine HFA.out _ (Below.alloc (And.left (by assumption)) ?_ _); exact Below.size (And.left (by assumption))) | (refine HFA.out _ (Below.alloc (by assumption) ?_ _); exact Below.size (by assumption)) | (refine HFA.out _ (Below.setCell (Below.setCell (by assumption) ?_ _) ?_ _) <;> (first | exact Nat.le_refl _ | exact HE.out.2.size)))
      (first
      | (refine step_call 16 [] _ rfl rfl (fun _ _ => rfl) _ rfl (entity_ok _) ?_
         rintro e w3 ⟨eb, rfl, hce, hb3⟩
         refine ⟨_, rfl, ?_⟩
         have hb4 : Below w2.heap.size w2 w3 := Below.trans (And.left (by assumption)) (hb3.mono (Below.size (And.left (by assumption))))
         first
         | (have hbx : w3.heap[w2.heap.size]? = some (.cells #[.int .i64 0, .slice none 0 0] 25 (0, 0)) := (hb3.block _ (by simp)).trans (heap_alloc_new _ _)
            have HBX := Lib.hid hbx; clear hbx)
         | skip
         have HE := Lib.hid (And.intro hce hb4); clear hce hb3)
      | (refine step_call 15 [.tmp 23, .tmp 24, .tmp 25, .const (.int .i64 40)] _ rfl rfl (fun _ _ => rfl) _ rfl (HRA.out _ _ (by first | exact HE.out.2 | exact HE.out.2.alloc HE.out.2.size _) (by first | exact HE.out.1 | exact HE.out.1.alloc _)) ?_
         rintro e w4 ⟨A4, c4, rfl, ho4, hb5⟩
         refine ⟨_, rfl, ?_⟩
         have hb6 : Below w2.heap.size w2 w4 := Below.trans (And.left (by assumption)) (hb5.mono (Below.size (And.left (by assumption))))
         first
         | (have hby : w4.heap[w2.heap.size]? = some (.cells #[.int .i64 0, .slice none 0 0] 25 (0, 0)) := (hb5.block _ (lt_of_block HBX.out)).trans HBX.out
            obtain ⟨d0, d1, z0, z1⟩ := ent_cells hby
            have HBY := Lib.hid hby; clear hby)
         | (have hby : w4.heap[w3.heap.size]? = some (.cells #[.int .i64 0, .slice none 0 0] 25 (0, 0)) := (hb5.block _ (by simp)).trans (heap_alloc_new _ _)
            obtain ⟨d0, d1, z0, z1⟩ := ent_cells hby
            have HBY := Lib.hid hby; clear hby)
         | skip
         have HO := Lib.hid (And.intro ho4 hb6); clear ho4 hb5))
    all_goals go_wp2_with fail
    all_goals go_meet
    all_goals first
      | (refine ran_alloc ?_ HO.out.1 HO.out.2; done)
      | (refine ran_alloc ?_ HO.out.1 HO.out.2; first | rfl | (simp; done))
      | exact ran_set HBY.out (Nat.le_refl _) (lt_of_block HBX.out) HO.out.1 HO.out.2
      | (refine ran_set HBY.out HE.out.2.size ?_ HO.out.1 HO.out.2; simp; done)
      | trace_state
  case rest =>
  obtain ⟨q2, A2, n2, c2, rfl, rfl, rfl, hE2, hb25⟩ := hcut
  obtain ⟨w5, e5⟩ : ∃ w5, w5 = wc := ⟨_, rfl⟩
  rw [← e5] at hE2 hb25 ⊢
  clear e5
  have k5 := (hb25.block g1 (lt_of_block H2.out.1)).trans H2.out.1
  have hc5 : CodeAt w5 w5.heap.size A1 prog0 := (H2.out.2.1.below hb25).mono hb25.size
  have S5 : Below w.heap.size w w5 := H2.out.2.2.trans (hb25.mono H2.out.2.2.size)
  have H5 := Lib.hid (And.intro k5 (And.intro hc5 S5))
  have HE5 := Lib.hid hE2
  clear k5 hc5 S5 hE2 hb25 HFA HRA H2
  have FB : ∀ W, Below w5.heap.size w5 W → Below w5.heap.size w5 W ∧ W.cell? ⟨g1, 0, none⟩ = some (.slice A1 12 c1) ∧ W.cell? ⟨g1, 1, none⟩ = some (.int .i64 1) ∧ W.cell? ⟨g1, 2, none⟩ = some (.int .u32 0) ∧ W.cell? ⟨g1, 3, none⟩ = some (.int .u32 128) := by
    intro W hW
    exact ⟨hW, prog_cells ((hW.block g1 (lt_of_block H5.out.1)).trans H5.out.1)⟩
  have HFB := Lib.hid FB
  clear FB
  have RB : ∀ W b, Below w5.heap.size w5 W → CompsAt W (some ⟨b, 0, none⟩) ent → Calls Tryz.prog 15 #[.agg #[.slice A1 12 c1, .int .i64 1, .int .u32 0, .int .u32 128], .agg #[.int .i64 5, .slice (some ⟨b, 0, none⟩) 2 2], .agg #[.int .u64 0, .int .i64 0, .int .u64 0], .int .i64 33] W (Gives W 5 145 0 ent) :=
    fun W b hW he => run_b ((H5.out.2.1.below hW).mono hW.size) he
  have HRB := Lib.hid RB
  clear RB
  go_upto_region 3 with fail
  go_cut [5, 6, 7] (fun p l e wx => Ran w5 0 145 ent p l e wx)
  case first =>
    go_region_held3 (fun W => Below w5.heap.size w5 W ∧ W.cell? ⟨g1, 0, none⟩ = some (.slice A1 12 c1) ∧ W.cell? ⟨g1, 1, none⟩ = some (.int .i64 1) ∧ W.cell? ⟨g1, 2, none⟩ = some (.int .u32 0) ∧ W.cell? ⟨g1, 3, none⟩ = some (.int .u32 128))
      (first | exact HFB.out _ ((Below.refl _ w5).drew) | (refine HFB.out _ ?_; assumption) | (refine HFB.out _ (Below.alloc (And.left (by assumption)) ?_ _); exact Below.size (And.left (by assumption))) | (refine HFB.out _ (Below.alloc (by assumption) ?_ _); exact Below.size (by assumption)) | (refine HFB.out _ (Below.setCell (Below.setCell (by assumption) ?_ _) ?_ _) <;> (first | exact Nat.le_refl _ | exact HF.out.2.size)))
      (first
      | (refine step_call 16 [] _ rfl rfl (fun _ _ => rfl) _ rfl (entity_ok _) ?_
         rintro e w6 ⟨ec, rfl, hcf, hb3⟩
         refine ⟨_, rfl, ?_⟩
         have hb4 : Below w5.heap.size w5 w6 := Below.trans (And.left (by assumption)) (hb3.mono (Below.size (And.left (by assumption))))
         first
         | (have hbx : w6.heap[w5.heap.size]? = some (.cells #[.int .i64 0, .slice none 0 0] 25 (0, 0)) := (hb3.block _ (by simp)).trans (heap_alloc_new _ _)
            have HCX := Lib.hid hbx; clear hbx)
         | skip
         have HF := Lib.hid (And.intro hcf hb4); clear hcf hb3)
      | (refine step_call 15 [.tmp 31, .tmp 32, .tmp 33, .const (.int .i64 33)] _ rfl rfl (fun _ _ => rfl) _ rfl (HRB.out _ _ (by first | exact HF.out.2 | exact HF.out.2.alloc HF.out.2.size _) (by first | exact HF.out.1 | exact HF.out.1.alloc _)) ?_
         rintro e w7 ⟨A7, c7, rfl, ho4, hb5⟩
         refine ⟨_, rfl, ?_⟩
         have hb6 : Below w5.heap.size w5 w7 := Below.trans (And.left (by assumption)) (hb5.mono (Below.size (And.left (by assumption))))
         first
         | (have hby : w7.heap[w5.heap.size]? = some (.cells #[.int .i64 0, .slice none 0 0] 25 (0, 0)) := (hb5.block _ (lt_of_block HCX.out)).trans HCX.out
            obtain ⟨d0, d1, z0, z1⟩ := ent_cells hby
            have HCY := Lib.hid hby; clear hby)
         | (have hby : w7.heap[w6.heap.size]? = some (.cells #[.int .i64 0, .slice none 0 0] 25 (0, 0)) := (hb5.block _ (by simp)).trans (heap_alloc_new _ _)
            obtain ⟨d0, d1, z0, z1⟩ := ent_cells hby
            have HCY := Lib.hid hby; clear hby)
         | skip
         have HP := Lib.hid (And.intro ho4 hb6); clear ho4 hb5))
    all_goals go_wp2_with fail
    all_goals go_meet
    all_goals first
      | (refine ran_alloc ?_ HP.out.1 HP.out.2; done)
      | (refine ran_alloc ?_ HP.out.1 HP.out.2; first | rfl | (simp; done))
      | exact ran_set HCY.out (Nat.le_refl _) (lt_of_block HCX.out) HP.out.1 HP.out.2
      | (refine ran_set HCY.out HF.out.2.size ?_ HP.out.1 HP.out.2; simp; done)
      | trace_state
  case rest =>
  obtain ⟨q5, A5, n5, c5, rfl, rfl, rfl, hE5, hb58⟩ := hcut
  obtain ⟨w8, e8⟩ : ∃ w8, w8 = wc := ⟨_, rfl⟩
  rw [← e8] at hE5 hb58 ⊢
  clear e8
  obtain ⟨a0, a1, a2, a3⟩ := prog_cells ((hb58.block g1 (lt_of_block H5.out.1)).trans H5.out.1)
  have RG := run_g (c := c1) ((H5.out.2.1.below hb58).mono hb58.size)
  have h2a := HE5.out.below hb58
  have S8 : Below w.heap.size w w8 := H5.out.2.2.trans (hb58.mono H5.out.2.2.size)
  have H8 := Lib.hid (And.intro h2a (And.intro hE5 S8))
  clear h2a hE5 S8 hb58 HFB HRB H5 HE5
  go_upto_region 5 with (go_at_call 15; refine RG.mono ?_; rintro e w9 ⟨A9, c9, rfl, ho9, hb9⟩; have H9 := Lib.hid (And.intro ho9 hb9); clear ho9 hb9)
  clear RG a0 a1 a2 a3
  obtain ⟨w10, e10⟩ : ∃ w10, w10 = w9.alloc (.cells #[.int .i64 5, .slice A9 0 c9] 25 (0, 0)) := ⟨_, rfl⟩
  rw [← e10]
  have hb910 : Below w9.heap.size w9 w10 := by rw [e10]; exact (Below.refl _ _).alloc (Nat.le_refl _) _
  have hb810 : Below w8.heap.size w8 w10 := H9.out.2.trans (hb910.mono H9.out.2.size)
  have HX := Lib.hid (And.intro (H8.out.1.below hb810) (And.intro (H8.out.2.1.below hb810) (H8.out.2.2.trans (hb810.mono H8.out.2.2.size))))
  clear e10 hb910 hb810 H8 H9
  have PC := prog_c w10
  have EN := fun W => entity_ok W
  have et1 : (ByteArray.mk #[118, 97, 114, 115, 91, 48, 93, 32, 61, 32, 49, 59, 32, 102, 97, 105, 108, 59]) = text1 := rfl
  go_upto_region 6 with (first
    | (go_at_call 14; refine PC.mono ?_; rintro e w11 ⟨A11, c11, rfl, hc11, hb11⟩; have H11 := Lib.hid (And.intro hc11 hb11); clear hc11 hb11)
    | (go_at_call 16; refine (EN _).mono ?_; rintro e w12 ⟨b12, rfl, hce12, hb12⟩; have H12 := Lib.hid (And.intro hce12 hb12); have RC := run_c (c := c11) ((H11.out.1.below hb12).mono hb12.size) hce12; clear hce12 hb12)
    | (go_at_call 15; refine RC.mono ?_; rintro e w13 ⟨A13, c13, rfl, ho13, hb13⟩; have H13 := Lib.hid (And.intro ho13 hb13); clear ho13 hb13))
  clear RC PC
  obtain ⟨w14, e14⟩ : ∃ w14, w14 = w13.alloc (.cells #[.int .i64 5, .slice A13 ent.length c13] 25 (0, 0)) := ⟨_, rfl⟩
  have hE13 := EBox.new (w0 := w) H13.out.1
  have hb1314 : Below w13.heap.size w13 w14 := by rw [e14]; exact (Below.refl _ _).alloc (Nat.le_refl _) _
  rw [← e14] at hE13 ⊢
  have hb1014 : Below w10.heap.size w10 w14 := ((H11.out.2.trans (H12.out.2.mono H11.out.2.size)).trans (H13.out.2.mono (Nat.le_trans H11.out.2.size H12.out.2.size))).trans (hb1314.mono (Nat.le_trans H11.out.2.size (Nat.le_trans H12.out.2.size H13.out.2.size)))
  obtain ⟨q13, eq13⟩ : ∃ q, q = w13.heap.size := ⟨_, rfl⟩
  rw [← eq13] at hE13 ⊢
  have HY := Lib.hid (And.intro (HX.out.1.below hb1014) (And.intro (HX.out.2.1.below hb1014) (And.intro (HX.out.2.2.trans (hb1014.mono HX.out.2.2.size)) hE13)))
  clear e14 hb1314 hb1014 hE13 eq13 HX H11 H12 H13 et1
  have PD := prog_d w14
  have et2 : (ByteArray.mk #[118, 97, 114, 115, 91, 49, 93, 32, 61, 32, 118, 101, 108, 91, 49, 93, 32, 42, 32, 50, 32, 43, 32, 115, 101, 108, 102, 59]) = text2 := rfl
  go_upto_region 7 with (first
    | (go_at_call 14; refine PD.mono ?_; rintro e w15 ⟨A15, c15, rfl, hc15, hb15⟩; have H15 := Lib.hid (And.intro hc15 hb15); clear hc15 hb15)
    | (go_at_call 16; refine (EN _).mono ?_; rintro e w16 ⟨b16, rfl, hce16, hb16⟩; have H16 := Lib.hid (And.intro hce16 hb16); have RD := run_d (c := c15) ((H15.out.1.below hb16).mono hb16.size) hce16; clear hce16 hb16)
    | (go_at_call 15; refine RD.mono ?_; rintro e w17 ⟨A17, c17, rfl, ho17, hb17⟩; have H17 := Lib.hid (And.intro ho17 hb17); clear ho17 hb17))
  clear RD PD
  obtain ⟨w18, e18⟩ : ∃ w18, w18 = w17.alloc (.cells #[.int .i64 5, .slice A17 entD.length c17] 25 (0, 0)) := ⟨_, rfl⟩
  have hE17 := EBox.new (w0 := w) H17.out.1
  have hb1718 : Below w17.heap.size w17 w18 := by rw [e18]; exact (Below.refl _ _).alloc (Nat.le_refl _) _
  rw [← e18] at hE17 ⊢
  have hb1418 : Below w14.heap.size w14 w18 := ((H15.out.2.trans (H16.out.2.mono H15.out.2.size)).trans (H17.out.2.mono (Nat.le_trans H15.out.2.size H16.out.2.size))).trans (hb1718.mono (Nat.le_trans H15.out.2.size (Nat.le_trans H16.out.2.size H17.out.2.size)))
  obtain ⟨q17, eq17⟩ : ∃ q, q = w17.heap.size := ⟨_, rfl⟩
  rw [← eq17] at hE17 ⊢
  have HZ := Lib.hid (And.intro (HY.out.1.below hb1418) (And.intro (HY.out.2.1.below hb1418) (And.intro (HY.out.2.2.1.trans (hb1418.mono HY.out.2.2.1.size)) (And.intro (HY.out.2.2.2.below hb1418) hE17))))
  clear e18 hb1718 hb1418 hE17 eq17 HY H15 H16 H17 et2
  have E1 := Eval_ok 11 (by decide) (-9223372036854775808) (-1)
  have E2 := Eval_ok 12 (by decide) (-7) 2
  have v1 : evV 11 (-9223372036854775808) (-1) = -9223372036854775808 := by kernel_rfl
  have v2 : evV 12 (-7) 2 = -1 := by kernel_rfl
  have v3 : evE 11 (-1) = 0 := by kernel_rfl
  have v4 : evE 12 2 = 0 := by kernel_rfl
  rw [v1, v3] at E1
  rw [v2, v4] at E2
  clear v1 v2 v3 v4
  go_upto_region 8 with (go_at_call 17; refine (E1 _).mono ?_; rintro e w19 ⟨rfl, rfl⟩)
  go_upto_region 9 with (go_at_call 17; refine (E2 _).mono ?_; rintro e w19 ⟨rfl, rfl⟩)
  clear E1 E2
  obtain ⟨hE2, hE5, hbw, hE13, hE17⟩ := HZ.out
  have en2 := hE2.len
  have en5 := hE5.len
  subst en2 en5
  obtain ⟨ab, ao, eA2⟩ := hE2.at_.base (by decide)
  obtain rfl : ao = 0 := hE2.off _ eA2
  subst eA2
  obtain ⟨db, dO, eA17⟩ := hE17.at_.base (by decide)
  obtain rfl : dO = 0 := hE17.off _ eA17
  subst eA17
  have HE2 := Lib.hid hE2
  have HE5 := Lib.hid hE5
  have HE13 := Lib.hid hE13
  have HE17 := Lib.hid hE17
  have HW := Lib.hid hbw
  clear hE2 hE5 hE13 hE17 hbw HZ HB0 EN
  have FS : ∀ W, Below w18.heap.size w18 W → Below w18.heap.size w18 W ∧ W.cell? ⟨q2, 1, none⟩ = some (.slice (some ⟨ab, 0, none⟩) 2 c2) ∧
      (W.cell? ⟨ab, 6, none⟩ = some (.int .i64 1) ∧ W.cell? ⟨ab, 7, none⟩ = some (.int .i64 20) ∧ W.cell? ⟨ab, 8, none⟩ = some (.int .i64 30) ∧ W.cell? ⟨ab, 9, none⟩ = some (.int .i64 40)) ∧
      (W.cell? ⟨q5, 0, none⟩ = some (.int .i64 5) ∧ W.cell? ⟨q5, 1, none⟩ = some (.slice A5 2 c5)) ∧ (W.cell? ⟨q13, 0, none⟩ = some (.int .i64 5) ∧ W.cell? ⟨q13, 1, none⟩ = some (.slice A13 2 c13)) := by
    intro W hW
    have h2 := HE2.out.below hW
    obtain ⟨-, x1, x2, x3, x4⟩ := h2.at_.cells (i := 1) (c := ⟨7, 1, 20, 30, 40⟩) rfl
    exact ⟨hW, h2.facts.2, ⟨x1, x2, x3, x4⟩, (HE5.out.below hW).facts, (HE13.out.below hW).facts⟩
  have HS := Lib.hid FS
  clear FS
  have hV : ∀ W, (Op.equalIn 10000 46 (.agg #[.int .i64 1, .int .i64 20, .int .i64 30, .int .i64 40]) (.agg #[.int .i64 1, .int .i64 20, .int .i64 30, .int .i64 40])).run Tryz.prog W = .ok true W := fun W => by rw [v4_eq]; rfl
  go_cut [118] (fun v wx => v = .bool false ∧ Below w18.heap.size w18 wx)
  case first =>
    go_region_held3 (fun W => Below w18.heap.size w18 W ∧ W.cell? ⟨q2, 1, none⟩ = some (.slice (some ⟨ab, 0, none⟩) 2 c2) ∧
      (W.cell? ⟨ab, 6, none⟩ = some (.int .i64 1) ∧ W.cell? ⟨ab, 7, none⟩ = some (.int .i64 20) ∧ W.cell? ⟨ab, 8, none⟩ = some (.int .i64 30) ∧ W.cell? ⟨ab, 9, none⟩ = some (.int .i64 40)) ∧
      (W.cell? ⟨q5, 0, none⟩ = some (.int .i64 5) ∧ W.cell? ⟨q5, 1, none⟩ = some (.slice A5 2 c5)) ∧ (W.cell? ⟨q13, 0, none⟩ = some (.int .i64 5) ∧ W.cell? ⟨q13, 1, none⟩ = some (.slice A13 2 c13)))
      (first | exact HS.out _ ((Below.refl _ w18).drew) | (refine HS.out _ ?_; assumption))
      (first
      | (refine step_callG 16 [] _ rfl rfl (fun _ _ => rfl) _ rfl (entity_ok _) ?_
         rintro e w20 ⟨b20, rfl, hce, hb20⟩
         refine ⟨_, rfl, ?_⟩
         have hb21 : Below w18.heap.size w18 w20 := Below.trans (And.left (by assumption)) (hb20.mono (Below.size (And.left (by assumption))))
         have HE := Lib.hid (And.intro hce hb21); clear hce hb20)
      | (refine step_callG 12 [.tmp 100, .tmp 101] _ rfl rfl (fun _ _ => rfl) _ rfl (same_ent (HE5.out.at_.below HE.out.2 rfl) HE.out.1) ?_
         rintro e w22 ⟨rfl, hb22⟩
         refine ⟨_, rfl, ?_⟩
         have hb23 : Below w18.heap.size w18 w22 := HE.out.2.trans (hb22.mono HE.out.2.size)
         clear HE hb22)
      | (refine step_callG 12 [.tmp 114, .tmp 115] _ rfl rfl (fun _ _ => rfl) _ rfl (same_ent (HE13.out.at_.below HE.out.2 rfl) HE.out.1) ?_
         rintro e w22 ⟨rfl, hb22⟩
         refine ⟨_, rfl, ?_⟩
         have hb23 : Below w18.heap.size w18 w22 := HE.out.2.trans (hb22.mono HE.out.2.size)
         clear HE hb22))
    all_goals go_wp2_with fail
    all_goals go_meet
    all_goals exact ⟨rfl, hb23⟩
  case rest =>
  obtain ⟨rfl, hbx⟩ := hcut
  obtain ⟨w24, e24⟩ : ∃ w24, w24 = wc := ⟨_, rfl⟩
  rw [← e24] at hbx ⊢
  clear e24
  have h17 := HE17.out.below hbx
  have f1 := h17.facts.2
  obtain ⟨-, -, x2, -, -⟩ := h17.at_.cells (i := 1) (c := ⟨7, 10, -3, 30, 40⟩) rfl
  have y2 : w24.cell? ⟨db, 7, none⟩ = some (.int .i64 (-3)) := x2
  have HX := Lib.hid (HW.out.trans (hbx.mono HW.out.size))
  clear h17 hbx x2
  go_wp2_with fail
  go_ret
  exact ⟨rfl, HX.out⟩
end
end Go.Proofs.YtocbddajakbemaaGreat
