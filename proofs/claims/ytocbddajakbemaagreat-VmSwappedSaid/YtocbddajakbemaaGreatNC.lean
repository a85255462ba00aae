/- vm, the program's own front end: fine, whole. vm, the program's own front end: right, all, Printable: the closures. -/
import Derived.Test.YtocbddajakbemaaGreatNB
set_option linter.unusedVariables false
set_option linter.unusedSimpArgs false
set_option linter.unusedSimpArgs false
namespace Go.Proofs.YtocbddajakbemaaGreat
section
open Go.RowKit
structure BelZ (w W : World) : Prop where
  out : Below w.heap.size w W
theorem BelZ.drew {w W : World} (h : BelZ w W) : BelZ w W.drew := ⟨h.out.drew⟩
theorem BelZ.alloc {w W : World} (O : Obj) (h : BelZ w W) : BelZ w (W.alloc O) := ⟨h.out.alloc h.out.size O⟩
theorem BelZ.call {w W W' : World} (h : BelZ w W) (hb : Below W.heap.size W W') : BelZ w W' := ⟨h.out.trans (hb.mono h.out.size)⟩
theorem step_callZ {ops : Array Oper} {o : Oper} {a : Act} {w : World} {K : Act → World → Prop} {Q : Exit → Act → World → Prop} {E : Prop} (f : FuncId) (xs : List Operand) (ts : Array TypeId) (hw : Region.wanted o (yielded ops a.tmps) = true)
    (hop : o.op = .call { callee := .value (.func f), args := xs.toArray, argTypes := ts }) (hcall : ∀ args W, (callFunc f args).run Tryz.prog W = .ok (.enter f args) W) (args : List Value) (ha : xs.map a.eval = args)
    {R : Ending → World → Prop} (hc : Calls Tryz.prog f args.toArray w R) (hR : ∀ e w', R e w' → ∃ v, e = .returned v ∧ K (a.put o.dst v) w') :
    if Region.wanted o (yielded ops a.tmps) = true then Oper.wp Tryz.prog o a w K Q else E := by
  rw [if_pos hw]
  subst ha
  unfold Oper.wp
  have e1 : (execOp a.eval o).run Tryz.prog w = .ok (.enter f (xs.map a.eval).toArray) w := by
    simp [execOp, hop, resolve, invoke, Act.eval, hcall, Deferred.ofValue]
  rw [e1]
  refine Calls.mono hc fun e w' he => ?_
  obtain ⟨v, rfl, hk⟩ := hR e w' he
  exact hk
theorem toList_ne {s : ByteArray} (h : ¬ s.size = 0) : (s.toList == []) = false := by
  rw [beq_eq_false_iff_ne]
  intro e
  have := congrArg List.length e
  rw [ByteArray.toList_eq] at this
  simp at this
  exact h (by simpa using this)
theorem empty_of {s : ByteArray} (h : s.size = 0) : s = ⟨#[]⟩ := ByteArray.ext (Array.eq_empty_of_size_eq_zero h)
def badH (op m : Nat) (nm : ByteArray) : Bool := !((manyF op == (m : Int)) && ((op == 2) == !(nm.size == 0)) && ((nm.size == 0) || pnameM nm))
set_option maxRecDepth 100000 in
set_option maxHeartbeats 2000000 in
theorem fine_zero : FineC 0 := by
  intro x A c w hx h
  obtain ⟨op, n, nm, args⟩ := x
  show Calls Tryz.prog 113 #[.agg #[.int .u8 (op : Nat), .int .i64 n, .string nm, .slice A args.length c], .int .i64 ((0 : Nat) : Int)] w fun e w' => e = .returned (.bool false) ∧ Below w.heap.size w w'
  obtain ⟨m, em⟩ : ∃ m, m = args.length := ⟨_, rfl⟩
  rw [← em]
  clear em hx h
  obtain ⟨w2, e2⟩ : ∃ w2, w2 = (w.alloc (.cells #[.int .u8 (op : Nat), .int .i64 n, .string nm, .slice A m c] 34 (0, 0))).alloc (.cells #[.int .i64 0] 3 (0, 0)) := ⟨_, rfl⟩
  have hb : Below w.heap.size w w2 := by rw [e2]; exact ((Below.refl _ w).alloc (Nat.le_refl _) _).alloc (by simp) _
  have h1 : w2.heap[w.heap.size + 1]? = some (.cells #[.int .i64 0] 3 (0, 0)) := by
    rw [e2]
    have := heap_alloc_new (w.alloc (.cells #[.int .u8 (op : Nat), .int .i64 n, .string nm, .slice A m c] 34 (0, 0))) (.cells #[.int .i64 0] 3 (0, 0))
    simpa using this
  obtain ⟨g, eg⟩ : ∃ g, g = w.heap.size := ⟨_, rfl⟩
  have p0 : w2.cell? ⟨g + 1, 0, none⟩ = some (.int .i64 0) := by rw [eg]; exact (cell_of_block h1 0).trans rfl
  have HB := Lib.hid hb
  clear hb h1
  go_enter Tryz.func113, Tryz.ntmps113
  go_upto_region 1 with fail
  rw [← e2, ← eg]
  clear e2 eg
  go_quiet (fail)
  go_wp2_with fail
  go_ret
  exact ⟨rfl, below_drewN HB.out _⟩
set_option maxRecDepth 100000 in
set_option maxHeartbeats 8000000 in
theorem fine_succ (D : Nat) (hD : D + 1 ≤ 1000) (IH : FineC D) : FineC (D + 1) := by
  intro x A c w hx h
  have hfine : fineB (D + 1) x = (!(badH x.op x.args.length x.nm) && (if x.op = 1 then decide (0 ≤ x.n) else ((if x.op = 3 then kindB x.n else x.n == 0) && x.args.all (fineB D)))) := by
    simp only [fineB, badH, Bool.not_not]
  rw [hfine]
  clear hfine
  obtain ⟨op, n, nm, args⟩ := x
  show Calls Tryz.prog 113 #[.agg #[.int .u8 (op : Nat), .int .i64 n, .string nm, .slice A args.length c], .int .i64 ((D + 1 : Nat) : Int)] w fun e w' => e = .returned (.bool (!(badH op args.length nm) && (if op = 1 then decide (0 ≤ n) else ((if op = 3 then kindB n else n == 0) && args.all (fineB D))))) ∧ Below w.heap.size w w'
  have h : EsAt w (D + 1) A args := h
  obtain ⟨m, em⟩ : ∃ m, m = args.length := ⟨_, rfl⟩
  have hm : m ≤ 1000000 := by rw [em]; exact hx.2.2.2
  rw [← em]
  obtain ⟨K, eK⟩ : ∃ K : Int, K = ((D + 1 : Nat) : Int) := ⟨_, rfl⟩
  obtain ⟨w2, e2⟩ : ∃ w2, w2 = (w.alloc (.cells #[.int .u8 (op : Nat), .int .i64 n, .string nm, .slice A m c] 34 (0, 0))).alloc (.cells #[.int .i64 K] 3 (0, 0)) := ⟨_, rfl⟩
  have hb : Below w.heap.size w w2 := by rw [e2]; exact ((Below.refl _ w).alloc (Nat.le_refl _) _).alloc (by simp) _
  have h1 : w2.heap[w.heap.size + 1]? = some (.cells #[.int .i64 K] 3 (0, 0)) := by
    rw [e2]
    have := heap_alloc_new (w.alloc (.cells #[.int .u8 (op : Nat), .int .i64 n, .string nm, .slice A m c] 34 (0, 0))) (.cells #[.int .i64 K] 3 (0, 0))
    simpa using this
  have h0 : w2.heap[w.heap.size]? = some (.cells #[.int .u8 (op : Nat), .int .i64 n, .string nm, .slice A m c] 34 (0, 0)) := by
    rw [e2]; exact heap_alloc_fst w _ _
  obtain ⟨g, eg⟩ : ∃ g, g = w.heap.size := ⟨_, rfl⟩
  rw [← eg] at h0 h1
  have p0 : w2.cell? ⟨g + 1, 0, none⟩ = some (.int .i64 K) := (cell_of_block h1 0).trans rfl
  obtain ⟨f0, f1, f2, f3, -⟩ := ex_facts h0
  have hK : decide (K ≤ 0) = false := decide_eq_false (by omega)
  have MK := fun W => many_ok op W
  have NK := fun W => pName_ok nm W
  have H := Lib.hid (And.intro hb (And.intro h0 (And.intro h1 (And.intro h (And.intro em (And.intro eK (And.intro hm IH)))))))
  rw [← eK]
  clear hb h0 h1 h hx em eK hm IH
  obtain ⟨B, eB⟩ : ∃ B, B = badH op m nm := ⟨_, rfl⟩
  rw [← eB]
  obtain ⟨R, eR⟩ : ∃ R : Bool, R = (!B && (if op = 1 then decide (0 ≤ n) else ((if op = 3 then kindB n else n == 0) && args.all (fineB D)))) := ⟨_, rfl⟩
  rw [← eR]
  have HR := Lib.hid eR
  clear eR
  have HBB := Lib.hid eB
  clear eB
  go_enter Tryz.func113, Tryz.ntmps113
  go_upto_region 1 with fail
  rw [← e2, ← eg]
  have EG := Lib.hid eg
  clear e2 eg
  go_cut [35] (fun v wx => v = .bool B ∧ Below w2.heap.size w2 wx)
  case first =>
    have HM := Lib.hid MK
    have HN := Lib.hid NK
    clear MK NK
    by_cases q1 : manyF op = (m : Int)
    · have q1b : (manyF op != (m : Int)) = false := by simp [q1]
      by_cases q3 : nm.size = 0
      · obtain rfl := empty_of q3
        by_cases q2 : op = 2
        · have hB : B = true := by rw [HBB.out, q2]; unfold badH; rw [q3]; simp
          subst hB q2
          clear q3
          go_quiet ((go_at_call 126; exact quiet_of_eq (HM.out _)))
          go_wp2_with fail
          go_meet
          exact ⟨rfl, below_drewN (Below.refl _ _) _⟩
        · have hB : B = false := by rw [HBB.out]; unfold badH; rw [q3, q1]; simp [q2]
          have e2 : ((op : Int) == 2) = false := by simp; omega
          subst hB
          clear q3 q2
          go_quiet ((go_at_call 126; exact quiet_of_eq (HM.out _)))
          go_wp2_with fail
          go_meet
          exact ⟨rfl, below_drewN (Below.refl _ _) _⟩
      · have t1 := toList_ne q3
        have t2 : ¬ nm = ⟨#[]⟩ := fun e => q3 (by rw [e]; rfl)
        have t3 : (nm.size == 0) = false := by simpa using q3
        by_cases q2 : op = 2
        · have hB : B = !(pnameM nm) := by rw [HBB.out, q2]; unfold badH; rw [← q2, q1, t3]; simp
          subst q2
          have FS : ∀ Wz, BelZ w2 Wz → (Wz.cell? ⟨g, 0, none⟩ = some (.int .u8 2) ∧ Wz.cell? ⟨g, 2, none⟩ = some (.string nm) ∧ Wz.cell? ⟨g, 3, none⟩ = some (.slice A m c) ∧ Wz.cell? ⟨g + 1, 0, none⟩ = some (.int .i64 K)) ∧ BelZ w2 Wz := by
            intro Wz hB
            have cl : ∀ {a : Addr} {v : Value}, w2.cell? a = some v → Wz.cell? a = some v := fun h => (hB.out.cell (World.block_lt_of_cell? _ _ h)).trans h
            exact ⟨⟨cl f0, cl f2, cl f3, cl p0⟩, hB⟩
          have HFS := Lib.hid FS
          have B0 : BelZ w2 w2 := ⟨Below.refl _ _⟩
          obtain ⟨P, eP⟩ : ∃ P, P = pnameM nm := ⟨_, rfl⟩
          have NP : ∀ W, Calls Tryz.prog 109 #[.string nm] W fun e w' => e = .returned (.bool P) ∧ Below W.heap.size W w' := fun W => by rw [eP]; exact HN.out W
          rw [← eP] at hB
          have HNP := Lib.hid NP
          clear FS eP NP q3 f0 f1 f2 f3 p0
          subst hB
          go_region_held3 (fun Wz => (Wz.cell? ⟨g, 0, none⟩ = some (.int .u8 2) ∧ Wz.cell? ⟨g, 2, none⟩ = some (.string nm) ∧ Wz.cell? ⟨g, 3, none⟩ = some (.slice A m c) ∧ Wz.cell? ⟨g + 1, 0, none⟩ = some (.int .i64 K)) ∧ BelZ w2 Wz)
            ((refine HFS.out _ ?_; repeat (first | with_reducible assumption | with_reducible exact (And.right (by with_reducible assumption)) | with_reducible apply BelZ.drew)))
            (first
            | (refine step_callZ 126 [.tmp 9] _ rfl rfl (fun _ _ => rfl) _ rfl (HM.out _) ?_
               rintro e wq ⟨rfl, rfl⟩
               refine ⟨_, rfl, ?_⟩)
            | (refine step_callZ 109 [.tmp 31] _ rfl rfl (fun _ _ => rfl) _ rfl (HNP.out _) ?_
               rintro e wq ⟨rfl, hbq⟩
               refine ⟨_, rfl, ?_⟩
               have hbw : BelZ w2 wq := BelZ.call (And.right (by with_reducible assumption)) hbq
               clear hbq))
          all_goals go_wp2_with fail
          all_goals go_meet
          all_goals exact ⟨rfl, hbw.out⟩
        · have hB : B = true := by rw [HBB.out]; unfold badH; rw [t3]; simp [q2]
          have e2 : ((op : Int) == 2) = false := by simp; omega
          subst hB
          clear q3 q2 t3
          go_quiet ((go_at_call 126; exact quiet_of_eq (HM.out _)))
          go_wp2_with fail
          go_meet
          exact ⟨rfl, below_drewN (Below.refl _ _) _⟩
    · have q1b : (manyF op != (m : Int)) = true := by simp [q1]
      have hB : B = true := by rw [HBB.out]; unfold badH; simp [q1]
      subst hB
      go_quiet ((go_at_call 126; exact quiet_of_eq (HM.out _)))
      go_wp2_with fail
      go_meet
      exact ⟨rfl, below_drewN (Below.refl _ _) _⟩
  case rest =>
  obtain ⟨rfl, hbx⟩ := hcut
  obtain ⟨W, eW⟩ : ∃ W, W = wc := ⟨_, rfl⟩
  rw [← eW] at hbx ⊢
  clear eW MK NK f0 f1 f2 f3 p0 hK
  have hbw : Below w.heap.size w W := H.out.1.trans (hbx.mono H.out.1.size)
  have h0 := (hbx.block _ (lt_of_block H.out.2.1)).trans H.out.2.1
  have h1 := (hbx.block _ (lt_of_block H.out.2.2.1)).trans H.out.2.2.1
  have p0 : W.cell? ⟨g + 1, 0, none⟩ = some (.int .i64 K) := (cell_of_block h1 0).trans rfl
  obtain ⟨f0, f1, f2, f3, -⟩ := ex_facts h0
  obtain ⟨-, -, -, hrow, hem, heK, hm, IH⟩ := H.out
  have CE := containsE1_ok D (by omega) IH A m c args (g + 1) W hem hm (hrow.below hbw) (by rw [← heK]; exact p0)
  obtain ⟨Q, eQ⟩ : ∃ Q, Q = args.any (fun y => !(fineB D y)) := ⟨_, rfl⟩
  have hQ : (!Q) = args.all (fineB D) := by rw [eQ, List.not_any_eq_all_not]; simp
  rw [← eQ] at CE
  have HR2 := HR.out
  rw [← hQ] at HR2
  have HX := Lib.hid (And.intro hbw EG)
  have hmf : ∀ (fn : Fn) (first cap : Array Value) (w : World), (Instr.makeFunc fn first cap).run Tryz.prog w = .ok (.func fn first cap) w := fun _ _ _ _ => rfl
  clear hbx hbw h0 h1 hrow hem heK hm IH eQ hQ H HBB HR EG hD
  cases B
  · simp only [Bool.not_false, Bool.true_and] at HR2
    by_cases o1 : op = 1
    · subst o1
      rw [if_pos rfl] at HR2
      have HRR := Lib.hid HR2
      clear HR2
      go_wp2_with fail
      go_ret
      exact ⟨by rw [HRR.out]; rfl, HX.out.1⟩
    rw [if_neg o1] at HR2
    have q1 : ((op : Int) == 1) = false := by simp; omega
    by_cases o3 : op = 3
    · subst o3
      rw [if_pos rfl] at HR2
      have KD := fun W => pkind1_ok n W
      cases hk : kindB n
      · rw [hk] at HR2 KD
        have HRR := Lib.hid HR2
        clear HR2 hk q1 o1
        go_wp2_with (go_at_call 110; refine (KD _).mono ?_; rintro e wq ⟨rfl, rfl⟩)
        go_ret
        exact ⟨by rw [HRR.out]; rfl, HX.out.1⟩
      · rw [hk, Bool.true_and] at HR2
        rw [hk] at KD
        have HRR := Lib.hid HR2
        clear HR2 hk q1 o1
        go_wp2_with (first
          | (go_at_call 110; refine (KD _).mono ?_; rintro e wq ⟨rfl, rfl⟩)
          | (go_at_call 111; refine CE.mono ?_; rintro e w4 ⟨rfl, hb4⟩; have H4 := Lib.hid hb4; clear hb4))
        go_ret
        exact ⟨by rw [HRR.out]; rfl, HX.out.1.trans (H4.out.mono HX.out.1.size)⟩
    · rw [if_neg o3] at HR2
      have q3 : ((op : Int) == 3) = false := by simp; omega
      by_cases hn0 : n = 0
      · have z : (n == 0) = true := by simp [hn0]
        rw [z, Bool.true_and] at HR2
        have HRR := Lib.hid HR2
        subst hn0
        clear HR2 z o1 o3
        go_wp2_with (go_at_call 111; refine CE.mono ?_; rintro e w4 ⟨rfl, hb4⟩; have H4 := Lib.hid hb4; clear hb4)
        go_ret
        exact ⟨by rw [HRR.out]; rfl, HX.out.1.trans (H4.out.mono HX.out.1.size)⟩
      · have z : (n == 0) = false := by simpa using hn0
        rw [z, Bool.false_and] at HR2
        have HRR := Lib.hid HR2
        have z2 : (n != 0) = true := by simpa using hn0
        clear HR2 z o1 o3
        go_wp2_with fail
        go_ret
        exact ⟨by rw [HRR.out]; rfl, HX.out.1⟩
  · simp only [Bool.not_true, Bool.false_and] at HR2
    have HRR := Lib.hid HR2
    clear HR2
    go_wp2_with fail
    go_ret
    exact ⟨by rw [HRR.out]; rfl, HX.out.1⟩
theorem fine_all : ∀ D, D ≤ 1000 → FineC D := by
  intro D
  induction D with
  | zero => intro _; exact fine_zero
  | succ D ih => intro h; exact fine_succ D h (ih (by omega))
end
end Go.Proofs.YtocbddajakbemaaGreat
set_option linter.unusedSimpArgs false
namespace Go.Proofs.YtocbddajakbemaaGreat
section
open Go.RowKit
def SArgs (w : World) (D : Nat) (s : S0) (EA BA LA : Option Addr) : Prop := (∀ k, EsAt w k EA s.e) ∧ SsAt w D BA s.b ∧ SsAt w D LA s.els
theorem SArgs.below {w w' : World} {D : Nat} {s : S0} {EA BA LA : Option Addr} (h : SArgs w D s EA BA LA) (hb : Below w.heap.size w w') : SArgs w' D s EA BA LA := ⟨fun k => (h.1 k).below hb, h.2.1.below hb, h.2.2.below hb⟩
def RightC (D : Nat) : Prop := ∀ (s : S0) (EA : Option Addr) (ec : Nat) (BA : Option Addr) (bc : Nat) (LA : Option Addr) (lc : Nat) (w : World), SLim s → SArgs w D s EA BA LA →
  Calls Tryz.prog 87 #[s.agg EA ec BA bc LA lc, .int .i64 (D : Nat)] w fun e w' => e = .returned (.bool (rightS D s)) ∧ Below w.heap.size w w'
set_option maxRecDepth 100000 in
theorem right1_ok (x : E0) (A : Option Addr) (c : Nat) (w : World) (hx : ELim x) (h : EsAt w 40 A x.args) :
    Calls Tryz.prog 112 #[x.agg A c] w fun e w' => e = .returned (.bool (!(fineB 40 x))) ∧ Below w.heap.size w w' := by
  obtain ⟨op, n, nm, args⟩ := x
  obtain ⟨w1, e1⟩ : ∃ w1, w1 = w.alloc (.cells #[.int .u8 (op : Nat), .int .i64 n, .string nm, .slice A args.length c] 34 (0, 0)) := ⟨_, rfl⟩
  obtain ⟨g, eg⟩ : ∃ g, g = w.heap.size := ⟨_, rfl⟩
  have hb : Below w.heap.size w w1 := by rw [e1]; exact (Below.refl _ w).alloc (Nat.le_refl _) _
  have hk : w1.heap[g]? = some (.cells #[.int .u8 (op : Nat), .int .i64 n, .string nm, .slice A args.length c] 34 (0, 0)) := by rw [e1, eg]; exact heap_alloc_new w _
  have F := fine_all 40 (by decide) (.mk op n nm args) A c w1 hx (h.below hb)
  obtain ⟨f0, f1, f2, f3, -⟩ := ex_facts hk
  obtain ⟨R, eR⟩ : ∃ R, R = fineB 40 (.mk op n nm args) := ⟨_, rfl⟩
  rw [← eR] at F ⊢
  obtain ⟨m, em⟩ : ∃ m, m = args.length := ⟨_, rfl⟩
  show Calls Tryz.prog 112 #[.agg #[.int .u8 (op : Nat), .int .i64 n, .string nm, .slice A args.length c]] w _
  have F : Calls Tryz.prog 113 #[.agg #[.int .u8 (op : Nat), .int .i64 n, .string nm, .slice A args.length c], .int .i64 40] w1 fun e w' => e = .returned (.bool R) ∧ Below w1.heap.size w1 w' := F
  rw [← em] at F f3 e1 ⊢
  have HB := Lib.hid hb
  clear hb hk eR em hx h
  go_enter Tryz.func112, Tryz.ntmps112
  go_upto_region 1 with fail
  rw [← e1, ← eg]
  clear e1 eg
  go_wp2_with (go_at_call 113; refine F.mono ?_; rintro e w2 ⟨rfl, hb2⟩; have H2 := Lib.hid hb2; clear hb2)
  go_ret
  exact ⟨rfl, HB.out.trans (H2.out.mono HB.out.size)⟩
set_option maxRecDepth 100000 in
theorem indexE2_ok (A : Option Addr) (n cap : Nat) (l : List E0) (w : World) (hn : n = l.length) (hl : n ≤ 1000000) (h : EsAt w 41 A l) :
    Calls Tryz.prog 125 #[.slice A n cap, .func (.func 112) #[] #[]] w fun e w' => ∃ k, e = .returned (.int .i64 k) ∧ decide (0 ≤ k) = l.any (fun y => !(fineB 40 y)) ∧ Below w.heap.size w w' := by
  have H := Lib.hid (And.intro hn (And.intro hl h))
  clear hn hl h
  go_enter Tryz.func125, Tryz.ntmps125
  go_wp2_with fail
  go_loopg [8] n (fun gh iv wr => ∃ j : Nat, gh + j = n ∧ (∀ i y, i < j → l[i]? = some y → fineB 40 y = true) ∧ iv = .int .i64 (j : Nat) ∧ Below w.heap.size w wr)
  case atStart => exact ⟨0, rfl, fun i y h => by omega, rfl, Below.refl _ _⟩
  case round =>
    obtain ⟨j, hg, hall, rfl, hW⟩ := hrel
    obtain ⟨W, eW⟩ : ∃ W, W = wr := ⟨_, rfl⟩
    rw [← eW] at hW ⊢
    clear eW
    obtain ⟨hn, hl, hrow⟩ := H.out
    by_cases hlt : j < n
    · obtain ⟨x, hx⟩ : ∃ x, l[j]? = some x := ⟨_, List.getElem?_eq_getElem (by omega)⟩
      obtain ⟨b, o, A', c', rfl, hc, hd⟩ := hrow j x hx
      have hc := hc.below hW
      have F := right1_ok x A' c' W hc.lim (hd.below hW)
      obtain ⟨c0, c1, c2, c3, -, -⟩ := hc
      have i0 : (0 : Int) ≤ (j : Int) := by omega
      have i1 : (j : Int) < (n : Int) := by omega
      have i2 : decide (j < n) = true := decide_eq_true hlt
      have w2 : wrap64 ((j : Int) + 1) = (j : Int) + 1 := by unfold wrap64; omega
      have F : Calls Tryz.prog 112 #[.agg #[.int .u8 (x.op : Nat), .int .i64 x.n, .string x.nm, .slice A' x.args.length c']] W fun e w' => e = .returned (.bool (!(fineB 40 x))) ∧ Below W.heap.size W w' := F
      obtain ⟨R, eR⟩ : ∃ R, R = fineB 40 x := ⟨_, rfl⟩
      rw [← eR] at F
      have HX := Lib.hid (And.intro hx (And.intro hlt (And.intro hg (And.intro hall (And.intro hW eR)))))
      clear hx hlt hg hall hW eR hrow hd hn hl
      rcases R with _ | _
      · go_wp2_with (go_at_call 112; refine F.mono ?_; rintro e w3 ⟨rfl, hb3⟩; have H3 := Lib.hid hb3; clear hb3)
        go_ret
        refine ⟨(j : Nat), rfl, ?_, HX.out.2.2.2.2.1.trans (H3.out.mono HX.out.2.2.2.2.1.size)⟩
        have : l.any (fun y => !(fineB 40 y)) = true := by
          rw [List.any_eq_true]
          exact ⟨x, List.mem_of_getElem? HX.out.1, by rw [← HX.out.2.2.2.2.2]; rfl⟩
        rw [this]; simp
      · go_wp2_with (go_at_call 112; refine F.mono ?_; rintro e w3 ⟨rfl, hb3⟩; have H3 := Lib.hid hb3; clear hb3)
        go_roundg (n - (j + 1))
        case measure => have := HX.out.2.1; have := HX.out.2.2.1; omega
        case rel =>
          refine ⟨j + 1, by have := HX.out.2.1; omega, fun i y hi hy => ?_, by go_num, HX.out.2.2.2.2.1.trans (H3.out.mono HX.out.2.2.2.2.1.size)⟩
          by_cases hij : i < j
          · exact HX.out.2.2.2.1 i y hij hy
          · obtain rfl : i = j := by omega
            rw [HX.out.1] at hy
            injection hy with hy
            rw [← hy]; exact HX.out.2.2.2.2.2.symm
    · have i2 : decide (j < n) = false := decide_eq_false hlt
      have HX := Lib.hid (And.intro hlt (And.intro hall (And.intro hW hg)))
      clear hlt hall hW hg hrow hn hl
      go_wp2_with fail
      go_ret
      refine ⟨-1, rfl, ?_, HX.out.2.2.1⟩
      have : l.any (fun y => !(fineB 40 y)) = false := by
        rw [List.any_eq_false]
        intro y hy
        obtain ⟨i, hi⟩ := List.getElem?_of_mem hy
        have hlt := (List.getElem?_eq_some_iff.1 hi).1
        rw [HX.out.2.1 i y (by have := HX.out.1; have := H.out.1; omega) hi]; simp
      rw [this]; decide
theorem containsE2_ok (A : Option Addr) (n cap : Nat) (l : List E0) (w : World) (hn : n = l.length) (hl : n ≤ 1000000) (h : EsAt w 41 A l) :
    Calls Tryz.prog 111 #[.slice A n cap, .func (.func 112) #[] #[]] w fun e w' => e = .returned (.bool (l.any (fun y => !(fineB 40 y)))) ∧ Below w.heap.size w w' := by
  have I := indexE2_ok A n cap l w hn hl h
  obtain ⟨R, eR⟩ : ∃ R, R = l.any (fun y => !(fineB 40 y)) := ⟨_, rfl⟩
  rw [← eR] at I ⊢
  clear eR hn hl h
  go_enter Tryz.func111, Tryz.ntmps111
  go_wp2_with (go_at_call 125; refine I.mono ?_; rintro e w2 ⟨k, rfl, hk, hb2⟩; have H2 := Lib.hid hb2; clear hb2)
  go_ret
  exact ⟨rfl, H2.out⟩
set_option maxRecDepth 100000 in
theorem all1_ok (D : Nat) (IH : RightC D) (s : S0) (EA : Option Addr) (ec : Nat) (BA : Option Addr) (bc : Nat) (LA : Option Addr) (lc pb : Nat) (w : World) (hx : SLim s) (h : SArgs w D s EA BA LA) (hp : w.cell? ⟨pb, 0, none⟩ = some (.int .i64 (D : Nat))) :
    Calls Tryz.prog 86 #[s.agg EA ec BA bc LA lc, .pointer (some ⟨pb, 0, none⟩)] w fun e w' => e = .returned (.bool (!(rightS D s))) ∧ Below w.heap.size w w' := by
  obtain ⟨op, n, nm, e, b, els⟩ := s
  obtain ⟨me, eme⟩ : ∃ m, m = e.length := ⟨_, rfl⟩
  obtain ⟨mb, emb⟩ : ∃ m, m = b.length := ⟨_, rfl⟩
  obtain ⟨ml, eml⟩ : ∃ m, m = els.length := ⟨_, rfl⟩
  obtain ⟨w1, e1⟩ : ∃ w1, w1 = w.alloc (.cells #[.int .u8 (op : Nat), .int .i64 n, .string nm, .slice EA me ec, .slice BA mb bc, .slice LA ml lc] 39 (0, 0)) := ⟨_, rfl⟩
  obtain ⟨g, eg⟩ : ∃ g, g = w.heap.size := ⟨_, rfl⟩
  have hb : Below w.heap.size w w1 := by rw [e1]; exact (Below.refl _ w).alloc (Nat.le_refl _) _
  have hk : w1.heap[g]? = some (.cells #[.int .u8 (op : Nat), .int .i64 n, .string nm, .slice EA me ec, .slice BA mb bc, .slice LA ml lc] 39 (0, 0)) := by rw [e1, eg]; exact heap_alloc_new w _
  have hp1 : w1.cell? ⟨pb, 0, none⟩ = some (.int .i64 (D : Nat)) := (hb.cell (World.block_lt_of_cell? w _ hp)).trans hp
  have F := IH (.mk op n nm e b els) EA ec BA bc LA lc w1 hx (h.below hb)
  have f0 : w1.cell? ⟨g, 0, none⟩ = some (.int .u8 (op : Nat)) := (cell_of_block hk 0).trans rfl
  have f1 : w1.cell? ⟨g, 1, none⟩ = some (.int .i64 n) := (cell_of_block hk 1).trans rfl
  have f2 : w1.cell? ⟨g, 2, none⟩ = some (.string nm) := (cell_of_block hk 2).trans rfl
  have f3 : w1.cell? ⟨g, 3, none⟩ = some (.slice EA me ec) := (cell_of_block hk 3).trans rfl
  have f4 : w1.cell? ⟨g, 4, none⟩ = some (.slice BA mb bc) := (cell_of_block hk 4).trans rfl
  have f5 : w1.cell? ⟨g, 5, none⟩ = some (.slice LA ml lc) := (cell_of_block hk 5).trans rfl
  obtain ⟨R, eR⟩ : ∃ R, R = rightS D (.mk op n nm e b els) := ⟨_, rfl⟩
  rw [← eR] at F ⊢
  show Calls Tryz.prog 86 #[.agg #[.int .u8 (op : Nat), .int .i64 n, .string nm, .slice EA e.length ec, .slice BA b.length bc, .slice LA els.length lc], .pointer (some ⟨pb, 0, none⟩)] w _
  have F : Calls Tryz.prog 87 #[.agg #[.int .u8 (op : Nat), .int .i64 n, .string nm, .slice EA e.length ec, .slice BA b.length bc, .slice LA els.length lc], .int .i64 (D : Nat)] w1 fun e w' => e = .returned (.bool R) ∧ Below w1.heap.size w1 w' := F
  rw [← eme, ← emb, ← eml] at F ⊢
  have HB := Lib.hid hb
  clear hb hk eR eme emb eml hx h hp IH
  go_enter Tryz.func86, Tryz.ntmps86
  go_upto_region 1 with fail
  rw [← e1, ← eg]
  clear e1 eg
  go_wp2_with (go_at_call 87; refine F.mono ?_; rintro e w2 ⟨rfl, hb2⟩; have H2 := Lib.hid hb2; clear hb2)
  go_ret
  exact ⟨rfl, HB.out.trans (H2.out.mono HB.out.size)⟩
set_option maxRecDepth 100000 in
theorem indexS_ok (D : Nat) (IH : RightC D) (A : Option Addr) (n cap : Nat) (l : List S0) (pb : Nat) (w : World) (hn : n = l.length) (hl : n ≤ 1000000) (h : SsAt w (D + 1) A l) (hp : w.cell? ⟨pb, 0, none⟩ = some (.int .i64 (D : Nat))) :
    Calls Tryz.prog 108 #[.slice A n cap, .func (.func 86) #[] #[.pointer (some ⟨pb, 0, none⟩)]] w fun e w' => ∃ k, e = .returned (.int .i64 k) ∧ decide (0 ≤ k) = l.any (fun y => !(rightS D y)) ∧ Below w.heap.size w w' := by
  have H := Lib.hid (And.intro hn (And.intro hl (And.intro h (And.intro hp IH))))
  clear hn hl h hp IH
  go_enter Tryz.func108, Tryz.ntmps108
  go_wp2_with fail
  go_loopg [8] n (fun gh iv wr => ∃ j : Nat, gh + j = n ∧ (∀ i y, i < j → l[i]? = some y → rightS D y = true) ∧ iv = .int .i64 (j : Nat) ∧ Below w.heap.size w wr)
  case atStart => exact ⟨0, rfl, fun i y h => by omega, rfl, Below.refl _ _⟩
  case round =>
    obtain ⟨j, hg, hall, rfl, hW⟩ := hrel
    obtain ⟨W, eW⟩ : ∃ W, W = wr := ⟨_, rfl⟩
    rw [← eW] at hW ⊢
    clear eW
    obtain ⟨hn, hl, hrow, hp, IH⟩ := H.out
    by_cases hlt : j < n
    · obtain ⟨x, hx⟩ : ∃ x, l[j]? = some x := ⟨_, List.getElem?_eq_getElem (by omega)⟩
      obtain ⟨b, o, EA, ec, BA, bc, LA, lc, rfl, hc, hd⟩ := hrow j x hx
      have hc := hc.below hW
      have hpW := (hW.cell (World.block_lt_of_cell? w _ hp)).trans hp
      have F := all1_ok D IH x EA ec BA bc LA lc pb W hc.lim (SArgs.below (w := w) ⟨hd.1, hd.2.1, hd.2.2⟩ hW) hpW
      obtain ⟨c0, c1, c2, c3, c4, c5, -⟩ := hc
      have i0 : (0 : Int) ≤ (j : Int) := by omega
      have i1 : (j : Int) < (n : Int) := by omega
      have i2 : decide (j < n) = true := decide_eq_true hlt
      have w2 : wrap64 ((j : Int) + 1) = (j : Int) + 1 := by unfold wrap64; omega
      have F : Calls Tryz.prog 86 #[.agg #[.int .u8 (x.op : Nat), .int .i64 x.n, .string x.nm, .slice EA x.e.length ec, .slice BA x.b.length bc, .slice LA x.els.length lc], .pointer (some ⟨pb, 0, none⟩)] W fun e w' => e = .returned (.bool (!(rightS D x))) ∧ Below W.heap.size W w' := F
      obtain ⟨R, eR⟩ : ∃ R, R = rightS D x := ⟨_, rfl⟩
      rw [← eR] at F
      have HX := Lib.hid (And.intro hx (And.intro hlt (And.intro hg (And.intro hall (And.intro hW eR)))))
      clear hx hlt hg hall hW eR hrow hd hn hl hp hpW IH
      rcases R with _ | _
      · go_wp2_with (go_at_call 86; refine F.mono ?_; rintro e w3 ⟨rfl, hb3⟩; have H3 := Lib.hid hb3; clear hb3)
        go_ret
        refine ⟨(j : Nat), rfl, ?_, HX.out.2.2.2.2.1.trans (H3.out.mono HX.out.2.2.2.2.1.size)⟩
        have : l.any (fun y => !(rightS D y)) = true := by
          rw [List.any_eq_true]
          exact ⟨x, List.mem_of_getElem? HX.out.1, by rw [← HX.out.2.2.2.2.2]; rfl⟩
        rw [this]; simp
      · go_wp2_with (go_at_call 86; refine F.mono ?_; rintro e w3 ⟨rfl, hb3⟩; have H3 := Lib.hid hb3; clear hb3)
        go_roundg (n - (j + 1))
        case measure => have := HX.out.2.1; have := HX.out.2.2.1; omega
        case rel =>
          refine ⟨j + 1, by have := HX.out.2.1; omega, fun i y hi hy => ?_, by go_num, HX.out.2.2.2.2.1.trans (H3.out.mono HX.out.2.2.2.2.1.size)⟩
          by_cases hij : i < j
          · exact HX.out.2.2.2.1 i y hij hy
          · obtain rfl : i = j := by omega
            rw [HX.out.1] at hy
            injection hy with hy
            rw [← hy]; exact HX.out.2.2.2.2.2.symm
    · have i2 : decide (j < n) = false := decide_eq_false hlt
      have HX := Lib.hid (And.intro hlt (And.intro hall (And.intro hW hg)))
      clear hlt hall hW hg hrow hn hl hp IH
      go_wp2_with fail
      go_ret
      refine ⟨-1, rfl, ?_, HX.out.2.2.1⟩
      have : l.any (fun y => !(rightS D y)) = false := by
        rw [List.any_eq_false]
        intro y hy
        obtain ⟨i, hi⟩ := List.getElem?_of_mem hy
        have hlt := (List.getElem?_eq_some_iff.1 hi).1
        rw [HX.out.2.1 i y (by have := HX.out.1; have := H.out.1; omega) hi]; simp
      rw [this]; decide
theorem containsS_ok (D : Nat) (IH : RightC D) (A : Option Addr) (n cap : Nat) (l : List S0) (pb : Nat) (w : World) (hn : n = l.length) (hl : n ≤ 1000000) (h : SsAt w (D + 1) A l) (hp : w.cell? ⟨pb, 0, none⟩ = some (.int .i64 (D : Nat))) :
    Calls Tryz.prog 85 #[.slice A n cap, .func (.func 86) #[] #[.pointer (some ⟨pb, 0, none⟩)]] w fun e w' => e = .returned (.bool (l.any (fun y => !(rightS D y)))) ∧ Below w.heap.size w w' := by
  have I := indexS_ok D IH A n cap l pb w hn hl h hp
  obtain ⟨R, eR⟩ : ∃ R, R = l.any (fun y => !(rightS D y)) := ⟨_, rfl⟩
  rw [← eR] at I ⊢
  clear eR hn hl h hp IH
  go_enter Tryz.func85, Tryz.ntmps85
  go_wp2_with (go_at_call 108; refine I.mono ?_; rintro e w2 ⟨k, rfl, hk, hb2⟩; have H2 := Lib.hid hb2; clear hb2)
  go_ret
  exact ⟨rfl, H2.out⟩
set_option maxRecDepth 100000 in
theorem all_ok0 (D : Nat) (IH : RightC D) (A : Option Addr) (n cap : Nat) (l : List S0) (w : World) (hn : n = l.length) (hl : n ≤ 1000000) (h : SsAt w (D + 1) A l) :
    Calls Tryz.prog 51 #[.slice A n cap, .int .i64 (D : Nat)] w fun e w' => e = .returned (.bool (l.all (rightS D))) ∧ Below w.heap.size w w' := by
  obtain ⟨w1, e1⟩ : ∃ w1, w1 = w.alloc (.cells #[.int .i64 (D : Nat)] 3 (0, 0)) := ⟨_, rfl⟩
  obtain ⟨g, eg⟩ : ∃ g, g = w.heap.size := ⟨_, rfl⟩
  have hb : Below w.heap.size w w1 := by rw [e1]; exact (Below.refl _ w).alloc (Nat.le_refl _) _
  have hk : w1.heap[g]? = some (.cells #[.int .i64 (D : Nat)] 3 (0, 0)) := by rw [e1, eg]; exact heap_alloc_new w _
  have C := containsS_ok D IH A n cap l g w1 hn hl (h.below hb) ((cell_of_block hk 0).trans rfl)
  have hmf : ∀ (fn : Fn) (first cap : Array Value) (w : World), (Instr.makeFunc fn first cap).run Tryz.prog w = .ok (.func fn first cap) w := fun _ _ _ _ => rfl
  obtain ⟨Q, eQ⟩ : ∃ Q, Q = l.any (fun y => !(rightS D y)) := ⟨_, rfl⟩
  have hQ : l.all (rightS D) = !Q := by rw [eQ, List.not_any_eq_all_not]; simp
  rw [← eQ] at C
  rw [hQ]
  have HB := Lib.hid hb
  clear hb hk eQ hQ hn hl h IH
  go_enter Tryz.func51, Tryz.ntmps51
  go_upto_region 1 with fail
  rw [← e1, ← eg]
  clear e1 eg
  go_wp2_with (go_at_call 85; refine C.mono ?_; rintro e w2 ⟨rfl, hb2⟩; have H2 := Lib.hid hb2; clear hb2)
  go_ret
  exact ⟨rfl, HB.out.trans (H2.out.mono HB.out.size)⟩
end
end Go.Proofs.YtocbddajakbemaaGreat
