/- vm, plain: what VmBoth asks of its two programs: no draws, no stop. vm, plain: a program without draws does the same whatever the draws' number. vm, Great seat: the contract of marcheslaw14.draws. vm, Great seat: the contracts of marcheslaw14.stops and marcheslaw14.drawn. vm, plain: three runs: what VmBoth says of what was run. -/
import Derived.Test.YtocbddajakbemaaGreatNK
import Derived.Test.YtocbddajakbemaaGreatNY
import Derived.Test.YtocbddajakbemaaGreatOA
set_option linter.unusedVariables false
set_option linter.unusedSimpArgs false
set_option linter.unusedSimpArgs false
namespace Go.Proofs.YtocbddajakbemaaGreat
section
open Go.RowKit
mutual
def drawE : E0 → Bool
  | .mk op _ _ args => op == 6 || drawEs args
def drawEs : List E0 → Bool
  | [] => false
  | x :: l => drawE x || drawEs l
end
mutual
def drawnS : S0 → Bool
  | .mk _ _ _ e b els => drawEs e || drawnSs b || drawnSs els
def drawnSs : List S0 → Bool
  | [] => false
  | x :: l => drawnS x || drawnSs l
end
mutual
def stopS : S0 → Bool
  | .mk op _ _ _ b els => op == 6 || stopSs b || stopSs els
def stopSs : List S0 → Bool
  | [] => false
  | x :: l => stopS x || stopSs l
end
theorem drawE_cut {x : E0} (h : drawE x = false) : x.op ≠ 6 ∧ drawEs x.args = false := by
  cases x; simp only [drawE, Bool.or_eq_false_iff] at h
  exact ⟨by simpa [E0.op] using h.1, h.2⟩
theorem stopS_cut {s : S0} (h : stopS s = false) : s.op ≠ 6 ∧ stopSs s.b = false ∧ stopSs s.els = false := by
  cases s; simp only [stopS, Bool.or_eq_false_iff] at h
  exact ⟨by simpa [S0.op] using h.1.1, h.1.2, h.2⟩
def withK (r : Except Nat Int) (k : Int) : Except Nat (Int × Int) := match r with
  | .error e => .error e
  | .ok v => .ok (v, k)
theorem evX_free (S : Env0) (ν : List ByteArray) (ρ : List Int) (cs : List Cmp) : ∀ (n : Nat) (x : E0), drawE x = false → ∃ r : Except Nat Int, ∀ k, evX S ν ρ cs n x k = withK r k := by
  intro n
  induction n with
  | zero => intro x _; exact ⟨.error 0, fun k => rfl⟩
  | succ n ih =>
    intro x h
    obtain ⟨h6, ha⟩ := drawE_cut h
    simp only [evX]
    by_cases q1 : x.op = 1
    · exact ⟨.ok x.n, fun k => by simp [q1, withK]⟩
    by_cases q2 : x.op = 2
    · exact ⟨.ok (ρ.getD (idxM ν x.nm).toNat 0), fun k => by simp [q2, withK]⟩
    by_cases q4 : x.op = 4
    · exact ⟨.ok S.tick, fun k => by simp [q4, withK]⟩
    by_cases q5 : x.op = 5
    · exact ⟨.ok S.ID, fun k => by simp [q5, withK]⟩
    simp only [q1, q2, q4, q5, if_false]
    generalize x.args = args at *
    rcases args with _ | ⟨a, _ | ⟨b, _ | ⟨c, args⟩⟩⟩
    · exact ⟨.error 0, fun k => rfl⟩
    · simp only [drawEs, Bool.or_false] at ha
      obtain ⟨r, hr⟩ := ih a ha
      simp only [hr]
      cases r with
      | error e => exact ⟨.error e, fun k => rfl⟩
      | ok v =>
        simp only [withK, ev1, h6, if_false]
        by_cases q3 : x.op = 3
        · simp only [q3, if_true]
          cases hc : cs[idxC cs x.n]? with
          | none => exact ⟨.error 140, fun k => rfl⟩
          | some c =>
            simp only
            by_cases qv : v < 0 ∨ 3 < v
            · exact ⟨.error 141, fun k => by simp only [qv, if_true, withK]⟩
            · exact ⟨.ok (c.get v.toNat), fun k => by simp only [qv, if_false, withK]⟩
        · exact ⟨.ok (evV x.op v 0), fun k => by simp only [q3, if_false, withK]⟩
    · simp only [drawEs, Bool.or_false, Bool.or_eq_false_iff] at ha
      obtain ⟨r, hr⟩ := ih a ha.1
      obtain ⟨t, ht⟩ := ih b ha.2
      simp only [hr, ht]
      cases r with
      | error e => exact ⟨.error e, fun k => rfl⟩
      | ok v =>
        simp only [withK]
        by_cases z1 : x.op = 21 ∧ v = 0
        · exact ⟨.ok 0, fun k => by simp only [z1, and_self, if_true, withK]⟩
        by_cases z2 : x.op = 22 ∧ v ≠ 0
        · exact ⟨.ok 1, fun k => by rw [if_neg z1, if_pos z2]⟩
        simp only [z1, z2, if_false]
        cases t with
        | error e => exact ⟨.error e, fun k => rfl⟩
        | ok u =>
          simp only [ev2]
          by_cases z3 : x.op = 21 ∨ x.op = 22
          · exact ⟨.ok (tr (u != 0)), fun k => by rw [if_pos z3]⟩
          by_cases z4 : evE x.op u = 0
          · exact ⟨.ok (evV x.op v u), fun k => by rw [if_neg z3, if_pos z4]⟩
          · exact ⟨.error (evE x.op u), fun k => by rw [if_neg z3, if_neg z4]⟩
    · exact ⟨.error 0, fun k => rfl⟩
theorem exL_nostop (S : Env0) : ∀ (n : Nat) (l : List S0) (st : Pst) (cs : List Cmp), stopSs l = false → exL S n l st ≠ some (.stop cs) := by
  intro n
  induction n with
  | zero => intro l st cs _; rw [exL]; simp
  | succ n ih =>
    intro l st cs h
    cases l with
    | nil => rw [exL]; simp
    | cons s l =>
      have h0 := h
      simp only [stopSs, Bool.or_eq_false_iff] at h
      obtain ⟨hs, hl⟩ := h
      obtain ⟨h6, hb, he⟩ := stopS_cut hs
      rw [exL, if_neg h6]
      intro hh
      split at hh
      · simp at hh
      · split at hh
        · simp at hh
        · split at hh
          · simp at hh
          · split at hh
            · exact ih _ _ _ hl hh
            · split at hh
              · exact ih _ _ _ hl hh
              · split at hh
                · split at hh
                  · split at hh
                    · simp at hh
                    · split at hh
                      · simp at hh
                      · split at hh
                        · simp at hh
                        · exact ih _ _ _ hl hh
                  · simp at hh
                · split at hh
                  · split at hh
                    · exact ih _ _ _ hl hh
                    · refine ih _ _ _ ?_ hh
                      split
                      · exact he
                      · exact hb
                  · split at hh
                    · split at hh
                      · exact ih _ _ _ hl hh
                      · split at hh
                        · exact ih _ _ _ h0 hh
                        · exact ih _ _ _ hb hh
                    · simp at hh
end
end Go.Proofs.YtocbddajakbemaaGreat
set_option linter.unusedSimpArgs false
namespace Go.Proofs.YtocbddajakbemaaGreat
section
open Go.RowKit
def setK (k : Int) : Out → Out
  | .norm st => .norm ⟨st.ν, st.ρ, k, st.cs⟩
  | .stop cs => .stop cs
  | .err e => .err e
theorem drawnS_cut {s : S0} (h : drawnS s = false) : drawEs s.e = false ∧ drawnSs s.b = false ∧ drawnSs s.els = false := by
  cases s; simp only [drawnS, Bool.or_eq_false_iff] at h
  exact ⟨h.1.1, h.1.2, h.2⟩
theorem exL_free (S : Env0) : ∀ (n : Nat) (l : List S0) (ν : List ByteArray) (ρ : List Int) (cs : List Cmp) (k k0 : Int), drawnSs l = false → exL S n l ⟨ν, ρ, k, cs⟩ = (exL S n l ⟨ν, ρ, k0, cs⟩).map (setK k) := by
  intro n
  induction n with
  | zero => intro l ν ρ cs k k0 _; rw [exL, exL]; rfl
  | succ n ih =>
    intro l ν ρ cs k k0 h
    cases l with
    | nil => rw [exL, exL]; rfl
    | cons s l =>
      have h0 := h
      simp only [drawnSs, Bool.or_eq_false_iff] at h
      obtain ⟨hs, hl⟩ := h
      obtain ⟨hE, hb, he⟩ := drawnS_cut hs
      rw [exL, exL]
      by_cases q6 : s.op = 6
      · rw [if_pos q6, if_pos q6]; rfl
      rw [if_neg q6, if_neg q6]
      by_cases q7 : s.op = 7
      · rw [if_pos q7, if_pos q7]; rfl
      rw [if_neg q7, if_neg q7]
      generalize s.e = E at *
      cases E with
      | nil => rfl
      | cons a es =>
        simp only [drawEs, Bool.or_eq_false_iff] at hE
        obtain ⟨r, hr⟩ := evX_free S ν ρ cs 40 a hE.1
        simp only [ev, hr]
        cases r with
        | error e => rfl
        | ok v =>
          simp only [withK]
          by_cases q1 : s.op = 1
          · rw [if_pos q1, if_pos q1]; exact ih _ _ _ _ _ _ hl
          rw [if_neg q1, if_neg q1]
          by_cases q2 : s.op = 2
          · rw [if_pos q2, if_pos q2]; exact ih _ _ _ _ _ _ hl
          rw [if_neg q2, if_neg q2]
          by_cases q3 : s.op = 3
          · rw [if_pos q3, if_pos q3]
            rcases es with _ | ⟨b, _ | ⟨c, es⟩⟩
            · rfl
            · simp only [drawEs, Bool.or_false] at hE
              obtain ⟨t, ht⟩ := evX_free S ν ρ cs 40 b hE.2
              simp only [ht]
              cases t with
              | error e => rfl
              | ok u =>
                simp only [withK]
                cases hc : cs[idxC cs s.n]? with
                | none => rfl
                | some c =>
                  simp only
                  by_cases qv : v < 0 ∨ 3 < v
                  · rw [if_pos qv, if_pos qv]; rfl
                  · rw [if_neg qv, if_neg qv]; exact ih _ _ _ _ _ _ hl
            · rfl
          rw [if_neg q3, if_neg q3]
          by_cases q4 : s.op = 4
          · rw [if_pos q4, if_pos q4]
            rw [ih (if v = 0 then s.els else s.b) ν ρ cs k k0 (by split; exact he; exact hb)]
            cases exL S n (if v = 0 then s.els else s.b) ⟨ν, ρ, k0, cs⟩ with
            | none => rfl
            | some o =>
              cases o with
              | norm st' => exact ih _ _ _ _ _ _ hl
              | stop c => rfl
              | err e => rfl
          rw [if_neg q4, if_neg q4]
          by_cases q5 : s.op = 5
          · rw [if_pos q5, if_pos q5]
            by_cases qv : v = 0
            · rw [if_pos qv, if_pos qv]; exact ih _ _ _ _ _ _ hl
            rw [if_neg qv, if_neg qv]
            rw [ih s.b ν ρ cs k k0 hb]
            cases exL S n s.b ⟨ν, ρ, k0, cs⟩ with
            | none => rfl
            | some o =>
              cases o with
              | norm st' => exact ih _ _ _ _ _ _ h0
              | stop c => rfl
              | err e => rfl
          rw [if_neg q5, if_neg q5]; rfl
end
end Go.Proofs.YtocbddajakbemaaGreat
set_option linter.unusedSimpArgs false
namespace Go.Proofs.YtocbddajakbemaaGreat
section
open Go.RowKit
def DrC (s : Nat) : Prop := ∀ (x : E0) (A : Option Addr) (c : Nat) (w : World), SizeOf.sizeOf x ≤ s → EZ x → (∀ d, EsZ w d A x.args) →
  Calls Tryz.prog 19 #[x.agg A c] w fun e w' => e = .returned (.bool (drawE x)) ∧ Below w.heap.size w w'
theorem drawEs_take : ∀ (l : List E0) (j : Nat) (x : E0), l[j]? = some x → drawEs (l.take (j + 1)) = (drawEs (l.take j) || drawE x) := by
  intro l
  induction l with
  | nil => intro j x h; simp at h
  | cons y l ih =>
    intro j x h
    cases j with
    | zero => simp at h; subst h; simp [drawEs]
    | succ j => simp at h; simp [drawEs, ih j x h, Bool.or_assoc]
set_option maxRecDepth 100000 in
set_option maxHeartbeats 4000000 in
theorem draws_succ (s : Nat) (IH : DrC s) : DrC (s + 1) := by
  intro x A c w hs hx h
  obtain ⟨op, n, nm, args⟩ := x
  show Calls Tryz.prog 19 #[.agg #[.int .u8 (op : Nat), .int .i64 n, .string nm, .slice A args.length c]] w _
  obtain ⟨m, em⟩ : ∃ m, m = args.length := ⟨_, rfl⟩
  have hm : m ≤ 9223372036854775807 := by rw [em]; exact hx.2.2.2.1
  rw [← em]
  obtain ⟨w2, e2⟩ : ∃ w2, w2 = w.alloc (.cells #[.int .u8 (op : Nat), .int .i64 n, .string nm, .slice A m c] 34 (0, 0)) := ⟨_, rfl⟩
  have hb : Below w.heap.size w w2 := by rw [e2]; exact (Below.refl _ w).alloc (Nat.le_refl _) _
  have h0 : w2.heap[w.heap.size]? = some (.cells #[.int .u8 (op : Nat), .int .i64 n, .string nm, .slice A m c] 34 (0, 0)) := by
    rw [e2]; exact heap_alloc_new w _
  obtain ⟨g, eg⟩ : ∃ g, g = w.heap.size := ⟨_, rfl⟩
  rw [← eg] at h0
  obtain ⟨f0, f1, f2, f3, -⟩ := ex_facts h0
  obtain ⟨B0, eB0⟩ : ∃ B0, B0 = (op == 6) := ⟨_, rfl⟩
  have tB : ((op : Int) == 6) = B0 := by
    rw [eB0]
    by_cases q : op = 6
    · subst q; rfl
    · have q1 : ((op : Int) == 6) = false := by simp; omega
      have q2 : (op == 6) = false := by simp [q]
      rw [q1, q2]
  have H := Lib.hid (And.intro hb (And.intro h (And.intro em (And.intro hm (And.intro IH (And.intro hs (And.intro f3 eB0)))))))
  clear hb h0 h hx em hm IH hs f3 f1 f2 eB0
  go_enter Tryz.func19, Tryz.ntmps19
  go_upto_region 1 with fail
  rw [← e2, ← eg]
  have EG := Lib.hid eg
  clear e2 eg
  go_wp2_with fail
  go_loopg [3, 4] m (fun gh nv iv wr => ∃ (j : Nat) (b : Bool), gh + j = m ∧ nv = .bool b ∧ iv = .int .i64 (j : Nat) ∧ b = (B0 || drawEs (args.take j)) ∧ Below w2.heap.size w2 wr)
  case atStart => exact ⟨0, B0, rfl, by first | rfl | rw [tB], rfl, by simp [drawEs], Below.refl _ _⟩
  case round =>
    obtain ⟨j, b, hg, rfl, rfl, hN, hW⟩ := hrel
    obtain ⟨W, eW⟩ : ∃ W, W = wr := ⟨_, rfl⟩
    rw [← eW] at hW ⊢
    clear eW
    obtain ⟨hb, h, em, hm, IH, hs, f3, eB0⟩ := H.out
    have f3W := (hW.cell (World.block_lt_of_cell? w2 _ f3)).trans f3
    by_cases hlt : j < m
    · have i2 : decide (j < m) = true := decide_eq_true hlt
      obtain ⟨x, hx⟩ : ∃ x, args[j]? = some x := ⟨_, List.getElem?_eq_getElem (by omega)⟩
      obtain ⟨b9, o, A', c', eA, hc, -⟩ := h 1 j x hx
      have hd : ∀ d, EsZ w d A' x.args := by
        intro d
        obtain ⟨b2, o2, A2, c2, eA2, hc2, hd2⟩ := h (d + 1) j x hx
        rw [eA] at eA2
        simp only [Option.some.injEq, Addr.mk.injEq] at eA2
        obtain ⟨rfl, rfl, -⟩ := eA2
        have e3 := hc.c3.symm.trans hc2.c3
        simp only [Option.some.injEq, Value.slice.injEq] at e3
        rw [e3.1]; exact hd2
      have hbW : Below w.heap.size w W := hb.trans (hW.mono hb.size)
      have hcW := hc.below hbW
      have F := IH x A' c' W (by have := sizeOf_args op n nm args j x hx; omega) hc.lim (fun d => (hd d).below hbW)
      obtain ⟨c0, c1, c2, c3, -, -⟩ := hcW
      have i0 : (0 : Int) ≤ (j : Int) := by omega
      have i1 : (j : Int) < (m : Int) := by omega
      have u2 : wrap64 ((j : Int) + 1) = (j : Int) + 1 := by unfold wrap64; omega
      obtain ⟨R, eR⟩ : ∃ R, R = drawE x := ⟨_, rfl⟩
      have F : Calls Tryz.prog 19 #[.agg #[.int .u8 (x.op : Nat), .int .i64 x.n, .string x.nm, .slice A' x.args.length c']] W fun e w' => e = .returned (.bool R) ∧ Below W.heap.size W w' := by rw [eR]; exact F
      subst eA
      have HX := Lib.hid (And.intro hx (And.intro hlt (And.intro hg (And.intro hN (And.intro hW eR)))))
      clear hx hlt hg hN hW eR h hc hd hbW hb em hm IH hs f3 eB0 tB
      rcases b with _ | _
      · go_wp2_with (go_at_call 19; refine F.mono ?_; rintro e w3 ⟨rfl, hb3⟩; have H3 := Lib.hid hb3; clear hb3)
        go_roundg (m - (j + 1))
        case measure => have := HX.out.2.1; have := HX.out.2.2.1; omega
        case rel =>
          obtain ⟨hx, hlt, hg, hN, hW, eR⟩ := HX.out
          refine ⟨j + 1, R, by omega, by first | rfl | go_num, by go_num, ?_, hW.trans (H3.out.mono hW.size)⟩
          rw [drawEs_take args j x hx, ← Bool.or_assoc, ← hN, eR]; rfl
      · go_wp2_with fail
        go_roundg (m - (j + 1))
        case measure => have := HX.out.2.1; have := HX.out.2.2.1; omega
        case rel =>
          obtain ⟨hx, hlt, hg, hN, hW, eR⟩ := HX.out
          refine ⟨j + 1, true, by omega, by first | rfl | go_num, by go_num, ?_, hW⟩
          rw [drawEs_take args j x hx, ← Bool.or_assoc, ← hN]; rfl
    · have i2 : decide (j < m) = false := decide_eq_false hlt
      have HX := Lib.hid (And.intro hlt (And.intro hN hW))
      clear hlt hg hN hW h hb em hm IH hs f3 eB0 tB
      go_wp2_with fail
      go_ret
      obtain ⟨hlt, hN, hW⟩ := HX.out
      have eb : b = drawE (.mk op n nm args) := by
        rw [hN, List.take_of_length_le (by have := H.out.2.2.1; omega), H.out.2.2.2.2.2.2.2]
        simp only [drawE]
      exact ⟨(show Ending.returned (.bool b) = _ by rw [eb]), H.out.1.trans (hW.mono H.out.1.size)⟩
theorem draws_all : ∀ s, DrC s := by
  intro s
  induction s with
  | zero =>
    intro x A c w hs
    exfalso
    obtain ⟨op, n, nm, args⟩ := x
    simp only [E0.mk.sizeOf_spec] at hs
    omega
  | succ s ih => exact draws_succ s ih
theorem draws_ok (x : E0) (A : Option Addr) (c : Nat) (w : World) (hx : EZ x) (h : ∀ d, EsZ w d A x.args) :
    Calls Tryz.prog 19 #[x.agg A c] w fun e w' => e = .returned (.bool (drawE x)) ∧ Below w.heap.size w w' :=
  draws_all _ x A c w (Nat.le_refl _) hx h
end
end Go.Proofs.YtocbddajakbemaaGreat
set_option linter.unusedSimpArgs false
namespace Go.Proofs.YtocbddajakbemaaGreat
section
open Go.RowKit
theorem SsZ.one {w : World} {A : Option Addr} {l : List S0} (h : ∀ d, SsZ w d A l) {j : Nat} {x : S0} (hj : l[j]? = some x) : ∃ b o EA ec BA bc LA lc, A = some ⟨b, o, none⟩ ∧ SCz w b (o + j * 6) x EA ec BA bc LA lc ∧ (∀ d, EsZ w d EA x.e) ∧ (∀ d, SsZ w d BA x.b) ∧ ∀ d, SsZ w d LA x.els := by
  obtain ⟨b, o, EA, ec, BA, bc, LA, lc, eA, hc, he, -⟩ := h 1 j x hj
  have hd : ∀ d, SsZ w d BA x.b ∧ SsZ w d LA x.els := by
    intro d
    obtain ⟨b2, o2, EA2, ec2, BA2, bc2, LA2, lc2, eA2, hc2, -, hd2, hd3⟩ := h (d + 1) j x hj
    rw [eA] at eA2
    simp only [Option.some.injEq, Addr.mk.injEq] at eA2
    obtain ⟨rfl, rfl, -⟩ := eA2
    have e4 := hc.c4.symm.trans hc2.c4
    have e5 := hc.c5.symm.trans hc2.c5
    simp only [Option.some.injEq, Value.slice.injEq] at e4 e5
    rw [e4.1, e5.1]; exact ⟨hd2, hd3⟩
  exact ⟨b, o, EA, ec, BA, bc, LA, lc, eA, hc, he, fun d => (hd d).1, fun d => (hd d).2⟩
theorem EsZ.one {w : World} {A : Option Addr} {l : List E0} (h : ∀ d, EsZ w d A l) {j : Nat} {x : E0} (hj : l[j]? = some x) : ∃ b o A' c, A = some ⟨b, o, none⟩ ∧ ECz w b (o + j * 4) x A' c ∧ ∀ d, EsZ w d A' x.args := by
  obtain ⟨b, o, A', c, eA, hc, -⟩ := h 1 j x hj
  refine ⟨b, o, A', c, eA, hc, fun d => ?_⟩
  obtain ⟨b2, o2, A2, c2, eA2, hc2, hd2⟩ := h (d + 1) j x hj
  rw [eA] at eA2
  simp only [Option.some.injEq, Addr.mk.injEq] at eA2
  obtain ⟨rfl, rfl, -⟩ := eA2
  have e3 := hc.c3.symm.trans hc2.c3
  simp only [Option.some.injEq, Value.slice.injEq] at e3
  rw [e3.1]; exact hd2
theorem stops_take : ∀ (l : List S0) (j : Nat) (x : S0), l[j]? = some x → stopSs (l.take (j + 1)) = (((stopSs (l.take j) || (x.op == 6)) || stopSs x.b) || stopSs x.els) := by
  intro l
  induction l with
  | nil => intro j x h; simp at h
  | cons y l ih =>
    intro j x h
    cases j with
    | zero => simp at h; subst h; cases y; simp [stopSs, stopS, S0.op, S0.b, S0.els]
    | succ j => simp at h; simp [stopSs, ih j x h, Bool.or_assoc]
def StpR (l : List S0) (A : Option Addr) (c : Nat) (w : World) : Prop :=
  Calls Tryz.prog 9 #[.slice A l.length c] w fun e w' => e = .returned (.bool (stopSs l)) ∧ Below w.heap.size w w'
def StpC (s : Nat) : Prop := ∀ (l : List S0) (A : Option Addr) (c : Nat) (w : World), SizeOf.sizeOf l ≤ s → l.length ≤ 9223372036854775807 → (∀ d, SsZ w d A l) → StpR l A c w
theorem eq6 (op : Nat) : ((op : Int) == 6) = (op == 6) := by
  by_cases q : op = 6
  · subst q; rfl
  · have q1 : ((op : Int) == 6) = false := by simp; omega
    have q2 : (op == 6) = false := by simp [q]
    rw [q1, q2]
set_option maxRecDepth 100000 in
set_option maxHeartbeats 4000000 in
theorem stops_succ (s : Nat) (IH : StpC s) : StpC (s + 1) := by
  intro l A c w hs hm h
  unfold StpR
  obtain ⟨ln, em⟩ : ∃ ln, ln = l.length := ⟨_, rfl⟩
  rw [← em] at hm ⊢
  have H := Lib.hid (And.intro em (And.intro hm (And.intro h (And.intro IH hs))))
  clear em hm h IH hs
  go_enter Tryz.func9, Tryz.ntmps9
  go_wp2_with fail
  go_loopg [3, 4] ln (fun gh nv iv wr => ∃ (j : Nat) (b : Bool), gh + j = ln ∧ nv = .bool b ∧ iv = .int .i64 (j : Nat) ∧ b = stopSs (l.take j) ∧ Below w.heap.size w wr)
  case atStart => exact ⟨0, false, rfl, rfl, rfl, by simp [stopSs], Below.refl _ _⟩
  case round =>
    obtain ⟨j, b, hg, rfl, rfl, hN, hW⟩ := hrel
    obtain ⟨W, eW⟩ : ∃ W, W = wr := ⟨_, rfl⟩
    rw [← eW] at hW ⊢
    clear eW
    obtain ⟨em, hm, h, IH, hs⟩ := H.out
    by_cases hlt : j < ln
    · have i2 : decide (j < ln) = true := decide_eq_true hlt
      obtain ⟨x, hx⟩ : ∃ x, l[j]? = some x := ⟨_, List.getElem?_eq_getElem (by omega)⟩
      obtain ⟨b9, o, EA, ec, BA, bc, LA, lc, eA, hc, -, hbd, hel⟩ := SsZ.one h hx
      subst eA
      have F1 := IH x.b BA bc W (by have := (sizeOf_stmt l j x hx).1; omega) hc.lim.2.2.2.2.1 (fun d => (hbd d).below hW)
      have F2 : ∀ (W3 : World), Below W.heap.size W W3 → StpR x.els LA lc W3 := fun W3 hb3 => IH x.els LA lc W3 (by have := (sizeOf_stmt l j x hx).2; omega) hc.lim.2.2.2.2.2.1 (fun d => (hel d).below (hW.trans (hb3.mono hW.size)))
      obtain ⟨c0, -, -, -, c4, c5, -⟩ := hc.below hW
      have i0 : (0 : Int) ≤ (j : Int) := by omega
      have i1 : (j : Int) < (ln : Int) := by omega
      have u2 : wrap64 ((j : Int) + 1) = (j : Int) + 1 := w64z _ (by omega) (by omega)
      have tk := stops_take l j x hx
      rw [← hN] at tk
      have tB := eq6 x.op
      unfold StpR at F1 F2
      obtain ⟨B0, eB0⟩ : ∃ B0, B0 = (x.op == 6) := ⟨_, rfl⟩
      obtain ⟨R1, eR1⟩ : ∃ R, R = stopSs x.b := ⟨_, rfl⟩
      obtain ⟨R2, eR2⟩ : ∃ R, R = stopSs x.els := ⟨_, rfl⟩
      rw [← eB0] at tB
      rw [← eB0, ← eR1, ← eR2] at tk
      rw [← eR1] at F1
      rw [← eR2] at F2
      have HF := Lib.hid F2
      have HX := Lib.hid (And.intro hlt (And.intro hg (And.intro hW tk)))
      clear hlt hg hN hW tk h hc hbd hel em hm IH hs hx eB0 eR1 eR2 F2
      rcases b with _ | _
      · rcases B0 with _ | _
        · rcases R1 with _ | _
          · go_wp2_with (go_at_call 9; first
              | (refine F1.mono ?_; rintro e w3 ⟨rfl, hb3⟩; have F3 := HF.out w3 hb3; have k5 := (hb3.cell (World.block_lt_of_cell? W _ c5)).trans c5; have HR := Lib.hid hb3; clear hb3 F1 c0 c4 c5)
              | (refine F3.mono ?_; rintro e w4 ⟨rfl, hb4⟩; have HR2 := Lib.hid hb4; clear hb4 F3))
            go_roundg (ln - (j + 1))
            case measure => have := HX.out.1; have := HX.out.2.1; omega
            case rel =>
              obtain ⟨hlt, hg, hW, tk⟩ := HX.out
              have hb3 := HR.out
              exact ⟨j + 1, R2, by omega, by first | rfl | go_num, by go_num, by rw [tk]; rfl, hW.trans ((hb3.trans (HR2.out.mono hb3.size)).mono hW.size)⟩
          · go_wp2_with (go_at_call 9; refine F1.mono ?_; rintro e w3 ⟨rfl, hb3⟩; have HR := Lib.hid hb3; clear hb3 F1)
            go_roundg (ln - (j + 1))
            case measure => have := HX.out.1; have := HX.out.2.1; omega
            case rel =>
              obtain ⟨hlt, hg, hW, tk⟩ := HX.out
              exact ⟨j + 1, true, by omega, by first | rfl | go_num, by go_num, by rw [tk]; rfl, hW.trans (HR.out.mono hW.size)⟩
        · go_wp2_with fail
          go_roundg (ln - (j + 1))
          case measure => have := HX.out.1; have := HX.out.2.1; omega
          case rel =>
            obtain ⟨hlt, hg, hW, tk⟩ := HX.out
            exact ⟨j + 1, true, by omega, by first | rfl | go_num, by go_num, by rw [tk]; rfl, hW⟩
      · go_wp2_with fail
        go_roundg (ln - (j + 1))
        case measure => have := HX.out.1; have := HX.out.2.1; omega
        case rel =>
          obtain ⟨hlt, hg, hW, tk⟩ := HX.out
          exact ⟨j + 1, true, by omega, by first | rfl | go_num, by go_num, by rw [tk]; rfl, hW⟩
    · have i2 : decide (j < ln) = false := decide_eq_false hlt
      have HX := Lib.hid (And.intro hlt (And.intro hN hW))
      clear hlt hg hN hW h em hm IH hs
      go_wp2_with fail
      go_ret
      obtain ⟨hlt, hN, hW⟩ := HX.out
      have eb : b = stopSs l := by rw [hN, List.take_of_length_le (by have := H.out.1; omega)]
      exact ⟨(show Ending.returned (.bool b) = _ by rw [eb]), hW⟩
theorem stops_all : ∀ s, StpC s := by
  intro s
  induction s with
  | zero =>
    intro l A c w hs
    exfalso
    cases l <;> simp at hs
  | succ s ih => exact stops_succ s ih
theorem stops_ok (l : List S0) (A : Option Addr) (c : Nat) (w : World) (hm : l.length ≤ 9223372036854775807) (h : ∀ d, SsZ w d A l) :
    Calls Tryz.prog 9 #[.slice A l.length c] w fun e w' => e = .returned (.bool (stopSs l)) ∧ Below w.heap.size w w' :=
  stops_all _ l A c w (Nat.le_refl _) hm h
theorem drawn_take : ∀ (l : List S0) (j : Nat) (x : S0), l[j]? = some x → drawnSs (l.take (j + 1)) = (((drawnSs (l.take j) || drawEs x.e) || drawnSs x.b) || drawnSs x.els) := by
  intro l
  induction l with
  | nil => intro j x h; simp at h
  | cons y l ih =>
    intro j x h
    cases j with
    | zero => simp at h; subst h; cases y; simp [drawnSs, drawnS, S0.e, S0.b, S0.els]
    | succ j => simp at h; simp [drawnSs, ih j x h, Bool.or_assoc]
def DwR (l : List S0) (A : Option Addr) (c : Nat) (w : World) : Prop :=
  Calls Tryz.prog 10 #[.slice A l.length c] w fun e w' => e = .returned (.bool (drawnSs l)) ∧ Below w.heap.size w w'
def DwC (s : Nat) : Prop := ∀ (l : List S0) (A : Option Addr) (c : Nat) (w : World), SizeOf.sizeOf l ≤ s → l.length ≤ 9223372036854775807 → (∀ d, SsZ w d A l) → DwR l A c w
set_option maxRecDepth 100000 in
set_option maxHeartbeats 4000000 in
theorem drawn_succ (s : Nat) (IH : DwC s) : DwC (s + 1) := by
  intro l A c w hs hm h
  unfold DwR
  obtain ⟨ln, em⟩ : ∃ ln, ln = l.length := ⟨_, rfl⟩
  rw [← em] at hm ⊢
  have H := Lib.hid (And.intro em (And.intro hm (And.intro h (And.intro IH hs))))
  clear em hm h IH hs
  go_enter Tryz.func10, Tryz.ntmps10
  go_wp2_with fail
  go_loopg [3, 4] ln (fun gh nv iv wr => ∃ (j : Nat) (b : Bool), gh + j = ln ∧ nv = .bool b ∧ iv = .int .i64 (j : Nat) ∧ b = drawnSs (l.take j) ∧ Below w.heap.size w wr)
  case atStart => exact ⟨0, false, rfl, rfl, rfl, by simp [drawnSs], Below.refl _ _⟩
  case round =>
    obtain ⟨j, b, hg, rfl, rfl, hN, hW⟩ := hrel
    obtain ⟨W, eW⟩ : ∃ W, W = wr := ⟨_, rfl⟩
    rw [← eW] at hW ⊢
    clear eW
    obtain ⟨em, hm, h, IH, hs⟩ := H.out
    by_cases hlt : j < ln
    · have i2 : decide (j < ln) = true := decide_eq_true hlt
      obtain ⟨x, hx⟩ : ∃ x, l[j]? = some x := ⟨_, List.getElem?_eq_getElem (by omega)⟩
      obtain ⟨b9, o, EA, ec, BA, bc, LA, lc, eA, hc, hes, hbd, hel⟩ := SsZ.one h hx
      subst eA
      have F1 : ∀ (W3 : World), Below W.heap.size W W3 → DwR x.b BA bc W3 := fun W3 hb3 => IH x.b BA bc W3 (by have := (sizeOf_stmt l j x hx).1; omega) hc.lim.2.2.2.2.1 (fun d => (hbd d).below (hW.trans (hb3.mono hW.size)))
      have F2 : ∀ (W3 : World), Below W.heap.size W W3 → DwR x.els LA lc W3 := fun W3 hb3 => IH x.els LA lc W3 (by have := (sizeOf_stmt l j x hx).2; omega) hc.lim.2.2.2.2.2.1 (fun d => (hel d).below (hW.trans (hb3.mono hW.size)))
      have hcW := hc.below hW
      have i0 : (0 : Int) ≤ (j : Int) := by omega
      have i1 : (j : Int) < (ln : Int) := by omega
      have u2 : wrap64 ((j : Int) + 1) = (j : Int) + 1 := w64z _ (by omega) (by omega)
      have tk := drawn_take l j x hx
      rw [← hN] at tk
      unfold DwR at F1 F2
      obtain ⟨R1, eR1⟩ : ∃ R, R = drawnSs x.b := ⟨_, rfl⟩
      obtain ⟨R2, eR2⟩ : ∃ R, R = drawnSs x.els := ⟨_, rfl⟩
      rw [← eR1, ← eR2] at tk
      rw [← eR1] at F1
      rw [← eR2] at F2
      obtain ⟨ee, eee⟩ : ∃ ee, ee = x.e.length := ⟨_, rfl⟩
      have HU := Lib.hid u2
      have HX := Lib.hid (And.intro hlt (And.intro hg (And.intro hW (And.intro tk (And.intro F1 (And.intro F2 (And.intro eee (And.intro hcW (And.intro hes hc)))))))))
      clear hlt hg hN hW tk h hc hes hbd hel em hm IH hs hx eR1 eR2 F1 F2 eee hcW u2
      go_wp2_with fail
      go_loopg [3, 5] ee (fun gi mv kv wi => ∃ (k : Nat) (b2 : Bool), gi + k = ee ∧ mv = .bool b2 ∧ kv = .int .i64 (k : Nat) ∧ b2 = (b || drawEs (x.e.take k)) ∧ Below W.heap.size W wi)
      case atStart => exact ⟨0, b, rfl, rfl, rfl, by simp [drawEs], Below.refl _ _⟩
      case round =>
        obtain ⟨k, b2, hgi, rfl, rfl, hN2, hWI⟩ := hrel
        obtain ⟨WI, eWI⟩ : ∃ WI, WI = wr := ⟨_, rfl⟩
        rw [← eWI] at hWI ⊢
        clear eWI
        obtain ⟨hlt, hg, hW, tk, F1, F2, eee, hcW, hes, hc⟩ := HX.out
        obtain ⟨-, -, -, c3, c4, c5, -⟩ := hcW.below hWI
        rw [← eee] at c3
        by_cases hkn : k < ee
        · have i4 : decide (k < ee) = true := decide_eq_true hkn
          obtain ⟨y, hy⟩ : ∃ y, x.e[k]? = some y := ⟨_, List.getElem?_eq_getElem (by omega)⟩
          obtain ⟨b8, o8, A9, c9, eA9, hcy, hdy⟩ := EsZ.one hes hy
          have hbI := hW.trans (hWI.mono hW.size)
          have F := draws_ok y A9 c9 WI hcy.lim (fun d => (hdy d).below hbI)
          obtain ⟨R, eR⟩ : ∃ R, R = drawE y := ⟨_, rfl⟩
          have F : Calls Tryz.prog 19 #[.agg #[.int .u8 (y.op : Nat), .int .i64 y.n, .string y.nm, .slice A9 y.args.length c9]] WI fun e w' => e = .returned (.bool R) ∧ Below WI.heap.size WI w' := by rw [eR]; exact F
          subst eA9
          obtain ⟨d0, d1, d2, d3, -, -⟩ := hcy.below hbI
          have j0 : (0 : Int) ≤ (k : Int) := by omega
          have j1 : (k : Int) < (ee : Int) := by omega
          have u3 : wrap64 ((k : Int) + 1) = (k : Int) + 1 := by have := hc.lim.2.2.2.1; exact w64z _ (by omega) (by omega)
          have tk2 := drawEs_take x.e k y hy
          rw [← eR] at tk2
          have HY := Lib.hid (And.intro hkn (And.intro hgi (And.intro hWI (And.intro hN2 tk2))))
          clear hlt hg hW tk F1 F2 eee hcW hes hc hkn hgi hWI hN2 tk2 hy hcy hdy hbI eR c4 c5
          rcases b2 with _ | _
          · go_wp2_with (go_at_call 19; refine F.mono ?_; rintro e w3 ⟨rfl, hb3⟩; have H3 := Lib.hid hb3; clear hb3)
            go_roundg (ee - (k + 1))
            case measure => have := HY.out.1; have := HY.out.2.1; omega
            case rel =>
              obtain ⟨hkn, hgi, hWI, hN2, tk2⟩ := HY.out
              exact ⟨k + 1, R, by omega, by first | rfl | go_num, by go_num, by rw [tk2, ← Bool.or_assoc, ← hN2]; rfl, hWI.trans (H3.out.mono hWI.size)⟩
          · go_wp2_with fail
            go_roundg (ee - (k + 1))
            case measure => have := HY.out.1; have := HY.out.2.1; omega
            case rel =>
              obtain ⟨hkn, hgi, hWI, hN2, tk2⟩ := HY.out
              exact ⟨k + 1, true, by omega, by first | rfl | go_num, by go_num, by rw [tk2, ← Bool.or_assoc, ← hN2]; rfl, hWI⟩
        · have i4 : decide (k < ee) = false := decide_eq_false hkn
          have eb2 : b2 = (b || drawEs x.e) := by rw [hN2, List.take_of_length_le (by omega)]
          rw [← eb2] at tk
          have F1 := F1 WI hWI
          have HF := Lib.hid F2
          have HY := Lib.hid (And.intro hlt (And.intro hg (And.intro hW (And.intro hWI tk))))
          have u2 := HU.out
          clear hlt hg hW tk F2 eee hcW hes hc hkn hgi hWI hN2 eb2
          rcases b2 with _ | _
          · rcases R1 with _ | _
            · go_wp2_with (go_at_call 10; first
                | (refine F1.mono ?_; rintro e w3 ⟨rfl, hb3⟩; have F3 := HF.out w3 (HY.out.2.2.2.1.trans (hb3.mono HY.out.2.2.2.1.size)); have k5 := (hb3.cell (World.block_lt_of_cell? WI _ c5)).trans c5; have HR := Lib.hid hb3; clear hb3 F1 c3 c4 c5)
                | (refine F3.mono ?_; rintro e w4 ⟨rfl, hb4⟩; have HR2 := Lib.hid hb4; clear hb4 F3))
              go_roundg (ln - (j + 1))
              case measure => have := HY.out.1; have := HY.out.2.1; omega
              case rel =>
                obtain ⟨hlt, hg, hW, hWI, tk⟩ := HY.out
                have hb3 := HR.out
                have hbI := hW.trans (hWI.mono hW.size)
                exact ⟨j + 1, R2, by omega, by first | rfl | go_num, by go_num, by rw [tk]; rfl, hbI.trans ((hb3.trans (HR2.out.mono hb3.size)).mono hbI.size)⟩
            · go_wp2_with (go_at_call 10; refine F1.mono ?_; rintro e w3 ⟨rfl, hb3⟩; have HR := Lib.hid hb3; clear hb3 F1)
              go_roundg (ln - (j + 1))
              case measure => have := HY.out.1; have := HY.out.2.1; omega
              case rel =>
                obtain ⟨hlt, hg, hW, hWI, tk⟩ := HY.out
                have hbI := hW.trans (hWI.mono hW.size)
                exact ⟨j + 1, true, by omega, by first | rfl | go_num, by go_num, by rw [tk]; rfl, hbI.trans (HR.out.mono hbI.size)⟩
          · go_wp2_with fail
            go_roundg (ln - (j + 1))
            case measure => have := HY.out.1; have := HY.out.2.1; omega
            case rel =>
              obtain ⟨hlt, hg, hW, hWI, tk⟩ := HY.out
              exact ⟨j + 1, true, by omega, by first | rfl | go_num, by go_num, by rw [tk]; rfl, hW.trans (hWI.mono hW.size)⟩
    · have i2 : decide (j < ln) = false := decide_eq_false hlt
      have HX := Lib.hid (And.intro hlt (And.intro hN hW))
      clear hlt hg hN hW h em hm IH hs
      go_wp2_with fail
      go_ret
      obtain ⟨hlt, hN, hW⟩ := HX.out
      have eb : b = drawnSs l := by rw [hN, List.take_of_length_le (by have := H.out.1; omega)]
      exact ⟨(show Ending.returned (.bool b) = _ by rw [eb]), hW⟩
theorem drawn_all : ∀ s, DwC s := by
  intro s
  induction s with
  | zero =>
    intro l A c w hs
    exfalso
    cases l <;> simp at hs
  | succ s ih => exact drawn_succ s ih
theorem drawn_ok (l : List S0) (A : Option Addr) (c : Nat) (w : World) (hm : l.length ≤ 9223372036854775807) (h : ∀ d, SsZ w d A l) :
    Calls Tryz.prog 10 #[.slice A l.length c] w fun e w' => e = .returned (.bool (drawnSs l)) ∧ Below w.heap.size w w' :=
  drawn_all _ l A c w (Nat.le_refl _) hm h
end
end Go.Proofs.YtocbddajakbemaaGreat
set_option linter.unusedSimpArgs false
namespace Go.Proofs.YtocbddajakbemaaGreat
section
open Go.RowKit
theorem both_bad {l m : List S0} {ID seed tick key : Int} {cs c c1 : List Cmp} {n n1 : Nat} (h : RunOf [blockS l, blockS m] ID seed tick key cs n c) (h1 : RunOf l ID seed tick key cs n1 c1) (hn : n ≠ 145) (hn1 : n1 ≠ 145) (hb : n1 ≠ 0) : n = n1 ∧ c = cs := by
  obtain ⟨o, d, rfl, rfl, -⟩ := h.does hn
  obtain ⟨o1, d1, rfl, rfl, -⟩ := h1.does hn1
  rcases o1 with st | c | k
  · exact absurd rfl hb
  · exact absurd rfl hb
  · have e := d.one (does_block_end (r := [blockS m]) (st := ⟨[], [], 0, cs⟩) d1 trivial)
    subst e
    exact ⟨rfl, rfl⟩
theorem both_good {l m : List S0} {ID seed tick key : Int} {cs c c1 c2 : List Cmp} {n n2 : Nat} (hs : stopSs l = false) (hd : drawnSs m = false) (h : RunOf [blockS l, blockS m] ID seed tick key cs n c) (h1 : RunOf l ID seed tick key cs 0 c1) (h2 : RunOf m ID seed tick key c1 n2 c2) (hn : n ≠ 145) (hn2 : n2 ≠ 145) : n = n2 ∧ (n2 ≠ 0 → c = cs) ∧ (n2 = 0 → c = c2) := by
  obtain ⟨o, d, rfl, rfl, -⟩ := h.does hn
  obtain ⟨o1, d1, e1, rfl, z1⟩ := h1.does (by decide)
  obtain ⟨o2, d2, rfl, rfl, z2⟩ := h2.does hn2
  rcases o1 with st | c | k
  · obtain ⟨x, d2⟩ := d2
    have f := exL_free (envP ID seed tick key) x m [] [] st.cs st.k 0 hd
    have d2 : exL (envP ID seed tick key) x m ⟨[], [], 0, st.cs⟩ = some o2 := d2
    rw [d2] at f
    have f : Does (envP ID seed tick key) m ⟨[], [], st.k, st.cs⟩ (setK st.k o2) := ⟨x, f⟩
    have key : ∀ o3, Does (envP ID seed tick key) [blockS m] ⟨[], [], st.k, st.cs⟩ o3 → o = o3 := by
      intro o3 h3
      exact d.one (does_block (st := ⟨[], [], 0, cs⟩) d1 (by
        have : back ⟨[], [], 0, cs⟩ st = ⟨[], [], st.k, st.cs⟩ := by unfold back; simp
        rw [this]; exact h3))
    rcases o2 with s2 | c | k
    · have e := key _ (does_block (st := ⟨[], [], st.k, st.cs⟩) f does_nil)
      subst e
      exact ⟨rfl, fun h => absurd rfl h, fun _ => rfl⟩
    · have e := key _ (does_block_end (st := ⟨[], [], st.k, st.cs⟩) f trivial)
      subst e
      exact ⟨rfl, fun h => absurd rfl h, fun _ => rfl⟩
    · have e := key _ (does_block_end (st := ⟨[], [], st.k, st.cs⟩) f trivial)
      subst e
      exact ⟨rfl, fun _ => rfl, fun h => absurd h (z2 k rfl)⟩
  · obtain ⟨x, d1⟩ := d1
    exact absurd d1 (exL_nostop _ x l _ c hs)
  · exact absurd e1.symm (z1 k rfl)
theorem RunY.both_bad {l m : List S0} {ID seed tick key er er1 : Int} {cs c c1 : List Cmp} (h : RunY [blockS l, blockS m] ID seed tick key cs er c) (h1 : RunY l ID seed tick key cs er1 c1) (hb : er1 ≠ 0) : er = er1 ∧ c = cs := by
  obtain ⟨N, rfl, z, h⟩ := h
  obtain ⟨N1, rfl, z1, h1⟩ := h1
  obtain ⟨rfl, rfl⟩ := Go.Proofs.YtocbddajakbemaaGreat.both_bad h h1 z z1 (fun e => hb (by rw [e]; rfl))
  exact ⟨rfl, rfl⟩
theorem RunY.both_good {l m : List S0} {ID seed tick key er er2 : Int} {cs c c1 c2 : List Cmp} (hs : stopSs l = false) (hd : drawnSs m = false) (h : RunY [blockS l, blockS m] ID seed tick key cs er c) (h1 : RunY l ID seed tick key cs 0 c1) (h2 : RunY m ID seed tick key c1 er2 c2) : er = er2 ∧ (er2 ≠ 0 → c = cs) ∧ (er2 = 0 → c = c2) := by
  obtain ⟨N, rfl, z, h⟩ := h
  obtain ⟨N1, e1, z1, h1⟩ := h1
  obtain ⟨N2, rfl, z2, h2⟩ := h2
  obtain rfl : N1 = 0 := by omega
  obtain ⟨rfl, a, b⟩ := Go.Proofs.YtocbddajakbemaaGreat.both_good hs hd h h1 h2 z z2
  exact ⟨rfl, fun e => a (fun e2 => e (by rw [e2]; rfl)), fun e => b (by omega)⟩
end
end Go.Proofs.YtocbddajakbemaaGreat
