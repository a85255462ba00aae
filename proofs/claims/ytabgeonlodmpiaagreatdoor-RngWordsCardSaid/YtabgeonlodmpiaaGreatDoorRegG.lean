/- A region that draws its order: a load that the first effect c waits for may be taken first where its cell is known till c has come up. -/
import Derived.OrdersHeld
namespace Go.Proofs.YtabgeonlodmpiaaGreatDoor
open Go

section
variable {P : Program} {ops : Array Oper} {Q : Exit → Act → World → Prop} {md : Region.Mode} {C : World → Prop} {c : Nat}

/-- Operation c has come up, or the condition holds still. -/
def Gs (C : World → Prop) (c : Nat) (L : Array Bool) (w : World) : Prop := L.getD c false = true ∨ C w

/-- Whatever order is picked from here on, and till c has come up C holds behind every operation. -/
def wpAnyG (P : Program) (md : Region.Mode) (ops : Array Oper) (Q : Exit → Act → World → Prop) (C : World → Prop) (c : Nat) : Nat → Array Bool → Act → World → Prop
  | 0, listed, a, w => Region.ready md ops listed = [] ∧ Q .normal a w
  | fuel + 1, listed, a, w =>
    (Region.ready md ops listed = [] → Q .normal a w) ∧
    ∀ i ∈ Region.ready md ops listed, wpOp P ops Q i (fun a' w' => Gs C c (listed.setIfInBounds i true) w' ∧ wpAnyG P md ops Q C c fuel (listed.setIfInBounds i true) a' w') a w

theorem wpAny_of_G : ∀ (fuel : Nat) (listed : Array Bool) (a : Act) (w : World), wpAnyG P md ops Q C c fuel listed a w → wpAny P md ops Q fuel listed a w
  | 0, _, _, _, h => h
  | fuel + 1, _, _, _, h => ⟨h.1, fun i hi => wpOp_mono (fun a' w' h' => wpAny_of_G fuel _ a' w' h'.2) (h.2 i hi)⟩

/-- Behind c nothing more is asked. -/
theorem wpAnyG_of_any : ∀ (fuel : Nat) (listed : Array Bool) (a : Act) (w : World), listed.getD c false = true → wpAny P md ops Q fuel listed a w → wpAnyG P md ops Q C c fuel listed a w
  | 0, _, _, _, _, h => h
  | fuel + 1, _, _, _, hc, h => ⟨h.1, fun i hi => wpOp_mono (fun a' w' h' => ⟨Or.inl (getD_set_true hc), wpAnyG_of_any fuel _ a' w' (getD_set_true hc) h'⟩) (h.2 i hi)⟩

/-- What came up had all that it waits for. -/
def Closed (md : Region.Mode) (ops : Array Oper) (L : Array Bool) : Prop :=
  ∀ j oj, ops[j]? = some oj → L.getD j false = true → ∀ e ∈ oj.after, Region.binds md e = true → L.getD e.on false = true
def closedB (md : Region.Mode) (ops : Array Oper) (L : Array Bool) : Bool :=
  (List.range ops.size).all fun j => !L.getD j false || match ops[j]? with
    | some o => o.after.all fun e => !Region.binds md e || L.getD e.on false
    | none => true
theorem closedB_spec {L : Array Bool} (h : closedB md ops L = true) : Closed md ops L := by
  intro j oj hj hl e he hb
  have h1 := List.all_eq_true.1 h j (List.mem_range.2 (Array.getElem?_eq_some_iff.1 hj).1)
  rw [hl, hj] at h1
  simp only [Bool.not_true, Bool.false_or] at h1
  have h2 := Array.all_eq_true_iff_forall_mem.1 h1 e he
  rw [hb] at h2
  simpa using h2
def reachB (md : Region.Mode) (ops : Array Oper) : Nat → Nat → Nat → Bool
  | 0, k, i => k == i
  | n + 1, k, i => k == i || match ops[k]? with
    | some o => o.after.any fun e => Region.binds md e && reachB md ops n e.on i
    | none => false
theorem reach_listed {L : Array Bool} {i : Nat} (hc : Closed md ops L) : ∀ (n k : Nat), reachB md ops n k i = true → L.getD k false = true → L.getD i false = true
  | 0, k, h, hl => by
    have : k = i := by simpa [reachB] using h
    subst this; exact hl
  | n + 1, k, h, hl => by
    unfold reachB at h
    rw [Bool.or_eq_true] at h
    rcases h with h | h
    · have : k = i := by simpa using h
      subst this; exact hl
    · rcases ho : ops[k]? with _ | o
      · rw [ho] at h; cases h
      · rw [ho] at h
        obtain ⟨e, he, hb⟩ := Array.any_eq_true'.1 h
        rw [Bool.and_eq_true] at hb
        exact reach_listed hc n e.on hb.2 (hc k o ho hl e he hb.1)
theorem getD_bothG {listed : Array Bool} {i : Nat} (h : listed.getD i true = false) : listed.getD i false = false := by
  rcases Nat.lt_or_ge i listed.size with h' | h'
  · simp [h'] at h ⊢; exact h
  · simp [Array.getElem?_eq_none h'] at h
theorem Closed.set {i : Nat} {L : Array Bool} (h : Closed md ops L) (hi : i ∈ Region.ready md ops L) : Closed md ops (L.setIfInBounds i true) := by
  obtain ⟨_, oi, hoi, hall⟩ := mem_ready.1 hi
  intro j oj hj hl e he hb
  by_cases hij : i = j
  · subst hij
    have : oj = oi := Option.some.inj (hj.symm.trans hoi)
    subst this
    exact getD_set_true (hall e he hb)
  · rw [getD_set_ne false hij] at hl
    exact getD_set_true (h j oj hj hl e he hb)

theorem wpAnyG_first {i : Nat} {oi : Oper} {v : Value} (hi : ops[i]? = some oi) (hsel : ∀ (j : Nat) (o : Oper) cs b, ops[j]? = some o → o.op ≠ .select cs b)
    (hQ : ∀ c a w, Q (.panic c) (a.put oi.dst v) w → Q (.panic c) a w) (n : Nat) (hre : reachB md ops n c i = true) (hci : c ≠ i) :
    ∀ (fuel : Nat) (listed : Array Bool) (a : Act) (w : World), Closed md ops listed →
      (∀ j oj, ops[j]? = some oj → j ≠ i → listed.getD j true = false → (∀ e ∈ oj.after, Region.binds md e = true → e.on ≠ i) → oi.apart ops oj = true) →
      i ∈ Region.ready md ops listed → YieldsIf P ops C oi v a → Gs C c listed w →
      wpAnyG P md ops Q C c fuel (listed.setIfInBounds i true) (a.put oi.dst v) w → wpAnyG P md ops Q C c (fuel + 1) listed a w := by
  have look : ∀ (listed : Array Bool) (w : World), Closed md ops listed → i ∈ Region.ready md ops listed → Gs C c listed w → C w := fun listed w hcl hr hS => by
    rcases hS with h | h
    · have h1 := reach_listed hcl n c hre h
      rw [getD_bothG (mem_ready.1 hr).1] at h1
      cases h1
    · exact h
  intro fuel
  induction fuel with
  | zero =>
    intro listed a w hcl _ hr hy hS H
    refine ⟨fun h => (by rw [h] at hr; cases hr), fun j hj => ?_⟩
    by_cases hji : j = i
    · subst hji; exact hy.wpOp hi (look _ _ hcl hr hS) ⟨Or.inr (look _ _ hcl hr hS), H⟩
    · have := ready_mono hj hji
      rw [H.1] at this
      cases this
  | succ fuel ih =>
    intro listed a w hcl hfree hr hy hS H
    refine ⟨fun h => (by rw [h] at hr; cases hr), fun j hj => ?_⟩
    by_cases hji : j = i
    · subst hji; exact hy.wpOp hi (look _ _ hcl hr hS) ⟨Or.inr (look _ _ hcl hr hS), H⟩
    · have h1 := H.2 j (ready_mono hj hji)
      obtain ⟨hjun, oj, hoj, hall⟩ := mem_ready.1 hj
      have hnot : ∀ e ∈ oj.after, Region.binds md e = true → e.on ≠ i := fun e he hb heq => by
        have h1 := hall e he hb
        have h0 := (mem_ready.1 hr).1
        rw [heq, getD_bothG h0] at h1
        cases h1
      have h2 := wpOp_putIf hoj (hfree j oj hoj hji hjun hnot) (fun cs b => hsel i oi cs b hi) (fun cs b => hsel j oj cs b hoj) hQ hy h1
      have hfree' : ∀ k ok, ops[k]? = some ok → k ≠ i → (listed.setIfInBounds j true).getD k true = false →
          (∀ e ∈ ok.after, Region.binds md e = true → e.on ≠ i) → oi.apart ops ok = true := fun k ok hk hki hun hno => by
        refine hfree k ok hk hki ?_ hno
        by_cases hjk : j = k
        · subst hjk; exact hjun
        · rw [getD_set_ne true hjk] at hun; exact hun
      refine wpOp_mono (fun a' w' h3 => ?_) h2
      have hS' : Gs C c (listed.setIfInBounds j true) w' := by
        rcases h3.2.1 with h | h
        · rw [Array.setIfInBounds_comm _ _ (Ne.symm hji), getD_set_ne false (Ne.symm hci)] at h
          exact Or.inl h
        · exact Or.inr h
      refine ⟨hS', ih (listed.setIfInBounds j true) a' w' (hcl.set hj) hfree' (ready_mono hr (Ne.symm hji)) h3.1 hS' ?_⟩
      rw [Array.setIfInBounds_comm _ _ hji]
      exact h3.2.2

theorem wpAnyG_first0 {i : Nat} {oi : Oper} {v : Value} (hi : ops[i]? = some oi) (hsel : ∀ (j : Nat) (o : Oper) cs b, ops[j]? = some o → o.op ≠ .select cs b)
    (hQ : ∀ c a w, Q (.panic c) (a.put oi.dst v) w → Q (.panic c) a w) (hci : c ≠ i) :
    ∀ (fuel : Nat) (listed : Array Bool) (a : Act) (w : World),
      (∀ j oj, ops[j]? = some oj → j ≠ i → listed.getD j true = false → (∀ e ∈ oj.after, Region.binds md e = true → e.on ≠ i) → oi.apart ops oj = true) →
      i ∈ Region.ready md ops listed → YieldsIf P ops (fun _ => True) oi v a → Gs C c listed w →
      wpAnyG P md ops Q C c fuel (listed.setIfInBounds i true) (a.put oi.dst v) w → wpAnyG P md ops Q C c (fuel + 1) listed a w := by
  have up : ∀ (listed : Array Bool) (w : World), Gs C c listed w → Gs C c (listed.setIfInBounds i true) w := fun listed w h => h.imp getD_set_true id
  intro fuel
  induction fuel with
  | zero =>
    intro listed a w _ hr hy hS H
    refine ⟨fun h => (by rw [h] at hr; cases hr), fun j hj => ?_⟩
    by_cases hji : j = i
    · subst hji; exact hy.wpOp hi trivial ⟨up _ _ hS, H⟩
    · have := ready_mono hj hji
      rw [H.1] at this
      cases this
  | succ fuel ih =>
    intro listed a w hfree hr hy hS H
    refine ⟨fun h => (by rw [h] at hr; cases hr), fun j hj => ?_⟩
    by_cases hji : j = i
    · subst hji; exact hy.wpOp hi trivial ⟨up _ _ hS, H⟩
    · have h1 := H.2 j (ready_mono hj hji)
      obtain ⟨hjun, oj, hoj, hall⟩ := mem_ready.1 hj
      have hnot : ∀ e ∈ oj.after, Region.binds md e = true → e.on ≠ i := fun e he hb heq => by
        have h1 := hall e he hb
        have h0 := (mem_ready.1 hr).1
        rw [heq, getD_bothG h0] at h1
        cases h1
      have h2 := wpOp_putIf hoj (hfree j oj hoj hji hjun hnot) (fun cs b => hsel i oi cs b hi) (fun cs b => hsel j oj cs b hoj) hQ hy h1
      have hfree' : ∀ k ok, ops[k]? = some ok → k ≠ i → (listed.setIfInBounds j true).getD k true = false →
          (∀ e ∈ ok.after, Region.binds md e = true → e.on ≠ i) → oi.apart ops ok = true := fun k ok hk hki hun hno => by
        refine hfree k ok hk hki ?_ hno
        by_cases hjk : j = k
        · subst hjk; exact hjun
        · rw [getD_set_ne true hjk] at hun; exact hun
      refine wpOp_mono (fun a' w' h3 => ?_) h2
      have hS' : Gs C c (listed.setIfInBounds j true) w' := by
        rcases h3.2.1 with h | h
        · rw [Array.setIfInBounds_comm _ _ (Ne.symm hji), getD_set_ne false (Ne.symm hci)] at h
          exact Or.inl h
        · exact Or.inr h
      refine ⟨hS', ih (listed.setIfInBounds j true) a' w' hfree' (ready_mono hr (Ne.symm hji)) h3.1 hS' ?_⟩
      rw [Array.setIfInBounds_comm _ _ hji]
      exact h3.2.2

/-- Take number i first. -/
theorem wpAnyG_take {i : Nat} {oi : Oper} {v : Value} {fuel : Nat} {listed : Array Bool} {a : Act} {w : World} (n : Nat) (hi : ops[i]? = some oi)
    (hs : Region.noSelect ops = true) (hf : Region.free md ops listed i = true) (hr : (Region.ready md ops listed).contains i = true) (hcl : closedB md ops listed = true) (hre : reachB md ops n c i = true) (hci : (c != i) = true)
    (hQ : ∀ c a w, Q (.panic c) (a.put oi.dst v) w → Q (.panic c) a w) (hy : YieldsIf P ops C oi v a) (hS : C w)
    (h : wpAnyG P md ops Q C c fuel (listed.setIfInBounds i true) (a.put oi.dst v) w) : wpAnyG P md ops Q C c (fuel + 1) listed a w :=
  wpAnyG_first hi (Region.noSelect_spec hs) hQ n hre (by simpa using hci) fuel listed a w (closedB_spec hcl) (Region.free_spec hi hf) (by simpa using hr) hy (Or.inr hS) h
theorem wpAnyG_take0 {i : Nat} {oi : Oper} {v : Value} {fuel : Nat} {listed : Array Bool} {a : Act} {w : World} (hi : ops[i]? = some oi)
    (hs : Region.noSelect ops = true) (hf : Region.free md ops listed i = true) (hr : (Region.ready md ops listed).contains i = true) (hci : (c != i) = true)
    (hQ : ∀ c a w, Q (.panic c) (a.put oi.dst v) w → Q (.panic c) a w) (hy : YieldsIf P ops (fun _ => True) oi v a) (hS : C w)
    (h : wpAnyG P md ops Q C c fuel (listed.setIfInBounds i true) (a.put oi.dst v) w) : wpAnyG P md ops Q C c (fuel + 1) listed a w :=
  wpAnyG_first0 hi (Region.noSelect_spec hs) hQ (by simpa using hci) fuel listed a w (Region.free_spec hi hf) (by simpa using hr) hy (Or.inr hS) h
/-- The only one that may come up: c itself. -/
theorem wpAnyG_c {fuel : Nat} {listed : Array Bool} {a : Act} {w : World} (hr : Region.ready md ops listed = [c])
    (h : wpOp P ops Q c (fun a' w' => wpAny P md ops Q fuel (listed.setIfInBounds c true) a' w') a w) (hl : (listed.setIfInBounds c true).getD c false = true) : wpAnyG P md ops Q C c (fuel + 1) listed a w := by
  refine ⟨fun h0 => (by rw [hr] at h0; cases h0), fun i hi => ?_⟩
  have : i = c := by rw [hr] at hi; simpa using hi
  subst this
  exact wpOp_mono (fun a' w' h' => ⟨Or.inl hl, wpAnyG_of_any fuel _ a' w' hl h'⟩) h
/-- The beginning. -/
theorem wp_region_G {id : Nat} {a : Act} {w : World} (C : World → Prop) (c : Nat) (hm : P.follows .mixedOrders = true)
    (h : wpAnyG P .any ops Q C c ops.size (Array.replicate ops.size false) a { w with drawn := w.drawn + 1 }) : (Code.region id ops true).wp P Q a w :=
  wp_region_any hm (wpAny_of_G _ _ _ _ h)
end
end Go.Proofs.YtabgeonlodmpiaaGreatDoor
