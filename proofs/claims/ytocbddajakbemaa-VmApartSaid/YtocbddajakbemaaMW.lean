/- vm: a run depends on the components alone that its code names. vm: the components that a run reads, and those that it writes. vm: the masks of a code; what VmApart says, without a program. vm: the law's has. vm: VmApart: what its walk is told. -/
import Derived.Test.YtocbddajakbemaaMV
import Derived.Laws.BitsAllLaws
import Derived.Deep.RegionHeld3
import Derived.Maps.AppendAt
set_option linter.unusedVariables false
set_option linter.unusedSimpArgs false
namespace Go.Proofs.Ytocbddajakbemaa
section
open Go.RowKit

/-- A relation between two lists of components that a code which names the kinds K alone keeps. -/
structure CRel (K : Int → Prop) (CR : List Cmp → List Cmp → Prop) : Prop where
  get : ∀ cs ds a, CR cs ds → K a → ds[idxC ds a]? = cs[idxC cs a]?
  set : ∀ cs ds a c c', CR cs ds → K a → cs[idxC cs a]? = some c → c'.kind = c.kind → CR (cs.set (idxC cs a) c') (ds.set (idxC ds a) c')
theorem deed_other (S : Fix) (op : Nat) (a : Int) (h4 : op ≠ 4) (h5 : op ≠ 5) (t d : Int) (rs ls : List Int) (cs ds : List Cmp) :
    (∀ n, deedF S op a ⟨t, d, rs, ls, cs⟩ = some (.error n) → deedF S op a ⟨t, d, rs, ls, ds⟩ = some (.error n)) ∧
    (∀ σ, deedF S op a ⟨t, d, rs, ls, cs⟩ = some (.ok σ) → σ.cs = cs ∧ deedF S op a ⟨t, d, rs, ls, ds⟩ = some (.ok ⟨σ.at_, σ.drawn, σ.rs, σ.ls, ds⟩)) := by
  unfold deedF
  by_cases hl : 1000 < rs.length
  · simp only [hl, if_true]
    exact ⟨fun n h => (by cases h), fun n h => (by cases h)⟩
  simp only [hl, if_false]
  split <;> first | (exfalso; omega; done) | skip
  all_goals (repeat' split)
  all_goals (refine ⟨fun n h => ?_, fun σ h => ?_⟩ <;> cases h)
  all_goals first | rfl | exact ⟨rfl, rfl⟩
theorem deed_rel {K : Int → Prop} {CR : List Cmp → List Cmp → Prop} (hC : CRel K CR) (S : Fix) (op : Nat) (a : Int) (hK : op = 4 ∨ op = 5 → K a) (t d : Int) (rs ls : List Int) (cs ds : List Cmp) (h : CR cs ds) :
    (∀ n, deedF S op a ⟨t, d, rs, ls, cs⟩ = some (.error n) → deedF S op a ⟨t, d, rs, ls, ds⟩ = some (.error n)) ∧
    (∀ σ, deedF S op a ⟨t, d, rs, ls, cs⟩ = some (.ok σ) → ∃ ds', CR σ.cs ds' ∧ deedF S op a ⟨t, d, rs, ls, ds⟩ = some (.ok ⟨σ.at_, σ.drawn, σ.rs, σ.ls, ds'⟩)) := by
  by_cases h4 : op = 4
  · subst h4
    have hg := hC.get cs ds a h (hK (Or.inl rfl))
    unfold deedF
    simp only
    rw [hg]
    (repeat' split)
    all_goals (refine ⟨fun n e => ?_, fun σ e => ?_⟩ <;> cases e)
    all_goals first | rfl | exact ⟨ds, h, rfl⟩
  by_cases h5 : op = 5
  · subst h5
    have hg := hC.get cs ds a h (hK (Or.inr rfl))
    have hs := fun c c' => hC.set cs ds a c c' h (hK (Or.inr rfl))
    unfold deedF
    simp only
    rw [hg]
    (repeat' split)
    all_goals (refine ⟨fun n e => ?_, fun σ e => ?_⟩ <;> cases e)
    all_goals first | rfl | exact ⟨_, hs _ _ (by assumption) (put_kind _ _ _), rfl⟩
  · obtain ⟨e1, e2⟩ := deed_other S op a h4 h5 t d rs ls cs ds
    exact ⟨e1, fun σ hs => ⟨ds, by rw [(e2 σ hs).1]; exact h, (e2 σ hs).2⟩⟩
/-- Two runs with related components go the same way. -/
theorem run_rel {K : Int → Prop} {CR : List Cmp → List Cmp → Prop} (hC : CRel K CR) (S : Fix) (code : List (Nat × Int)) (hK : ∀ x, x ∈ code → x.1 = 4 ∨ x.1 = 5 → K x.2) (cs0 ds0 : List Cmp) (h0 : CR cs0 ds0) : ∀ (f : Nat) (t d : Int) (rs ls : List Int) (cs ds : List Cmp), CR cs ds → ∀ r, runF S code f ⟨t, d, rs, ls, cs⟩ = some r →
    ∃ r', runF S code f ⟨t, d, rs, ls, ds⟩ = some r' ∧ endN r' = endN r ∧ endF r' = endF r ∧ CR (endC cs0 r) (endC ds0 r') := by
  intro f
  induction f with
  | zero =>
    intro t d rs ls cs ds h r hr
    rw [runF.eq_def] at hr ⊢
    simp only at hr ⊢
    by_cases h1 : t < 0
    · rw [if_pos h1] at hr; cases hr
    rw [if_neg h1] at hr ⊢
    by_cases h2 : (code.length : Int) ≤ t
    · rw [if_pos h2] at hr ⊢
      injection hr with hr; subst hr
      exact ⟨_, rfl, rfl, rfl, h⟩
    · rw [if_neg h2] at hr ⊢
      injection hr with hr; subst hr
      exact ⟨_, rfl, rfl, rfl, h0⟩
  | succ f ih =>
    intro t d rs ls cs ds h r hr
    rw [runF.eq_def] at hr ⊢
    simp only at hr ⊢
    by_cases h1 : t < 0
    · rw [if_pos h1] at hr; cases hr
    rw [if_neg h1] at hr ⊢
    by_cases h2 : (code.length : Int) ≤ t
    · rw [if_pos h2] at hr ⊢
      injection hr with hr; subst hr
      exact ⟨_, rfl, rfl, rfl, h⟩
    · rw [if_neg h2] at hr ⊢
      rcases hx : code[t.toNat]? with _ | x
      · rw [hx] at hr; cases hr
      rw [hx] at hr
      simp only at hr ⊢
      obtain ⟨e1, e2⟩ := deed_rel hC S x.1 x.2 (hK x (List.mem_of_getElem? hx)) (t + 1) d rs ls cs ds h
      rcases hd : deedF S x.1 x.2 ⟨t + 1, d, rs, ls, cs⟩ with _ | (n | σ)
      · rw [hd] at hr; cases hr
      · rw [hd] at hr
        rw [e1 n hd]
        injection hr with hr; subst hr
        exact ⟨_, rfl, rfl, rfl, h0⟩
      · rw [hd] at hr
        obtain ⟨ds', h', e⟩ := e2 σ hd
        rw [e]
        exact ih σ.at_ σ.drawn σ.rs σ.ls σ.cs ds' h' r hr
end
end Go.Proofs.Ytocbddajakbemaa
namespace Go.Proofs.Ytocbddajakbemaa
section
open Go.RowKit

theorem idx_kinds {cs ds : List Cmp} (h : kinds ds = kinds cs) (a : Int) : idxC ds a = idxC cs a := by
  have e : ∀ l : List Cmp, idxC l a = (kinds l).findIdx (fun n : Nat => ((n : Int) == a)) := by
    intro l
    unfold idxC kinds
    rw [List.findIdx_map]
    rfl
  rw [e, e, h]
theorem get_idx (cs : List Cmp) (q : Cmp → Bool) : cs[cs.findIdx q]? = cs.find? q := by
  induction cs with
  | nil => rfl
  | cons c cs ih =>
    rw [List.findIdx_cons, List.find?_cons]
    cases h : q c
    · simpa using ih
    · simp
theorem idx_kind {cs : List Cmp} {a : Int} {c : Cmp} (h : cs[idxC cs a]? = some c) : (c.kind : Int) = a := by
  unfold idxC at h
  rw [get_idx] at h
  have := List.find?_some h
  simpa using this
def KeepK (keep : Nat → Bool) (a : Int) : Prop := ∀ k : Nat, (k : Int) = a → keep k = true
/-- The same but for what is not kept, which is as in os. -/
structure CRo (keep : Nat → Bool) (os cs ds : List Cmp) : Prop where
  lo : os.length = cs.length
  ld : ds.length = cs.length
  at_ : ∀ (i : Nat) (c d o : Cmp), cs[i]? = some c → ds[i]? = some d → os[i]? = some o → d.kind = c.kind ∧ (keep c.kind = true → d = c) ∧ (keep c.kind = false → d = o)
theorem CRo.kinds {keep : Nat → Bool} {os cs ds : List Cmp} (h : CRo keep os cs ds) : kinds ds = kinds cs := by
  unfold Go.Proofs.Ytocbddajakbemaa.kinds
  apply List.ext_getElem?
  intro i
  rw [List.getElem?_map, List.getElem?_map]
  by_cases hi : i < cs.length
  · rw [List.getElem?_eq_getElem hi, List.getElem?_eq_getElem (by rw [h.ld]; exact hi)]
    have := (h.at_ i _ _ (os[i]'(by rw [h.lo]; exact hi)) (List.getElem?_eq_getElem hi) (List.getElem?_eq_getElem (by rw [h.ld]; exact hi)) (List.getElem?_eq_getElem _)).1
    simp [this]
  · have hd := h.ld
    rw [List.getElem?_eq_none (show ds.length ≤ i by omega), List.getElem?_eq_none (show cs.length ≤ i by omega)]
theorem crel_other (keep : Nat → Bool) (os : List Cmp) : CRel (KeepK keep) (CRo keep os) := by
  constructor
  · intro cs ds a h hk
    rw [idx_kinds h.kinds]
    rcases hc : cs[idxC cs a]? with _ | c
    · exact List.getElem?_eq_none (by rw [h.ld]; exact List.getElem?_eq_none_iff.1 hc)
    · have hi := (List.getElem?_eq_some_iff.1 hc).1
      have := (h.at_ _ c _ (os[idxC cs a]'(by rw [h.lo]; exact hi)) hc (List.getElem?_eq_getElem (by rw [h.ld]; exact hi)) (List.getElem?_eq_getElem _)).2.1 (hk _ (idx_kind hc))
      rw [List.getElem?_eq_getElem (by rw [h.ld]; exact hi), this]
  · intro cs ds a c c' h hk hc hkd
    rw [idx_kinds h.kinds]
    have hi := (List.getElem?_eq_some_iff.1 hc).1
    refine ⟨by rw [List.length_set]; exact h.lo, by rw [List.length_set, List.length_set]; exact h.ld, fun j x y o hx hy ho => ?_⟩
    by_cases hj : idxC cs a = j
    · subst hj
      rw [List.getElem?_set_self hi] at hx
      rw [List.getElem?_set_self (by rw [h.ld]; exact hi)] at hy
      injection hx with hx; injection hy with hy
      subst hx hy
      refine ⟨rfl, fun _ => rfl, fun hf => ?_⟩
      rw [hkd, hk _ (idx_kind hc)] at hf
      cases hf
    · rw [List.getElem?_set_ne hj] at hx hy
      exact h.at_ j x y o hx hy ho
/-- What is kept alone. -/
def CRp (keep : Nat → Bool) (cs ds : List Cmp) : Prop := ds = cs.filter fun c => keep c.kind
theorem filter_set {keep : Nat → Bool} {a : Int} (hk : KeepK keep a) {c' : Cmp} (hc : (c'.kind : Int) = a) (cs : List Cmp) (h : idxC cs a < cs.length) :
    (cs.set (idxC cs a) c').filter (fun c => keep c.kind) = (cs.filter fun c => keep c.kind).set (idxC (cs.filter fun c => keep c.kind) a) c' := by
  induction cs with
  | nil => simp at h
  | cons x xs ih =>
    have ei : idxC (x :: xs) a = if ((x.kind : Int) == a) = true then 0 else idxC xs a + 1 := by
      unfold idxC
      rw [List.findIdx_cons]
      cases hq : ((x.kind : Int) == a) <;> simp
    by_cases hx : ((x.kind : Int) == a) = true
    · rw [ei, if_pos hx]
      have kx : keep x.kind = true := hk _ (by simpa using hx)
      have ef : (x :: xs).filter (fun c => keep c.kind) = x :: xs.filter (fun c => keep c.kind) := by rw [List.filter_cons, if_pos kx]
      have e2 : idxC (x :: xs.filter (fun c => keep c.kind)) a = 0 := by
        unfold idxC
        rw [List.findIdx_cons, hx]; rfl
      rw [ef, e2, List.set_cons_zero, List.set_cons_zero, List.filter_cons, if_pos (hk _ hc)]
    · rw [ei, if_neg hx] at h ⊢
      have hl : idxC xs a < xs.length := by simpa using h
      rw [List.set_cons_succ]
      by_cases kx : keep x.kind = true
      · have e2 : idxC (x :: xs.filter (fun c => keep c.kind)) a = idxC (xs.filter (fun c => keep c.kind)) a + 1 := by
          unfold idxC
          rw [List.findIdx_cons]
          have hf : ((x.kind : Int) == a) = false := by simpa using hx
          rw [hf]; rfl
        rw [List.filter_cons, if_pos kx, List.filter_cons, if_pos kx, e2, List.set_cons_succ, ih hl]
      · rw [List.filter_cons, if_neg kx, List.filter_cons, if_neg kx, ih hl]
theorem crel_part (keep : Nat → Bool) : CRel (KeepK keep) (CRp keep) := by
  constructor
  · intro cs ds a h hk
    rw [h]
    unfold idxC
    rw [get_idx, get_idx, List.find?_filter]
    congr 1
    funext c
    cases hq : ((c.kind : Int) == a)
    · simp
    · have := hk c.kind (by simpa using hq)
      simp [this]
  · intro cs ds a c c' h hk hc hkd
    unfold CRp at h ⊢
    rw [h, filter_set hk (by rw [hkd]; exact idx_kind hc) cs (List.getElem?_eq_some_iff.1 hc).1]
/-- What an instruction does to the components. -/
theorem deed_cs {S : Fix} {op : Nat} {a : Int} {σ σ' : Mst} (hr : deedF S op a σ = some (.ok σ')) : σ'.cs = σ.cs ∨ (op = 5 ∧ ∃ c c', σ.cs[idxC σ.cs a]? = some c ∧ c'.kind = c.kind ∧ σ'.cs = σ.cs.set (idxC σ.cs a) c') := by
  unfold deedF at hr
  split at hr
  · cases hr
  · (repeat' split at hr) <;> first | (cases hr; done) | (injection hr with hr; injection hr with hr; subst hr; first | exact Or.inl rfl | exact Or.inr ⟨rfl, _, _, by assumption, put_kind _ _ _, rfl⟩)
theorem run_keep {S : Fix} {code : List (Nat × Int)} {W : Int → Prop} (hW : ∀ x, x ∈ code → x.1 = 5 → W x.2) (cs0 : List Cmp) : ∀ (f : Nat) (σ : Mst) (r : Except (Nat × Nat) (Nat × Mst)), (∀ (i : Nat) (c : Cmp), cs0[i]? = some c → ¬ W c.kind → σ.cs[i]? = some c) → runF S code f σ = some r →
    ∀ (i : Nat) (c : Cmp), cs0[i]? = some c → ¬ W c.kind → (endC cs0 r)[i]? = some c := by
  intro f
  induction f with
  | zero =>
    intro σ r hI h
    rw [runF.eq_def] at h
    simp only at h
    by_cases h1 : σ.at_ < 0
    · rw [if_pos h1] at h; cases h
    rw [if_neg h1] at h
    by_cases h2 : (code.length : Int) ≤ σ.at_
    · rw [if_pos h2] at h
      injection h with h; subst h
      exact hI
    · rw [if_neg h2] at h
      injection h with h; subst h
      exact fun i c hc _ => hc
  | succ f ih =>
    intro σ r hI h
    rw [runF.eq_def] at h
    simp only at h
    by_cases h1 : σ.at_ < 0
    · rw [if_pos h1] at h; cases h
    rw [if_neg h1] at h
    by_cases h2 : (code.length : Int) ≤ σ.at_
    · rw [if_pos h2] at h
      injection h with h; subst h
      exact hI
    rw [if_neg h2] at h
    rcases hx : code[σ.at_.toNat]? with _ | x
    · rw [hx] at h; cases h
    rw [hx] at h
    simp only at h
    rcases hd : deedF S x.1 x.2 { σ with at_ := σ.at_ + 1 } with _ | (n | σ')
    · rw [hd] at h; cases h
    · rw [hd] at h
      injection h with h; subst h
      exact fun i c hc _ => hc
    rw [hd] at h
    refine ih σ' r ?_ h
    intro i c hc hw
    have hi := hI i c hc hw
    rcases deed_cs hd with e | ⟨e5, c1, c', hg, hk, e⟩
    · rw [e]; exact hi
    · rw [e]
      by_cases hj : idxC σ.cs x.2 = i
      · exfalso
        have hg : σ.cs[idxC σ.cs x.2]? = some c1 := hg
        have hk2 := idx_kind hg
        rw [hj] at hg
        have e1 : c1 = c := Option.some.inj (hg.symm.trans hi)
        rw [e1] at hk2
        exact hw (by rw [hk2]; exact hW x (List.mem_of_getElem? hx) e5)
      · show (σ.cs.set (idxC σ.cs x.2) c')[i]? = some c
        rw [List.getElem?_set_ne hj]; exact hi
end
end Go.Proofs.Ytocbddajakbemaa
namespace Go.Proofs.Ytocbddajakbemaa
section
open Go.RowKit

def hasB (m : Int) (k : Nat) : Bool := decide (k < 32) && m.toNat.testBit k
theorem orK_nat (a : Nat) (ha : a < 4294967296) (x : K31) : ∃ b : Nat, orK (a : Int) x = (b : Int) ∧ b < 4294967296 ∧ ∀ j, b.testBit j = (a.testBit j || decide (j = x.1.toNat)) := by
  obtain ⟨k, hk⟩ : ∃ k : Nat, x.1.toNat = k := ⟨_, rfl⟩
  have hk31 : k ≤ 31 := by have := x.2; omega
  have hp : 2 ^ k < 4294967296 := by
    have : 2 ^ k ≤ 2 ^ 31 := Nat.pow_le_pow_right (by decide) hk31
    omega
  have hw : IntKind.u32.wrap (2 ^ k) = ((2 ^ k : Nat) : Int) := by
    rw [IntKind.wrap_u32]
    have : ((2 : Int) ^ k) = ((2 ^ k : Nat) : Int) := by simp
    rw [this]
    exact Int.emod_eq_of_lt (Int.natCast_nonneg _) (by omega)
  refine ⟨a ||| 2 ^ k, ?_, ?_, fun j => ?_⟩
  · unfold orK
    rw [hk, hw, u32_or_nat a (2 ^ k) ha hp]
  · exact Nat.or_lt_two_pow (n := 32) ha hp
  · rw [hk, Nat.testBit_or, Nat.testBit_two_pow]
    congr 1
    by_cases h : k = j
    · simp [h]
    · simp [h, Ne.symm h]
theorem fold_mask (ks : List K31) : ∀ (a : Nat), a < 4294967296 → ∃ b : Nat, ks.foldl orK (a : Int) = (b : Int) ∧ b < 4294967296 ∧ (∀ j, a.testBit j = true → b.testBit j = true) ∧ ∀ x ∈ ks, b.testBit x.1.toNat = true := by
  induction ks with
  | nil => intro a ha; exact ⟨a, rfl, ha, fun _ h => h, fun x hx => by cases hx⟩
  | cons y ys ih =>
    intro a ha
    obtain ⟨b, e, hb, hj⟩ := orK_nat a ha y
    obtain ⟨c, e2, hc, h1, h2⟩ := ih b hb
    refine ⟨c, by rw [List.foldl_cons, e, e2], hc, fun j h => h1 j (by rw [hj, h]; rfl), fun x hx => ?_⟩
    rcases List.mem_cons.1 hx with rfl | hx
    · exact h1 _ (by rw [hj]; simp)
    · exact h2 x hx
theorem mask_has (op : Nat) (code : List (Nat × Int)) {x : Nat × Int} (hx : x ∈ code) (ho : x.1 = op) (h1 : 1 ≤ x.2) (h2 : x.2 ≤ 31) (k : Nat) (hk : (k : Int) = x.2) : hasB (maskOf (kindsOf op code)) k = true := by
  obtain ⟨b, e, hb, -, h⟩ := fold_mask (kindsOf op code) 0 (by decide)
  have hm : (⟨x.2, h1, h2⟩ : K31) ∈ kindsOf op code := by
    unfold kindsOf
    rw [List.mem_filterMap]
    exact ⟨x, hx, by unfold kindOf; rw [dif_pos ⟨ho, h1, h2⟩]⟩
  have := h _ hm
  unfold hasB maskOf
  rw [show (0 : Int) = ((0 : Nat) : Int) from rfl, e, Int.toNat_natCast]
  have hkk : x.2.toNat = k := by omega
  simp only [hkk] at this
  rw [this]
  simp; omega
theorem hasB_or {a b : Int} (ha0 : 0 ≤ a) (ha : a ≤ 4294967295) (hb0 : 0 ≤ b) (hb : b ≤ 4294967295) (k : Nat) : hasB (bits .or .u32 a b) k = (hasB a k || hasB b k) := by
  obtain ⟨m, rfl⟩ : ∃ m : Nat, a = (m : Nat) := ⟨a.toNat, by omega⟩
  obtain ⟨n, rfl⟩ : ∃ n : Nat, b = (n : Nat) := ⟨b.toNat, by omega⟩
  rw [u32_or_nat m n (by omega) (by omega)]
  unfold hasB
  rw [Int.toNat_natCast, Int.toNat_natCast, Int.toNat_natCast, Nat.testBit_or]
  cases decide (k < 32) <;> simp
theorem right_kind {L n : Nat} {x : Nat × Int} (h : rightF L n x = true) (ho : x.1 = 4 ∨ x.1 = 5) : 1 ≤ x.2 ∧ x.2 ≤ 31 := by
  obtain ⟨o, a⟩ := x
  simp only at ho
  rcases ho with rfl | rfl
  · simp [rightF] at h; simp only; omega
  · simp [rightF] at h; simp only; omega
/-- What a sound program reads and writes. -/
theorem sound_names {L R Wr : Int} {code : List (Nat × Int)} (h : soundF L R Wr code = some true) :
    (∀ x, x ∈ code → x.1 = 4 → KeepK (hasB R) x.2) ∧ (∀ x, x ∈ code → x.1 = 5 → KeepK (hasB Wr) x.2) := by
  have hm := sound_means h
  have hall : code.all (rightF L.toNat code.length) = true := by
    unfold soundF at h
    by_cases h1 : L < 0 ∨ 32 < L
    · rw [if_pos h1] at h; cases h
    rw [if_neg h1] at h
    by_cases h2 : code.all (rightF L.toNat code.length) = false
    · rw [if_pos h2] at h; cases h
    simpa using h2
  refine ⟨fun x hx ho k hk => ?_, fun x hx ho k hk => ?_⟩
  · obtain ⟨q1, q2⟩ := right_kind (List.all_eq_true.1 hall x hx) (Or.inl ho)
    rw [← hm.2.1]
    exact mask_has 4 code hx ho q1 q2 k hk
  · obtain ⟨q1, q2⟩ := right_kind (List.all_eq_true.1 hall x hx) (Or.inr ho)
    rw [← hm.2.2]
    exact mask_has 5 code hx ho q1 q2 k hk
/-- The other entity: what is not kept is turned. -/
def otherC (keep : Nat → Bool) (by_ : Int) (c : Cmp) : Cmp := if keep c.kind then c else { c with v0 := wrap64 (c.v0 + by_), v3 := wrap64 (c.v3 + 1) }
theorem otherC_kind (keep : Nat → Bool) (b : Int) (c : Cmp) : (otherC keep b c).kind = c.kind := by unfold otherC; split <;> rfl
theorem cro_start (keep : Nat → Bool) (b : Int) (cs : List Cmp) : CRo keep (cs.map (otherC keep b)) cs (cs.map (otherC keep b)) := by
  refine ⟨by simp, by simp, fun i c d o hc hd ho => ?_⟩
  rw [hd] at ho
  injection ho with ho
  subst ho
  rw [List.getElem?_map, hc] at hd
  injection hd with hd
  subst hd
  exact ⟨otherC_kind _ _ _, fun hk => by unfold otherC; rw [if_pos hk], fun _ => rfl⟩
/-- What VmApart says of three runs. -/
theorem apart_law {L : Nat} {R Wr : Int} {code : List (Nat × Int)} (hs : soundF (L : Nat) R Wr code = some true) (keep : Nat → Bool) (hkeep : ∀ k, keep k = (hasB R k || hasB Wr k)) (b : Int) {S : Fix} {f : Nat} {cs : List Cmp} {r : Except (Nat × Nat) (Nat × Mst)}
    (hr : runF S code f ⟨0, 0, [], List.replicate L 0, cs⟩ = some r) :
    (∀ (i : Nat) (c : Cmp), cs[i]? = some c → hasB Wr c.kind = false → (endC cs r)[i]? = some c) ∧
    (∃ ro, runF S code f ⟨0, 0, [], List.replicate L 0, cs.map (otherC keep b)⟩ = some ro ∧ endN ro = endN r ∧ endF ro = endF r ∧ CRo keep (cs.map (otherC keep b)) (endC cs r) (endC (cs.map (otherC keep b)) ro)) ∧
    (∃ rp, runF S code f ⟨0, 0, [], List.replicate L 0, cs.filter fun c => keep c.kind⟩ = some rp ∧ endN rp = endN r ∧ endF rp = endF r ∧ endC (cs.filter fun c => keep c.kind) rp = (endC cs r).filter fun c => keep c.kind) := by
  obtain ⟨n4, n5⟩ := sound_names hs
  have hK : ∀ x, x ∈ code → x.1 = 4 ∨ x.1 = 5 → KeepK keep x.2 := by
    intro x hx ho k hk
    rw [hkeep]
    rcases ho with ho | ho
    · rw [n4 x hx ho k hk]; rfl
    · rw [n5 x hx ho k hk]; simp
  refine ⟨fun i c hc hw => ?_, ?_, ?_⟩
  · refine run_keep (W := fun a => KeepK (hasB Wr) a) n5 cs f _ r (fun i c hc _ => hc) hr i c hc (fun hq => ?_)
    rw [hq c.kind rfl] at hw
    cases hw
  · exact run_rel (crel_other keep (cs.map (otherC keep b))) S code hK cs _ (cro_start keep b cs) f 0 0 [] _ cs _ (cro_start keep b cs) r hr
  · obtain ⟨rp, h1, h2, h3, h4⟩ := run_rel (crel_part keep) S code hK cs (cs.filter fun c => keep c.kind) rfl f 0 0 [] _ cs _ rfl r hr
    exact ⟨rp, h1, h2, h3, h4⟩
end
end Go.Proofs.Ytocbddajakbemaa
namespace Go.Proofs.Ytocbddajakbemaa
section
open Go.RowKit

theorem endC_bad {cs : List Cmp} {r : Except (Nat × Nat) (Nat × Mst)} (h : endN r ≠ 0) : endC cs r = cs := by
  rcases r with ⟨n, f⟩ | ⟨f, σ⟩
  · rfl
  · exact absurd rfl h
theorem has_bit (m : Int) (h0 : 0 ≤ m) (h1 : m ≤ 4294967295) (k : Nat) : bits .and .u32 (m / 2 ^ k) 1 = if m.toNat.testBit k then 1 else 0 := by
  obtain ⟨a, rfl⟩ : ∃ a : Nat, m = (a : Nat) := ⟨m.toNat, by omega⟩
  have e : (a : Int) / 2 ^ k = ((a / 2 ^ k : Nat) : Int) := by simp
  have hle : a / 2 ^ k ≤ a := Nat.div_le_self _ _
  rw [e, show (1 : Int) = ((1 : Nat) : Int) from rfl, u32_and_nat _ _ (by omega) (by decide), Int.toNat_natCast]
  rw [Nat.testBit_eq_decide_div_mod_eq, Nat.and_one_is_mod]
  by_cases h : a / 2 ^ k % 2 = 1
  · simp [h]
  · have : a / 2 ^ k % 2 = 0 := by omega
    simp [this]
set_option maxRecDepth 100000 in
theorem has_ok (m : Int) (h0 : 0 ≤ m) (h1 : m ≤ 4294967295) (k : Nat) (hk : k < 256) (w : World) : Calls Try.prog 13 #[.int .u32 m, .int .u8 (k : Nat)] w fun e w' => e = .returned (.bool (hasB m k)) ∧ w = w' := by
  by_cases h : k < 32
  · have d : decide ((k : Int) < 32) = true := decide_eq_true (by omega)
    have hb := has_bit m h0 h1 k
    have y0 : (0 : Int) ≤ (k : Nat) := by omega
    have y1 : ((k : Nat) : Int) ≤ 32 := by omega
    cases ht : m.toNat.testBit k
    · rw [ht] at hb
      have hr : hasB m k = false := by unfold hasB; rw [ht]; simp
      rw [hr]
      simp only [Bool.false_eq_true, if_false] at hb
      clear h h0 h1 hk ht hr
      go_enter Try.func13, Try.ntmps13
      go_wp2_with fail
      go_ret
      exact ⟨rfl, rfl⟩
    · rw [ht] at hb
      have hr : hasB m k = true := by unfold hasB; rw [ht]; simp [h]
      rw [hr]
      simp only [if_true] at hb
      clear h h0 h1 hk ht hr
      go_enter Try.func13, Try.ntmps13
      go_wp2_with fail
      go_ret
      exact ⟨rfl, rfl⟩
  · have d : decide ((k : Int) < 32) = false := decide_eq_false (by omega)
    have hr : hasB m k = false := by unfold hasB; simp [h]
    rw [hr]
    clear h h0 h1 hk hr
    go_enter Try.func13, Try.ntmps13
    go_wp2_with fail
    go_ret
    exact ⟨rfl, rfl⟩
end
end Go.Proofs.Ytocbddajakbemaa
namespace Go.Proofs.Ytocbddajakbemaa
section
open Go.RowKit

theorem filter_at {p : Cmp → Bool} : ∀ {l : List Cmp} {i : Nat} {d : Cmp}, l[i]? = some d → p d = true → (l.filter p)[((l.take i).filter p).length]? = some d := by
  intro l
  induction l with
  | nil => intro i d h; simp at h
  | cons x xs ih =>
    intro i d h hp
    rcases i with _ | i
    · simp only [List.getElem?_cons_zero, Option.some.injEq] at h
      subst h
      simp [List.filter_cons, hp]
    · simp only [List.getElem?_cons_succ] at h
      have := ih h hp
      rw [List.take_succ_cons, List.filter_cons, List.filter_cons]
      cases hx : p x
      · simpa [hx] using this
      · simpa [hx] using this
theorem filter_next {p : Cmp → Bool} {l : List Cmp} {i : Nat} {d : Cmp} (h : l[i]? = some d) : ((l.take (i + 1)).filter p).length = ((l.take i).filter p).length + (if p d = true then 1 else 0) := by
  rw [List.take_add_one, h, List.filter_append, List.length_append]
  cases hp : p d <;> simp [hp]
theorem own_xarg {w : World} {B : Nat} {v : Value} {cs : List Cmp} (h : w.ownsRow B 44 5 v cs.length (comps cs)) (hk : ∀ c, c ∈ cs → c.kind < 256) : ∃ A cap, v = .slice A cs.length cap ∧ XArg w A cs.length cap cs := by
  obtain ⟨A, cap, e, hc, hn⟩ := compsAt_own h
  exact ⟨A, cap, e, rfl, hc, hk, hn⟩
theorem own_some {w : World} {B e s n : Nat} {v : Value} {xs : List Value} (h : w.ownsRow B e s v (n + 1) xs) : ∃ g cap, v = .slice (some ⟨g, 0, none⟩) (n + 1) cap := by
  rcases h.2 with ⟨-, h0⟩ | ⟨g, cap, cur, e, -⟩
  · omega
  · exact ⟨g, cap, e⟩
theorem or_bounds {a b : Int} (ha0 : 0 ≤ a) (ha : a ≤ 4294967295) (hb0 : 0 ≤ b) (hb : b ≤ 4294967295) : 0 ≤ bits .or .u32 a b ∧ bits .or .u32 a b ≤ 4294967295 := by
  obtain ⟨m, rfl⟩ : ∃ m : Nat, a = (m : Nat) := ⟨a.toNat, by omega⟩
  obtain ⟨n, rfl⟩ : ∃ n : Nat, b = (n : Nat) := ⟨b.toNat, by omega⟩
  rw [u32_or_nat m n (by omega) (by omega)]
  have := Nat.or_lt_two_pow (n := 32) (x := m) (y := n) (by omega) (by omega)
  omega
/-- Behind a run: the entity in a new box. -/
def XRan (w : World) (ID : Int) (left err : Nat) (cs : List Cmp) (p l e : Value) (wx : World) : Prop :=
  ∃ q A c, p = .pointer (some ⟨q, 0, none⟩) ∧ l = .int .i64 (left : Nat) ∧ e = .int .i64 (err : Nat) ∧ XBox wx q ID A c cs ∧ Below w.heap.size w wx ∧ w.heap.size ≤ q
theorem xran_alloc {w W : World} {ID : Int} {left err B : Nat} {cs : List Cmp} {A : Option Addr} {c p : Nat} (hp : p = W.heap.size) (ho : W.ownsRow B 44 5 (.slice A cs.length c) cs.length (comps cs)) (hb : Below w.heap.size w W) :
    XRan w ID left err cs (.pointer (some ⟨p, 0, none⟩)) (.int .i64 (left : Nat)) (.int .i64 (err : Nat)) (W.alloc (.cells #[.int .i64 ID, .slice A cs.length c] 30 (0, 0))) := by
  subst hp
  exact ⟨_, A, c, rfl, rfl, rfl, XBox.new ho, hb.alloc hb.size _, hb.size⟩
theorem xran_set {w W : World} {ID : Int} {left err B : Nat} {cs : List Cmp} {A : Option Addr} {c q : Nat} (hq : W.heap[q]? = some (.cells #[.int .i64 0, .slice none 0 0] 30 (0, 0))) (hlt : w.heap.size ≤ q) (hB : q < B) (ho : W.ownsRow B 44 5 (.slice A cs.length c) cs.length (comps cs)) (hb : Below w.heap.size w W) :
    XRan w ID left err cs (.pointer (some ⟨q, 0, none⟩)) (.int .i64 (left : Nat)) (.int .i64 (err : Nat)) ((W.setCell ⟨q, 0, none⟩ (.int .i64 ID)).setCell ⟨q, 1, none⟩ (.slice A cs.length c)) := by
  have hO : Only q W ((W.setCell ⟨q, 0, none⟩ (.int .i64 ID)).setCell ⟨q, 1, none⟩ (.slice A cs.length c)) := ((Only.refl q W).setCell (p := ⟨q, 0, none⟩) rfl _).setCell (p := ⟨q, 1, none⟩) rfl _
  obtain ⟨A', c', e, hc, -⟩ := compsAt_own (own_low ho hO hB)
  simp only [Value.slice.injEq, true_and] at e
  obtain ⟨rfl, rfl⟩ := e
  exact ⟨_, A, c, rfl, rfl, rfl, ⟨block_setCell (block_setCell hq 0 _) 1 _, hc⟩, hb.trans (hO.below hlt), hlt⟩
/-- Below, closed: for the walks through regions that draw. -/
structure Bel (w W : World) : Prop where
  out : Below w.heap.size w W
theorem Bel.drew {w W : World} (h : Bel w W) : Bel w W.drew := ⟨h.out.drew⟩
theorem Bel.alloc {w W : World} (O : Obj) (h : Bel w W) : Bel w (W.alloc O) := ⟨h.out.alloc h.out.size O⟩
theorem Bel.call {w W W' : World} (h : Bel w W) (hb : Below W.heap.size W W') : Bel w W' := ⟨h.out.trans (hb.mono h.out.size)⟩
theorem Bel.set {w W : World} {q i : Nat} (v : Value) (h : Bel w W) (hq : w.heap.size ≤ q) : Bel w (W.setCell ⟨q, i, none⟩ v) := ⟨h.out.setCell hq v⟩
/-- The two entities that are built, in boxes q and q + 1; their components vo, vp in rows of their own. -/
structure ApI (wB W : World) (q : Nat) (ID : Int) (vo vp : Value) (os ps : List Cmp) : Prop where
  ko : W.heap[q]? = some (.cells #[.int .i64 ID, vo] 30 (0, 0))
  kp : W.heap[q + 1]? = some (.cells #[.int .i64 ID, vp] 30 (0, 0))
  oo : W.ownsRow (q + 2) 44 5 vo os.length (comps os)
  op : W.ownsRow (q + 2) 44 5 vp ps.length (comps ps)
  ne : ∀ b, vo.ownBlock = some b → vp.ownBlock ≠ some b
  hb : Below q wB W
theorem ApI.below {wB W W' : World} {q : Nat} {ID : Int} {vo vp : Value} {os ps : List Cmp} (h : ApI wB W q ID vo vp os ps) (hb : Below W.heap.size W W') : ApI wB W' q ID vo vp os ps :=
  ⟨(hb.block q (lt_of_block h.ko)).trans h.ko, (hb.block _ (lt_of_block h.kp)).trans h.kp, own_below h.oo hb, own_below h.op hb, h.ne, h.hb.trans (hb.mono (by have := lt_of_block h.ko; omega))⟩
/-- The same with the component at hand in a box of its own. -/
structure ApJ (wB W : World) (q : Nat) (ID : Int) (vo vp : Value) (os ps : List Cmp) (b : Nat) (c : Cmp) : Prop where
  i : ApI wB W q ID vo vp os ps
  k : W.heap[b]? = some (.cells #[.int .u8 (c.kind : Nat), .int .i64 c.v0, .int .i64 c.v1, .int .i64 c.v2, .int .i64 c.v3] 44 (0, 0))
  q2 : q + 2 ≤ b
  no : vo.ownBlock ≠ some b
  np : vp.ownBlock ≠ some b
section
variable {wB W W' : World} {q b : Nat} {ID : Int} {vo vp : Value} {os ps : List Cmp} {c : Cmp}
theorem ApJ.below (h : ApJ wB W q ID vo vp os ps b c) (hb : Below W.heap.size W W') : ApJ wB W' q ID vo vp os ps b c :=
  ⟨h.i.below hb, (hb.block b (lt_of_block h.k)).trans h.k, h.q2, h.no, h.np⟩
theorem ApI.box (h : ApI wB W q ID vo vp os ps) (c : Cmp) : ApJ wB (W.alloc (.cells #[.int .u8 (c.kind : Nat), .int .i64 c.v0, .int .i64 c.v1, .int .i64 c.v2, .int .i64 c.v3] 44 (0, 0))) q ID vo vp os ps W.heap.size c := by
  refine ⟨h.below ((Below.refl _ _).alloc (Nat.le_refl _) _), heap_alloc_new W _, ?_, ?_, ?_⟩
  · have := lt_of_block h.kp; omega
  · intro e; have := (own_lt h.oo e).1; omega
  · intro e; have := (own_lt h.op e).1; omega
theorem ApJ.facts (h : ApJ wB W q ID vo vp os ps b c) :
    (W.cell? ⟨b, 0, none⟩ = some (.int .u8 (c.kind : Nat)) ∧ W.cell? ⟨b, 1, none⟩ = some (.int .i64 c.v0) ∧ W.cell? ⟨b, 2, none⟩ = some (.int .i64 c.v1) ∧ W.cell? ⟨b, 3, none⟩ = some (.int .i64 c.v2) ∧ W.cell? ⟨b, 4, none⟩ = some (.int .i64 c.v3)) ∧
    (W.frozen? ⟨b, 1, none⟩ = false ∧ W.frozen? ⟨b, 4, none⟩ = false) ∧ (W.cell? ⟨q, 0, none⟩ = some (.int .i64 ID) ∧ W.cell? ⟨q, 1, none⟩ = some vo) ∧ (W.cell? ⟨q + 1, 0, none⟩ = some (.int .i64 ID) ∧ W.cell? ⟨q + 1, 1, none⟩ = some vp) :=
  ⟨⟨(cell_of_block h.k 0).trans rfl, (cell_of_block h.k 1).trans rfl, (cell_of_block h.k 2).trans rfl, (cell_of_block h.k 3).trans rfl, (cell_of_block h.k 4).trans rfl⟩, ⟨free_of_block h.k 1, free_of_block h.k 4⟩, ⟨(cell_of_block h.i.ko 0).trans rfl, (cell_of_block h.i.ko 1).trans rfl⟩, ⟨(cell_of_block h.i.kp 0).trans rfl, (cell_of_block h.i.kp 1).trans rfl⟩⟩
/-- A store into the component's box. -/
theorem ApJ.only (h : ApJ wB W q ID vo vp os ps b c) {c' : Cmp} (ho : Only b W W') (hk : W'.heap[b]? = some (.cells #[.int .u8 (c'.kind : Nat), .int .i64 c'.v0, .int .i64 c'.v1, .int .i64 c'.v2, .int .i64 c'.v3] 44 (0, 0))) : ApJ wB W' q ID vo vp os ps b c' := by
  have h2 := h.q2
  refine ⟨⟨(ho.block q (by omega)).trans h.i.ko, (ho.block _ (by omega)).trans h.i.kp, own_only h.i.oo ho h.no, own_only h.i.op ho h.np, h.i.ne, h.i.hb.trans (ho.below (by omega))⟩, hk, h2, h.no, h.np⟩
theorem ApJ.set0 (h : ApJ wB W q ID vo vp os ps b c) (x : Int) : ApJ wB (W.setCell ⟨b, 1, none⟩ (.int .i64 x)) q ID vo vp os ps b { c with v0 := x } :=
  h.only ((Only.refl b W).setCell rfl _) (block_setCell h.k 1 _)
theorem ApJ.set3 (h : ApJ wB W q ID vo vp os ps b c) (x : Int) : ApJ wB (W.setCell ⟨b, 4, none⟩ (.int .i64 x)) q ID vo vp os ps b { c with v3 := x } :=
  h.only ((Only.refl b W).setCell rfl _) (block_setCell h.k 4 _)
/-- The component is put behind the other entity's, or the part's. -/
theorem ApJ.othr (h : ApJ wB W q ID vo vp os ps b c) {O : Obj} {w8 : World} {v8 : Value} (hg : (W.alloc O).grownBy w8 vo.ownBlock) (ho : w8.ownsRow (q + 2) 44 5 v8 (os.length + 1) (comps os ++ c.cells)) (hat : v8.ownBlock = vo.ownBlock ∨ v8.ownBlock = some (W.alloc O).heap.size) :
    ApI wB (w8.setCell ⟨q, 1, none⟩ v8) q ID v8 vp (os ++ [c]) ps := by
  have s8 := hg.size
  rw [World.size_alloc] at s8
  have hq := lt_of_block h.i.kp
  have same : ∀ k, k < W.heap.size → some k ≠ vo.ownBlock → w8.heap[k]? = W.heap[k]? := fun k hk hn => (hg.block k (by rw [World.size_alloc]; omega) hn).trans (Below.heap_alloc _ _ _ hk)
  have hne : ∀ k, k < q + 2 → some k ≠ vo.ownBlock := fun k hk e => by have := (own_lt h.i.oo e.symm).2; omega
  have hO : Only q w8 (w8.setCell ⟨q, 1, none⟩ v8) := (Only.refl q w8).setCell rfl _
  have hpo : ∀ k, vp.ownBlock = some k → w8.heap[k]? = W.heap[k]? := fun k hk => same k (own_lt h.i.op hk).1 (fun e => h.i.ne k e.symm hk)
  refine ⟨block_setCell ((same q (by omega) (hne q (by omega))).trans h.i.ko) 1 v8, (hO.block (q + 1) (by omega)).trans ((same (q + 1) hq (hne (q + 1) (by omega))).trans h.i.kp), ?_, own_low (own_blk h.i.op hpo) hO (by omega), ?_, ?_⟩
  · have := own_low ho hO (by omega)
    rw [List.length_append, show comps (os ++ [c]) = comps os ++ c.cells by simp [comps]]
    exact this
  · intro k hk hk2
    rcases hat with e | e
    · rw [e] at hk; exact h.i.ne k hk hk2
    · rw [e, World.size_alloc] at hk
      injection hk with hk
      have := (own_lt h.i.op hk2).1
      omega
  · exact (((h.i.hb.alloc (by have := h.i.hb.size; have := lt_of_block h.i.ko; omega) O)).grown hg (by rw [World.size_alloc]; omega) (fun k hk => by have := (own_lt h.i.oo hk).2; omega)).trans (hO.below (Nat.le_refl _))
theorem ApJ.part (h : ApJ wB W q ID vo vp os ps b c) {O : Obj} {w8 : World} {v8 : Value} (hg : (W.alloc O).grownBy w8 vp.ownBlock) (ho : w8.ownsRow (q + 2) 44 5 v8 (ps.length + 1) (comps ps ++ c.cells)) (hat : v8.ownBlock = vp.ownBlock ∨ v8.ownBlock = some (W.alloc O).heap.size) :
    ApJ wB (w8.setCell ⟨q + 1, 1, none⟩ v8) q ID vo v8 os (ps ++ [c]) b c := by
  have s8 := hg.size
  rw [World.size_alloc] at s8
  have hq := lt_of_block h.i.kp
  have hbl := lt_of_block h.k
  have hq2 := h.q2
  have same : ∀ k, k < W.heap.size → some k ≠ vp.ownBlock → w8.heap[k]? = W.heap[k]? := fun k hk hn => (hg.block k (by rw [World.size_alloc]; omega) hn).trans (Below.heap_alloc _ _ _ hk)
  have hne : ∀ k, k < q + 2 → some k ≠ vp.ownBlock := fun k hk e => by have := (own_lt h.i.op e.symm).2; omega
  have hO : Only (q + 1) w8 (w8.setCell ⟨q + 1, 1, none⟩ v8) := (Only.refl (q + 1) w8).setCell rfl _
  have hpo : ∀ k, vo.ownBlock = some k → w8.heap[k]? = W.heap[k]? := fun k hk => same k (own_lt h.i.oo hk).1 (fun e => h.i.ne k hk e.symm)
  refine ⟨⟨(hO.block q (by omega)).trans ((same q (by omega) (hne q (by omega))).trans h.i.ko), block_setCell ((same (q + 1) hq (hne (q + 1) (by omega))).trans h.i.kp) 1 v8, own_low (own_blk h.i.oo hpo) hO (by omega), ?_, ?_, ?_⟩, (hO.block b (by omega)).trans ((same b hbl (fun e => h.np e.symm)).trans h.k), hq2, h.no, ?_⟩
  · have := own_low ho hO (by omega)
    rw [List.length_append, show comps (ps ++ [c]) = comps ps ++ c.cells by simp [comps]]
    exact this
  · intro k hk hk2
    rcases hat with e | e
    · rw [e] at hk2; exact h.i.ne k hk hk2
    · rw [e, World.size_alloc] at hk2
      injection hk2 with hk2
      have := (own_lt h.i.oo hk).1
      omega
  · exact (((h.i.hb.alloc (by have := h.i.hb.size; have := lt_of_block h.i.ko; omega) O)).grown hg (by rw [World.size_alloc]; omega) (fun k hk => by have := (own_lt h.i.op hk).2; omega)).trans (hO.below (by omega))
  · intro e
    rcases hat with e2 | e2
    · rw [e2] at e; exact h.np e
    · rw [e2, World.size_alloc] at e
      injection e with e
      omega
theorem apI_new (w : World) (ID : Int) : ∃ w8 w10, w8 = w.alloc (.cells #[.int .i64 ID, .slice none 0 0] 30 (0, 0)) ∧ w10 = w8.alloc (.cells #[.int .i64 ID, .slice none 0 0] 30 (0, 0)) ∧ w8.heap.size = w.heap.size + 1 ∧ Below w.heap.size w w8 ∧
    ApI w w10 w.heap.size ID (.slice none 0 0) (.slice none 0 0) [] [] := by
  refine ⟨_, _, rfl, rfl, by simp, (Below.refl _ _).alloc (Nat.le_refl _) _, ⟨heap_alloc_fst w _ _, heap_alloc_snd w _ _, ⟨rfl, Or.inl ⟨rfl, rfl⟩⟩, ⟨rfl, Or.inl ⟨rfl, rfl⟩⟩, fun b h => by simp [Value.ownBlock] at h, ((Below.refl _ _).alloc (Nat.le_refl _) _).alloc (by simp) _⟩⟩
theorem kinds_at {cs ds : List Cmp} (h : kinds ds = kinds cs) {i : Nat} {c d : Cmp} (hc : cs[i]? = some c) (hd : ds[i]? = some d) : d.kind = c.kind := by
  have e := congrArg (fun l : List Nat => l[i]?) h
  simp only [kinds, List.getElem?_map, hc, hd, Option.map_some, Option.some.injEq] at e
  exact e
end
end
end Go.Proofs.Ytocbddajakbemaa
