/- What the walk is told of arguments: slices of integers, slices of structs of integers, structs of integers. -/
import Derived.Test.YtocbddajakbemaaGreatChecked
import Derived.WalkKit
import Derived.ProofKit
import Derived.OpenShut
import Derived.ShutString
import Derived.ChangeOld
import Derived.Below
import Derived.Deep.Slices
import Derived.Deep.Fields
import Derived.ChangeSame
import Derived.Lib.SmallJoins
set_option linter.unusedVariables false
set_option linter.unusedSimpArgs false
namespace Go.Proofs.YtocbddajakbemaaGreat
open Go.ChangeShapes Go.WideShapes Go.ChangeAt Go.RowKit Go.Deep Go.Joins

/-- A slice of integers that came in. -/
def IsRow (k : IntKind) (w : World) (a : Option Addr) (len cap : Nat) (zs : List Int) : Prop :=
  (a = none ∧ len = 0 ∧ cap = 0 ∧ zs = []) ∨
  ∃ x, a = some x ∧ len ≤ cap ∧ cap ≤ maxLen ∧ zs.length = cap ∧ (∀ i, i < zs.length → w.cell? (x.add i) = some (.int k (zs.getD i 0))) ∧ ∀ n ∈ zs, (Lit.int k n).wf = true
/-- A slice of structs of integers that came in: number j of element i is z i j. -/
def IsRecs (ks : List IntKind) (w : World) (a : Option Addr) (len cap : Nat) (z : Nat → Nat → Int) : Prop :=
  (a = none ∧ len = 0 ∧ cap = 0) ∨
  ∃ x, a = some x ∧ len ≤ cap ∧ cap ≤ maxLen ∧ ∀ i j k, i < len → ks[j]? = some k → w.cell? (x.add (i * ks.length + j)) = some (.int k (z i j)) ∧ (Lit.int k (z i j)).wf = true

section
variable {H : Type} {enc : TypeId × Value → H} {P : Program} {w : World}
theorem open_row {t e : TypeId} {k : IntKind} {a : Option Addr} {len cap : Nat} {d : DataW H} {p : List MemPlace} (ht : P.underlying t = some (.slice e)) (he : P.underlying e = some (.int k)) (hc : P.cellsOf e = 1)
    (h : DataW.Trod enc P w 0 (fun _ => true) true t (.slice a len cap) d p) : ∃ zs, IsRow k w a len cap zs := by
  obtain ⟨fuel, hf⟩ := h
  rcases open_ints ht he hc hf with ⟨hcs, _⟩ | ⟨x, l, c, zs, hcs, _, hl, hm, hz, _, hcell, hwz⟩
  · simp [Value.cells] at hcs
    obtain ⟨rfl, rfl, rfl⟩ := hcs
    exact ⟨[], .inl ⟨rfl, rfl, rfl, rfl⟩⟩
  · simp [Value.cells] at hcs
    obtain ⟨rfl, rfl, rfl⟩ := hcs
    exact ⟨zs, .inr ⟨_, rfl, hl, hm, by simpa using hz, hcell, hwz⟩⟩

/-- The integer that a value is. -/
def numV : Value → Int
  | .int _ n => n
  | _ => 0
theorem open_recs {t e : TypeId} {fs : Array Field} {ks : List IntKind} {a : Option Addr} {len cap : Nat} {d : DataW H} {p : List MemPlace} (ht : P.underlying t = some (.slice e)) (he : P.underlying e = some (.struct fs))
    (hone : oneCellFields P fs = true) (hC : P.cellsOf e = ks.length) (hsz : fs.size = ks.length) (hk : ∀ (j : Nat) (k : IntKind), ks[j]? = some k → ∃ f, fs[j]? = some f ∧ P.underlying f.type = some (.int k))
    (h : DataW.Trod enc P w 0 (fun _ => true) true t (.slice a len cap) d p) : ∃ z, IsRecs ks w a len cap z := by
  obtain ⟨fuel, hf⟩ := h
  rcases open_slice ht hf with ⟨hcs, _⟩ | ⟨x, l, c, m, n, D, Pl, hcs, _, hl, hm, hmm, _, hi⟩
  · simp [Value.cells] at hcs
    obtain ⟨rfl, rfl, rfl⟩ := hcs
    exact ⟨fun _ _ => 0, .inl ⟨rfl, rfl, rfl⟩⟩
  · simp [Value.cells] at hcs
    obtain ⟨rfl, rfl, rfl⟩ := hcs
    refine ⟨fun i j => match w.cell? (x.add (i * ks.length + j)) with | some v => numV v | none => 0, .inr ⟨x, rfl, hl, hm, ?_⟩⟩
    intro i j k him hkj
    obtain ⟨f, hfj, hu⟩ := hk j k hkj
    have hjl : j < ks.length := (List.getElem?_eq_some_iff.1 hkj).1
    obtain ⟨cs', hc, htr⟩ := hi i (by simp at hmm; omega)
    rw [hC] at hc
    obtain ⟨_, hcl, hat⟩ := World.cells?_some hc
    obtain ⟨ys, n', _, _, _, hyl, hff⟩ := DataW.trod_struct he htr
    obtain ⟨ho, hk1⟩ := hone_of hone j f hfj
    have h1 := hff j f hfj
    rw [ho, hk1] at h1
    have hone' : (cs'.drop j).take 1 = [cs'[j]'(by omega)] := by rw [List.drop_eq_getElem_cons (by omega)]; rfl
    rw [hone'] at h1
    have hys : ys[j]? = some (ys[j]'(by omega)) := List.getElem?_eq_getElem (by omega)
    obtain ⟨v, hv, _, hwf⟩ := DataW.trod_int hu (h1.trans hys)
    have hcell : w.cell? (x.add (i * ks.length + j)) = some (.int k v) := by
      rw [← Go.Deep.add_add, hat j hjl, List.getElem?_eq_getElem (by omega)]
      injection hv with hv
      rw [hv]
    have e : (match w.cell? (x.add (i * ks.length + j)) with | some v => numV v | none => 0) = v := by rw [hcell]; rfl
    show w.cell? (x.add (i * ks.length + j)) = some (.int k (match w.cell? (x.add (i * ks.length + j)) with | some v => numV v | none => 0)) ∧ _
    rw [e]
    exact ⟨hcell, by show (Lit.int k (match w.cell? (x.add (i * ks.length + j)) with | some v => numV v | none => 0)).wf = true; rw [e]; exact hwf⟩
end
theorem IsRow.bytes {w : World} {a : Option Addr} {len cap : Nat} {zs : List Int} (h : IsRow .u8 w a len cap zs) :
    ∃ f : Nat → Nat, (∀ i, f i < 256) ∧ len ≤ cap ∧ cap ≤ 9223372036854775807 ∧ (a = none → len = 0 ∧ cap = 0) ∧ (∀ i, i < len → ∃ ad, a = some ad ∧ w.cell? (ad.add i) = some (.int .u8 ((f i : Nat) : Int))) := by
  rcases h with ⟨rfl, rfl, rfl, rfl⟩ | ⟨x, rfl, h1, h2, h3, h4, h5⟩
  · exact ⟨fun _ => 0, by simp, by simp, by simp, fun _ => ⟨rfl, rfl⟩, fun i hi => by omega⟩
  · have hb : ∀ i, 0 ≤ zs.getD i 0 ∧ zs.getD i 0 ≤ 255 := by
      intro i
      by_cases hi : i < zs.length
      · have := bounds_u8 (h5 (zs.getD i 0) (by rw [List.getD_eq_getElem?_getD, List.getElem?_eq_getElem hi]; simp))
        omega
      · rw [List.getD_eq_getElem?_getD, List.getElem?_eq_none (by omega)]; simp
    refine ⟨fun i => (zs.getD i 0).toNat, fun i => ?_, h1, by simpa [maxLen] using h2, fun e => absurd e (by simp), fun i hi => ⟨x, rfl, ?_⟩⟩
    · have := hb i
      show (zs.getD i 0).toNat < 256
      omega
    · rw [h4 i (by omega)]
      have := hb i
      show some (Value.int .u8 (zs.getD i 0)) = some (Value.int .u8 ((zs.getD i 0).toNat : Int))
      rw [Int.toNat_of_nonneg this.1]
end Go.Proofs.YtocbddajakbemaaGreat
