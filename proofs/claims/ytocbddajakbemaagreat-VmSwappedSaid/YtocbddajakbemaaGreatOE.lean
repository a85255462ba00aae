/- vm: VmSwapped's walk. -/
import Derived.Test.YtocbddajakbemaaGreatOA
import Derived.Test.YtocbddajakbemaaGreatNZ
import Derived.Test.YtocbddajakbemaaGreatMU
import Derived.Deep.CutBlock
import Derived.Deep.DeepCutAuto
set_option linter.unusedVariables false
set_option linter.unusedSimpArgs false
set_option linter.unusedSimpArgs false
namespace Go.Proofs.YtocbddajakbemaaGreat
section
open Go.RowKit
theorem szNot (t : E0) : szE (notE t) ≤ szE t + 3 := by
  have z : (⟨#[]⟩ : ByteArray).size / 30 = 0 := by decide
  have plain : notE t = .mk 8 0 ⟨#[]⟩ [t] → szE (notE t) ≤ szE t + 3 := by
    intro e
    rw [e]
    simp only [szE, szEs, z]; omega
  rcases ht : t.args with _ | ⟨a, _ | ⟨b, _ | ⟨c, r⟩⟩⟩
  · exact plain (by unfold notE; rw [ht])
  · exact plain (by unfold notE; rw [ht])
  · by_cases c22 : t.op = 22
    · have e : notE t = .mk 21 0 ⟨#[]⟩ [.mk 8 0 ⟨#[]⟩ [a], .mk 8 0 ⟨#[]⟩ [b]] := by unfold notE; rw [ht]; simp only [c22, if_true]
      rw [e]
      have e2 : szE t = 1 + t.nm.size / 30 + szEs t.args := by cases t; simp only [szE]; rfl
      rw [e2, ht]
      simp only [szE, szEs, z]; omega
    · exact plain (by unfold notE; rw [ht]; simp only [c22, if_false])
  · exact plain (by unfold notE; rw [ht])
theorem szFlip (s : S0) : szS (flipS s) ≤ szS s + 3 := by
  unfold flipS
  rcases he : s.e with _ | ⟨t, _ | ⟨u, r⟩⟩
  · simp only; omega
  · simp only
    by_cases c : s.op = 4
    · rw [if_pos c]
      have e : szS s = 1 + s.nm.size / 30 + szEs s.e + szSs s.b + szSs s.els := by cases s; simp only [szS]; rfl
      rw [e, he]
      have := szNot t
      simp only [szS, szEs]; omega
    · rw [if_neg c]; omega
  · simp only; omega
theorem szFlipF : ∀ l : List S0, szSs (l.map flipS) ≤ 4 * szSs l := by
  intro l
  induction l with
  | nil => simp [szSs]
  | cons s l ih =>
    have h1 := szFlip s
    have h2 := szS_pos s
    simp only [List.map_cons, szSs]; omega
def swapL (l : List S0) (i : Nat) : List S0 := (l.take i).map flipS ++ l.drop i
theorem swapL_all (l : List S0) (i : Nat) (h : l.length ≤ i) : swapL l i = l.map flipS := by unfold swapL; rw [List.take_of_length_le h, List.drop_of_length_le h, List.append_nil]
theorem swapL_len (l : List S0) (i : Nat) : (swapL l i).length = l.length := by unfold swapL; simp; omega
theorem swapL_at {l : List S0} {i : Nat} {s : S0} (h : l[i]? = some s) : (swapL l i)[i]? = some s := by
  have hlt := (List.getElem?_eq_some_iff.1 h).1
  unfold swapL
  rw [List.getElem?_append_right (by simp; omega)]
  simp only [List.length_map, List.length_take, List.getElem?_drop]
  rw [Nat.min_eq_left (by omega), Nat.sub_self, Nat.add_zero]; exact h
theorem swapL_set {l : List S0} {i : Nat} {s : S0} (h : l[i]? = some s) : (swapL l i).set i (flipS s) = swapL l (i + 1) := by
  have hlt := (List.getElem?_eq_some_iff.1 h).1
  unfold swapL
  have e : l.drop i = s :: l.drop (i + 1) := by
    rw [List.drop_eq_getElem_cons hlt, (List.getElem?_eq_some_iff.1 h).2]
  rw [e, List.take_add_one, h, List.set_append_right _ _ (by simp; omega)]
  simp only [List.length_map, List.length_take]
  rw [Nat.min_eq_left (by omega), Nat.sub_self]
  simp
theorem swapL_skip {l : List S0} {i : Nat} {s : S0} (h : l[i]? = some s) (hf : flipS s = s) : swapL l (i + 1) = swapL l i := by
  rw [← swapL_set h, hf]
  apply List.ext_getElem?
  intro k
  by_cases e : i = k
  · subst e
    rw [List.getElem?_set_self (by rw [swapL_len]; exact (List.getElem?_eq_some_iff.1 h).1), swapL_at h]
  · rw [List.getElem?_set_ne e]
theorem flip_op {s : S0} (h : s.op ≠ 4) : flipS s = s := by
  unfold flipS
  split
  · rw [if_neg h]
  · rfl
theorem flip_len {s : S0} (h : s.e.length ≠ 1) : flipS s = s := by
  unfold flipS
  split
  · rename_i he; rw [he] at h; exact absurd rfl h
  · rfl
theorem set_same {l : List Value} {i : Nat} {v : Value} (h : l[i]? = some v) : l.set i v = l := by
  apply List.ext_getElem?
  intro k
  by_cases e : i = k
  · subst e; rw [List.getElem?_set_self (List.getElem?_eq_some_iff.1 h).1, h]
  · rw [List.getElem?_set_ne e]
theorem srs0_set3 {recs : List SR0} {j : Nat} {r t : SR0} (h : recs[j]? = some r) (e0 : t.s.op = r.s.op) (e1 : t.s.n = r.s.n) (e2 : t.s.nm = r.s.nm) : (((srs0 recs).set (j * 6 + 3) (.slice t.EA t.s.e.length t.ec)).set (j * 6 + 4) (.slice t.BA t.s.b.length t.bc)).set (j * 6 + 5) (.slice t.LA t.s.els.length t.lc) = srs0 (recs.set j t) := by
  have k := fun i hi => flat_at SR0.cells 6 sr0_len recs j r i h hi
  have k0 : (srs0 recs)[j * 6]? = some (.int .u8 (t.s.op : Nat)) := by rw [e0]; exact k 0 (by omega)
  have k1 : (srs0 recs)[j * 6 + 1]? = some (.int .i64 t.s.n) := by rw [e1]; exact k 1 (by omega)
  have k2 : (srs0 recs)[j * 6 + 2]? = some (.string t.s.nm) := by rw [e2]; exact k 2 (by omega)
  have e := srs0_set (t := t) h
  rw [set_same k0, set_same k1, set_same k2] at e
  exact e
theorem MRow.set3 {W : World} {B rb n c j : Nat} {l : List S0} {x s : S0} (h : MRow W B (.slice (some ⟨rb, 0, none⟩) n c) l) (hj : l[j]? = some x) (e0 : s.op = x.op) (e1 : s.n = x.n) (e2 : s.nm = x.nm) (EA : Option Addr) (ec : Nat) (BA : Option Addr) (bc : Nat) (LA : Option Addr) (lc : Nat) (hl : SLim s)
    (hE : ∀ d, EsIn (fun q => (B ≤ q ∧ q < W.heap.size) ∧ rb ≠ q) W d EA s.e) (hB : ∀ d, SsIn (fun q => (B ≤ q ∧ q < W.heap.size) ∧ rb ≠ q) W d BA s.b) (hL : ∀ d, SsIn (fun q => (B ≤ q ∧ q < W.heap.size) ∧ rb ≠ q) W d LA s.els) :
    MRow (((W.setCell ⟨rb, j * 6 + 3, none⟩ (.slice EA s.e.length ec)).setCell ⟨rb, j * 6 + 4, none⟩ (.slice BA s.b.length bc)).setCell ⟨rb, j * 6 + 5, none⟩ (.slice LA s.els.length lc)) B (.slice (some ⟨rb, 0, none⟩) n c) (l.set j s) := by
  obtain ⟨recs, rfl, hown, hrow⟩ := h
  rw [List.getElem?_map] at hj
  rcases hx : recs[j]? with _ | r
  · rw [hx] at hj; cases hj
  rw [hx] at hj
  injection hj with hj
  subst hj
  rw [List.length_map] at hown
  have hn : n = recs.length := by
    rcases hown.2 with ⟨e, -⟩ | ⟨g, cap, cur, e, -⟩
    · cases e
    · simp only [Value.slice.injEq] at e
      exact e.2.1
  subst hn
  refine ⟨recs.set j ⟨s, EA, ec, BA, bc, LA, lc⟩, by rw [List.map_set], ?_, ?_⟩
  · rw [List.length_set, List.length_map]
    have := (((hown.stored (j * 6 + 3) (.slice EA s.e.length ec)).1.stored (j * 6 + 4) (.slice BA s.b.length bc)).1.stored (j * 6 + 5) (.slice LA s.els.length lc)).1
    rw [srs0_set3 (t := ⟨s, EA, ec, BA, bc, LA, lc⟩) hx e0 e1 e2] at this
    exact this
  · have hi : ∀ q, (B ≤ q ∧ q < W.heap.size) ∧ rb ≠ q → (B ≤ q ∧ q < (((W.setCell ⟨rb, j * 6 + 3, none⟩ (.slice EA s.e.length ec)).setCell ⟨rb, j * 6 + 4, none⟩ (.slice BA s.b.length bc)).setCell ⟨rb, j * 6 + 5, none⟩ (.slice LA s.els.length lc)).heap.size) ∧ (Value.slice (some ⟨rb, 0, none⟩) recs.length c).ownBlock ≠ some q := fun q h => ⟨by simpa using h.1, fun e => h.2 (by
      have : some rb = some q := e
      injection this)⟩
    have hq : ∀ q, (B ≤ q ∧ q < W.heap.size) ∧ rb ≠ q → (((W.setCell ⟨rb, j * 6 + 3, none⟩ (.slice EA s.e.length ec)).setCell ⟨rb, j * 6 + 4, none⟩ (.slice BA s.b.length bc)).setCell ⟨rb, j * 6 + 5, none⟩ (.slice LA s.els.length lc)).heap[q]? = W.heap[q]? := fun q h => by
      have hne : q ≠ rb := fun e => h.2 e.symm
      rw [Below.heap_setCell _ _ _ _ hne, Below.heap_setCell _ _ _ _ hne, Below.heap_setCell _ _ _ _ hne]
    intro r hr
    rcases List.mem_or_eq_of_mem_set hr with hr | hr
    · exact (hrow.step (ok' := fun q => (B ≤ q ∧ q < W.heap.size) ∧ rb ≠ q) (fun q _ => rfl) (fun q h => ⟨h.1, fun e => h.2 (by rw [e]; rfl)⟩)).step hq hi r hr
    · subst hr
      exact ⟨⟨fun d => (hE d).step hq hi, fun d => (hB d).step hq hi, fun d => (hL d).step hq hi⟩, hl⟩
theorem MRow.drew {W : World} {B : Nat} {v : Value} {l : List S0} (h : MRow W B v l) : MRow W.drew B v l := h.below (Below.refl _ _).drew
theorem EsIn.one1 {ok : Nat → Prop} {w : World} {A : Option Addr} {l : List E0} (h : ∀ d, EsIn ok w d A l) {j : Nat} {x : E0} (hj : l[j]? = some x) : ∃ b o A' c, A = some ⟨b, o, none⟩ ∧ ok b ∧ ECells w b (o + j * 4) x A' c ∧ (∀ d, EsIn ok w d A' x.args) ∧ x.args.length ≤ c := by
  obtain ⟨b, o, A', c, eA, hb, hc, -, hk⟩ := h 1 j x hj
  refine ⟨b, o, A', c, eA, hb, hc, fun d => ?_, hk⟩
  obtain ⟨b2, o2, A2, c2, eA2, -, hc2, hd2, -⟩ := h (d + 1) j x hj
  rw [eA] at eA2
  simp only [Option.some.injEq, Addr.mk.injEq] at eA2
  obtain ⟨rfl, rfl, -⟩ := eA2
  have e3 := hc.c3.symm.trans hc2.c3
  simp only [Option.some.injEq, Value.slice.injEq] at e3
  rw [e3.1]; exact hd2
theorem EsIn.single {ok : Nat → Prop} {w : World} {b o : Nat} {x : E0} {A : Option Addr} {c : Nat} (hb : ok b) (hc : ECells w b o x A c) (h : ∀ d, EsIn ok w d A x.args) (hk : x.args.length ≤ c) : ∀ d, EsIn ok w d (some ⟨b, o, none⟩) [x] := by
  intro d
  rcases d with _ | d
  · trivial
  intro j y hj
  rcases j with _ | j
  · simp at hj
    subst hj
    exact ⟨b, o, A, c, rfl, hb, hc, h d, hk⟩
  · simp at hj
theorem EsIn.pair {ok : Nat → Prop} {w : World} {b : Nat} {x y : E0} {A A2 : Option Addr} {c c2 : Nat} (hb : ok b) (hc : ECells w b 0 x A c) (h : ∀ d, EsIn ok w d A x.args) (hk : x.args.length ≤ c) (hc2 : ECells w b 4 y A2 c2) (h2 : ∀ d, EsIn ok w d A2 y.args) (hk2 : y.args.length ≤ c2) : ∀ d, EsIn ok w d (some ⟨b, 0, none⟩) [x, y] := by
  intro d
  rcases d with _ | d
  · trivial
  intro j z hj
  rcases j with _ | _ | j
  · simp at hj
    subst hj
    exact ⟨b, 0, A, c, rfl, hb, hc, h d, hk⟩
  · simp at hj
    subst hj
    exact ⟨b, 0, A2, c2, rfl, hb, hc2, h2 d, hk2⟩
  · simp at hj
theorem list_two {α : Type} {l : List α} (h : l.length = 2) : ∃ a b, l = [a, b] := by
  match l, h with
  | [a, b], _ => exact ⟨a, b, rfl⟩
theorem not_plain {t : E0} (h : ¬ (t.op = 22 ∧ t.args.length = 2)) : notE t = .mk 8 0 ⟨#[]⟩ [t] := by
  unfold notE
  split
  · rename_i he
    rw [if_neg (fun c => h ⟨c, by rw [he]; rfl⟩)]
  · rfl
theorem BoIn.set1 {w W : World} {g : Nat} {ID : Int} {A : Option Addr} {n cap : Nat} {seed tick key : Int} (h : BoIn w W g ID A n cap seed tick key) {rb : Nat} (hr : g + 1 < rb) (o : Nat) (v : Value) : BoIn w (W.setCell ⟨rb, o, none⟩ v) g ID A n cap seed tick key :=
  ⟨(Below.heap_setCell _ _ _ _ (by simp; omega)).trans h.x, (Below.heap_setCell _ _ _ _ (by simp; omega)).trans h.v, h.b.setCell (p := ⟨rb, o, none⟩) (by show g ≤ rb; omega) _⟩
theorem BoIn.drew {w W : World} {g : Nat} {ID : Int} {A : Option Addr} {n cap : Nat} {seed tick key : Int} (h : BoIn w W g ID A n cap seed tick key) : BoIn w W.drew g ID A n cap seed tick key := h.below (Below.refl _ _).drew
theorem row_facts {W : World} {B rb n c j : Nat} {l : List S0} {x : S0} (h : MRow W B (.slice (some ⟨rb, 0, none⟩) n c) l) (hj : l[j]? = some x) {kb kl : Nat} (BA : Option Addr) (bc : Nat) (EL : Option Addr) (el : Nat) (h4 : W.cell? ⟨rb, j * 6 + 4, none⟩ = some (.slice BA kb bc)) (h5 : W.cell? ⟨rb, j * 6 + 5, none⟩ = some (.slice EL kl el)) (a b : Value) :
    (∃ p, W.cell? ⟨rb, j * 6 + 3, none⟩ = some p) ∧ W.frozen? ⟨rb, j * 6 + 3, none⟩ = false ∧ ((W.setCell ⟨rb, j * 6 + 3, none⟩ a).cell? ⟨rb, j * 6 + 4, none⟩ = some (.slice BA kb bc) ∧ (W.setCell ⟨rb, j * 6 + 3, none⟩ a).cell? ⟨rb, j * 6 + 5, none⟩ = some (.slice EL kl el) ∧ ((W.setCell ⟨rb, j * 6 + 3, none⟩ a).setCell ⟨rb, j * 6 + 4, none⟩ b).cell? ⟨rb, j * 6 + 5, none⟩ = some (.slice EL kl el)) ∧
    (W.setCell ⟨rb, j * 6 + 3, none⟩ a).frozen? ⟨rb, j * 6 + 4, none⟩ = false ∧ (W.setCell ⟨rb, j * 6 + 3, none⟩ a).frozen? ⟨rb, j * 6 + 5, none⟩ = false ∧ ((W.setCell ⟨rb, j * 6 + 3, none⟩ a).setCell ⟨rb, j * 6 + 4, none⟩ b).frozen? ⟨rb, j * 6 + 5, none⟩ = false := by
  obtain ⟨EA, ec, BA', bc', EL', el', ⟨-, -, -, c3, -, -, -⟩, hz, -⟩ := h.cells hj
  have ne : ∀ p q : Nat, p ≠ q → (⟨rb, p, none⟩ : Addr) ≠ ⟨rb, q, none⟩ := fun p q h e => h (by injection e)
  refine ⟨⟨_, c3⟩, hz _, ⟨?_, ?_, ?_⟩, ?_, ?_, ?_⟩
  · rw [World.cell?_setCell_other _ _ _ _ (ne _ _ (by omega))]; exact h4
  · rw [World.cell?_setCell_other _ _ _ _ (ne _ _ (by omega))]; exact h5
  · rw [World.cell?_setCell_other _ _ _ _ (ne _ _ (by omega)), World.cell?_setCell_other _ _ _ _ (ne _ _ (by omega))]; exact h5
  · rw [World.frozen?_setCell]; exact hz _
  · rw [World.frozen?_setCell]; exact hz _
  · rw [World.frozen?_setCell, World.frozen?_setCell]; exact hz _
theorem swap_one {W w8 : World} {B rb n c i : Nat} {l : List S0} {x : S0} {t : E0} {EA : Option Addr} {ec : Nat} {BA : Option Addr} {bc : Nat} {EL : Option Addr} {el kb kl : Nat} (hx : l[i]? = some x) (ht : x.e = [t]) (h4 : x.op = 4) (M8 : MRow w8 B (.slice (some ⟨rb, 0, none⟩) n c) (swapL l i)) (hb : Below W.heap.size W w8) (hB : B ≤ rb) (hrb : rb < W.heap.size) (hlim : SLim x)
    (hE : ∀ d, EsIn (fun q => (B ≤ q ∧ q < w8.heap.size) ∧ rb ≠ q) w8 d EA [notE t]) (hBs : ∀ d, SsIn (fun q => (B ≤ q ∧ q < W.heap.size) ∧ rb ≠ q) W d BA x.b) (hL : ∀ d, SsIn (fun q => (B ≤ q ∧ q < W.heap.size) ∧ rb ≠ q) W d EL x.els) (ekb : kb = x.b.length) (ekl : kl = x.els.length) :
    MRow (((w8.setCell ⟨rb, i * 6 + 3, none⟩ (.slice EA 1 ec)).setCell ⟨rb, i * 6 + 4, none⟩ (.slice EL kl el)).setCell ⟨rb, i * 6 + 5, none⟩ (.slice BA kb bc)) B (.slice (some ⟨rb, 0, none⟩) n c) (swapL l (i + 1)) := by
  have ef : flipS x = .mk 4 x.n x.nm [notE t] x.els x.b := by unfold flipS; rw [ht]; simp only [h4, if_true]
  have hs := hb.size
  have hq : ∀ q, (B ≤ q ∧ q < W.heap.size) ∧ rb ≠ q → w8.heap[q]? = W.heap[q]? := fun q h => hb.block q h.1.2
  have ho : ∀ q, (B ≤ q ∧ q < W.heap.size) ∧ rb ≠ q → (B ≤ q ∧ q < w8.heap.size) ∧ rb ≠ q := fun q h => ⟨⟨h.1.1, by omega⟩, h.2⟩
  subst ekb ekl
  rw [← swapL_set hx, ef]
  exact M8.set3 (swapL_at hx) (s := .mk 4 x.n x.nm [notE t] x.els x.b) h4.symm rfl rfl EA ec EL el BA bc ⟨(by decide : (4 : Nat) < 256), hlim.2.1, hlim.2.2.1, (by decide : (1 : Nat) ≤ 1000000), hlim.2.2.2.2.2, hlim.2.2.2.2.1⟩ hE (fun d => (hL d).step hq ho) (fun d => (hBs d).step hq ho)
theorem single_not {W w8 : World} {B rb b2 nb : Nat} {t : E0} {TA : Option Addr} {tc kt : Nat} (h1 : W.heap.size ≤ nb) (h2 : W.heap.size ≤ b2) (eN : notE t = .mk 8 0 ⟨#[]⟩ [t]) (hb : Below W.heap.size W w8) (hB : B ≤ rb) (hrb : rb < W.heap.size)
    (k8 : w8.heap[b2]? = some (.cells #[.int .u8 8, .int .i64 0, .string ⟨#[]⟩, .slice (some ⟨nb, 0, none⟩) 1 1] 34 (0, 0))) (k6 : w8.heap[nb]? = some (.cells #[.int .u8 (t.op : Nat), .int .i64 t.n, .string t.nm, .slice TA kt tc] 34 (0, 0))) (ekt : kt = t.args.length) (dn : TA = none → t.args.length = 0 ∧ tc = 0) (dl : ELim t)
    (hT : ∀ d, EsIn (fun q => (B ≤ q ∧ q < W.heap.size) ∧ rb ≠ q) W d TA t.args) (htc : t.args.length ≤ tc) : ∀ d, EsIn (fun q => (B ≤ q ∧ q < w8.heap.size) ∧ rb ≠ q) w8 d (some ⟨b2, 0, none⟩) [notE t] := by
  subst ekt
  have hs := hb.size
  rw [eN]
  have l8 := lt_of_block k8
  have l6 := lt_of_block k6
  refine EsIn.single ⟨⟨by omega, l8⟩, by omega⟩ (A := some ⟨nb, 0, none⟩) (c := 1) ⟨(cell_of_block k8 0).trans rfl, (cell_of_block k8 1).trans rfl, (cell_of_block k8 2).trans rfl, (cell_of_block k8 3).trans rfl, (fun e => by cases e), ⟨(by decide : (8 : Nat) < 256), (by decide : -9223372036854775808 ≤ (0 : Int)), (by decide : (0 : Int) ≤ 9223372036854775807), (by decide : (1 : Nat) ≤ 1000000)⟩⟩ ?_ (Nat.le_refl 1)
  exact EsIn.single ⟨⟨by omega, l6⟩, by omega⟩ ⟨(cell_of_block k6 0).trans rfl, (cell_of_block k6 1).trans rfl, (cell_of_block k6 2).trans rfl, (cell_of_block k6 3).trans rfl, dn, dl⟩ (fun d => (hT d).step (fun q h => hb.block q h.1.2) (fun q h => ⟨⟨h.1.1, by omega⟩, h.2⟩)) htc
theorem pair_not {W w8 : World} {B rb b2 nc : Nat} {t a b : E0} {ab ao tc : Nat} (h1 : W.heap.size ≤ b2) (h2 : W.heap.size ≤ nc) (c22 : t.op = 22) (hab : t.args = [a, b]) (hb : Below W.heap.size W w8) (hB : B ≤ rb) (hrb : rb < W.heap.size)
    (k8 : w8.heap[b2]? = some (.cells #[.int .u8 21, .int .i64 0, .string ⟨#[]⟩, .slice (some ⟨nc, 0, none⟩) 2 2] 34 (0, 0))) (k6 : w8.heap[nc]? = some (.cells #[.int .u8 8, .int .i64 0, .string ⟨#[]⟩, .slice (some ⟨ab, ao, none⟩) 1 tc, .int .u8 8, .int .i64 0, .string ⟨#[]⟩, .slice (some ⟨ab, ao + 4, none⟩) 1 (tc - 1)] 34 (0, 0)))
    (hT : ∀ d, EsIn (fun q => (B ≤ q ∧ q < W.heap.size) ∧ rb ≠ q) W d (some ⟨ab, ao, none⟩) [a, b]) (htc : 2 ≤ tc) : ∀ d, EsIn (fun q => (B ≤ q ∧ q < w8.heap.size) ∧ rb ≠ q) w8 d (some ⟨b2, 0, none⟩) [notE t] := by
  have hs := hb.size
  have eN : notE t = .mk 21 0 ⟨#[]⟩ [.mk 8 0 ⟨#[]⟩ [a], .mk 8 0 ⟨#[]⟩ [b]] := by unfold notE; rw [hab]; simp only [c22, if_true]
  rw [eN]
  have l8 := lt_of_block k8
  have l6 := lt_of_block k6
  have hT8 : ∀ d, EsIn (fun q => (B ≤ q ∧ q < w8.heap.size) ∧ rb ≠ q) w8 d (some ⟨ab, ao, none⟩) [a, b] := fun d => (hT d).step (fun q h => hb.block q h.1.2) (fun q h => ⟨⟨h.1.1, by omega⟩, h.2⟩)
  have lim : (8 : Nat) < 256 ∧ -9223372036854775808 ≤ (0 : Int) ∧ (0 : Int) ≤ 9223372036854775807 ∧ (1 : Nat) ≤ 1000000 := by decide
  have lim2 : (21 : Nat) < 256 ∧ -9223372036854775808 ≤ (0 : Int) ∧ (0 : Int) ≤ 9223372036854775807 ∧ (2 : Nat) ≤ 1000000 := by decide
  obtain ⟨xb, xo, Aa, ca, ea, hoka, hca, hTa, hka⟩ := EsIn.one1 hT8 (j := 0) rfl
  obtain ⟨yb, yo, Ab, cb, eb, hokb, hcb, hTb, hkb⟩ := EsIn.one1 hT8 (j := 1) rfl
  simp only [Option.some.injEq, Addr.mk.injEq, and_true] at ea eb
  obtain ⟨rfl, rfl⟩ := ea
  obtain ⟨rfl, rfl⟩ := eb
  refine EsIn.single ⟨⟨by omega, l8⟩, by omega⟩ (A := some ⟨nc, 0, none⟩) (c := 2) ⟨(cell_of_block k8 0).trans rfl, (cell_of_block k8 1).trans rfl, (cell_of_block k8 2).trans rfl, (cell_of_block k8 3).trans rfl, (fun e => by cases e), lim2⟩ ?_ (Nat.le_refl 2)
  exact EsIn.pair ⟨⟨by omega, l6⟩, by omega⟩ (A := some ⟨ab, ao, none⟩) (c := tc) ⟨(cell_of_block k6 0).trans rfl, (cell_of_block k6 1).trans rfl, (cell_of_block k6 2).trans rfl, (cell_of_block k6 3).trans rfl, (fun e => by cases e), lim⟩ (EsIn.single hoka hca hTa hka) (by show 1 ≤ tc; omega)
    (A2 := some ⟨ab, ao + 4, none⟩) (c2 := tc - 1) ⟨(cell_of_block k6 4).trans rfl, (cell_of_block k6 5).trans rfl, (cell_of_block k6 6).trans rfl, (cell_of_block k6 7).trans rfl, (fun e => by cases e), lim⟩ (EsIn.single (o := ao + 4) hokb hcb hTb hkb) (by show 1 ≤ tc - 1; omega)
set_option maxRecDepth 100000 in
set_option maxHeartbeats 8000000 in
theorem vmSwapped_walk (l : List S0) (LA : Option Addr) (ln lc : Nat) (ID : Int) (A : Option Addr) (n cap : Nat) (cs : List Cmp) (seed tick key : Int) (w : World) (hlq : ln = l.length) (hl : ln ≤ 9223372036854775807) (hlz : ∀ d, SsZ w d LA l)
    (hx : XArg w A n cap cs) (s0 : 0 ≤ seed) (s1 : seed ≤ 18446744073709551615) (k0 : 0 ≤ key) (k1 : key ≤ 18446744073709551615) :
    Calls Tryz.prog 5 #[.slice LA ln lc, .agg #[.int .i64 ID, .slice A n cap], .agg #[.int .u64 seed, .int .i64 tick, .int .u64 key]] w fun e w' => e = .returned (.bool true) ∧ Below w.heap.size w w' := by
  obtain ⟨w1, g, e1, eg, B1⟩ := boIn_new w ID A n cap seed tick key
  have AW := fun W => awake_ok W
  have Z1 : ∀ W, BoIn w W g ID A n cap seed tick key → Calls Tryz.prog 8 #[.slice LA ln lc, .int .i64 300] W fun e w' => ∃ k : Int, e = .returned (.int .i64 k) ∧ (k ≤ 300 → szSs l ≤ 300) ∧ BoIn w w' g ID A n cap seed tick key := by
    intro W hW
    rw [hlq]
    refine (Size_ok l LA lc 300 W (hlq ▸ hl) (fun d => (hlz d).below (eg ▸ hW.b)) (by omega) (by omega)).mono ?_
    rintro e w' ⟨k, rfl, h0, h1, hb⟩
    exact ⟨k, rfl, fun h => by have := h1 h; omega, hW.below hb⟩
  have H := Lib.hid (And.intro B1 (And.intro eg (And.intro hlq (And.intro hlz (And.intro hx (And.intro s0 (And.intro s1 (And.intro k0 k1))))))))
  have HZ := Lib.hid Z1
  clear B1 hlq hl hlz hx s0 s1 k0 k1 Z1
  go_enter Tryz.func5, Tryz.ntmps5
  go_upto_region 1 with fail
  rw [← e1, ← eg]
  clear e1 eg
  go_upto_region 3 with (go_at_call 7; refine (AW _).mono ?_; rintro e w2 ⟨rfl, hb2⟩; have B2 := Lib.hid (H.out.1.below hb2); clear hb2)
  clear AW
  have F1 := HZ.out w2 B2.out
  go_upto_if 29 with (go_at_call 8; with_reducible refine F1.mono ?_; rintro e w3 ⟨q1, rfl, hq1, B3⟩; obtain ⟨⟨b0, b1⟩, -⟩ := B3.facts; have HQ1 := Lib.hid (And.intro hq1 B3); clear hq1 B3 F1; rcases i1 : decide (300 < q1) with _ | _; rcases i3 : decide ((20 : Int) < (n : Int)) with _ | _)
  · have hs1 := HQ1.out.1 (by have := of_decide_eq_false i1; omega)
    have hn := of_decide_eq_false i3
    have B3 := HQ1.out.2
    have hl3 : ∀ d, SsAt w3 d LA l := fun d => (((H.out.2.2.2.1 d).to (by omega)).below (H.out.2.1 ▸ B3.b))
    have hcl : cs.length ≤ 20 := by have := H.out.2.2.2.2.1.len; omega
    have hlen := szSs_len l
    have CP := CopyStmts_ok l LA lc w3 (by omega) hl3
    rw [← H.out.2.2.1] at CP
    have RL : ∀ W, BoIn w W g ID A n cap seed tick key → Calls Tryz.prog 11 #[.slice LA ln lc, .agg #[.int .i64 ID, .slice A n cap], .agg #[.int .u64 seed, .int .i64 tick, .int .u64 key]] W (LrunR W l ID seed tick key cs) := fun W hW =>
      lrun_any l LA ln lc ID A n cap cs seed tick key W (runArg_of H.out.2.2.1 (by omega) (fun d => ((H.out.2.2.2.1 d).to (by omega)).below (H.out.2.1 ▸ hW.b)) (H.out.2.2.2.2.1.below (H.out.2.1 ▸ hW.b)) (by omega) H.out.2.2.2.2.2.1 H.out.2.2.2.2.2.2.1 H.out.2.2.2.2.2.2.2.1 H.out.2.2.2.2.2.2.2.2)
    have RM : ∀ W MA mc, BoIn w W g ID A n cap seed tick key → (∀ d, SsAt W d MA (l.map flipS)) → Calls Tryz.prog 11 #[.slice MA ln mc, .agg #[.int .i64 ID, .slice A n cap], .agg #[.int .u64 seed, .int .i64 tick, .int .u64 key]] W (LrunR W (l.map flipS) ID seed tick key cs) := fun W MA mc hW hd =>
      lrun_any (l.map flipS) MA ln mc ID A n cap cs seed tick key W (runArg_of (by rw [List.length_map]; exact H.out.2.2.1) (by have := szFlipF l; omega) hd (H.out.2.2.2.2.1.below (H.out.2.1 ▸ hW.b)) (by omega) H.out.2.2.2.2.2.1 H.out.2.2.2.2.2.2.1 H.out.2.2.2.2.2.2.2.1 H.out.2.2.2.2.2.2.2.2)
    have HR := Lib.hid (And.intro RL (And.intro RM (And.intro hcl hlen)))
    have hs300 := Lib.hid hs1
    clear hs1 hn hl3 hcl hlen RL RM i1 i3 b0 b1 B2 HZ B3
    go_upto_region 6 with (go_at_call 13; refine CP.mono ?_; rintro e w4 ⟨v4, recs4, rfl, h41, h42, h43, hb4⟩; have M4 := Lib.hid (And.intro (show MRow w4 w3.heap.size v4 l from ⟨recs4, h41, h42, h43⟩) (And.intro hb4 (HQ1.out.2.below hb4))); clear h41 h42 h43 hb4)
    clear CP
    obtain ⟨Am, mc, rfl, -⟩ := M4.out.1.read
    obtain ⟨B, eB⟩ : ∃ B, B = w3.heap.size := ⟨_, rfl⟩
    have hln := H.out.2.2.1
    have M5 := M4.out.1
    rw [← eB, ← hln] at M5
    have HM := Lib.hid (And.intro M5 (And.intro M4.out.2.1 (And.intro M4.out.2.2 eB)))
    rw [← hln]
    clear hln M5 eB M4
    go_wp2_with fail
    go_loopg [8] ln (fun gh iv wr => ∃ i : Nat, gh + i = ln ∧ iv = .int .i64 (i : Nat) ∧ MRow wr B (.slice Am ln mc) (swapL l i) ∧ BoIn w wr g ID A n cap seed tick key)
    case atStart => exact ⟨0, rfl, rfl, HM.out.1, HM.out.2.2.1⟩
    case round =>
      obtain ⟨i, hg, rfl, hM, hBo⟩ := hrel
      obtain ⟨W, eW⟩ : ∃ W, W = wr := ⟨_, rfl⟩
      rw [← eW] at hM hBo ⊢
      clear eW
      have hln := H.out.2.2.1
      by_cases hlt : i < ln
      · have i2 : decide (i < ln) = true := decide_eq_true hlt
        obtain ⟨x, hx⟩ : ∃ x, l[i]? = some x := ⟨_, List.getElem?_eq_getElem (by omega)⟩
        obtain ⟨rb, c, e, hB, hrb⟩ := hM.shape (by rw [swapL_len]; omega)
        simp only [Value.slice.injEq] at e
        obtain ⟨rfl, -, -⟩ := e
        obtain ⟨EA, ec, BA, bc, EL, el, hc, hfz, hE, hBs, hL⟩ := hM.cells (swapL_at hx)
        obtain ⟨c0, c1, c2, c3, c4, c5, hlim⟩ := hc
        have i0 : (0 : Int) ≤ (i : Int) := by omega
        have i1 : (i : Int) < (ln : Int) := by omega
        have u2 : wrap64 ((i : Int) + 1) = (i : Int) + 1 := w64z _ (by omega) (by have := H.out.2.2.1; have := HR.out.2.2.2; have := hs300.out; omega)
        obtain ⟨ke, eke⟩ : ∃ k, k = x.e.length := ⟨_, rfl⟩
        obtain ⟨kb, ekb⟩ : ∃ k, k = x.b.length := ⟨_, rfl⟩
        obtain ⟨kl, ekl⟩ : ∃ k, k = x.els.length := ⟨_, rfl⟩
        rw [← eke] at c3
        rw [← ekb] at c4
        rw [← ekl] at c5
        by_cases h4 : x.op = 4
        · have t4 : ((x.op : Int) != 4) = false := by rw [h4]; rfl
          by_cases h1 : ke = 1
          · have t1 : ((ke : Int) != 1) = false := by rw [h1]; rfl
            obtain ⟨t, ht⟩ : ∃ t, x.e = [t] := List.length_eq_one_iff.1 (by omega)
            rw [ht] at hE
            obtain ⟨eb, eo, TA, tc, rfl, hokE, hcE, hT, htc⟩ := EsIn.one1 hE (j := 0) rfl
            subst h1
            have d0 : W.cell? ⟨eb, eo, none⟩ = some (.int .u8 (t.op : Nat)) := hcE.c0
            have d1 : W.cell? ⟨eb, eo + 1, none⟩ = some (.int .i64 t.n) := hcE.c1
            have d2 : W.cell? ⟨eb, eo + 2, none⟩ = some (.string t.nm) := hcE.c2
            have d3 : W.cell? ⟨eb, eo + 3, none⟩ = some (.slice TA t.args.length tc) := hcE.c3
            have dn := hcE.nil
            have dl := hcE.lim
            obtain ⟨kt, ekt⟩ : ∃ k, k = t.args.length := ⟨_, rfl⟩
            rw [← ekt] at d3
            obtain ⟨w5, e5⟩ : ∃ W', W' = W.alloc (.cells #[.int .u8 (t.op : Nat), .int .i64 t.n, .string t.nm, .slice TA kt tc] 34 (0, 0)) := ⟨_, rfl⟩
            obtain ⟨qt, eqt⟩ : ∃ q, q = W.heap.size := ⟨_, rfl⟩
            have hb5 : Below W.heap.size W w5 := by rw [e5]; exact (Below.refl _ _).alloc (Nat.le_refl _) _
            have k5 : w5.heap[qt]? = some (.cells #[.int .u8 (t.op : Nat), .int .i64 t.n, .string t.nm, .slice TA kt tc] 34 (0, 0)) := by rw [e5, eqt]; exact heap_alloc_new W _
            obtain ⟨f0, f1, f2, f3, -⟩ := ex_facts k5
            have HX := Lib.hid (And.intro hlt (And.intro hg (And.intro hM (And.intro hBo (And.intro hx (And.intro hE (And.intro hBs (And.intro hL (And.intro hlim (And.intro hB (And.intro hrb (And.intro ht (And.intro hokE (And.intro hT (And.intro htc (And.intro dn (And.intro dl (And.intro ekt (And.intro hb5 (And.intro k5 (And.intro eqt (And.intro ekb (And.intro ekl h4)))))))))))))))))))))))
            clear hlt hg hM hBo hx hE hBs hL hlim hB hrb ht hokE hT htc dn dl ekt hb5 k5 hfz hln eke ekb ekl hcE h4
            go_upto_region 11 with fail
            rw [← e5, ← eqt]
            clear e5 eqt d0 d1 d2 d3
            go_upto_region 12 with fail
            clear f0 f1 f2 f3
            obtain ⟨w7, e7⟩ : ∃ W', W' = (w5.alloc (.cells #[.int .u8 (t.op : Nat), .int .i64 t.n, .string t.nm, .slice TA kt tc] 34 (0, 0))).alloc (.cells #[.int .u8 8, .int .i64 0, .string ⟨#[]⟩, .slice (some ⟨w5.heap.size, 0, none⟩) 1 1] 34 (0, 0)) := ⟨_, rfl⟩
            obtain ⟨nb, enb⟩ : ∃ q, q = w5.heap.size := ⟨_, rfl⟩
            have hb57 : Below w5.heap.size w5 w7 := by rw [e7]; exact ((Below.refl _ _).alloc (Nat.le_refl _) _).alloc (by simp) _
            have k6 : w7.heap[nb]? = some (.cells #[.int .u8 (t.op : Nat), .int .i64 t.n, .string t.nm, .slice TA kt tc] 34 (0, 0)) := by rw [e7, enb]; exact heap_alloc_fst w5 _ _
            have k7 : w7.heap[nb + 1]? = some (.cells #[.int .u8 8, .int .i64 0, .string ⟨#[]⟩, .slice (some ⟨nb, 0, none⟩) 1 1] 34 (0, 0)) := by rw [e7, enb]; exact heap_alloc_snd w5 _ _
            have k5 := (hb57.block qt (lt_of_block HX.out.2.2.2.2.2.2.2.2.2.2.2.2.2.2.2.2.2.2.2.1)).trans HX.out.2.2.2.2.2.2.2.2.2.2.2.2.2.2.2.2.2.2.2.1
            obtain ⟨f0, f1, f2, f3, -⟩ := ex_facts k5
            obtain ⟨g0, g1, g2, g3, z0, z1, z2, z3⟩ := ex_facts k7
            rw [← enb] at e7 ⊢
            rw [← e7]
            have HK := Lib.hid (And.intro hb57 (And.intro k5 (And.intro k6 (And.intro k7 enb))))
            clear e7 enb hb57 k5 k6 k7
            by_cases c2 : t.op = 22 ∧ kt = 2
            · obtain ⟨c22, k2⟩ := c2
              subst k2
              have tA : ((t.op : Int) == 22) = true := by rw [c22]; rfl
              obtain ⟨a, b, hab⟩ := list_two HX.out.2.2.2.2.2.2.2.2.2.2.2.2.2.2.2.2.2.1.symm
              have hT := HX.out.2.2.2.2.2.2.2.2.2.2.2.2.2.1
              rw [hab] at hT
              obtain ⟨ab, ao, Aa, ca, rfl, hoka, hca, hTa, hka⟩ := EsIn.one1 hT (j := 0) rfl
              have htc : 2 ≤ tc := by
                have := HX.out.2.2.2.2.2.2.2.2.2.2.2.2.2.2.1
                rw [hab] at this
                exact this
              have j1 : (1 : Int) ≤ (tc : Int) := by omega
              have j2 : ¬ tc = 1 := by omega
              have HA := Lib.hid (And.intro c22 (And.intro hab (And.intro hT htc)))
              clear c22 hab hT hoka hca hTa hka htc
              have hqt := lt_of_block HK.out.2.1
              have F3a : ∀ O : Obj, (w7.alloc O).cell? ⟨qt, 3, none⟩ = some (.slice (some ⟨ab, ao, none⟩) 2 tc) := fun O => (((Below.refl w7.heap.size w7).alloc (Nat.le_refl _) O).cell hqt).trans f3
              have F3b : ∀ O P : Obj, ((w7.alloc O).alloc P).cell? ⟨qt, 3, none⟩ = some (.slice (some ⟨ab, ao, none⟩) 2 tc) := fun O P => ((((Below.refl w7.heap.size w7).alloc (Nat.le_refl _) O).alloc (by simp) P).cell hqt).trans f3
              clear hqt
              go_upto_region 13 with fail
              go_region
              obtain ⟨w10, e10⟩ : ∃ W', W' = ((w7.alloc (.cells #[.int .u8 8, .int .i64 0, .string ⟨#[]⟩, .slice (some ⟨ab, ao, none⟩) 1 tc] 34 (0, 0))).alloc (.cells #[.int .u8 8, .int .i64 0, .string ⟨#[]⟩, .slice (some ⟨ab, ao + 4, none⟩) 1 (tc - 1)] 34 (0, 0))).drew := ⟨_, rfl⟩
              have hb10 : Below w7.heap.size w7 w10 := by rw [e10]; exact (((Below.refl _ _).alloc (Nat.le_refl _) _).alloc (by simp) _).drew
              have ka : w10.heap[w7.heap.size]? = some (.cells #[.int .u8 8, .int .i64 0, .string ⟨#[]⟩, .slice (some ⟨ab, ao, none⟩) 1 tc] 34 (0, 0)) := by rw [e10]; exact heap_alloc_fst w7 _ _
              have kb' : w10.heap[w7.heap.size + 1]? = some (.cells #[.int .u8 8, .int .i64 0, .string ⟨#[]⟩, .slice (some ⟨ab, ao + 4, none⟩) 1 (tc - 1)] 34 (0, 0)) := by rw [e10]; exact heap_alloc_snd w7 _ _
              rw [← e10]
              clear e10
              obtain ⟨pb, epb⟩ : ∃ q, q = w7.heap.size + 1 := ⟨_, rfl⟩
              rw [← epb] at kb' ⊢
              obtain ⟨pa, epa⟩ : ∃ q, q = w7.heap.size := ⟨_, rfl⟩
              rw [← epa] at ka ⊢
              clear epa epb
              rotate_left
              obtain ⟨w10, e10⟩ : ∃ W', W' = ((w7.alloc (.cells #[.int .u8 8, .int .i64 0, .string ⟨#[]⟩, .slice (some ⟨ab, ao + 4, none⟩) 1 (tc - 1)] 34 (0, 0))).alloc (.cells #[.int .u8 8, .int .i64 0, .string ⟨#[]⟩, .slice (some ⟨ab, ao, none⟩) 1 tc] 34 (0, 0))).drew := ⟨_, rfl⟩
              have hb10 : Below w7.heap.size w7 w10 := by rw [e10]; exact (((Below.refl _ _).alloc (Nat.le_refl _) _).alloc (by simp) _).drew
              have ka : w10.heap[w7.heap.size + 1]? = some (.cells #[.int .u8 8, .int .i64 0, .string ⟨#[]⟩, .slice (some ⟨ab, ao, none⟩) 1 tc] 34 (0, 0)) := by rw [e10]; exact heap_alloc_snd w7 _ _
              have kb' : w10.heap[w7.heap.size]? = some (.cells #[.int .u8 8, .int .i64 0, .string ⟨#[]⟩, .slice (some ⟨ab, ao + 4, none⟩) 1 (tc - 1)] 34 (0, 0)) := by rw [e10]; exact heap_alloc_fst w7 _ _
              rw [← e10]
              clear e10
              obtain ⟨pa, epa⟩ : ∃ q, q = w7.heap.size + 1 := ⟨_, rfl⟩
              rw [← epa] at ka ⊢
              obtain ⟨pb, epb⟩ : ∃ q, q = w7.heap.size := ⟨_, rfl⟩
              rw [← epb] at kb' ⊢
              clear epa epb
              all_goals
                have k7 := (hb10.block (nb + 1) (lt_of_block HK.out.2.2.2.1)).trans HK.out.2.2.2.1
                obtain ⟨a0, a1, a2, a3, -⟩ := ex_facts ka
                obtain ⟨c0', c1', c2', c3', -⟩ := ex_facts kb'
                obtain ⟨w11, e11⟩ : ∃ W', W' = w10.alloc (.cells #[.int .u8 8, .int .i64 0, .string ⟨#[]⟩, .slice (some ⟨ab, ao, none⟩) 1 tc, .int .u8 8, .int .i64 0, .string ⟨#[]⟩, .slice (some ⟨ab, ao + 4, none⟩) 1 (tc - 1)] 34 (0, 0)) := ⟨_, rfl⟩
                obtain ⟨nc, enc⟩ : ∃ q, q = w10.heap.size := ⟨_, rfl⟩
                have hb11 : Below w10.heap.size w10 w11 := by rw [e11]; exact (Below.refl _ _).alloc (Nat.le_refl _) _
                have k3 : w11.heap[nc]? = some (.cells #[.int .u8 8, .int .i64 0, .string ⟨#[]⟩, .slice (some ⟨ab, ao, none⟩) 1 tc, .int .u8 8, .int .i64 0, .string ⟨#[]⟩, .slice (some ⟨ab, ao + 4, none⟩) 1 (tc - 1)] 34 (0, 0)) := by rw [e11, enc]; exact heap_alloc_new w10 _
                have k7' := (hb11.block (nb + 1) (lt_of_block k7)).trans k7
                obtain ⟨g0', g1', g2', g3', y0, y1, y2, y3⟩ := ex_facts k7'
                rw [e11] at g0' g1' g2' g3' y0 y1 y2 y3
                obtain ⟨w12, e12⟩ : ∃ W', W' = put4 w11 (nb + 1) (.int .u8 21) (.int .i64 0) (.string ⟨#[]⟩) (.slice (some ⟨nc, 0, none⟩) 2 2) := ⟨_, rfl⟩
                have k12 : w12.heap[nb + 1]? = some (.cells #[.int .u8 21, .int .i64 0, .string ⟨#[]⟩, .slice (some ⟨nc, 0, none⟩) 2 2] 34 (0, 0)) := by rw [e12]; exact put4_block _ _ _ _ k7'
                have k3' : w12.heap[nc]? = some (.cells #[.int .u8 8, .int .i64 0, .string ⟨#[]⟩, .slice (some ⟨ab, ao, none⟩) 1 tc, .int .u8 8, .int .i64 0, .string ⟨#[]⟩, .slice (some ⟨ab, ao + 4, none⟩) 1 (tc - 1)] 34 (0, 0)) := by
                  rw [e12]; refine (put4_ne _ _ _ _ _ _ ?_).trans k3
                  have := lt_of_block k7; omega
                have hb57 := HK.out.1
                have hb5 := HX.out.2.2.2.2.2.2.2.2.2.2.2.2.2.2.2.2.2.2.1
                have hW7 := hb5.trans (hb57.mono hb5.size)
                have hW10 := hW7.trans (hb10.mono hW7.size)
                have hW11 := hW10.trans (hb11.mono hW10.size)
                have hWn : W.heap.size ≤ nb := by have := HK.out.2.2.2.2; have := hb5.size; omega
                have hW12 : Below W.heap.size W w12 := by rw [e12]; exact put4_below _ _ _ _ hW11 (by omega)
                have hWc : W.heap.size ≤ nc := by rw [enc]; exact hW10.size
                unfold put4 at e12
                have E11 := Lib.hid e11
                have E12 := Lib.hid e12
                have ENC := Lib.hid enc
                have HP := Lib.hid (And.intro hW12 (And.intro k12 (And.intro k3' (And.intro hWn hWc))))
                clear ka kb' k7 hb10 hb11 k3 k7' e11 e12 hb57 hb5 hW7 hW10 hW11 hWn hWc hW12 k12 k3' enc
                go_upto_region 15 with fail
                rw [← ENC.out, ← E11.out]
                rw [← E12.out]
                clear a0 a1 a2 a3 c0' c1' c2' c3' g0' g1' g2' g3' y0 y1 y2 y3 E11 E12 ENC g0 g1 g2 g3 z0 z1 z2 z3 f0 f1 f2 f3 F3a F3b
                obtain ⟨g0, g1, g2, g3, -⟩ := ex_facts HP.out.2.1
                obtain ⟨w13, e13⟩ : ∃ W', W' = w12.alloc (.cells #[.int .u8 21, .int .i64 0, .string ⟨#[]⟩, .slice (some ⟨nc, 0, none⟩) 2 2] 34 (0, 0)) := ⟨_, rfl⟩
                have hb13 : Below w12.heap.size w12 w13 := by rw [e13]; exact (Below.refl _ _).alloc (Nat.le_refl _) _
                have k13 : w13.heap[w12.heap.size]? = some (.cells #[.int .u8 21, .int .i64 0, .string ⟨#[]⟩, .slice (some ⟨nc, 0, none⟩) 2 2] 34 (0, 0)) := by rw [e13]; exact heap_alloc_new w12 _
                have hW13 := HP.out.1.trans (hb13.mono HP.out.1.size)
                have M13 := HX.out.2.2.1.below hW13
                obtain ⟨w9, e9⟩ : ∃ W', W' = w13.setCell ⟨rb, i * 6 + 3, none⟩ (.slice (some ⟨w12.heap.size, 0, none⟩) 1 1) := ⟨_, rfl⟩
                obtain ⟨p3, y3, ⟨r4, r5, s5⟩, v4, v5, x5⟩ := row_facts M13 (swapL_at HX.out.2.2.2.2.1) BA bc EL el ((hW13.cell HX.out.2.2.2.2.2.2.2.2.2.2.1).trans c4) ((hW13.cell HX.out.2.2.2.2.2.2.2.2.2.2.1).trans c5) (.slice (some ⟨w12.heap.size, 0, none⟩) 1 1) (.slice EL kl el)
                obtain ⟨p, p3⟩ := p3
                rw [← e9] at r4 r5 s5 v4 v5 x5
                rw [e13] at p3 y3
                have E8 := Lib.hid e13
                have E9 := Lib.hid e9
                have H8 := Lib.hid (And.intro M13 (And.intro hW13 (And.intro k13 ((hb13.block nc (lt_of_block HP.out.2.2.1)).trans HP.out.2.2.1))))
                clear M13 hW13 hb13 k13 e13 e9
                go_upto_region 16 with fail
                rw [← E8.out, ← E9.out]
                go_region
                go_wp2_with fail
                go_roundg (ln - (i + 1))
                case measure => have := HX.out.1; have := HX.out.2.1; omega
                case rel =>
                  obtain ⟨hlt, hg, hM, hBo, hx, hE, hBs, hL, hlim, hB, hrb, ht, hokE, hT, htc, dn, dl, ekt, hb5, k5, eqt, ekb, ekl, h4⟩ := HX.out
                  obtain ⟨M13, hW13, k13, k3⟩ := H8.out
                  obtain ⟨c22, hab, hT, htc⟩ := HA.out
                  have hgB : g + 1 < B := by rw [HM.out.2.2.2]; exact lt_of_block HQ1.out.2.v
                  exact ⟨i + 1, by omega, by go_num, by rw [E9.out]; exact (swap_one hx ht h4 M13 hW13 hB hrb hlim (pair_not (by have := HP.out.1.size; omega) HP.out.2.2.2.2 c22 hab hW13 hB hrb k13 k3 hT htc) hBs hL ekb ekl).drew,
                    by rw [E9.out]; exact ((((hBo.below hW13).set1 (by omega) _ _).set1 (by omega) _ _).set1 (by omega) _ _).drew⟩
            · have T : ((t.op : Int) == 22) = false ∨ (((t.op : Int) == 22) = true ∧ ((kt : Int) == 2) = false) := by
                by_cases c3 : t.op = 22
                · exact Or.inr ⟨by rw [c3]; rfl, by simp; omega⟩
                · exact Or.inl (by simp; omega)
              have eN : notE t = .mk 8 0 ⟨#[]⟩ [t] := not_plain (by rw [← HX.out.2.2.2.2.2.2.2.2.2.2.2.2.2.2.2.2.2.1]; exact c2)
              have HT := Lib.hid (And.intro eN c2)
              clear eN c2
              have M7 := (HX.out.2.2.1.below HX.out.2.2.2.2.2.2.2.2.2.2.2.2.2.2.2.2.2.2.1).below HK.out.1
              obtain ⟨w8, e8⟩ : ∃ W', W' = w7.alloc (.cells #[.int .u8 8, .int .i64 0, .string ⟨#[]⟩, .slice (some ⟨nb, 0, none⟩) 1 1] 34 (0, 0)) := ⟨_, rfl⟩
              have hb8 : Below w7.heap.size w7 w8 := by rw [e8]; exact (Below.refl _ _).alloc (Nat.le_refl _) _
              have k8 : w8.heap[w7.heap.size]? = some (.cells #[.int .u8 8, .int .i64 0, .string ⟨#[]⟩, .slice (some ⟨nb, 0, none⟩) 1 1] 34 (0, 0)) := by rw [e8]; exact heap_alloc_new w7 _
              have M8 := M7.below hb8
              obtain ⟨w9, e9⟩ : ∃ W', W' = w8.setCell ⟨rb, i * 6 + 3, none⟩ (.slice (some ⟨w7.heap.size, 0, none⟩) 1 1) := ⟨_, rfl⟩
              obtain ⟨p3, y3, ⟨r4, r5, s5⟩, v4, v5, x5⟩ := row_facts M8 (swapL_at HX.out.2.2.2.2.1) BA bc EL el (have hbW := (HX.out.2.2.2.2.2.2.2.2.2.2.2.2.2.2.2.2.2.2.1.trans (HK.out.1.mono HX.out.2.2.2.2.2.2.2.2.2.2.2.2.2.2.2.2.2.2.1.size)); ((hbW.trans (hb8.mono hbW.size)).cell HX.out.2.2.2.2.2.2.2.2.2.2.1).trans c4) (have hbW := (HX.out.2.2.2.2.2.2.2.2.2.2.2.2.2.2.2.2.2.2.1.trans (HK.out.1.mono HX.out.2.2.2.2.2.2.2.2.2.2.2.2.2.2.2.2.2.2.1.size)); ((hbW.trans (hb8.mono hbW.size)).cell HX.out.2.2.2.2.2.2.2.2.2.2.1).trans c5) (.slice (some ⟨w7.heap.size, 0, none⟩) 1 1) (.slice EL kl el)
              obtain ⟨p, p3⟩ := p3
              rw [← e9] at r4 r5 s5 v4 v5 x5
              rw [e8] at p3 y3
              have E8 := Lib.hid e8
              have E9 := Lib.hid e9
              have H8 := Lib.hid (And.intro M8 (And.intro hb8 k8))
              clear M7 M8 hb8 k8 e8 e9
              rcases T with tA | ⟨tA, tB⟩
              all_goals
                go_upto_region 16 with fail
                rw [← E8.out, ← E9.out]
                go_region
                go_wp2_with fail
                go_roundg (ln - (i + 1))
                case measure => have := HX.out.1; have := HX.out.2.1; omega
                case rel =>
                  obtain ⟨hlt, hg, hM, hBo, hx, hE, hBs, hL, hlim, hB, hrb, ht, hokE, hT, htc, dn, dl, ekt, hb5, k5, eqt, ekb, ekl, h4⟩ := HX.out
                  obtain ⟨M8, hb8, k8⟩ := H8.out
                  obtain ⟨eN, c2⟩ := HT.out
                  have hb57 := HK.out.1
                  have hb8W := (hb5.trans (hb57.mono hb5.size)).trans (hb8.mono (hb5.trans (hb57.mono hb5.size)).size)
                  have hgB : g + 1 < B := by rw [HM.out.2.2.2]; exact lt_of_block HQ1.out.2.v
                  exact ⟨i + 1, by omega, by go_num, by rw [E9.out]; exact (swap_one hx ht h4 M8 hb8W hB hrb hlim (single_not (by have := hb5.size; have := HK.out.2.2.2.2; have := hb57.size; omega) (by have := hb5.size; have := hb57.size; omega) eN hb8W hB hrb k8 ((hb8.block nb (lt_of_block HK.out.2.2.1)).trans HK.out.2.2.1) ekt dn dl hT htc) hBs hL ekb ekl).drew,
                    by rw [E9.out]; exact ((((hBo.below hb8W).set1 (by omega) _ _).set1 (by omega) _ _).set1 (by omega) _ _).drew⟩
          · have t1 : ((ke : Int) != 1) = true := by simp; omega
            have eF := swapL_skip hx (flip_len (by rw [← eke]; exact h1))
            have HX := Lib.hid (And.intro hlt (And.intro hg (And.intro hM (And.intro hBo eF))))
            clear hlt hg hM hBo hx h4 h1 hE hBs hL hfz hlim hB hrb hln eke ekb ekl eF
            go_wp2_with fail
            go_roundg (ln - (i + 1))
            case measure => have := HX.out.1; have := HX.out.2.1; omega
            case rel =>
              obtain ⟨hlt, hg, hM, hBo, eF⟩ := HX.out
              exact ⟨i + 1, by omega, by go_num, by rw [eF]; exact hM, hBo⟩
        · have t4 : ((x.op : Int) != 4) = true := by simp; omega
          have eF := swapL_skip hx (flip_op h4)
          have HX := Lib.hid (And.intro hlt (And.intro hg (And.intro hM (And.intro hBo eF))))
          clear hlt hg hM hBo hx h4 hE hBs hL hfz hlim hB hrb hln eke ekb ekl eF
          go_wp2_with fail
          go_roundg (ln - (i + 1))
          case measure => have := HX.out.1; have := HX.out.2.1; omega
          case rel =>
            obtain ⟨hlt, hg, hM, hBo, eF⟩ := HX.out
            exact ⟨i + 1, by omega, by go_num, by rw [eF]; exact hM, hBo⟩
      · have i2 : decide (i < ln) = false := decide_eq_false hlt
        rw [swapL_all l i (by omega)] at hM
        have hBC := hBo
        clear hlt hg hln hBo
        obtain ⟨A', c', e, hd⟩ := hM.read
        simp only [Value.slice.injEq] at e
        obtain ⟨rfl, -, -⟩ := e
        have RL := HR.out.1 W hBC
        unfold LrunR at RL
        obtain ⟨⟨x0, x1⟩, v0, v1, v2⟩ := hBC.facts
        have HC := Lib.hid (And.intro hBC hd)
        clear hM hBC hd
        go_upto_region 18 with (go_at_call 11; refine RL.mono ?_; rintro e w9 ⟨I9, A9, n9, p9, er9, ok9, c9, rfl, h9, hb9⟩; have H9 := Lib.hid (And.intro h9 (And.intro (HC.out.1.below hb9) hb9)); clear h9 hb9)
        clear x0 x1 v0 v1 v2 RL
        obtain ⟨w10, e10⟩ : ∃ W, W = w9.alloc (.cells #[.int .i64 I9, .slice A9 n9 p9] 25 (0, 0)) := ⟨_, rfl⟩
        obtain ⟨q9, eq9⟩ : ∃ q, q = w9.heap.size := ⟨_, rfl⟩
        rw [← e10, ← eq9]
        have hb10 : Below w9.heap.size w9 w10 := by rw [e10]; exact (Below.refl _ _).alloc (Nat.le_refl _) _
        have k9 : w10.heap[q9]? = some (.cells #[.int .i64 I9, .slice A9 n9 p9] 25 (0, 0)) := by rw [e10, eq9]; exact heap_alloc_new w9 _
        have B10 := H9.out.2.1.below hb10
        have hbc10 : Below W.heap.size W w10 := H9.out.2.2.trans (hb10.mono H9.out.2.2.size)
        have RM := HR.out.2.1 w10 Am mc B10 (fun d => (HC.out.2 d).below hbc10)
        unfold LrunR at RM
        obtain ⟨⟨x0, x1⟩, v0, v1, v2⟩ := B10.facts
        have H10 := Lib.hid (And.intro k9 (And.intro B10 hb10))
        clear k9 B10 hb10 hbc10 e10 eq9
        go_upto_region 19 with (go_at_call 11; refine RM.mono ?_; rintro e w11 ⟨I11, A11, n11, p11, er11, ok11, c11, rfl, h11, hb11⟩; have H11 := Lib.hid (And.intro h11 (And.intro (H10.out.2.1.below hb11) hb11)); clear h11 hb11)
        clear x0 x1 v0 v1 v2 RM
        obtain ⟨w12, e12⟩ : ∃ W, W = w11.alloc (.cells #[.int .i64 I11, .slice A11 n11 p11] 25 (0, 0)) := ⟨_, rfl⟩
        obtain ⟨q11, eq11⟩ : ∃ q, q = w11.heap.size := ⟨_, rfl⟩
        rw [← e12, ← eq11]
        have hb12 : Below w11.heap.size w11 w12 := by rw [e12]; exact (Below.refl _ _).alloc (Nat.le_refl _) _
        have k11 : w12.heap[q11]? = some (.cells #[.int .i64 I11, .slice A11 n11 p11] 25 (0, 0)) := by rw [e12, eq11]; exact heap_alloc_new w11 _
        have B12 := H11.out.2.1.below hb12
        have hb1012 : Below w10.heap.size w10 w12 := H11.out.2.2.trans (hb12.mono H11.out.2.2.size)
        have k9 := (hb1012.block q9 (lt_of_block H10.out.1)).trans H10.out.1
        have H12 := Lib.hid (And.intro k9 (And.intro k11 (And.intro B12 (And.intro hb1012 hb12))))
        clear k9 k11 B12 hb1012 hb12 e12 eq11
        rcases ok9 with _ | _
        · go_wp2_with fail
          go_ret
          exact ⟨rfl, H.out.2.1 ▸ H12.out.2.2.1.b⟩
        rcases ok11 with _ | _
        · go_wp2_with fail
          go_ret
          exact ⟨rfl, H.out.2.1 ▸ H12.out.2.2.1.b⟩
        obtain ⟨i9, l9, Y9, C9, -⟩ := H9.out.1 rfl
        obtain ⟨i11, l11, Y11, C11, -⟩ := H11.out.1 rfl
        have i9 := i9.symm
        subst i9
        have i11 := i11.symm
        subst i11
        obtain ⟨k9, k11, B12, hb1012, hb12⟩ := H12.out
        have C9 : CompsAt w12 A9 c9 := (C9.below H10.out.2.2 rfl).below hb1012 rfl
        have C11 : CompsAt w12 A11 c11 := C11.below hb12 rfl
        have hcl := HR.out.2.2.1
        have lY9 := Y9.length
        obtain ⟨y0, y1⟩ := ent_facts k9
        obtain ⟨z0, z1⟩ := ent_facts k11
        obtain ⟨rfl, ecs⟩ := Y9.swap Y11
        have SE := same_true (ID := ID) (ca := p9) (cb := p11) w12 l9 l11 ecs (by omega) C9 C11
        have HB := Lib.hid B12
        have q2 : (er9 == er9) = true := by simp
        clear Y9 Y11 C9 C11 B12 k9 k11 l11 lY9 hcl l9 hb1012 hb12 H9 H10 H11 H12 HR ecs
        go_wp2_with (go_at_call 12; refine SE.mono ?_; rintro e w15 ⟨rfl, hb15⟩; have H15 := Lib.hid hb15; clear hb15)
        go_ret
        exact ⟨rfl, H.out.2.1 ▸ (HB.out.below H15.out).b⟩
  · go_wp2_with fail
    go_ret
    exact ⟨rfl, H.out.2.1 ▸ HQ1.out.2.b⟩
  · go_wp2_with fail
    go_ret
    exact ⟨rfl, H.out.2.1 ▸ HQ1.out.2.b⟩
end
end Go.Proofs.YtocbddajakbemaaGreat
