/- Small laws on worlds: a block that is known whole; a call that writes one block alone. Frames: what a call on an object leaves of the others; rows of ints of one's own. vm: the machine's state; pop, push. Operations: what Eval computes. vm: stop; the simple deeds. vm: number: a component's number. vm: number. The plain arithmetic of SplitMix64 streams: the output function and the step are one-to-one; among n words one at least is accepted for n. No condition. Unsigned 64-bit numbers of the walk as bit vectors. The walks of the functions of package rng: what each returns. vm: get, put, bool, do, store, rand. vm: do, store. vm: store, put, rand. vm: store, rand. vm: deeds. vm: what an instruction does; its deed's contract. vm: the deferred closure of all: a panic with an error is caught. vm: all. -/
import Derived.WalkKit
import Derived.Deep.QuietTactic
import Derived.Test.YtocbddajakbemaaGreatChecked
import Derived.Lib.Hide
import Derived.WalkLawsBesides
import Derived.BigQuiet
import Derived.BigRegion
import Derived.OwnWalk
import Derived.Maps.AppendAt
import Derived.WalkSpells
import Derived.Deep.RegionHeld3
import Derived.StillTailTactics
import Derived.Deep.LoopGhost
import Derived.Deep.DeepCutAuto
import Derived.IntWalk
import Derived.Defers
import Derived.Recover
import Init
import Derived.Laws.BitsAllLaws
import Derived.Laws.Pointers
set_option linter.unusedVariables false
set_option linter.unusedSimpArgs false
set_option linter.unusedSimpArgs false
namespace Go.Proofs.YtocbddajakbemaaGreat
section
open Go.RowKit
theorem ret_congr {a b : Value} (h : a = b) : Ending.returned a = .returned b := by rw [h]
theorem quiet_of_eq {P : Program} {f : FuncId} {args : Array Value} {w : World} {n : Nat} {v : Value}
    (h : Calls P f args (w.drewN n) fun e w' => e = .returned v ∧ w.drewN n = w') : Calls P f args (w.drewN n) fun e w'' => e = .returned v ∧ ∃ m, w'' = w.drewN m :=
  h.mono fun _ _ ⟨he, hm⟩ => ⟨he, n, hm.symm⟩
structure Only (b : Nat) (w w' : World) : Prop where
  os : w'.os = w.os
  tape : w'.tape = w.tape
  output : w'.output = w.output
  size : w'.heap.size = w.heap.size
  block : ∀ k, k ≠ b → w'.heap[k]? = w.heap[k]?
theorem Only.refl (b : Nat) (w : World) : Only b w w := ⟨rfl, rfl, rfl, rfl, fun _ _ => rfl⟩
theorem Only.trans {b : Nat} {w x y : World} (h : Only b w x) (k : Only b x y) : Only b w y :=
  ⟨k.os.trans h.os, k.tape.trans h.tape, k.output.trans h.output, k.size.trans h.size, fun i hi => (k.block i hi).trans (h.block i hi)⟩
theorem Only.drewN {b : Nat} {w x : World} (h : Only b w x) (n : Nat) : Only b w (x.drewN n) := ⟨h.os, h.tape, h.output, h.size, h.block⟩
theorem Only.drew {b : Nat} {w x : World} (h : Only b w x) : Only b w x.drew := ⟨h.os, h.tape, h.output, h.size, h.block⟩
theorem Only.setCell {b : Nat} {w x : World} (h : Only b w x) {p : Addr} (hp : p.block = b) (u : Value) : Only b w (x.setCell p u) :=
  h.trans ⟨rfl, rfl, rfl, by simp [World.setCell], fun k hk => Below.heap_setCell _ _ _ _ (by rw [hp]; exact hk)⟩
theorem Only.below {b : Nat} {w x : World} (h : Only b w x) {B : Nat} (hB : B ≤ b) : Below B w x :=
  ⟨h.os, h.tape, h.output, by rw [h.size]; exact Nat.le_refl _, fun k hk => h.block k (by omega)⟩
theorem below_drewN' {B : Nat} {w x : World} (h : Below B w x) (n : Nat) : Below B w (x.drewN n) := ⟨h.os, h.tape, h.output, h.size, h.block⟩
section
variable {w : World} {b : Nat} {cs : Array Value} {t : TypeId}
theorem cell_of_block (h : w.heap[b]? = some (.cells cs t (0, 0))) (i : Nat) : w.cell? ⟨b, i, none⟩ = cs[i]? := by simp [World.cell?, h]
theorem free_of_block (h : w.heap[b]? = some (.cells cs t (0, 0))) (i : Nat) : w.frozen? ⟨b, i, none⟩ = false := by simp [World.frozen?, h]
theorem block_setCell (h : w.heap[b]? = some (.cells cs t (0, 0))) (i : Nat) (u : Value) : (w.setCell ⟨b, i, none⟩ u).heap[b]? = some (.cells (cs.setIfInBounds i u) t (0, 0)) := by
  have hlt := lt_of_block h
  have h' : w.heap[b] = .cells cs t (0, 0) := by simpa [Array.getElem?_eq_getElem hlt] using h
  show (w.heap.modify b _)[b]? = _
  rw [Array.getElem?_eq_getElem (by simpa using hlt), Array.getElem_modify_self, h']
  rfl
end
noncomputable def first (p : Nat → Bool) : Nat := @Classical.epsilon Nat ⟨0⟩ (fun j => p j = true ∧ ∀ i, i < j → p i = false)
theorem first_spec {p : Nat → Bool} (h : ∃ j, p j = true) : p (first p) = true ∧ ∀ i, i < first p → p i = false := by
  have : ∃ j, p j = true ∧ ∀ i, i < j → p i = false := by
    obtain ⟨j, hj⟩ := h
    induction j using Nat.strongRecOn with
    | _ j ih =>
      by_cases hm : ∃ i, i < j ∧ p i = true
      · obtain ⟨i, hi, hp⟩ := hm; exact ih i hi hp
      · exact ⟨j, hj, fun i hi => by
          cases e : p i with
          | false => rfl
          | true => exact absurd ⟨i, hi, e⟩ hm⟩
  exact Classical.epsilon_spec this
end
end Go.Proofs.YtocbddajakbemaaGreat
namespace Go.Proofs.YtocbddajakbemaaGreat
section
open Go.RowKit
structure Fr (F : List Nat) (w : World) (G : List Nat) (w' : World) : Prop where
  os : w'.os = w.os
  tape : w'.tape = w.tape
  output : w'.output = w.output
  size : w.heap.size ≤ w'.heap.size
  block : ∀ q, q < w.heap.size → q ∉ F → w'.heap[q]? = w.heap[q]?
  own : ∀ q, q ∈ G → q ∈ F ∨ w.heap.size ≤ q
theorem Fr.refl (F : List Nat) (w : World) : Fr F w F w := ⟨rfl, rfl, rfl, Nat.le_refl _, fun _ _ _ => rfl, fun _ h => Or.inl h⟩
theorem Fr.trans {F G H : List Nat} {a b c : World} (h : Fr F a G b) (k : Fr G b H c) : Fr F a H c := by
  refine ⟨k.os.trans h.os, k.tape.trans h.tape, k.output.trans h.output, Nat.le_trans h.size k.size, ?_, ?_⟩
  · intro q hq hF
    refine (k.block q (Nat.lt_of_lt_of_le hq h.size) ?_).trans (h.block q hq hF)
    intro hG
    rcases h.own q hG with h1 | h1
    · exact hF h1
    · omega
  · intro q hq
    rcases k.own q hq with h1 | h1
    · exact h.own q h1
    · exact Or.inr (Nat.le_trans h.size h1)
theorem Fr.more {F G : List Nat} {a b : World} (h : Fr F a G b) (H : List Nat) : Fr (F ++ H) a (G ++ H) b := by
  refine ⟨h.os, h.tape, h.output, h.size, fun q hq hF => h.block q hq (fun e => hF (List.mem_append_left _ e)), ?_⟩
  intro q hq
  rcases List.mem_append.1 hq with h1 | h1
  · rcases h.own q h1 with h2 | h2
    · exact Or.inl (List.mem_append_left _ h2)
    · exact Or.inr h2
  · exact Or.inl (List.mem_append_right _ h1)
theorem Fr.wide {F F' G : List Nat} {a b : World} (h : Fr F a G b) (hF : ∀ q, q ∈ F → q ∈ F') : Fr F' a G b :=
  ⟨h.os, h.tape, h.output, h.size, fun q hq hn => h.block q hq (fun e => hn (hF q e)), fun q hq => (h.own q hq).imp (hF q) id⟩
theorem Fr.drewN {F G : List Nat} {a b : World} (h : Fr F a G b) (n : Nat) : Fr F a G (b.drewN n) := ⟨h.os, h.tape, h.output, h.size, h.block, h.own⟩
theorem Fr.of_below {w w' : World} (h : Below w.heap.size w w') (F : List Nat) : Fr F w F w' := ⟨h.os, h.tape, h.output, h.size, fun q hq _ => h.block q hq, fun _ hq => Or.inl hq⟩
theorem Fr.of_only {b : Nat} {w w' : World} (h : Only b w w') : Fr [b] w [b] w' := ⟨h.os, h.tape, h.output, by rw [h.size]; exact Nat.le_refl _, fun q _ hn => h.block q (fun e => hn (by simp [e])), fun _ hq => Or.inl hq⟩
theorem Fr.below {F G : List Nat} {w w' : World} (h : Fr F w G w') {B : Nat} (hB : B ≤ w.heap.size) (hF : ∀ q, q ∈ F → B ≤ q) : Below B w w' :=
  ⟨h.os, h.tape, h.output, h.size, fun q hq => h.block q (by omega) (fun e => by have := hF q e; omega)⟩
theorem Fr.base {F G : List Nat} {w w' : World} (h : Fr F w G w') {B : Nat} (hB : B ≤ w.heap.size) (hF : ∀ q, q ∈ F → B ≤ q) : ∀ q, q ∈ G → B ≤ q := by
  intro q hG
  rcases h.own q hG with h1 | h1
  · exact hF q h1
  · omega
theorem own_lt {w : World} {B e s n : Nat} {v : Value} {xs : List Value} (h : w.ownsRow B e s v n xs) {q : Nat} (hq : v.ownBlock = some q) : q < w.heap.size ∧ B ≤ q := by
  rcases h.2 with ⟨rfl, _⟩ | ⟨g, cap, cur, rfl, hB, hh, _⟩
  · simp [Value.ownBlock] at hq
  · have : g = q := by simpa [Value.ownBlock] using hq
    subst this
    exact ⟨lt_of_block hh, hB⟩
def ints (l : List Int) : List Value := l.map fun x => Value.int .i64 x
theorem ints_len (l : List Int) : (ints l).length = l.length := by simp [ints]
theorem ints_one (l : List Int) : ∀ u ∈ ints l, u.oneCell' = true := by intro u hu; unfold ints at hu; rw [List.mem_map] at hu; obtain ⟨i, _, rfl⟩ := hu; rfl
theorem infoInt : (Tryz.prog.info? 3).map (fun i => (i.zero, i.size, i.bytes)) = some (some (.int .i64 0), 1, 8) := by kernel_rfl
theorem own_shape {w : World} {B e s n : Nat} {v : Value} {xs : List Value} (h : w.ownsRow B e s v n xs) (hn : 0 < n) :
    ∃ g cap cur, v = .slice (some ⟨g, 0, none⟩) n cap ∧ B ≤ g ∧ w.heap[g]? = some (.cells cur e (0, 0)) ∧ n ≤ cap ∧ cap ≤ maxLen ∧ cur.size = cap * s ∧ cur.toList.take (n * s) = xs := by
  rcases h.2 with ⟨_, h0⟩ | h
  · omega
  · exact h
theorem own_ints_at {w : World} {B g n cap : Nat} {l : List Int} (h : w.ownsRow B 3 1 (.slice (some ⟨g, 0, none⟩) n cap) n (ints l)) {i : Nat} {x : Int} (hx : l[i]? = some x) : w.cell? ⟨g, i, none⟩ = some (.int .i64 x) := by
  have hl : l.length = n * 1 := by rw [← ints_len]; exact h.1
  have hi : i < l.length := (List.getElem?_eq_some_iff.1 hx).1
  rw [h.cellAt i (by omega)]
  unfold ints
  rw [List.getElem?_map, hx]; rfl
theorem own_drop {w : World} {B g k cap : Nat} {l : List Int} {x : Int} (h : w.ownsRow B 3 1 (.slice (some ⟨g, 0, none⟩) (k + 1) cap) (k + 1) (ints (l ++ [x]))) : w.ownsRow B 3 1 (.slice (some ⟨g, 0, none⟩) k cap) k (ints l) := by
  have hl : l.length = k := by have := h.1; rw [ints_len, List.length_append] at this; simp at this; exact this
  refine ⟨by rw [ints_len, hl, Nat.mul_one], ?_⟩
  rcases h.2 with ⟨h0, _⟩ | ⟨g', cap', cur, e, hB, hh, h1, h2, h3, h4⟩
  · cases h0
  · cases e
    refine Or.inr ⟨g, cap, cur, rfl, hB, hh, by omega, h2, h3, ?_⟩
    have e2 : cur.toList.take (k * 1) = (cur.toList.take ((k + 1) * 1)).take k := by rw [List.take_take, Nat.mul_one, Nat.mul_one, Nat.min_eq_left (by omega)]
    rw [e2, h4]
    unfold ints
    rw [List.map_append, List.take_append_of_le_length (by simp [hl]), List.take_of_length_le (by simp [hl])]
end
end Go.Proofs.YtocbddajakbemaaGreat
namespace Go.Proofs.YtocbddajakbemaaGreat
section
open Go.RowKit
structure Fix where
  cA : Option Addr
  cn : Nat
  cc : Nat
  L : Int
  R : Int
  Wr : Int
  ID : Int
  seed : Int
  tick : Int
  key : Int
  s : Int
structure Dyn where
  fuel : Int
  at_ : Int
  drawn : Int
  sv : Value
  lv : Value
  cv : Value
def mcells (S : Fix) (D : Dyn) : Array Value :=
  #[.slice S.cA S.cn S.cc, .int .i64 S.L, .int .u32 S.R, .int .u32 S.Wr, .int .i64 S.ID, D.cv, .int .u64 S.seed, .int .i64 S.tick, .int .u64 S.key, .int .i64 D.fuel, .int .i64 D.at_, D.sv, D.lv, .int .u64 S.s, .int .i64 D.drawn]
structure Cmp where
  kind : Nat
  v0 : Int
  v1 : Int
  v2 : Int
  v3 : Int
deriving DecidableEq
def Cmp.cells (c : Cmp) : List Value := [.int .u8 (c.kind : Nat), .int .i64 c.v0, .int .i64 c.v1, .int .i64 c.v2, .int .i64 c.v3]
def comps (l : List Cmp) : List Value := l.flatMap Cmp.cells
structure MOk (w : World) (B rb : Nat) (S : Fix) (D : Dyn) (st ls : List Int) (cs : List Cmp) : Prop where
  blk : w.heap[rb]? = some (.cells (mcells S D) 81 (0, 0))
  stk : w.ownsRow B 3 1 D.sv st.length (ints st)
  lcl : w.ownsRow B 3 1 D.lv ls.length (ints ls)
  cmp : w.ownsRow B 48 5 D.cv cs.length (comps cs)
  sl : ∀ q, D.sv.ownBlock = some q → D.lv.ownBlock ≠ some q
  base : B ≤ rb
def mF (rb : Nat) (D : Dyn) : List Nat := rb :: (D.sv.ownBlock.toList ++ (D.lv.ownBlock.toList ++ D.cv.ownBlock.toList))
theorem own_neq {w : World} {B e s n g : Nat} {T : TypeId} {v : Value} {xs : List Value} {cs : Array Value} (h : w.ownsRow B e s v n xs) (hg : w.heap[g]? = some (.cells cs T (0, 0))) (hT : T ≠ e) : v.ownBlock ≠ some g := by
  rcases h.2 with ⟨rfl, _⟩ | ⟨g', cap, cur, rfl, hB, hh, _⟩
  · simp [Value.ownBlock]
  · intro e'
    have : g' = g := by simpa [Value.ownBlock] using e'
    subst this
    rw [hh] at hg
    injection hg with hg; injection hg with _ hg; exact hT hg.symm
theorem own_only {w w' : World} {B e s n b : Nat} {v : Value} {xs : List Value} (h : w.ownsRow B e s v n xs) (ho : Only b w w') (hne : v.ownBlock ≠ some b) : w'.ownsRow B e s v n xs := by
  refine ⟨h.1, ?_⟩
  rcases h.2 with h | ⟨g, cap, cur, rfl, hB, hh, r⟩
  · exact Or.inl h
  · exact Or.inr ⟨g, cap, cur, rfl, hB, (ho.block g (fun e => hne (by simp [Value.ownBlock, e]))).trans hh, r⟩
section
variable {w w' : World} {B rb : Nat} {S : Fix} {D : Dyn} {st ls : List Int} {cs : List Cmp}
theorem MOk.cells (h : MOk w B rb S D st ls cs) : (∀ i, w.cell? ⟨rb, i, none⟩ = (mcells S D)[i]?) ∧ (∀ i, w.frozen? ⟨rb, i, none⟩ = false) := ⟨fun i => cell_of_block h.blk i, fun i => free_of_block h.blk i⟩
theorem MOk.drewN (h : MOk w B rb S D st ls cs) (n : Nat) : MOk (w.drewN n) B rb S D st ls cs := ⟨h.blk, h.stk, h.lcl, h.cmp, h.sl, h.base⟩
theorem MOk.head (h : MOk w B rb S D st ls cs) (ho : Only rb w w') {S' : Fix} {D' : Dyn} (hb : w'.heap[rb]? = some (.cells (mcells S' D') 81 (0, 0))) (e1 : D'.sv = D.sv) (e2 : D'.lv = D.lv) (e3 : D'.cv = D.cv) : MOk w' B rb S' D' st ls cs := by
  refine ⟨hb, ?_, ?_, ?_, ?_, h.base⟩
  · rw [e1]; exact own_only h.stk ho (own_neq h.stk h.blk (by decide))
  · rw [e2]; exact own_only h.lcl ho (own_neq h.lcl h.blk (by decide))
  · rw [e3]; exact own_only h.cmp ho (own_neq h.cmp h.blk (by decide))
  · rw [e1, e2]; exact h.sl
theorem MOk.restack {st' : List Int} {sv : Value} (h : MOk w B rb S D st' ls cs) (ho : Only rb w w') (hb : w'.heap[rb]? = some (.cells ((mcells S D).setIfInBounds 11 sv) 81 (0, 0))) (hs : w.ownsRow B 3 1 sv st.length (ints st)) (he : sv.ownBlock = D.sv.ownBlock) : MOk w' B rb S { D with sv := sv } st ls cs := by
  refine ⟨hb, own_only hs ho (own_neq hs h.blk (by decide)), own_only h.lcl ho (own_neq h.lcl h.blk (by decide)), own_only h.cmp ho (own_neq h.cmp h.blk (by decide)), fun q hq => ?_, h.base⟩
  exact h.sl q (by rw [← he]; exact hq)
end
set_option maxRecDepth 100000 in
theorem pop_ok (B rb : Nat) (S : Fix) (D : Dyn) (st ls : List Int) (x : Int) (cs : List Cmp) (w : World) (h : MOk w B rb S D (st ++ [x]) ls cs) :
    Calls Tryz.prog 105 #[.pointer (some ⟨rb, 0, none⟩)] w fun e w' => e = .returned (.int .i64 x) ∧ ∃ sv', MOk w' B rb S { D with sv := sv' } st ls cs ∧ sv'.ownBlock = D.sv.ownBlock ∧ Only rb w w' := by
  have hlen : (st ++ [x]).length = st.length + 1 := by simp
  have hstk := h.stk
  rw [hlen] at hstk
  obtain ⟨g, cap, cur, esv, hBg, hg, hn, hcap, -, -⟩ := own_shape hstk (by omega)
  obtain ⟨k, ek⟩ : ∃ k, k = st.length := ⟨_, rfl⟩
  rw [← ek] at hstk hn esv
  rw [esv] at hstk
  have hc0 : w.cell? ⟨g, k, none⟩ = some (.int .i64 x) := own_ints_at hstk (by rw [ek]; simp)
  have hd := own_drop hstk
  have hk : k ≤ 9223372036854775806 := by have := hn; unfold maxLen at hcap; omega
  obtain ⟨n, en⟩ : ∃ n, n = k + 1 := ⟨_, rfl⟩
  rw [← en] at esv hn
  have i0 : wrap64 ((n : Int) - 1) = (k : Nat) := by unfold wrap64; omega
  have i1 : (k : Int) < (n : Int) := by omega
  have i2 : (0 : Int) ≤ (k : Int) := by omega
  have i3 : (k : Int) ≤ (cap : Int) := by omega
  have c11 : w.cell? ⟨rb, 11, none⟩ = some (.slice (some ⟨g, 0, none⟩) n cap) := (h.cells.1 11).trans (by rw [← esv]; rfl)
  have f11 := h.cells.2 11
  have hne : g ≠ rb := by
    have := own_neq h.stk h.blk (by decide)
    rw [esv] at this
    simpa [Value.ownBlock] using this
  have H := Lib.hid (And.intro h (And.intro hd (And.intro hne (And.intro esv ek)))); clear h hd hne esv ek hstk hg hlen en hBg hcap
  go_enter Tryz.func105, Tryz.ntmps105
  go_wp2_with fail
  go_quiet (fail)
  go_wp2_with fail
  go_region
  all_goals (go_wp2_with fail; go_ret; refine ⟨rfl, .slice (some ⟨g, 0, none⟩) k cap, H.out.1.restack (sv := .slice (some ⟨g, 0, none⟩) k cap) ?_ (block_setCell H.out.1.blk 11 _) (by rw [← H.out.2.2.2.2]; exact H.out.2.1) (by rw [H.out.2.2.2.1]; rfl), by rw [H.out.2.2.2.1]; rfl, ?_⟩)
  all_goals exact (((Only.refl rb w).drewN _).setCell (p := ⟨rb, 11, none⟩) rfl _)
theorem own_own_ne {w : World} {B B' : Nat} {e e' s s' n n' : Nat} {v v' : Value} {xs xs' : List Value} (h : w.ownsRow B e s v n xs) (h' : w.ownsRow B' e' s' v' n' xs') (hne : e ≠ e') {q : Nat} (hq : v.ownBlock = some q) : v'.ownBlock ≠ some q := by
  rcases h.2 with ⟨rfl, _⟩ | ⟨g, cap, cur, rfl, _, hh, _⟩
  · simp [Value.ownBlock] at hq
  · have : g = q := by simpa [Value.ownBlock] using hq
    subst this
    exact own_neq h' hh hne
theorem MOk.pushed {w w5 : World} {B rb : Nat} {S : Fix} {D : Dyn} {st ls st' : List Int} {cs : List Cmp} {o : Obj} {v5 : Value} (h : MOk w B rb S D st ls cs) (hg : (w.alloc o).grownBy w5 D.sv.ownBlock) (hat : v5.ownBlock = D.sv.ownBlock ∨ v5.ownBlock = some (w.heap.size + 1))
    (hown : w5.ownsRow B 3 1 v5 st'.length (ints st')) : w5.heap[rb]? = some (.cells (mcells S D) 81 (0, 0)) ∧ MOk (w5.setCell ⟨rb, 11, none⟩ v5) B rb S { D with sv := v5 } st' ls cs ∧ Fr (mF rb D) w (mF rb { D with sv := v5 }) (w5.setCell ⟨rb, 11, none⟩ v5) := by
  have hs : (w.alloc o).heap.size = w.heap.size + 1 := by simp
  have hrl := lt_of_block h.blk
  have hrb : D.sv.ownBlock ≠ some rb := own_neq h.stk h.blk (by decide)
  have hblk : w5.heap[rb]? = some (.cells (mcells S D) 81 (0, 0)) := (hg.block rb (by omega) (fun e => hrb e.symm)).trans ((Below.heap_alloc w o rb hrl).trans h.blk)
  have ho : Only rb w5 (w5.setCell ⟨rb, 11, none⟩ v5) := (Only.refl rb w5).setCell (p := ⟨rb, 11, none⟩) rfl _
  have hb6 := block_setCell hblk 11 v5
  have nsl : D.lv.ownBlock = none ∨ D.lv.ownBlock ≠ D.sv.ownBlock := by
    cases e : D.lv.ownBlock with
    | none => exact Or.inl rfl
    | some q => exact Or.inr (fun e2 => h.sl q e2.symm e)
  have ncm : D.cv.ownBlock = none ∨ D.cv.ownBlock ≠ D.sv.ownBlock := by
    cases e : D.cv.ownBlock with
    | none => exact Or.inl rfl
    | some q => exact Or.inr (fun e2 => own_own_ne h.cmp h.stk (by decide) e (e2.symm))
  refine ⟨hblk, ⟨hb6, own_only hown ho (own_neq hown hblk (by decide)), own_only ((h.lcl.alloc o).kept hg nsl) ho (own_neq h.lcl h.blk (by decide)), own_only ((h.cmp.alloc o).kept hg ncm) ho (own_neq h.cmp h.blk (by decide)), fun q hq hq2 => ?_, h.base⟩, ?_⟩
  · have hq3 : v5.ownBlock = some q := hq
    rcases hat with e | e
    · exact h.sl q (e.symm.trans hq3) hq2
    · rw [e] at hq3
      have := (own_lt h.lcl hq2).1
      injection hq3 with hq3
      omega
  · refine ⟨hg.os, hg.tape, hg.output, ?_, fun q hq hn => ?_, fun q hq => ?_⟩
    · have := hg.size
      show w.heap.size ≤ (w5.heap.modify _ _).size
      simp; omega
    · simp only [mF, List.mem_cons, List.mem_append, Option.mem_toList, not_or] at hn
      refine (Below.heap_setCell _ _ _ _ hn.1).trans ((hg.block q (by omega) (fun e => hn.2.1 e.symm)).trans (Below.heap_alloc w o q hq))
    · simp only [mF, List.mem_cons, List.mem_append, Option.mem_toList] at hq ⊢
      rcases hq with h1 | h1 | h1
      · exact Or.inl (Or.inl h1)
      · rcases hat with e | e
        · exact Or.inl (Or.inr (Or.inl (e.symm.trans h1)))
        · rw [e] at h1
          injection h1 with h1
          exact Or.inr (by omega)
      · exact Or.inl (Or.inr (Or.inr h1))
set_option maxRecDepth 100000 in
theorem push_ok (B rb : Nat) (S : Fix) (D : Dyn) (st ls : List Int) (x : Int) (cs : List Cmp) (w : World) (h : MOk w B rb S D st ls cs) (hl : st.length ≤ 1000000) :
    Calls Tryz.prog 104 #[.pointer (some ⟨rb, 0, none⟩), .int .i64 x] w fun e w' => e = .returned (.tuple #[]) ∧ ∃ sv', MOk w' B rb S { D with sv := sv' } (st ++ [x]) ls cs ∧ Fr (mF rb D) w (mF rb { D with sv := sv' }) w' := by
  obtain ⟨i0, hi1, hz0, hz1, hz2⟩ := info_parts infoInt
  have HI := Lib.hid (And.intro hi1 (And.intro hz0 (And.intro hz1 hz2))); clear hi1 hz0 hz1 hz2
  have c11 : w.cell? ⟨rb, 11, none⟩ = some D.sv := (h.cells.1 11).trans rfl
  have hshape : ∃ A n cap, D.sv = .slice A n cap := by
    rcases h.stk.2 with ⟨e, _⟩ | ⟨g, cap, cur, e, _⟩
    · exact ⟨_, _, _, e⟩
    · exact ⟨_, _, _, e⟩
  obtain ⟨A, n, cap, esv⟩ := hshape
  rw [esv] at c11
  have hst0 := h.stk
  rw [esv] at hst0
  have HO := Lib.hid hst0; clear hst0
  have H := Lib.hid (And.intro h (And.intro esv hl)); clear h esv hl
  go_enter Tryz.func104, Tryz.ntmps104
  go_wp2_with (at_builtin; refine wpList_append_own_at _ rfl (.tmp 8) (.tmp 10) 77 rfl B 3 i0 (.int .i64 0) 1 8 Tryz.underlying77 HI.out.1 HI.out.2.1 HI.out.2.2.1 HI.out.2.2.2 rfl (by decide) _ _ _ rfl (HO.out.alloc _) ⟨w.heap.size, 0, none⟩ 1 1 (ints [x]) rfl ?c0 ?c1 ?c2 ?c3 ?c4 ?c5 ?_)
  case c0 => simp [ints]
  case c1 => exact cell_one_new _ _ _
  case c2 => exact ints_one _
  case c3 => have := H.out.2.2; unfold maxLen; omega
  case c4 => have := H.out.2.2; omega
  case c5 => have := H.out.1.base; have := lt_of_block H.out.1.blk; simp; omega
  intro v5 w5 hown5 hg5 _ hat5
  have ea : ints st ++ ints [x] = ints (st ++ [x]) := by simp [ints]
  rw [ea] at hown5
  have hown6 : w5.ownsRow B 3 1 v5 (st ++ [x]).length (ints (st ++ [x])) := by simpa using hown5
  rw [← H.out.2.1] at hg5 hat5
  obtain ⟨hblk, hm, hfr⟩ := MOk.pushed H.out.1 hg5 hat5 hown6
  obtain ⟨g5, cap5, cur5, rfl, -⟩ := own_shape hown6 (by simp)
  have d11 : w5.cell? ⟨rb, 11, none⟩ = some D.sv := (cell_of_block hblk 11).trans rfl
  have f11 := free_of_block hblk 11
  have HR := Lib.hid (And.intro hm hfr); clear hm hfr hown5 hown6 hg5 hat5 hblk ea
  go_wp2_with fail
  go_end0
  have hr := HR.out
  rw [show (st ++ [x]).length = st.length + 1 from by simp] at hr
  exact ⟨rfl, _, hr.1, hr.2⟩
end
end Go.Proofs.YtocbddajakbemaaGreat
namespace Go.Proofs.YtocbddajakbemaaGreat
section
open Go.RowKit
def tr (b : Bool) : Int := if b then 1 else 0
theorem truth_ok (b : Bool) (w : World) : Calls Tryz.prog 30 #[.bool b] w fun e w' => e = .returned (.int .i64 (tr b)) ∧ w = w' := by
  cases b
  · go_enter Tryz.func30, Tryz.ntmps30
    go_wp2_with fail
    go_ret
    exact ⟨rfl, rfl⟩
  · go_enter Tryz.func30, Tryz.ntmps30
    go_wp2_with fail
    go_ret
    exact ⟨rfl, rfl⟩
def evV (op : Nat) (a b : Int) : Int :=
  match op with
  | 7 => wrap64 (-a)
  | 8 => tr (a == 0)
  | 9 => if a < 0 then wrap64 (-a) else a
  | 10 => wrap64 (a * b)
  | 11 => if b = 0 then 0 else wrap64 (a.tdiv b)
  | 12 => if b = 0 then 0 else a.tmod b
  | 13 => wrap64 (a + b)
  | 14 => wrap64 (a - b)
  | 15 => tr (decide (a < b))
  | 16 => tr (decide (a ≤ b))
  | 17 => tr (decide (b < a))
  | 18 => tr (decide (b ≤ a))
  | 19 => tr (a == b)
  | 20 => tr (a != b)
  | 23 => if b < a then b else a
  | 24 => if a < b then b else a
  | _ => 0
def evOp (op : Nat) : Bool := decide (7 ≤ op ∧ op ≤ 24 ∧ op ≠ 21 ∧ op ≠ 22)
def evE (op : Nat) (b : Int) : Nat := if evOp op then (if (op = 11 ∨ op = 12) ∧ b = 0 then 142 else 0) else 2
theorem ev7 (a b : Int) (w : World) : Calls Tryz.prog 17 #[.int .u8 7, .int .i64 a, .int .i64 b] w fun e w' => e = .returned (.tuple #[.int .i64 (evV 7 a b), .int .i64 (evE 7 b : Nat)]) ∧ w = w' := by
  go_enter Tryz.func17, Tryz.ntmps17
  go_wp2_with fail
  go_ret2
  exact ⟨rfl, rfl⟩
theorem ev8 (a b : Int) (w : World) : Calls Tryz.prog 17 #[.int .u8 8, .int .i64 a, .int .i64 b] w fun e w' => e = .returned (.tuple #[.int .i64 (evV 8 a b), .int .i64 (evE 8 b : Nat)]) ∧ w = w' := by
  go_enter Tryz.func17, Tryz.ntmps17
  go_wp2_with fail
  refine (truth_ok _ _).mono ?_
  rintro e w1 ⟨rfl, rfl⟩
  go_wp2_with fail
  go_ret2
  exact ⟨rfl, rfl⟩
theorem ev9a (a b : Int) (w : World) (h : a < 0) : Calls Tryz.prog 17 #[.int .u8 9, .int .i64 a, .int .i64 b] w fun e w' => e = .returned (.tuple #[.int .i64 (evV 9 a b), .int .i64 (evE 9 b : Nat)]) ∧ w = w' := by
  have H := Lib.hid h
  go_enter Tryz.func17, Tryz.ntmps17
  go_wp2_with fail
  go_ret2
  exact ⟨ret_congr (by unfold evV; rw [if_pos (by have := H.out; omega)]; rfl), rfl⟩
theorem ev9b (a b : Int) (w : World) (h : ¬ a < 0) : Calls Tryz.prog 17 #[.int .u8 9, .int .i64 a, .int .i64 b] w fun e w' => e = .returned (.tuple #[.int .i64 (evV 9 a b), .int .i64 (evE 9 b : Nat)]) ∧ w = w' := by
  have H := Lib.hid h
  go_enter Tryz.func17, Tryz.ntmps17
  go_wp2_with fail
  go_ret2
  exact ⟨ret_congr (by unfold evV; rw [if_neg (by have := H.out; omega)]; rfl), rfl⟩
theorem ev10 (a b : Int) (w : World) : Calls Tryz.prog 17 #[.int .u8 10, .int .i64 a, .int .i64 b] w fun e w' => e = .returned (.tuple #[.int .i64 (evV 10 a b), .int .i64 (evE 10 b : Nat)]) ∧ w = w' := by
  go_enter Tryz.func17, Tryz.ntmps17
  go_wp2_with fail
  go_ret2
  exact ⟨rfl, rfl⟩
theorem ev11a (a b : Int) (w : World) (h : b = 0) : Calls Tryz.prog 17 #[.int .u8 11, .int .i64 a, .int .i64 b] w fun e w' => e = .returned (.tuple #[.int .i64 (evV 11 a b), .int .i64 (evE 11 b : Nat)]) ∧ w = w' := by
  subst h
  go_enter Tryz.func17, Tryz.ntmps17
  go_wp2_with fail
  go_ret2
  exact ⟨rfl, rfl⟩
theorem ev11b (a b : Int) (w : World) (h : ¬ b = 0) : Calls Tryz.prog 17 #[.int .u8 11, .int .i64 a, .int .i64 b] w fun e w' => e = .returned (.tuple #[.int .i64 (evV 11 a b), .int .i64 (evE 11 b : Nat)]) ∧ w = w' := by
  have h2 : (b == 0) = false := by rw [beq_eq_false_iff_ne]; exact h
  have H := Lib.hid h
  go_enter Tryz.func17, Tryz.ntmps17
  go_wp2_with fail
  go_ret2
  exact ⟨ret_congr (by unfold evV evE; simp [H.out, evOp]), rfl⟩
theorem ev12a (a b : Int) (w : World) (h : b = 0) : Calls Tryz.prog 17 #[.int .u8 12, .int .i64 a, .int .i64 b] w fun e w' => e = .returned (.tuple #[.int .i64 (evV 12 a b), .int .i64 (evE 12 b : Nat)]) ∧ w = w' := by
  subst h
  go_enter Tryz.func17, Tryz.ntmps17
  go_wp2_with fail
  go_ret2
  exact ⟨rfl, rfl⟩
theorem ev12b (a b : Int) (w : World) (h : ¬ b = 0) : Calls Tryz.prog 17 #[.int .u8 12, .int .i64 a, .int .i64 b] w fun e w' => e = .returned (.tuple #[.int .i64 (evV 12 a b), .int .i64 (evE 12 b : Nat)]) ∧ w = w' := by
  have h2 : (b == 0) = false := by rw [beq_eq_false_iff_ne]; exact h
  have H := Lib.hid h
  go_enter Tryz.func17, Tryz.ntmps17
  go_wp2_with fail
  go_ret2
  exact ⟨ret_congr (by unfold evV evE; simp [H.out, evOp]), rfl⟩
theorem ev13 (a b : Int) (w : World) : Calls Tryz.prog 17 #[.int .u8 13, .int .i64 a, .int .i64 b] w fun e w' => e = .returned (.tuple #[.int .i64 (evV 13 a b), .int .i64 (evE 13 b : Nat)]) ∧ w = w' := by
  go_enter Tryz.func17, Tryz.ntmps17
  go_wp2_with fail
  go_ret2
  exact ⟨rfl, rfl⟩
theorem ev14 (a b : Int) (w : World) : Calls Tryz.prog 17 #[.int .u8 14, .int .i64 a, .int .i64 b] w fun e w' => e = .returned (.tuple #[.int .i64 (evV 14 a b), .int .i64 (evE 14 b : Nat)]) ∧ w = w' := by
  go_enter Tryz.func17, Tryz.ntmps17
  go_wp2_with fail
  go_ret2
  exact ⟨rfl, rfl⟩
theorem ev15 (a b : Int) (w : World) : Calls Tryz.prog 17 #[.int .u8 15, .int .i64 a, .int .i64 b] w fun e w' => e = .returned (.tuple #[.int .i64 (evV 15 a b), .int .i64 (evE 15 b : Nat)]) ∧ w = w' := by
  go_enter Tryz.func17, Tryz.ntmps17
  go_wp2_with fail
  refine (truth_ok _ _).mono ?_
  rintro e w1 ⟨rfl, rfl⟩
  go_wp2_with fail
  go_ret2
  exact ⟨rfl, rfl⟩
theorem ev16 (a b : Int) (w : World) : Calls Tryz.prog 17 #[.int .u8 16, .int .i64 a, .int .i64 b] w fun e w' => e = .returned (.tuple #[.int .i64 (evV 16 a b), .int .i64 (evE 16 b : Nat)]) ∧ w = w' := by
  go_enter Tryz.func17, Tryz.ntmps17
  go_wp2_with fail
  refine (truth_ok _ _).mono ?_
  rintro e w1 ⟨rfl, rfl⟩
  go_wp2_with fail
  go_ret2
  exact ⟨rfl, rfl⟩
theorem ev17 (a b : Int) (w : World) : Calls Tryz.prog 17 #[.int .u8 17, .int .i64 a, .int .i64 b] w fun e w' => e = .returned (.tuple #[.int .i64 (evV 17 a b), .int .i64 (evE 17 b : Nat)]) ∧ w = w' := by
  go_enter Tryz.func17, Tryz.ntmps17
  go_wp2_with fail
  refine (truth_ok _ _).mono ?_
  rintro e w1 ⟨rfl, rfl⟩
  go_wp2_with fail
  go_ret2
  exact ⟨rfl, rfl⟩
theorem ev18 (a b : Int) (w : World) : Calls Tryz.prog 17 #[.int .u8 18, .int .i64 a, .int .i64 b] w fun e w' => e = .returned (.tuple #[.int .i64 (evV 18 a b), .int .i64 (evE 18 b : Nat)]) ∧ w = w' := by
  go_enter Tryz.func17, Tryz.ntmps17
  go_wp2_with fail
  refine (truth_ok _ _).mono ?_
  rintro e w1 ⟨rfl, rfl⟩
  go_wp2_with fail
  go_ret2
  exact ⟨rfl, rfl⟩
theorem ev19 (a b : Int) (w : World) : Calls Tryz.prog 17 #[.int .u8 19, .int .i64 a, .int .i64 b] w fun e w' => e = .returned (.tuple #[.int .i64 (evV 19 a b), .int .i64 (evE 19 b : Nat)]) ∧ w = w' := by
  go_enter Tryz.func17, Tryz.ntmps17
  go_wp2_with fail
  refine (truth_ok _ _).mono ?_
  rintro e w1 ⟨rfl, rfl⟩
  go_wp2_with fail
  go_ret2
  exact ⟨rfl, rfl⟩
theorem ev20 (a b : Int) (w : World) : Calls Tryz.prog 17 #[.int .u8 20, .int .i64 a, .int .i64 b] w fun e w' => e = .returned (.tuple #[.int .i64 (evV 20 a b), .int .i64 (evE 20 b : Nat)]) ∧ w = w' := by
  go_enter Tryz.func17, Tryz.ntmps17
  go_wp2_with fail
  refine (truth_ok _ _).mono ?_
  rintro e w1 ⟨rfl, rfl⟩
  go_wp2_with fail
  go_ret2
  exact ⟨rfl, rfl⟩
theorem ev23 (a b : Int) (w : World) : Calls Tryz.prog 17 #[.int .u8 23, .int .i64 a, .int .i64 b] w fun e w' => e = .returned (.tuple #[.int .i64 (evV 23 a b), .int .i64 (evE 23 b : Nat)]) ∧ w = w' := by
  obtain ⟨v, ev⟩ : ∃ v : Int, (if b < a then b else a) = v := ⟨_, rfl⟩
  have HV := Lib.hid ev
  go_enter Tryz.func17, Tryz.ntmps17
  go_wp2_with fail
  go_ret2
  exact ⟨ret_congr (by rw [← HV.out]; rfl), rfl⟩
theorem ev24 (a b : Int) (w : World) : Calls Tryz.prog 17 #[.int .u8 24, .int .i64 a, .int .i64 b] w fun e w' => e = .returned (.tuple #[.int .i64 (evV 24 a b), .int .i64 (evE 24 b : Nat)]) ∧ w = w' := by
  obtain ⟨v, ev⟩ : ∃ v : Int, (if a < b then b else a) = v := ⟨_, rfl⟩
  have HV := Lib.hid ev
  go_enter Tryz.func17, Tryz.ntmps17
  go_wp2_with fail
  go_ret2
  exact ⟨ret_congr (by rw [← HV.out]; rfl), rfl⟩
theorem evElse (op : Nat) (h : evOp op = false) (h256 : op < 256) (a b : Int) (w : World) : Calls Tryz.prog 17 #[.int .u8 (op : Int), .int .i64 a, .int .i64 b] w fun e w' => e = .returned (.tuple #[.int .i64 0, .int .i64 2]) ∧ w = w' := by
  have h1 : op < 7 ∨ 24 < op ∨ op = 21 ∨ op = 22 := by unfold evOp at h; have := of_decide_eq_false h; omega
  have e : ∀ k : Int, 7 ≤ k → k ≤ 24 → k ≠ 21 → k ≠ 22 → ((op : Int) == k) = false := by intro k h1 h2 h3 h4; rw [beq_eq_false_iff_ne]; omega
  have e7 := e 7 (by decide) (by decide) (by decide) (by decide)
  have e8 := e 8 (by decide) (by decide) (by decide) (by decide)
  have e9 := e 9 (by decide) (by decide) (by decide) (by decide)
  have e10 := e 10 (by decide) (by decide) (by decide) (by decide)
  have e11 := e 11 (by decide) (by decide) (by decide) (by decide)
  have e12 := e 12 (by decide) (by decide) (by decide) (by decide)
  have e13 := e 13 (by decide) (by decide) (by decide) (by decide)
  have e14 := e 14 (by decide) (by decide) (by decide) (by decide)
  have e15 := e 15 (by decide) (by decide) (by decide) (by decide)
  have e16 := e 16 (by decide) (by decide) (by decide) (by decide)
  have e17 := e 17 (by decide) (by decide) (by decide) (by decide)
  have e18 := e 18 (by decide) (by decide) (by decide) (by decide)
  have e19 := e 19 (by decide) (by decide) (by decide) (by decide)
  have e20 := e 20 (by decide) (by decide) (by decide) (by decide)
  have e23 := e 23 (by decide) (by decide) (by decide) (by decide)
  have e24 := e 24 (by decide) (by decide) (by decide) (by decide)
  clear e h h1
  go_enter Tryz.func17, Tryz.ntmps17
  go_wp2_with fail
  go_ret2
  exact ⟨rfl, rfl⟩
theorem Eval_ok (op : Nat) (h256 : op < 256) (a b : Int) (w : World) : Calls Tryz.prog 17 #[.int .u8 (op : Int), .int .i64 a, .int .i64 b] w fun e w' => e = .returned (.tuple #[.int .i64 (evV op a b), .int .i64 (evE op b : Nat)]) ∧ w = w' := by
  rcases hq : evOp op with _ | _
  · refine (evElse op hq h256 a b w).mono ?_
    rintro e w' ⟨rfl, rfl⟩
    refine ⟨ret_congr ?_, rfl⟩
    have h1 : op < 7 ∨ 24 < op ∨ op = 21 ∨ op = 22 := by unfold evOp at hq; have := of_decide_eq_false hq; omega
    have e1 : evV op a b = 0 := by
      unfold evV
      split <;> first | rfl | (exfalso; omega)
    have e2 : evE op b = 2 := by unfold evE; rw [hq]; rfl
    rw [e1, e2]; rfl
  · have h1 : 7 ≤ op ∧ op ≤ 24 ∧ op ≠ 21 ∧ op ≠ 22 := by unfold evOp at hq; exact of_decide_eq_true hq
    have h2 : op = 7 ∨ op = 8 ∨ op = 9 ∨ op = 10 ∨ op = 11 ∨ op = 12 ∨ op = 13 ∨ op = 14 ∨ op = 15 ∨ op = 16 ∨ op = 17 ∨ op = 18 ∨ op = 19 ∨ op = 20 ∨ op = 23 ∨ op = 24 := by omega
    rcases h2 with rfl | rfl | rfl | rfl | rfl | rfl | rfl | rfl | rfl | rfl | rfl | rfl | rfl | rfl | rfl | rfl
    · exact ev7 a b w
    · exact ev8 a b w
    · by_cases h : a < 0
      · exact ev9a a b w h
      · exact ev9b a b w h
    · exact ev10 a b w
    · by_cases h : b = 0
      · exact ev11a a b w h
      · exact ev11b a b w h
    · by_cases h : b = 0
      · exact ev12a a b w h
      · exact ev12b a b w h
    · exact ev13 a b w
    · exact ev14 a b w
    · exact ev15 a b w
    · exact ev16 a b w
    · exact ev17 a b w
    · exact ev18 a b w
    · exact ev19 a b w
    · exact ev20 a b w
    · exact ev23 a b w
    · exact ev24 a b w
end
end Go.Proofs.YtocbddajakbemaaGreat
namespace Go.Proofs.YtocbddajakbemaaGreat
section
open Go.RowKit
def bad (n : Nat) : Ending := .panicked [{ v := .iface 35 (.int .i64 (n : Nat)), recovered := false }]
theorem stop_ok (w : World) : Calls Tryz.prog 50 #[.int .i64 0] w fun e w' => e = .returned (.tuple #[]) ∧ w = w' := by
  go_enter Tryz.func50, Tryz.ntmps50
  go_wp2_with fail
  go_end0
  exact ⟨rfl, rfl⟩
theorem stop_bad (n : Nat) (hn : n ≠ 0) (w : World) : Calls Tryz.prog 50 #[.int .i64 (n : Nat)] w fun e w' => e = bad n ∧ w = w' := by
  have k : ((n : Int) != 0) = true := by rw [bne_iff_ne]; omega
  have k2 : ((n : Int) == 0) = false := decide_eq_false (by omega)
  go_enter Tryz.func50, Tryz.ntmps50
  go_wp2_with fail
  exact ⟨rfl, rfl, rfl⟩
def Went (w w' : World) (B rb : Nat) (S : Fix) (D : Dyn) (at' dr' : Int) (st ls : List Int) (cs : List Cmp) : Prop :=
  ∃ D', MOk w' B rb S D' st ls cs ∧ D'.fuel = D.fuel ∧ D'.at_ = at' ∧ D'.drawn = dr' ∧ Fr (mF rb D) w (mF rb D') w'
theorem Fr.of_head {w w' : World} {rb : Nat} {D D' : Dyn} (h : Only rb w w') (e1 : D'.sv.ownBlock = D.sv.ownBlock) (e2 : D'.lv = D.lv) (e3 : D'.cv = D.cv) : Fr (mF rb D) w (mF rb D') w' := by
  unfold mF
  rw [e1, e2, e3]
  refine ⟨h.os, h.tape, h.output, by rw [h.size]; exact Nat.le_refl _, fun q hq hn => h.block q (fun e => hn (by simp [e])), fun q hq => Or.inl hq⟩
theorem Went.of_push {w w' w0 : World} {B rb : Nat} {S : Fix} {D D0 : Dyn} {st ls : List Int} {cs : List Cmp} (h : ∃ sv', MOk w' B rb S { D with sv := sv' } st ls cs ∧ Fr (mF rb D) w (mF rb { D with sv := sv' }) w') (hf : D.fuel = D0.fuel) (fr : Fr (mF rb D0) w0 (mF rb D) w) : Went w0 w' B rb S D0 D.at_ D.drawn st ls cs := by
  obtain ⟨sv', h1, h2⟩ := h
  exact ⟨_, h1, hf, rfl, rfl, fr.trans h2⟩
theorem MOk.jumped {w : World} {B rb : Nat} {S : Fix} {D : Dyn} {st ls : List Int} {cs : List Cmp} (h : MOk w B rb S D st ls cs) (a : Int) : MOk (w.setCell ⟨rb, 10, none⟩ (.int .i64 a)) B rb S { D with at_ := a } st ls cs ∧ Only rb w (w.setCell ⟨rb, 10, none⟩ (.int .i64 a)) :=
  have ho : Only rb w (w.setCell ⟨rb, 10, none⟩ (.int .i64 a)) := (Only.refl rb w).setCell (p := ⟨rb, 10, none⟩) rfl _
  ⟨h.head ho (block_setCell h.blk 10 _) rfl rfl rfl, ho⟩
theorem Fr.id {w : World} (F : List Nat) : Fr F w F w := Fr.refl F w
theorem num_ok (B rb : Nat) (S : Fix) (D : Dyn) (st ls : List Int) (cs : List Cmp) (w : World) (a : Int) (h : MOk w B rb S D st ls cs) (hl : st.length ≤ 1000000) :
    Calls Tryz.prog 70 #[.pointer (some ⟨rb, 0, none⟩), .int .i64 a] w fun e w' => e = .returned (.tuple #[]) ∧ Went w w' B rb S D D.at_ D.drawn (st ++ [a]) ls cs := by
  have P := push_ok B rb S D st ls (a) cs w h hl
  clear h hl
  go_enter Tryz.func70, Tryz.ntmps70
  go_wp2_with fail
  refine P.mono ?_
  rintro e w' ⟨rfl, hh⟩
  have HH := Lib.hid hh; clear hh
  go_wp2_with fail
  go_end0
  exact ⟨rfl, Went.of_push HH.out rfl (Fr.refl _ _)⟩
theorem tick_ok (B rb : Nat) (S : Fix) (D : Dyn) (st ls : List Int) (cs : List Cmp) (w : World) (a : Int) (h : MOk w B rb S D st ls cs) (hl : st.length ≤ 1000000) :
    Calls Tryz.prog 75 #[.pointer (some ⟨rb, 0, none⟩), .int .i64 a] w fun e w' => e = .returned (.tuple #[]) ∧ Went w w' B rb S D D.at_ D.drawn (st ++ [S.tick]) ls cs := by
  have c7 : w.cell? ⟨rb, 7, none⟩ = some (.int .i64 S.tick) := (h.cells.1 7).trans rfl
  have P := push_ok B rb S D st ls (S.tick) cs w h hl
  clear h hl
  go_enter Tryz.func75, Tryz.ntmps75
  go_wp2_with fail
  refine P.mono ?_
  rintro e w' ⟨rfl, hh⟩
  have HH := Lib.hid hh; clear hh
  go_wp2_with fail
  go_end0
  exact ⟨rfl, Went.of_push HH.out rfl (Fr.refl _ _)⟩
theorem self_ok (B rb : Nat) (S : Fix) (D : Dyn) (st ls : List Int) (cs : List Cmp) (w : World) (a : Int) (h : MOk w B rb S D st ls cs) (hl : st.length ≤ 1000000) :
    Calls Tryz.prog 76 #[.pointer (some ⟨rb, 0, none⟩), .int .i64 a] w fun e w' => e = .returned (.tuple #[]) ∧ Went w w' B rb S D D.at_ D.drawn (st ++ [S.ID]) ls cs := by
  have c4 : w.cell? ⟨rb, 4, none⟩ = some (.int .i64 S.ID) := (h.cells.1 4).trans rfl
  have P := push_ok B rb S D st ls (S.ID) cs w h hl
  clear h hl
  go_enter Tryz.func76, Tryz.ntmps76
  go_wp2_with fail
  refine P.mono ?_
  rintro e w' ⟨rfl, hh⟩
  have HH := Lib.hid hh; clear hh
  go_wp2_with fail
  go_end0
  exact ⟨rfl, Went.of_push HH.out rfl (Fr.refl _ _)⟩
theorem load_ok (B rb : Nat) (S : Fix) (D : Dyn) (st ls : List Int) (cs : List Cmp) (w : World) (i : Nat) (x : Int) (h : MOk w B rb S D st ls cs) (hl : st.length ≤ 1000000) (hx : ls[i]? = some x) (hl2 : ls.length ≤ 1000) :
    Calls Tryz.prog 71 #[.pointer (some ⟨rb, 0, none⟩), .int .i64 (i : Nat)] w fun e w' => e = .returned (.tuple #[]) ∧ Went w w' B rb S D D.at_ D.drawn (st ++ [x]) ls cs := by
  have hi := (List.getElem?_eq_some_iff.1 hx).1
  obtain ⟨g, cap, cur, elv, -⟩ := own_shape h.lcl (by omega)
  have hlc := h.lcl
  rw [elv] at hlc
  have c12 : w.cell? ⟨rb, 12, none⟩ = some (.slice (some ⟨g, 0, none⟩) ls.length cap) := (h.cells.1 12).trans (by rw [← elv]; rfl)
  have cx := own_ints_at hlc hx
  obtain ⟨n, en⟩ : ∃ n, n = ls.length := ⟨_, rfl⟩
  rw [← en] at c12
  have i0 : (0 : Int) ≤ (i : Int) := by omega
  have i1 : (i : Int) < (n : Int) := by omega
  have P := push_ok B rb S D st ls x cs w h hl
  clear h hl hlc elv hx hi hl2 en
  go_enter Tryz.func71, Tryz.ntmps71
  go_wp2_with fail
  refine P.mono ?_
  rintro e w' ⟨rfl, hh⟩
  have HH := Lib.hid hh; clear hh
  go_wp2_with fail
  go_end0
  exact ⟨rfl, Went.of_push HH.out rfl (Fr.refl _ _)⟩
theorem jump_ok (B rb : Nat) (S : Fix) (D : Dyn) (st ls : List Int) (cs : List Cmp) (w : World) (a : Int) (h : MOk w B rb S D st ls cs) :
    Calls Tryz.prog 80 #[.pointer (some ⟨rb, 0, none⟩), .int .i64 a] w fun e w' => e = .returned (.tuple #[]) ∧ Went w w' B rb S D a D.drawn st ls cs := by
  have c10 : w.cell? ⟨rb, 10, none⟩ = some (.int .i64 D.at_) := (h.cells.1 10).trans rfl
  have f10 := h.cells.2 10
  have J := Lib.hid (h.jumped a); clear h
  go_enter Tryz.func80, Tryz.ntmps80
  go_wp2_with fail
  go_end0
  exact ⟨rfl, _, J.out.1, rfl, rfl, rfl, Fr.of_head J.out.2 rfl rfl rfl⟩
theorem end_ok (B rb : Nat) (S : Fix) (D : Dyn) (st ls : List Int) (cs : List Cmp) (w : World) (a : Int) (h : MOk w B rb S D st ls cs) :
    Calls Tryz.prog 83 #[.pointer (some ⟨rb, 0, none⟩), .int .i64 a] w fun e w' => e = .returned (.tuple #[]) ∧ Went w w' B rb S D (S.cn : Nat) D.drawn st ls cs := by
  have c10 : w.cell? ⟨rb, 10, none⟩ = some (.int .i64 D.at_) := (h.cells.1 10).trans rfl
  have c0 : w.cell? ⟨rb, 0, none⟩ = some (.slice S.cA S.cn S.cc) := (h.cells.1 0).trans rfl
  have f10 := h.cells.2 10
  have J := Lib.hid (h.jumped (S.cn : Nat)); clear h
  go_enter Tryz.func83, Tryz.ntmps83
  go_wp2_with fail
  go_end0
  exact ⟨rfl, _, J.out.1, rfl, rfl, rfl, Fr.of_head J.out.2 rfl rfl rfl⟩
theorem fail_ok (rb : Nat) (a : Int) (w : World) :
    Calls Tryz.prog 84 #[.pointer (some ⟨rb, 0, none⟩), .int .i64 a] w fun e w' => e = bad 144 ∧ w = w' := by
  have P := fun W => stop_bad 144 (by decide) W
  go_enter Tryz.func84, Tryz.ntmps84
  go_wp2_with fail
  refine (P _).mono ?_
  rintro e w' ⟨rfl, rfl⟩
  unfold bad
  go_wp2_with fail
  exact ⟨rfl, rfl, rfl⟩
theorem ifFalse_ok (B rb : Nat) (S : Fix) (D : Dyn) (st ls : List Int) (x : Int) (cs : List Cmp) (w : World) (a : Int) (h : MOk w B rb S D (st ++ [x]) ls cs) :
    Calls Tryz.prog 81 #[.pointer (some ⟨rb, 0, none⟩), .int .i64 a] w fun e w' => e = .returned (.tuple #[]) ∧ Went w w' B rb S D (if x = 0 then a else D.at_) D.drawn st ls cs := by
  have P := pop_ok B rb S D st ls x cs w h
  clear h
  by_cases hx : x = 0
  · rw [if_pos hx]
    have k1 : (x == 0) = true := by rw [beq_iff_eq]; exact hx
    have k2 : (x != 0) = false := by rw [bne_eq_false_iff_eq]; exact hx
    have Hx := Lib.hid hx; clear hx
    go_enter Tryz.func81, Tryz.ntmps81
    go_wp2_with fail
    refine P.mono ?_
    rintro e w1 ⟨rfl, sv, h1, h2, h3⟩
    have c10 : w1.cell? ⟨rb, 10, none⟩ = some (.int .i64 D.at_) := (h1.cells.1 10).trans rfl
    have f10 := h1.cells.2 10
    have J := Lib.hid (And.intro (h1.jumped a) (And.intro h2 h3)); clear h1 h2 h3
    go_wp2_with fail
    go_end0
    exact ⟨rfl, _, J.out.1.1, rfl, rfl, rfl, (Fr.of_head J.out.2.2 J.out.2.1 rfl rfl : Fr (mF rb D) w (mF rb { D with sv := sv }) w1).trans (Fr.of_head J.out.1.2 rfl rfl rfl)⟩
  · rw [if_neg hx]
    have k1 : (x == 0) = false := by rw [beq_eq_false_iff_ne]; exact hx
    have k2 : (x != 0) = true := by rw [bne_iff_ne]; exact hx
    have Hx := Lib.hid hx; clear hx
    go_enter Tryz.func81, Tryz.ntmps81
    go_wp2_with fail
    refine P.mono ?_
    rintro e w1 ⟨rfl, sv, h1, h2, h3⟩
    have J := Lib.hid (And.intro h1 (And.intro h2 h3)); clear h1 h2 h3
    go_wp2_with fail
    go_end0
    exact ⟨rfl, _, J.out.1, rfl, rfl, rfl, Fr.of_head J.out.2.2 J.out.2.1 rfl rfl⟩
theorem ifTrue_ok (B rb : Nat) (S : Fix) (D : Dyn) (st ls : List Int) (x : Int) (cs : List Cmp) (w : World) (a : Int) (h : MOk w B rb S D (st ++ [x]) ls cs) :
    Calls Tryz.prog 82 #[.pointer (some ⟨rb, 0, none⟩), .int .i64 a] w fun e w' => e = .returned (.tuple #[]) ∧ Went w w' B rb S D (if x ≠ 0 then a else D.at_) D.drawn st ls cs := by
  have P := pop_ok B rb S D st ls x cs w h
  clear h
  by_cases hx : x = 0
  · rw [if_neg (fun e => e hx)]
    have k1 : (x == 0) = true := by rw [beq_iff_eq]; exact hx
    have k2 : (x != 0) = false := by rw [bne_eq_false_iff_eq]; exact hx
    have Hx := Lib.hid hx; clear hx
    go_enter Tryz.func82, Tryz.ntmps82
    go_wp2_with fail
    refine P.mono ?_
    rintro e w1 ⟨rfl, sv, h1, h2, h3⟩
    have J := Lib.hid (And.intro h1 (And.intro h2 h3)); clear h1 h2 h3
    go_wp2_with fail
    go_end0
    exact ⟨rfl, _, J.out.1, rfl, rfl, rfl, Fr.of_head J.out.2.2 J.out.2.1 rfl rfl⟩
  · rw [if_pos hx]
    have k1 : (x == 0) = false := by rw [beq_eq_false_iff_ne]; exact hx
    have k2 : (x != 0) = true := by rw [bne_iff_ne]; exact hx
    have Hx := Lib.hid hx; clear hx
    go_enter Tryz.func82, Tryz.ntmps82
    go_wp2_with fail
    refine P.mono ?_
    rintro e w1 ⟨rfl, sv, h1, h2, h3⟩
    have c10 : w1.cell? ⟨rb, 10, none⟩ = some (.int .i64 D.at_) := (h1.cells.1 10).trans rfl
    have f10 := h1.cells.2 10
    have J := Lib.hid (And.intro (h1.jumped a) (And.intro h2 h3)); clear h1 h2 h3
    go_wp2_with fail
    go_end0
    exact ⟨rfl, _, J.out.1.1, rfl, rfl, rfl, (Fr.of_head J.out.2.2 J.out.2.1 rfl rfl : Fr (mF rb D) w (mF rb { D with sv := sv }) w1).trans (Fr.of_head J.out.1.2 rfl rfl rfl)⟩
end
end Go.Proofs.YtocbddajakbemaaGreat
namespace Go.Proofs.YtocbddajakbemaaGreat
section
open Go.RowKit
theorem isKind_ok (c : Cmp) (hc : c.kind < 256) (pb : Nat) (k : Int) (w : World) (hp : w.cell? ⟨pb, 0, none⟩ = some (.int .i64 k)) :
    Calls Tryz.prog 121 #[.agg #[.int .u8 (c.kind : Nat), .int .i64 c.v0, .int .i64 c.v1, .int .i64 c.v2, .int .i64 c.v3], .pointer (some ⟨pb, 0, none⟩)] w fun e w' => e = .returned (.bool ((c.kind : Int) == k)) ∧ Below w.heap.size w w' := by
  have hlt : pb < w.heap.size := World.block_lt_of_cell? w ⟨pb, 0, none⟩ hp
  have hp2 : ∀ o : Obj, (w.alloc o).cell? ⟨pb, 0, none⟩ = some (.int .i64 k) := fun o => ((Below.refl w.heap.size w).alloc (Nat.le_refl _) o).cell (p := ⟨pb, 0, none⟩) hlt |>.trans hp
  have HB := Lib.hid (fun o : Obj => (Below.refl w.heap.size w).alloc (Nat.le_refl _) o)
  clear hp hlt
  go_enter Tryz.func121, Tryz.ntmps121
  go_wp2_with fail
  go_ret
  exact ⟨rfl, HB.out _⟩
theorem comps_len (l : List Cmp) : (comps l).length = l.length * 5 := by
  unfold comps
  induction l with
  | nil => rfl
  | cons c l ih => rw [List.flatMap_cons, List.length_append, ih, List.length_cons]; simp [Cmp.cells]; omega
theorem comps_at {l : List Cmp} {i : Nat} {c : Cmp} (h : l[i]? = some c) (k : Nat) (hk : k < 5) : (comps l)[i * 5 + k]? = c.cells[k]? := by
  unfold comps
  induction l generalizing i with
  | nil => simp at h
  | cons d l ih =>
    rw [List.flatMap_cons]
    rcases i with _ | i
    · simp at h; subst h
      rw [Nat.zero_mul, Nat.zero_add, List.getElem?_append_left (by simp [Cmp.cells]; omega)]
    · simp at h
      rw [List.getElem?_append_right (by simp [Cmp.cells]; omega), ← ih h]
      congr 1
      simp [Cmp.cells]; omega
def idxC (cs : List Cmp) (k : Int) : Nat := cs.findIdx fun c => ((c.kind : Int) == k)
def atC (cs : List Cmp) (k : Int) : Int := if idxC cs k < cs.length then (idxC cs k : Nat) else -1
theorem atC_some {cs : List Cmp} {k : Int} (h : idxC cs k < cs.length) : atC cs k = (idxC cs k : Nat) := if_pos h
theorem atC_none {cs : List Cmp} {k : Int} (h : ¬ idxC cs k < cs.length) : atC cs k = -1 := if_neg h
theorem idx_next {cs : List Cmp} {k : Int} {j : Nat} {c : Cmp} (h : j ≤ idxC cs k) (hc : cs[j]? = some c) (hk : ((c.kind : Int) == k) = false) : j + 1 ≤ idxC cs k := by
  rcases Nat.lt_or_ge j (idxC cs k) with h2 | h2
  · exact h2
  · exfalso
    have e : idxC cs k = j := by omega
    have hl : j < cs.length := (List.getElem?_eq_some_iff.1 hc).1
    have := List.findIdx_getElem (p := fun c : Cmp => ((c.kind : Int) == k)) (xs := cs) (w := by show idxC cs k < _; omega)
    have e2 : cs[List.findIdx (fun c : Cmp => ((c.kind : Int) == k)) cs]? = some c := by show cs[idxC cs k]? = _; rw [e]; exact hc
    rw [List.getElem?_eq_getElem (by show idxC cs k < _; omega)] at e2
    injection e2 with e2
    rw [e2] at this
    rw [this] at hk; cases hk
theorem idx_here {cs : List Cmp} {k : Int} {j : Nat} {c : Cmp} (h : j ≤ idxC cs k) (hc : cs[j]? = some c) (hk : ((c.kind : Int) == k) = true) : idxC cs k = j := by
  rcases Nat.lt_or_ge j (idxC cs k) with h2 | h2
  · exfalso
    have := List.not_of_lt_findIdx (p := fun c : Cmp => ((c.kind : Int) == k)) (xs := cs) h2
    have hl : j < cs.length := (List.getElem?_eq_some_iff.1 hc).1
    rw [List.getElem?_eq_getElem hl] at hc
    injection hc with hc
    rw [hc] at this
    simp [hk] at this
  · omega
theorem own_comp_at {w : World} {B g cap : Nat} {cs : List Cmp} (h : w.ownsRow B 48 5 (.slice (some ⟨g, 0, none⟩) cs.length cap) cs.length (comps cs)) {i : Nat} {c : Cmp} (hc : cs[i]? = some c) :
    w.cell? ⟨g, i * 5, none⟩ = some (.int .u8 (c.kind : Nat)) ∧ w.cell? ⟨g, i * 5 + 1, none⟩ = some (.int .i64 c.v0) ∧ w.cell? ⟨g, i * 5 + 2, none⟩ = some (.int .i64 c.v1) ∧ w.cell? ⟨g, i * 5 + 3, none⟩ = some (.int .i64 c.v2) ∧ w.cell? ⟨g, i * 5 + 4, none⟩ = some (.int .i64 c.v3) := by
  have hi : i < cs.length := (List.getElem?_eq_some_iff.1 hc).1
  refine ⟨?_, ?_, ?_, ?_, ?_⟩
  · exact (h.cellAt (i * 5) (by omega)).trans (comps_at hc 0 (by omega))
  · exact (h.cellAt (i * 5 + 1) (by omega)).trans (comps_at hc 1 (by omega))
  · exact (h.cellAt (i * 5 + 2) (by omega)).trans (comps_at hc 2 (by omega))
  · exact (h.cellAt (i * 5 + 3) (by omega)).trans (comps_at hc 3 (by omega))
  · exact (h.cellAt (i * 5 + 4) (by omega)).trans (comps_at hc 4 (by omega))
theorem own_below {w w' : World} {B e s n : Nat} {v : Value} {xs : List Value} (h : w.ownsRow B e s v n xs) (hb : Below w.heap.size w w') : w'.ownsRow B e s v n xs := by
  refine ⟨h.1, ?_⟩
  rcases h.2 with h | ⟨g, cap, cur, rfl, hB, hh, r⟩
  · exact Or.inl h
  · exact Or.inr ⟨g, cap, cur, rfl, hB, (hb.block g (lt_of_block hh)).trans hh, r⟩
set_option maxRecDepth 100000 in
theorem index_ok (B : Nat) (cv : Value) (cs : List Cmp) (pb : Nat) (k : Int) (w : World) (h : w.ownsRow B 48 5 cv cs.length (comps cs)) (hk : ∀ c, c ∈ cs → c.kind < 256) (hn : cs.length ≤ 1000) (hp : w.cell? ⟨pb, 0, none⟩ = some (.int .i64 k)) :
    Calls Tryz.prog 120 #[cv, .func (.func 121) #[] #[.pointer (some ⟨pb, 0, none⟩)]] w fun e w' => e = .returned (.int .i64 (atC cs k)) ∧ Below w.heap.size w w' := by
  have hlt : pb < w.heap.size := World.block_lt_of_cell? w ⟨pb, 0, none⟩ hp
  have hshape : ∃ A cap, cv = .slice A cs.length cap := by
    rcases h.2 with ⟨e, h0⟩ | ⟨g, cap, cur, e, _⟩
    · exact ⟨none, 0, by rw [e, h0]⟩
    · exact ⟨_, _, e⟩
  obtain ⟨A, cap, rfl⟩ := hshape
  obtain ⟨n, en⟩ : ∃ n, n = cs.length := ⟨_, rfl⟩
  have hle : idxC cs k ≤ cs.length := List.findIdx_le_length
  have H := Lib.hid (And.intro h (And.intro hk (And.intro hn (And.intro hp (And.intro hlt (And.intro en hle)))))); clear h hk hn hp hlt hle
  rw [← en]
  clear en
  go_enter Tryz.func120, Tryz.ntmps120
  go_wp2_with fail
  go_loopg [8] n (fun gh iv wr => ∃ j : Nat, gh = n - j ∧ j ≤ idxC cs k ∧ iv = .int .i64 (j : Nat) ∧ Below w.heap.size w wr)
  case atStart => exact ⟨0, rfl, Nat.zero_le _, rfl, Below.refl _ _⟩
  case round =>
    obtain ⟨j, hgh, hj, rfl, hb⟩ := hrel
    have HR := Lib.hid (And.intro hgh (And.intro hj hb)); clear hgh hj hb
    by_cases hjn : j < n
    · obtain ⟨c, hc⟩ : ∃ c, cs[j]? = some c := ⟨_, List.getElem?_eq_getElem (by have := H.out.2.2.2.2.2.1; omega)⟩
      obtain ⟨g, cap2, cur, e, -⟩ := own_shape H.out.1 (by have := H.out.2.2.2.2.2.1; omega)
      cases e
      obtain ⟨c0, c1, c2, c3, c4⟩ := own_comp_at (own_below H.out.1 HR.out.2.2) hc
      have hpw : wr.cell? ⟨pb, 0, none⟩ = some (.int .i64 k) := (HR.out.2.2.cell (p := ⟨pb, 0, none⟩) H.out.2.2.2.2.1).trans H.out.2.2.2.1
      have P := isKind_ok c (H.out.2.1 c (List.mem_of_getElem? hc)) pb k wr hpw
      have i0 : (0 : Int) ≤ (j : Int) := by omega
      have i1 : (j : Int) < (n : Int) := by omega
      have i2 : decide (j < n) = true := decide_eq_true hjn
      have HX := Lib.hid (And.intro hjn hc); clear hjn hc hpw
      go_wp2_with fail
      refine P.mono ?_
      rintro e w' ⟨rfl, hb⟩
      have HB := Lib.hid hb; clear hb P
      cases hkb : ((c.kind : Int) == k)
      · go_wp2_with fail
        go_roundg (n - (j + 1))
        case measure => have := HR.out.1; have := HX.out.1; omega
        case rel =>
          refine ⟨j + 1, rfl, idx_next HR.out.2.1 HX.out.2 hkb, by rw [show wrap64 ((j : Int) + 1) = ((j + 1 : Nat) : Int) from by have := H.out.2.2.1; have := H.out.2.2.2.2.2.1; have := HX.out.1; unfold wrap64; omega], HR.out.2.2.trans (HB.out.mono HR.out.2.2.size)⟩
      · have ei := idx_here HR.out.2.1 HX.out.2 hkb
        have hin : idxC cs k < cs.length := by rw [ei]; have := H.out.2.2.2.2.2.1; have := HX.out.1; omega
        have HI := Lib.hid (And.intro ei hin); clear ei hin
        go_wp2_with fail
        go_ret
        refine ⟨?_, HR.out.2.2.trans (HB.out.mono HR.out.2.2.size)⟩
        rw [atC_some HI.out.2, HI.out.1]
        rfl
    · have hjn2 : ¬ idxC cs k < cs.length := by have := HR.out.2.1; have := H.out.2.2.2.2.2; omega
      have HI := Lib.hid hjn2
      have i2 : decide (j < n) = false := decide_eq_false hjn
      clear hjn hjn2
      go_wp2_with fail
      go_ret
      refine ⟨?_, HR.out.2.2⟩
      rw [atC_none HI.out]
      rfl
end
end Go.Proofs.YtocbddajakbemaaGreat
namespace Go.Proofs.YtocbddajakbemaaGreat
section
open Go.RowKit
theorem MOk.below {w w' : World} {B rb : Nat} {S : Fix} {D : Dyn} {st ls : List Int} {cs : List Cmp} (h : MOk w B rb S D st ls cs) (hb : Below w.heap.size w w') : MOk w' B rb S D st ls cs :=
  ⟨(hb.block rb (lt_of_block h.blk)).trans h.blk, own_below h.stk hb, own_below h.lcl hb, own_below h.cmp hb, h.sl, h.base⟩
def Fine (cs : List Cmp) : Prop := cs.length ≤ 1000 ∧ ∀ c, c ∈ cs → c.kind < 256
section
variable (B rb : Nat) (S : Fix) (D : Dyn) (st ls : List Int) (cs : List Cmp) (w : World) (k ix : Int)
theorem number_none (h : MOk w B rb S D st ls cs) (hf : Fine cs) (hn : ¬ idxC cs k < cs.length) :
    Calls Tryz.prog 106 #[.pointer (some ⟨rb, 0, none⟩), .int .i64 k, .int .i64 ix] w fun e w' => e = bad 140 ∧ Below w.heap.size w w' := by
  have hb : Below w.heap.size w (w.alloc (.cells #[.int .i64 k] 3)) := (Below.refl _ _).alloc (Nat.le_refl _) _
  have P := index_ok B D.cv cs w.heap.size k (w.alloc (.cells #[.int .i64 k] 3)) (own_below h.cmp hb) hf.2 hf.1 ((cell_of_block (heap_alloc_new w _) 0).trans rfl)
  rw [atC_none hn] at P
  have c5 : w.cell? ⟨rb, 5, none⟩ = some D.cv := (h.cells.1 5).trans rfl
  have hlt : rb < w.heap.size := lt_of_block h.blk
  have c5' : (w.alloc (.cells #[.int .i64 k] 3)).cell? ⟨rb, 5, none⟩ = some D.cv := (hb.cell (p := ⟨rb, 5, none⟩) hlt).trans c5
  obtain ⟨A, cap, ecv⟩ : ∃ A cap, D.cv = .slice A cs.length cap := by
    rcases h.cmp.2 with ⟨e, h0⟩ | ⟨g, cap, cur, e, _⟩
    · exact ⟨none, 0, by rw [e, h0]⟩
    · exact ⟨_, _, e⟩
  rw [ecv] at P c5 c5'
  have SB := fun W => stop_bad 140 (by decide) W
  have hmf : ∀ (fn : Fn) (first cap : Array Value) (w : World), (Instr.makeFunc fn first cap).run Tryz.prog w = .ok (.func fn first cap) w := fun _ _ _ _ => rfl
  have HB := Lib.hid hb; clear hb h hf hn ecv hlt
  go_enter Tryz.func106, Tryz.ntmps106
  go_wp2_with fail
  refine P.mono ?_
  rintro e w1 ⟨rfl, hb1⟩
  have H1 := Lib.hid (HB.out.trans (hb1.mono (by simp))); clear hb1
  go_wp2_with fail
  refine (SB _).mono ?_
  rintro e w1 ⟨rfl, rfl⟩
  unfold bad
  go_wp2_with fail
  exact ⟨rfl, rfl, H1.out⟩
theorem number_out (h : MOk w B rb S D st ls cs) (hf : Fine cs) (hn : idxC cs k < cs.length) (hx : ix < 0 ∨ 3 < ix) :
    Calls Tryz.prog 106 #[.pointer (some ⟨rb, 0, none⟩), .int .i64 k, .int .i64 ix] w fun e w' => e = bad 141 ∧ Below w.heap.size w w' := by
  have hb : Below w.heap.size w (w.alloc (.cells #[.int .i64 k] 3)) := (Below.refl _ _).alloc (Nat.le_refl _) _
  have P := index_ok B D.cv cs w.heap.size k (w.alloc (.cells #[.int .i64 k] 3)) (own_below h.cmp hb) hf.2 hf.1 ((cell_of_block (heap_alloc_new w _) 0).trans rfl)
  rw [atC_some hn] at P
  generalize idxC cs k = j at P
  have c5 : w.cell? ⟨rb, 5, none⟩ = some D.cv := (h.cells.1 5).trans rfl
  have hlt : rb < w.heap.size := lt_of_block h.blk
  have c5' : (w.alloc (.cells #[.int .i64 k] 3)).cell? ⟨rb, 5, none⟩ = some D.cv := (hb.cell (p := ⟨rb, 5, none⟩) hlt).trans c5
  obtain ⟨A, cap, ecv⟩ : ∃ A cap, D.cv = .slice A cs.length cap := by
    rcases h.cmp.2 with ⟨e, h0⟩ | ⟨g, cap, cur, e, _⟩
    · exact ⟨none, 0, by rw [e, h0]⟩
    · exact ⟨_, _, e⟩
  rw [ecv] at P c5 c5'
  have SB := fun W => stop_bad 141 (by decide) W
  have hmf : ∀ (fn : Fn) (first cap : Array Value) (w : World), (Instr.makeFunc fn first cap).run Tryz.prog w = .ok (.func fn first cap) w := fun _ _ _ _ => rfl
  have j0 : decide ((j : Int) < 0) = false := decide_eq_false (by omega)
  have HB := Lib.hid hb; clear hb h hf hn ecv hlt
  by_cases hx0 : ix < 0
  · go_enter Tryz.func106, Tryz.ntmps106
    go_wp2_with fail
    refine P.mono ?_
    rintro e w1 ⟨rfl, hb1⟩
    have H1 := Lib.hid (HB.out.trans (hb1.mono (by simp))); clear hb1
    go_wp2_with fail
    refine (SB _).mono ?_
    rintro e w1 ⟨rfl, rfl⟩
    unfold bad
    go_wp2_with fail
    exact ⟨rfl, rfl, H1.out⟩
  · have hx3 : 3 < ix := by omega
    clear hx
    go_enter Tryz.func106, Tryz.ntmps106
    go_wp2_with fail
    refine P.mono ?_
    rintro e w1 ⟨rfl, hb1⟩
    have H1 := Lib.hid (HB.out.trans (hb1.mono (by simp))); clear hb1
    go_wp2_with fail
    refine (SB _).mono ?_
    rintro e w1 ⟨rfl, rfl⟩
    unfold bad
    go_wp2_with fail
    exact ⟨rfl, rfl, H1.out⟩
theorem number_ok (g cap : Nat) (ecv : D.cv = .slice (some ⟨g, 0, none⟩) cs.length cap) (h : MOk w B rb S D st ls cs) (hf : Fine cs) (hn : idxC cs k < cs.length) (x : Nat) (hx : x ≤ 3) :
    Calls Tryz.prog 106 #[.pointer (some ⟨rb, 0, none⟩), .int .i64 k, .int .i64 (x : Nat)] w fun e w' => e = .returned (.pointer (some ⟨g, idxC cs k * 5 + 1 + x, none⟩)) ∧ Below w.heap.size w w' := by
  have hb : Below w.heap.size w (w.alloc (.cells #[.int .i64 k] 3)) := (Below.refl _ _).alloc (Nat.le_refl _) _
  have P := index_ok B D.cv cs w.heap.size k (w.alloc (.cells #[.int .i64 k] 3)) (own_below h.cmp hb) hf.2 hf.1 ((cell_of_block (heap_alloc_new w _) 0).trans rfl)
  rw [atC_some hn] at P
  have c5 : w.cell? ⟨rb, 5, none⟩ = some D.cv := (h.cells.1 5).trans rfl
  have hlt : rb < w.heap.size := lt_of_block h.blk
  have c5' : (w.alloc (.cells #[.int .i64 k] 3)).cell? ⟨rb, 5, none⟩ = some D.cv := (hb.cell (p := ⟨rb, 5, none⟩) hlt).trans c5
  rw [ecv] at P c5 c5'
  obtain ⟨j, ej⟩ : ∃ j, j = idxC cs k := ⟨_, rfl⟩
  rw [← ej] at P hn ⊢
  obtain ⟨n, en⟩ : ∃ n, n = cs.length := ⟨_, rfl⟩
  rw [← en] at P hn c5 c5'
  have hmf : ∀ (fn : Fn) (first cap : Array Value) (w : World), (Instr.makeFunc fn first cap).run Tryz.prog w = .ok (.func fn first cap) w := fun _ _ _ _ => rfl
  have j0 : decide ((j : Int) < 0) = false := decide_eq_false (by omega)
  have j1 : (0 : Int) ≤ (j : Int) := by omega
  have j2 : (j : Int) < (n : Int) := by omega
  have x0 : decide ((x : Int) < 0) = false := decide_eq_false (by omega)
  have x1 : decide ((3 : Int) < (x : Int)) = false := decide_eq_false (by omega)
  have x2 : (0 : Int) ≤ (x : Int) := by omega
  have x3 : (x : Int) < 4 := by omega
  have HB := Lib.hid (And.intro hb (And.intro hlt c5)); clear hb h hf hn ecv hlt ej en hx c5
  go_enter Tryz.func106, Tryz.ntmps106
  go_wp2_with fail
  refine P.mono ?_
  rintro e w1 ⟨rfl, hb1⟩
  have hc := (hb1.cell (p := ⟨rb, 5, none⟩) (by have := HB.out.2.1; simp; omega)).trans c5'
  have H1 := Lib.hid (HB.out.1.trans (hb1.mono (by simp))); clear hb1
  go_wp2_with fail
  go_ret
  exact ⟨rfl, H1.out⟩
end
end
end Go.Proofs.YtocbddajakbemaaGreat
namespace Go.Proofs.YtocbddajakbemaaGreat
section
namespace M
def g : BitVec 64 := 0x9e3779b97f4a7c15#64
def gi : BitVec 64 := 0xf1de83e19937733d#64
def c1 : BitVec 64 := 0xbf58476d1ce4e5b9#64
def c1i : BitVec 64 := 0x96de1b173f119089#64
def c2 : BitVec 64 := 0x94d049bb133111eb#64
def c2i : BitVec 64 := 0x319642b2d24d8ec3#64
theorem g_inv : g * gi = 1#64 := by decide
theorem c1_inv : c1 * c1i = 1#64 := by decide
theorem c2_inv : c2 * c2i = 1#64 := by decide
def mix (z : BitVec 64) : BitVec 64 :=
  let a := (z ^^^ (z >>> 30)) * c1
  let b := (a ^^^ (a >>> 27)) * c2
  b ^^^ (b >>> 31)
theorem mul_inj {c ci : BitVec 64} (h : c * ci = 1#64) {x y : BitVec 64} (e : x * c = y * c) : x = y := by
  have := congrArg (· * ci) e
  simpa [BitVec.mul_assoc, h] using this
theorem xs_back (k : Nat) (h : 64 ≤ k + k + k) (z : BitVec 64) : (z ^^^ (z >>> k)) ^^^ ((z ^^^ (z >>> k)) >>> k) ^^^ ((z ^^^ (z >>> k)) >>> (k + k)) = z := by
  apply BitVec.eq_of_getLsbD_eq
  intro i hi
  have e0 : z.getLsbD (k + (k + k + i)) = false := BitVec.getLsbD_of_ge _ _ (by omega)
  simp only [BitVec.getLsbD_xor, BitVec.getLsbD_ushiftRight]
  rw [show k + (k + i) = k + k + i from by omega, e0]
  cases z.getLsbD i <;> cases z.getLsbD (k + i) <;> cases z.getLsbD (k + k + i) <;> rfl
theorem xs_inj (k : Nat) (h : 64 ≤ k + k + k) {x y : BitVec 64} (e : x ^^^ (x >>> k) = y ^^^ (y >>> k)) : x = y := by
  rw [← xs_back k h x, ← xs_back k h y, e]
theorem mix_inj {x y : BitVec 64} (e : mix x = mix y) : x = y :=
  xs_inj 30 (by omega) (mul_inj c1_inv (xs_inj 27 (by omega) (mul_inj c2_inv (xs_inj 31 (by omega) e))))
def word (s k : BitVec 64) : BitVec 64 := mix (s + (k + 1#64) * g)
theorem add_inj_left {a x y : BitVec 64} (e : a + x = a + y) : x = y := by
  have := congrArg (fun t => t - a) e
  simpa [BitVec.add_comm a, BitVec.add_sub_cancel] using this
theorem add_inj_right {a x y : BitVec 64} (e : x + a = y + a) : x = y := by
  rw [BitVec.add_comm x, BitVec.add_comm y] at e; exact add_inj_left e
theorem word_inj_k {s k l : BitVec 64} (e : word s k = word s l) : k = l :=
  add_inj_right (mul_inj g_inv (add_inj_left (mix_inj e)))
def rej (n : Nat) : Nat := if n = 0 then 0 else (18446744073709551616 - n) % n
def acc (n w : Nat) : Bool := n == 0 || decide (w ≤ 18446744073709551615 - rej n)
def rem (n w : Nat) : Nat := if n = 0 then w else w % n
theorem rej_lt (n : Nat) (h : 0 < n) : rej n < n := by unfold rej; rw [if_neg (by omega)]; exact Nat.mod_lt _ h
theorem pigeon : ∀ (r : Nat) (l : List Nat), l.Nodup → (∀ x ∈ l, x < r) → l.length ≤ r
  | 0, l, _, h => by cases l with
    | nil => simp
    | cons a l => exact absurd (h a (by simp)) (by omega)
  | r + 1, l, hn, h => by
    have h1 := pigeon r (l.filter (· ≠ r)) (hn.filter _) (by
      intro x hx
      simp only [List.mem_filter, decide_eq_true_eq, ne_eq] at hx
      have := h x hx.1; omega)
    have h2 : l.length ≤ (l.filter (· ≠ r)).length + 1 := by
      clear h1 h
      induction l with
      | nil => simp
      | cons a l ih =>
        rw [List.nodup_cons] at hn
        by_cases e : a = r
        · subst e
          have e2 : l.filter (· ≠ a) = l := by
            rw [List.filter_eq_self]
            intro x hx
            have : x ≠ a := fun e => hn.1 (e ▸ hx)
            simpa using this
          have e3 : (a :: l).filter (· ≠ a) = l.filter (· ≠ a) := by simp
          rw [e3, e2]; simp
        · have e3 : (a :: l).filter (· ≠ r) = a :: l.filter (· ≠ r) := by simp [e]
          rw [e3]; have := ih hn.2; simp only [List.length_cons]; omega
    omega
theorem ofNat_inj {i j : Nat} (hi : i < 18446744073709551616) (hj : j < 18446744073709551616) (e : BitVec.ofNat 64 i = BitVec.ofNat 64 j) : i = j := by
  have := congrArg BitVec.toNat e
  simp only [BitVec.toNat_ofNat] at this
  omega
theorem some_acc (s k : BitVec 64) (n : Nat) (h0 : 0 < n) (h1 : n ≤ 18446744073709551616) : ∃ j, j < n ∧ acc n (word s (k + BitVec.ofNat 64 j)).toNat = true := by
  apply Classical.byContradiction
  intro hno
  have hall : ∀ j, j < n → 18446744073709551615 - rej n < (word s (k + BitVec.ofNat 64 j)).toNat := by
    intro j hj
    have : ¬ acc n (word s (k + BitVec.ofNat 64 j)).toNat = true := fun h => hno ⟨j, hj, h⟩
    simp only [acc, Bool.or_eq_true, beq_iff_eq, decide_eq_true_eq, not_or] at this
    omega
  have hr := rej_lt n h0
  have hp := pigeon (rej n) ((List.range n).map fun j => 18446744073709551615 - (word s (k + BitVec.ofNat 64 j)).toNat) (by
    rw [List.nodup_iff_pairwise_ne, List.pairwise_map]
    have hnd : (List.range n).Nodup := List.nodup_range
    refine List.Pairwise.imp_of_mem ?_ (List.nodup_iff_pairwise_ne.1 hnd)
    intro a b ha hb hab e
    simp only [List.mem_range] at ha hb
    have b1 := hall a ha
    have b2 := hall b hb
    have t1 := (word s (k + BitVec.ofNat 64 a)).isLt
    have t2 := (word s (k + BitVec.ofNat 64 b)).isLt
    apply hab
    apply ofNat_inj (by omega) (by omega)
    apply add_inj_left (a := k)
    apply word_inj_k (s := s)
    apply BitVec.eq_of_toNat_eq
    omega) (by
    intro x hx
    simp only [List.mem_map, List.mem_range] at hx
    obtain ⟨j, hj, rfl⟩ := hx
    have b1 := hall j hj
    have t1 := (word s (k + BitVec.ofNat 64 j)).isLt
    omega)
  simp at hp
  omega
end M
end
end Go.Proofs.YtocbddajakbemaaGreat
namespace Go.Proofs.YtocbddajakbemaaGreat
section
open Go.RowKit
namespace Bv
theorem toNat_ofInt {z : Int} (h0 : 0 ≤ z) (h1 : z ≤ 18446744073709551615) : ((BitVec.ofInt 64 z).toNat : Int) = z := by
  rw [BitVec.toNat_ofInt]; omega
theorem wrap_lo (z : Int) : 0 ≤ IntKind.u64.wrap z := by rw [IntKind.wrap_u64]; omega
theorem wrap_hi (z : Int) : IntKind.u64.wrap z ≤ 18446744073709551615 := by rw [IntKind.wrap_u64]; omega
theorem wrap_in {z : Int} (h0 : 0 ≤ z) (h1 : z ≤ 18446744073709551615) : IntKind.u64.wrap z = z := by rw [IntKind.wrap_u64]; omega
theorem ofInt_emod (z : Int) : BitVec.ofInt 64 (z % 18446744073709551616) = BitVec.ofInt 64 z := by
  apply BitVec.eq_of_toNat_eq; rw [BitVec.toNat_ofInt, BitVec.toNat_ofInt]; omega
theorem ofInt_wrap (z : Int) : BitVec.ofInt 64 (IntKind.u64.wrap z) = BitVec.ofInt 64 z := by
  rw [IntKind.wrap_u64, ofInt_emod]
theorem ofInt_wrap64 (z : Int) : BitVec.ofInt 64 (wrap64 z) = BitVec.ofInt 64 z := by
  apply BitVec.eq_of_toNat_eq; rw [BitVec.toNat_ofInt, BitVec.toNat_ofInt]; unfold wrap64; omega
theorem ofInt_toNat (b : BitVec 64) : BitVec.ofInt 64 (b.toNat : Int) = b := by
  apply BitVec.eq_of_toNat_eq; rw [BitVec.toNat_ofInt]; have := b.isLt; omega
theorem xor_eq (a b : BitVec 64) : bits .xor .u64 (a.toNat : Int) (b.toNat : Int) = ((a ^^^ b).toNat : Int) := by
  rw [u64_xor_nat _ _ (by have := a.isLt; omega) (by have := b.isLt; omega), BitVec.toNat_xor]
theorem div_eq (a : BitVec 64) (k : Nat) : (a.toNat : Int) / ((2 ^ k : Nat) : Int) = ((a >>> k).toNat : Int) := by
  rw [BitVec.toNat_ushiftRight, Nat.shiftRight_eq_div_pow, Int.natCast_ediv]
theorem mul_eq (a b : BitVec 64) : IntKind.u64.wrap ((a.toNat : Int) * (b.toNat : Int)) = ((a * b).toNat : Int) := by
  rw [IntKind.wrap_u64, BitVec.toNat_mul, Int.natCast_emod, Int.natCast_mul]; rfl
end Bv
end
end Go.Proofs.YtocbddajakbemaaGreat
namespace Go.Proofs.YtocbddajakbemaaGreat
section
open Go.RowKit
def mixI (z : Int) : Int := ((M.mix (BitVec.ofInt 64 z)).toNat : Int)
theorem mix_calls (z : Int) (w : World) (h0 : 0 ≤ z) (h1 : z ≤ 18446744073709551615) :
    Calls Tryz.prog 47 #[.int .u64 z] w fun e w' => e = .returned (.int .u64 (mixI z)) ∧ w = w' := by
  go_enter Tryz.func47, Tryz.ntmps47
  go_wp2
  go_ret
  refine ⟨ret_congr ?_, rfl⟩
  refine congrArg (Value.int .u64) ?_
  obtain ⟨b, rfl⟩ : ∃ b : BitVec 64, z = (b.toNat : Int) := ⟨BitVec.ofInt 64 z, (Bv.toNat_ofInt h0 h1).symm⟩
  have e30 := fun a : BitVec 64 => Bv.div_eq a 30
  have e27 := fun a : BitVec 64 => Bv.div_eq a 27
  have e31 := fun a : BitVec 64 => Bv.div_eq a 31
  have m1 := fun a : BitVec 64 => Bv.mul_eq a M.c1
  have m2 := fun a : BitVec 64 => Bv.mul_eq a M.c2
  simp only [show ((2 ^ 30 : Nat) : Int) = 1073741824 from rfl] at e30
  simp only [show ((2 ^ 27 : Nat) : Int) = 134217728 from rfl] at e27
  simp only [show ((2 ^ 31 : Nat) : Int) = 2147483648 from rfl] at e31
  simp only [show (M.c1.toNat : Int) = 13787848793156543929 from rfl] at m1
  simp only [show (M.c2.toNat : Int) = 10723151780598845931 from rfl] at m2
  simp only [e30, Bv.xor_eq, m1, e27, m2, e31]
  unfold mixI
  rw [Bv.ofInt_toNat]
  rfl
def wordI (s k : Int) : Int := ((M.word (BitVec.ofInt 64 s) (BitVec.ofInt 64 k)).toNat : Int)
theorem wordI_lo (s k : Int) : 0 ≤ wordI s k := by unfold wordI; omega
theorem wordI_hi (s k : Int) : wordI s k ≤ 18446744073709551615 := by
  unfold wordI; have := (M.word (BitVec.ofInt 64 s) (BitVec.ofInt 64 k)).isLt; omega
theorem word_calls (s k : Int) (w : World) :
    Calls Tryz.prog 129 #[.int .u64 s, .int .i64 k] w fun e w' => e = .returned (.int .u64 (wordI s k)) ∧ w = w' := by
  go_enter Tryz.func129, Tryz.ntmps129
  go_wp2_with (go_at_call 47; refine (mix_calls _ _ (Bv.wrap_lo _) (Bv.wrap_hi _)).mono ?_; rintro e w' ⟨rfl, rfl⟩)
  go_ret
  refine ⟨ret_congr ?_, rfl⟩
  refine congrArg (Value.int .u64) ?_
  unfold mixI wordI M.word
  have eg : BitVec.ofInt 64 11400714819323198485 = M.g := rfl
  have e1 : BitVec.ofInt 64 1 = 1#64 := rfl
  simp only [Bv.ofInt_wrap, BitVec.ofInt_add, BitVec.ofInt_mul, eg, e1]
def foldOk (x n : Int) : Bool := M.acc n.toNat x.toNat
def foldV (x n : Int) : Int := if foldOk x n then ((M.rem n.toNat x.toNat : Nat) : Int) else 0
theorem neg_rem (n : Int) (n0 : 1 ≤ n) (n1 : n ≤ 18446744073709551615) : (IntKind.u64.wrap (-n)).tmod n = ((M.rej n.toNat : Nat) : Int) := by
  rw [IntKind.wrap_u64, Int.tmod_eq_emod_of_nonneg (by omega)]
  unfold M.rej
  rw [if_neg (by omega), Int.natCast_emod]
  have e1 : (-n) % 18446744073709551616 = ((18446744073709551616 - n.toNat : Nat) : Int) := by omega
  rw [e1]
  congr 1
  omega
theorem fold_calls (x n : Int) (w : World) (h0 : 0 ≤ x) (h1 : x ≤ 18446744073709551615) (n0 : 0 ≤ n) (n1 : n ≤ 18446744073709551615) :
    Calls Tryz.prog 130 #[.int .u64 x, .int .u64 n] w fun e w' => e = .returned (.tuple #[.int .u64 (foldV x n), .bool (foldOk x n)]) ∧ w = w' := by
  by_cases hz : n = 0
  · subst hz
    have hk : foldOk x 0 = true := rfl
    have hv : foldV x 0 = x := by simp [foldV, hk, M.rem]; omega
    have H := Lib.hid (And.intro hk hv); clear hk hv
    go_enter Tryz.func130, Tryz.ntmps130
    go_wp2
    go_ret2
    rw [H.out.1, H.out.2]
    exact ⟨rfl, rfl⟩
  · have hr := neg_rem n (by omega) n1
    have hlt := M.rej_lt n.toNat (by omega)
    have hw : IntKind.u64.wrap (18446744073709551615 - ((M.rej n.toNat : Nat) : Int)) = 18446744073709551615 - ((M.rej n.toNat : Nat) : Int) := Bv.wrap_in (by omega) (by omega)
    have hne : (n == 0) = false := by simpa using hz
    by_cases hx : 18446744073709551615 - ((M.rej n.toNat : Nat) : Int) < x
    · have hk : foldOk x n = false := by
        unfold foldOk M.acc
        rw [Bool.or_eq_false_iff]
        refine ⟨by rw [beq_eq_false_iff_ne]; omega, by rw [decide_eq_false_iff_not]; omega⟩
      have hv : foldV x n = 0 := by simp [foldV, hk]
      have H := Lib.hid (And.intro hk hv); clear hk hv
      go_enter Tryz.func130, Tryz.ntmps130
      go_wp2
      go_ret2
      rw [H.out.1, H.out.2]
      exact ⟨rfl, rfl⟩
    · have hk : foldOk x n = true := by
        unfold foldOk M.acc
        rw [Bool.or_eq_true]
        exact Or.inr (by rw [decide_eq_true_eq]; omega)
      have hv : foldV x n = x % n := by
        simp only [foldV, hk, if_true, M.rem]
        rw [if_neg (by omega), Int.natCast_emod]
        congr 1 <;> omega
      have H := Lib.hid (And.intro hk hv); clear hk hv
      go_enter Tryz.func130, Tryz.ntmps130
      go_wp2
      go_ret2
      rw [H.out.1, H.out.2]
      exact ⟨rfl, rfl⟩
noncomputable def J (s k n : Int) : Nat := first fun j => M.acc n.toNat (M.word (BitVec.ofInt 64 s) (BitVec.ofInt 64 k + BitVec.ofNat 64 j)).toNat
noncomputable def drawV (s k n : Int) : Int := foldV (wordI s (wrap64 (k + J s k n))) n
noncomputable def drawK (s k n : Int) : Int := wrap64 (k + J s k n + 1)
theorem ofInt_step (k : Int) (j : Nat) : BitVec.ofInt 64 (wrap64 (k + j)) = BitVec.ofInt 64 k + BitVec.ofNat 64 j := by
  rw [Bv.ofInt_wrap64, BitVec.ofInt_add, BitVec.ofInt_natCast]
theorem wordI_step (s k : Int) (j : Nat) : wordI s (wrap64 (k + j)) = ((M.word (BitVec.ofInt 64 s) (BitVec.ofInt 64 k + BitVec.ofNat 64 j)).toNat : Int) :=
  congrArg (fun t => ((M.word (BitVec.ofInt 64 s) t).toNat : Int)) (ofInt_step k j)
theorem foldOk_step (s k n : Int) (j : Nat) : foldOk (wordI s (wrap64 (k + j))) n = M.acc n.toNat (M.word (BitVec.ofInt 64 s) (BitVec.ofInt 64 k + BitVec.ofNat 64 j)).toNat := by
  have e := wordI_step s k j
  have e2 : (wordI s (wrap64 (k + j))).toNat = (M.word (BitVec.ofInt 64 s) (BitVec.ofInt 64 k + BitVec.ofNat 64 j)).toNat := by omega
  exact congrArg (M.acc n.toNat) e2
theorem J_some (s k n : Int) (n0 : 0 ≤ n) (n1 : n ≤ 18446744073709551615) : ∃ j, M.acc n.toNat (M.word (BitVec.ofInt 64 s) (BitVec.ofInt 64 k + BitVec.ofNat 64 j)).toNat = true := by
  by_cases h : n.toNat = 0
  · exact ⟨0, by rw [h]; rfl⟩
  · obtain ⟨j, _, hj⟩ := M.some_acc (BitVec.ofInt 64 s) (BitVec.ofInt 64 k) n.toNat (by omega) (by omega)
    exact ⟨j, hj⟩
theorem J_ok (s k n : Int) (n0 : 0 ≤ n) (n1 : n ≤ 18446744073709551615) : foldOk (wordI s (wrap64 (k + J s k n))) n = true := by
  rw [foldOk_step]; exact (first_spec (J_some s k n n0 n1)).1
theorem J_no (s k n : Int) (n0 : 0 ≤ n) (n1 : n ≤ 18446744073709551615) (j : Nat) (h : j < J s k n) : foldOk (wordI s (wrap64 (k + j))) n = false := by
  rw [foldOk_step]; exact (first_spec (J_some s k n n0 n1)).2 j h
theorem w64_step (x : Int) : wrap64 (wrap64 x + 1) = wrap64 (x + 1) := by unfold wrap64; omega
set_option maxHeartbeats 400000 in
theorem below_calls (b : Nat) (T : TypeId) (s k n : Int) (w : World) (n0 : 0 ≤ n) (n1 : n ≤ 18446744073709551615)
    (hb : w.heap[b]? = some (.cells #[.int .u64 s, .int .i64 (wrap64 k)] T (0, 0))) :
    Calls Tryz.prog 122 #[.pointer (some ⟨b, 0, none⟩), .int .u64 n] w fun e w' => e = .returned (.int .u64 (drawV s k n)) ∧ w'.heap[b]? = some (.cells #[.int .u64 s, .int .i64 (drawK s k n)] T (0, 0)) ∧ Only b w w' := by
  have HB := Lib.hid hb; clear hb
  go_enter Tryz.func122, Tryz.ntmps122
  go_wp2_with fail
  go_loopg [] (J s k n + 1) (fun g wr => ∃ j : Nat, g = J s k n + 1 - j ∧ j ≤ J s k n ∧ wr.heap[b]? = some (.cells #[.int .u64 s, .int .i64 (wrap64 (k + j))] T (0, 0)) ∧ Only b w wr)
  case atStart => exact ⟨0, rfl, by omega, by simpa using HB.out, Only.refl _ _⟩
  case round =>
    obtain ⟨j, hg, hj, hbr, ho⟩ := hrel
    have hc0 := cell_of_block hbr 0
    have hc1 := cell_of_block hbr 1
    have hf1 := free_of_block hbr 1
    simp at hc0 hc1
    have H := Lib.hid (And.intro hg (And.intro hbr ho)); clear hg hbr ho
    by_cases hjj : j = J s k n
    · have hok : foldOk (wordI s (wrap64 (k + j))) n = true := by rw [hjj]; exact J_ok s k n n0 n1
      have HJ := Lib.hid hjj; clear hjj hj
      go_wp2_with fail
      go_quiet ((go_at_call 129; exact quiet_of_eq (word_calls _ _ _)))
      go_wp2_with (go_at_call 130; refine (fold_calls _ _ _ (wordI_lo _ _) (wordI_hi _ _) n0 n1).mono ?_; rintro e w' ⟨rfl, rfl⟩)
      go_ret
      obtain ⟨hg, hbr, ho⟩ := H.out
      refine ⟨ret_congr ?_, ?_, ?_⟩
      · show Value.int .u64 _ = _
        rw [drawV, ← HJ.out]
      · rw [w64_step, drawK, ← HJ.out]
        exact block_setCell (w := wr.drewN nq) hbr 1 _
      · exact (ho.drewN nq).setCell rfl _
    · have hok : foldOk (wordI s (wrap64 (k + j))) n = false := J_no s k n n0 n1 j (by omega)
      go_wp2_with fail
      go_quiet ((go_at_call 129; exact quiet_of_eq (word_calls _ _ _)))
      go_wp2_with (go_at_call 130; refine (fold_calls _ _ _ (wordI_lo _ _) (wordI_hi _ _) n0 n1).mono ?_; rintro e w' ⟨rfl, rfl⟩)
      obtain ⟨hg, hbr, ho⟩ := H.out
      go_roundg (J s k n + 1 - (j + 1))
      case measure => omega
      case rel =>
        refine ⟨j + 1, rfl, by omega, ?_, ?_⟩
        · rw [w64_step, show ((j + 1 : Nat) : Int) = (j : Int) + 1 from rfl, ← Int.add_assoc]
          exact block_setCell (w := wr.drewN nq) hbr 1 _
        · exact (ho.drewN nq).setCell rfl _
theorem foldV_in (x n : Int) (h0 : 0 ≤ x) (h1 : x ≤ 18446744073709551615) : 0 ≤ foldV x n ∧ foldV x n ≤ 18446744073709551615 := by
  unfold foldV M.rem
  split
  · split
    · omega
    · have := Nat.mod_le x.toNat n.toNat; omega
  · omega
theorem drawV_lo (s k n : Int) : 0 ≤ drawV s k n := (foldV_in _ _ (wordI_lo _ _) (wordI_hi _ _)).1
theorem drawV_lt (s k n : Int) (n0 : 1 ≤ n) : drawV s k n < n := by
  unfold drawV foldV M.rem
  split
  · rw [if_neg (by omega)]
    have := Nat.mod_lt (wordI s (wrap64 (k + J s k n))).toNat (show 0 < n.toNat by omega)
    omega
  · omega
theorem w64_of {k : Int} (k0 : -9223372036854775808 ≤ k) (k1 : k ≤ 9223372036854775807) : wrap64 k = k := by unfold wrap64; omega
theorem below_new (s k n : Int) (w : World) (T : TypeId) (n0 : 0 ≤ n) (n1 : n ≤ 18446744073709551615) (k0 : -9223372036854775808 ≤ k) (k1 : k ≤ 9223372036854775807) :
    Calls Tryz.prog 122 #[.pointer (some ⟨w.heap.size, 0, none⟩), .int .u64 n] (w.alloc (.cells #[.int .u64 s, .int .i64 k] T)) fun e w' =>
      e = .returned (.int .u64 (drawV s k n)) ∧ (w'.cell? ⟨w.heap.size, 1, none⟩ = some (.int .i64 (drawK s k n)) ∧ Below w.heap.size w w') := by
  have hk := w64_of k0 k1
  refine (below_calls w.heap.size T s k n _ n0 n1 (by rw [hk]; exact heap_alloc_new w _)).mono ?_
  rintro e w' ⟨rfl, hb, ho⟩
  exact ⟨rfl, by simpa using cell_of_block hb 1, ((Below.refl _ _).alloc (Nat.le_refl _) _).trans (ho.below (Nat.le_refl _))⟩
theorem Below_calls (s k n : Int) (w : World) (k0 : -9223372036854775808 ≤ k) (k1 : k ≤ 9223372036854775807) (n0 : 1 ≤ n) (n1 : n ≤ 9223372036854775807) :
    Calls Tryz.prog 107 #[.int .u64 s, .int .i64 k, .int .i64 n] w fun e w' => e = .returned (.tuple #[.int .i64 (drawV s k n), .int .i64 (drawK s k n), .int .i64 0]) ∧ Below w.heap.size w w' := by
  have d0 := drawV_lo s k n
  have d1 := drawV_lt s k n n0
  go_enter Tryz.func107, Tryz.ntmps107
  go_wp2_with (go_at_call 122; refine (below_new s k n w _ (by omega) (by omega) k0 k1).mono ?_; rintro e w' ⟨rfl, hc, hbl⟩)
  go_quiet (fail)
  go_wp2
  go_ret3
  exact ⟨rfl, below_drewN' ‹_› _⟩
end
end Go.Proofs.YtocbddajakbemaaGreat
namespace Go.Proofs.YtocbddajakbemaaGreat
section
open Go.RowKit
def Died (w w' : World) (B rb : Nat) (S : Fix) (D : Dyn) : Prop := ∃ D' st ls cs, MOk w' B rb S D' st ls cs ∧ D'.fuel = D.fuel ∧ Fr (mF rb D) w (mF rb D') w'
def Cmp.get (c : Cmp) (x : Nat) : Int := if x = 0 then c.v0 else if x = 1 then c.v1 else if x = 2 then c.v2 else c.v3
theorem comp_num {w : World} {B g cap : Nat} {cs : List Cmp} (h : w.ownsRow B 48 5 (.slice (some ⟨g, 0, none⟩) cs.length cap) cs.length (comps cs)) {i : Nat} {c : Cmp} (hc : cs[i]? = some c) (x : Nat) (hx : x ≤ 3) : w.cell? ⟨g, i * 5 + 1 + x, none⟩ = some (.int .i64 (c.get x)) := by
  obtain ⟨c0, c1, c2, c3, c4⟩ := own_comp_at h hc
  rcases (show x = 0 ∨ x = 1 ∨ x = 2 ∨ x = 3 by omega) with rfl | rfl | rfl | rfl
  · exact c1
  · exact c2
  · exact c3
  · exact c4
theorem fr_pop {w w' : World} {rb : Nat} {D : Dyn} {sv : Value} (e : sv.ownBlock = D.sv.ownBlock) (h : Only rb w w') : Fr (mF rb D) w (mF rb { D with sv := sv }) w' := Fr.of_head h e rfl rfl
section
variable (B rb : Nat) (S : Fix) (D : Dyn) (st ls : List Int) (cs : List Cmp) (w : World) (k : Int)
theorem get_ok (x : Nat) (h : MOk w B rb S D (st ++ [(x : Int)]) ls cs) (hl : st.length ≤ 1000000) (hf : Fine cs) (c : Cmp) (hc : cs[idxC cs k]? = some c) (hx : x ≤ 3) :
    Calls Tryz.prog 73 #[.pointer (some ⟨rb, 0, none⟩), .int .i64 k] w fun e w' => e = .returned (.tuple #[]) ∧ Went w w' B rb S D D.at_ D.drawn (st ++ [c.get x]) ls cs := by
  have hn : idxC cs k < cs.length := (List.getElem?_eq_some_iff.1 hc).1
  obtain ⟨g, cap, cur, ecv, -⟩ := own_shape h.cmp (by omega)
  have P := pop_ok B rb S D st ls x cs w h
  have H := Lib.hid (And.intro hl (And.intro hf (And.intro hc (And.intro hn (And.intro hx ecv))))); clear h hl hf hc hn hx ecv
  go_enter Tryz.func73, Tryz.ntmps73
  go_wp2_with fail
  refine P.mono ?_
  rintro e w1 ⟨rfl, sv, h1, h2, h3⟩
  have N := number_ok B rb S { D with sv := sv } st ls cs w1 k g cap H.out.2.2.2.2.2 h1 H.out.2.1 H.out.2.2.2.1 x H.out.2.2.2.2.1
  have H1 := Lib.hid (And.intro h1 (And.intro h2 h3)); clear h1 h2 h3
  go_wp2_with fail
  refine N.mono ?_
  rintro e w2 ⟨rfl, hb⟩
  have hm := H1.out.1.below hb
  have hcm := hm.cmp
  have ecv2 : ({ D with sv := sv } : Dyn).cv = .slice (some ⟨g, 0, none⟩) cs.length cap := H.out.2.2.2.2.2
  rw [ecv2] at hcm
  have cx := comp_num hcm H.out.2.2.1 x H.out.2.2.2.2.1
  have Q := push_ok B rb S { D with sv := sv } st ls (c.get x) cs w2 hm H.out.1
  have H2 := Lib.hid hb; clear hb hm hcm ecv2
  go_wp2_with fail
  refine Q.mono ?_
  rintro e w3 ⟨rfl, hh⟩
  have HH := Lib.hid hh; clear hh
  go_wp2_with fail
  go_end0
  exact ⟨rfl, Went.of_push (D := { D with sv := sv }) (D0 := D) HH.out rfl ((fr_pop H1.out.2.1 H1.out.2.2).trans (Fr.of_below H2.out _))⟩
theorem get_bad (x : Int) (n : Nat) (h : MOk w B rb S D (st ++ [x]) ls cs) (hf : Fine cs) (hn : ¬ idxC cs k < cs.length ∧ n = 140 ∨ idxC cs k < cs.length ∧ (x < 0 ∨ 3 < x) ∧ n = 141) :
    Calls Tryz.prog 73 #[.pointer (some ⟨rb, 0, none⟩), .int .i64 k] w fun e w' => e = bad n ∧ Died w w' B rb S D := by
  have P := pop_ok B rb S D st ls x cs w h
  have H := Lib.hid (And.intro hf hn); clear h hf hn
  go_enter Tryz.func73, Tryz.ntmps73
  go_wp2_with fail
  refine P.mono ?_
  rintro e w1 ⟨rfl, sv, h1, h2, h3⟩
  have N : Calls Tryz.prog 106 #[.pointer (some ⟨rb, 0, none⟩), .int .i64 k, .int .i64 x] w1 fun e w' => e = bad n ∧ Below w1.heap.size w1 w' := by
    rcases H.out.2 with ⟨hn, rfl⟩ | ⟨hn, hx, rfl⟩
    · exact number_none B rb S _ st ls cs w1 k x h1 H.out.1 hn
    · exact number_out B rb S _ st ls cs w1 k x h1 H.out.1 hn hx
  have H1 := Lib.hid (And.intro h1 (And.intro h2 h3)); clear h1 h2 h3
  go_wp2_with fail
  refine N.mono ?_
  rintro e w2 ⟨rfl, hb⟩
  have H2 := Lib.hid hb; clear hb
  unfold bad
  go_wp2_with fail
  exact ⟨rfl, rfl, _, _, _, _, H1.out.1.below H2.out, rfl, (fr_pop H1.out.2.1 H1.out.2.2).trans (Fr.of_below H2.out _)⟩
theorem bool_ok (x a : Int) (h : MOk w B rb S D (st ++ [x]) ls cs) (hl : st.length ≤ 1000000) :
    Calls Tryz.prog 79 #[.pointer (some ⟨rb, 0, none⟩), .int .i64 a] w fun e w' => e = .returned (.tuple #[]) ∧ Went w w' B rb S D D.at_ D.drawn (st ++ [tr (x != 0)]) ls cs := by
  have P := pop_ok B rb S D st ls x cs w h
  have T := fun W => truth_ok (x != 0) W
  have H := Lib.hid hl; clear h hl
  go_enter Tryz.func79, Tryz.ntmps79
  go_wp2_with fail
  refine P.mono ?_
  rintro e w1 ⟨rfl, sv, h1, h2, h3⟩
  have Q := push_ok B rb S { D with sv := sv } st ls (tr (x != 0)) cs w1 h1 H.out
  have H1 := Lib.hid (And.intro h2 h3); clear h1 h2 h3
  go_wp2_with fail
  refine (T _).mono ?_
  rintro e w2 ⟨rfl, rfl⟩
  go_wp2_with fail
  refine Q.mono ?_
  rintro e w3 ⟨rfl, hh⟩
  have HH := Lib.hid hh; clear hh
  go_wp2_with fail
  go_end0
  exact ⟨rfl, Went.of_push (D := { D with sv := sv }) (D0 := D) HH.out rfl (fr_pop H1.out.1 H1.out.2)⟩
end
end
end Go.Proofs.YtocbddajakbemaaGreat
namespace Go.Proofs.YtocbddajakbemaaGreat
section
open Go.RowKit
section
variable (B rb : Nat) (S : Fix) (D : Dyn) (st ls : List Int) (cs : List Cmp) (w : World)
theorem do1_ok (a : Nat) (ha : a < 10) (x : Int) (h : MOk w B rb S D (st ++ [x]) ls cs) (hl : st.length ≤ 1000000) (he : evE a 0 = 0) :
    Calls Tryz.prog 78 #[.pointer (some ⟨rb, 0, none⟩), .int .i64 (a : Nat)] w fun e w' => e = .returned (.tuple #[]) ∧ Went w w' B rb S D D.at_ D.drawn (st ++ [evV a x 0]) ls cs := by
  have P := pop_ok B rb S D st ls x cs w h
  have T := fun W => Eval_ok a (by omega) x 0 W
  rw [he] at T
  have SO := fun W => stop_ok W
  have k0 : decide ((10 : Int) ≤ (a : Int)) = false := decide_eq_false (by omega)
  have k1 : (a : Int) % 256 = (a : Nat) := by omega
  generalize evV a x 0 = v at T ⊢
  have H := Lib.hid hl; clear h hl ha he
  go_enter Tryz.func78, Tryz.ntmps78
  go_wp2_with fail
  refine P.mono ?_
  rintro e w1 ⟨rfl, sv, h1, h2, h3⟩
  have Q := push_ok B rb S { D with sv := sv } st ls v cs w1 h1 H.out
  have H1 := Lib.hid (And.intro h2 h3); clear h1 h2 h3
  go_wp2_with fail
  refine (T _).mono ?_
  rintro e w2 ⟨rfl, rfl⟩
  go_wp2_with fail
  refine (SO _).mono ?_
  rintro e w2 ⟨rfl, rfl⟩
  go_wp2_with fail
  refine Q.mono ?_
  rintro e w3 ⟨rfl, hh⟩
  have HH := Lib.hid hh; clear hh
  go_wp2_with fail
  go_end0
  exact ⟨rfl, Went.of_push (D := { D with sv := sv }) (D0 := D) HH.out rfl (fr_pop H1.out.1 H1.out.2)⟩
theorem do2_ok (a : Nat) (ha : 10 ≤ a) (ha2 : a < 256) (x y : Int) (h : MOk w B rb S D (st ++ [x] ++ [y]) ls cs) (hl : st.length ≤ 1000000) (he : evE a y = 0) :
    Calls Tryz.prog 78 #[.pointer (some ⟨rb, 0, none⟩), .int .i64 (a : Nat)] w fun e w' => e = .returned (.tuple #[]) ∧ Went w w' B rb S D D.at_ D.drawn (st ++ [evV a x y]) ls cs := by
  have P := pop_ok B rb S D (st ++ [x]) ls y cs w h
  have T := fun W => Eval_ok a (by omega) x y W
  rw [he] at T
  have SO := fun W => stop_ok W
  have k0 : decide ((10 : Int) ≤ (a : Int)) = true := decide_eq_true (by omega)
  have k1 : (a : Int) % 256 = (a : Nat) := by omega
  generalize evV a x y = v at T ⊢
  have H := Lib.hid hl; clear h hl ha he ha2
  go_enter Tryz.func78, Tryz.ntmps78
  go_wp2_with fail
  refine P.mono ?_
  rintro e w1 ⟨rfl, sv, h1, h2, h3⟩
  have P2 := pop_ok B rb S { D with sv := sv } st ls x cs w1 h1
  have H1 := Lib.hid (And.intro h2 h3); clear h1 h2 h3
  go_wp2_with fail
  refine P2.mono ?_
  rintro e w2 ⟨rfl, sv2, h1, h2, h3⟩
  have Q := push_ok B rb S { D with sv := sv2 } st ls v cs w2 h1 H.out
  have H2 := Lib.hid (And.intro h2 h3); clear h1 h2 h3
  go_wp2_with fail
  refine (T _).mono ?_
  rintro e w2 ⟨rfl, rfl⟩
  go_wp2_with fail
  refine (SO _).mono ?_
  rintro e w2 ⟨rfl, rfl⟩
  go_wp2_with fail
  refine Q.mono ?_
  rintro e w3 ⟨rfl, hh⟩
  have HH := Lib.hid hh; clear hh
  go_wp2_with fail
  go_end0
  exact ⟨rfl, Went.of_push (D := { D with sv := sv2 }) (D0 := D) HH.out rfl (fr_pop (H2.out.1.trans H1.out.1) (H1.out.2.trans H2.out.2))⟩
theorem do2_bad (a : Nat) (ha : 10 ≤ a) (ha2 : a < 256) (x y : Int) (h : MOk w B rb S D (st ++ [x] ++ [y]) ls cs) (he : evE a y ≠ 0) :
    Calls Tryz.prog 78 #[.pointer (some ⟨rb, 0, none⟩), .int .i64 (a : Nat)] w fun e w' => e = bad (evE a y) ∧ Died w w' B rb S D := by
  have P := pop_ok B rb S D (st ++ [x]) ls y cs w h
  have T := fun W => Eval_ok a (by omega) x y W
  generalize evE a y = E at he T ⊢
  have SO := fun W => stop_bad E he W
  have k0 : decide ((10 : Int) ≤ (a : Int)) = true := decide_eq_true (by omega)
  have k1 : (a : Int) % 256 = (a : Nat) := by omega
  generalize evV a x y = v at T
  clear h ha he ha2
  go_enter Tryz.func78, Tryz.ntmps78
  go_wp2_with fail
  refine P.mono ?_
  rintro e w1 ⟨rfl, sv, h1, h2, h3⟩
  have P2 := pop_ok B rb S { D with sv := sv } st ls x cs w1 h1
  have H1 := Lib.hid (And.intro h2 h3); clear h1 h2 h3
  go_wp2_with fail
  refine P2.mono ?_
  rintro e w2 ⟨rfl, sv2, h1, h2, h3⟩
  have H2 := Lib.hid (And.intro h1 (And.intro h2 h3)); clear h1 h2 h3
  go_wp2_with fail
  refine (T _).mono ?_
  rintro e w3 ⟨rfl, rfl⟩
  go_wp2_with fail
  refine (SO _).mono ?_
  rintro e w3 ⟨rfl, rfl⟩
  unfold bad
  go_wp2_with fail
  exact ⟨rfl, rfl, _, _, _, _, H2.out.1, rfl, fr_pop (H2.out.2.1.trans H1.out.1) (H1.out.2.trans H2.out.2.2)⟩
theorem MOk.stored {w : World} {B rb : Nat} {S : Fix} {D : Dyn} {st ls : List Int} {cs : List Cmp} {g cap : Nat} (h : MOk w B rb S D st ls cs) (elv : D.lv = .slice (some ⟨g, 0, none⟩) ls.length cap) (i : Nat) (x : Int) (hi : i < ls.length) : MOk (w.setCell ⟨g, i, none⟩ (.int .i64 x)) B rb S D st (ls.set i x) cs ∧ Only g w (w.setCell ⟨g, i, none⟩ (.int .i64 x)) := by
  have ho : Only g w (w.setCell ⟨g, i, none⟩ (.int .i64 x)) := (Only.refl g w).setCell (p := ⟨g, i, none⟩) rfl _
  have hlb : D.lv.ownBlock = some g := by rw [elv]; rfl
  have hrg : rb ≠ g := fun e => own_neq h.lcl h.blk (by decide) (by rw [hlb, e])
  have hlc := h.lcl
  rw [elv] at hlc
  have hs := (hlc.stored i (.int .i64 x)).1
  refine ⟨⟨(ho.block rb hrg).trans h.blk, own_only h.stk ho (fun e => h.sl g e hlb), ?_, own_only h.cmp ho (fun e => own_own_ne h.cmp h.lcl (by decide) e hlb), h.sl, h.base⟩, ho⟩
  rw [elv, List.length_set]
  have e : ints (ls.set i x) = (ints ls).set i (.int .i64 x) := by unfold ints; rw [List.map_set]
  rw [e]
  exact hs
end
end
end Go.Proofs.YtocbddajakbemaaGreat
namespace Go.Proofs.YtocbddajakbemaaGreat
section
open Go.RowKit
def Cmp.set (c : Cmp) (x : Nat) (v : Int) : Cmp := if x = 0 then { c with v0 := v } else if x = 1 then { c with v1 := v } else if x = 2 then { c with v2 := v } else { c with v3 := v }
theorem comps_set {l : List Cmp} {i : Nat} {c : Cmp} (h : l[i]? = some c) (x : Nat) (hx : x ≤ 3) (v : Int) : comps (l.set i (c.set x v)) = (comps l).set (i * 5 + 1 + x) (.int .i64 v) := by
  apply List.ext_getElem?
  intro q
  have hi : i < l.length := (List.getElem?_eq_some_iff.1 h).1
  by_cases hq : q < l.length * 5
  · have hd : q / 5 < l.length := by omega
    have hm : q % 5 < 5 := Nat.mod_lt _ (by omega)
    have e : q = q / 5 * 5 + q % 5 := by omega
    obtain ⟨d, hd2⟩ : ∃ d, l[q / 5]? = some d := ⟨_, List.getElem?_eq_getElem hd⟩
    have r1 := comps_at hd2 (q % 5) hm
    by_cases hqi : q / 5 = i
    · have hs : (l.set i (c.set x v))[q / 5]? = some (c.set x v) := by rw [hqi, List.getElem?_set_self hi]
      have r2 := comps_at hs (q % 5) hm
      rw [← e] at r1 r2
      rw [r2]
      rw [hqi, h] at hd2
      injection hd2 with hd2
      subst hd2
      by_cases hqx : q = i * 5 + 1 + x
      · rw [hqx, List.getElem?_set_self (by rw [comps_len]; omega)]
        have em : (i * 5 + 1 + x) % 5 = 1 + x := by omega
        rw [em]
        rcases (show x = 0 ∨ x = 1 ∨ x = 2 ∨ x = 3 by omega) with rfl | rfl | rfl | rfl <;> rfl
      · rw [List.getElem?_set_ne (fun e => hqx e.symm), r1]
        have hm2 : q % 5 ≠ 1 + x := by omega
        rcases (show q % 5 = 0 ∨ q % 5 = 1 ∨ q % 5 = 2 ∨ q % 5 = 3 ∨ q % 5 = 4 by omega) with e0 | e0 | e0 | e0 | e0 <;> rw [e0] at hm2 ⊢ <;>
          rcases (show x = 0 ∨ x = 1 ∨ x = 2 ∨ x = 3 by omega) with rfl | rfl | rfl | rfl <;> first | rfl | exact absurd rfl hm2
    · have hs : (l.set i (c.set x v))[q / 5]? = some d := by rw [List.getElem?_set_ne (fun e => hqi e.symm)]; exact hd2
      have r2 := comps_at hs (q % 5) hm
      rw [← e] at r1 r2
      rw [r2, List.getElem?_set_ne (by omega), r1]
  · rw [List.getElem?_eq_none (by rw [comps_len, List.length_set]; omega), List.getElem?_eq_none (by rw [List.length_set, comps_len]; omega)]
theorem MOk.putted {w : World} {B rb : Nat} {S : Fix} {D : Dyn} {st ls : List Int} {cs : List Cmp} {g cap : Nat} (h : MOk w B rb S D st ls cs) (ecv : D.cv = .slice (some ⟨g, 0, none⟩) cs.length cap) {i : Nat} {c : Cmp} (hc : cs[i]? = some c) (x : Nat) (hx : x ≤ 3) (v : Int) :
    MOk (w.setCell ⟨g, i * 5 + 1 + x, none⟩ (.int .i64 v)) B rb S D st ls (cs.set i (c.set x v)) ∧ Only g w (w.setCell ⟨g, i * 5 + 1 + x, none⟩ (.int .i64 v)) := by
  have ho : Only g w (w.setCell ⟨g, i * 5 + 1 + x, none⟩ (.int .i64 v)) := (Only.refl g w).setCell (p := ⟨g, i * 5 + 1 + x, none⟩) rfl _
  have hcb : D.cv.ownBlock = some g := by rw [ecv]; rfl
  have hrg : rb ≠ g := fun e => own_neq h.cmp h.blk (by decide) (by rw [hcb, e])
  have hcm := h.cmp
  rw [ecv] at hcm
  have hs := (hcm.stored (i * 5 + 1 + x) (.int .i64 v)).1
  refine ⟨⟨(ho.block rb hrg).trans h.blk, own_only h.stk ho (fun e => own_own_ne h.stk h.cmp (by decide) e hcb), own_only h.lcl ho (fun e => own_own_ne h.lcl h.cmp (by decide) e hcb), ?_, h.sl, h.base⟩, ho⟩
  rw [ecv, List.length_set, comps_set hc x hx v]
  exact hs
theorem fr_in {w w' : World} {g : Nat} {F : List Nat} (h : Only g w w') (hg : g ∈ F) : Fr F w F w' := ⟨h.os, h.tape, h.output, by rw [h.size]; exact Nat.le_refl _, fun q hq hn => h.block q (fun e => hn (by rw [e]; exact hg)), fun q hq => Or.inl hq⟩
section
variable (B rb : Nat) (S : Fix) (D : Dyn) (st ls : List Int) (cs : List Cmp) (w : World)
theorem put_ok (k : Int) (x : Nat) (v : Int) (h : MOk w B rb S D (st ++ [(x : Int)] ++ [v]) ls cs) (hf : Fine cs) (c : Cmp) (hc : cs[idxC cs k]? = some c) (hx : x ≤ 3) :
    Calls Tryz.prog 74 #[.pointer (some ⟨rb, 0, none⟩), .int .i64 k] w fun e w' => e = .returned (.tuple #[]) ∧ Went w w' B rb S D D.at_ D.drawn st ls (cs.set (idxC cs k) (c.set x v)) := by
  have hn : idxC cs k < cs.length := (List.getElem?_eq_some_iff.1 hc).1
  obtain ⟨g, cap, cur, ecv, -⟩ := own_shape h.cmp (by omega)
  have P := pop_ok B rb S D (st ++ [(x : Int)]) ls v cs w h
  have H := Lib.hid (And.intro hf (And.intro hc (And.intro hn (And.intro hx ecv)))); clear h hf hc hn hx ecv
  go_enter Tryz.func74, Tryz.ntmps74
  go_wp2_with fail
  refine P.mono ?_
  rintro e w1 ⟨rfl, sv, h1, h2, h3⟩
  have P2 := pop_ok B rb S { D with sv := sv } st ls x cs w1 h1
  have H1 := Lib.hid (And.intro h2 h3); clear h1 h2 h3
  go_wp2_with fail
  refine P2.mono ?_
  rintro e w2 ⟨rfl, sv2, h1, h2, h3⟩
  have N := number_ok B rb S { D with sv := sv2 } st ls cs w2 k g cap H.out.2.2.2.2 h1 H.out.1 H.out.2.2.1 x H.out.2.2.2.1
  have H2 := Lib.hid (And.intro h1 (And.intro h2 h3)); clear h1 h2 h3
  go_wp2_with fail
  refine N.mono ?_
  rintro e w3 ⟨rfl, hb⟩
  have hm := H2.out.1.below hb
  have hcm := hm.cmp
  have ecv2 : ({ D with sv := sv2 } : Dyn).cv = .slice (some ⟨g, 0, none⟩) cs.length cap := H.out.2.2.2.2
  have hput := hm.putted ecv2 H.out.2.1 x H.out.2.2.2.1 v
  rw [ecv2] at hcm
  have cx := comp_num hcm H.out.2.1 x H.out.2.2.2.1
  have fx := hcm.frozenAt (idxC cs k * 5 + 1 + x)
  have HP := Lib.hid (And.intro hput hb); clear hput hb hm hcm ecv2
  go_wp2_with fail
  go_end0
  refine ⟨rfl, _, HP.out.1.1, rfl, rfl, rfl, ?_⟩
  refine ((fr_pop (D := D) (H2.out.2.1.trans H1.out.1) (H1.out.2.trans H2.out.2.2)).trans (Fr.of_below HP.out.2 _)).trans (fr_in HP.out.1.2 ?_)
  unfold mF
  rw [show ({ D with sv := sv2 } : Dyn).cv = .slice (some ⟨g, 0, none⟩) cs.length cap from H.out.2.2.2.2]
  simp [Value.ownBlock]
theorem put_bad (k x v : Int) (n : Nat) (h : MOk w B rb S D (st ++ [x] ++ [v]) ls cs) (hf : Fine cs) (hn : ¬ idxC cs k < cs.length ∧ n = 140 ∨ idxC cs k < cs.length ∧ (x < 0 ∨ 3 < x) ∧ n = 141) :
    Calls Tryz.prog 74 #[.pointer (some ⟨rb, 0, none⟩), .int .i64 k] w fun e w' => e = bad n ∧ Died w w' B rb S D := by
  have P := pop_ok B rb S D (st ++ [x]) ls v cs w h
  have H := Lib.hid (And.intro hf hn); clear h hf hn
  go_enter Tryz.func74, Tryz.ntmps74
  go_wp2_with fail
  refine P.mono ?_
  rintro e w1 ⟨rfl, sv, h1, h2, h3⟩
  have P2 := pop_ok B rb S { D with sv := sv } st ls x cs w1 h1
  have H1 := Lib.hid (And.intro h2 h3); clear h1 h2 h3
  go_wp2_with fail
  refine P2.mono ?_
  rintro e w2 ⟨rfl, sv2, h1, h2, h3⟩
  have N : Calls Tryz.prog 106 #[.pointer (some ⟨rb, 0, none⟩), .int .i64 k, .int .i64 x] w2 fun e w' => e = bad n ∧ Below w2.heap.size w2 w' := by
    rcases H.out.2 with ⟨hn, rfl⟩ | ⟨hn, hx, rfl⟩
    · exact number_none B rb S _ st ls cs w2 k x h1 H.out.1 hn
    · exact number_out B rb S _ st ls cs w2 k x h1 H.out.1 hn hx
  have H2 := Lib.hid (And.intro h1 (And.intro h2 h3)); clear h1 h2 h3
  go_wp2_with fail
  refine N.mono ?_
  rintro e w3 ⟨rfl, hb⟩
  have HB := Lib.hid hb; clear hb
  unfold bad
  go_wp2_with fail
  exact ⟨rfl, rfl, _, _, _, _, H2.out.1.below HB.out, rfl, (fr_pop (H2.out.2.1.trans H1.out.1) (H1.out.2.trans H2.out.2.2)).trans (Fr.of_below HB.out _)⟩
end
end
end Go.Proofs.YtocbddajakbemaaGreat
namespace Go.Proofs.YtocbddajakbemaaGreat
section
open Go.RowKit
section
variable (B rb : Nat) (S : Fix) (D : Dyn) (st ls : List Int) (cs : List Cmp) (w : World)
set_option maxRecDepth 100000 in
set_option maxHeartbeats 1600000 in
theorem store_ok (i : Nat) (x : Int) (h : MOk w B rb S D (st ++ [x]) ls cs) (hi : i < ls.length) :
    Calls Tryz.prog 72 #[.pointer (some ⟨rb, 0, none⟩), .int .i64 (i : Nat)] w fun e w' => e = .returned (.tuple #[]) ∧ Went w w' B rb S D D.at_ D.drawn st (ls.set i x) cs := by
  obtain ⟨g, cap, cur, elv, -⟩ := own_shape h.lcl (by omega)
  have c12 : w.cell? ⟨rb, 12, none⟩ = some D.lv := (h.cells.1 12).trans rfl
  rw [elv] at c12
  have P := pop_ok B rb S D st ls x cs w.drew ⟨h.blk, h.stk, h.lcl, h.cmp, h.sl, h.base⟩
  have P2 := P.mono (fun e w1 hh => (show e = .returned (.int .i64 x) ∧ w1.cell? ⟨rb, 12, none⟩ = some (.slice (some ⟨g, 0, none⟩) ls.length cap) ∧ (∃ u, w1.cell? ⟨g, i, none⟩ = some u) ∧ w1.frozen? ⟨g, i, none⟩ = false ∧ Hid (Went w (w1.setCell ⟨g, i, none⟩ (.int .i64 x)) B rb S D D.at_ D.drawn st (ls.set i x) cs) from by
    obtain ⟨rfl, sv, h1, h2, h3⟩ := hh
    have hlc := h1.lcl
    have elv1 : ({ D with sv := sv } : Dyn).lv = .slice (some ⟨g, 0, none⟩) ls.length cap := elv
    have hst := h1.stored elv1 i x hi
    rw [elv1] at hlc
    refine ⟨rfl, (h1.cells.1 12).trans (by rw [← elv]; rfl), ⟨_, own_ints_at hlc (List.getElem?_eq_getElem hi)⟩, hlc.frozenAt i, Lib.hid ⟨_, hst.1, rfl, rfl, rfl, ?_⟩⟩
    refine ((Fr.of_only (Only.refl rb w).drew).wide (F' := mF rb D) (by intro q hq; simp at hq; subst hq; simp [mF]) |> fun h => (⟨h.os, h.tape, h.output, h.size, h.block, fun q hq => Or.inl hq⟩ : Fr (mF rb D) w (mF rb D) w.drew)).trans ((fr_pop h2 h3).trans (fr_in hst.2 ?_))
    unfold mF
    rw [elv1]
    simp [Value.ownBlock]))
  obtain ⟨n, en⟩ : ∃ n, n = ls.length := ⟨_, rfl⟩
  rw [← en] at c12 P2 hi
  have i0 : (0 : Int) ≤ (i : Int) := by omega
  have i1 : (i : Int) < (n : Int) := by omega
  clear h P elv en hi
  go_enter Tryz.func72, Tryz.ntmps72
  go_wp2_with fail
  go_region_with ((refine P2.mono ?_; rintro e w1 ⟨rfl, y1, ⟨u, y2⟩, y3, y4⟩))
  all_goals (go_wp2_with fail; go_end0; exact ⟨rfl, y4.out⟩)
set_option maxRecDepth 100000 in
set_option maxHeartbeats 1600000 in
theorem rand_ok (n a : Int) (h : MOk w B rb S D (st ++ [n]) ls cs) (hl : st.length ≤ 1000000) (n0 : 1 ≤ n) (n1 : n ≤ 2147483648) (d0 : -9223372036854775808 ≤ D.drawn) (d1 : D.drawn ≤ 9223372036854775807) :
    Calls Tryz.prog 77 #[.pointer (some ⟨rb, 0, none⟩), .int .i64 a] w fun e w' => e = .returned (.tuple #[]) ∧ Went w w' B rb S D D.at_ (drawK S.s D.drawn n) (st ++ [drawV S.s D.drawn n]) ls cs := by
  have P := pop_ok B rb S D st ls n cs w h
  have SO := fun W => stop_ok W
  have BL := fun W => Below_calls S.s D.drawn n W d0 d1 n0 (by omega)
  have k0 : decide (n < 1) = false := decide_eq_false (by omega)
  have k1 : decide (2147483648 < n) = false := decide_eq_false (by omega)
  generalize drawK S.s D.drawn n = dk at BL ⊢
  generalize drawV S.s D.drawn n = dv at BL ⊢
  have H := Lib.hid hl; clear h hl n0 n1 d0 d1
  go_enter Tryz.func77, Tryz.ntmps77
  go_wp2_with fail
  refine P.mono ?_
  rintro e w1 ⟨rfl, sv, h1, h2, h3⟩
  have c13 : w1.cell? ⟨rb, 13, none⟩ = some (.int .u64 S.s) := (h1.cells.1 13).trans rfl
  have c14 : w1.cell? ⟨rb, 14, none⟩ = some (.int .i64 D.drawn) := (h1.cells.1 14).trans rfl
  have BLd := BL w1.drew
  have H1 := Lib.hid (And.intro h1 (And.intro h2 h3)); clear h1 h2 h3
  go_wp2_with fail
  go_region_with ((refine BLd.mono ?_; rintro e w2 ⟨rfl, hb⟩))
  all_goals (
    have hb2 : Below w1.heap.size w1 w2 := (Below.refl _ w1).drew.trans hb
    have hm := H1.out.1.below hb2
    have c14' : w2.cell? ⟨rb, 14, none⟩ = some (.int .i64 D.drawn) := (hm.cells.1 14).trans rfl
    have f14 := hm.cells.2 14
    have ho : Only rb w2 (w2.setCell ⟨rb, 14, none⟩ (.int .i64 dk)) := (Only.refl rb w2).setCell (p := ⟨rb, 14, none⟩) rfl _
    have hm2 : MOk (w2.setCell ⟨rb, 14, none⟩ (.int .i64 dk)) B rb S { D with sv := sv, drawn := dk } st ls cs := hm.head ho (block_setCell hm.blk 14 _) rfl rfl rfl
    have Q := push_ok B rb S { D with sv := sv, drawn := dk } st ls dv cs _ hm2 H.out
    have HM := Lib.hid (And.intro hb2 ho); clear hb hb2 hm hm2 ho
    go_wp2_with fail
    refine (SO _).mono ?_
    rintro e w3 ⟨rfl, rfl⟩
    go_wp2_with fail
    refine Q.mono ?_
    rintro e w3 ⟨rfl, hh⟩
    have HH := Lib.hid hh; clear hh
    go_wp2_with fail
    go_end0
    exact ⟨rfl, Went.of_push (D := { D with sv := sv, drawn := dk }) (D0 := D) HH.out rfl (((fr_pop H1.out.2.1 H1.out.2.2).trans (Fr.of_below HM.out.1 _)).trans (Fr.of_head HM.out.2 rfl rfl rfl))⟩)
end
end
end Go.Proofs.YtocbddajakbemaaGreat
namespace Go.Proofs.YtocbddajakbemaaGreat
section
open Go.RowKit
theorem rand_bad (B rb : Nat) (S : Fix) (D : Dyn) (st ls : List Int) (cs : List Cmp) (w : World) (n a : Int) (h : MOk w B rb S D (st ++ [n]) ls cs) (hn : n < 1 ∨ 2147483648 < n) :
    Calls Tryz.prog 77 #[.pointer (some ⟨rb, 0, none⟩), .int .i64 a] w fun e w' => e = bad 143 ∧ Died w w' B rb S D := by
  have P := pop_ok B rb S D st ls n cs w h
  have SB := fun W => stop_bad 143 (by decide) W
  clear h
  by_cases h1 : n < 1
  · have k0 : decide (n < 1) = true := decide_eq_true h1
    clear hn h1
    go_enter Tryz.func77, Tryz.ntmps77
    go_wp2_with fail
    refine P.mono ?_
    rintro e w1 ⟨rfl, sv, h1, h2, h3⟩
    have H1 := Lib.hid (And.intro h1 (And.intro h2 h3)); clear h1 h2 h3
    go_wp2_with fail
    refine (SB _).mono ?_
    rintro e w2 ⟨rfl, rfl⟩
    unfold bad
    go_wp2_with fail
    exact ⟨rfl, rfl, _, _, _, _, H1.out.1, rfl, fr_pop H1.out.2.1 H1.out.2.2⟩
  · have k0 : decide (n < 1) = false := decide_eq_false h1
    have k1 : decide (2147483648 < n) = true := decide_eq_true (by omega)
    clear hn h1
    go_enter Tryz.func77, Tryz.ntmps77
    go_wp2_with fail
    refine P.mono ?_
    rintro e w1 ⟨rfl, sv, h1, h2, h3⟩
    have H1 := Lib.hid (And.intro h1 (And.intro h2 h3)); clear h1 h2 h3
    go_wp2_with fail
    refine (SB _).mono ?_
    rintro e w2 ⟨rfl, rfl⟩
    unfold bad
    go_wp2_with fail
    exact ⟨rfl, rfl, _, _, _, _, H1.out.1, rfl, fr_pop H1.out.2.1 H1.out.2.2⟩
def dE : List MapEntry := [⟨.int .u8 1, .func (.func 70) #[] #[], 0⟩, ⟨.int .u8 2, .func (.func 71) #[] #[], 1⟩, ⟨.int .u8 3, .func (.func 72) #[] #[], 2⟩, ⟨.int .u8 4, .func (.func 73) #[] #[], 3⟩, ⟨.int .u8 5, .func (.func 74) #[] #[], 4⟩, ⟨.int .u8 6, .func (.func 75) #[] #[], 5⟩, ⟨.int .u8 7, .func (.func 76) #[] #[], 6⟩, ⟨.int .u8 8, .func (.func 77) #[] #[], 7⟩, ⟨.int .u8 9, .func (.func 78) #[] #[], 8⟩, ⟨.int .u8 10, .func (.func 79) #[] #[], 9⟩, ⟨.int .u8 11, .func (.func 80) #[] #[], 10⟩, ⟨.int .u8 12, .func (.func 81) #[] #[], 11⟩, ⟨.int .u8 13, .func (.func 82) #[] #[], 12⟩, ⟨.int .u8 14, .func (.func 83) #[] #[], 13⟩, ⟨.int .u8 15, .func (.func 84) #[] #[], 14⟩]
def setB (w : World) (r : Nat) (o : Obj) : World := { w with heap := w.heap.setIfInBounds r o }
def dW (w : World) : Nat → World
  | 0 => w.alloc (.map #[] 0)
  | n + 1 => setB (dW w n) w.heap.size (.map (dE.take (n + 1)).toArray (n + 1))
theorem dW_size (w : World) (n : Nat) : (dW w n).heap.size = w.heap.size + 1 := by
  induction n with
  | zero => show (w.heap.push _).size = _; simp
  | succ n ih => show ((dW w n).heap.setIfInBounds _ _).size = _; rw [Array.size_setIfInBounds]; exact ih
theorem dW_block (w : World) (n : Nat) (hn : n ≤ 15) : (dW w n).heap[w.heap.size]? = some (.map (dE.take n).toArray n) := by
  cases n with
  | zero => exact heap_alloc_new w _
  | succ n =>
    show ((dW w n).heap.setIfInBounds w.heap.size _)[w.heap.size]? = _
    rw [Array.getElem?_setIfInBounds, if_pos rfl, if_pos (by rw [dW_size]; omega)]
theorem dW_below (w : World) (n : Nat) : Below w.heap.size w (dW w n) := by
  induction n with
  | zero => exact (Below.refl _ _).alloc (Nat.le_refl _) _
  | succ n ih =>
    refine ih.trans ⟨rfl, rfl, rfl, ?_, fun k hk => ?_⟩
    · show _ ≤ ((dW w n).heap.setIfInBounds _ _).size; rw [Array.size_setIfInBounds]; exact Nat.le_refl _
    · show ((dW w n).heap.setIfInBounds _ _)[k]? = _
      rw [Array.getElem?_setIfInBounds, if_neg (by omega)]
theorem u8_under : Tryz.prog.underlying 5 = some (.int .u8) := Tryz.underlying5
theorem ins_step (w : World) (n : Nat) (k : Nat) (v : Value) (hn : n < 15) (hf : Instr.findNow (.int .u8) (.int .u8 (k : Nat)) (dE.take n) 0 = some none) (he : (dE.take n).toArray.push ⟨.int .u8 (k : Nat), v, n⟩ = (dE.take (n + 1)).toArray) :
    (Instr.mapUpdate 117 (.map (some w.heap.size)) (.int .u8 (k : Nat)) v).run Tryz.prog (dW w n) = .ok () (dW w (n + 1)) := by
  have hb := dW_block w n (by omega)
  have hf2 : Instr.findNow (.int .u8) (.int .u8 (k : Nat)) (dE.take n).toArray.toList 0 = some none := by simpa using hf
  have hd := u8_under
  have hk : MapKept.IsKey (.int .u8) (.int .u8 (k : Nat)) := rfl
  simp only [Instr.mapUpdate, Sem.run_bind, run_underlying Tryz.underlying117, MapKept.run_getObj_map hb, MapKept.run_checkKey hd hk, MapKept.run_findKey hd hf2, MapKept.run_setObj_map _ hb, Result.andThen]
  rw [he]
  rfl
set_option maxRecDepth 100000 in
set_option maxHeartbeats 1000000 in
theorem deeds_ok (w : World) :
    Calls Tryz.prog 49 #[] w fun e w' => e = .returned (.map (some w.heap.size)) ∧ w' = dW w 15 := by
  have hmk : (Instr.makeMap 117 none).run Tryz.prog w = .ok (.map (some w.heap.size)) (dW w 0) := rfl
  have h1 : (Instr.mapUpdate 117 (.map (some w.heap.size)) (.int .u8 1) (.func (.func 70) #[] #[])).run Tryz.prog (dW w 0) = .ok () (dW w 1) := ins_step w 0 1 _ (by decide) rfl rfl
  have h2 : (Instr.mapUpdate 117 (.map (some w.heap.size)) (.int .u8 2) (.func (.func 71) #[] #[])).run Tryz.prog (dW w 1) = .ok () (dW w 2) := ins_step w 1 2 _ (by decide) rfl rfl
  have h3 : (Instr.mapUpdate 117 (.map (some w.heap.size)) (.int .u8 3) (.func (.func 72) #[] #[])).run Tryz.prog (dW w 2) = .ok () (dW w 3) := ins_step w 2 3 _ (by decide) rfl rfl
  have h4 : (Instr.mapUpdate 117 (.map (some w.heap.size)) (.int .u8 4) (.func (.func 73) #[] #[])).run Tryz.prog (dW w 3) = .ok () (dW w 4) := ins_step w 3 4 _ (by decide) rfl rfl
  have h5 : (Instr.mapUpdate 117 (.map (some w.heap.size)) (.int .u8 5) (.func (.func 74) #[] #[])).run Tryz.prog (dW w 4) = .ok () (dW w 5) := ins_step w 4 5 _ (by decide) rfl rfl
  have h6 : (Instr.mapUpdate 117 (.map (some w.heap.size)) (.int .u8 6) (.func (.func 75) #[] #[])).run Tryz.prog (dW w 5) = .ok () (dW w 6) := ins_step w 5 6 _ (by decide) rfl rfl
  have h7 : (Instr.mapUpdate 117 (.map (some w.heap.size)) (.int .u8 7) (.func (.func 76) #[] #[])).run Tryz.prog (dW w 6) = .ok () (dW w 7) := ins_step w 6 7 _ (by decide) rfl rfl
  have h8 : (Instr.mapUpdate 117 (.map (some w.heap.size)) (.int .u8 8) (.func (.func 77) #[] #[])).run Tryz.prog (dW w 7) = .ok () (dW w 8) := ins_step w 7 8 _ (by decide) rfl rfl
  have h9 : (Instr.mapUpdate 117 (.map (some w.heap.size)) (.int .u8 9) (.func (.func 78) #[] #[])).run Tryz.prog (dW w 8) = .ok () (dW w 9) := ins_step w 8 9 _ (by decide) rfl rfl
  have h10 : (Instr.mapUpdate 117 (.map (some w.heap.size)) (.int .u8 10) (.func (.func 79) #[] #[])).run Tryz.prog (dW w 9) = .ok () (dW w 10) := ins_step w 9 10 _ (by decide) rfl rfl
  have h11 : (Instr.mapUpdate 117 (.map (some w.heap.size)) (.int .u8 11) (.func (.func 80) #[] #[])).run Tryz.prog (dW w 10) = .ok () (dW w 11) := ins_step w 10 11 _ (by decide) rfl rfl
  have h12 : (Instr.mapUpdate 117 (.map (some w.heap.size)) (.int .u8 12) (.func (.func 81) #[] #[])).run Tryz.prog (dW w 11) = .ok () (dW w 12) := ins_step w 11 12 _ (by decide) rfl rfl
  have h13 : (Instr.mapUpdate 117 (.map (some w.heap.size)) (.int .u8 13) (.func (.func 82) #[] #[])).run Tryz.prog (dW w 12) = .ok () (dW w 13) := ins_step w 12 13 _ (by decide) rfl rfl
  have h14 : (Instr.mapUpdate 117 (.map (some w.heap.size)) (.int .u8 14) (.func (.func 83) #[] #[])).run Tryz.prog (dW w 13) = .ok () (dW w 14) := ins_step w 13 14 _ (by decide) rfl rfl
  have h15 : (Instr.mapUpdate 117 (.map (some w.heap.size)) (.int .u8 15) (.func (.func 84) #[] #[])).run Tryz.prog (dW w 14) = .ok () (dW w 15) := ins_step w 14 15 _ (by decide) rfl rfl
  obtain ⟨W0, eW0⟩ : ∃ W, W = dW w 0 := ⟨_, rfl⟩
  obtain ⟨W1, eW1⟩ : ∃ W, W = dW w 1 := ⟨_, rfl⟩
  obtain ⟨W2, eW2⟩ : ∃ W, W = dW w 2 := ⟨_, rfl⟩
  obtain ⟨W3, eW3⟩ : ∃ W, W = dW w 3 := ⟨_, rfl⟩
  obtain ⟨W4, eW4⟩ : ∃ W, W = dW w 4 := ⟨_, rfl⟩
  obtain ⟨W5, eW5⟩ : ∃ W, W = dW w 5 := ⟨_, rfl⟩
  obtain ⟨W6, eW6⟩ : ∃ W, W = dW w 6 := ⟨_, rfl⟩
  obtain ⟨W7, eW7⟩ : ∃ W, W = dW w 7 := ⟨_, rfl⟩
  obtain ⟨W8, eW8⟩ : ∃ W, W = dW w 8 := ⟨_, rfl⟩
  obtain ⟨W9, eW9⟩ : ∃ W, W = dW w 9 := ⟨_, rfl⟩
  obtain ⟨W10, eW10⟩ : ∃ W, W = dW w 10 := ⟨_, rfl⟩
  obtain ⟨W11, eW11⟩ : ∃ W, W = dW w 11 := ⟨_, rfl⟩
  obtain ⟨W12, eW12⟩ : ∃ W, W = dW w 12 := ⟨_, rfl⟩
  obtain ⟨W13, eW13⟩ : ∃ W, W = dW w 13 := ⟨_, rfl⟩
  obtain ⟨W14, eW14⟩ : ∃ W, W = dW w 14 := ⟨_, rfl⟩
  obtain ⟨W15, eW15⟩ : ∃ W, W = dW w 15 := ⟨_, rfl⟩
  rw [← eW0] at hmk
  rw [← eW0, ← eW1] at h1
  rw [← eW1, ← eW2] at h2
  rw [← eW2, ← eW3] at h3
  rw [← eW3, ← eW4] at h4
  rw [← eW4, ← eW5] at h5
  rw [← eW5, ← eW6] at h6
  rw [← eW6, ← eW7] at h7
  rw [← eW7, ← eW8] at h8
  rw [← eW8, ← eW9] at h9
  rw [← eW9, ← eW10] at h10
  rw [← eW10, ← eW11] at h11
  rw [← eW11, ← eW12] at h12
  rw [← eW12, ← eW13] at h13
  rw [← eW13, ← eW14] at h14
  rw [← eW14, ← eW15] at h15
  rw [← eW15]
  clear eW0 eW1 eW2 eW3 eW4 eW5 eW6 eW7 eW8 eW9 eW10 eW11 eW12 eW13 eW14 eW15
  go_enter Tryz.func49, Tryz.ntmps49
  go_wp2_with fail
  go_ret
  exact ⟨rfl, rfl⟩
end
end Go.Proofs.YtocbddajakbemaaGreat
namespace Go.Proofs.YtocbddajakbemaaGreat
section
open Go.RowKit
structure Mst where
  at_ : Int
  drawn : Int
  rs : List Int
  ls : List Int
  cs : List Cmp
noncomputable def deedF (S : Fix) (op : Nat) (a : Int) (σ : Mst) : Option (Except Nat Mst) :=
  if 1000 < σ.rs.length then none else
  match op with
  | 1 => some (.ok { σ with rs := a :: σ.rs })
  | 2 => if a < 0 then none else match σ.ls[a.toNat]? with
    | some x => some (.ok { σ with rs := x :: σ.rs })
    | none => none
  | 3 => match σ.rs with
    | x :: rs => if a < 0 then none else if a.toNat < σ.ls.length then some (.ok { σ with rs := rs, ls := σ.ls.set a.toNat x }) else none
    | [] => none
  | 4 => match σ.rs with
    | x :: rs => match σ.cs[idxC σ.cs a]? with
      | none => some (.error 140)
      | some c => if x < 0 ∨ 3 < x then some (.error 141) else some (.ok { σ with rs := c.get x.toNat :: rs })
    | [] => none
  | 5 => match σ.rs with
    | v :: x :: rs => match σ.cs[idxC σ.cs a]? with
      | none => some (.error 140)
      | some c => if x < 0 ∨ 3 < x then some (.error 141) else some (.ok { σ with rs := rs, cs := σ.cs.set (idxC σ.cs a) (c.set x.toNat v) })
    | _ => none
  | 6 => some (.ok { σ with rs := S.tick :: σ.rs })
  | 7 => some (.ok { σ with rs := S.ID :: σ.rs })
  | 8 => match σ.rs with
    | n :: rs => if n < 1 ∨ 2147483648 < n then some (.error 143) else some (.ok { σ with rs := drawV S.s σ.drawn n :: rs, drawn := drawK S.s σ.drawn n })
    | [] => none
  | 9 => if a < 0 ∨ 255 < a then none else if a < 10 then
      match σ.rs with
      | x :: rs => if evE a.toNat 0 = 0 then some (.ok { σ with rs := evV a.toNat x 0 :: rs }) else none
      | [] => none
    else match σ.rs with
      | y :: x :: rs => if evE a.toNat y = 0 then some (.ok { σ with rs := evV a.toNat x y :: rs }) else some (.error (evE a.toNat y))
      | _ => none
  | 10 => match σ.rs with
    | x :: rs => some (.ok { σ with rs := tr (x != 0) :: rs })
    | [] => none
  | 11 => some (.ok { σ with at_ := a })
  | 12 => match σ.rs with
    | x :: rs => some (.ok { σ with rs := rs, at_ := if x = 0 then a else σ.at_ })
    | [] => none
  | 13 => match σ.rs with
    | x :: rs => some (.ok { σ with rs := rs, at_ := if x ≠ 0 then a else σ.at_ })
    | [] => none
  | 14 => some (.ok { σ with at_ := (S.cn : Nat) })
  | 15 => some (.error 144)
  | _ => none
def deedId (op : Nat) : FuncId :=
  match op with
  | 1 => 70
  | 2 => 71
  | 3 => 72
  | 4 => 73
  | 5 => 74
  | 6 => 75
  | 7 => 76
  | 8 => 77
  | 9 => 78
  | 10 => 79
  | 11 => 80
  | 12 => 81
  | 13 => 82
  | 14 => 83
  | _ => 84
def Deeded (w : World) (B rb : Nat) (S : Fix) (D : Dyn) (r : Except Nat Mst) (e : Ending) (w' : World) : Prop :=
  match r with
  | .ok σ => e = .returned (.tuple #[]) ∧ Went w w' B rb S D σ.at_ σ.drawn σ.rs.reverse σ.ls σ.cs
  | .error n => e = bad n ∧ Died w w' B rb S D
theorem deed_ok (B rb : Nat) (S : Fix) (D : Dyn) (σ : Mst) (w : World) (op : Nat) (a : Int) (r : Except Nat Mst) (h : MOk w B rb S D σ.rs.reverse σ.ls σ.cs) (hf : Fine σ.cs) (hl : σ.ls.length ≤ 1000) (e1 : D.at_ = σ.at_) (e2 : D.drawn = σ.drawn)
    (d0 : -9223372036854775808 ≤ σ.drawn) (d1 : σ.drawn ≤ 9223372036854775807) (hr : deedF S op a σ = some r) :
    Calls Tryz.prog (deedId op) #[.pointer (some ⟨rb, 0, none⟩), .int .i64 a] w (Deeded w B rb S D r) := by
  obtain ⟨at_, drawn, rs, ls, cs⟩ := σ
  simp only at h hf hl e1 e2 d0 d1
  subst e1 e2
  unfold deedF at hr
  simp only at hr
  by_cases hlen : 1000 < rs.length
  · rw [if_pos hlen] at hr; cases hr
  rw [if_neg hlen] at hr
  have hrl : rs.reverse.length ≤ 1000000 := by rw [List.length_reverse]; omega
  match op with
  | 1 =>
    injection hr with hr; subst hr
    refine (num_ok B rb S D rs.reverse ls cs w a h hrl).mono ?_
    rintro e w' ⟨rfl, hw⟩
    exact ⟨rfl, by rw [List.reverse_cons]; exact hw⟩
  | 2 =>
    simp only at hr
    by_cases ha : a < 0
    · rw [if_pos ha] at hr; cases hr
    rw [if_neg ha] at hr
    rcases hx : ls[a.toNat]? with _ | x
    · rw [hx] at hr; cases hr
    · rw [hx] at hr
      injection hr with hr; subst hr
      have := load_ok B rb S D rs.reverse ls cs w a.toNat x h hrl hx hl
      rw [show ((a.toNat : Nat) : Int) = a from by omega] at this
      refine this.mono ?_
      rintro e w' ⟨rfl, hw⟩
      exact ⟨rfl, by rw [List.reverse_cons]; exact hw⟩
  | 3 =>
    simp only at hr
    rcases rs with _ | ⟨x, rs⟩
    · cases hr
    simp only at hr
    by_cases ha : a < 0
    · rw [if_pos ha] at hr; cases hr
    rw [if_neg ha] at hr
    by_cases hi : a.toNat < ls.length
    · rw [if_pos hi] at hr
      injection hr with hr; subst hr
      rw [List.reverse_cons] at h
      have := store_ok B rb S D rs.reverse ls cs w a.toNat x h hi
      rw [show ((a.toNat : Nat) : Int) = a from by omega] at this
      refine this.mono ?_
      rintro e w' ⟨rfl, hw⟩
      exact ⟨rfl, hw⟩
    · rw [if_neg hi] at hr; cases hr
  | 4 =>
    simp only at hr
    rcases rs with _ | ⟨x, rs⟩
    · cases hr
    simp only at hr
    rw [List.reverse_cons] at h
    have hl2 : rs.reverse.length ≤ 1000000 := by rw [List.length_reverse]; simp at hlen; omega
    rcases hc : cs[idxC cs a]? with _ | c
    · rw [hc] at hr
      injection hr with hr; subst hr
      have hn : ¬ idxC cs a < cs.length := fun hlt => by rw [List.getElem?_eq_getElem hlt] at hc; cases hc
      exact get_bad B rb S D rs.reverse ls cs w a x 140 h hf (Or.inl ⟨hn, rfl⟩)
    · rw [hc] at hr
      simp only at hr
      have hn : idxC cs a < cs.length := (List.getElem?_eq_some_iff.1 hc).1
      by_cases hx : x < 0 ∨ 3 < x
      · rw [if_pos hx] at hr
        injection hr with hr; subst hr
        exact get_bad B rb S D rs.reverse ls cs w a x 141 h hf (Or.inr ⟨hn, hx, rfl⟩)
      · rw [if_neg hx] at hr
        injection hr with hr; subst hr
        have ex : ((x.toNat : Nat) : Int) = x := by omega
        rw [← ex] at h
        refine (get_ok B rb S D rs.reverse ls cs w a x.toNat h hl2 hf c hc (by omega)).mono ?_
        rintro e w' ⟨rfl, hw⟩
        exact ⟨rfl, by rw [List.reverse_cons]; exact hw⟩
  | 5 =>
    simp only at hr
    rcases rs with _ | ⟨v, _ | ⟨x, rs⟩⟩
    · cases hr
    · cases hr
    simp only at hr
    rw [List.reverse_cons, List.reverse_cons] at h
    rcases hc : cs[idxC cs a]? with _ | c
    · rw [hc] at hr
      injection hr with hr; subst hr
      have hn : ¬ idxC cs a < cs.length := fun hlt => by rw [List.getElem?_eq_getElem hlt] at hc; cases hc
      exact put_bad B rb S D rs.reverse ls cs w a x v 140 h hf (Or.inl ⟨hn, rfl⟩)
    · rw [hc] at hr
      simp only at hr
      have hn : idxC cs a < cs.length := (List.getElem?_eq_some_iff.1 hc).1
      by_cases hx : x < 0 ∨ 3 < x
      · rw [if_pos hx] at hr
        injection hr with hr; subst hr
        exact put_bad B rb S D rs.reverse ls cs w a x v 141 h hf (Or.inr ⟨hn, hx, rfl⟩)
      · rw [if_neg hx] at hr
        injection hr with hr; subst hr
        have ex : ((x.toNat : Nat) : Int) = x := by omega
        rw [← ex] at h
        refine (put_ok B rb S D rs.reverse ls cs w a x.toNat v h hf c hc (by omega)).mono ?_
        rintro e w' ⟨rfl, hw⟩
        exact ⟨rfl, hw⟩
  | 6 =>
    injection hr with hr; subst hr
    refine (tick_ok B rb S D rs.reverse ls cs w a h hrl).mono ?_
    rintro e w' ⟨rfl, hw⟩
    exact ⟨rfl, by rw [List.reverse_cons]; exact hw⟩
  | 7 =>
    injection hr with hr; subst hr
    refine (self_ok B rb S D rs.reverse ls cs w a h hrl).mono ?_
    rintro e w' ⟨rfl, hw⟩
    exact ⟨rfl, by rw [List.reverse_cons]; exact hw⟩
  | 8 =>
    simp only at hr
    rcases rs with _ | ⟨n, rs⟩
    · cases hr
    simp only at hr
    rw [List.reverse_cons] at h
    have hl2 : rs.reverse.length ≤ 1000000 := by rw [List.length_reverse]; simp at hlen; omega
    by_cases hn : n < 1 ∨ 2147483648 < n
    · rw [if_pos hn] at hr
      injection hr with hr; subst hr
      exact rand_bad B rb S D rs.reverse ls cs w n a h hn
    · rw [if_neg hn] at hr
      injection hr with hr; subst hr
      refine (rand_ok B rb S D rs.reverse ls cs w n a h hl2 (by omega) (by omega) d0 d1).mono ?_
      rintro e w' ⟨rfl, hw⟩
      exact ⟨rfl, by rw [List.reverse_cons]; exact hw⟩
  | 9 =>
    simp only at hr
    by_cases ha : a < 0 ∨ 255 < a
    · rw [if_pos ha] at hr; cases hr
    rw [if_neg ha] at hr
    have ea : ((a.toNat : Nat) : Int) = a := by omega
    by_cases h10 : a < 10
    · rw [if_pos h10] at hr
      rcases rs with _ | ⟨x, rs⟩
      · cases hr
      simp only at hr
      rw [List.reverse_cons] at h
      have hl2 : rs.reverse.length ≤ 1000000 := by rw [List.length_reverse]; simp at hlen; omega
      by_cases he : evE a.toNat 0 = 0
      · rw [if_pos he] at hr
        injection hr with hr; subst hr
        have := do1_ok B rb S D rs.reverse ls cs w a.toNat (by omega) x h hl2 he
        rw [ea] at this
        refine this.mono ?_
        rintro e w' ⟨rfl, hw⟩
        exact ⟨rfl, by rw [List.reverse_cons]; exact hw⟩
      · rw [if_neg he] at hr; cases hr
    · rw [if_neg h10] at hr
      rcases rs with _ | ⟨y, _ | ⟨x, rs⟩⟩
      · cases hr
      · cases hr
      simp only at hr
      rw [List.reverse_cons, List.reverse_cons] at h
      have hl2 : rs.reverse.length ≤ 1000000 := by rw [List.length_reverse]; simp at hlen; omega
      by_cases he : evE a.toNat y = 0
      · rw [if_pos he] at hr
        injection hr with hr; subst hr
        have := do2_ok B rb S D rs.reverse ls cs w a.toNat (by omega) (by omega) x y h hl2 he
        rw [ea] at this
        refine this.mono ?_
        rintro e w' ⟨rfl, hw⟩
        exact ⟨rfl, by rw [List.reverse_cons]; exact hw⟩
      · rw [if_neg he] at hr
        injection hr with hr; subst hr
        have := do2_bad B rb S D rs.reverse ls cs w a.toNat (by omega) (by omega) x y h he
        rw [ea] at this
        exact this
  | 10 =>
    simp only at hr
    rcases rs with _ | ⟨x, rs⟩
    · cases hr
    simp only at hr
    injection hr with hr; subst hr
    rw [List.reverse_cons] at h
    have hl2 : rs.reverse.length ≤ 1000000 := by rw [List.length_reverse]; simp at hlen; omega
    refine (bool_ok B rb S D rs.reverse ls cs w x a h hl2).mono ?_
    rintro e w' ⟨rfl, hw⟩
    exact ⟨rfl, by rw [List.reverse_cons]; exact hw⟩
  | 11 =>
    injection hr with hr; subst hr
    exact jump_ok B rb S D rs.reverse ls cs w a h
  | 12 =>
    simp only at hr
    rcases rs with _ | ⟨x, rs⟩
    · cases hr
    simp only at hr
    injection hr with hr; subst hr
    rw [List.reverse_cons] at h
    exact ifFalse_ok B rb S D rs.reverse ls x cs w a h
  | 13 =>
    simp only at hr
    rcases rs with _ | ⟨x, rs⟩
    · cases hr
    simp only at hr
    injection hr with hr; subst hr
    rw [List.reverse_cons] at h
    exact ifTrue_ok B rb S D rs.reverse ls x cs w a h
  | 14 =>
    injection hr with hr; subst hr
    exact end_ok B rb S D rs.reverse ls cs w a h
  | 15 =>
    injection hr with hr; subst hr
    refine (fail_ok rb a w).mono ?_
    rintro e w' ⟨rfl, rfl⟩
    exact ⟨rfl, D, _, _, _, h, rfl, Fr.refl _ _⟩
  | 0 => cases hr
  | n + 16 => cases hr
end
end Go.Proofs.YtocbddajakbemaaGreat
namespace Go.Proofs.YtocbddajakbemaaGreat
section
open Go.RowKit
theorem tm_panic (p e : Value) : (#[p] ++ ((Array.replicate 15 undef).setIfInBounds 3 e).setIfInBounds 0 e : Array Value) = #[p, e, undef, undef, e, undef, undef, undef, undef, undef, undef, undef, undef, undef, undef, undef] := rfl
theorem assert_errno (v : Value) (w : World) : (Instr.typeAssert (.iface 35 v) 20 35 true).run Tryz.prog w = .ok (.tuple #[v, .bool true]) w := by kernel_rfl
theorem catch_panicking (p : Addr) (x : Int) (n : Nat) (older : List PanicEntry) (w : World) (hc : w.cell? p = some (.int .i64 x)) (hz : w.frozen? p = false) :
    CallsD Tryz.prog 48 #[.pointer (some p)] (.panicking ({ v := .iface 35 (.int .i64 (n : Nat)), recovered := false } :: older)) w fun e u' w' =>
      e = .returned (.tuple #[]) ∧ u' = .panicking ({ v := .iface 35 (.int .i64 (n : Nat)), recovered := true } :: older) ∧ w' = w.setCell p (.int .i64 (n : Nat)) := by
  refine callsD_of_wpS Tryz.func48 rfl fun c₀ cs hu => ?_
  apply wpS_seq
  apply wpS_region
  simp [wpOpsS, go_sem, recoverD, hu, Tryz.ntmps48, Exit.thenS, tm_panic]
  generalize eQ : bodyPostS Tryz.prog _ c₀ cs _ = Q
  generalize eC : ((Frame.mk c₀.fn c₀.tmps c₀.todo c₀.defers _ c₀.kind c₀.roundOf) :: cs : List Frame) = C
  have HE := Lib.hid (And.intro eQ (And.intro eC hu)); clear eQ eC hu
  have hta := assert_errno (.int .i64 (n : Nat))
  refine wpS_of_wp ?_
  go_wp2
  obtain ⟨eQ, eC, hu⟩ := HE.out
  rw [← eQ, ← eC]
  simp [bodyPostS, results, Tryz.results48]
theorem tm_idle (p : Value) : (#[p] ++ ((Array.replicate 15 undef).setIfInBounds 3 .nilIface).setIfInBounds 0 .nilIface : Array Value) = #[p, .nilIface, undef, undef, .nilIface, undef, undef, undef, undef, undef, undef, undef, undef, undef, undef, undef] := rfl
theorem catch_idle (p : Addr) (w : World) :
    CallsD Tryz.prog 48 #[.pointer (some p)] .returning w fun e u' w' => e = .returned (.tuple #[]) ∧ u' = .returning ∧ w' = w := by
  refine callsD_of_wpS Tryz.func48 rfl fun c₀ cs hu => ?_
  apply wpS_seq
  apply wpS_region
  simp [wpOpsS, go_sem, recoverD, hu, Tryz.ntmps48, Exit.thenS, tm_idle]
  generalize eQ : bodyPostS Tryz.prog _ c₀ cs _ = Q
  generalize eC : (c₀ :: cs : List Frame) = C
  have HE := Lib.hid (And.intro eQ (And.intro eC hu)); clear eQ eC hu
  refine wpS_of_wp ?_
  go_wp2
  obtain ⟨eQ, eC, hu⟩ := HE.out
  rw [← eQ, ← eC]
  cases c₀
  simp_all [bodyPostS, results, Tryz.results48]
theorem find_deed (op : Nat) (h1 : 1 ≤ op) (h2 : op ≤ 15) : ∃ i, Instr.findNow (.int .u8) (.int .u8 (op : Nat)) dE 0 = some (some (i, .func (.func (deedId op)) #[] #[])) := by
  match op with
  | 1 => exact ⟨_, rfl⟩
  | 2 => exact ⟨_, rfl⟩
  | 3 => exact ⟨_, rfl⟩
  | 4 => exact ⟨_, rfl⟩
  | 5 => exact ⟨_, rfl⟩
  | 6 => exact ⟨_, rfl⟩
  | 7 => exact ⟨_, rfl⟩
  | 8 => exact ⟨_, rfl⟩
  | 9 => exact ⟨_, rfl⟩
  | 10 => exact ⟨_, rfl⟩
  | 11 => exact ⟨_, rfl⟩
  | 12 => exact ⟨_, rfl⟩
  | 13 => exact ⟨_, rfl⟩
  | 14 => exact ⟨_, rfl⟩
  | 15 => exact ⟨_, rfl⟩
  | 0 => omega
  | n + 16 => omega
theorem lookup_deed (w : World) (g op : Nat) (h1 : 1 ≤ op) (h2 : op ≤ 15) (hg : w.heap[g]? = some (.map dE.toArray 15)) :
    (Instr.lookup 117 (.map (some g)) (.int .u8 (op : Nat)) false).run Tryz.prog w = .ok (.func (.func (deedId op)) #[] #[]) w := by
  obtain ⟨i, hf⟩ := find_deed op h1 h2
  have hf2 : Instr.findNow (.int .u8) (.int .u8 (op : Nat)) dE.toArray.toList 0 = some (some (i, .func (.func (deedId op)) #[] #[])) := by simpa using hf
  have hk : MapKept.IsKey (.int .u8) (.int .u8 (op : Nat)) := rfl
  simp only [Instr.lookup, Sem.run_bind, run_underlying Tryz.underlying117, MapKept.run_getObj_map hg, MapKept.run_checkKey u8_under hk, MapKept.run_findKey u8_under hf2, Result.andThen, Sem.run, pure, Sem.run_pure]
  rfl
end
end Go.Proofs.YtocbddajakbemaaGreat
namespace Go.Proofs.YtocbddajakbemaaGreat
section
open Go.RowKit
def CodeAt (w : World) (B : Nat) (A : Option Addr) (code : List (Nat × Int)) : Prop :=
  ∀ i x, code[i]? = some x → ∃ cb co, A = some ⟨cb, co, none⟩ ∧ cb < B ∧ w.cell? ⟨cb, co + i * 2, none⟩ = some (.int .u8 (x.1 : Nat)) ∧ w.cell? ⟨cb, co + i * 2 + 1, none⟩ = some (.int .i64 x.2)
theorem cell_below {B : Nat} {w w' : World} (h : Below B w w') {b : Nat} (hb : b < B) (i : Nat) : w'.cell? ⟨b, i, none⟩ = w.cell? ⟨b, i, none⟩ := by
  unfold World.cell?
  rw [h.block b hb]
theorem CodeAt.below {w w' : World} {B : Nat} {A : Option Addr} {code : List (Nat × Int)} (h : CodeAt w B A code) (hb : Below B w w') : CodeAt w' B A code := by
  intro i x hx
  obtain ⟨cb, co, e, hl, h1, h2⟩ := h i x hx
  exact ⟨cb, co, e, hl, (cell_below hb hl _).trans h1, (cell_below hb hl _).trans h2⟩
noncomputable def runF (S : Fix) (code : List (Nat × Int)) : Nat → Mst → Option (Except (Nat × Nat) (Nat × Mst))
  | f, σ => if σ.at_ < 0 then none else if (code.length : Int) ≤ σ.at_ then some (.ok (f, σ)) else
    match f with
    | 0 => some (.error (145, 0))
    | f + 1 => match code[σ.at_.toNat]? with
      | none => none
      | some x => match deedF S x.1 x.2 { σ with at_ := σ.at_ + 1 } with
        | none => none
        | some (.error n) => some (.error (n, f))
        | some (.ok σ') => runF S code f σ'
theorem deedF_op {S : Fix} {op : Nat} {a : Int} {σ : Mst} {r : Except Nat Mst} (h : deedF S op a σ = some r) : 1 ≤ op ∧ op ≤ 15 := by
  unfold deedF at h
  split at h
  · cases h
  · match op with
    | 0 => cases h
    | n + 16 => cases h
    | 1 => omega
    | 2 => omega
    | 3 => omega
    | 4 => omega
    | 5 => omega
    | 6 => omega
    | 7 => omega
    | 8 => omega
    | 9 => omega
    | 10 => omega
    | 11 => omega
    | 12 => omega
    | 13 => omega
    | 14 => omega
    | 15 => omega
theorem drawK_bounds (s k n : Int) : -9223372036854775808 ≤ drawK s k n ∧ drawK s k n ≤ 9223372036854775807 := by
  unfold drawK wrap64; omega
theorem fine_set {cs : List Cmp} (h : Fine cs) {i : Nat} {c c' : Cmp} (hc : cs[i]? = some c) (hk : c'.kind = c.kind) : Fine (cs.set i c') := by
  refine ⟨by rw [List.length_set]; exact h.1, fun d hd => ?_⟩
  rcases List.mem_or_eq_of_mem_set hd with h1 | h1
  · exact h.2 d h1
  · rw [h1, hk]
    exact h.2 c (List.mem_of_getElem? hc)
def Keeps (σ : Mst) : Prop := Fine σ.cs ∧ σ.ls.length ≤ 1000 ∧ -9223372036854775808 ≤ σ.drawn ∧ σ.drawn ≤ 9223372036854775807
theorem put_kind (c : Cmp) (x : Nat) (v : Int) : (c.set x v).kind = c.kind := by
  unfold Cmp.set
  (repeat' split) <;> rfl
theorem keeps_step {S : Fix} {op : Nat} {a : Int} {σ σ' : Mst} (h : Keeps σ) (hr : deedF S op a σ = some (.ok σ')) : Keeps σ' := by
  obtain ⟨h1, h2, h3, h4⟩ := h
  unfold deedF at hr
  split at hr
  · cases hr
  · (repeat' split at hr) <;> first | (cases hr; done) | (injection hr with hr; injection hr with hr; subst hr; first | exact ⟨h1, h2, h3, h4⟩ | exact ⟨h1, h2, (drawK_bounds _ _ _).1, (drawK_bounds _ _ _).2⟩ | exact ⟨h1, by simpa using h2, h3, h4⟩ | exact ⟨fine_set h1 (by assumption) (put_kind _ _ _), h2, h3, h4⟩)
section
variable {w w' : World} {B rb : Nat} {S : Fix} {D : Dyn} {st ls : List Int} {cs : List Cmp}
theorem MOk.mF_lt (h : MOk w B rb S D st ls cs) : ∀ q, q ∈ mF rb D → q < w.heap.size ∧ B ≤ q := by
  intro q hq
  simp only [mF, List.mem_cons, List.mem_append, Option.mem_toList] at hq
  rcases hq with rfl | h1 | h1 | h1
  · exact ⟨lt_of_block h.blk, h.base⟩
  · exact own_lt h.stk h1
  · exact own_lt h.lcl h1
  · exact own_lt h.cmp h1
theorem not_mF {q : Nat} (h : q ∉ mF rb D) : q ≠ rb ∧ D.sv.ownBlock ≠ some q ∧ D.lv.ownBlock ≠ some q ∧ D.cv.ownBlock ≠ some q := by
  simp only [mF, List.mem_cons, List.mem_append, Option.mem_toList, not_or] at h
  exact h
theorem MOk.alloc (h : MOk w B rb S D st ls cs) (o : Obj) : MOk (w.alloc o) B rb S D st ls cs :=
  ⟨(Below.heap_alloc w o rb (lt_of_block h.blk)).trans h.blk, h.stk.alloc o, h.lcl.alloc o, h.cmp.alloc o, h.sl, h.base⟩
theorem MOk.other (h : MOk w B rb S D st ls cs) {q : Nat} (hq : q ∉ mF rb D) (ho : Only q w w') : MOk w' B rb S D st ls cs := by
  obtain ⟨h0, h1, h2, h3⟩ := not_mF hq
  exact ⟨(ho.block rb (fun e => h0 e.symm)).trans h.blk, own_only h.stk ho h1, own_only h.lcl ho h2, own_only h.cmp ho h3, h.sl, h.base⟩
end
theorem Fr.alloc {F G : List Nat} {w w' : World} (h : Fr F w G w') (o : Obj) : Fr F w G (w'.alloc o) :=
  ⟨h.os, h.tape, h.output, Nat.le_trans h.size (by simp), fun q hq hn => (Below.heap_alloc w' o q (Nat.lt_of_lt_of_le hq h.size)).trans (h.block q hq hn), h.own⟩
theorem Fr.set_new {F G : List Nat} {w w' w2 : World} (h : Fr F w G w') {q : Nat} (hq : w.heap.size ≤ q) (ho : Only q w' w2) : Fr F w G w2 :=
  ⟨ho.os.trans h.os, ho.tape.trans h.tape, ho.output.trans h.output, by rw [ho.size]; exact h.size, fun k hk hn => (ho.block k (by omega)).trans (h.block k hk hn), h.own⟩
def Ended (w : World) (B rb : Nat) (S : Fix) (D : Dyn) (r : Except (Nat × Nat) (Nat × Mst)) (e : Ending) (w' : World) : Prop :=
  match r with
  | .ok (f, σ) => e = .returned (.int .i64 0) ∧ ∃ D', MOk w' B rb S D' σ.rs.reverse σ.ls σ.cs ∧ D'.fuel = (f : Nat) ∧ Fr (mF rb D) w (mF rb D') w'
  | .error (n, f) => e = .returned (.int .i64 (n : Nat)) ∧ ∃ D' st ls cs, MOk w' B rb S D' st ls cs ∧ D'.fuel = (f : Nat) ∧ Fr (mF rb D) w (mF rb D') w'
end
end Go.Proofs.YtocbddajakbemaaGreat
