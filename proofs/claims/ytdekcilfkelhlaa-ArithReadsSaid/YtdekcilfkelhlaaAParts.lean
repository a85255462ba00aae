/- Objects of other kinds: cells, rows of items, rows of bytes; runs side by side. -/
import Derived.Test.YtdekcilfkelhlaaAItemG
import Derived.Test.YtdekcilfkelhlaaAFit
import Derived.Maps.AppendAt
set_option linter.unusedVariables false
namespace Go.Proofs.Ytdekcilfkelhlaa
open Go.RowKit

section
variable {w0 w w' : World} {l m : List Part} {p p' : Part}
theorem Ses.app (h : Ses w0 w l) (k : Ses w w' m) : Ses w0 w' (m ++ l) := by
  have hl := h.below k.bel
  refine ⟨⟨fun p hp => ?_, ?_⟩, fun p hp q hq => ?_, hl.bel⟩
  · rcases List.mem_append.1 hp with hp | hp
    · exact k.sep.1 p hp
    · exact hl.sep.1 p hp
  · refine List.pairwise_append.2 ⟨k.sep.2, hl.sep.2, fun p hp r hr q h1 h2 => ?_⟩
    have a := k.base p hp q h1
    have b := (h.sep.1 r hr).lt q h2
    omega
  · rcases List.mem_append.1 hp with hp | hp
    · exact Nat.le_trans h.bel.size (k.base p hp q hq)
    · exact hl.base p hp q hq
theorem Ses.step1 (h : Ses w0 w (p :: l)) (fr : Fr p.F w p'.F w') (hp : p'.ok w') : Ses w0 w' (p' :: l) := by
  have hb : ∀ q, q ∈ p.F → w0.heap.size ≤ q := h.base p (by simp)
  refine ⟨h.sep.step fr hp, fun s hs q hq => ?_, then_fr h.bel fr hb⟩
  rcases List.mem_cons.1 hs with rfl | hs
  · exact fr.base h.bel.size hb q hq
  · exact h.base s (by simp [hs]) q hq
variable {a b c d x : Part}
theorem Ses.drew (h : Ses w0 w l) : Ses w0 w.drew l := h.below (Below.refl _ _).drew
theorem Ses.mw4 (h : Ses w0 w (a :: b :: c :: d :: x :: l)) : Ses w0 w (x :: a :: b :: c :: d :: l) := h.perm (List.perm_middle (l₁ := [a, b, c, d]))
theorem Ses.mw5 {e : Part} (h : Ses w0 w (a :: b :: c :: d :: e :: x :: l)) : Ses w0 w (x :: a :: b :: c :: d :: e :: l) := h.perm (List.perm_middle (l₁ := [a, b, c, d, e]))
theorem Ses.mw6 {e f : Part} (h : Ses w0 w (a :: b :: c :: d :: e :: f :: x :: l)) : Ses w0 w (x :: a :: b :: c :: d :: e :: f :: l) := h.perm (List.perm_middle (l₁ := [a, b, c, d, e, f]))
theorem Ses.mw7 {e f g : Part} (h : Ses w0 w (a :: b :: c :: d :: e :: f :: g :: x :: l)) : Ses w0 w (x :: a :: b :: c :: d :: e :: f :: g :: l) := h.perm (List.perm_middle (l₁ := [a, b, c, d, e, f, g]))
theorem Ses.mw8 {e f g i : Part} (h : Ses w0 w (a :: b :: c :: d :: e :: f :: g :: i :: x :: l)) : Ses w0 w (x :: a :: b :: c :: d :: e :: f :: g :: i :: l) := h.perm (List.perm_middle (l₁ := [a, b, c, d, e, f, g, i]))
theorem Ses.mw9 {e f g i j : Part} (h : Ses w0 w (a :: b :: c :: d :: e :: f :: g :: i :: j :: x :: l)) : Ses w0 w (x :: a :: b :: c :: d :: e :: f :: g :: i :: j :: l) := h.perm (List.perm_middle (l₁ := [a, b, c, d, e, f, g, i, j]))
/-- The second object is left out. -/
theorem Ses.cut2 (h : Ses w0 w (a :: x :: l)) : Ses w0 w (a :: l) := h.mv1.tail
/-- A block of cells. -/
def cPart (b : Nat) (cs : Array Value) (T : TypeId) : Part := ⟨[b], fun w => w.heap[b]? = some (.cells cs T (0, 0))⟩
theorem Ses.cells (h : Ses w0 w l) (cs : Array Value) (T : TypeId) : Ses w0 (w.alloc (.cells cs T)) (cPart w.heap.size cs T :: l) := by
  refine h.new ((Below.refl _ _).alloc (Nat.le_refl _) _) ⟨heap_alloc_new w _, fun q hq => ?_, fun w' hs _ => ?_⟩ (fun q hq => ?_)
  · have : q = w.heap.size := by simpa [cPart] using hq
    simp; omega
  · exact (hs w.heap.size (by simp [cPart])).trans (heap_alloc_new w _)
  · have : q = w.heap.size := by simpa [cPart] using hq
    omega
/-- A row of items of one's own. -/
def rPart (B : Nat) (v : Value) (n : Nat) (xs : List Value) : Part := ⟨v.ownBlock.toList, fun w => w.ownsRow B 61 3 v n xs⟩
theorem rpart {B n : Nat} {v : Value} {xs : List Value} (h : w.ownsRow B 61 3 v n xs) : (rPart B v n xs).ok w :=
  ⟨h, fun q hq => (own_lt h (by simpa [rPart] using hq)).1, fun w' hs _ => own_kept h fun q hq => hs q (by simpa [rPart] using hq)⟩
theorem Ses.row (h : Ses w0 w l) (B : Nat) : Ses w0 w (rPart B (.slice none 0 0) 0 [] :: l) :=
  h.new (Below.refl _ _) (rpart (World.ownsRow_nil _ _ _ _)) (fun q hq => by simp [rPart, Value.ownBlock] at hq)
theorem Ses.grown {B n n' : Nat} {v v' : Value} {xs xs' : List Value} {o : Obj} (h : Ses w0 w (rPart B v n xs :: l)) (ho : w'.ownsRow B 61 3 v' n' xs') (hg : (w.alloc o).grownBy w' v.ownBlock) (hat : v'.ownBlock = v.ownBlock ∨ v'.ownBlock = some (w.alloc o).heap.size) : Ses w0 w' (rPart B v' n' xs' :: l) := by
  refine (h.alloc o).step1 ⟨hg.os, hg.tape, hg.output, hg.size, fun q hq hn => hg.block q hq (fun e => hn ?_), fun q hq => ?_⟩ (rpart ho)
  · simp [rPart, ← e]
  · have hq' : v'.ownBlock = some q := by simpa [rPart] using hq
    rcases hat with h1 | h1
    · exact Or.inl (by simp [rPart, ← h1, hq'])
    · rw [hq'] at h1
      injection h1 with h1
      exact Or.inr (by omega)
/-- A row of bytes that nobody writes. -/
def bPart (F : List Nat) (A : Option Addr) (n : Nat) (f : Nat → Nat) : Part := ⟨F, fun w => Row w F A n f⟩
theorem Ses.bytes_n {bw : Nat} {F : List Nat} {s : St} (h : Ses w0 w (encPart w0.heap.size bw F s :: l)) (hc : s.cnt ≤ 32768) :
    Calls Try.prog 29 #[.pointer (some ⟨bw, 0, none⟩)] w fun e w' => ∃ G A cap, e = .returned (.slice A (nbytes (endBits s)) cap) ∧ (A = none → nbytes (endBits s) = 0 ∧ cap = 0) ∧ Ses w0 w' (bPart G A (nbytes (endBits s)) (M.byteOf (endBits s)) :: encPart w0.heap.size bw F s :: l) := by
  have he : EOk (encBox w0.heap.size bw) w F s := h.sep.head
  refine (Bytes_e w he hc).mono ?_
  rintro e w' ⟨v, rfl, ⟨G, A, cap, rfl, hr, hG, hnil⟩, hb⟩
  exact ⟨G, A, cap, rfl, hnil, h.new hb ⟨hr, fun q hq => (hG q hq).2, fun w' hs _ => hr.same hs⟩ (fun q hq => (hG q hq).1)⟩
theorem Ses.brow {F : List Nat} {A : Option Addr} {n : Nat} {f : Nat → Nat} (h : Ses w0 w (bPart F A n f :: l)) : BRow w A n f := Row.brow (F := F) h.sep.head
end
/-- A set that is new, as a run of its own. -/
theorem KNew.ses {w w' : World} {K : Nat} {bm g : Nat → Nat} {nums : List (Nat × Nat)} {fr : Bun} (h : KNew w w' K bm g nums fr) : Ses w w' [kPart K bm g nums fr] := (Ses.start w).kit h
theorem fresh_s {w0 w : World} {l : List Part} (h : Ses w0 w l) :
    Calls Try.prog 17 #[] w fun e w' => ∃ bm g n0 n1, e = .returned (.tuple #[bunV bm n0 n1, .bool true]) ∧ Ses w0 w' (kPart 11 bm g (nums2 n0 n1) fr0 :: l) := by
  refine (fresh_ok w).mono ?_
  rintro e w' ⟨bm, g, n0, n1, rfl, h1⟩
  exact ⟨bm, g, n0, n1, rfl, h.kit h1⟩

/-- Items: for each index the kind, which model, the symbol. -/
structure Its where
  kd : Nat → Nat
  mm : Nat → Nat
  ss : Nat → Int
/-- A slice that reads as items. -/
def Items (w : World) (B : Nat) (A : Option Addr) (n : Nat) (t : Its) : Prop :=
  ∀ i, i < n → ∃ ad, A = some ad ∧ ad.block < B ∧ w.cell? (ad.add (i * 3)) = some (.int .u8 (t.kd i : Nat)) ∧ w.cell? (ad.add (i * 3 + 1)) = some (.int .u8 (t.mm i : Nat)) ∧ w.cell? (ad.add (i * 3 + 2)) = some (.int .i64 (t.ss i)) ∧
    t.kd i < 256 ∧ t.mm i < 256 ∧ -9223372036854775808 ≤ t.ss i ∧ t.ss i ≤ 9223372036854775807
/-- The items as they are coded. -/
def Its.fit (t : Its) : Its := ⟨t.kd, t.mm, fun i => fitS (t.kd i) (t.mm i) (t.ss i)⟩
def Its.ops (t : Its) (i : Nat) : List Op := opsOf (t.kd i) (t.mm i) (t.ss i)
def Its.opsTo (t : Its) (j : Nat) : List Op := (List.range j).flatMap t.ops
def Its.cells (t : Its) (i : Nat) : List Value := [.int .u8 (t.kd i : Nat), .int .u8 (t.mm i : Nat), .int .i64 (t.ss i)]
def Its.cellsTo (t : Its) (j : Nat) : List Value := (List.range j).flatMap t.cells
theorem Its.opsTo_succ (t : Its) (j : Nat) : t.opsTo (j + 1) = t.opsTo j ++ t.ops j := by unfold Its.opsTo; rw [List.range_succ, List.flatMap_append]; simp
theorem Its.cellsTo_succ (t : Its) (j : Nat) : t.cellsTo (j + 1) = t.cellsTo j ++ t.cells j := by unfold Its.cellsTo; rw [List.range_succ, List.flatMap_append]; simp
theorem Its.cellsTo_length (t : Its) (j : Nat) : (t.cellsTo j).length = j * 3 := by
  induction j with
  | zero => rfl
  | succ j ih => rw [Its.cellsTo_succ, List.length_append, ih]; simp [Its.cells]; omega
theorem Its.cellsTo_at (t : Its) {i n : Nat} (hi : i < n) (k : Nat) (hk : k < 3) : (t.cellsTo n)[i * 3 + k]? = (t.cells i)[k]? := by
  induction n with
  | zero => omega
  | succ n ih =>
    rw [Its.cellsTo_succ]
    by_cases h : i < n
    · rw [List.getElem?_append_left (by rw [Its.cellsTo_length]; omega), ih h]
    · obtain rfl : i = n := by omega
      rw [List.getElem?_append_right (by rw [Its.cellsTo_length]; omega), Its.cellsTo_length]
      congr 1; omega
/-- Each item is in the ranges of its type. -/
def Its.bd (t : Its) (n : Nat) : Prop := ∀ i, i < n → t.kd i < 256 ∧ t.mm i < 256 ∧ -9223372036854775808 ≤ t.ss i ∧ t.ss i ≤ 9223372036854775807
/-- Each item's symbol is one of its model. -/
def Its.ok (t : Its) (n : Nat) : Prop := ∀ i, i < n → t.kd i % 4 ≠ 3 → 0 ≤ t.ss i ∧ t.ss i < ksz (6 + t.mm i % 5)
theorem Items.bd {w : World} {B n : Nat} {A : Option Addr} {t : Its} (h : Items w B A n t) : t.bd n := by
  intro i hi
  obtain ⟨ad, _, _, _, _, _, b⟩ := h i hi
  exact b
theorem Its.bd.less {t : Its} {n m : Nat} (h : t.bd n) (hm : m ≤ n) : t.bd m := fun i hi => h i (by omega)
theorem Its.ok.less {t : Its} {n m : Nat} (h : t.ok n) (hm : m ≤ n) : t.ok m := fun i hi => h i (by omega)
theorem Its.fit_ok {t : Its} {n : Nat} (h : t.bd n) : t.fit.ok n ∧ t.fit.bd n := by
  refine ⟨fun i hi hk => ?_, fun i hi => ?_⟩
  · obtain ⟨_, _, a, b⟩ := h i hi
    exact (fit_bd (t.kd i) (t.mm i) (t.ss i) a b).1 hk
  · obtain ⟨a1, a2, a, b⟩ := h i hi
    have := (fit_bd (t.kd i) (t.mm i) (t.ss i) a b).2
    exact ⟨a1, a2, this.1, this.2⟩
theorem Its.ops_fit {t : Its} {j : Nat} (h : t.ok j) : (∀ o, o ∈ t.opsTo j → Fit ksz o) ∧ (t.opsTo j).length ≤ 65 * j := by
  induction j with
  | zero => exact ⟨fun o ho => absurd ho (by simp [Its.opsTo]), by simp [Its.opsTo]⟩
  | succ j ih =>
    have h1 := ih (h.less (by omega))
    have h2 := opsOf_fit (t.kd j) (t.mm j) (t.ss j) (h j (by omega))
    rw [Its.opsTo_succ]
    refine ⟨fun o ho => ?_, ?_⟩
    · rcases List.mem_append.1 ho with ho | ho
      · exact h1.1 o ho
      · exact h2.1 o ho
    · rw [List.length_append]
      have e : (t.ops j).length ≤ 65 := h2.2
      omega
theorem ok0 : Ok ksz (st0, fr0) := ⟨live0, shape0⟩
/-- The state behind items. -/
def Its.st (t : Its) (j : Nat) : St × Bun := steps zbit (st0, fr0) (t.opsTo j)
theorem Its.st_succ (t : Its) (j : Nat) : t.st (j + 1) = steps zbit (t.st j) (t.ops j) := by unfold Its.st; rw [Its.opsTo_succ, steps_append]
theorem Its.st_ok {t : Its} {j : Nat} (h : t.ok j) : Ok ksz (t.st j) ∧ (t.st j).1.cnt ≤ 65 * j := by
  obtain ⟨h1, h2⟩ := Its.ops_fit h
  obtain ⟨h3, h4⟩ := ok0.steps (bit := zbit) h1
  refine ⟨h3, ?_⟩
  unfold Its.st
  rw [h4]
  show 0 + _ ≤ _
  omega
theorem add_in (a : Addr) (i c : Nat) (hc : 0 < c) : a.add (i + c) = ⟨(a.add i).block, (a.add i).off + c, none⟩ := by
  unfold Addr.add
  rw [if_neg (by omega)]
  split
  · rename_i h; subst h; simp
  · simp [Nat.add_assoc]
theorem add_block (a : Addr) (i : Nat) : (a.add i).block = a.block := by unfold Addr.add; split <;> rfl
theorem Items.below {w w' : World} {B n : Nat} {A : Option Addr} {t : Its} (h : Items w B A n t) (hb : Below B w w') : Items w' B A n t := by
  intro i hi
  obtain ⟨ad, e, hB, c0, c1, c2, b⟩ := h i hi
  have hc : ∀ k, w'.cell? (ad.add k) = w.cell? (ad.add k) := fun k => hb.cell (by rw [add_block]; exact hB)
  exact ⟨ad, e, hB, (hc _).trans c0, (hc _).trans c1, (hc _).trans c2, b⟩
theorem cells_alloc {w : World} {t : TypeId} (cs : List Value) (i : Nat) (u : Value) (h : cs[i]? = some u) : (w.alloc (.cells cs.toArray t)).cell? (Addr.add ⟨w.heap.size, 0, none⟩ i) = some u := by
  rw [add_zero', cell_of_block (heap_alloc_new w _) i]; simpa using h
theorem itinfo : (Try.prog.info? 61).map (fun i => (i.zero, i.size, i.bytes)) = some (some (.agg #[.int .u8 0, .int .u8 0, .int .i64 0]), 3, 16) := by kernel_rfl
end Go.Proofs.Ytdekcilfkelhlaa
