/- vm, the program's own front end: right, by operations. -/
import Derived.Test.YtocbddajakbemaaGreatNC
set_option linter.unusedVariables false
set_option linter.unusedSimpArgs false
namespace Go.Proofs.YtocbddajakbemaaGreat
section
open Go.RowKit
structure WZ (P : Program) (ops : Array Oper) (Q : Exit → Act → World → Prop) (l : List Oper) (a : Act) (w : World) : Prop where
  h : wpList P ops Q l a w
theorem WZ.enter {P : Program} {ops : Array Oper} {Q : Exit → Act → World → Prop} {l : List Oper} {a : Act} {w : World} {K : Act → World → Prop} (hX : ∀ (a : Act) (w : World), wpList P ops Q l a w → K a w) (h : WZ P ops Q l a w) : K a w := hX _ _ h.h
structure RtIn (w W : World) (g : Nat) (op : Int) (n : Int) (nm : ByteArray) (EA : Option Addr) (me ec : Nat) (BA : Option Addr) (mb bc : Nat) (LA : Option Addr) (ml lc : Nat) : Prop where
  k : W.heap[g]? = some (.cells #[.int .u8 op, .int .i64 n, .string nm, .slice EA me ec, .slice BA mb bc, .slice LA ml lc] 39 (0, 0))
  hb : Below w.heap.size w W
theorem RtIn.facts {w W : World} {g : Nat} {op n : Int} {nm : ByteArray} {EA BA LA : Option Addr} {me ec mb bc ml lc : Nat} (h : RtIn w W g op n nm EA me ec BA mb bc LA ml lc) :
    W.cell? ⟨g, 0, none⟩ = some (.int .u8 op) ∧ W.cell? ⟨g, 1, none⟩ = some (.int .i64 n) ∧ W.cell? ⟨g, 2, none⟩ = some (.string nm) ∧ W.cell? ⟨g, 3, none⟩ = some (.slice EA me ec) ∧ W.cell? ⟨g, 4, none⟩ = some (.slice BA mb bc) ∧ W.cell? ⟨g, 5, none⟩ = some (.slice LA ml lc) :=
  ⟨(cell_of_block h.k 0).trans rfl, (cell_of_block h.k 1).trans rfl, (cell_of_block h.k 2).trans rfl, (cell_of_block h.k 3).trans rfl, (cell_of_block h.k 4).trans rfl, (cell_of_block h.k 5).trans rfl⟩
theorem RtIn.below {w W W' : World} {g : Nat} {op n : Int} {nm : ByteArray} {EA BA LA : Option Addr} {me ec mb bc ml lc : Nat} (h : RtIn w W g op n nm EA me ec BA mb bc LA ml lc) (hb : Below W.heap.size W W') : RtIn w W' g op n nm EA me ec BA mb bc LA ml lc :=
  ⟨(hb.block _ (lt_of_block h.k)).trans h.k, h.hb.trans (hb.mono h.hb.size)⟩
theorem rtIn_new (w : World) (op n : Int) (nm : ByteArray) (EA : Option Addr) (me ec : Nat) (BA : Option Addr) (mb bc : Nat) (LA : Option Addr) (ml lc : Nat) : ∃ W, W = w.alloc (.cells #[.int .u8 op, .int .i64 n, .string nm, .slice EA me ec, .slice BA mb bc, .slice LA ml lc] 39 (0, 0)) ∧ RtIn w W w.heap.size op n nm EA me ec BA mb bc LA ml lc :=
  ⟨_, rfl, heap_alloc_new w _, (Below.refl _ w).alloc (Nat.le_refl _) _⟩
end
end Go.Proofs.YtocbddajakbemaaGreat
