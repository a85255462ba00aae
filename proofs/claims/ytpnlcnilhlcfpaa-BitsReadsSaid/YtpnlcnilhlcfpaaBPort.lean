/- Rows of ints and of bytes: of one's own; appended. -/
import Derived.Test.YtpnlcnilhlcfpaaBItemR
import Derived.Laws.AppendOwnNone
set_option linter.unusedVariables false
namespace Go.Proofs.Ytpnlcnilhlcfpaa
open Go.RowKit

theorem quiet_of_eq2 {P : Program} {f : FuncId} {args : Array Value} {w : World} {a n : Nat} {v : Value}
    (h : Calls P f args (w.drewN (a + n)) fun e w' => e = .returned v ∧ w.drewN (a + n) = w') : Calls P f args (w.drewN (a + n)) fun e w'' => e = .returned v ∧ ∃ m, w'' = w.drewN (a + m) :=
  h.mono fun _ _ ⟨he, hm⟩ => ⟨he, n, hm.symm⟩
theorem add_block (a : Addr) (i : Nat) : (a.add i).block = a.block := by unfold Addr.add; split <;> rfl
def LRow (w : World) (A : Option Addr) (n : Nat) (l : List Nat) : Prop := n = l.length ∧ ∀ i, i < n → ∃ ad, A = some ad ∧ ad.block < w.heap.size ∧ w.cell? (ad.add i) = some (.int .i64 ((l.getD i 0 : Nat) : Int))
theorem LRow.below {w w' : World} {A : Option Addr} {n : Nat} {l : List Nat} (h : LRow w A n l) (hb : Below w.heap.size w w') : LRow w' A n l := by
  refine ⟨h.1, fun i hi => ?_⟩
  obtain ⟨ad, e, hlt, hc⟩ := h.2 i hi
  exact ⟨ad, e, Nat.lt_of_lt_of_le hlt hb.size, (hb.cell (by rw [add_block]; exact hlt)).trans hc⟩
theorem info3' : (Try.prog.info? 3).map (fun i => (i.zero, i.size, i.bytes)) = some (some (.int .i64 0), 1, 8) := by kernel_rfl
def intsL (l : List Nat) : List Value := l.map fun x => Value.int .i64 ((x : Nat) : Int)
theorem wpList_append_any {P : Program} {w : World} {ops : Array Oper} {rest : List Oper} {o : Oper} {a : Act} {Q : Exit → Act → World → Prop} (hgd : o.guard = none) (s x : Operand) (t : TypeId)
    (ho : o.op = .call { callee := .builtin .append, args := #[s, x], argTypes := #[t, t] })
    (base : Nat) (e : TypeId) (i : TypeInfo) (z : Value) (size bytes : Nat) (ht : P.underlying t = some (.slice e)) (hi : P.info? e = some i) (hz : i.zero = some z)
    (hsize : i.size = size) (hby : i.bytes = bytes) (hzs : z.cells.size = size) (hsz : 0 < size)
    (v : Value) (n : Nat) (xs : List Value) (hs : a.eval s = v) (hown : w.ownsRow base e size v n xs)
    (A : Option Addr) (m c : Nat) (news : List Value) (hx : a.eval x = .slice A m c) (hl : news.length = m * size) (hnews : ∀ ad, A = some ad → ∀ j u, news[j]? = some u → w.cell? (ad.add j) = some u) (hnil : A = none → m = 0 ∧ c = 0) (h1 : ∀ u ∈ news, u.oneCell' = true)
    (h63 : n + m ≤ maxLen) (hbytes : (n + m) * bytes ≤ 140737488355328) (hbase : base ≤ w.heap.size)
    (h : ∀ v' w', w'.ownsRow base e size v' (n + m) (xs ++ news) → w.grownBy w' v.ownBlock → (v'.ownBlock = v.ownBlock ∨ v'.ownBlock = some w.heap.size) → wpList P ops Q rest (a.put o.dst v') w') :
    wpList P ops Q (o :: rest) a w := by
  rcases A with _ | ad
  · obtain ⟨rfl, rfl⟩ := hnil rfl
    refine wpList_append_own_none hgd s x t ho base e i size ht hi v n xs hs hown hx (h v w ?_ ⟨rfl, rfl, rfl, Nat.le_refl _, fun _ _ _ => rfl⟩ (Or.inl rfl))
    have : news = [] := List.eq_nil_of_length_eq_zero (by simpa using hl)
    rw [this, List.append_nil, Nat.add_zero]
    exact hown
  · exact wpList_append_own_at w hgd s x t ho base e i z size bytes ht hi hz hsize hby hzs hsz v n xs hs hown ad m c news hx hl (hnews ad rfl) h1 h63 hbytes hbase (fun v' w' h1 h2 _ h4 => h v' w' h1 h2 h4)

theorem lrow_of_own {w : World} {B n : Nat} {v : Value} {l : List Nat} (h : w.ownsRow B 3 1 v n (intsL l)) :
    ∃ A cap, v = .slice A n cap ∧ LRow w A n l ∧ (∀ ad, A = some ad → B ≤ ad.block ∧ ad.block < w.heap.size ∧ ∃ g, ad = ⟨g, 0, none⟩) ∧ (A = none → n = 0 ∧ cap = 0) ∧ n ≤ cap ∧ cap ≤ maxLen := by
  have hl : l.length = n := by have := h.1; unfold intsL at this; rw [List.length_map] at this; omega
  rcases h.2 with ⟨rfl, rfl⟩ | ⟨g, cap, cur, rfl, hB, hh, hc, hm, _, htk⟩
  · exact ⟨none, 0, rfl, ⟨hl.symm, fun i hi => by omega⟩, fun ad e => by simp at e, fun _ => ⟨rfl, rfl⟩, by omega, by unfold maxLen; omega⟩
  · refine ⟨some ⟨g, 0, none⟩, cap, rfl, ⟨hl.symm, fun i hi => ⟨_, rfl, lt_of_block hh, ?_⟩⟩, (fun ad e => by cases e; exact ⟨hB, lt_of_block hh, _, rfl⟩), (fun e => by cases e), hc, hm⟩
    rw [add_zero', cell_of_block hh i]
    have e := congrArg (fun q : List Value => q[i]?) htk
    simp only [Nat.mul_one, List.getElem?_take, hi, if_true, Array.getElem?_toList] at e
    rw [e]
    unfold intsL
    rw [List.getElem?_map, List.getElem?_eq_getElem (by omega), List.getD_eq_getElem?_getD, List.getElem?_eq_getElem (by omega)]
    rfl
theorem intsL_append (l m : List Nat) : intsL l ++ intsL m = intsL (l ++ m) := by unfold intsL; rw [List.map_append]
theorem intsL_one (l : List Nat) : ∀ u ∈ intsL l, u.oneCell' = true := by
  intro u hu; unfold intsL at hu; rw [List.mem_map] at hu; obtain ⟨i, _, rfl⟩ := hu; rfl
theorem ints1 (W : World) (x : Nat) (t : TypeId) : ∀ j u, (intsL [x])[j]? = some u → (W.alloc (.cells #[.int .i64 ((x : Nat) : Int)] t)).cell? ((⟨W.heap.size, 0, none⟩ : Addr).add j) = some u := cell_one_new W _ t

def inBit (n : Nat) (f : Nat → Nat) (a : Nat) : Nat := if a < 8 * n then f (a / 8) / 2 ^ (7 - a % 8) % 2 else 0
def leftL (n : Nat) (f : Nat → Nat) (a : Nat) : List Nat := (List.range (8 * n - a)).map fun i => inBit n f (a + i)
theorem leftL_length (n : Nat) (f : Nat → Nat) (a : Nat) : (leftL n f a).length = 8 * n - a := by unfold leftL; simp
theorem leftL_at {n a i : Nat} {f : Nat → Nat} (h : i < 8 * n - a) : (leftL n f a).getD i 0 = inBit n f (a + i) := by
  unfold leftL
  rw [List.getD_eq_getElem?_getD, List.getElem?_map, List.getElem?_range h]; rfl
end Go.Proofs.Ytpnlcnilhlcfpaa
