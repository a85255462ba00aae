/- ArithOrder. -/
import Derived.Test.YtdekcilfkelhlaaAOwn
import Derived.Test.YtdekcilfkelhlaaACompare
import Derived.Test.YtdekcilfkelhlaaAInverse
set_option linter.unusedVariables false
namespace Go.Proofs.Ytdekcilfkelhlaa
open Go.RowKit

/-- The items of the two sequences. -/
def itP (t : Its) : Its := ⟨fun _ => 0, t.mm, fun i => fitS 0 (t.mm i) (t.ss i)⟩
def itQ (t t2 : Its) (k n2 : Nat) : Its := ⟨fun _ => 0, t.mm, fun i => fitS 0 (t.mm i) (if k ≤ i ∧ i < n2 then t2.ss i else (itP t).ss i)⟩
theorem itP_ok {t : Its} {m : Nat} (h : t.bd m) : (itP t).ok m ∧ (itP t).bd m := by
  refine ⟨fun i hi hk => ?_, fun i hi => ?_⟩
  · obtain ⟨_, _, a, b⟩ := h i hi
    exact (fit_bd 0 (t.mm i) (t.ss i) a b).1 (by decide)
  · obtain ⟨_, a2, a, b⟩ := h i hi
    have := (fit_bd 0 (t.mm i) (t.ss i) a b).2
    exact ⟨by show 0 < 256; decide, a2, this.1, this.2⟩
theorem itQ_in {t t2 : Its} {m n2 k i : Nat} (h : t.bd m) (h2 : t2.bd n2) (hi : i < m) : -9223372036854775808 ≤ (if k ≤ i ∧ i < n2 then t2.ss i else (itP t).ss i) ∧ (if k ≤ i ∧ i < n2 then t2.ss i else (itP t).ss i) ≤ 9223372036854775807 := by
  split
  · rename_i hc
    exact (h2 i hc.2).2.2
  · exact ((itP_ok h).2 i hi).2.2
theorem itQ_ok {t t2 : Its} {m n2 k : Nat} (h : t.bd m) (h2 : t2.bd n2) : (itQ t t2 k n2).ok m ∧ (itQ t t2 k n2).bd m := by
  refine ⟨fun i hi hk => ?_, fun i hi => ?_⟩
  · obtain ⟨a, b⟩ := itQ_in (k := k) h h2 hi
    exact (fit_bd 0 (t.mm i) _ a b).1 (by decide)
  · obtain ⟨a, b⟩ := itQ_in (k := k) h h2 hi
    have := (fit_bd 0 (t.mm i) _ a b).2
    exact ⟨by show 0 < 256; decide, (h i hi).2.1, this.1, this.2⟩
theorem seqTo_congr {o r : Nat → List Op} {m : Nat} (h : ∀ i, i < m → o i = r i) : seqTo o m = seqTo r m := by
  induction m with
  | zero => rfl
  | succ m ih => rw [seqTo_succ, seqTo_succ, ih (fun i hi => h i (by omega)), h m (by omega)]
theorem fit_st {t : Its} {m : Nat} (h : t.ok m) : t.fit.st m = encTo fr0 t.ops m := by
  show steps zbit (st0, fr0) (seqTo t.fit.ops m) = steps zbit (st0, fr0) (seqTo t.ops m)
  rw [seqTo_congr (r := t.ops) (fun i hi => ?_)]
  show opsOf (t.kd i) (t.mm i) (fitS (t.kd i) (t.mm i) (t.ss i)) = _
  rw [fit_same _ _ _ (h i hi)]
  rfl
theorem pad_begins {code : List Bool} {n N : Nat} {f : Nat → Nat} (hn : n = nbytes code) (hf : f = M.byteOf code) (hN : n ≤ N) : Begins (inBit N (padF n f)) code := by
  subst hn hf
  exact begins_bytes hN (fun i hi => if_pos hi)
theorem pad_lt {code : List Bool} {n : Nat} {f : Nat → Nat} (hf : f = M.byteOf code) (i : Nat) : padF n f i < 256 := by
  subst hf
  unfold padF
  split
  · exact M.byteOf_lt _ _
  · decide
/-- What the comparison says. -/
theorem order_law {t t2 : Its} {m n2 k : Nat} (h : t.bd m) (h2 : t2.bd n2) {na nb N : Nat} {fa fb : Nat → Nat} (ha : na = nbytes (endBits ((itP t).fit.st m).1)) (hfa : fa = M.byteOf (endBits ((itP t).fit.st m).1)) (hb : nb = nbytes (endBits ((itQ t t2 k n2).fit.st m).1)) (hfb : fb = M.byteOf (endBits ((itQ t t2 k n2).fit.st m).1)) (haN : na ≤ N) (hbN : nb ≤ N) {i : Nat} (hi : i ≤ m) (hs : ∀ j, j < i → (itP t).ss j = (itQ t t2 k n2).ss j) :
    (i = m → Lib.compareBytes (listF N (padF na fa)) (listF N (padF nb fb)) = 0) ∧
    (i < m → (itP t).ss i < (itQ t t2 k n2).ss i → Lib.compareBytes (listF N (padF na fa)) (listF N (padF nb fb)) = -1) ∧
    (i < m → (itQ t t2 k n2).ss i < (itP t).ss i → Lib.compareBytes (listF N (padF na fa)) (listF N (padF nb fb)) = 1) := by
  have p1 := (itP_ok h).1
  have q1 := (itQ_ok (k := k) h h2).1
  rw [fit_st p1] at ha hfa
  rw [fit_st q1] at hb hfb
  have fp : ∀ j, j < m → ∀ p, p ∈ (itP t).ops j → Fit ksz p := fun j hj => (opsOf_fit _ _ _ (p1 j hj)).1
  have fq : ∀ j, j < m → ∀ p, p ∈ (itQ t t2 k n2).ops j → Fit ksz p := fun j hj => (opsOf_fit _ _ _ (q1 j hj)).1
  have op : ∀ j, (itP t).ops j = [(6 + t.mm j % 5, ((itP t).ss j).toNat)] := fun j => by
    show opsOf 0 (t.mm j) ((itP t).ss j) = _
    unfold opsOf; rw [if_neg (by decide)]
  have oq : ∀ j, (itQ t t2 k n2).ops j = [(6 + t.mm j % 5, ((itQ t t2 k n2).ss j).toNat)] := fun j => by
    show opsOf 0 (t.mm j) ((itQ t t2 k n2).ss j) = _
    unfold opsOf; rw [if_neg (by decide)]
  have same : ∀ j, j < i → (itP t).ops j = (itQ t t2 k n2).ops j := fun j hj => by rw [op, oq, hs j hj]
  have bp := pad_begins ha hfa haN
  have bq := pad_begins hb hfb hbN
  refine ⟨fun e => ?_, fun hlt hl => ?_, fun hlt hl => ?_⟩
  · subst e
    have e2 : encTo fr0 (itP t).ops i = encTo fr0 (itQ t t2 k n2).ops i := by unfold encTo; rw [seqTo_congr same]
    rw [e2] at ha hfa
    rw [ha, hfa, ← hb, ← hfb]
    exact compare_same N _
  · have hx := p1 i hlt (by show 0 % 4 ≠ 3; decide)
    exact (compare_less (fun j _ => pad_lt hfa j) (fun j _ => pad_lt hfb j) (code_less shape0 fp fq bp bq (fun j _ => pad_lt hfa j) (fun j _ => pad_lt hfb j) hlt same (op i) (oq i) (by omega))).1
  · have hx := q1 i hlt (by show 0 % 4 ≠ 3; decide)
    exact (compare_less (fun j _ => pad_lt hfb j) (fun j _ => pad_lt hfa j) (code_less shape0 fq fp bq bp (fun j _ => pad_lt hfb j) (fun j _ => pad_lt hfa j) hlt (fun j hj => (same j hj).symm) (oq i) (op i) (by omega))).2
/-- A row of bytes of one's own: its shape. -/
theorem upart_shape {w : World} {B n : Nat} {v : Value} {f : Nat → Nat} (h : w.ownsRow B 5 1 v n (bytesL n f)) (hn : 1 ≤ n) : ∃ g cap cur, v = .slice (some ⟨g, 0, none⟩) n cap ∧ w.heap[g]? = some (.cells cur 5 (0, 0)) ∧ n ≤ cap ∧ cur.size = cap ∧ ∀ i, i < n → cur[i]? = some (.int .u8 ((f i : Nat) : Int)) := by
  rcases h.2 with ⟨_, h0⟩ | ⟨g, cap, cur, rfl, hB, hh, h1, h2, h3, htk⟩
  · omega
  · refine ⟨g, cap, cur, rfl, hh, h1, by omega, fun i hi => ?_⟩
    have e := congrArg (fun q : List Value => q[i]?) htk
    simp only [Nat.mul_one, List.getElem?_take, hi, if_true, Array.getElem?_toList, bytesL, List.getElem?_map, List.getElem?_range hi, Option.map_some] at e
    exact e
theorem zeros_part {w0 w : World} {l : List Part} {B n k g cap : Nat} {f : Nat → Nat} {ty : TypeId} (h : Ses w0 w (uPart B (.slice (some ⟨g, 0, none⟩) n cap) n f :: l)) (hn1 : 1 ≤ n) (hn : n ≤ 1000000) (hk : k ≤ 1000000) :
    ∃ A' cap' G' w', (Builtin.append_ #[22, 3] ty #[.slice (some ⟨g, 0, none⟩) n cap, .int .i64 (k : Nat)]).run Try.prog w = .ok (.slice A' (n + k) cap') w' ∧ Ses w0 w' (bPart G' A' (n + k) (padF n f) :: l) := by
  have ho : w.ownsRow B 5 1 (.slice (some ⟨g, 0, none⟩) n cap) n (bytesL n f) := h.sep.head
  obtain ⟨g2, cap2, cur, e, hh, h1, h2, h3⟩ := upart_shape ho hn1
  injection e with e1 _ e3
  injection e1 with e1
  injection e1 with e1
  subst e1 e3
  obtain ⟨A', cap', G', w', r1, r2, r3, r4⟩ := append_zeros (ty := ty) hh h1 hn h2 h3 hk
  refine ⟨A', cap', G', w', r1, h.step1 (p' := bPart G' A' (n + k) (padF n f)) ?_ ⟨r2, r3, fun w2 hs _ => r2.same hs⟩⟩
  have eF : (uPart B (.slice (some ⟨g, 0, none⟩) n cap) n f).F = [g] := rfl
  rw [eF]
  exact r4
end Go.Proofs.Ytdekcilfkelhlaa
