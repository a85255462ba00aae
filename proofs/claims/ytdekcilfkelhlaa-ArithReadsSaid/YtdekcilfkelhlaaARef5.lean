/- The reference: out. -/
import Derived.Test.YtdekcilfkelhlaaARef4
import Derived.Laws.AppendOwnNone
set_option linter.unusedVariables false
namespace Go.Proofs.Ytdekcilfkelhlaa
open Go.RowKit

/-- append onto a row of one's own of any row, or of none. -/
theorem wpList_append_any {P : Program} {w : World} {ops : Array Oper} {rest : List Oper} {o : Oper} {a : Act} {Q : Exit → Act → World → Prop} (hgd : o.guard = none) (s x : Operand) (t : TypeId)
    (ho : o.op = .call { callee := .builtin .append, args := #[s, x], argTypes := #[t, t] })
    (base : Nat) (e : TypeId) (i : TypeInfo) (z : Value) (size bytes : Nat) (ht : P.underlying t = some (.slice e)) (hi : P.info? e = some i) (hz : i.zero = some z)
    (hsize : i.size = size) (hby : i.bytes = bytes) (hzs : z.cells.size = size) (hsz : 0 < size)
    (v : Value) (n : Nat) (xs : List Value) (hs : a.eval s = v) (hown : w.ownsRow base e size v n xs)
    (A : Option Addr) (m c : Nat) (news : List Value) (hx : a.eval x = .slice A m c) (hl : news.length = m * size) (hnews : ∀ ad, A = some ad → ∀ j u, news[j]? = some u → w.cell? (ad.add j) = some u) (hnil : A = none → m = 0 ∧ c = 0) (h1 : ∀ u ∈ news, u.oneCell' = true)
    (h63 : n + m ≤ maxLen) (hbytes : (n + m) * bytes ≤ 140737488355328) (hbase : base ≤ w.heap.size)
    (h : ∀ v' w', w'.ownsRow base e size v' (n + m) (xs ++ news) → w.grownBy w' v.ownBlock → (v'.ownBlock = v.ownBlock ∨ v'.ownBlock = some w.heap.size) → wpList P ops Q rest (a.put o.dst v') w') :
    wpList P ops Q (o :: rest) a w := by
  rcases A with _ | ad
  · obtain ⟨rfl, rfl⟩ := hnil rfl
    refine wpList_append_own_none hgd s x t ho base e i size ht hi v n xs hs hown hx (h v w ?_ ⟨rfl, rfl, rfl, Nat.le_refl _, fun _ _ _ => rfl⟩ (Or.inl rfl))
    have : news = [] := List.eq_nil_of_length_eq_zero (by simpa using hl)
    rw [this, List.append_nil, Nat.add_zero]
    exact hown
  · exact wpList_append_own_at w hgd s x t ho base e i z size bytes ht hi hz hsize hby hzs hsz v n xs hs hown ad m c news hx hl (hnews ad rfl) h1 h63 hbytes hbase (fun v' w' h1 h2 _ h4 => h v' w' h1 h2 h4)

theorem lrow_of_own {w : World} {B n : Nat} {v : Value} {l : List Nat} (h : w.ownsRow B 3 1 v n (intsL l)) :
    ∃ A cap, v = .slice A n cap ∧ LRow w A n l ∧ (∀ ad, A = some ad → B ≤ ad.block ∧ ad.block < w.heap.size) ∧ (A = none → n = 0 ∧ cap = 0) ∧ n ≤ cap ∧ cap ≤ maxLen := by
  have hl : l.length = n := by have := h.1; unfold intsL at this; rw [List.length_map] at this; omega
  rcases h.2 with ⟨rfl, rfl⟩ | ⟨g, cap, cur, rfl, hB, hh, hc, hm, _, htk⟩
  · exact ⟨none, 0, rfl, ⟨hl.symm, fun i hi => by omega⟩, fun ad e => by simp at e, fun _ => ⟨rfl, rfl⟩, by omega, by unfold maxLen; omega⟩
  · refine ⟨some ⟨g, 0, none⟩, cap, rfl, ⟨hl.symm, fun i hi => ⟨_, rfl, lt_of_block hh, ?_⟩⟩, (fun ad e => by cases e; exact ⟨hB, lt_of_block hh⟩), (fun e => by cases e), hc, hm⟩
    rw [add_zero', cell_of_block hh i]
    have e := congrArg (fun q : List Value => q[i]?) htk
    simp only [Nat.mul_one, List.getElem?_take, hi, if_true, Array.getElem?_toList] at e
    rw [e]
    unfold intsL
    rw [List.getElem?_map, List.getElem?_eq_getElem (by omega), List.getD_eq_getElem?_getD, List.getElem?_eq_getElem (by omega)]
    rfl
theorem LRow.news {w : World} {A : Option Addr} {n : Nat} {l : List Nat} (h : LRow w A n l) {w' : World} (hb : Below w.heap.size w w') : ∀ ad, A = some ad → ∀ j u, (intsL l)[j]? = some u → w'.cell? (ad.add j) = some u := by
  intro ad e j u hu
  have hj : j < n := by
    rcases Nat.lt_or_ge j n with hj | hj
    · exact hj
    · unfold intsL at hu
      rw [List.getElem?_eq_none (by rw [List.length_map, ← h.1]; exact hj)] at hu; cases hu
  obtain ⟨ad', e', _, hc⟩ := (h.below hb).2 j hj
  obtain rfl : ad = ad' := Option.some.inj (e.symm.trans e')
  rw [hc, ← hu]
  unfold intsL
  rw [List.getElem?_map, List.getElem?_eq_getElem (by rw [← h.1]; exact hj), List.getD_eq_getElem?_getD, List.getElem?_eq_getElem (by rw [← h.1]; exact hj)]
  rfl
theorem heap_new2 (w : World) (a b c : Obj) : (((w.alloc a).alloc b).alloc c).heap[w.heap.size + 1 + 1]? = some c := by
  have e : ((w.alloc a).alloc b).heap.size = w.heap.size + 1 + 1 := by simp
  rw [← e]; exact heap_alloc_new _ _
def outL (l : List Nat) (b n i : Nat) : List Nat := l ++ [b] ++ List.replicate i n
theorem rep_more (l : List Nat) (b n i : Nat) : outL l b n i ++ [n] = outL l b n (i + 1) := by unfold outL; rw [List.replicate_succ', List.append_assoc (l ++ [b])]
theorem intsL_append (l m : List Nat) : intsL l ++ intsL m = intsL (l ++ m) := by unfold intsL; rw [List.map_append]
theorem intsL_one (l : List Nat) : ∀ u ∈ intsL l, u.oneCell' = true := by
  intro u hu; unfold intsL at hu; rw [List.mem_map] at hu; obtain ⟨i, _, rfl⟩ := hu; rfl
theorem ints1 (W : World) (x : Nat) (t : TypeId) : ∀ j u, (intsL [x])[j]? = some u → (W.alloc (.cells #[.int .i64 ((x : Nat) : Int)] t)).cell? ((⟨W.heap.size, 0, none⟩ : Addr).add j) = some u := cell_one_new W _ t

set_option maxRecDepth 100000 in
set_option maxHeartbeats 1000000 in
theorem out_ok {lo hi dl on oc num im ic : Nat} {oA iA : Option Addr} {l : List Nat} (bit nb : Nat) (w : World) (h : LRow w oA on l) (hnil : oA = none → on = 0 ∧ oc = 0) (hb : bit + nb = 1) (hl : on + dl ≤ 1000000) :
    Calls Try.prog 57 #[rV lo hi dl oA on oc num iA im ic, .int .i64 (bit : Nat)] w fun e w' => ∃ A' oc', e = .returned (rV lo hi 0 A' (on + 1 + dl) oc' num iA im ic) ∧ LRow w' A' (on + 1 + dl) (outL l bit nb dl) ∧ (∀ ad, A' = some ad → w.heap.size ≤ ad.block ∧ ad.block < w'.heap.size) ∧ (A' = none → on + 1 + dl = 0 ∧ oc' = 0) ∧ Below w.heap.size w w' := by
  unfold rV
  obtain ⟨i0, hi1, hz0, hz1, hz2⟩ := info_parts info3'
  have HI := Lib.hid (And.intro hi1 (And.intro hz0 (And.intro hz1 hz2))); clear hi1 hz0 hz1 hz2
  have hnb : (1 : Int) - (bit : Int) = (nb : Nat) := by omega
  have hlen := h.1
  have hnews := fun w' hb => h.news (w' := w') hb
  have H := Lib.hid (And.intro hnews (And.intro hnil (And.intro hlen hnb))); clear hnews hnil hlen h hnb
  go_enter Try.func57, Try.ntmps57
  go_wp2_with (at_builtin; refine wpList_append_any rfl (.tmp 7) (.tmp 9) 48 rfl (w.heap.size + 2) 3 i0 (.int .i64 0) 1 8 Try.underlying48 HI.out.1 HI.out.2.1 HI.out.2.2.1 HI.out.2.2.2 rfl (by decide) _ 0 [] rfl ?c0 oA on oc (intsL l) rfl ?c1 ?c2 ?c3 ?c4 ?c5 ?c6 ?c7 ?_)
  case c0 =>
    refine ⟨rfl, Or.inr ⟨_, 0, #[], rfl, by simp, ?_, Nat.le_refl _, by unfold maxLen; omega, rfl, rfl⟩⟩
    exact heap_new2 _ _ _ _
  case c1 => unfold intsL; rw [List.length_map, H.out.2.2.1, Nat.mul_one]
  case c2 => exact H.out.1 _ ((((Below.refl _ _).alloc (Nat.le_refl _) _).alloc (by simp) _).alloc (by simp; omega) _)
  case c3 => exact H.out.2.1
  case c4 => exact intsL_one l
  case c5 => unfold maxLen; omega
  case c6 => omega
  case c7 => simp
  intro v1 w1 hown1 hg1 hat1
  obtain ⟨w2, ew2⟩ : ∃ w2 : World, w2 = (w.alloc (Obj.cells #[.int .i64 (lo : Nat), .int .i64 (hi : Nat), .int .i64 (dl : Nat), .slice oA on oc, .int .i64 (num : Nat), .slice iA im ic] 53)).alloc (Obj.cells #[.int .i64 0, .int .i64 0, .int .i64 0, .slice none 0 0, .int .i64 0, .slice none 0 0] 53) := ⟨_, rfl⟩
  have hs2 : w2.heap.size = w.heap.size + 2 := by rw [ew2]; simp
  have hb2 : Below w.heap.size w w2 := by rw [ew2]; exact ((Below.refl _ _).alloc (Nat.le_refl _) _).alloc (by simp) _
  have hk1 : w2.heap[w.heap.size]? = some (Obj.cells #[.int .i64 (lo : Nat), .int .i64 (hi : Nat), .int .i64 (dl : Nat), .slice oA on oc, .int .i64 (num : Nat), .slice iA im ic] 53 (0, 0)) := by
    rw [ew2]; exact (Below.block ((Below.refl _ _).alloc (Nat.le_refl _) _) _ (by simp)).trans (heap_alloc_new w _)
  have hk2 : w2.heap[w.heap.size + 1]? = some (Obj.cells #[.int .i64 0, .int .i64 0, .int .i64 0, .slice none 0 0, .int .i64 0, .slice none 0 0] 53 (0, 0)) := by
    rw [ew2]; have := heap_alloc_new (w.alloc (Obj.cells #[.int .i64 (lo : Nat), .int .i64 (hi : Nat), .int .i64 (dl : Nat), .slice oA on oc, .int .i64 (num : Nat), .slice iA im ic] 53)) (Obj.cells #[.int .i64 0, .int .i64 0, .int .i64 0, .slice none 0 0, .int .i64 0, .slice none 0 0] 53); simpa using this
  rw [← ew2] at hg1
  clear ew2
  have hb1 : Below (w.heap.size + 2) w2 w1 := ((Below.refl _ _).alloc (by omega) _).grown hg1 (by simp; omega) (by intro q hq; simp [Value.ownBlock] at hq; omega)
  have hz1 : w.heap.size + 2 ≤ w1.heap.size := by have := hb1.size; omega
  have H1 := Lib.hid (And.intro hown1 (And.intro hb1 (And.intro hk1 (And.intro hk2 (And.intro hb2 hs2))))); clear hown1 hb1 hk1 hk2 hb2 hs2 hg1 hat1
  go_wp2_with (at_builtin; refine wpList_append_own_at _ rfl (.tmp 10) (.tmp 12) 48 rfl (w.heap.size + 2) 3 i0 (.int .i64 0) 1 8 Try.underlying48 HI.out.1 HI.out.2.1 HI.out.2.2.1 HI.out.2.2.2 rfl (by decide) _ _ _ rfl (H1.out.1.alloc _) ⟨w1.heap.size, 0, none⟩ 1 1 (intsL [bit]) rfl ?c0 ?c1 ?c2 ?c3 ?c4 ?c5 ?_)
  case c0 => simp [intsL]
  case c1 => exact ints1 _ _ _
  case c2 => exact intsL_one _
  case c3 => unfold maxLen; omega
  case c4 => omega
  case c5 => simp; omega
  intro v3 w3 hown3 hg3 _ hat3
  rw [intsL_append] at hown3
  have hb3 : Below (w.heap.size + 2) w2 w3 := (H1.out.2.1.alloc (by omega) _).grown hg3 (by simp; omega) (fun q hq => (own_lt H1.out.1 hq).2)
  have H3 := Lib.hid (And.intro hown3 hb3); clear hown3 hb3 hg3 hat3
  go_wp2_with fail
  go_loopg [5, 6] dl (fun gh ov iv wr => ∃ i : Nat, gh = dl - i ∧ i ≤ dl ∧ iv = .int .i64 (i : Nat) ∧ (wr.ownsRow (w.heap.size + 2) 3 1 ov (on + 1 + i) (intsL (outL l bit nb i)) ∧ Below (w.heap.size + 2) w2 wr))
  case atStart => exact ⟨0, rfl, by omega, rfl, by unfold outL; rw [List.replicate_zero, List.append_nil]; exact H3.out.1, H3.out.2⟩
  case round =>
    obtain ⟨i, hgh, hi, rfl, hR⟩ := hrel
    have Hgh := Lib.hid hgh; clear hgh
    have HR := Lib.hid hR; clear hR
    have c2 : wr.cell? ⟨w.heap.size, 2, none⟩ = some (.int .i64 (dl : Nat)) := (cell_of_block ((HR.out.2.block _ (by omega)).trans H1.out.2.2.1) 2).trans rfl
    by_cases hlt : i < dl
    · have hx := H.out.2.2.2
      have hz : w.heap.size + 2 ≤ wr.heap.size := by have := HR.out.2.size; have := H1.out.2.2.2.2.2; omega
      go_wp2_with (at_builtin; refine wpList_append_own_at _ rfl (.tmp 20) (.tmp 23) 48 rfl (w.heap.size + 2) 3 i0 (.int .i64 0) 1 8 Try.underlying48 HI.out.1 HI.out.2.1 HI.out.2.2.1 HI.out.2.2.2 rfl (by decide) _ _ _ rfl (HR.out.1.alloc _) ⟨wr.heap.size, 0, none⟩ 1 1 (intsL [nb]) rfl ?c0 ?c1 ?c2 ?c3 ?c4 ?c5 ?_)
      case c0 => simp [intsL]
      case c1 => first | exact ints1 _ _ _ | (rw [hx]; exact ints1 _ _ _)
      case c2 => exact intsL_one _
      case c3 => unfold maxLen; omega
      case c4 => omega
      case c5 => simp; omega
      intro v5 w5 hown5 hg5 _ hat5
      rw [intsL_append] at hown5
      have hb5 : Below (w.heap.size + 2) w2 w5 := (HR.out.2.alloc (by have := H1.out.2.2.2.2.2; omega) _).grown hg5 (by simp; omega) (fun q hq => (own_lt HR.out.1 hq).2)
      have H5 := Lib.hid (And.intro hown5 hb5); clear hown5 hb5 hg5 hat5 hx
      go_wp2_with fail
      go_roundg (dl - (i + 1))
      case measure => have := Hgh.out; omega
      case rel =>
        refine ⟨i + 1, rfl, by omega, by go_num, ?_, H5.out.2⟩
        have := H5.out.1
        rw [rep_more] at this
        exact this
    · obtain rfl : i = dl := by omega
      clear hlt hi
      obtain ⟨A', oc', rfl, hlr, hblk, hnil, hc1, hc2⟩ := lrow_of_own HR.out.1
      have k1 := (HR.out.2.block _ (by omega)).trans H1.out.2.2.1
      have k2 := (HR.out.2.block _ (by omega)).trans H1.out.2.2.2.1
      have hbw := then_ H1.out.2.2.2.2.1 (HR.out.2.mono (by have := H1.out.2.2.2.2.2; omega))
      have HE := Lib.hid (And.intro hlr (And.intro hblk (And.intro hnil (And.intro hc1 (And.intro hc2 hbw))))); clear hlr hblk hnil hc1 hc2 hbw HR c2
      have c0 := (cell_of_block k1 0).trans rfl
      have c1 := (cell_of_block k1 1).trans rfl
      have c2 := (cell_of_block k1 2).trans rfl
      have c3 := (cell_of_block k1 3).trans rfl
      have c4 := (cell_of_block k1 4).trans rfl
      have c5 := (cell_of_block k1 5).trans rfl
      have d0 := (cell_of_block k2 0).trans rfl
      have d1 := (cell_of_block k2 1).trans rfl
      have d2 := (cell_of_block k2 2).trans rfl
      have d3 := (cell_of_block k2 3).trans rfl
      have d4 := (cell_of_block k2 4).trans rfl
      have d5 := (cell_of_block k2 5).trans rfl
      have f2 := free_of_block k1 2
      have f3 := free_of_block k1 3
      have e0 := free_of_block k2 0
      have e1 := free_of_block k2 1
      have e2 := free_of_block k2 2
      have e3 := free_of_block k2 3
      have e4 := free_of_block k2 4
      have e5 := free_of_block k2 5
      clear k1 k2
      go_wp2_with fail
      have hbe : Below w.heap.size w ((((((((wr.setCell ⟨w.heap.size, 3, none⟩ (.slice A' (on + 1 + i) oc')).setCell ⟨w.heap.size, 2, none⟩ (.int .i64 0)).setCell ⟨w.heap.size + 1, 0, none⟩ (.int .i64 (lo : Nat))).setCell ⟨w.heap.size + 1, 1, none⟩ (.int .i64 (hi : Nat))).setCell ⟨w.heap.size + 1, 2, none⟩ (.int .i64 0)).setCell ⟨w.heap.size + 1, 3, none⟩ (.slice A' (on + 1 + i) oc')).setCell ⟨w.heap.size + 1, 4, none⟩ (.int .i64 (num : Nat))).setCell ⟨w.heap.size + 1, 5, none⟩ (.slice iA im ic)) := by
        have h0 := HE.out.2.2.2.2.2
        have a := h0.setCell (p := ⟨w.heap.size, 3, none⟩) (Nat.le_refl _) (.slice A' (on + 1 + i) oc')
        have a := a.setCell (p := ⟨w.heap.size, 2, none⟩) (Nat.le_refl _) (.int .i64 0)
        have a := a.setCell (p := ⟨w.heap.size + 1, 0, none⟩) (Nat.le_succ _) (.int .i64 (lo : Nat))
        have a := a.setCell (p := ⟨w.heap.size + 1, 1, none⟩) (Nat.le_succ _) (.int .i64 (hi : Nat))
        have a := a.setCell (p := ⟨w.heap.size + 1, 2, none⟩) (Nat.le_succ _) (.int .i64 0)
        have a := a.setCell (p := ⟨w.heap.size + 1, 3, none⟩) (Nat.le_succ _) (.slice A' (on + 1 + i) oc')
        have a := a.setCell (p := ⟨w.heap.size + 1, 4, none⟩) (Nat.le_succ _) (.int .i64 (num : Nat))
        exact a.setCell (p := ⟨w.heap.size + 1, 5, none⟩) (Nat.le_succ _) (.slice iA im ic)
      have hbl : ∀ q, w.heap.size + 2 ≤ q → ((((((((wr.setCell ⟨w.heap.size, 3, none⟩ (.slice A' (on + 1 + i) oc')).setCell ⟨w.heap.size, 2, none⟩ (.int .i64 0)).setCell ⟨w.heap.size + 1, 0, none⟩ (.int .i64 (lo : Nat))).setCell ⟨w.heap.size + 1, 1, none⟩ (.int .i64 (hi : Nat))).setCell ⟨w.heap.size + 1, 2, none⟩ (.int .i64 0)).setCell ⟨w.heap.size + 1, 3, none⟩ (.slice A' (on + 1 + i) oc')).setCell ⟨w.heap.size + 1, 4, none⟩ (.int .i64 (num : Nat))).setCell ⟨w.heap.size + 1, 5, none⟩ (.slice iA im ic)).heap[q]? = wr.heap[q]? := by
        intro q hq
        have n1 : q ≠ w.heap.size := by omega
        have n2 : q ≠ w.heap.size + 1 := by omega
        iterate 8 rw [Below.heap_setCell _ _ _ _ (by assumption)]
      have hsz := hbe.size
      obtain ⟨wz, ewz⟩ : ∃ wz : World, wz = ((((((((wr.setCell ⟨w.heap.size, 3, none⟩ (.slice A' (on + 1 + i) oc')).setCell ⟨w.heap.size, 2, none⟩ (.int .i64 0)).setCell ⟨w.heap.size + 1, 0, none⟩ (.int .i64 (lo : Nat))).setCell ⟨w.heap.size + 1, 1, none⟩ (.int .i64 (hi : Nat))).setCell ⟨w.heap.size + 1, 2, none⟩ (.int .i64 0)).setCell ⟨w.heap.size + 1, 3, none⟩ (.slice A' (on + 1 + i) oc')).setCell ⟨w.heap.size + 1, 4, none⟩ (.int .i64 (num : Nat))).setCell ⟨w.heap.size + 1, 5, none⟩ (.slice iA im ic)) := ⟨_, rfl⟩
      have z0 : wz.cell? ⟨w.heap.size + 1, 0, none⟩ = some (.int .i64 (lo : Nat)) := by rw [ewz]; simp [go_sem, d0, d1, d2, d3, d4, d5]
      have z1 : wz.cell? ⟨w.heap.size + 1, 1, none⟩ = some (.int .i64 (hi : Nat)) := by rw [ewz]; simp [go_sem, d0, d1, d2, d3, d4, d5]
      have z2 : wz.cell? ⟨w.heap.size + 1, 2, none⟩ = some (.int .i64 0) := by rw [ewz]; simp [go_sem, d0, d1, d2, d3, d4, d5]
      have z3 : wz.cell? ⟨w.heap.size + 1, 3, none⟩ = some (.slice A' (on + 1 + i) oc') := by rw [ewz]; simp [go_sem, d0, d1, d2, d3, d4, d5]
      have z4 : wz.cell? ⟨w.heap.size + 1, 4, none⟩ = some (.int .i64 (num : Nat)) := by rw [ewz]; simp [go_sem, d0, d1, d2, d3, d4, d5]
      have z5 : wz.cell? ⟨w.heap.size + 1, 5, none⟩ = some (.slice iA im ic) := by rw [ewz]; simp [go_sem, d0, d1, d2, d3, d4, d5]
      rw [← ewz] at hbe hbl ⊢
      have hwz : wr.heap.size ≤ wz.heap.size := by rw [ewz]; simp [World.setCell]
      clear ewz
      refine bodyPost_ret (v := .agg #[.int .i64 (lo : Nat), .int .i64 (hi : Nat), .int .i64 0, .slice A' (on + 1 + i) oc', .int .i64 (num : Nat), .slice iA im ic]) (by simp [results, Try.results57, go_sem, z0, z1, z2, z3, z4, z5]) rfl ⟨A', oc', rfl, ?_, ?_, HE.out.2.2.1, hbe⟩
      · refine ⟨HE.out.1.1, fun j hj => ?_⟩
        obtain ⟨ad, e, hlt, hc⟩ := HE.out.1.2 j hj
        have hge := (HE.out.2.1 ad e).1
        exact ⟨ad, e, Nat.lt_of_lt_of_le hlt hwz, (World.cell?_of_block (w := wr) (hbl _ (by rw [add_block]; exact hge))).trans hc⟩
      · intro ad e
        have := HE.out.2.1 ad e
        omega
end Go.Proofs.Ytdekcilfkelhlaa
