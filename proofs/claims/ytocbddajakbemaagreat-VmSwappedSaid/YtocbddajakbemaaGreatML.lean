/- vm, the front end: the reference's compiler: one, jumps, find, join. vm, the front end: the reference's compiler: find, join. -/
import Derived.Test.YtocbddajakbemaaGreatMK
import Derived.Laws.AppendOwnNone
set_option linter.unusedVariables false
set_option linter.unusedSimpArgs false
set_option linter.unusedSimpArgs false
namespace Go.Proofs.YtocbddajakbemaaGreat
section
open Go.RowKit
abbrev In := Nat × Int
def insC (l : List In) : List Value := l.flatMap fun x => [.int .u8 (x.1 : Nat), .int .i64 x.2]
theorem insC_length (l : List In) : (insC l).length = l.length * 2 := by
  induction l with
  | nil => rfl
  | cons c l ih => show ([_, _] ++ insC l).length = _; rw [List.length_append, ih]; simp; omega
theorem insC_append (a b : List In) : insC (a ++ b) = insC a ++ insC b := by simp [insC]
theorem insC_one (l : List In) : ∀ u ∈ insC l, u.oneCell' = true := by
  intro u hu
  unfold insC at hu
  rw [List.mem_flatMap] at hu
  obtain ⟨c, _, hu⟩ := hu
  simp only [List.mem_cons, List.not_mem_nil, or_false] at hu
  rcases hu with rfl | rfl <;> rfl
theorem insC_at {l : List In} {j : Nat} {x : In} (h : l[j]? = some x) : (insC l)[j * 2]? = some (.int .u8 (x.1 : Nat)) ∧ (insC l)[j * 2 + 1]? = some (.int .i64 x.2) := by
  induction l generalizing j with
  | nil => simp at h
  | cons c l ih =>
    show ([_, _] ++ insC l)[j * 2]? = _ ∧ ([_, _] ++ insC l)[j * 2 + 1]? = _
    rcases j with _ | j
    · simp at h; subst h; exact ⟨rfl, rfl⟩
    · obtain ⟨h1, h2⟩ := ih (by simpa using h)
      refine ⟨?_, ?_⟩
      · rw [List.getElem?_append_right (by simp; omega)]
        simpa [show (j + 1) * 2 - 2 = j * 2 by omega] using h1
      · rw [List.getElem?_append_right (by simp; omega)]
        simpa [show (j + 1) * 2 + 1 - 2 = j * 2 + 1 by omega] using h2
theorem infoIns : (Tryz.prog.info? 104).map (fun i => (i.zero, i.size, i.bytes)) = some (some (.agg #[.int .u8 0, .int .i64 0]), 2, 16) := by kernel_rfl
def Own (w : World) (B : Nat) (v : Value) (l : List In) : Prop := w.ownsRow B 104 2 v l.length (insC l)
theorem one_ok (op : Nat) (a : Int) (w : World) : Calls Tryz.prog 102 #[.int .u8 (op : Nat), .int .i64 a] w fun e w' => ∃ v, e = .returned v ∧ Own w' w.heap.size v [(op, a)] ∧ Below w.heap.size w w' := by
  go_enter Tryz.func102, Tryz.ntmps102
  go_wp2_with fail
  go_ret
  refine ⟨_, rfl, World.ownsRow_lit w #[.int .u8 (op : Nat), .int .i64 a] 1 (Nat.le_refl _) (by decide) rfl, (Below.refl _ _).alloc (Nat.le_refl _) _⟩
theorem jumps_ok (op : Nat) (a : Int) (w : World) : Calls Tryz.prog 103 #[.agg #[.int .u8 (op : Nat), .int .i64 a]] w fun e w' => e = .returned (.bool (decide (11 ≤ op) && decide (op ≤ 13))) ∧ Below w.heap.size w w' := by
  obtain ⟨w1, e1⟩ : ∃ w1, w1 = w.alloc (.cells #[.int .u8 (op : Nat), .int .i64 a] 104 (0, 0)) := ⟨_, rfl⟩
  have hk : w1.heap[w.heap.size]? = some (.cells #[.int .u8 (op : Nat), .int .i64 a] 104 (0, 0)) := by rw [e1]; exact heap_alloc_new w _
  have hb : Below w.heap.size w w1 := by rw [e1]; exact (Below.refl _ _).alloc (Nat.le_refl _) _
  have c0 : w1.cell? ⟨w.heap.size, 0, none⟩ = some (.int .u8 (op : Nat)) := (cell_of_block hk 0).trans rfl
  have HB := Lib.hid hb
  clear hb hk
  by_cases h1 : 11 ≤ op
  · by_cases h2 : op ≤ 13
    · have t1 : (11 : Int) ≤ (op : Int) := by omega
      have t2 : (op : Int) ≤ 13 := by omega
      go_enter Tryz.func103, Tryz.ntmps103
      go_upto_region 1 with fail
      rw [← e1]
      clear e1
      have HD := Lib.hid (And.intro h1 h2)
      clear h1 h2
      go_wp2_with fail
      go_ret
      exact ⟨by rw [decide_eq_true HD.out.1, decide_eq_true HD.out.2]; rfl, HB.out⟩
    · have t1 : (11 : Int) ≤ (op : Int) := by omega
      have t2 : ¬ (op : Int) ≤ 13 := by omega
      go_enter Tryz.func103, Tryz.ntmps103
      go_upto_region 1 with fail
      rw [← e1]
      clear e1
      have HD := Lib.hid (And.intro h1 h2)
      clear h1 h2
      go_wp2_with fail
      go_ret
      exact ⟨by rw [decide_eq_true HD.out.1, decide_eq_false HD.out.2]; rfl, HB.out⟩
  · have t1 : ¬ (11 : Int) ≤ (op : Int) := by omega
    go_enter Tryz.func103, Tryz.ntmps103
    go_upto_region 1 with fail
    rw [← e1]
    clear e1
    have HD := Lib.hid h1
    clear h1
    go_wp2_with fail
    go_ret
    exact ⟨by rw [decide_eq_false HD.out]; rfl, HB.out⟩
def StrsAt (w : World) (A : Option Addr) (l : List ByteArray) : Prop := ∀ (j : Nat) (s : ByteArray), l[j]? = some s → ∃ b, A = some ⟨b, 0, none⟩ ∧ w.cell? ⟨b, j, none⟩ = some (.string s)
theorem StrsAt.below {w w' : World} {B : Nat} {A : Option Addr} {l : List ByteArray} (h : StrsAt w A l) (hb : Below B w w') (hB : B = w.heap.size) : StrsAt w' A l := by
  intro j s hj
  obtain ⟨b, e, hc⟩ := h j s hj
  subst hB
  exact ⟨b, e, (hb.cell (World.block_lt_of_cell? w _ hc)).trans hc⟩
def findM (l : List ByteArray) (s : ByteArray) : Int := if l.findIdx (fun k => k.toList == s.toList) < l.length then ((l.findIdx (fun k => k.toList == s.toList) : Nat) : Int) else -1
end
end Go.Proofs.YtocbddajakbemaaGreat
namespace Go.Proofs.YtocbddajakbemaaGreat
section
open Go.RowKit
set_option maxRecDepth 100000 in
set_option maxHeartbeats 1000000 in
theorem find_ok (l : List ByteArray) (A : Option Addr) (cap : Nat) (s : ByteArray) (hl : l.length ≤ 1000) (w : World) (h : StrsAt w A l) :
    Calls Tryz.prog 101 #[.slice A l.length cap, .string s] w fun e w' => e = .returned (.int .i64 (findM l s)) ∧ w = w' := by
  have hle : l.findIdx (fun k => k.toList == s.toList) ≤ l.length := List.findIdx_le_length
  have H := Lib.hid (And.intro h (And.intro hle hl)); clear h hle hl
  obtain ⟨n, en⟩ : ∃ n, n = l.length := ⟨_, rfl⟩
  rw [← en]
  have HN := Lib.hid en; clear en
  go_enter Tryz.func101, Tryz.ntmps101
  go_wp2_with fail
  go_loopg [5] n (fun gh iv wr => ∃ j : Nat, gh = n - j ∧ j ≤ l.findIdx (fun k => k.toList == s.toList) ∧ iv = .int .i64 (j : Nat) ∧ w = wr)
  case atStart => exact ⟨0, rfl, Nat.zero_le _, rfl, rfl⟩
  case round =>
    obtain ⟨j, rfl, hj, rfl, rfl⟩ := hrel
    obtain ⟨h, hle, hl⟩ := H.out
    have en := HN.out
    by_cases hlt : j < n
    · obtain ⟨x, hx⟩ : ∃ x, l[j]? = some x := ⟨_, List.getElem?_eq_getElem (by omega)⟩
      obtain ⟨b, rfl, c0⟩ := h j x hx
      have hbl := World.block_lt_of_cell? w _ c0
      have i0 : (0 : Int) ≤ (j : Int) := by omega
      have i1 : (j : Int) < (n : Int) := by omega
      have i2 : decide (j < n) = true := decide_eq_true hlt
      have w2 : wrap64 ((j : Int) + 1) = (j : Int) + 1 := by unfold wrap64; omega
      cases ht : (x.toList == s.toList)
      · have hn := fi_next (p := fun k => k.toList == s.toList) hj hx ht
        have HX := Lib.hid (And.intro hn hlt); clear hn hj h hle hl hx hlt en
        go_wp2_with fail
        go_roundg (n - (j + 1))
        case measure => have := HX.out.2; omega
        case rel => exact ⟨j + 1, rfl, HX.out.1, by go_num, rfl⟩
      · have hn := fi_here (p := fun k => k.toList == s.toList) hj hx ht
        have HX := Lib.hid (And.intro hn hlt); clear hn hj h hle hl hx hlt en
        go_wp2_with fail
        go_ret
        refine ⟨?_, rfl⟩
        unfold findM
        rw [HX.out.1, if_pos (by rw [← HN.out]; exact HX.out.2)]
        rfl
    · have hn : l.findIdx (fun k => k.toList == s.toList) = j := by omega
      obtain rfl : j = n := by omega
      have HX := Lib.hid hn; clear hn hj h hle hl hlt en
      go_wp2_with fail
      go_ret
      refine ⟨?_, rfl⟩
      unfold findM
      rw [HX.out, if_neg (by rw [← HN.out]; omega)]
      rfl
def InsAt (w : World) (v : Value) (l : List In) : Prop :=
  (v = .slice none 0 0 ∧ l = []) ∨ ∃ b cap, v = .slice (some ⟨b, 0, none⟩) l.length cap ∧ ∀ j u, (insC l)[j]? = some u → w.cell? ⟨b, j, none⟩ = some u
theorem Own.at_ {w : World} {B : Nat} {v : Value} {l : List In} (h : Own w B v l) : InsAt w v l := by
  rcases h.2 with ⟨rfl, e⟩ | ⟨g, cap, cur, rfl, hB, hh, h1, h2, h3, h4⟩
  · exact Or.inl ⟨rfl, List.length_eq_zero_iff.1 e⟩
  · refine Or.inr ⟨g, cap, rfl, fun j u hu => ?_⟩
    have := World.ownsRow.cells (g := g) h rfl j u hu
    rw [show (⟨g, 0, none⟩ : Addr).add j = ⟨g, j, none⟩ by rcases j with _ | j <;> simp [Addr.add]] at this
    exact this
theorem InsAt.below {w w' : World} {B : Nat} {v : Value} {l : List In} (h : InsAt w v l) (hb : Below B w w') (hB : B = w.heap.size) : InsAt w' v l := by
  subst hB
  rcases h with h | ⟨b, cap, e, hc⟩
  · exact Or.inl h
  · exact Or.inr ⟨b, cap, e, fun j u hu => (hb.cell (World.block_lt_of_cell? w _ (hc j u hu))).trans (hc j u hu)⟩
def shiftI (n : Nat) (x : In) : In := if 11 ≤ x.1 ∧ x.1 ≤ 13 then (x.1, x.2 + n) else x
def joinM (a b : List In) : List In := a ++ b.map (shiftI a.length)
def JRel (w : World) (B : Nat) (a b : List In) (gh : Nat) (ov iv : Value) (wr : World) : Prop :=
  ∃ j : Nat, gh + j = b.length ∧ iv = .int .i64 (j : Nat) ∧ Own wr B ov (a ++ (b.take j).map (shiftI a.length)) ∧ Below B w wr
theorem take_more {b : List In} {j : Nat} {x : In} (h : b[j]? = some x) : b.take (j + 1) = b.take j ++ [x] := by
  rw [List.take_add_one, h]; rfl
theorem ins_new (w : World) (op : Nat) (a : Int) : ∃ w1, w1 = w.alloc (.cells #[.int .u8 (op : Nat), .int .i64 a] 104 (0, 0)) ∧ Below w.heap.size w w1 ∧ w1.heap.size = w.heap.size + 1 ∧ w1.heap[w.heap.size]? = some (.cells #[.int .u8 (op : Nat), .int .i64 a] 104 (0, 0)) :=
  ⟨_, rfl, (Below.refl _ _).alloc (Nat.le_refl _) _, by simp, heap_alloc_new w _⟩
set_option maxRecDepth 100000 in
set_option maxHeartbeats 4000000 in
theorem join_ok (va vb : Value) (a b : List In) (ha : a.length ≤ 1000) (hb : b.length ≤ 1000) (hbx : ∀ x, x ∈ b → 11 ≤ x.1 ∧ x.1 ≤ 13 → 0 ≤ x.2 ∧ x.2 ≤ 100000) (w : World) (hva : InsAt w va a) (hvb : InsAt w vb b) :
    Calls Tryz.prog 67 #[va, vb] w fun e w' => ∃ v, e = .returned v ∧ Own w' w.heap.size v (joinM a b) ∧ Below w.heap.size w w' := by
  obtain ⟨g, eg⟩ : ∃ g, g = w.heap.size := ⟨_, rfl⟩
  obtain ⟨i9, hi9, hz0, hz1, hz2⟩ := info_parts infoIns
  have HI := Lib.hid (And.intro hi9 (And.intro hz0 (And.intro hz1 hz2))); clear hi9 hz0 hz1 hz2
  obtain ⟨va', ca, eva⟩ : ∃ A c, va = .slice A a.length c := by
    rcases hva with ⟨rfl, rfl⟩ | ⟨q, cap, rfl, -⟩
    · exact ⟨none, 0, rfl⟩
    · exact ⟨_, cap, rfl⟩
  obtain ⟨vb', cb, evb⟩ : ∃ A c, vb = .slice A b.length c := by
    rcases hvb with ⟨rfl, rfl⟩ | ⟨q, cap, rfl, -⟩
    · exact ⟨none, 0, rfl⟩
    · exact ⟨_, cap, rfl⟩
  have H := Lib.hid (And.intro hva (And.intro hvb (And.intro hbx (And.intro ha (And.intro hb eg)))))
  rw [← eg]
  clear hva hvb hbx ha hb eg
  obtain ⟨na, ena⟩ : ∃ na, na = a.length := ⟨_, rfl⟩
  obtain ⟨nb, enb⟩ : ∃ nb, nb = b.length := ⟨_, rfl⟩
  rw [← ena] at eva
  rw [← enb] at evb
  have HN := Lib.hid (And.intro ena (And.intro enb (And.intro eva evb)))
  rw [eva, evb]
  clear ena enb eva evb
  go_enter Tryz.func67, Tryz.ntmps67
  go_upto_region 1 with fail
  go_cut [5] (fun ov wx => Own wx g ov a ∧ Below g w wx)
  case first =>
    obtain ⟨hva, hvb, hbx, ha, hb, eg⟩ := H.out
    obtain ⟨ena, enb, eva, evb⟩ := HN.out
    rcases hva with ⟨e1, e2⟩ | ⟨q, cap, e1, hc⟩
    · rw [eva] at e1
      simp only [Value.slice.injEq] at e1
      obtain ⟨rfl, hna, rfl⟩ := e1
      have HE := Lib.hid (And.intro e2 (And.intro eg (show (Value.slice none na 0) = .slice none 0 0 by rw [hna])))
      clear eva evb ena enb hvb hbx ha hb e2 eg hna
      go_wp2_with (at_builtin; refine wpList_append_own_none rfl (.tmp 8) (.tmp 9) 68 rfl g 104 i9 2 Tryz.underlying68 HI.out.1 (.slice (some ⟨w.heap.size, 0, none⟩) 0 0) 0 [] rfl ?c0 HE.out.2.2 ?_)
      case c0 => exact ⟨rfl, Or.inr ⟨_, 0, _, rfl, by rw [HE.out.2.1]; exact Nat.le_refl _, heap_alloc_new w _, Nat.le_refl _, by unfold maxLen; omega, rfl, rfl⟩⟩
      go_wp2_with fail
      go_meet
      rw [HE.out.1, HE.out.2.1]
      exact ⟨⟨rfl, Or.inr ⟨_, 0, _, rfl, Nat.le_refl _, heap_alloc_new w _, Nat.le_refl _, by unfold maxLen; omega, rfl, rfl⟩⟩, (Below.refl _ _).alloc (Nat.le_refl _) _⟩
    · rw [eva, ← ena] at e1
      simp only [Value.slice.injEq, true_and] at e1
      obtain ⟨rfl, rfl⟩ := e1
      have hnews : ∀ o, ∀ j u, (insC a)[j]? = some u → (w.alloc o).cell? ((⟨q, 0, none⟩ : Addr).add j) = some u := by
        intro o j u hu
        rw [show (⟨q, 0, none⟩ : Addr).add j = ⟨q, j, none⟩ by rcases j with _ | j <;> simp [Addr.add]]
        have h1 := hc j u hu
        exact (((Below.refl w.heap.size w).alloc (Nat.le_refl _) o).cell (World.block_lt_of_cell? w _ h1)).trans h1
      have HE := Lib.hid (And.intro hnews (And.intro (show (insC a).length = na * 2 from by rw [insC_length, ena]) (And.intro ha (And.intro ena eg))))
      clear eva evb ena enb hvb hbx ha hb eg hnews hc
      go_wp2_with (at_builtin; refine wpList_append_own_at _ rfl (.tmp 8) (.tmp 9) 68 rfl g 104 i9 _ 2 16 Tryz.underlying68 HI.out.1 HI.out.2.1 HI.out.2.2.1 HI.out.2.2.2 rfl (by decide) (.slice (some ⟨w.heap.size, 0, none⟩) 0 0) 0 [] rfl ?c0 ⟨q, 0, none⟩ na ca (insC a) rfl ?c1 ?c2 ?c3 ?c4 ?c5 ?c6 ?_)
      case c0 => exact ⟨rfl, Or.inr ⟨_, 0, _, rfl, by rw [HE.out.2.2.2.2]; exact Nat.le_refl _, heap_alloc_new w _, Nat.le_refl _, by unfold maxLen; omega, rfl, rfl⟩⟩
      case c1 => exact HE.out.2.1
      case c2 => exact HE.out.1 _
      case c3 => exact insC_one _
      case c4 => have := HE.out.2.2.1; have := HE.out.2.2.2.1; unfold maxLen; omega
      case c5 => have := HE.out.2.2.1; have := HE.out.2.2.2.1; omega
      case c6 => rw [HE.out.2.2.2.2]; simp
      intro v5 w5 hown5 hg5 _ hat5
      have HV := Lib.hid (And.intro hown5 hg5); clear hown5 hg5 hat5
      go_wp2_with fail
      go_meet
      obtain ⟨hown5, hg5⟩ := HV.out
      refine ⟨?_, ?_⟩
      · unfold Own
        rw [← HE.out.2.2.2.1]
        simpa using hown5
      · rw [HE.out.2.2.2.2]
        exact ((Below.refl _ _).alloc (Nat.le_refl _) _).grown hg5 (by simp) (by intro q hq; simp [Value.ownBlock] at hq; omega)
  case rest =>
  obtain ⟨ho, hb2⟩ := hcut
  obtain ⟨W2, eW2⟩ : ∃ W2, W2 = wc := ⟨_, rfl⟩
  rw [← eW2] at ho hb2 ⊢
  clear eW2
  have R0 : JRel w g a b nb u5 (.int .i64 0) W2 := ⟨0, by rw [HN.out.2.1]; rfl, rfl, by simpa using ho, hb2⟩
  have HR := Lib.hid R0
  clear R0 ho hb2
  go_wp2_with fail
  go_loopg [5, 6] nb (fun gh ov iv wr => JRel w g a b gh ov iv wr)
  case atStart => exact HR.out
  case round =>
  obtain ⟨j, hj, rfl, ho, hbw⟩ := hrel
  obtain ⟨W, eW⟩ : ∃ W, W = wr := ⟨_, rfl⟩
  rw [← eW] at ho hbw ⊢
  clear eW
  obtain ⟨hva, hvb, hbx, ha, hb, eg⟩ := H.out
  obtain ⟨ena, enb, eva, evb⟩ := HN.out
  rcases gk with _ | k
  · have hjn : j = nb := by omega
    have HB := Lib.hid (And.intro ho (And.intro hbw (show b.take j = b from List.take_of_length_le (by omega))))
    have i2 : decide ((j : Int) < (nb : Int)) = false := decide_eq_false (by omega)
    have i3 : decide (j < nb) = false := decide_eq_false (by omega)
    clear ho hbw hva hvb hbx ha hb eg ena enb eva evb hj
    subst hjn
    go_wp2_with fail
    go_ret
    obtain ⟨ho, hbw, ht⟩ := HB.out
    rw [ht] at ho
    exact ⟨_, rfl, ho, hbw⟩
  · obtain ⟨⟨op, v⟩, hx⟩ : ∃ x, b[j]? = some x := ⟨_, List.getElem?_eq_getElem (by omega)⟩
    have hxm := List.mem_of_getElem? hx
    rcases hvb with ⟨-, e2⟩ | ⟨q, cap, e1, hc⟩
    · rw [e2] at hx; simp at hx
    rw [evb, ← enb] at e1
    simp only [Value.slice.injEq, true_and] at e1
    obtain ⟨rfl, rfl⟩ := e1
    obtain ⟨c0, c1⟩ := insC_at hx
    have c0 := hc _ _ c0
    have c1 := hc _ _ c1
    have bw : Below w.heap.size w W := by rw [← eg]; exact hbw
    have c0 := (bw.cell (World.block_lt_of_cell? w _ c0)).trans c0
    have c1 := (bw.cell (World.block_lt_of_cell? w _ c1)).trans c1
    have hbl := World.block_lt_of_cell? W _ c0
    obtain ⟨w1, e1, hb1, hs1, hk1⟩ := ins_new W op v
    obtain ⟨gs, egs⟩ : ∃ gs, gs = W.heap.size := ⟨_, rfl⟩
    rw [← egs] at hk1 hb1
    have JP := jumps_ok op v w1
    have d0 : w1.cell? ⟨gs, 0, none⟩ = some (.int .u8 (op : Nat)) := (cell_of_block hk1 0).trans rfl
    have d1 : w1.cell? ⟨gs, 1, none⟩ = some (.int .i64 v) := (cell_of_block hk1 1).trans rfl
    have i0 : (0 : Int) ≤ (j : Int) := by omega
    have i1 : (j : Int) < (nb : Int) := by omega
    have i2 : decide (j < nb) = true := decide_eq_true (by omega)
    have u1 : wrap64 ((j : Int) + 1) = (j : Int) + 1 := by unfold wrap64; omega
    have hxb := hbx _ hxm
    simp only at hxb
    have hgW : g ≤ W.heap.size := by rw [eg]; exact hbw.size |> fun h => by rw [← eg]; exact eg ▸ h
    have HK := Lib.hid (And.intro hj (And.intro ho (And.intro hbw (And.intro hx (And.intro hb1 (And.intro hk1 (And.intro hs1 (And.intro egs (And.intro ha (And.intro ena (And.intro hb hgW)))))))))))
    clear hj ho hbw hx hb1 hs1 ha ena hb hva hbx eg enb eva evb bw hc hxm hgW
    go_upto_region 6 with fail
    rw [← e1, ← egs]
    clear e1 egs c0 c1 hbl
    by_cases hjp : 11 ≤ op ∧ op ≤ 13
    · rw [show (decide (11 ≤ op) && decide (op ≤ 13)) = true by simp [hjp.1, hjp.2]] at JP
      obtain ⟨y0, y1⟩ := hxb hjp
      have u2 : wrap64 (v + (na : Int)) = v + (na : Int) := by have := HK.out.2.2.2.2.2.2.2.2.1; have := HK.out.2.2.2.2.2.2.2.2.2.1; unfold wrap64; omega
      have HJ := Lib.hid hjp
      clear hxb hjp y0 y1
      go_upto_region 8 with (go_at_call 103; refine JP.mono ?_; rintro e w2 ⟨rfl, hb2⟩; have hk2 := (hb2.block gs (lt_of_block' HK.out.2.2.2.2.2.1)).trans HK.out.2.2.2.2.2.1; have d0 : w2.cell? ⟨gs, 0, none⟩ = some (.int .u8 (op : Nat)) := (cell_of_block hk2 0).trans rfl; have d1 : w2.cell? ⟨gs, 1, none⟩ = some (.int .i64 v) := (cell_of_block hk2 1).trans rfl; have z1 : w2.frozen? ⟨gs, 1, none⟩ = false := free_of_block hk2 1; have HB2 := Lib.hid (And.intro hb2 hk2); clear hb2 hk2)
      obtain ⟨W3, eW3⟩ : ∃ W3, W3 = w2.setCell ⟨gs, 1, none⟩ (.int .i64 (v + (na : Int))) := ⟨_, rfl⟩
      rw [← eW3]
      have hk3 : W3.heap[gs]? = some (.cells #[.int .u8 (op : Nat), .int .i64 (v + (na : Int))] 104 (0, 0)) := by rw [eW3]; exact block_setCell HB2.out.2 1 _
      have hb3 : Below gs W W3 := by rw [eW3]; exact (HK.out.2.2.2.2.1.trans (HB2.out.1.mono (by have := HK.out.2.2.2.2.2.2.1; have := HK.out.2.2.2.2.2.2.2.1; omega))).setCell (p := ⟨gs, 1, none⟩) (Nat.le_refl _) _
      clear eW3 d0 d1 z1
      have HW3 := Lib.hid (And.intro hk3 hb3)
      have c30 : W3.cell? ⟨gs, 0, none⟩ = some (.int .u8 (op : Nat)) := (cell_of_block hk3 0).trans rfl
      have c31 : W3.cell? ⟨gs, 1, none⟩ = some (.int .i64 (v + (na : Int))) := (cell_of_block hk3 1).trans rfl
      have hO := HK.out.2.1
      have hs3 : gs < W3.heap.size := lt_of_block' hk3
      obtain ⟨nw, enw⟩ : ∃ nw, nw = insC [(op, (v + (na : Int)))] := ⟨_, rfl⟩
      have HN1 := Lib.hid (show nw.length = 1 * 2 from by rw [enw]; rfl)
      have HN2 := Lib.hid (show ∀ j u, nw[j]? = some u → (W3.alloc (.cells #[.int .u8 (op : Nat), .int .i64 (v + (na : Int))] 104 (0, 0))).cell? ((⟨W3.heap.size, 0, none⟩ : Addr).add j) = some u from by rw [enw]; exact news_new W3 #[.int .u8 (op : Nat), .int .i64 (v + (na : Int))] _ _ rfl)
      have HN3 := Lib.hid (show ∀ u ∈ nw, u.oneCell' = true from by rw [enw]; exact insC_one _)
      obtain ⟨acc, eacc⟩ : ∃ acc, acc = a ++ (b.take j).map (shiftI a.length) := ⟨_, rfl⟩
      have hal : acc.length ≤ 2000 := by have h1 := HK.out.2.2.2.2.2.2.2.2.1; have h2 := HK.out.2.2.2.2.2.2.2.2.2.2.1; have h3 := List.length_take_le j b; rw [eacc, List.length_append, List.length_map]; have := List.length_take_le' j b; omega
      rw [← eacc] at hO
      have HN4 := Lib.hid (show acc.length + 1 ≤ maxLen ∧ (acc.length + 1) * 16 ≤ 140737488355328 from by unfold maxLen; omega)
      have HN5 := Lib.hid (show ∀ A, g ≤ (W3.alloc A).heap.size from fun A => by have := HK.out.2.2.2.2.2.2.2.2.2.2.2; have := HK.out.2.2.2.2.2.2.2.1; simp; omega)
      have HO := Lib.hid (show ∀ A, (W3.alloc A).ownsRow g 104 2 u5 acc.length (insC acc) from fun A => (own_same hO fun q hq => hb3.block q (by have := HK.out.2.2.2.2.2.2.2.1; omega)).alloc _)
      have HEA := Lib.hid (And.intro eacc enw)
      clear hO hs3 hal eacc enw hk3 hb3
      go_wp2_with (at_builtin; refine wpList_append_own_at _ rfl (.tmp 29) (.tmp 31) 68 rfl g 104 i9 _ 2 16 Tryz.underlying68 HI.out.1 HI.out.2.1 HI.out.2.2.1 HI.out.2.2.2 rfl (by decide) u5 acc.length (insC acc) rfl (HO.out _) ⟨W3.heap.size, 0, none⟩ 1 1 nw rfl HN1.out HN2.out HN3.out HN4.out.1 HN4.out.2 (HN5.out _) ?_)
      intro v5 w5 hown5 hg5 _ hat5
      have HV := Lib.hid (And.intro hown5 hg5); clear hown5 hg5 hat5
      go_wp2_with fail
      go_roundg k
      case measure => omega
      case rel =>
        obtain ⟨hown5, hg5⟩ := HV.out
        obtain ⟨hk3, hb3⟩ := HW3.out
        have hx := HK.out.2.2.2.1
        have hsg := HK.out.2.2.2.2.2.2.2.1
        have hgW := HK.out.2.2.2.2.2.2.2.2.2.2.2
        have h3s := hb3.size
        refine ⟨j + 1, by have := HK.out.1; omega, by go_num, ?_, ?_⟩
        · unfold Own
          rw [take_more hx, List.map_append, ← List.append_assoc, ← HEA.out.1, List.length_append, insC_append]
          rw [HEA.out.2] at hown5
          show w5.ownsRow g _ 2 v5 (acc.length + 1) (insC acc ++ insC [shiftI a.length (op, v)])
          rw [show shiftI a.length (op, v) = (op, (v + (na : Int))) from by rw [shiftI, if_pos HJ.out, ← HK.out.2.2.2.2.2.2.2.2.2.1]]
          exact hown5
        · exact ((HK.out.2.2.1.trans (hb3.mono (by omega))).alloc (by have := hb3.size; have := HK.out.2.2.2.2.2.2.1; omega) _).grown hg5 (HN5.out _) (fun q hq => (own_lt HK.out.2.1 hq).2)
    · rw [show (decide (11 ≤ op) && decide (op ≤ 13)) = false by simp only [Bool.and_eq_false_iff, decide_eq_false_iff_not]; omega] at JP
      have HJ := Lib.hid hjp
      clear hxb hjp
      go_upto_region 8 with (go_at_call 103; refine JP.mono ?_; rintro e w2 ⟨rfl, hb2⟩; have hk2 := (hb2.block gs (lt_of_block' HK.out.2.2.2.2.2.1)).trans HK.out.2.2.2.2.2.1; have HB2 := Lib.hid (And.intro hb2 hk2); clear hb2 hk2)
      obtain ⟨W3, eW3⟩ : ∃ W3, W3 = w2 := ⟨_, rfl⟩
      rw [← eW3] at HB2 ⊢
      have hk3 := HB2.out.2
      have hb3 : Below gs W W3 := HK.out.2.2.2.2.1.trans (HB2.out.1.mono (by have := HK.out.2.2.2.2.2.2.1; have := HK.out.2.2.2.2.2.2.2.1; omega))
      clear eW3 d0 d1
      have HW3 := Lib.hid (And.intro hk3 hb3)
      have c30 : W3.cell? ⟨gs, 0, none⟩ = some (.int .u8 (op : Nat)) := (cell_of_block hk3 0).trans rfl
      have c31 : W3.cell? ⟨gs, 1, none⟩ = some (.int .i64 v) := (cell_of_block hk3 1).trans rfl
      have hO := HK.out.2.1
      have hs3 : gs < W3.heap.size := lt_of_block' hk3
      obtain ⟨nw, enw⟩ : ∃ nw, nw = insC [(op, v)] := ⟨_, rfl⟩
      have HN1 := Lib.hid (show nw.length = 1 * 2 from by rw [enw]; rfl)
      have HN2 := Lib.hid (show ∀ j u, nw[j]? = some u → (W3.alloc (.cells #[.int .u8 (op : Nat), .int .i64 v] 104 (0, 0))).cell? ((⟨W3.heap.size, 0, none⟩ : Addr).add j) = some u from by rw [enw]; exact news_new W3 #[.int .u8 (op : Nat), .int .i64 v] _ _ rfl)
      have HN3 := Lib.hid (show ∀ u ∈ nw, u.oneCell' = true from by rw [enw]; exact insC_one _)
      obtain ⟨acc, eacc⟩ : ∃ acc, acc = a ++ (b.take j).map (shiftI a.length) := ⟨_, rfl⟩
      have hal : acc.length ≤ 2000 := by have h1 := HK.out.2.2.2.2.2.2.2.2.1; have h2 := HK.out.2.2.2.2.2.2.2.2.2.2.1; have h3 := List.length_take_le j b; rw [eacc, List.length_append, List.length_map]; have := List.length_take_le' j b; omega
      rw [← eacc] at hO
      have HN4 := Lib.hid (show acc.length + 1 ≤ maxLen ∧ (acc.length + 1) * 16 ≤ 140737488355328 from by unfold maxLen; omega)
      have HN5 := Lib.hid (show ∀ A, g ≤ (W3.alloc A).heap.size from fun A => by have := HK.out.2.2.2.2.2.2.2.2.2.2.2; have := HK.out.2.2.2.2.2.2.2.1; simp; omega)
      have HO := Lib.hid (show ∀ A, (W3.alloc A).ownsRow g 104 2 u5 acc.length (insC acc) from fun A => (own_same hO fun q hq => hb3.block q (by have := HK.out.2.2.2.2.2.2.2.1; omega)).alloc _)
      have HEA := Lib.hid (And.intro eacc enw)
      clear hO hs3 hal eacc enw hk3 hb3
      go_wp2_with (at_builtin; refine wpList_append_own_at _ rfl (.tmp 29) (.tmp 31) 68 rfl g 104 i9 _ 2 16 Tryz.underlying68 HI.out.1 HI.out.2.1 HI.out.2.2.1 HI.out.2.2.2 rfl (by decide) u5 acc.length (insC acc) rfl (HO.out _) ⟨W3.heap.size, 0, none⟩ 1 1 nw rfl HN1.out HN2.out HN3.out HN4.out.1 HN4.out.2 (HN5.out _) ?_)
      intro v5 w5 hown5 hg5 _ hat5
      have HV := Lib.hid (And.intro hown5 hg5); clear hown5 hg5 hat5
      go_wp2_with fail
      go_roundg k
      case measure => omega
      case rel =>
        obtain ⟨hown5, hg5⟩ := HV.out
        obtain ⟨hk3, hb3⟩ := HW3.out
        have hx := HK.out.2.2.2.1
        have hsg := HK.out.2.2.2.2.2.2.2.1
        have hgW := HK.out.2.2.2.2.2.2.2.2.2.2.2
        have h3s := hb3.size
        refine ⟨j + 1, by have := HK.out.1; omega, by go_num, ?_, ?_⟩
        · unfold Own
          rw [take_more hx, List.map_append, ← List.append_assoc, ← HEA.out.1, List.length_append, insC_append]
          rw [HEA.out.2] at hown5
          show w5.ownsRow g _ 2 v5 (acc.length + 1) (insC acc ++ insC [shiftI a.length (op, v)])
          rw [show shiftI a.length (op, v) = (op, v) from by rw [shiftI, if_neg HJ.out]]
          exact hown5
        · exact ((HK.out.2.2.1.trans (hb3.mono (by omega))).alloc (by have := hb3.size; have := HK.out.2.2.2.2.2.2.1; omega) _).grown hg5 (HN5.out _) (fun q hq => (own_lt HK.out.2.1 hq).2)
end
end Go.Proofs.YtocbddajakbemaaGreat
