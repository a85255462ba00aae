/- vm, the front end: the reference's compiler: list. vm, the front end: the reference's compiler: a statement while. -/
import Derived.Test.YtocbddajakbemaaGreatMO
import Derived.Deep.AppendLies
import Derived.Deep.RegionHeld3
import Derived.Deep.RegionLaw
set_option linter.unusedVariables false
set_option linter.unusedSimpArgs false
set_option linter.unusedSimpArgs false
namespace Go.Proofs.YtocbddajakbemaaGreat
section
open Go.RowKit
def okC (c : List In) : Bool := decide (c.length ≤ 1000) && c.all fun x => decide (¬ (11 ≤ x.1 ∧ x.1 ≤ 13)) || (decide (0 ≤ x.2) && decide (x.2 ≤ 100000))
theorem okC_use {c : List In} (h : okC c = true) : c.length ≤ 1000 ∧ ∀ x, x ∈ c → 11 ≤ x.1 ∧ x.1 ≤ 13 → 0 ≤ x.2 ∧ x.2 ≤ 100000 := by
  unfold okC at h
  simp only [Bool.and_eq_true, decide_eq_true_eq] at h
  refine ⟨h.1, fun x hx hj => ?_⟩
  have := List.all_eq_true.1 h.2 x hx
  simp only [Bool.or_eq_true, Bool.and_eq_true, decide_eq_true_eq] at this
  rcases this with h | h
  · exact absurd hj h
  · exact h
abbrev LSt := List ByteArray × Nat × List In
def foldL (F : List ByteArray → S2 → Option (List In × Nat)) : List S2 → LSt → Option LSt
  | [], st => some st
  | s :: l, (ns, most, out) => match F ns s with
    | none => none
    | some (c, m) => if okC c = true ∧ out.length ≤ 1000 ∧ m ≤ 1000 ∧ most ≤ 1000 ∧ ns.length ≤ 31 then
        (if s.op = 1 then (if ns = [] then foldL F l ([s.name], if most < 1 then 1 else most, joinM out c) else none) else foldL F l (ns, if most < m then m else most, joinM out c))
      else none
def LSs (w : World) (BA : Option Addr) (l : List S2) (F : List ByteArray → S2 → Option (List In × Nat)) : Prop :=
  ∀ j s, l[j]? = some s → ∃ b A cp BA' bc, BA = some ⟨b, 0, none⟩ ∧ StC w b (j * 6) s A cp BA' bc ∧ ∀ W, Below w.heap.size w W → ∀ ns NA nc c m, F ns s = some (c, m) → ns.length ≤ 31 → StrsAt W NA ns →
    Calls Tryz.prog 66 #[.agg #[.int .u8 (s.op : Nat), .int .i64 s.num, .string s.name, .slice A s.args.many cp, .slice BA' s.body.length bc, .slice none 0 0], .slice NA ns.length nc] W (ResL W c m)
def LiRel (F : List ByteArray → S2 → Option (List In × Nat)) (w : World) (B : Nat) (l : List S2) (res : LSt) (gh : Nat) (nv ov mv iv : Value) (wr : World) : Prop :=
  ∃ (j : Nat) (ns : List ByteArray) (most : Nat) (out : List In) (NA : Option Addr) (nc : Nat), gh + j = l.length ∧ foldL F (l.drop j) (ns, most, out) = some res ∧ nv = .slice NA ns.length nc ∧ (ns = [] → NA = none ∧ nc = 0) ∧ StrsAt wr NA ns ∧ Own wr B ov out ∧ mv = .int .i64 (most : Nat) ∧ iv = .int .i64 (j : Nat) ∧ Below B w wr
theorem infoStr : (Tryz.prog.info? 9).map (fun i => (i.zero, i.size, i.bytes)) = some (some (.string ⟨#[]⟩), 1, 16) := by kernel_rfl
theorem cell_al {W : World} {a : Addr} {v : Value} (O : Obj) (h : W.cell? a = some v) : (W.alloc O).cell? a = some v := by
  have hl := World.block_lt_of_cell? W a h
  exact (((Below.refl W.heap.size W).alloc (Nat.le_refl _) O).cell hl).trans h
theorem own_empty {W : World} {base b : Nat} {T : TypeId} (h : W.heap[b]? = some (.cells #[] T (0, 0))) (hb : base ≤ b) : W.ownsRow base T 1 (.slice (some ⟨b, 0, none⟩) 0 0) 0 [] :=
  ⟨rfl, Or.inr ⟨b, 0, _, rfl, hb, h, Nat.le_refl _, by unfold maxLen; omega, rfl, rfl⟩⟩
theorem step_append_none {P : Program} {ops : Array Oper} {o : Oper} {a : Act} {w : World} {K : Act → World → Prop} {Q : Exit → Act → World → Prop} {E : Prop} (hgd : o.guard = none) (s x : Operand) (t : TypeId)
    (ho : o.op = .call { callee := .builtin .append, args := #[s, x], argTypes := #[t, t] }) (base : Nat) (e : TypeId) (i : TypeInfo) (size : Nat) (ht : P.underlying t = some (.slice e)) (hi : P.info? e = some i)
    (v : Value) (n : Nat) (xs : List Value) (hs : a.eval s = v) (hown : w.ownsRow base e size v n xs) (hx : a.eval x = .slice none 0 0) (h : K (a.put o.dst v) w) :
    if Region.wanted o (yielded ops a.tmps) = true then Oper.wp P o a w K Q else E := by
  have hw : Region.wanted o (yielded ops a.tmps) = true := by simp [Region.wanted, hgd]
  rw [if_pos hw]
  have hrun := run_append_owned_none (P := P) (w := w) base t o.type e i size ht hi v n xs hown
  unfold Oper.wp
  simp [execOp, ho, resolve, invoke, builtin, hs, hx, hrun, Result.andThen]
  exact h
set_option maxRecDepth 100000 in
set_option maxHeartbeats 4000000 in
theorem list_ok (F : List ByteArray → S2 → Option (List In × Nat)) (l : List S2) (BA : Option Addr) (bc : Nat) (ns0 : List ByteArray) (NA0 : Option Addr) (nc0 : Nat) (res : LSt) (hf : foldL F l (ns0, ns0.length, []) = some res) (hl : l.length ≤ 1000) (hnil : ns0 = [] → NA0 = none ∧ nc0 = 0)
    (w : World) (hn : StrsAt w NA0 ns0) (hs : LSs w BA l F) :
    Calls Tryz.prog 39 #[.slice BA l.length bc, .slice NA0 ns0.length nc0] w (ResL w res.2.2 res.2.1) := by
  obtain ⟨g, eg⟩ : ∃ g, g = w.heap.size := ⟨_, rfl⟩
  have R0 : LiRel F w g l res l.length (.slice NA0 ns0.length nc0) (.slice none 0 0) (.int .i64 (ns0.length : Nat)) (.int .i64 0) w := ⟨0, ns0, ns0.length, [], NA0, nc0, rfl, hf, rfl, hnil, hn, ⟨rfl, Or.inl ⟨rfl, rfl⟩⟩, rfl, rfl, Below.refl _ _⟩
  obtain ⟨n, en⟩ : ∃ n, n = l.length := ⟨_, rfl⟩
  obtain ⟨n0, en0⟩ : ∃ n0, n0 = ns0.length := ⟨_, rfl⟩
  rw [← en, ← en0] at R0 ⊢
  have H := Lib.hid (And.intro R0 (And.intro hs (And.intro eg (And.intro en hl))))
  clear R0 hs eg en en0 hf hl hnil hn
  go_enter Tryz.func39, Tryz.ntmps39
  go_wp2_with fail
  go_loopg [1, 7, 8, 9] n (fun gh nv ov mv iv wr => LiRel F w g l res gh nv ov mv iv wr)
  case atStart => exact H.out.1
  case round =>
  obtain ⟨j, ns, most, out, NA, nc, hj, hr, rfl, hnil, hns, ho, rfl, rfl, hb⟩ := hrel
  obtain ⟨W, eW⟩ : ∃ W, W = wr := ⟨_, rfl⟩
  rw [← eW] at hns ho hb ⊢
  clear eW
  rcases gk with _ | k
  · have hjn : j = n := by have := H.out.2.2.2.1; omega
    rw [List.drop_of_length_le (by have := H.out.2.2.2.1; omega)] at hr
    injection hr with hr
    subst hr
    have HB := Lib.hid (And.intro ho hb)
    have i2 : decide ((j : Int) < (n : Int)) = false := decide_eq_false (by omega)
    have eg := Lib.hid H.out.2.2.1
    subst hjn
    clear ho hb hnil hns hj
    go_wp2_with fail
    go_ret3
    exact ⟨_, rfl, by rw [← eg.out]; exact HB.out.1, by rw [← eg.out]; exact HB.out.2⟩
  · obtain ⟨s, hx⟩ : ∃ s, l[j]? = some s := ⟨_, List.getElem?_eq_getElem (by omega)⟩
    rw [List.drop_eq_getElem_cons (show j < l.length by omega), show l[j]'(by omega) = s from by rw [List.getElem?_eq_getElem (by omega)] at hx; exact Option.some.inj hx, foldL] at hr
    rcases hF : F ns s with _ | ⟨c, m⟩
    · rw [hF] at hr; cases hr
    rw [hF] at hr
    simp only at hr
    by_cases hok : okC c = true ∧ out.length ≤ 1000 ∧ m ≤ 1000 ∧ most ≤ 1000 ∧ ns.length ≤ 31
    · rw [if_pos hok] at hr
      obtain ⟨hoc, ho1, hm1, hm2, hn31⟩ := hok
      obtain ⟨b, A, cp, BA', bb, rfl, hc, HC⟩ := H.out.2.1 j s hx
      have bw : Below w.heap.size w W := by rw [← H.out.2.2.1]; exact hb
      have hcW := hc.step (bw.block b (World.block_lt_of_cell? w _ hc.c0))
      obtain ⟨c0, c1, c2, c3, c4, c5⟩ := hcW
      have hbl := World.block_lt_of_cell? W _ c0
      obtain ⟨w1, e1, hb1, hs1, hk1⟩ := box6_new W (.int .u8 (s.op : Nat)) (.int .i64 s.num) (.string s.name) (.slice A s.args.many cp) (.slice BA' s.body.length bb) (.slice none 0 0)
      obtain ⟨gs, egs⟩ : ∃ gs, gs = W.heap.size := ⟨_, rfl⟩
      have STx := HC w1 (bw.trans (hb1.mono bw.size)) ns NA nc c m hF hn31 (hns.below hb1 rfl)
      rw [← egs] at hk1 hb1
      obtain ⟨⟨d0, d1, d2, d3, d4, d5⟩, -⟩ := st_facts hk1
      have i0 : (0 : Int) ≤ (j : Int) := by omega
      have i1 : (j : Int) < (n : Int) := by have := H.out.2.2.2.1; omega
      have i2 : decide (j < n) = true := decide_eq_true (by omega)
      have u1 : wrap64 ((j : Int) + 1) = (j : Int) + 1 := by have := H.out.2.2.2.2; have := H.out.2.2.2.1; unfold wrap64; omega
      have HK := Lib.hid (And.intro hj (And.intro hr (And.intro hnil (And.intro hns (And.intro ho (And.intro hb (And.intro bw (And.intro hb1 (And.intro hs1 (And.intro hk1 (And.intro egs (And.intro hoc (And.intro ho1 hx)))))))))))))
      clear hj hr hnil hns ho hb bw hb1 hs1 hk1 hoc ho1 hc HC hF hx
      go_upto_region 6 with fail
      go_upto_region 7 with fail
      rw [← e1, ← egs]
      clear e1 egs c0 c1 c2 c3 c4 c5 hbl
      go_upto_region 10 with (go_at_call 66; refine STx.mono ?_; rintro e w3 ⟨v3, rfl, ho3, hb3⟩; have hk3 := (hb3.block gs (lt_of_block' HK.out.2.2.2.2.2.2.2.2.2.1)).trans HK.out.2.2.2.2.2.2.2.2.2.1; obtain ⟨⟨f0, f1, f2, f3, f4, f5⟩, -⟩ := st_facts hk3; have HS := Lib.hid (And.intro ho3 (And.intro hb3 hk3)); clear ho3 hb3 hk3)
      clear d0 d1 d2 d3 d4 d5 STx
      by_cases h1 : s.op = 1
      · have hr := HK.out.2.1
        rw [if_pos h1] at hr
        by_cases hne : ns = []
        · rw [if_pos hne] at hr
          obtain ⟨rfl, rfl⟩ := HK.out.2.2.1 hne
          subst hne
          simp only [List.length_nil]
          have t1 : (s.op : Int) = 1 := by omega
          have t2 : ((s.op : Int) == 1) = true := by simp; omega
          have HR := Lib.hid (And.intro hr h1)
          obtain ⟨i8, hi8, hz0, hz1, hz2⟩ := info_parts infoStr
          have HS8 := Lib.hid (And.intro hi8 (And.intro hz0 (And.intro hz1 hz2)))
          obtain ⟨w3s, ew3s⟩ : ∃ q, q = w3.heap.size := ⟨_, rfl⟩
          clear hr hi8 hz0 hz1 hz2 h1
          go_upto_region 11 with fail
          clear f0 f1 f3 f4 f5
          have EB : ∀ O : Obj, ((w3.alloc (.cells #[] 9 (0, 0))).alloc O).ownsRow w3.heap.size 9 1 (.slice (some ⟨w3.heap.size, 0, none⟩) 0 0) 0 [] := fun O => own_empty (heap_alloc_fst w3 _ _) (Nat.le_refl _)
          have EB1 : (w3.alloc (.cells #[] 9 (0, 0))).ownsRow w3.heap.size 9 1 (.slice (some ⟨w3.heap.size, 0, none⟩) 0 0) 0 [] := own_empty (heap_alloc_new _ _) (Nat.le_refl _)
          have EB2 : ∀ O : Obj, ((w3.alloc O).alloc (.cells #[] 9 (0, 0))).ownsRow w3.heap.size 9 1 (.slice (some ⟨w3.heap.size + 1, 0, none⟩) 0 0) 0 [] := fun O => own_empty (heap_alloc_snd w3 _ _) (Nat.le_succ _)
          have NB1 : ∀ j u, [Value.string s.name][j]? = some u → ((w3.alloc (.cells #[] 9 (0, 0))).alloc (.cells #[.string s.name] 9 (0, 0))).cell? ((⟨w3.heap.size + 1, 0, none⟩ : Addr).add j) = some u := World.news_of_block (heap_alloc_snd w3 _ _)
          have NB2 : ∀ j u, [Value.string s.name][j]? = some u → ((w3.alloc (.cells #[.string s.name] 9 (0, 0))).alloc (.cells #[] 9 (0, 0))).cell? ((⟨w3.heap.size, 0, none⟩ : Addr).add j) = some u := World.news_of_block (heap_alloc_fst w3 _ _)
          have SZ : ∀ A B : Obj, w3.heap.size ≤ ((w3.alloc A).alloc B).heap.size := fun A B => by simp; omega
          have hgs3 : gs < w3.heap.size := lt_of_block' HS.out.2.2
          have HE := Lib.hid (And.intro EB (And.intro EB1 (And.intro EB2 (And.intro NB1 (And.intro NB2 (And.intro SZ hgs3)))))); clear EB EB1 EB2 NB1 NB2 SZ hgs3
          go_region_held3 (fun W => W.cell? ⟨gs, 2, none⟩ = some (.string s.name)) (first | assumption | exact f2 | (apply cell_al; assumption))
            (first
              | (refine step_append_none rfl (.tmp 39) (.tmp 40) 85 rfl w3.heap.size 9 i8 1 Tryz.underlying85 HS8.out.1 (.slice (some ⟨w3.heap.size, 0, none⟩) 0 0) 0 [] rfl (by first | exact HE.out.2.1 | exact HE.out.1 _ | exact HE.out.2.2.1 _) rfl ?_)
              | (refine step_append_none rfl (.tmp 39) (.tmp 40) 85 rfl w3.heap.size 9 i8 1 Tryz.underlying85 HS8.out.1 (.slice (some ⟨w3.heap.size + 1, 0, none⟩) 0 0) 0 [] rfl (by first | exact HE.out.2.1 | exact HE.out.1 _ | exact HE.out.2.2.1 _) rfl ?_)
              | (refine step_append_lies _ rfl (.tmp 41) (.tmp 44) 85 rfl w3.heap.size 9 i8 _ 1 16 Tryz.underlying85 HS8.out.1 HS8.out.2.1 HS8.out.2.2.1 HS8.out.2.2.2 rfl (by decide) (.slice (some ⟨w3.heap.size, 0, none⟩) 0 0) 0 [] rfl (by first | exact HE.out.1 _ | exact HE.out.2.2.1 _) _ 1 1 [.string s.name] rfl rfl (by first | exact HE.out.2.2.2.1 | exact HE.out.2.2.2.2.1) (by intro u hu; simp at hu; subst hu; rfl) (by decide) (by decide) (by decide) (HE.out.2.2.2.2.2.1 _ _) _ rfl ?_
                 intro gb cb w8 hown8 hg8 hat8 hlt8
                 have q8 : w8.cell? ⟨gs, 2, none⟩ = some (.string s.name) := by
                   refine (hg8.cell_far ⟨gs, 2, none⟩ (Nat.lt_of_lt_of_le HE.out.2.2.2.2.2.2 (HE.out.2.2.2.2.2.1 _ _)) (fun e => by have := HE.out.2.2.2.2.2.2; simp [Value.ownBlock] at e; omega)).trans ?_
                   assumption
                 have b8 : Below w3.heap.size w3 w8 := by
                   refine Below.grown ?_ hg8 ?_ ?_
                   · exact (((Below.refl _ _).alloc (Nat.le_refl _) _).alloc (by simp) _).drew
                   · exact HE.out.2.2.2.2.2.1 _ _
                   · intro q hq
                     simp only [Value.ownBlock, Option.some.injEq] at hq
                     omega
                 have HV := Lib.hid (And.intro hown8 (And.intro b8 hlt8)); clear hown8 hg8 hat8 hlt8 b8)
              | (refine step_append_lies _ rfl (.tmp 41) (.tmp 44) 85 rfl w3.heap.size 9 i8 _ 1 16 Tryz.underlying85 HS8.out.1 HS8.out.2.1 HS8.out.2.2.1 HS8.out.2.2.2 rfl (by decide) (.slice (some ⟨w3.heap.size + 1, 0, none⟩) 0 0) 0 [] rfl (by first | exact HE.out.1 _ | exact HE.out.2.2.1 _) _ 1 1 [.string s.name] rfl rfl (by first | exact HE.out.2.2.2.1 | exact HE.out.2.2.2.2.1) (by intro u hu; simp at hu; subst hu; rfl) (by decide) (by decide) (by decide) (HE.out.2.2.2.2.2.1 _ _) _ rfl ?_
                 intro gb cb w8 hown8 hg8 hat8 hlt8
                 have q8 : w8.cell? ⟨gs, 2, none⟩ = some (.string s.name) := by
                   refine (hg8.cell_far ⟨gs, 2, none⟩ (Nat.lt_of_lt_of_le HE.out.2.2.2.2.2.2 (HE.out.2.2.2.2.2.1 _ _)) (fun e => by have := HE.out.2.2.2.2.2.2; simp [Value.ownBlock] at e; omega)).trans ?_
                   assumption
                 have b8 : Below w3.heap.size w3 w8 := by
                   refine Below.grown ?_ hg8 ?_ ?_
                   · exact (((Below.refl _ _).alloc (Nat.le_refl _) _).alloc (by simp) _).drew
                   · exact HE.out.2.2.2.2.2.1 _ _
                   · intro q hq
                     simp only [Value.ownBlock, Option.some.injEq] at hq
                     omega
                 have HV := Lib.hid (And.intro hown8 (And.intro b8 hlt8)); clear hown8 hg8 hat8 hlt8 b8))
          all_goals (
            have b01 : Below g W w1 := HK.out.2.2.2.2.2.2.2.1.mono (by have := HK.out.2.2.2.2.2.2.2.2.2.2.1; have := HK.out.2.2.2.2.2.1.size; have := H.out.2.2.1; omega)
            have s1 := HK.out.2.2.2.2.2.2.2.2.1
            have b3 := HS.out.2.1
            have b8 := HV.out.2.1
            have JN := join_ok u7 v3 out c HK.out.2.2.2.2.2.2.2.2.2.2.2.2.1 (okC_use HK.out.2.2.2.2.2.2.2.2.2.2.2.1).1 (okC_use HK.out.2.2.2.2.2.2.2.2.2.2.2.1).2 w8 (((HK.out.2.2.2.2.1.at_.below HK.out.2.2.2.2.2.2.2.1 HK.out.2.2.2.2.2.2.2.2.2.2.1).below b3 rfl).below b8 rfl) (HS.out.1.at_.below b8 rfl)
            have SA : StrsAt w8 (some ⟨gb, 0, none⟩) [s.name] := by
              intro q u hu
              rcases q with _ | q
              · have e : s.name = u := by simpa using hu
                subst e
                exact ⟨gb, rfl, World.ownsRow.cells (g := gb) HV.out.1 rfl 0 _ rfl⟩
              · simp at hu
            have HB := Lib.hid (And.intro b01 (And.intro s1 (And.intro b3 (And.intro b8 SA))))
            clear b01 s1 b3 b8 SA q8 f2
            by_cases hmm : most < 1
            · have q1 : (most : Int) < 1 := by omega
              have q2 : decide (most < 1) = true := decide_eq_true hmm
              have q3 : decide ((most : Int) < 1) = true := decide_eq_true q1
              have HM := Lib.hid hmm
              clear hmm
              go_wp2_with (go_at_call 67; refine JN.mono ?_; rintro e w4 ⟨v4, rfl, ho4, hb4⟩; have HJ := Lib.hid (And.intro ho4 hb4); clear ho4 hb4)
              go_roundg k
              case measure => omega
              case rel =>
                obtain ⟨hr, -⟩ := HR.out
                rw [if_pos HM.out] at hr
                obtain ⟨b01, s1, b3, b8, SA⟩ := HB.out
                obtain ⟨hj, -, hnil, hns, ho, hb, bw, hb1, -, hk1, egs, -⟩ := HK.out
                have b1 := hb1
                rw [egs] at b1
                have z3 := b3.size
                have z8 := b8.size
                have zb := hb.size
                have eg := H.out.2.2.1
                have hall : Below W.heap.size W w4 := ((b1.trans (b3.mono (by omega))).trans (b8.mono (by omega))).trans (HJ.out.2.mono (by omega))
                exact ⟨j + 1, [s.name], 1, joinM out c, some ⟨gb, 0, none⟩, cb, by omega, hr, rfl, fun h => (by cases h), SA.below HJ.out.2 rfl, HJ.out.1.rebase (by omega), rfl, by go_num, hb.trans (hall.mono (by omega))⟩
            · have q1 : ¬ (most : Int) < 1 := by omega
              have q2 : decide (most < 1) = false := decide_eq_false hmm
              have q3 : decide ((most : Int) < 1) = false := decide_eq_false q1
              have HM := Lib.hid hmm
              clear hmm
              go_wp2_with (go_at_call 67; refine JN.mono ?_; rintro e w4 ⟨v4, rfl, ho4, hb4⟩; have HJ := Lib.hid (And.intro ho4 hb4); clear ho4 hb4)
              go_roundg k
              case measure => omega
              case rel =>
                obtain ⟨hr, -⟩ := HR.out
                rw [if_neg HM.out] at hr
                obtain ⟨b01, s1, b3, b8, SA⟩ := HB.out
                obtain ⟨hj, -, hnil, hns, ho, hb, bw, hb1, -, hk1, egs, -⟩ := HK.out
                have b1 := hb1
                rw [egs] at b1
                have z3 := b3.size
                have z8 := b8.size
                have zb := hb.size
                have eg := H.out.2.2.1
                have hall : Below W.heap.size W w4 := ((b1.trans (b3.mono (by omega))).trans (b8.mono (by omega))).trans (HJ.out.2.mono (by omega))
                exact ⟨j + 1, [s.name], most, joinM out c, some ⟨gb, 0, none⟩, cb, by omega, hr, rfl, fun h => (by cases h), SA.below HJ.out.2 rfl, HJ.out.1.rebase (by omega), rfl, by go_num, hb.trans (hall.mono (by omega))⟩)
        · rw [if_neg hne] at hr; cases hr
      · have t1 : ¬ ((s.op : Int) = 1) := by omega
        have t2 : ((s.op : Int) == 1) = false := by simp; omega
        have hr := HK.out.2.1
        rw [if_neg h1] at hr
        have b01 : Below g W w1 := HK.out.2.2.2.2.2.2.2.1.mono (by have := HK.out.2.2.2.2.2.2.2.2.2.2.1; have := HK.out.2.2.2.2.2.1.size; have := H.out.2.2.1; omega)
        have s1 := HK.out.2.2.2.2.2.2.2.2.1
        have b3 := HS.out.2.1
        have JN := join_ok u7 v3 out c HK.out.2.2.2.2.2.2.2.2.2.2.2.2.1 (okC_use HK.out.2.2.2.2.2.2.2.2.2.2.2.1).1 (okC_use HK.out.2.2.2.2.2.2.2.2.2.2.2.1).2 w3 ((HK.out.2.2.2.2.1.at_.below HK.out.2.2.2.2.2.2.2.1 HK.out.2.2.2.2.2.2.2.2.2.2.1).below b3 rfl) HS.out.1.at_
        have HR := Lib.hid (And.intro hr (And.intro b01 (And.intro s1 b3)))
        clear hr b01 s1 b3
        by_cases hmm : most < m
        · have q1 : (most : Int) < (m : Int) := by omega
          have q2 : decide (most < m) = true := decide_eq_true hmm
          have HM := Lib.hid hmm
          clear hmm
          go_wp2_with (go_at_call 67; refine JN.mono ?_; rintro e w4 ⟨v4, rfl, ho4, hb4⟩; have HJ := Lib.hid (And.intro ho4 hb4); clear ho4 hb4)
          go_roundg k
          case measure => omega
          case rel =>
            obtain ⟨hr, b01, s1, b3⟩ := HR.out
            obtain ⟨hj, -, hnil, hns, ho, hb, bw, hb1, -, hk1, egs, -⟩ := HK.out
            rw [if_pos HM.out] at hr
            have b1 := hb1
            rw [egs] at b1
            have z3 := b3.size
            have zb := hb.size
            have eg := H.out.2.2.1
            have hall : Below W.heap.size W w4 := (b1.trans (b3.mono (by omega))).trans (HJ.out.2.mono (by omega))
            exact ⟨j + 1, ns, m, joinM out c, NA, nc, by omega, hr, rfl, hnil, hns.below hall rfl, HJ.out.1.rebase (by omega), rfl, by go_num, hb.trans (hall.mono (by omega))⟩
        · have q1 : ¬ (most : Int) < (m : Int) := by omega
          have q2 : decide (most < m) = false := decide_eq_false hmm
          have HM := Lib.hid hmm
          clear hmm
          go_wp2_with (go_at_call 67; refine JN.mono ?_; rintro e w4 ⟨v4, rfl, ho4, hb4⟩; have HJ := Lib.hid (And.intro ho4 hb4); clear ho4 hb4)
          go_roundg k
          case measure => omega
          case rel =>
            obtain ⟨hr, b01, s1, b3⟩ := HR.out
            obtain ⟨hj, -, hnil, hns, ho, hb, bw, hb1, -, hk1, egs, -⟩ := HK.out
            rw [if_neg HM.out] at hr
            have b1 := hb1
            rw [egs] at b1
            have z3 := b3.size
            have zb := hb.size
            have eg := H.out.2.2.1
            have hall : Below W.heap.size W w4 := (b1.trans (b3.mono (by omega))).trans (HJ.out.2.mono (by omega))
            exact ⟨j + 1, ns, most, joinM out c, NA, nc, by omega, hr, rfl, hnil, hns.below hall rfl, HJ.out.1.rebase (by omega), rfl, by go_num, hb.trans (hall.mono (by omega))⟩
    · rw [if_neg hok] at hr; cases hr
end
end Go.Proofs.YtocbddajakbemaaGreat
namespace Go.Proofs.YtocbddajakbemaaGreat
section
open Go.RowKit
def setA (c : List In) (i : Nat) (a : Int) : List In := match c[i]? with
  | some x => c.set i (x.1, a)
  | none => c
def whileM (fl cb : List In) : List In := setA (joinM (joinM fl [(12, 0)]) cb) fl.length ((fl.length + 1 + cb.length : Nat) + 1) ++ [(11, 0)]
theorem wrapL {L : Nat} (h : L ≤ 1401) : wrap64 ((L : Int) + 1) = (L : Int) + 1 := by unfold wrap64; omega
theorem boundL {L : Nat} (h : L ≤ 1401) : L + 1 ≤ maxLen ∧ (L + 1) * 16 ≤ 140737488355328 := by unfold maxLen; omega
theorem insC_set {c : List In} {i : Nat} {x : In} (h : c[i]? = some x) (a : Int) : insC (c.set i (x.1, a)) = (insC c).set (i * 2 + 1) (.int .i64 a) := by
  induction c generalizing i with
  | nil => simp at h
  | cons y c ih =>
    rcases i with _ | i
    · simp at h
      subst h
      rfl
    · have := ih (by simpa using h)
      rw [List.set_cons_succ]
      show [_, _] ++ insC (c.set i _) = ([_, _] ++ insC c).set _ _
      rw [this, List.set_append_right _ _ (by simp; omega)]
      simp [show (i + 1) * 2 + 1 - 2 = i * 2 + 1 by omega]
set_option maxRecDepth 100000 in
set_option maxHeartbeats 4000000 in
theorem stm_5 (num : Int) (name : ByteArray) (codes : List (List In)) (A BA NA : Option Addr) (cp bn bc nc : Nat) (names : List ByteArray) (cb : List In) (mb : Nat) (w : World) (hL : (∀ W, Below w.heap.size w W → Calls Tryz.prog 39 #[.slice BA bn bc, .slice NA names.length nc] W (ResL W cb mb)) ∧ okC cb = true) (hfl : Flats codes) (hml : codes.length ≤ 500) (hn : StrsAt w NA names) (hnl : names.length ≤ 31) (hx : EXs w A NA names.length nc codes) :
    Calls Tryz.prog 66 #[.agg #[.int .u8 5, .int .i64 num, .string name, .slice A codes.length cp, .slice BA bn bc, .slice none 0 0], .slice NA names.length nc] w (ResL w (whileM codes.flatten cb) mb) := by
  have HM := Lib.hid hml
  clear hml
  obtain ⟨g, eg⟩ : ∃ g, g = w.heap.size := ⟨_, rfl⟩
  obtain ⟨w1, e1, hb, hs, hk⟩ := box6_new w (.int .u8 5) (.int .i64 num) (.string name) (.slice A codes.length cp) (.slice BA bn bc) (.slice none 0 0)
  have FD0 : ∀ W, Below w.heap.size w W → Calls Tryz.prog 101 #[.slice NA names.length nc, .string name] W fun e w' => e = .returned (.int .i64 (findM names name)) ∧ W = w' :=
    fun W hW => find_ok names NA nc name (by omega) W (hn.below hW rfl)
  obtain ⟨F, eF⟩ : ∃ F, F = findM names name := ⟨_, rfl⟩
  rw [← eF] at FD0 
  rw [← eg] at hk hb
  obtain ⟨nl, enl⟩ : ∃ nl, nl = names.length := ⟨_, rfl⟩
  obtain ⟨m, em⟩ : ∃ m, m = codes.length := ⟨_, rfl⟩
  rw [← enl] at FD0 hx hnl hL ⊢
  have HL := Lib.hid hL
  clear hL
  rw [← em] at hk e1 ⊢
  obtain ⟨⟨d0, d1, d2, d3, d4, d5⟩, -⟩ := st_facts hk
  have H := Lib.hid (And.intro hb (And.intro hs (And.intro eg (And.intro hk (And.intro hx (And.intro hfl (And.intro em (And.intro FD0 hnl))))))))
  clear hb hs hk hx hfl em FD0 enl eF hn
  go_enter Tryz.func66, Tryz.ntmps66
  go_upto_region 1 with fail
  rw [← e1, ← eg]
  clear e1 eg
  go_wp2_with fail
  go_loopg [7, 8] m (fun gh ov iv wr => ∃ k : Nat, gh + k = m ∧ iv = .int .i64 (k : Nat) ∧ Own wr w1.heap.size ov (codes.take k).flatten ∧ Below w1.heap.size w1 wr)
  case atStart => exact ⟨0, rfl, rfl, ⟨rfl, Or.inl ⟨rfl, rfl⟩⟩, Below.refl _ _⟩
  case round =>
  obtain ⟨k, hk, rfl, ho, hbw⟩ := hrel
  obtain ⟨W, eW⟩ : ∃ W, W = wr := ⟨_, rfl⟩
  rw [← eW] at ho hbw ⊢
  clear eW
  have hkW := (hbw.block g (lt_of_block' H.out.2.2.2.1)).trans H.out.2.2.2.1
  clear d0 d1 d2 d3 d4 d5
  obtain ⟨⟨d0, d1, d2, d3, d4, d5⟩, -⟩ := st_facts hkW
  have bw : Below w.heap.size w W := by
    have h1 := H.out.1; rw [H.out.2.2.1] at h1
    exact h1.trans (hbw.mono (by have := H.out.2.1; omega))
  rcases gk with _ | gi
  · have hkm : k = m := by omega
    subst hkm
    have hall : (codes.take k).flatten = codes.flatten := by rw [List.take_of_length_le (by have := H.out.2.2.2.2.2.2.1; omega)]
    rw [hall] at ho
    have FDx := H.out.2.2.2.2.2.2.2.1 W bw
    have hF4 := H.out.2.2.2.2.2.1.len
    have HO := Lib.hid (And.intro ho (And.intro hbw (And.intro bw hkW)))
    have i2 : decide ((k : Int) < (k : Int)) = false := decide_eq_false (by omega)
    clear ho hbw bw hkW hk hall
    go_upto_region 9 with fail
    have LSx := HL.out.1 _ HO.out.2.2.1
    have hoc := HL.out.2
    have HD := Lib.hid (And.intro hF4 hoc)
    clear hF4 hoc
    go_upto_region 28 with (first | (go_at_call 101; refine FDx.mono ?_; rintro e w2 ⟨rfl, rfl⟩) | (go_at_call 39; refine LSx.mono ?_; rintro e w3 ⟨vb, rfl, hob, hb3⟩; have hk3 := (hb3.block g (lt_of_block' HO.out.2.2.2)).trans HO.out.2.2.2; have HB3 := Lib.hid (And.intro hob (And.intro hb3 hk3)); clear hob hb3 hk3))
    clear d0 d1 d2 d3 d4 d5
    obtain ⟨⟨d0, d1, d2, d3, d4, d5⟩, -⟩ := st_facts HB3.out.2.2
    have ON := one_ok 12 0 w3
    go_upto_region 32 with fail
    go_wp2_with (go_at_call 102; refine ON.mono ?_; rintro e w4 ⟨v2, rfl, ho4, hb4⟩; have J1 := join_ok _ v2 codes.flatten [(12, 0)] (by have := HD.out.1; omega) (by simp) (by intro x hx _; simp only [List.mem_singleton] at hx; subst hx; exact ⟨by decide, by decide⟩) w4 ((HO.out.1.at_.below HB3.out.2.1 rfl).below hb4 rfl) ho4.at_; have HB4 := Lib.hid hb4; clear ho4 hb4)
    go_upto_region 32 with fail
    refine J1.mono ?_
    rintro e w5 ⟨v3, rfl, ho5, hb5⟩
    have J2 := join_ok v3 vb _ cb (by rw [joinM_length]; show codes.flatten.length + 1 ≤ 1000; have := HD.out.1; omega) (okC_use HD.out.2).1 (okC_use HD.out.2).2 w5 ho5.at_ ((HB3.out.1.at_.below HB4.out rfl).below hb5 rfl)
    have HB5 := Lib.hid hb5
    clear ho5 hb5 J1
    go_upto_region 32 with fail
    refine J2.mono ?_
    rintro e w6 ⟨v4, rfl, ho6, hb6⟩
    have HB6 := Lib.hid (And.intro ho6 hb6)
    clear ho6 hb6 J2
    go_upto_region 32 with fail
    clear ON
    obtain ⟨c1, ec1⟩ : ∃ c1, c1 = joinM codes.flatten [(12, 0)] := ⟨_, rfl⟩
    obtain ⟨c2, ec2⟩ : ∃ c2, c2 = joinM c1 cb := ⟨_, rfl⟩
    have hO6 := HB6.out.1
    rw [← ec1, ← ec2] at hO6
    obtain ⟨nf, enf⟩ : ∃ nf, nf = codes.flatten.length := ⟨_, rfl⟩
    have hc1 : c1.length = nf + 1 := by rw [ec1, joinM_length, ← enf]; rfl
    have hc2 : c2.length = nf + 1 + cb.length := by rw [ec2, joinM_length, hc1]
    have hx12 : c2[nf]? = some (12, 0 + ((nf : Nat) : Int)) := by
      rw [ec2, joinM, List.getElem?_append_left (by omega), ec1, joinM, List.getElem?_append_right (by omega), ← enf]
      simp [shiftI]
    obtain ⟨gw, cw, rfl, hgw, hcell⟩ := row_own hO6 (by rw [insC_length]; omega)
    obtain ⟨A7, c7, rfl⟩ : ∃ A c, u7 = .slice A nf c := by
      rcases HO.out.1.2 with ⟨h, e⟩ | ⟨g', cap, cur, h, -⟩
      · exact ⟨none, 0, by rw [h, enf, e]⟩
      · exact ⟨_, cap, by rw [h, enf]⟩
    obtain ⟨L, eL⟩ : ∃ L, L = c2.length := ⟨_, rfl⟩
    have hO : w6.ownsRow w5.heap.size 104 2 (.slice (some ⟨gw, 0, none⟩) L cw) L (insC c2) := by rw [eL]; exact hO6
    rw [← eL] at hc2 ⊢
    have x1 := hcell (nf * 2 + 1) _ (insC_at hx12).2
    have z1 := World.ownsRow.frozenAt hO (nf * 2 + 1)
    have i0 : (0 : Int) ≤ (nf : Int) := by omega
    have i1 : (nf : Int) < (L : Int) := by omega
    have hnf : nf ≤ 400 := by rw [enf]; exact HD.out.1
    have hcb := (okC_use HD.out.2).1
    have hLb : L ≤ 1401 := by omega
    have uL : wrap64 ((L : Int) + 1) = (L : Int) + 1 := wrapL hLb
    obtain ⟨w7, ew7⟩ : ∃ w7, w7 = w6.setCell ⟨gw, nf * 2 + 1, none⟩ (.int .i64 ((L : Int) + 1)) := ⟨_, rfl⟩
    obtain ⟨c3, ec3⟩ : ∃ c3, c3 = c2.set nf (12, (L : Int) + 1) := ⟨_, rfl⟩
    have h7 : w7.ownsRow w5.heap.size 104 2 (.slice (some ⟨gw, 0, none⟩) L cw) L (insC c3) := by
      have := (World.ownsRow.stored hO (nf * 2 + 1) (.int .i64 ((L : Int) + 1))).1
      rw [← insC_set hx12, ← ec3, ← ew7] at this
      exact this
    have b7 : Below w5.heap.size w5 w7 := by rw [ew7]; exact HB6.out.2.setCell (p := ⟨gw, nf * 2 + 1, none⟩) hgw.1 _
    have hres : whileM codes.flatten cb = c3 ++ [(11, 0)] := by
      unfold whileM setA
      rw [← ec1, ← ec2, ← enf, hx12, ec3]
      simp only
      rw [show ((nf + 1 + cb.length : Nat) : Int) + 1 = (L : Int) + 1 by rw [hc2]]
    have hl3 : c3.length = L := by rw [ec3, List.length_set, eL]
    obtain ⟨i9, hi9, hz0, hz1, hz2⟩ := info_parts infoIns
    have HI := Lib.hid (And.intro hi9 (And.intro hz0 (And.intro hz1 hz2)))
    obtain ⟨nw, enw⟩ : ∃ nw, nw = insC [(11, 0)] := ⟨_, rfl⟩
    have HN1 := Lib.hid (show nw.length = 1 * 2 from by rw [enw]; rfl)
    have HN2 := Lib.hid (show ∀ j u, nw[j]? = some u → (w7.alloc (.cells #[.int .u8 11, .int .i64 0] 104 (0, 0))).cell? ((⟨w7.heap.size, 0, none⟩ : Addr).add j) = some u from by rw [enw]; exact news_new w7 #[.int .u8 11, .int .i64 0] _ _ rfl)
    have HN3 := Lib.hid (show ∀ u ∈ nw, u.oneCell' = true from by rw [enw]; exact insC_one _)
    have HN4 := Lib.hid (show L + 1 ≤ maxLen ∧ (L + 1) * 16 ≤ 140737488355328 from boundL hLb)
    have HN5 := Lib.hid (show ∀ A, w5.heap.size ≤ (w7.alloc A).heap.size from fun A => Nat.le_trans b7.size (by simp))
    have HO7 := Lib.hid (show ∀ A, (w7.alloc A).ownsRow w5.heap.size 104 2 (.slice (some ⟨gw, 0, none⟩) L cw) L (insC c3) from fun A => h7.alloc _)
    have HZ := Lib.hid (And.intro hres (And.intro hl3 (And.intro b7 (And.intro h7 enw))))
    clear hO hO6 hx12 hcell hc1 hc2 ec1 ec2 ec3 enf eL hgw h7 b7 hres hl3 hi9 hz0 hz1 hz2 enw hnf hcb
    go_upto_region 33 with fail
    rw [← ew7]
    clear ew7 x1 z1
    go_wp2_with (at_builtin; refine wpList_append_own_at _ rfl (.tmp 108) (.tmp 110) 68 rfl w5.heap.size 104 i9 _ 2 16 Tryz.underlying68 HI.out.1 HI.out.2.1 HI.out.2.2.1 HI.out.2.2.2 rfl (by decide) (.slice (some ⟨gw, 0, none⟩) L cw) L (insC c3) rfl (HO7.out _) ⟨w7.heap.size, 0, none⟩ 1 1 nw rfl HN1.out HN2.out HN3.out HN4.out.1 HN4.out.2 (HN5.out _) ?_)
    intro v9 w9 hown9 hg9 _ hat9
    have HV := Lib.hid (And.intro hown9 hg9); clear hown9 hg9 hat9
    go_wp2_with fail
    go_ret3
    obtain ⟨hres, hl3, b7, h7, enw⟩ := HZ.out
    obtain ⟨hown9, hg9⟩ := HV.out
    have b1 := HO.out.2.1
    have s1 := b1.size
    have hs := H.out.2.1
    have s3 := HB3.out.2.1.size
    have s4 := HB4.out.size
    have s5 := HB5.out.size
    refine ⟨_, rfl, ?_, ?_⟩
    · rw [hres]
      refine Own.rebase (B := w5.heap.size) ?_ (by omega)
      unfold Own
      rw [List.length_append, insC_append, hl3, ← enw]
      exact hown9
    · have b35 : Below W.heap.size W w5 := (HB3.out.2.1.trans (HB4.out.mono (by omega))).trans (HB5.out.mono (by omega))
      have b9 : Below w5.heap.size w5 w9 := (b7.alloc b7.size _).grown hg9 (HN5.out _) (fun q hq => (own_lt h7 hq).2)
      exact (HO.out.2.2.1.trans (b35.mono (by omega))).trans (b9.mono (by omega))
  · obtain ⟨c, hc⟩ : ∃ c, codes[k]? = some c := ⟨_, List.getElem?_eq_getElem (by have := H.out.2.2.2.2.2.2.1; omega)⟩
    obtain ⟨b', o, nn, s', A', mm, q, eA, ⟨x0, x1, x2, x3⟩, FC⟩ := H.out.2.2.2.2.1 k c hc
    subst eA
    have FCx := FC W bw
    have x0 := (bw.cell (World.block_lt_of_cell? _ _ x0)).trans x0
    have x1 := (bw.cell (World.block_lt_of_cell? _ _ x1)).trans x1
    have x2 := (bw.cell (World.block_lt_of_cell? _ _ x2)).trans x2
    have x3 := (bw.cell (World.block_lt_of_cell? _ _ x3)).trans x3
    have hbl := World.block_lt_of_cell? W _ x0
    have k0 : (0 : Int) ≤ (k : Int) := by omega
    have k1 : (k : Int) < (m : Int) := by omega
    have k2 : decide (k < m) = true := decide_eq_true (by omega)
    have hm4 : k < 1000 := by
      have := H.out.2.2.2.2.2.2.1
      have := HM.out
      omega
    have w2' : wrap64 ((k : Int) + 1) = (k : Int) + 1 := by unfold wrap64; omega
    have hfl := H.out.2.2.2.2.2.1
    have HK2 := Lib.hid (And.intro hk (And.intro hbw (And.intro ho (And.intro hc hfl))))
    clear hk hbw bw FC hkW ho hc hfl hm4
    go_wp2_with (first | (go_at_call 100; refine FCx.mono ?_; rintro e w3 ⟨v3, rfl, ho3, hb3⟩; have JN := join_ok _ _ _ c (by have := HK2.out.2.2.2.2.part k; omega) (by have := HK2.out.2.2.2.2.one HK2.out.2.2.2.1; omega) (fun x hx hj => absurd hj (HK2.out.2.2.2.2.flat c (List.mem_of_getElem? HK2.out.2.2.2.1) x hx)) w3 (HK2.out.2.2.1.at_.below hb3 rfl) ho3.at_; have HB7 := Lib.hid hb3; clear hb3 ho3) | (go_at_call 67; refine JN.mono ?_; rintro e w4 ⟨v4, rfl, ho4, hb4⟩; have HB8 := Lib.hid (And.intro ho4 hb4); clear ho4 hb4))
    go_roundg gi
    case measure => omega
    case rel =>
      have hc := HK2.out.2.2.2.1
      have b1 := HK2.out.2.1
      have b2 := HB7.out
      have s1 := b1.size
      have s2 := b2.size
      refine ⟨k + 1, by have := HK2.out.1; omega, by go_num, ?_, (b1.trans (b2.mono s1)).trans (HB8.out.2.mono (by omega))⟩
      rw [take_flat hc, ← joinM_flat (HK2.out.2.2.2.2.flat c (List.mem_of_getElem? hc))]
      exact HB8.out.1.rebase (by omega)
end
end Go.Proofs.YtocbddajakbemaaGreat
