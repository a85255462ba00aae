/- vm, the front end: the reference's compiler: expressions. vm, the front end: the reference's compiler: expressions of two arguments; whole. vm, the front end: the reference's compiler: a statement without a block. -/
import Derived.Test.YtocbddajakbemaaGreatML
import Derived.Test.YtocbddajakbemaaGreatMN
import Derived.Deep.RegionHeld3
set_option linter.unusedVariables false
set_option linter.unusedSimpArgs false
set_option linter.unusedSimpArgs false
namespace Go.Proofs.YtocbddajakbemaaGreat
section
open Go.RowKit
def exprM (names : List ByteArray) : Ex → Option (List In)
  | .l op n s => if op = 1 then some [(1, n)] else if op = 2 then (if findM names s < 0 then none else some [(2, findM names s)]) else if op = 5 then some [(7, 0)] else none
  | .u op n x => if op = 3 then (match exprM names x with | none => none | some a => some (joinM a [(4, n)])) else none
  | .b op x y => if op = 10 ∨ op = 13 ∨ op = 14 then (match exprM names x, exprM names y with | some a, some b => some (joinM (joinM a b) [(9, op)]) | _, _ => none) else none
theorem joinM_length (a b : List In) : (joinM a b).length = a.length + b.length := by simp [joinM]
def flatC (l : List In) : Prop := ∀ x, x ∈ l → ¬ (11 ≤ x.1 ∧ x.1 ≤ 13)
theorem joinM_flat {a b : List In} (h : flatC b) : joinM a b = a ++ b := by
  unfold joinM
  congr 1
  conv => rhs; rw [← List.map_id b]
  exact List.map_congr_left fun x hx => by rw [shiftI, if_neg (h x hx)]; rfl
theorem flat_one {op : Nat} {a : Int} (h : ¬ (11 ≤ op ∧ op ≤ 13)) : flatC [(op, a)] := by
  intro x hx
  simp only [List.mem_singleton] at hx
  subst hx
  exact h
theorem flat_app {a b : List In} (ha : flatC a) (hb : flatC b) : flatC (a ++ b) := fun x hx => (List.mem_append.1 hx).elim (ha x) (hb x)
def exSize : Ex → Nat
  | .l _ _ _ => 1
  | .u _ _ x => exSize x + 1
  | .b _ x y => exSize x + exSize y + 1
theorem exprM_flat (names : List ByteArray) : ∀ (x : Ex) (c : List In), exprM names x = some c → flatC c ∧ c.length = exSize x := by
  intro x
  induction x with
  | l op n s =>
    intro c h
    rw [exprM] at h
    by_cases h1 : op = 1
    · rw [if_pos h1] at h; injection h with h; subst h; exact ⟨flat_one (by omega), rfl⟩
    rw [if_neg h1] at h
    by_cases h2 : op = 2
    · rw [if_pos h2] at h
      by_cases h3 : findM names s < 0
      · rw [if_pos h3] at h; cases h
      · rw [if_neg h3] at h; injection h with h; subst h; exact ⟨flat_one (by omega), rfl⟩
    rw [if_neg h2] at h
    by_cases h5 : op = 5
    · rw [if_pos h5] at h; injection h with h; subst h; exact ⟨flat_one (by omega), rfl⟩
    · rw [if_neg h5] at h; cases h
  | u op n x ih =>
    intro c h
    rw [exprM] at h
    by_cases h3 : op = 3
    · rw [if_pos h3] at h
      rcases hx : exprM names x with _ | a
      · rw [hx] at h; cases h
      rw [hx] at h
      injection h with h; subst h
      obtain ⟨h1, h2⟩ := ih a hx
      rw [joinM_flat (flat_one (by omega))]
      exact ⟨flat_app h1 (flat_one (by omega)), by rw [List.length_append, h2]; rfl⟩
    · rw [if_neg h3] at h; cases h
  | b op x y ihx ihy =>
    intro c h
    rw [exprM] at h
    by_cases h3 : op = 10 ∨ op = 13 ∨ op = 14
    · rw [if_pos h3] at h
      rcases hx : exprM names x with _ | a
      · rw [hx] at h; cases h
      rcases hy : exprM names y with _ | b
      · rw [hx, hy] at h; cases h
      rw [hx, hy] at h
      injection h with h; subst h
      obtain ⟨h1, h2⟩ := ihx a hx
      obtain ⟨k1, k2⟩ := ihy b hy
      rw [joinM_flat (flat_one (by omega)), joinM_flat k1]
      exact ⟨flat_app (flat_app h1 k1) (flat_one (by omega)), by rw [List.length_append, List.length_append, h2, k2]; rfl⟩
    · rw [if_neg h3] at h; cases h
def ResC (w : World) (c : List In) (e : Ending) (w' : World) : Prop := ∃ v, e = .returned (.tuple #[v, .int .i64 0]) ∧ Own w' w.heap.size v c ∧ Below w.heap.size w w'
theorem Own.rebase {w : World} {B B' : Nat} {v : Value} {l : List In} (h : Own w B v l) (hB : B' ≤ B) : Own w B' v l := by
  refine ⟨h.1, ?_⟩
  rcases h.2 with h | ⟨g, cap, cur, rfl, hb, r⟩
  · exact Or.inl h
  · exact Or.inr ⟨g, cap, cur, rfl, Nat.le_trans hB hb, r⟩
set_option maxRecDepth 100000 in
set_option maxHeartbeats 2000000 in
theorem ex_1 (n : Int) (NA : Option Addr) (nl nc : Nat) (w : World) :
    Calls Tryz.prog 100 #[.agg #[.int .u8 1, .int .i64 n, .string ⟨#[]⟩, .slice none 0 0], .slice NA nl nc] w (ResC w [(1, n)]) := by
  obtain ⟨g, eg⟩ : ∃ g, g = w.heap.size := ⟨_, rfl⟩
  obtain ⟨w1, e1, hb, hs, hk⟩ := box_new w 1 n ⟨#[]⟩ none 0 0
  have ON := one_ok 1 n w1
  rw [← eg] at hk hb
  obtain ⟨d0, d1, d2, d3, z0, z1, z2, z3⟩ := ex_facts hk
  have HB := Lib.hid (And.intro hb (And.intro hs eg))
  clear hb hs hk
  go_enter Tryz.func100, Tryz.ntmps100
  go_upto_region 1 with fail
  rw [← e1, ← eg]
  clear e1 eg
  go_wp2_with (go_at_call 102; refine ON.mono ?_; rintro e w2 ⟨v, rfl, ho, hb2⟩; have HO := Lib.hid (And.intro ho hb2); clear ho hb2)
  go_ret2
  obtain ⟨hb, hs, eg⟩ := HB.out
  exact ⟨_, rfl, HO.out.1.rebase (by omega), by rw [← eg]; exact hb.trans (HO.out.2.mono (by omega))⟩
set_option maxRecDepth 100000 in
set_option maxHeartbeats 2000000 in
theorem ex_5 (NA : Option Addr) (nl nc : Nat) (w : World) :
    Calls Tryz.prog 100 #[.agg #[.int .u8 5, .int .i64 0, .string ⟨#[]⟩, .slice none 0 0], .slice NA nl nc] w (ResC w [(7, 0)]) := by
  obtain ⟨g, eg⟩ : ∃ g, g = w.heap.size := ⟨_, rfl⟩
  obtain ⟨w1, e1, hb, hs, hk⟩ := box_new w 5 0 ⟨#[]⟩ none 0 0
  have ON := one_ok 7 0 w1
  rw [← eg] at hk hb
  obtain ⟨d0, d1, d2, d3, z0, z1, z2, z3⟩ := ex_facts hk
  have HB := Lib.hid (And.intro hb (And.intro hs eg))
  clear hb hs hk
  go_enter Tryz.func100, Tryz.ntmps100
  go_upto_region 1 with fail
  rw [← e1, ← eg]
  clear e1 eg
  go_wp2_with (go_at_call 102; refine ON.mono ?_; rintro e w2 ⟨v, rfl, ho, hb2⟩; have HO := Lib.hid (And.intro ho hb2); clear ho hb2)
  go_ret2
  obtain ⟨hb, hs, eg⟩ := HB.out
  exact ⟨_, rfl, HO.out.1.rebase (by omega), by rw [← eg]; exact hb.trans (HO.out.2.mono (by omega))⟩
set_option maxRecDepth 100000 in
set_option maxHeartbeats 2000000 in
theorem ex_2 (s : ByteArray) (names : List ByteArray) (NA : Option Addr) (nc : Nat) (hl : names.length ≤ 1000) (hf : ¬ findM names s < 0) (w : World) (hn : StrsAt w NA names) :
    Calls Tryz.prog 100 #[.agg #[.int .u8 2, .int .i64 0, .string s, .slice none 0 0], .slice NA names.length nc] w (ResC w [(2, findM names s)]) := by
  obtain ⟨g, eg⟩ : ∃ g, g = w.heap.size := ⟨_, rfl⟩
  obtain ⟨w1, e1, hb, hs, hk⟩ := box_new w 2 0 s none 0 0
  have FD := find_ok names NA nc s hl w1 (hn.below hb rfl)
  obtain ⟨F, eF⟩ : ∃ F, F = findM names s := ⟨_, rfl⟩
  rw [← eF] at FD hf ⊢
  have ON := one_ok 2 F w1
  rw [← eg] at hk hb
  obtain ⟨d0, d1, d2, d3, z0, z1, z2, z3⟩ := ex_facts hk
  have HB := Lib.hid (And.intro hb (And.intro hs eg))
  obtain ⟨nl, enl⟩ : ∃ nl, nl = names.length := ⟨_, rfl⟩
  rw [← enl] at FD ⊢
  clear hb hs hk hn hl enl eF
  go_enter Tryz.func100, Tryz.ntmps100
  go_upto_region 1 with fail
  rw [← e1, ← eg]
  clear e1 eg
  go_wp2_with (first | (go_at_call 101; refine FD.mono ?_; rintro e w2 ⟨rfl, rfl⟩) | (go_at_call 102; refine ON.mono ?_; rintro e w2 ⟨v, rfl, ho, hb2⟩; have HO := Lib.hid (And.intro ho hb2); clear ho hb2))
  go_ret2
  obtain ⟨hb, hs, eg⟩ := HB.out
  exact ⟨_, rfl, HO.out.1.rebase (by omega), by rw [← eg]; exact hb.trans (HO.out.2.mono (by omega))⟩
theorem jump_free {op : Nat} {a : Int} (h : ¬ (11 ≤ op ∧ op ≤ 13)) : ∀ x, x ∈ [((op, a) : In)] → 11 ≤ x.1 ∧ x.1 ≤ 13 → 0 ≤ x.2 ∧ x.2 ≤ 100000 := fun x hx hj => absurd hj (flat_one h x hx)
set_option maxRecDepth 100000 in
set_option maxHeartbeats 2000000 in
theorem ex_u (n : Int) (x : Ex) (a : List In) (b cp c1 : Nat) (A1 : Option Addr) (NA : Option Addr) (nl nc : Nat) (ha : a.length ≤ 900) (w : World) (hc : ExC w b 0 x A1 c1)
    (IH : ∀ W, Below w.heap.size w W → Calls Tryz.prog 100 #[.agg #[.int .u8 (x.op : Nat), .int .i64 x.num, .string x.name, .slice A1 x.many c1], .slice NA nl nc] W (ResC W a)) :
    Calls Tryz.prog 100 #[.agg #[.int .u8 3, .int .i64 n, .string ⟨#[]⟩, .slice (some ⟨b, 0, none⟩) 1 cp], .slice NA nl nc] w (ResC w (joinM a [(4, n)])) := by
  obtain ⟨g, eg⟩ : ∃ g, g = w.heap.size := ⟨_, rfl⟩
  obtain ⟨w1, e1, hb, hs, hk⟩ := box_new w 3 n ⟨#[]⟩ (some ⟨b, 0, none⟩) 1 cp
  have EX := IH w1 hb
  have x0 := (hb.cell (World.block_lt_of_cell? _ _ hc.c0)).trans hc.c0
  have x1 := (hb.cell (World.block_lt_of_cell? _ _ hc.c1)).trans hc.c1
  have x2 := (hb.cell (World.block_lt_of_cell? _ _ hc.c2)).trans hc.c2
  have x3 := (hb.cell (World.block_lt_of_cell? _ _ hc.c3)).trans hc.c3
  have hbl := World.block_lt_of_cell? w1 _ x0
  rw [← eg] at hk hb
  obtain ⟨d0, d1, d2, d3, z0, z1, z2, z3⟩ := ex_facts hk
  have HB := Lib.hid (And.intro hb (And.intro hs (And.intro eg (And.intro hk ha))))
  clear hb hs hk hc IH ha
  go_enter Tryz.func100, Tryz.ntmps100
  go_upto_region 1 with fail
  rw [← e1, ← eg]
  clear e1 eg
  go_upto_region 15 with (go_at_call 100; refine EX.mono ?_; rintro e w2 ⟨v, rfl, ho, hb2⟩; have hk2 := (hb2.block g (lt_of_block' HB.out.2.2.2.1)).trans HB.out.2.2.2.1; obtain ⟨f0, f1, f2, f3, -⟩ := ex_facts hk2; have HO := Lib.hid (And.intro ho hb2); clear ho hb2 hk2)
  clear d0 d1 d2 d3 z0 z1 z2 z3 x0 x1 x2 x3 hbl EX
  have ON := one_ok 4 n w2
  go_wp2_with (first | (go_at_call 102; refine ON.mono ?_; rintro e w3 ⟨v2, rfl, ho, hb2⟩; have JN := join_ok v v2 a [(4, n)] (by have := HB.out.2.2.2.2; omega) (by simp) (jump_free (by omega)) w3 (HO.out.1.at_.below hb2 rfl) ho.at_; have HO2 := Lib.hid (And.intro ho hb2); clear ho hb2) | (go_at_call 67; refine JN.mono ?_; rintro e w4 ⟨v3, rfl, ho, hb2⟩; have HO3 := Lib.hid (And.intro ho hb2); clear ho hb2))
  go_ret2
  obtain ⟨hb, hs, eg, -⟩ := HB.out
  have s2 := HO.out.2.size
  have s3 := HO2.out.2.size
  exact ⟨_, rfl, HO3.out.1.rebase (by omega), by rw [← eg]; exact ((hb.trans (HO.out.2.mono (by omega))).trans (HO2.out.2.mono (by omega))).trans (HO3.out.2.mono (by omega))⟩
end
end Go.Proofs.YtocbddajakbemaaGreat
namespace Go.Proofs.YtocbddajakbemaaGreat
section
open Go.RowKit
set_option maxRecDepth 100000 in
set_option maxHeartbeats 4000000 in
theorem ex_b (op : Nat) (hop : op = 10 ∨ op = 13 ∨ op = 14) (x y : Ex) (a c : List In) (b cp c1 c2 : Nat) (A1 A2 : Option Addr) (NA : Option Addr) (nl nc : Nat) (ha : a.length ≤ 400) (hcl : c.length ≤ 400) (hfc : flatC c) (w : World) (hc : ExC w b 0 x A1 c1) (hd : ExC w b 4 y A2 c2)
    (IH : ∀ W, Below w.heap.size w W → Calls Tryz.prog 100 #[.agg #[.int .u8 (x.op : Nat), .int .i64 x.num, .string x.name, .slice A1 x.many c1], .slice NA nl nc] W (ResC W a))
    (IH2 : ∀ W, Below w.heap.size w W → Calls Tryz.prog 100 #[.agg #[.int .u8 (y.op : Nat), .int .i64 y.num, .string y.name, .slice A2 y.many c2], .slice NA nl nc] W (ResC W c)) :
    Calls Tryz.prog 100 #[.agg #[.int .u8 (op : Nat), .int .i64 0, .string ⟨#[]⟩, .slice (some ⟨b, 0, none⟩) 2 cp], .slice NA nl nc] w (ResC w (joinM (joinM a c) [(9, op)])) := by
  obtain ⟨g, eg⟩ : ∃ g, g = w.heap.size := ⟨_, rfl⟩
  obtain ⟨w1, e1, hb, hs, hk⟩ := box_new w op 0 ⟨#[]⟩ (some ⟨b, 0, none⟩) 2 cp
  have EX := IH w1 hb
  have x0 := (hb.cell (World.block_lt_of_cell? _ _ hc.c0)).trans hc.c0
  have x1 := (hb.cell (World.block_lt_of_cell? _ _ hc.c1)).trans hc.c1
  have x2 := (hb.cell (World.block_lt_of_cell? _ _ hc.c2)).trans hc.c2
  have x3 := (hb.cell (World.block_lt_of_cell? _ _ hc.c3)).trans hc.c3
  have hbl := World.block_lt_of_cell? w1 _ x0
  rw [← eg] at hk hb
  obtain ⟨d0, d1, d2, d3, z0, z1, z2, z3⟩ := ex_facts hk
  have HB := Lib.hid (And.intro hb (And.intro hs (And.intro eg (And.intro hk (And.intro ha (And.intro hcl (And.intro hd IH2)))))))
  clear hb hs hk hc IH IH2 ha hcl hd
  go_enter Tryz.func100, Tryz.ntmps100
  go_upto_region 1 with fail
  rw [← e1, ← eg]
  clear e1 eg
  have wO : wrap64 (op : Int) = (op : Int) := by unfold wrap64; omega
  have wI : IntKind.i64.wrap (op : Int) = (op : Int) := Go.IntWalk.i64_in _ (by omega)
  rcases hop with rfl | rfl | rfl
  · as_aux_lemma =>
    go_upto_region 15 with (go_at_call 100; refine EX.mono ?_; rintro e w2 ⟨v, rfl, ho, hb2⟩; have hk2 := (hb2.block g (lt_of_block' HB.out.2.2.2.1)).trans HB.out.2.2.2.1; obtain ⟨f0, f1, f2, f3, -⟩ := ex_facts hk2; have HO := Lib.hid (And.intro ho (And.intro hb2 hk2)); clear ho hb2 hk2)
    clear d0 d1 d2 d3 z0 z1 z2 z3 x0 x1 x2 x3 hbl EX
    have hbw2 : Below w.heap.size w w2 := by
      have h1 := HB.out.1; rw [HB.out.2.2.1] at h1
      exact h1.trans (HO.out.2.1.mono (by have := HB.out.2.1; omega))
    have hd := HB.out.2.2.2.2.2.2.1
    have y0 := (hbw2.cell (World.block_lt_of_cell? _ _ hd.c0)).trans hd.c0
    have y1 := (hbw2.cell (World.block_lt_of_cell? _ _ hd.c1)).trans hd.c1
    have y2 := (hbw2.cell (World.block_lt_of_cell? _ _ hd.c2)).trans hd.c2
    have y3 := (hbw2.cell (World.block_lt_of_cell? _ _ hd.c3)).trans hd.c3
    have hbl2 := World.block_lt_of_cell? w2 _ y0
    have EX2 := HB.out.2.2.2.2.2.2.2 w2 hbw2
    clear hbw2 hd
    go_upto_region 24 with (go_at_call 100; refine EX2.mono ?_; rintro e w3 ⟨v2, rfl, ho, hb2⟩; have hk3 := (hb2.block g (lt_of_block' HO.out.2.2)).trans HO.out.2.2; obtain ⟨k0, k1, k2, k3, -⟩ := ex_facts hk3; have HO2 := Lib.hid (And.intro ho (And.intro hb2 hk3)); clear ho hb2 hk3)
    clear f0 f1 f2 f3 y0 y1 y2 y3 hbl2 EX2
    have J1 := join_ok v v2 a c (by have := HB.out.2.2.2.2.1; omega) (by have := HB.out.2.2.2.2.2.1; omega) (fun x hx hj => absurd hj (hfc x hx)) w3.drew (show InsAt w3.drew v a from HO.out.1.at_.below HO2.out.2.1.drew rfl) (show InsAt w3.drew v2 c from HO2.out.1.at_)
    have ONE := fun (o : Int) (W : World) => one_ok 9 o W
    go_upto_region 25 with fail
    go_region_held3 (fun W => W.cell? ⟨g, 0, none⟩ = some (.int .u8 ((10 : Nat) : Int))) (first | assumption | exact k0)
      (first
        | (refine step_call 67 [.tmp 94, .tmp 95] _ rfl rfl (fun _ _ => rfl) _ rfl J1 ?_
           rintro e w4 ⟨v3, rfl, ho, hb4⟩
           refine ⟨_, rfl, ?_⟩
           have hk4 := (hb4.block g (lt_of_block' HO2.out.2.2)).trans HO2.out.2.2
           obtain ⟨q0, -⟩ := ex_facts hk4
           have HJ := Lib.hid (And.intro ho hb4); clear ho hb4 hk4)
        | (refine step_call 102 [.const (.int .u8 9), .tmp 99] _ rfl rfl (fun _ _ => rfl) _ rfl (ONE _ _) ?_
           rintro e w5 ⟨v4, rfl, ho, hb5⟩
           refine ⟨_, rfl, ?_⟩
           have q5 := (hb5.cell (World.block_lt_of_cell? _ _ q0)).trans q0
           have HN := Lib.hid (And.intro ho hb5); clear ho hb5)
        | (refine step_call 67 [.tmp 96, .tmp 100] _ rfl rfl (fun _ _ => rfl) _ rfl (join_ok v3 v4 (joinM a c) [(9, ((10 : Nat) : Int))] (by rw [joinM_length]; have := HB.out.2.2.2.2.1; have := HB.out.2.2.2.2.2.1; omega) (by simp) (jump_free (by omega)) w5 (HJ.out.1.at_.below HN.out.2 rfl) HN.out.1.at_) ?_
           rintro e w6 ⟨v5, rfl, ho, hb6⟩
           refine ⟨_, rfl, ?_⟩
           have q6 := (hb6.cell (World.block_lt_of_cell? _ _ q5)).trans q5
           have HF := Lib.hid (And.intro ho hb6); clear ho hb6))
    all_goals go_wp2_with fail
    go_ret2
    obtain ⟨hb, hs, eg, -⟩ := HB.out
    have s2 := HO.out.2.1.size
    have s3 := HO2.out.2.1.size
    have b4 : Below w3.heap.size w3 w4 := ((Below.refl _ w3).drew).trans HJ.out.2
    have s4 := b4.size
    have s5 := HN.out.2.size
    have b3 := (hb.trans (HO.out.2.1.mono (by omega))).trans (HO2.out.2.1.mono (by omega))
    exact ⟨_, rfl, HF.out.1.rebase (by omega), by rw [← eg]; exact ((b3.trans (b4.mono (by omega))).trans (HN.out.2.mono (by omega))).trans (HF.out.2.mono (by omega))⟩
  · as_aux_lemma =>
    go_upto_region 15 with (go_at_call 100; refine EX.mono ?_; rintro e w2 ⟨v, rfl, ho, hb2⟩; have hk2 := (hb2.block g (lt_of_block' HB.out.2.2.2.1)).trans HB.out.2.2.2.1; obtain ⟨f0, f1, f2, f3, -⟩ := ex_facts hk2; have HO := Lib.hid (And.intro ho (And.intro hb2 hk2)); clear ho hb2 hk2)
    clear d0 d1 d2 d3 z0 z1 z2 z3 x0 x1 x2 x3 hbl EX
    have hbw2 : Below w.heap.size w w2 := by
      have h1 := HB.out.1; rw [HB.out.2.2.1] at h1
      exact h1.trans (HO.out.2.1.mono (by have := HB.out.2.1; omega))
    have hd := HB.out.2.2.2.2.2.2.1
    have y0 := (hbw2.cell (World.block_lt_of_cell? _ _ hd.c0)).trans hd.c0
    have y1 := (hbw2.cell (World.block_lt_of_cell? _ _ hd.c1)).trans hd.c1
    have y2 := (hbw2.cell (World.block_lt_of_cell? _ _ hd.c2)).trans hd.c2
    have y3 := (hbw2.cell (World.block_lt_of_cell? _ _ hd.c3)).trans hd.c3
    have hbl2 := World.block_lt_of_cell? w2 _ y0
    have EX2 := HB.out.2.2.2.2.2.2.2 w2 hbw2
    clear hbw2 hd
    go_upto_region 24 with (go_at_call 100; refine EX2.mono ?_; rintro e w3 ⟨v2, rfl, ho, hb2⟩; have hk3 := (hb2.block g (lt_of_block' HO.out.2.2)).trans HO.out.2.2; obtain ⟨k0, k1, k2, k3, -⟩ := ex_facts hk3; have HO2 := Lib.hid (And.intro ho (And.intro hb2 hk3)); clear ho hb2 hk3)
    clear f0 f1 f2 f3 y0 y1 y2 y3 hbl2 EX2
    have J1 := join_ok v v2 a c (by have := HB.out.2.2.2.2.1; omega) (by have := HB.out.2.2.2.2.2.1; omega) (fun x hx hj => absurd hj (hfc x hx)) w3.drew (show InsAt w3.drew v a from HO.out.1.at_.below HO2.out.2.1.drew rfl) (show InsAt w3.drew v2 c from HO2.out.1.at_)
    have ONE := fun (o : Int) (W : World) => one_ok 9 o W
    go_upto_region 25 with fail
    go_region_held3 (fun W => W.cell? ⟨g, 0, none⟩ = some (.int .u8 ((13 : Nat) : Int))) (first | assumption | exact k0)
      (first
        | (refine step_call 67 [.tmp 94, .tmp 95] _ rfl rfl (fun _ _ => rfl) _ rfl J1 ?_
           rintro e w4 ⟨v3, rfl, ho, hb4⟩
           refine ⟨_, rfl, ?_⟩
           have hk4 := (hb4.block g (lt_of_block' HO2.out.2.2)).trans HO2.out.2.2
           obtain ⟨q0, -⟩ := ex_facts hk4
           have HJ := Lib.hid (And.intro ho hb4); clear ho hb4 hk4)
        | (refine step_call 102 [.const (.int .u8 9), .tmp 99] _ rfl rfl (fun _ _ => rfl) _ rfl (ONE _ _) ?_
           rintro e w5 ⟨v4, rfl, ho, hb5⟩
           refine ⟨_, rfl, ?_⟩
           have q5 := (hb5.cell (World.block_lt_of_cell? _ _ q0)).trans q0
           have HN := Lib.hid (And.intro ho hb5); clear ho hb5)
        | (refine step_call 67 [.tmp 96, .tmp 100] _ rfl rfl (fun _ _ => rfl) _ rfl (join_ok v3 v4 (joinM a c) [(9, ((13 : Nat) : Int))] (by rw [joinM_length]; have := HB.out.2.2.2.2.1; have := HB.out.2.2.2.2.2.1; omega) (by simp) (jump_free (by omega)) w5 (HJ.out.1.at_.below HN.out.2 rfl) HN.out.1.at_) ?_
           rintro e w6 ⟨v5, rfl, ho, hb6⟩
           refine ⟨_, rfl, ?_⟩
           have q6 := (hb6.cell (World.block_lt_of_cell? _ _ q5)).trans q5
           have HF := Lib.hid (And.intro ho hb6); clear ho hb6))
    all_goals go_wp2_with fail
    go_ret2
    obtain ⟨hb, hs, eg, -⟩ := HB.out
    have s2 := HO.out.2.1.size
    have s3 := HO2.out.2.1.size
    have b4 : Below w3.heap.size w3 w4 := ((Below.refl _ w3).drew).trans HJ.out.2
    have s4 := b4.size
    have s5 := HN.out.2.size
    have b3 := (hb.trans (HO.out.2.1.mono (by omega))).trans (HO2.out.2.1.mono (by omega))
    exact ⟨_, rfl, HF.out.1.rebase (by omega), by rw [← eg]; exact ((b3.trans (b4.mono (by omega))).trans (HN.out.2.mono (by omega))).trans (HF.out.2.mono (by omega))⟩
  · as_aux_lemma =>
    go_upto_region 15 with (go_at_call 100; refine EX.mono ?_; rintro e w2 ⟨v, rfl, ho, hb2⟩; have hk2 := (hb2.block g (lt_of_block' HB.out.2.2.2.1)).trans HB.out.2.2.2.1; obtain ⟨f0, f1, f2, f3, -⟩ := ex_facts hk2; have HO := Lib.hid (And.intro ho (And.intro hb2 hk2)); clear ho hb2 hk2)
    clear d0 d1 d2 d3 z0 z1 z2 z3 x0 x1 x2 x3 hbl EX
    have hbw2 : Below w.heap.size w w2 := by
      have h1 := HB.out.1; rw [HB.out.2.2.1] at h1
      exact h1.trans (HO.out.2.1.mono (by have := HB.out.2.1; omega))
    have hd := HB.out.2.2.2.2.2.2.1
    have y0 := (hbw2.cell (World.block_lt_of_cell? _ _ hd.c0)).trans hd.c0
    have y1 := (hbw2.cell (World.block_lt_of_cell? _ _ hd.c1)).trans hd.c1
    have y2 := (hbw2.cell (World.block_lt_of_cell? _ _ hd.c2)).trans hd.c2
    have y3 := (hbw2.cell (World.block_lt_of_cell? _ _ hd.c3)).trans hd.c3
    have hbl2 := World.block_lt_of_cell? w2 _ y0
    have EX2 := HB.out.2.2.2.2.2.2.2 w2 hbw2
    clear hbw2 hd
    go_upto_region 24 with (go_at_call 100; refine EX2.mono ?_; rintro e w3 ⟨v2, rfl, ho, hb2⟩; have hk3 := (hb2.block g (lt_of_block' HO.out.2.2)).trans HO.out.2.2; obtain ⟨k0, k1, k2, k3, -⟩ := ex_facts hk3; have HO2 := Lib.hid (And.intro ho (And.intro hb2 hk3)); clear ho hb2 hk3)
    clear f0 f1 f2 f3 y0 y1 y2 y3 hbl2 EX2
    have J1 := join_ok v v2 a c (by have := HB.out.2.2.2.2.1; omega) (by have := HB.out.2.2.2.2.2.1; omega) (fun x hx hj => absurd hj (hfc x hx)) w3.drew (show InsAt w3.drew v a from HO.out.1.at_.below HO2.out.2.1.drew rfl) (show InsAt w3.drew v2 c from HO2.out.1.at_)
    have ONE := fun (o : Int) (W : World) => one_ok 9 o W
    go_upto_region 25 with fail
    go_region_held3 (fun W => W.cell? ⟨g, 0, none⟩ = some (.int .u8 ((14 : Nat) : Int))) (first | assumption | exact k0)
      (first
        | (refine step_call 67 [.tmp 94, .tmp 95] _ rfl rfl (fun _ _ => rfl) _ rfl J1 ?_
           rintro e w4 ⟨v3, rfl, ho, hb4⟩
           refine ⟨_, rfl, ?_⟩
           have hk4 := (hb4.block g (lt_of_block' HO2.out.2.2)).trans HO2.out.2.2
           obtain ⟨q0, -⟩ := ex_facts hk4
           have HJ := Lib.hid (And.intro ho hb4); clear ho hb4 hk4)
        | (refine step_call 102 [.const (.int .u8 9), .tmp 99] _ rfl rfl (fun _ _ => rfl) _ rfl (ONE _ _) ?_
           rintro e w5 ⟨v4, rfl, ho, hb5⟩
           refine ⟨_, rfl, ?_⟩
           have q5 := (hb5.cell (World.block_lt_of_cell? _ _ q0)).trans q0
           have HN := Lib.hid (And.intro ho hb5); clear ho hb5)
        | (refine step_call 67 [.tmp 96, .tmp 100] _ rfl rfl (fun _ _ => rfl) _ rfl (join_ok v3 v4 (joinM a c) [(9, ((14 : Nat) : Int))] (by rw [joinM_length]; have := HB.out.2.2.2.2.1; have := HB.out.2.2.2.2.2.1; omega) (by simp) (jump_free (by omega)) w5 (HJ.out.1.at_.below HN.out.2 rfl) HN.out.1.at_) ?_
           rintro e w6 ⟨v5, rfl, ho, hb6⟩
           refine ⟨_, rfl, ?_⟩
           have q6 := (hb6.cell (World.block_lt_of_cell? _ _ q5)).trans q5
           have HF := Lib.hid (And.intro ho hb6); clear ho hb6))
    all_goals go_wp2_with fail
    go_ret2
    obtain ⟨hb, hs, eg, -⟩ := HB.out
    have s2 := HO.out.2.1.size
    have s3 := HO2.out.2.1.size
    have b4 : Below w3.heap.size w3 w4 := ((Below.refl _ w3).drew).trans HJ.out.2
    have s4 := b4.size
    have s5 := HN.out.2.size
    have b3 := (hb.trans (HO.out.2.1.mono (by omega))).trans (HO2.out.2.1.mono (by omega))
    exact ⟨_, rfl, HF.out.1.rebase (by omega), by rw [← eg]; exact ((b3.trans (b4.mono (by omega))).trans (HN.out.2.mono (by omega))).trans (HF.out.2.mono (by omega))⟩
theorem expr_ok (names : List ByteArray) (NA : Option Addr) (nc : Nat) (hl : names.length ≤ 1000) : ∀ (x : Ex) (c : List In), exprM names x = some c → (∀ d, fineM d x = true → exSize x ≤ 300 → ∀ (w : World) (A : Option Addr) (cp : Nat), ExAt w (fun q => q < w.heap.size) x A cp → StrsAt w NA names →
    Calls Tryz.prog 100 #[.agg #[.int .u8 (x.op : Nat), .int .i64 x.num, .string x.name, .slice A x.many cp], .slice NA names.length nc] w (ResC w c)) := by
  intro x
  induction x with
  | l op n s =>
    intro c h d hf hsz w A cp hx hn
    obtain ⟨rfl, rfl⟩ := hx
    rcases d with _ | d
    · rw [fineM] at hf; cases hf
    rw [fineM] at hf
    simp only [Bool.or_eq_true, Bool.and_eq_true, beq_iff_eq, decide_eq_true_eq] at hf
    have he : s.size = 0 → s = ⟨#[]⟩ := fun h => ByteArray.ext (Array.eq_empty_of_size_eq_zero h)
    rw [exprM] at h
    rcases hf with (⟨⟨rfl, h0⟩, hs⟩ | ⟨⟨rfl, rfl⟩, hnm⟩) | ⟨⟨rfl, rfl⟩, hs⟩
    · rw [if_pos rfl] at h; injection h with h; subst h
      rw [he hs]
      exact ex_1 n NA names.length nc w
    · rw [if_neg (by decide), if_pos rfl] at h
      by_cases h3 : findM names s < 0
      · rw [if_pos h3] at h; cases h
      · rw [if_neg h3] at h; injection h with h; subst h
        exact ex_2 s names NA nc hl h3 w hn
    · rw [if_neg (by decide), if_neg (by decide), if_pos rfl] at h; injection h with h; subst h
      rw [he hs]
      exact ex_5 NA names.length nc w
  | u op n x ih =>
    intro c h d hf hsz w A cp hx hn
    obtain ⟨b, A1, c1, rfl, -, hc, hx⟩ := hx
    rcases d with _ | d
    · rw [fineM] at hf; cases hf
    rw [fineM] at hf
    simp only [Bool.and_eq_true, beq_iff_eq, decide_eq_true_eq] at hf
    obtain ⟨⟨⟨rfl, h1⟩, h10⟩, hf⟩ := hf
    rw [exprM, if_pos rfl] at h
    rcases hxm : exprM names x with _ | a
    · rw [hxm] at h; cases h
    rw [hxm] at h
    injection h with h; subst h
    have hal := (exprM_flat names x a hxm).2
    simp only [exSize] at hsz
    exact ex_u n x a b cp c1 A1 NA names.length nc (by omega) w hc (fun W hW => ih a hxm d hf (by omega) W A1 c1 (hx.below hW rfl) (hn.below hW rfl))
  | b op x y ihx ihy =>
    intro c h d hf hsz w A cp hx hn
    obtain ⟨b, A1, c1, A2, c2, rfl, -, hc, hd', hx, hy⟩ := hx
    rcases d with _ | d
    · rw [fineM] at hf; cases hf
    rw [fineM] at hf
    simp only [Bool.and_eq_true, Bool.or_eq_true, beq_iff_eq] at hf
    obtain ⟨⟨ho, hfx⟩, hfy⟩ := hf
    have ho' : op = 10 ∨ op = 13 ∨ op = 14 := by omega
    rw [exprM, if_pos ho'] at h
    rcases hxm : exprM names x with _ | a
    · rw [hxm] at h; cases h
    rcases hym : exprM names y with _ | c'
    · rw [hxm, hym] at h; cases h
    rw [hxm, hym] at h
    injection h with h; subst h
    have hal := (exprM_flat names x a hxm).2
    have hcl := exprM_flat names y c' hym
    simp only [exSize] at hsz
    exact ex_b op ho' x y a c' b cp c1 c2 A1 A2 NA names.length nc (by omega) (by omega) hcl.1 w hc hd' (fun W hW => ihx a hxm d hfx (by omega) W A1 c1 (hx.below hW rfl) (hn.below hW rfl)) (fun W hW => ihy c' hym d hfy (by omega) W A2 c2 (hy.below hW rfl) (hn.below hW rfl))
end
end Go.Proofs.YtocbddajakbemaaGreat
namespace Go.Proofs.YtocbddajakbemaaGreat
section
open Go.RowKit
theorem box6_new (W : World) (a0 a1 a2 a3 a4 a5 : Value) : ∃ w1, w1 = W.alloc (.cells #[a0, a1, a2, a3, a4, a5] 39 (0, 0)) ∧ Below W.heap.size W w1 ∧ w1.heap.size = W.heap.size + 1 ∧
    w1.heap[W.heap.size]? = some (.cells #[a0, a1, a2, a3, a4, a5] 39 (0, 0)) := ⟨_, rfl, (Below.refl _ _).alloc (Nat.le_refl _) _, by simp, heap_alloc_new W _⟩
def ResL (w : World) (c : List In) (m : Nat) (e : Ending) (w' : World) : Prop := ∃ v, e = .returned (.tuple #[v, .int .i64 (m : Nat), .int .i64 0]) ∧ Own w' w.heap.size v c ∧ Below w.heap.size w w'
def EXs (w : World) (A NA : Option Addr) (nl nc : Nat) (codes : List (List In)) : Prop :=
  ∀ k c, codes[k]? = some c → ∃ (b o : Nat) (nn : Int) (s : ByteArray) (A' : Option Addr) (mm q : Nat), A = some ⟨b, 0, none⟩ ∧ (w.cell? ⟨b, k * 4, none⟩ = some (.int .u8 (o : Nat)) ∧ w.cell? ⟨b, k * 4 + 1, none⟩ = some (.int .i64 nn) ∧ w.cell? ⟨b, k * 4 + 2, none⟩ = some (.string s) ∧ w.cell? ⟨b, k * 4 + 3, none⟩ = some (.slice A' mm q)) ∧
    ∀ W, Below w.heap.size w W → Calls Tryz.prog 100 #[.agg #[.int .u8 (o : Nat), .int .i64 nn, .string s, .slice A' mm q], .slice NA nl nc] W (ResC W c)
structure Flats (codes : List (List In)) : Prop where
  flat : ∀ c, c ∈ codes → flatC c
  len : codes.flatten.length ≤ 400
theorem take_flat {codes : List (List In)} {k : Nat} {c : List In} (h : codes[k]? = some c) : (codes.take (k + 1)).flatten = (codes.take k).flatten ++ c := by
  rw [List.take_add_one, h]; simp
theorem Flats.part {codes : List (List In)} (h : Flats codes) (k : Nat) : (codes.take k).flatten.length ≤ 400 := by
  have h1 : codes.flatten = (codes.take k).flatten ++ (codes.drop k).flatten := by rw [← List.flatten_append, List.take_append_drop]
  have h2 := congrArg List.length h1
  rw [List.length_append] at h2
  have := h.len
  omega
theorem Flats.one {codes : List (List In)} (h : Flats codes) {k : Nat} {c : List In} (hc : codes[k]? = some c) : c.length ≤ 400 := by
  have h1 := take_flat hc
  have h2 := h.part (k + 1)
  rw [h1, List.length_append] at h2
  omega
set_option maxRecDepth 100000 in
set_option maxHeartbeats 4000000 in
theorem stm_2 (num : Int) (name : ByteArray) (codes : List (List In)) (A BA NA : Option Addr) (cp bn bc nc : Nat) (names : List ByteArray) (hF : ¬ findM names name < 0) (hfl : Flats codes) (hml : codes.length ≤ 500) (w : World) (hn : StrsAt w NA names) (hnl : names.length ≤ 31) (hx : EXs w A NA names.length nc codes) :
    Calls Tryz.prog 66 #[.agg #[.int .u8 2, .int .i64 num, .string name, .slice A codes.length cp, .slice BA bn bc, .slice none 0 0], .slice NA names.length nc] w (ResL w (joinM codes.flatten [(3, findM names name)]) 0) := by
  have HM := Lib.hid hml
  clear hml
  obtain ⟨g, eg⟩ : ∃ g, g = w.heap.size := ⟨_, rfl⟩
  obtain ⟨w1, e1, hb, hs, hk⟩ := box6_new w (.int .u8 2) (.int .i64 num) (.string name) (.slice A codes.length cp) (.slice BA bn bc) (.slice none 0 0)
  have FD0 : ∀ W, Below w.heap.size w W → Calls Tryz.prog 101 #[.slice NA names.length nc, .string name] W fun e w' => e = .returned (.int .i64 (findM names name)) ∧ W = w' :=
    fun W hW => find_ok names NA nc name (by omega) W (hn.below hW rfl)
  obtain ⟨F, eF⟩ : ∃ F, F = findM names name := ⟨_, rfl⟩
  rw [← eF] at FD0 hF ⊢
  rw [← eg] at hk hb
  obtain ⟨nl, enl⟩ : ∃ nl, nl = names.length := ⟨_, rfl⟩
  obtain ⟨m, em⟩ : ∃ m, m = codes.length := ⟨_, rfl⟩
  rw [← enl] at FD0 hx hnl ⊢
  rw [← em] at hk e1 ⊢
  obtain ⟨⟨d0, d1, d2, d3, d4, d5⟩, -⟩ := st_facts hk
  have H := Lib.hid (And.intro hb (And.intro hs (And.intro eg (And.intro hk (And.intro hx (And.intro hfl (And.intro em (And.intro FD0 hnl))))))))
  clear hb hs hk hx hfl em FD0 enl eF hn
  go_enter Tryz.func66, Tryz.ntmps66
  go_upto_region 1 with fail
  rw [← e1, ← eg]
  clear e1 eg
  go_wp2_with fail
  go_loopg [7, 8] m (fun gh ov iv wr => ∃ k : Nat, gh + k = m ∧ iv = .int .i64 (k : Nat) ∧ Own wr w1.heap.size ov (codes.take k).flatten ∧ Below w1.heap.size w1 wr)
  case atStart => exact ⟨0, rfl, rfl, ⟨rfl, Or.inl ⟨rfl, rfl⟩⟩, Below.refl _ _⟩
  case round =>
  obtain ⟨k, hk, rfl, ho, hbw⟩ := hrel
  obtain ⟨W, eW⟩ : ∃ W, W = wr := ⟨_, rfl⟩
  rw [← eW] at ho hbw ⊢
  clear eW
  have hkW := (hbw.block g (lt_of_block' H.out.2.2.2.1)).trans H.out.2.2.2.1
  clear d0 d1 d2 d3 d4 d5
  obtain ⟨⟨d0, d1, d2, d3, d4, d5⟩, -⟩ := st_facts hkW
  have bw : Below w.heap.size w W := by
    have h1 := H.out.1; rw [H.out.2.2.1] at h1
    exact h1.trans (hbw.mono (by have := H.out.2.1; omega))
  rcases gk with _ | gi
  · have hkm : k = m := by omega
    subst hkm
    have hall : (codes.take k).flatten = codes.flatten := by rw [List.take_of_length_le (by have := H.out.2.2.2.2.2.2.1; omega)]
    rw [hall] at ho
    have FDx := H.out.2.2.2.2.2.2.2.1 W bw
    have hF4 := H.out.2.2.2.2.2.1.len
    have HO := Lib.hid (And.intro ho (And.intro hbw (And.intro bw hkW)))
    have i2 : decide ((k : Int) < (k : Int)) = false := decide_eq_false (by omega)
    clear ho hbw bw hkW hk hall
    go_upto_region 9 with fail
    have ON := fun W => one_ok 3 F W
    go_wp2_with (first | (go_at_call 101; refine FDx.mono ?_; rintro e w2 ⟨rfl, rfl⟩) | (go_at_call 102; refine (ON _).mono ?_; rintro e w3 ⟨v2, rfl, ho2, hb2⟩; have JN := join_ok _ v2 codes.flatten [(3, F)] (by omega) (by simp) (jump_free (by omega)) w3 (HO.out.1.at_.below hb2 rfl) ho2.at_; have HO2 := Lib.hid hb2; clear ho2 hb2) | (go_at_call 67; refine JN.mono ?_; rintro e w4 ⟨v3, rfl, ho3, hb3⟩; have HO3 := Lib.hid (And.intro ho3 hb3); clear ho3 hb3))
    go_ret3
    have b1 := HO.out.2.1
    have s1 := b1.size
    have s2 := HO2.out.size
    have hs := H.out.2.1
    refine ⟨_, rfl, HO3.out.1.rebase (by omega), ?_⟩
    exact (HO.out.2.2.1.trans (HO2.out.mono (by omega))).trans (HO3.out.2.mono (by omega))
  · obtain ⟨c, hc⟩ : ∃ c, codes[k]? = some c := ⟨_, List.getElem?_eq_getElem (by have := H.out.2.2.2.2.2.2.1; omega)⟩
    obtain ⟨b', o, nn, s', A', mm, q, eA, ⟨x0, x1, x2, x3⟩, FC⟩ := H.out.2.2.2.2.1 k c hc
    subst eA
    have FCx := FC W bw
    have x0 := (bw.cell (World.block_lt_of_cell? _ _ x0)).trans x0
    have x1 := (bw.cell (World.block_lt_of_cell? _ _ x1)).trans x1
    have x2 := (bw.cell (World.block_lt_of_cell? _ _ x2)).trans x2
    have x3 := (bw.cell (World.block_lt_of_cell? _ _ x3)).trans x3
    have hbl := World.block_lt_of_cell? W _ x0
    have k0 : (0 : Int) ≤ (k : Int) := by omega
    have k1 : (k : Int) < (m : Int) := by omega
    have k2 : decide (k < m) = true := decide_eq_true (by omega)
    have hm4 : k < 1000 := by
      have := H.out.2.2.2.2.2.2.1
      have := HM.out
      omega
    have w2' : wrap64 ((k : Int) + 1) = (k : Int) + 1 := by unfold wrap64; omega
    have hfl := H.out.2.2.2.2.2.1
    have HK2 := Lib.hid (And.intro hk (And.intro hbw (And.intro ho (And.intro hc hfl))))
    clear hk hbw bw FC hkW ho hc hfl hm4
    go_wp2_with (first | (go_at_call 100; refine FCx.mono ?_; rintro e w3 ⟨v3, rfl, ho3, hb3⟩; have JN := join_ok _ _ _ c (by have := HK2.out.2.2.2.2.part k; omega) (by have := HK2.out.2.2.2.2.one HK2.out.2.2.2.1; omega) (fun x hx hj => absurd hj (HK2.out.2.2.2.2.flat c (List.mem_of_getElem? HK2.out.2.2.2.1) x hx)) w3 (HK2.out.2.2.1.at_.below hb3 rfl) ho3.at_; have HB7 := Lib.hid hb3; clear hb3 ho3) | (go_at_call 67; refine JN.mono ?_; rintro e w4 ⟨v4, rfl, ho4, hb4⟩; have HB8 := Lib.hid (And.intro ho4 hb4); clear ho4 hb4))
    go_roundg gi
    case measure => omega
    case rel =>
      have hc := HK2.out.2.2.2.1
      have b1 := HK2.out.2.1
      have b2 := HB7.out
      have s1 := b1.size
      have s2 := b2.size
      refine ⟨k + 1, by have := HK2.out.1; omega, by go_num, ?_, (b1.trans (b2.mono s1)).trans (HB8.out.2.mono (by omega))⟩
      rw [take_flat hc, ← joinM_flat (HK2.out.2.2.2.2.flat c (List.mem_of_getElem? hc))]
      exact HB8.out.1.rebase (by omega)
set_option maxRecDepth 100000 in
set_option maxHeartbeats 4000000 in
theorem stm_1 (num : Int) (name : ByteArray) (codes : List (List In)) (A BA NA : Option Addr) (cp bn bc nc : Nat) (names : List ByteArray) (hF : findM names name < 0) (hfl : Flats codes) (hml : codes.length ≤ 500) (w : World) (hn : StrsAt w NA names) (hnl : names.length ≤ 31) (hx : EXs w A NA names.length nc codes) :
    Calls Tryz.prog 66 #[.agg #[.int .u8 1, .int .i64 num, .string name, .slice A codes.length cp, .slice BA bn bc, .slice none 0 0], .slice NA names.length nc] w (ResL w (joinM codes.flatten [(3, ((names.length : Nat) : Int))]) 0) := by
  have HM := Lib.hid hml
  clear hml
  obtain ⟨g, eg⟩ : ∃ g, g = w.heap.size := ⟨_, rfl⟩
  obtain ⟨w1, e1, hb, hs, hk⟩ := box6_new w (.int .u8 1) (.int .i64 num) (.string name) (.slice A codes.length cp) (.slice BA bn bc) (.slice none 0 0)
  have FD0 : ∀ W, Below w.heap.size w W → Calls Tryz.prog 101 #[.slice NA names.length nc, .string name] W fun e w' => e = .returned (.int .i64 (findM names name)) ∧ W = w' :=
    fun W hW => find_ok names NA nc name (by omega) W (hn.below hW rfl)
  obtain ⟨F, eF⟩ : ∃ F, F = findM names name := ⟨_, rfl⟩
  rw [← eF] at FD0 hF
  rw [← eg] at hk hb
  obtain ⟨nl, enl⟩ : ∃ nl, nl = names.length := ⟨_, rfl⟩
  obtain ⟨m, em⟩ : ∃ m, m = codes.length := ⟨_, rfl⟩
  rw [← enl] at FD0 hx hnl ⊢
  rw [← em] at hk e1 ⊢
  obtain ⟨⟨d0, d1, d2, d3, d4, d5⟩, -⟩ := st_facts hk
  have H := Lib.hid (And.intro hb (And.intro hs (And.intro eg (And.intro hk (And.intro hx (And.intro hfl (And.intro em (And.intro FD0 hnl))))))))
  clear hb hs hk hx hfl em FD0 enl eF hn
  go_enter Tryz.func66, Tryz.ntmps66
  go_upto_region 1 with fail
  rw [← e1, ← eg]
  clear e1 eg
  go_wp2_with fail
  go_loopg [7, 8] m (fun gh ov iv wr => ∃ k : Nat, gh + k = m ∧ iv = .int .i64 (k : Nat) ∧ Own wr w1.heap.size ov (codes.take k).flatten ∧ Below w1.heap.size w1 wr)
  case atStart => exact ⟨0, rfl, rfl, ⟨rfl, Or.inl ⟨rfl, rfl⟩⟩, Below.refl _ _⟩
  case round =>
  obtain ⟨k, hk, rfl, ho, hbw⟩ := hrel
  obtain ⟨W, eW⟩ : ∃ W, W = wr := ⟨_, rfl⟩
  rw [← eW] at ho hbw ⊢
  clear eW
  have hkW := (hbw.block g (lt_of_block' H.out.2.2.2.1)).trans H.out.2.2.2.1
  clear d0 d1 d2 d3 d4 d5
  obtain ⟨⟨d0, d1, d2, d3, d4, d5⟩, -⟩ := st_facts hkW
  have bw : Below w.heap.size w W := by
    have h1 := H.out.1; rw [H.out.2.2.1] at h1
    exact h1.trans (hbw.mono (by have := H.out.2.1; omega))
  rcases gk with _ | gi
  · have hkm : k = m := by omega
    subst hkm
    have hall : (codes.take k).flatten = codes.flatten := by rw [List.take_of_length_le (by have := H.out.2.2.2.2.2.2.1; omega)]
    rw [hall] at ho
    have FDx := H.out.2.2.2.2.2.2.2.1 W bw
    have hF4 := H.out.2.2.2.2.2.1.len
    have HO := Lib.hid (And.intro ho (And.intro hbw (And.intro bw hkW)))
    have i2 : decide ((k : Int) < (k : Int)) = false := decide_eq_false (by omega)
    clear ho hbw bw hkW hk hall
    go_upto_region 9 with fail
    have hq : ¬ (32 : Int) ≤ (nl : Int) := by have := H.out.2.2.2.2.2.2.2.2; omega
    have hq2 : decide ((32 : Int) ≤ (nl : Int)) = false := decide_eq_false hq
    have ON := fun W => one_ok 3 (nl : Nat) W
    go_wp2_with (first | (go_at_call 101; refine FDx.mono ?_; rintro e w2 ⟨rfl, rfl⟩) | (go_at_call 102; refine (ON _).mono ?_; rintro e w3 ⟨v2, rfl, ho2, hb2⟩; have JN := join_ok _ v2 codes.flatten [(3, (nl : Nat))] (by omega) (by simp) (jump_free (by omega)) w3 (HO.out.1.at_.below hb2 rfl) ho2.at_; have HO2 := Lib.hid hb2; clear ho2 hb2) | (go_at_call 67; refine JN.mono ?_; rintro e w4 ⟨v3, rfl, ho3, hb3⟩; have HO3 := Lib.hid (And.intro ho3 hb3); clear ho3 hb3))
    go_ret3
    have b1 := HO.out.2.1
    have s1 := b1.size
    have s2 := HO2.out.size
    have hs := H.out.2.1
    refine ⟨_, rfl, HO3.out.1.rebase (by omega), ?_⟩
    exact (HO.out.2.2.1.trans (HO2.out.mono (by omega))).trans (HO3.out.2.mono (by omega))
  · obtain ⟨c, hc⟩ : ∃ c, codes[k]? = some c := ⟨_, List.getElem?_eq_getElem (by have := H.out.2.2.2.2.2.2.1; omega)⟩
    obtain ⟨b', o, nn, s', A', mm, q, eA, ⟨x0, x1, x2, x3⟩, FC⟩ := H.out.2.2.2.2.1 k c hc
    subst eA
    have FCx := FC W bw
    have x0 := (bw.cell (World.block_lt_of_cell? _ _ x0)).trans x0
    have x1 := (bw.cell (World.block_lt_of_cell? _ _ x1)).trans x1
    have x2 := (bw.cell (World.block_lt_of_cell? _ _ x2)).trans x2
    have x3 := (bw.cell (World.block_lt_of_cell? _ _ x3)).trans x3
    have hbl := World.block_lt_of_cell? W _ x0
    have k0 : (0 : Int) ≤ (k : Int) := by omega
    have k1 : (k : Int) < (m : Int) := by omega
    have k2 : decide (k < m) = true := decide_eq_true (by omega)
    have hm4 : k < 1000 := by
      have := H.out.2.2.2.2.2.2.1
      have := HM.out
      omega
    have w2' : wrap64 ((k : Int) + 1) = (k : Int) + 1 := by unfold wrap64; omega
    have hfl := H.out.2.2.2.2.2.1
    have HK2 := Lib.hid (And.intro hk (And.intro hbw (And.intro ho (And.intro hc hfl))))
    clear hk hbw bw FC hkW ho hc hfl hm4
    go_wp2_with (first | (go_at_call 100; refine FCx.mono ?_; rintro e w3 ⟨v3, rfl, ho3, hb3⟩; have JN := join_ok _ _ _ c (by have := HK2.out.2.2.2.2.part k; omega) (by have := HK2.out.2.2.2.2.one HK2.out.2.2.2.1; omega) (fun x hx hj => absurd hj (HK2.out.2.2.2.2.flat c (List.mem_of_getElem? HK2.out.2.2.2.1) x hx)) w3 (HK2.out.2.2.1.at_.below hb3 rfl) ho3.at_; have HB7 := Lib.hid hb3; clear hb3 ho3) | (go_at_call 67; refine JN.mono ?_; rintro e w4 ⟨v4, rfl, ho4, hb4⟩; have HB8 := Lib.hid (And.intro ho4 hb4); clear ho4 hb4))
    go_roundg gi
    case measure => omega
    case rel =>
      have hc := HK2.out.2.2.2.1
      have b1 := HK2.out.2.1
      have b2 := HB7.out
      have s1 := b1.size
      have s2 := b2.size
      refine ⟨k + 1, by have := HK2.out.1; omega, by go_num, ?_, (b1.trans (b2.mono s1)).trans (HB8.out.2.mono (by omega))⟩
      rw [take_flat hc, ← joinM_flat (HK2.out.2.2.2.2.flat c (List.mem_of_getElem? hc))]
      exact HB8.out.1.rebase (by omega)
set_option maxRecDepth 100000 in
set_option maxHeartbeats 4000000 in
theorem stm_3 (num : Int) (name : ByteArray) (codes : List (List In)) (A BA NA : Option Addr) (cp bn bc nc : Nat) (names : List ByteArray) (hfl : Flats codes) (hml : codes.length ≤ 500) (w : World) (hn : StrsAt w NA names) (hnl : names.length ≤ 31) (hx : EXs w A NA names.length nc codes) :
    Calls Tryz.prog 66 #[.agg #[.int .u8 3, .int .i64 num, .string name, .slice A codes.length cp, .slice BA bn bc, .slice none 0 0], .slice NA names.length nc] w (ResL w (joinM codes.flatten [(5, num)]) 0) := by
  have HM := Lib.hid hml
  clear hml
  obtain ⟨g, eg⟩ : ∃ g, g = w.heap.size := ⟨_, rfl⟩
  obtain ⟨w1, e1, hb, hs, hk⟩ := box6_new w (.int .u8 3) (.int .i64 num) (.string name) (.slice A codes.length cp) (.slice BA bn bc) (.slice none 0 0)
  have FD0 : ∀ W, Below w.heap.size w W → Calls Tryz.prog 101 #[.slice NA names.length nc, .string name] W fun e w' => e = .returned (.int .i64 (findM names name)) ∧ W = w' :=
    fun W hW => find_ok names NA nc name (by omega) W (hn.below hW rfl)
  obtain ⟨F, eF⟩ : ∃ F, F = findM names name := ⟨_, rfl⟩
  rw [← eF] at FD0 
  rw [← eg] at hk hb
  obtain ⟨nl, enl⟩ : ∃ nl, nl = names.length := ⟨_, rfl⟩
  obtain ⟨m, em⟩ : ∃ m, m = codes.length := ⟨_, rfl⟩
  rw [← enl] at FD0 hx hnl ⊢
  rw [← em] at hk e1 ⊢
  obtain ⟨⟨d0, d1, d2, d3, d4, d5⟩, -⟩ := st_facts hk
  have H := Lib.hid (And.intro hb (And.intro hs (And.intro eg (And.intro hk (And.intro hx (And.intro hfl (And.intro em (And.intro FD0 hnl))))))))
  clear hb hs hk hx hfl em FD0 enl eF hn
  go_enter Tryz.func66, Tryz.ntmps66
  go_upto_region 1 with fail
  rw [← e1, ← eg]
  clear e1 eg
  go_wp2_with fail
  go_loopg [7, 8] m (fun gh ov iv wr => ∃ k : Nat, gh + k = m ∧ iv = .int .i64 (k : Nat) ∧ Own wr w1.heap.size ov (codes.take k).flatten ∧ Below w1.heap.size w1 wr)
  case atStart => exact ⟨0, rfl, rfl, ⟨rfl, Or.inl ⟨rfl, rfl⟩⟩, Below.refl _ _⟩
  case round =>
  obtain ⟨k, hk, rfl, ho, hbw⟩ := hrel
  obtain ⟨W, eW⟩ : ∃ W, W = wr := ⟨_, rfl⟩
  rw [← eW] at ho hbw ⊢
  clear eW
  have hkW := (hbw.block g (lt_of_block' H.out.2.2.2.1)).trans H.out.2.2.2.1
  clear d0 d1 d2 d3 d4 d5
  obtain ⟨⟨d0, d1, d2, d3, d4, d5⟩, -⟩ := st_facts hkW
  have bw : Below w.heap.size w W := by
    have h1 := H.out.1; rw [H.out.2.2.1] at h1
    exact h1.trans (hbw.mono (by have := H.out.2.1; omega))
  rcases gk with _ | gi
  · have hkm : k = m := by omega
    subst hkm
    have hall : (codes.take k).flatten = codes.flatten := by rw [List.take_of_length_le (by have := H.out.2.2.2.2.2.2.1; omega)]
    rw [hall] at ho
    have FDx := H.out.2.2.2.2.2.2.2.1 W bw
    have hF4 := H.out.2.2.2.2.2.1.len
    have HO := Lib.hid (And.intro ho (And.intro hbw (And.intro bw hkW)))
    have i2 : decide ((k : Int) < (k : Int)) = false := decide_eq_false (by omega)
    clear ho hbw bw hkW hk hall
    go_upto_region 9 with fail
    have ON := fun W => one_ok 5 num W
    go_wp2_with (first | (go_at_call 101; refine FDx.mono ?_; rintro e w2 ⟨rfl, rfl⟩) | (go_at_call 102; refine (ON _).mono ?_; rintro e w3 ⟨v2, rfl, ho2, hb2⟩; have JN := join_ok _ v2 codes.flatten [(5, num)] (by omega) (by simp) (jump_free (by omega)) w3 (HO.out.1.at_.below hb2 rfl) ho2.at_; have HO2 := Lib.hid hb2; clear ho2 hb2) | (go_at_call 67; refine JN.mono ?_; rintro e w4 ⟨v3, rfl, ho3, hb3⟩; have HO3 := Lib.hid (And.intro ho3 hb3); clear ho3 hb3))
    go_ret3
    have b1 := HO.out.2.1
    have s1 := b1.size
    have s2 := HO2.out.size
    have hs := H.out.2.1
    refine ⟨_, rfl, HO3.out.1.rebase (by omega), ?_⟩
    exact (HO.out.2.2.1.trans (HO2.out.mono (by omega))).trans (HO3.out.2.mono (by omega))
  · obtain ⟨c, hc⟩ : ∃ c, codes[k]? = some c := ⟨_, List.getElem?_eq_getElem (by have := H.out.2.2.2.2.2.2.1; omega)⟩
    obtain ⟨b', o, nn, s', A', mm, q, eA, ⟨x0, x1, x2, x3⟩, FC⟩ := H.out.2.2.2.2.1 k c hc
    subst eA
    have FCx := FC W bw
    have x0 := (bw.cell (World.block_lt_of_cell? _ _ x0)).trans x0
    have x1 := (bw.cell (World.block_lt_of_cell? _ _ x1)).trans x1
    have x2 := (bw.cell (World.block_lt_of_cell? _ _ x2)).trans x2
    have x3 := (bw.cell (World.block_lt_of_cell? _ _ x3)).trans x3
    have hbl := World.block_lt_of_cell? W _ x0
    have k0 : (0 : Int) ≤ (k : Int) := by omega
    have k1 : (k : Int) < (m : Int) := by omega
    have k2 : decide (k < m) = true := decide_eq_true (by omega)
    have hm4 : k < 1000 := by
      have := H.out.2.2.2.2.2.2.1
      have := HM.out
      omega
    have w2' : wrap64 ((k : Int) + 1) = (k : Int) + 1 := by unfold wrap64; omega
    have hfl := H.out.2.2.2.2.2.1
    have HK2 := Lib.hid (And.intro hk (And.intro hbw (And.intro ho (And.intro hc hfl))))
    clear hk hbw bw FC hkW ho hc hfl hm4
    go_wp2_with (first | (go_at_call 100; refine FCx.mono ?_; rintro e w3 ⟨v3, rfl, ho3, hb3⟩; have JN := join_ok _ _ _ c (by have := HK2.out.2.2.2.2.part k; omega) (by have := HK2.out.2.2.2.2.one HK2.out.2.2.2.1; omega) (fun x hx hj => absurd hj (HK2.out.2.2.2.2.flat c (List.mem_of_getElem? HK2.out.2.2.2.1) x hx)) w3 (HK2.out.2.2.1.at_.below hb3 rfl) ho3.at_; have HB7 := Lib.hid hb3; clear hb3 ho3) | (go_at_call 67; refine JN.mono ?_; rintro e w4 ⟨v4, rfl, ho4, hb4⟩; have HB8 := Lib.hid (And.intro ho4 hb4); clear ho4 hb4))
    go_roundg gi
    case measure => omega
    case rel =>
      have hc := HK2.out.2.2.2.1
      have b1 := HK2.out.2.1
      have b2 := HB7.out
      have s1 := b1.size
      have s2 := b2.size
      refine ⟨k + 1, by have := HK2.out.1; omega, by go_num, ?_, (b1.trans (b2.mono s1)).trans (HB8.out.2.mono (by omega))⟩
      rw [take_flat hc, ← joinM_flat (HK2.out.2.2.2.2.flat c (List.mem_of_getElem? hc))]
      exact HB8.out.1.rebase (by omega)
set_option maxRecDepth 100000 in
set_option maxHeartbeats 4000000 in
theorem stm_7 (num : Int) (name : ByteArray) (codes : List (List In)) (A BA NA : Option Addr) (cp bn bc nc : Nat) (names : List ByteArray) (hfl : Flats codes) (hml : codes.length ≤ 500) (w : World) (hn : StrsAt w NA names) (hnl : names.length ≤ 31) (hx : EXs w A NA names.length nc codes) :
    Calls Tryz.prog 66 #[.agg #[.int .u8 7, .int .i64 num, .string name, .slice A codes.length cp, .slice BA bn bc, .slice none 0 0], .slice NA names.length nc] w (ResL w [(15, 0)] 0) := by
  have HM := Lib.hid hml
  clear hml
  obtain ⟨g, eg⟩ : ∃ g, g = w.heap.size := ⟨_, rfl⟩
  obtain ⟨w1, e1, hb, hs, hk⟩ := box6_new w (.int .u8 7) (.int .i64 num) (.string name) (.slice A codes.length cp) (.slice BA bn bc) (.slice none 0 0)
  have FD0 : ∀ W, Below w.heap.size w W → Calls Tryz.prog 101 #[.slice NA names.length nc, .string name] W fun e w' => e = .returned (.int .i64 (findM names name)) ∧ W = w' :=
    fun W hW => find_ok names NA nc name (by omega) W (hn.below hW rfl)
  obtain ⟨F, eF⟩ : ∃ F, F = findM names name := ⟨_, rfl⟩
  rw [← eF] at FD0 
  rw [← eg] at hk hb
  obtain ⟨nl, enl⟩ : ∃ nl, nl = names.length := ⟨_, rfl⟩
  obtain ⟨m, em⟩ : ∃ m, m = codes.length := ⟨_, rfl⟩
  rw [← enl] at FD0 hx hnl ⊢
  rw [← em] at hk e1 ⊢
  obtain ⟨⟨d0, d1, d2, d3, d4, d5⟩, -⟩ := st_facts hk
  have H := Lib.hid (And.intro hb (And.intro hs (And.intro eg (And.intro hk (And.intro hx (And.intro hfl (And.intro em (And.intro FD0 hnl))))))))
  clear hb hs hk hx hfl em FD0 enl eF hn
  go_enter Tryz.func66, Tryz.ntmps66
  go_upto_region 1 with fail
  rw [← e1, ← eg]
  clear e1 eg
  go_wp2_with fail
  go_loopg [7, 8] m (fun gh ov iv wr => ∃ k : Nat, gh + k = m ∧ iv = .int .i64 (k : Nat) ∧ Own wr w1.heap.size ov (codes.take k).flatten ∧ Below w1.heap.size w1 wr)
  case atStart => exact ⟨0, rfl, rfl, ⟨rfl, Or.inl ⟨rfl, rfl⟩⟩, Below.refl _ _⟩
  case round =>
  obtain ⟨k, hk, rfl, ho, hbw⟩ := hrel
  obtain ⟨W, eW⟩ : ∃ W, W = wr := ⟨_, rfl⟩
  rw [← eW] at ho hbw ⊢
  clear eW
  have hkW := (hbw.block g (lt_of_block' H.out.2.2.2.1)).trans H.out.2.2.2.1
  clear d0 d1 d2 d3 d4 d5
  obtain ⟨⟨d0, d1, d2, d3, d4, d5⟩, -⟩ := st_facts hkW
  have bw : Below w.heap.size w W := by
    have h1 := H.out.1; rw [H.out.2.2.1] at h1
    exact h1.trans (hbw.mono (by have := H.out.2.1; omega))
  rcases gk with _ | gi
  · have hkm : k = m := by omega
    subst hkm
    have hall : (codes.take k).flatten = codes.flatten := by rw [List.take_of_length_le (by have := H.out.2.2.2.2.2.2.1; omega)]
    rw [hall] at ho
    have FDx := H.out.2.2.2.2.2.2.2.1 W bw
    have hF4 := H.out.2.2.2.2.2.1.len
    have HO := Lib.hid (And.intro ho (And.intro hbw (And.intro bw hkW)))
    have i2 : decide ((k : Int) < (k : Int)) = false := decide_eq_false (by omega)
    clear ho hbw bw hkW hk hall
    go_upto_region 9 with fail
    have ON := fun W => one_ok 15 0 W
    go_wp2_with (first | (go_at_call 101; refine FDx.mono ?_; rintro e w2 ⟨rfl, rfl⟩) | (go_at_call 102; refine (ON _).mono ?_; rintro e w3 ⟨v2, rfl, ho2, hb2⟩; have HO2 := Lib.hid (And.intro ho2 hb2); clear ho2 hb2))
    go_ret3
    have b1 := HO.out.2.1
    have s1 := b1.size
    have hs := H.out.2.1
    refine ⟨_, rfl, HO2.out.1.rebase (by omega), ?_⟩
    exact HO.out.2.2.1.trans (HO2.out.2.mono (by omega))
  · obtain ⟨c, hc⟩ : ∃ c, codes[k]? = some c := ⟨_, List.getElem?_eq_getElem (by have := H.out.2.2.2.2.2.2.1; omega)⟩
    obtain ⟨b', o, nn, s', A', mm, q, eA, ⟨x0, x1, x2, x3⟩, FC⟩ := H.out.2.2.2.2.1 k c hc
    subst eA
    have FCx := FC W bw
    have x0 := (bw.cell (World.block_lt_of_cell? _ _ x0)).trans x0
    have x1 := (bw.cell (World.block_lt_of_cell? _ _ x1)).trans x1
    have x2 := (bw.cell (World.block_lt_of_cell? _ _ x2)).trans x2
    have x3 := (bw.cell (World.block_lt_of_cell? _ _ x3)).trans x3
    have hbl := World.block_lt_of_cell? W _ x0
    have k0 : (0 : Int) ≤ (k : Int) := by omega
    have k1 : (k : Int) < (m : Int) := by omega
    have k2 : decide (k < m) = true := decide_eq_true (by omega)
    have hm4 : k < 1000 := by
      have := H.out.2.2.2.2.2.2.1
      have := HM.out
      omega
    have w2' : wrap64 ((k : Int) + 1) = (k : Int) + 1 := by unfold wrap64; omega
    have hfl := H.out.2.2.2.2.2.1
    have HK2 := Lib.hid (And.intro hk (And.intro hbw (And.intro ho (And.intro hc hfl))))
    clear hk hbw bw FC hkW ho hc hfl hm4
    go_wp2_with (first | (go_at_call 100; refine FCx.mono ?_; rintro e w3 ⟨v3, rfl, ho3, hb3⟩; have JN := join_ok _ _ _ c (by have := HK2.out.2.2.2.2.part k; omega) (by have := HK2.out.2.2.2.2.one HK2.out.2.2.2.1; omega) (fun x hx hj => absurd hj (HK2.out.2.2.2.2.flat c (List.mem_of_getElem? HK2.out.2.2.2.1) x hx)) w3 (HK2.out.2.2.1.at_.below hb3 rfl) ho3.at_; have HB7 := Lib.hid hb3; clear hb3 ho3) | (go_at_call 67; refine JN.mono ?_; rintro e w4 ⟨v4, rfl, ho4, hb4⟩; have HB8 := Lib.hid (And.intro ho4 hb4); clear ho4 hb4))
    go_roundg gi
    case measure => omega
    case rel =>
      have hc := HK2.out.2.2.2.1
      have b1 := HK2.out.2.1
      have b2 := HB7.out
      have s1 := b1.size
      have s2 := b2.size
      refine ⟨k + 1, by have := HK2.out.1; omega, by go_num, ?_, (b1.trans (b2.mono s1)).trans (HB8.out.2.mono (by omega))⟩
      rw [take_flat hc, ← joinM_flat (HK2.out.2.2.2.2.flat c (List.mem_of_getElem? hc))]
      exact HB8.out.1.rebase (by omega)
end
end Go.Proofs.YtocbddajakbemaaGreat
