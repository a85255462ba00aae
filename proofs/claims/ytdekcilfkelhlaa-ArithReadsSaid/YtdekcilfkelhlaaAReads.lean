/- Any bytes decoded: the walk. -/
import Derived.Test.YtdekcilfkelhlaaASame
set_option linter.unusedVariables false
namespace Go.Proofs.Ytdekcilfkelhlaa
open Go.RowKit

theorem brow_upto {w : World} {A : Option Addr} {n m : Nat} {f : Nat → Nat} (h : BRow w A n f) (hm : m ≤ n) : BRow w A m f := fun i hi => h i (by omega)
theorem items_upto {w : World} {B n m : Nat} {A : Option Addr} {t : Its} (h : Items w B A n t) (hm : m ≤ n) : Items w B A m t := fun i hi => h i (by omega)
theorem ends_b (code : List Bool) (n : Nat) (f : Nat → Nat) : ∃ (r : Int) (b : Bool), ((r = 0 ∧ b = true) ∨ (r = 220 ∧ b = false)) ∧ (if listF (nbytes code) (M.byteOf code) = listF n f then 0 else 220 : Int) = r ∧ (listF (nbytes code) (M.byteOf code) == listF n f) = b := by
  by_cases h : listF (nbytes code) (M.byteOf code) = listF n f
  · exact ⟨0, true, Or.inl ⟨rfl, rfl⟩, if_pos h, by rw [h]; exact beq_self_eq_true _⟩
  · exact ⟨220, false, Or.inr ⟨rfl, rfl⟩, if_neg h, by rw [beq_eq_false_iff_ne]; exact h⟩
theorem dok_start (n : Nat) (f : Nat → Nat) : DOk (inBit n f) ksz (decAt (inBit n f) 32, fr0) :=
  ⟨⟨live_dec' n f, shape0⟩, num_dec n f, (num_dec n f).iv.2 (by
    have := firstNum_lt (decBox 0 0 [] none n 0 f) 32
    refine ⟨by simp [decAt, baseN, M.numOf], ?_⟩
    show firstNum (inBit n f) (0 + 0 + 32) ≤ baseN [] 0 + 4294967295
    have e : (decBox 0 0 [] none n 0 f).bit = inBit n f := rfl
    rw [e] at this
    simp [baseN, M.numOf]
    omega)⟩
def optF (A : Option Addr) : List Nat := (A.map (·.block)).toList
theorem mem_optF {A : Option Addr} {q : Nat} : q ∈ optF A ↔ ∃ ad, A = some ad ∧ ad.block = q := by
  unfold optF
  cases A with
  | none => simp
  | some a => simp [eq_comm]
/-- The reference in memory: its models, and the rows of its coder. -/
def xF (kb : Nat) (F : List Nat) (oA iA : Option Addr) : List Nat := (kb :: F) ++ (optF oA ++ optF iA)
structure XAt (w : World) (kb : Nat) (F : List Nat) (n : Nat) (f : Nat → Nat) (c : St × Bun) (oA : Option Addr) (on oc : Nat) (iA : Option Addr) (im ic : Nat) : Prop where
  kn : ∃ cs, KN w kb F c.2 cs
  row : RCo w n f c.1 oA on oc iA im ic
  o : ∀ ad, oA = some ad → ad.block ≠ kb
  i : ∀ ad, iA = some ad → ad.block ≠ kb
def xPart (kb : Nat) (F : List Nat) (n : Nat) (f : Nat → Nat) (c : St × Bun) (oA : Option Addr) (on oc : Nat) (iA : Option Addr) (im ic : Nat) : Part := ⟨xF kb F oA iA, fun w => XAt w kb F n f c oA on oc iA im ic⟩
section
variable {w w' w0 : World} {l : List Part} {kb n : Nat} {F : List Nat} {f : Nat → Nat} {c : St × Bun} {oA iA : Option Addr} {on oc im ic : Nat}
theorem XAt.part (h : XAt w kb F n f c oA on oc iA im ic) : (xPart kb F n f c oA on oc iA im ic).ok w := by
  obtain ⟨cs, hk⟩ := h.kn
  refine ⟨h, fun q hq => ?_, fun w' hs hz => ⟨⟨cs, hk.keep (fun q hq => hs q (List.mem_append_left _ hq)) hz⟩, h.row.keep (fun ad e => hs _ (List.mem_append_right _ (List.mem_append_left _ (mem_optF.2 ⟨ad, e, rfl⟩)))) (fun ad e => hs _ (List.mem_append_right _ (List.mem_append_right _ (mem_optF.2 ⟨ad, e, rfl⟩)))) hz, h.o, h.i⟩⟩
  rcases List.mem_append.1 hq with hq | hq
  · rcases List.mem_cons.1 hq with rfl | hq
    · exact lt_of_block hk.blk
    · exact hk.lt q hq
  · rcases List.mem_append.1 hq with hq | hq
    · obtain ⟨ad, e, rfl⟩ := mem_optF.1 hq; exact h.row.olt ad e
    · obtain ⟨ad, e, rfl⟩ := mem_optF.1 hq; exact h.row.ilt ad e
theorem Ses.xnext (kind m : Nat) (x s : Int) (h : Ses w0 w (xPart kb F n f c oA on oc iA im ic :: l)) (hd : DOk (inBit n f) ksz c) (hcnt : c.1.cnt + 65 ≤ 32768) (h1 : kind < 256) (h2 : m < 256) (s0 : -9223372036854775808 ≤ s) (s1 : s ≤ 9223372036854775807) (hf : kind % 4 ≠ 3 → 0 ≤ s) (hr : Reads (inBit n f) c (opsOf kind m s)) :
    Calls Try.prog 25 #[.pointer (some ⟨kb, 0, none⟩), rV c.1.lo c.1.hi c.1.dl oA on oc c.1.num iA im ic, itemV kind m x] w fun e w' => ∃ F' oA' on' oc' iA' im' ic', e = .returned (.tuple #[.int .i64 s, rV (steps (inBit n f) c (opsOf kind m s)).1.lo (steps (inBit n f) c (opsOf kind m s)).1.hi (steps (inBit n f) c (opsOf kind m s)).1.dl oA' on' oc' (steps (inBit n f) c (opsOf kind m s)).1.num iA' im' ic']) ∧ Ses w0 w' (xPart kb F' n f (steps (inBit n f) c (opsOf kind m s)) oA' on' oc' iA' im' ic' :: l) := by
  have hx : XAt w kb F n f c oA on oc iA im ic := h.sep.head
  obtain ⟨cs, hk⟩ := hx.kn
  have hat := at_of_cnt hd (by omega)
  have main : Calls Try.prog 25 #[.pointer (some ⟨kb, 0, none⟩), rV c.1.lo c.1.hi c.1.dl oA on oc c.1.num iA im ic, itemV kind m x] w (NxPost w kb F n f (steps (inBit n f) c (opsOf kind m s)) s oA iA) := by
    by_cases hkd : kind % 4 = 3
    · have hops : opsOf kind m s = zops (3 * (m % 2)) (M.zig (wordOf s)) := if_pos hkd
      rw [hops] at hr ⊢
      exact next_int kind m (M.zig (wordOf s)) x s w hk hx.row hx.o hx.i hd hcnt h1 h2 hkd (zig_lt64 s) hr (zag_even s0 s1) (zag_odd s0 s1)
    · have f0 := hf hkd
      obtain ⟨i, rfl⟩ : ∃ i : Nat, s = i := ⟨s.toNat, by omega⟩
      have hops : opsOf kind m (i : Nat) = [(6 + m % 5, i)] := by unfold opsOf; rw [if_neg hkd]; rfl
      rw [hops] at hr ⊢
      exact next_sym kind m i x w hk hx.row hx.o hx.i hd hat h1 h2 hkd hr.1
  refine main.mono ?_
  rintro e w' ⟨F', cs', oA', on', oc', iA', im', ic', rfl, g1, g2, g3, g4, g5, g6⟩
  refine ⟨F', oA', on', oc', iA', im', ic', rfl, ?_⟩
  have hnew : XAt w' kb F' n f (steps (inBit n f) c (opsOf kind m s)) oA' on' oc' iA' im' ic' := ⟨⟨cs', g1⟩, g2, g4, g5⟩
  refine h.step1 (p' := xPart kb F' n f (steps (inBit n f) c (opsOf kind m s)) oA' on' oc' iA' im' ic') ?_ hnew.part
  refine ⟨g6.os, g6.tape, g6.output, g6.size, fun q hq hn => g6.block q hq (fun e => hn (List.mem_append_left _ e)), fun q hq => ?_⟩
  rcases List.mem_append.1 hq with hq | hq
  · rcases g6.own q hq with e | e
    · exact Or.inl (List.mem_append_left _ e)
    · exact Or.inr e
  · rcases List.mem_append.1 hq with hq | hq
    · obtain ⟨ad, e, rfl⟩ := mem_optF.1 hq
      rcases g3.1 ad e with ⟨a, ea, eb⟩ | e2
      · exact Or.inl (List.mem_append_right _ (List.mem_append_left _ (mem_optF.2 ⟨a, ea, eb.symm⟩)))
      · exact Or.inr e2
    · obtain ⟨ad, e, rfl⟩ := mem_optF.1 hq
      rcases g3.2 ad e with ⟨a, ea, eb⟩ | e2
      · exact Or.inl (List.mem_append_right _ (List.mem_append_right _ (mem_optF.2 ⟨a, ea, eb.symm⟩)))
      · exact Or.inr e2
theorem Ses.cput6 {b : Nat} {u0 u1 u2 u3 u4 u5 : Value} {T : TypeId} (v0 v1 v2 v3 v4 v5 : Value) (h : Ses w0 w (cPart b #[u0, u1, u2, u3, u4, u5] T :: l)) : Ses w0 (put6 w b v0 v1 v2 v3 v4 v5) (cPart b #[v0, v1, v2, v3, v4, v5] T :: l) := by
  have hh : w.heap[b]? = some (.cells #[u0, u1, u2, u3, u4, u5] T (0, 0)) := h.sep.head
  have h2 := put6_blk (v0 := v0) (v1 := v1) (v2 := v2) (v3 := v3) (v4 := v4) (v5 := v5) hh
  refine h.step1 (p' := cPart b #[v0, v1, v2, v3, v4, v5] T) (Fr.of_only put6_only) ⟨h2, fun q hq => ?_, fun w' hs _ => ?_⟩
  · have : q = b := by simpa [cPart] using hq
    subst this
    exact lt_of_block h2
  · exact (hs b (by simp [cPart])).trans h2
theorem Ses.left {m : List Part} (h : Ses w0 w (m ++ l)) : Ses w0 w m :=
  ⟨⟨fun p hp => h.sep.1 p (List.mem_append_left _ hp), (List.pairwise_append.1 h.sep.2).1⟩, fun p hp => h.base p (List.mem_append_left _ hp), h.bel⟩
theorem Ses.left5 {a b c d e : Part} (h : Ses w0 w (a :: b :: c :: d :: e :: l)) : Ses w0 w [a, b, c, d, e] := Ses.left (m := [a, b, c, d, e]) h
/-- Bytes that were lent, as an object. -/
def gPart (g n : Nat) (f : Nat → Nat) (cur : Array Value) : Part := ⟨[g], fun w => LBlk w g n f cur⟩
theorem LBlk.part {g n : Nat} {f : Nat → Nat} {cur : Array Value} (h : LBlk w g n f cur) : (gPart g n f cur).ok w := by
  refine ⟨h, fun q hq => ?_, fun w' hs _ => ⟨(hs g (by simp [gPart])).trans h.blk, h.at_⟩⟩
  have : q = g := by simpa [gPart] using hq
  subst this
  exact lt_of_block h.blk
theorem Ses.over {g n : Nat} {f : Nat → Nat} {cur : Array Value} (h : Ses w0 w (gPart g n f cur :: l)) (ho : Only g w w') : Ses w0 w' l := by
  have hl : LBlk w g n f cur := h.sep.head
  have hlt := lt_of_block hl.blk
  have := h.step1 (p' := ⟨[g], fun _ => True⟩) (Fr.of_only ho) ⟨trivial, fun q hq => by
    have : q = g := by simpa using hq
    subst this; rw [ho.size]; exact hlt, fun _ _ _ => trivial⟩
  exact this.tail
theorem LBlk.brow {g n : Nat} {f : Nat → Nat} {cur : Array Value} (h : LBlk w g n f cur) : BRow w (some ⟨g, 0, none⟩) n f := by
  intro i hi
  refine ⟨_, rfl, ?_⟩
  rw [add_zero', cell_of_block h.blk i, h.at_ i (by omega)]
  unfold lentF; rw [if_pos hi]
/-- Bytes that somebody made, as an object. -/
def yPart (g n : Nat) (f : Nat → Nat) : Part := ⟨[g], fun w => (∃ o, w.heap[g]? = some o) ∧ BRow w (some ⟨g, 0, none⟩) n f⟩
end
/-- The blocks of the models at the beginning. -/
def stF (A : Nat → Option Addr) : List Nat := (List.range 11).flatMap fun j => optF (A j)
def kbC (A : Nat → Option Addr) (c : Nat → Nat) : Array Value := #[.slice (A 0) 1 (c 0), .slice (A 1) 2 (c 1), .slice (A 2) 3 (c 2), .slice (A 3) 17 (c 3), .slice (A 4) 256 (c 4), .slice (A 5) 65 (c 5), .slice (A 6) 2 (c 6), .slice (A 7) 2 (c 7), .slice (A 8) 65 (c 8), .slice (A 9) 2 (c 9), .slice (A 10) 2 (c 10)]
theorem kbC_at (A : Nat → Option Addr) (c : Nat → Nat) (j : Nat) (hj : j < 11) : (kbC A c)[j]? = some (.slice (A j) (ksz (rmap j)) (c j)) := by
  have : j = 0 ∨ j = 1 ∨ j = 2 ∨ j = 3 ∨ j = 4 ∨ j = 5 ∨ j = 6 ∨ j = 7 ∨ j = 8 ∨ j = 9 ∨ j = 10 := by omega
  rcases this with rfl | rfl | rfl | rfl | rfl | rfl | rfl | rfl | rfl | rfl | rfl <;> rfl
/-- The reference at the beginning. -/
theorem x_start {w w3 w4 : World} {A : Nat → Option Addr} {c : Nat → Nat} {n : Nat} {f : Nat → Nat} {st : St} {oA iA : Option Addr} {on oc im ic : Nat} (hb3 : Below w.heap.size w w3) (hr : ∀ j, j < 11 → LRow w3 (A j) (ksz (rmap j)) (fr0 (rmap j)) ∧ ∀ ad, A j = some ad → w.heap.size ≤ ad.block ∧ ad.block < w3.heap.size) (hb4 : Below w3.heap.size w3 w4) (hrow : RCo w4 n f st oA on oc iA im ic) (ho : From w3 none oA) (hi : From w3 none iA) :
    XAt (w4.alloc (Obj.cells (kbC A c) 50)) w4.heap.size (stF A) n f (st, fr0) oA on oc iA im ic ∧ ∀ q, q ∈ xF w4.heap.size (stF A) oA iA → w.heap.size ≤ q := by
  have hb5 : Below w4.heap.size w4 (w4.alloc (Obj.cells (kbC A c) 50)) := (Below.refl _ _).alloc (Nat.le_refl _) _
  have hmem : ∀ q, q ∈ stF A → ∃ j ad, j < 11 ∧ A j = some ad ∧ ad.block = q := by
    intro q hq
    unfold stF at hq
    obtain ⟨j, hj, hq⟩ := List.mem_flatMap.1 hq
    obtain ⟨ad, e, eb⟩ := mem_optF.1 hq
    exact ⟨j, ad, List.mem_range.1 hj, e, eb⟩
  have s3 := hb3.size
  have s4 := hb4.size
  refine ⟨⟨⟨kbC A c, heap_alloc_new w4 _, ?_, ?_, ?_⟩, hrow.below hb5, ?_, ?_⟩, ?_⟩
  · intro hq
    obtain ⟨j, ad, hj, e, eb⟩ := hmem _ hq
    have := ((hr j hj).2 ad e).2
    omega
  · intro q hq
    obtain ⟨j, ad, hj, e, eb⟩ := hmem _ hq
    have := ((hr j hj).2 ad e).2
    simp; omega
  · intro j hj
    exact ⟨A j, _, c j, kbC_at A c j hj, ((hr j hj).1.below hb4).below hb5, fun ad e => List.mem_flatMap.2 ⟨j, List.mem_range.2 hj, mem_optF.2 ⟨ad, e, rfl⟩⟩⟩
  · intro ad e; have := hrow.olt ad e; omega
  · intro ad e; have := hrow.ilt ad e; omega
  · intro q hq
    rcases List.mem_append.1 hq with hq | hq
    · rcases List.mem_cons.1 hq with rfl | hq
      · omega
      · obtain ⟨j, ad, hj, e, eb⟩ := hmem _ hq
        have := ((hr j hj).2 ad e).1
        omega
    · rcases List.mem_append.1 hq with hq | hq
      · obtain ⟨ad, e, rfl⟩ := mem_optF.1 hq
        rcases ho ad e with ⟨a, ea, _⟩ | h
        · cases ea
        · omega
      · obtain ⟨ad, e, rfl⟩ := mem_optF.1 hq
        rcases hi ad e with ⟨a, ea, _⟩ | h
        · cases ea
        · omega
structure RRel (w0 wr : World) (n0 n1 mbk kb cb : Nat) (bm g : Nat → Nat) (nb : Nat) (f : Nat → Nat) (dB dw : Nat) (dG : List Nat) (dA : Option Addr) (dc j : Nat) (F1 F : List Nat) (D : St × Bun) (oA : Option Addr) (on oc : Nat) (iA : Option Addr) (im ic : Nat) : Prop where
  ses : Ses w0 wr [decPart dB dw dG dA nb dc f F1 D.1, kPart 11 bm g (nums2 n0 n1) D.2, cPart mbk (bunC bm n0 n1) 45, xPart kb F nb f D oA on oc iA im ic, cPart cb (rC D.1.lo D.1.hi D.1.dl oA on oc D.1.num iA im ic) 53]
  dok : DOk (inBit nb f) ksz D
  cnt : D.1.cnt ≤ 65 * j
set_option maxRecDepth 100000 in
set_option maxHeartbeats 8000000 in
theorem reads_walk (A A2 : Option Addr) (n cap n2 cap2 : Nat) (f : Nat → Nat) (t : Its) (w : World) (hA : BRow w A n f) (hf : ∀ i, f i < 256) (hcap : n ≤ cap) (hn : cap ≤ 9223372036854775807) (hnil : A = none → n = 0 ∧ cap = 0) (hi : Items w w.heap.size A2 n2 t) (hcap2 : n2 ≤ cap2) (hn2 : cap2 ≤ 9223372036854775807) :
    Calls Try.prog 4 #[.slice A n cap, .slice A2 n2 cap2] w fun e w' => e = .returned (.bool true) ∧ Below w.heap.size w w' := by
  obtain ⟨nb, hnb⟩ : ∃ m : Nat, (if (200 : Int) < (n : Int) then (200 : Int) else (n : Int)) = (m : Int) := ⟨min n 200, by split <;> omega⟩
  have hnb4 : nb ≤ 200 ∧ nb ≤ n := by split at hnb <;> omega
  obtain ⟨m, hm⟩ : ∃ m : Nat, (if (60 : Int) < (n2 : Int) then (60 : Int) else (n2 : Int)) = (m : Int) := ⟨min n2 60, by split <;> omega⟩
  have hm4 : m ≤ 60 ∧ m ≤ n2 := by split at hm <;> omega
  have hA' := brow_upto hA hnb4.2
  have hi' := items_upto hi hm4.2
  have hnil' : A = none → nb = 0 ∧ cap = 0 := fun e => by have := hnil e; omega
  have HW := Lib.hid (And.intro hA' (And.intro hf (And.intro hnil' hi')))
  have HS := Lib.hid (Ses.start w)
  clear hA hA' hf hnil hnil' hi hi'
  go_enter Try.func4, Try.ntmps4
  go_wp2_with fail
  refine (fresh_s HS.out).mono ?_
  rintro e w2 ⟨bm, g, n0, n1, rfl, h2⟩
  have H2 := Lib.hid (h2.cells (bunC bm n0 n1) 45); clear h2 HS
  rw [bunV_eq]
  obtain ⟨wa, ewa⟩ : ∃ wa : World, wa = w2.alloc (.cells (bunC bm n0 n1) 45) := ⟨_, rfl⟩
  rw [← ewa] at H2
  have EWA := Lib.hid ewa; clear ewa
  go_upto_region 5 with fail
  have ewa := EWA.out
  unfold bunC at ewa
  rw [← ewa]
  clear ewa
  go_wp2_with fail
  refine (starts_ok wa).mono ?_
  rintro e w3 ⟨kA, kc, rfl, hk3, hb3⟩
  have H3 := Lib.hid (And.intro hk3 hb3); clear hk3 hb3
  unfold knV
  go_wp2_with fail
  refine (Open_ok (cap := cap) w3 (HW.out.1.keepd (then_ H2.out.bel H3.out.2)) (fun i _ => HW.out.2.1 i) (by omega)).mono ?_
  rintro e w4 ⟨oA, on, oc, iA, im, ic, rfl, hr4, hf4, hb4⟩
  obtain ⟨hx1, hx2⟩ := x_start (c := kc) H3.out.2 H3.out.1 hb4 hr4 hf4.1 hf4.2
  have h5 := H2.out.new (then_alloc (then_ H3.out.2 hb4) _) hx1.part hx2
  have h6 := h5.cells (rC (decAt (inBit nb f) 32).lo (decAt (inBit nb f) 32).hi (decAt (inBit nb f) 32).dl oA on oc (decAt (inBit nb f) 32).num iA im ic) 53
  have H6 := Lib.hid h6; clear h5 h6 hx1 hx2 hr4 hf4 hb4
  unfold rV
  go_wp2_with fail
  obtain ⟨wb, ewb⟩ : ∃ wb : World, wb = (w4.alloc (Obj.cells (kbC kA kc) 50)).alloc (Obj.cells (rC (decAt (inBit nb f) 32).lo (decAt (inBit nb f) 32).hi (decAt (inBit nb f) 32).dl oA on oc (decAt (inBit nb f) 32).num iA im ic) 53) := ⟨_, rfl⟩
  rw [← ewb] at H6
  unfold kbC rC at ewb
  rw [← ewb]
  clear ewb
  refine (Lent_ok wb (HW.out.1.keepd H6.out.bel) HW.out.2.2.1 (by omega)).mono ?_
  rintro e w5 ⟨lg, lc, cur, rfl, hl, hlg, hlc, hlc2, hb5⟩
  have h7 := H6.out.new hb5 hl.part (fun q hq => by
    have : q = lg := by simpa [gPart] using hq
    omega)
  have H7 := Lib.hid (And.intro h7 (And.intro hlc hlc2)); clear h7 hl hlg hb5 H6
  go_wp2_with fail
  refine (Ses.dec H7.out.1 (LBlk.brow H7.out.1.sep.head) (by omega) (fun i _ => HW.out.2.1 i) (fun e => by cases e)).mono ?_
  rintro e w6 ⟨dB, dw, dG, dA, dc, dF, rfl, h8⟩
  have H8 := Lib.hid h8.mv1; clear h8
  go_wp2_with fail
  refine (Kept_ok (cap := cap) w6 (HW.out.1.keepd H8.out.bel) H8.out.sep.head H7.out.2.1 H7.out.2.2 (by omega) (fun i _ => HW.out.2.1 i)).mono ?_
  rintro e w7 ⟨rfl, nq, rfl⟩
  have H9 := Lib.hid (H8.out.drewN nq); clear H8
  go_wp2_with fail
  refine (Over_ok _ H9.out.sep.head H7.out.2.1 H7.out.2.2 (by omega)).mono ?_
  rintro e w8 ⟨rfl, ho8⟩
  have h10 := H9.out.over ho8
  have H10 := Lib.hid (show RRel w w8 n0 n1 w2.heap.size w4.heap.size (w4.alloc (Obj.cells (kbC kA kc) 50)).heap.size bm g nb f dB dw dG dA dc 0 dF (stF kA) (decAt (inBit nb f) 32, fr0) oA on oc iA im ic from ⟨h10.mv1.mv2.mv3.mw4.mw4, dok_start nb f, by simp [decAt]⟩)
  rw [show (w4.alloc (Obj.cells (kbC kA kc) 50)).heap.size = w4.heap.size + 1 from by simp] at H10
  clear h10 ho8 H9 H7
  go_wp2_with fail
  go_loopg [49] m (fun gh iv wr => ∃ (j : Nat) (F1 F : List Nat) (D : St × Bun) (oA : Option Addr) (on oc : Nat) (iA : Option Addr) (im ic : Nat), gh = m - j ∧ j ≤ m ∧ iv = .int .i64 (j : Nat) ∧ RRel w wr n0 n1 w2.heap.size w4.heap.size (w4.heap.size + 1) bm g nb f dB dw dG dA dc j F1 F D oA on oc iA im ic)
  case atStart => exact ⟨0, dF, stF kA, (decAt (inBit nb f) 32, fr0), oA, on, oc, iA, im, ic, rfl, by omega, rfl, H10.out⟩
  case round =>
    obtain ⟨j, F1, F, D, oA, on, oc, iA, im, ic, hgh, hj, rfl, hR⟩ := hrel
    have Hgh := Lib.hid hgh; clear hgh
    have HR := Lib.hid hR; clear hR H10
    by_cases hlt : j < m
    · obtain ⟨ad, rfl, hab, c0, c1, c2, b0, b1, b2, b3⟩ := (HW.out.2.2.2.below HR.out.ses.bel) j hlt
      rw [add_in ad (j * 3) 1 (by omega)] at c1
      rw [add_in ad (j * 3) 2 (by omega)] at c2
      have i0' : (0 : Int) ≤ (j : Int) := by omega
      have i1' : (j : Int) < (m : Int) := by omega
      obtain ⟨kd, ekd⟩ : ∃ k, k = t.kd j := ⟨_, rfl⟩
      obtain ⟨mm, emm⟩ : ∃ k, k = t.mm j := ⟨_, rfl⟩
      obtain ⟨ss, ess⟩ : ∃ k, k = t.ss j := ⟨_, rfl⟩
      rw [← ekd] at c0 b0
      rw [← emm] at c1 b1
      rw [← ess] at c2 b2 b3
      clear hab ekd emm ess
      obtain ⟨s, s0, s1, hfit, hrd⟩ := get_some kd mm HR.out.dok
      have hcnt : D.1.cnt + 65 ≤ 32768 := by have := HR.out.cnt; omega
      have hx := HR.out.ses.cells #[.int .u8 (kd : Int), .int .u8 (mm : Int), .int .i64 ss] 61
      obtain ⟨q0, q1, q2⟩ := Ses.it (kind := kd) (m := mm) (s := ss) hx
      obtain ⟨k0, k1, k2, k3, k4, k5, k6⟩ := hx.mv3.bun
      have hget := iget_ok kd mm n0 n1 ss s hx.mv2.mv2 HR.out.dok hcnt b0 b1 s0 s1 (fun h => (hfit h).1) hrd
      have HG := Lib.hid (And.intro hget (And.intro hfit hrd)); clear hget hfit hrd hx
      go_wp2_with fail
      refine HG.out.1.mono ?_
      rintro e w9 ⟨rfl, F9, h9⟩
      -- dec, k, item, mbk, x, cb
      have hcbk : w9.heap[w4.heap.size + 1]? = some (.cells (rC D.1.lo D.1.hi D.1.dl oA on oc D.1.num iA im ic) 53 (0, 0)) := h9.mw5.sep.head
      obtain ⟨q0, q1, q2⟩ := Ses.it (kind := kd) (m := mm) (s := ss) h9.mv2
      have hnx := h9.mw4.xnext kd mm ss s HR.out.dok hcnt b0 b1 s0 s1 (fun h => (HG.out.2.1 h).1) HG.out.2.2
      have z0 : w9.cell? ⟨w4.heap.size + 1, 0, none⟩ = some (.int .i64 (D.1.lo : Nat)) := (cell_of_block hcbk 0).trans rfl
      have z1 : w9.cell? ⟨w4.heap.size + 1, 1, none⟩ = some (.int .i64 (D.1.hi : Nat)) := (cell_of_block hcbk 1).trans rfl
      have z2 : w9.cell? ⟨w4.heap.size + 1, 2, none⟩ = some (.int .i64 (D.1.dl : Nat)) := (cell_of_block hcbk 2).trans rfl
      have z3 : w9.cell? ⟨w4.heap.size + 1, 3, none⟩ = some (.slice oA on oc) := (cell_of_block hcbk 3).trans rfl
      have z4 : w9.cell? ⟨w4.heap.size + 1, 4, none⟩ = some (.int .i64 (D.1.num : Nat)) := (cell_of_block hcbk 4).trans rfl
      have z5 : w9.cell? ⟨w4.heap.size + 1, 5, none⟩ = some (.slice iA im ic) := (cell_of_block hcbk 5).trans rfl
      obtain ⟨D', eD⟩ : ∃ D', D' = steps (inBit nb f) D (opsOf kd mm s) := ⟨_, rfl⟩
      rw [← eD] at hnx
      unfold rV itemV at hnx
      have ED := Lib.hid eD; clear eD
      have H11 := Lib.hid hnx; clear hnx h9 hcbk c0 c1 c2 k0 k1 k2 k3 k4 k5 k6
      go_wp2_with fail
      refine H11.out.mono ?_
      rintro e w10 ⟨F', oA2, on2, oc2, iA2, im2, ic2, rfl, h12⟩
      clear z0 z1 z2 z3 z4 z5 q0 q1 q2
      have h13 := h12.cells (rC D'.1.lo D'.1.hi D'.1.dl oA2 on2 oc2 D'.1.num iA2 im2 ic2) 53
      obtain ⟨wn, ewn⟩ : ∃ wn : World, wn = w10.alloc (.cells (rC D'.1.lo D'.1.hi D'.1.dl oA2 on2 oc2 D'.1.num iA2 im2 ic2) 53) := ⟨_, rfl⟩
      rw [← ewn] at h13
      have H13 := Lib.hid (And.intro h13 ewn); clear h12 h13 ewn H11
      go_upto_region 16 with fail
      have hww := H13.out.2
      unfold rC at hww
      rw [← hww]
      clear hww
      have hcbk : wn.heap[w4.heap.size + 1]? = some (.cells (rC D.1.lo D.1.hi D.1.dl oA on oc D.1.num iA im ic) 53 (0, 0)) := H13.out.1.mw6.sep.head
      have hnbk : wn.heap[w10.heap.size]? = some (.cells (rC D'.1.lo D'.1.hi D'.1.dl oA2 on2 oc2 D'.1.num iA2 im2 ic2) 53 (0, 0)) := H13.out.1.sep.head
      have z0 : wn.cell? ⟨w4.heap.size + 1, 0, none⟩ = some (.int .i64 (D.1.lo : Nat)) := (cell_of_block hcbk 0).trans rfl
      have z1 : wn.cell? ⟨w4.heap.size + 1, 1, none⟩ = some (.int .i64 (D.1.hi : Nat)) := (cell_of_block hcbk 1).trans rfl
      have z2 : wn.cell? ⟨w4.heap.size + 1, 2, none⟩ = some (.int .i64 (D.1.dl : Nat)) := (cell_of_block hcbk 2).trans rfl
      have z3 : wn.cell? ⟨w4.heap.size + 1, 3, none⟩ = some (.slice oA on oc) := (cell_of_block hcbk 3).trans rfl
      have z4 : wn.cell? ⟨w4.heap.size + 1, 4, none⟩ = some (.int .i64 (D.1.num : Nat)) := (cell_of_block hcbk 4).trans rfl
      have z5 : wn.cell? ⟨w4.heap.size + 1, 5, none⟩ = some (.slice iA im ic) := (cell_of_block hcbk 5).trans rfl
      have x0 := free_of_block hcbk 0
      have x1 := free_of_block hcbk 1
      have x2 := free_of_block hcbk 2
      have x3 := free_of_block hcbk 3
      have x4 := free_of_block hcbk 4
      have x5 := free_of_block hcbk 5
      have y0 : wn.cell? ⟨w10.heap.size, 0, none⟩ = some (.int .i64 (D'.1.lo : Nat)) := (cell_of_block hnbk 0).trans rfl
      have y1 : wn.cell? ⟨w10.heap.size, 1, none⟩ = some (.int .i64 (D'.1.hi : Nat)) := (cell_of_block hnbk 1).trans rfl
      have y2 : wn.cell? ⟨w10.heap.size, 2, none⟩ = some (.int .i64 (D'.1.dl : Nat)) := (cell_of_block hnbk 2).trans rfl
      have y3 : wn.cell? ⟨w10.heap.size, 3, none⟩ = some (.slice oA2 on2 oc2) := (cell_of_block hnbk 3).trans rfl
      have y4 : wn.cell? ⟨w10.heap.size, 4, none⟩ = some (.int .i64 (D'.1.num : Nat)) := (cell_of_block hnbk 4).trans rfl
      have y5 : wn.cell? ⟨w10.heap.size, 5, none⟩ = some (.slice iA2 im2 ic2) := (cell_of_block hnbk 5).trans rfl
      -- cb, next's, x, dec, k, item, mbk
      have h14 := H13.out.1.mw6.cput6 (.int .i64 (D'.1.lo : Nat)) (.int .i64 (D'.1.hi : Nat)) (.int .i64 (D'.1.dl : Nat)) (.slice oA2 on2 oc2) (.int .i64 (D'.1.num : Nat)) (.slice iA2 im2 ic2)
      obtain ⟨wp, ewp⟩ : ∃ wp : World, wp = put6 wn (w4.heap.size + 1) (.int .i64 (D'.1.lo : Nat)) (.int .i64 (D'.1.hi : Nat)) (.int .i64 (D'.1.dl : Nat)) (.slice oA2 on2 oc2) (.int .i64 (D'.1.num : Nat)) (.slice iA2 im2 ic2) := ⟨_, rfl⟩
      rw [← ewp] at h14
      have h15 : RRel w wp n0 n1 w2.heap.size w4.heap.size (w4.heap.size + 1) bm g nb f dB dw dG dA dc (j + 1) F9 F' D' oA2 on2 oc2 iA2 im2 ic2 ∧ ItAt wp wr.heap.size kd mm ss := by
        have hof := opsOf_fit kd mm s HG.out.2.1
        have hst := HR.out.dok.ok.steps (bit := inBit nb f) (l := opsOf kd mm s) hof.1
        have hcn := HR.out.cnt
        refine ⟨⟨h14.mv2.mw6.mw5.mw5.left5, by rw [ED.out]; exact (HR.out.dok.steps (inBit_le nb f) _ D HG.out.2.2).1, ?_⟩, Ses.it h14.mw5⟩
        rw [ED.out, hst.2]
        have := hof.2
        omega
      have H15 := Lib.hid (And.intro h15.1 (And.intro h15.2 ewp)); clear h14 h15 ewp hcbk hnbk H13
      go_upto_region 17 with fail
      have hww := H15.out.2.2
      unfold put6 at hww
      rw [← hww]
      clear hww x0 x1 x2 x3 x4 x5 y0 y1 y2 y3 y4 y5 z0 z1 z2 z3 z4 z5
      go_wp2_with fail
      have hRR := H15.out.1
      have hcntD : D'.1.cnt ≤ 32768 := by have := hRR.cnt; omega
      have hlen : D'.1.out.length + D'.1.dl + 2 ≤ 1000000 := by
        have h1 := hRR.dok.ok.live.good.out
        have h2 := hRR.dok.ok.live.at_
        omega
      obtain ⟨r, b, hrb, hr1, hr2⟩ := ends_b (endBits D'.1) nb f
      have hEnd := hRR.ses.drew.end_ r hcntD hr1
      have hBy : ∀ W : World, Ses w W [decPart dB dw dG dA nb dc f F9 D'.1, kPart 11 bm g (nums2 n0 n1) D'.2, cPart w2.heap.size (bunC bm n0 n1) 45, xPart w4.heap.size F' nb f D' oA2 on2 oc2 iA2 im2 ic2, cPart (w4.heap.size + 1) (rC D'.1.lo D'.1.hi D'.1.dl oA2 on2 oc2 D'.1.num iA2 im2 ic2) 53] → _ := fun W h => Bytes22_ok W (show XAt W w4.heap.size F' nb f D' oA2 on2 oc2 iA2 im2 ic2 from h.mv3.sep.head).row hlen
      unfold rV at hBy
      have hnn : nbytes (endBits D'.1) ≤ 1000000 := by unfold nbytes; rw [endBits_length]; omega
      have hcbk : wp.heap[w4.heap.size + 1]? = some (.cells (rC D'.1.lo D'.1.hi D'.1.dl oA2 on2 oc2 D'.1.num iA2 im2 ic2) 53 (0, 0)) := hRR.ses.mw4.sep.head
      have z0 : wp.cell? ⟨w4.heap.size + 1, 0, none⟩ = some (.int .i64 (D'.1.lo : Nat)) := (cell_of_block hcbk 0).trans rfl
      have z1 : wp.cell? ⟨w4.heap.size + 1, 1, none⟩ = some (.int .i64 (D'.1.hi : Nat)) := (cell_of_block hcbk 1).trans rfl
      have z2 : wp.cell? ⟨w4.heap.size + 1, 2, none⟩ = some (.int .i64 (D'.1.dl : Nat)) := (cell_of_block hcbk 2).trans rfl
      have z3 : wp.cell? ⟨w4.heap.size + 1, 3, none⟩ = some (.slice oA2 on2 oc2) := (cell_of_block hcbk 3).trans rfl
      have z4 : wp.cell? ⟨w4.heap.size + 1, 4, none⟩ = some (.int .i64 (D'.1.num : Nat)) := (cell_of_block hcbk 4).trans rfl
      have z5 : wp.cell? ⟨w4.heap.size + 1, 5, none⟩ = some (.slice iA2 im2 ic2) := (cell_of_block hcbk 5).trans rfl
      have x1 := H15.out.2.1.c1
      have HEnd := Lib.hid hEnd
      have HBy := Lib.hid hBy
      have HNb := Lib.hid hnn
      have HRB := Lib.hid (And.intro hr1 hr2)
      clear hEnd hBy hnn hr1 hr2 hcbk hRR hlen
      go_cut [87] (fun tv wx => tv = .bool false ∧ RRel w wx n0 n1 w2.heap.size w4.heap.size (w4.heap.size + 1) bm g nb f dB dw dG dA dc (j + 1) F9 F' D' oA2 on2 oc2 iA2 im2 ic2)
      case first =>
        by_cases h4 : mm % 4 = 0
        · have d1 : ((mm : Int) % 4) = 0 := by omega
          have d2 : ((mm : Int).tmod 4) = 0 := by rw [Int.tmod_eq_emod_of_nonneg (by omega)]; exact d1
          clear h4
          rcases hrb with ⟨rfl, rfl⟩ | ⟨rfl, rfl⟩
          · skip
            go_region_with (first
              | ((with_reducible refine HEnd.out.mono ?_)
                 (rintro e wE ⟨rfl, hE⟩)
                 (have hcbE : wE.heap[w4.heap.size + 1]? = some (.cells (rC D'.1.lo D'.1.hi D'.1.dl oA2 on2 oc2 D'.1.num iA2 im2 ic2) 53 (0, 0)) := hE.mw4.sep.head)
                 (have z0 : wE.cell? ⟨w4.heap.size + 1, 0, none⟩ = some (.int .i64 (D'.1.lo : Nat)) := (cell_of_block hcbE 0).trans rfl)
                 (have z1 : wE.cell? ⟨w4.heap.size + 1, 1, none⟩ = some (.int .i64 (D'.1.hi : Nat)) := (cell_of_block hcbE 1).trans rfl)
                 (have z2 : wE.cell? ⟨w4.heap.size + 1, 2, none⟩ = some (.int .i64 (D'.1.dl : Nat)) := (cell_of_block hcbE 2).trans rfl)
                 (have z3 : wE.cell? ⟨w4.heap.size + 1, 3, none⟩ = some (.slice oA2 on2 oc2) := (cell_of_block hcbE 3).trans rfl)
                 (have z4 : wE.cell? ⟨w4.heap.size + 1, 4, none⟩ = some (.int .i64 (D'.1.num : Nat)) := (cell_of_block hcbE 4).trans rfl)
                 (have z5 : wE.cell? ⟨w4.heap.size + 1, 5, none⟩ = some (.slice iA2 im2 ic2) := (cell_of_block hcbE 5).trans rfl)
                 (have HE := Lib.hid hE)
                 (clear hE hcbE))
              | ((refine (HBy.out _ HE.out).mono ?_)
                 (rintro e wF ⟨gy, cy, rfl, hy1, hy2, hy3⟩)
                 (have HF := Lib.hid (And.intro hy1 (HE.out.below hy3)))
                 (clear hy1 hy2 hy3))
              | ((refine (SameBytes_b (A := some ⟨gy, 0, none⟩) (C := A) _ _ _ _ true HF.out.1 (HW.out.1.keepd HF.out.2.bel) (fun i _ => M.byteOf_lt _ _) (fun i _ => HW.out.2.1 i) HNb.out HRB.out.2).mono ?_)
                 (rintro e wG ⟨rfl, hb⟩)
                 (have HG2 := Lib.hid (HF.out.2.below hb))
                 (clear hb)))
            all_goals
              go_wp2_with fail
              go_meet
              exact ⟨rfl, HG2.out, H15.out.1.dok, H15.out.1.cnt⟩
          · skip
            go_region_with (first
              | ((with_reducible refine HEnd.out.mono ?_)
                 (rintro e wE ⟨rfl, hE⟩)
                 (have hcbE : wE.heap[w4.heap.size + 1]? = some (.cells (rC D'.1.lo D'.1.hi D'.1.dl oA2 on2 oc2 D'.1.num iA2 im2 ic2) 53 (0, 0)) := hE.mw4.sep.head)
                 (have z0 : wE.cell? ⟨w4.heap.size + 1, 0, none⟩ = some (.int .i64 (D'.1.lo : Nat)) := (cell_of_block hcbE 0).trans rfl)
                 (have z1 : wE.cell? ⟨w4.heap.size + 1, 1, none⟩ = some (.int .i64 (D'.1.hi : Nat)) := (cell_of_block hcbE 1).trans rfl)
                 (have z2 : wE.cell? ⟨w4.heap.size + 1, 2, none⟩ = some (.int .i64 (D'.1.dl : Nat)) := (cell_of_block hcbE 2).trans rfl)
                 (have z3 : wE.cell? ⟨w4.heap.size + 1, 3, none⟩ = some (.slice oA2 on2 oc2) := (cell_of_block hcbE 3).trans rfl)
                 (have z4 : wE.cell? ⟨w4.heap.size + 1, 4, none⟩ = some (.int .i64 (D'.1.num : Nat)) := (cell_of_block hcbE 4).trans rfl)
                 (have z5 : wE.cell? ⟨w4.heap.size + 1, 5, none⟩ = some (.slice iA2 im2 ic2) := (cell_of_block hcbE 5).trans rfl)
                 (have HE := Lib.hid hE)
                 (clear hE hcbE))
              | ((refine (HBy.out _ HE.out).mono ?_)
                 (rintro e wF ⟨gy, cy, rfl, hy1, hy2, hy3⟩)
                 (have HF := Lib.hid (And.intro hy1 (HE.out.below hy3)))
                 (clear hy1 hy2 hy3))
              | ((refine (SameBytes_b (A := some ⟨gy, 0, none⟩) (C := A) _ _ _ _ false HF.out.1 (HW.out.1.keepd HF.out.2.bel) (fun i _ => M.byteOf_lt _ _) (fun i _ => HW.out.2.1 i) HNb.out HRB.out.2).mono ?_)
                 (rintro e wG ⟨rfl, hb⟩)
                 (have HG2 := Lib.hid (HF.out.2.below hb))
                 (clear hb)))
            all_goals
              go_wp2_with fail
              go_meet
              exact ⟨rfl, HG2.out, H15.out.1.dok, H15.out.1.cnt⟩
        · have d1 : (((mm : Int) % 4) == 0) = false := by rw [beq_eq_false_iff_ne]; omega
          have d2 : ¬ ((mm : Int) % 4) = 0 := by omega
          have d3 : (((mm : Int).tmod 4) == 0) = false := by rw [Int.tmod_eq_emod_of_nonneg (by omega)]; exact d1
          clear h4
          go_quiet (fail)
          go_wp2_with fail
          go_meet
          exact ⟨rfl, H15.out.1.ses.drewN _, H15.out.1.dok, H15.out.1.cnt⟩
      case rest =>
      obtain ⟨rfl, hOR⟩ := hcut
      have HO := Lib.hid hOR; clear hOR H15 HEnd HBy HNb HRB z0 z1 z2 z3 z4 z5 x1
      go_wp2_with fail
      go_roundg (m - (j + 1))
      case measure => have := Hgh.out; omega
      case rel => exact ⟨j + 1, F9, F', D', oA2, on2, oc2, iA2, im2, ic2, rfl, by omega, by go_num, HO.out⟩
    · obtain rfl : j = m := by omega
      clear hlt hj
      have hRR := HR.out
      have hcntD : D.1.cnt ≤ 32768 := by have := hRR.cnt; omega
      have hlen : D.1.out.length + D.1.dl + 2 ≤ 1000000 := by
        have h1 := hRR.dok.ok.live.good.out
        have h2 := hRR.dok.ok.live.at_
        omega
      obtain ⟨r, b, hrb, hr1, hr2⟩ := ends_b (endBits D.1) nb f
      have hEnd := hRR.ses.end_ r hcntD hr1
      have hBy : ∀ W : World, Ses w W [decPart dB dw dG dA nb dc f F1 D.1, kPart 11 bm g (nums2 n0 n1) D.2, cPart w2.heap.size (bunC bm n0 n1) 45, xPart w4.heap.size F nb f D oA on oc iA im ic, cPart (w4.heap.size + 1) (rC D.1.lo D.1.hi D.1.dl oA on oc D.1.num iA im ic) 53] → _ := fun W h => Bytes22_ok W (show XAt W w4.heap.size F nb f D oA on oc iA im ic from h.mv3.sep.head).row hlen
      unfold rV at hBy
      have hnn : nbytes (endBits D.1) ≤ 1000000 := by unfold nbytes; rw [endBits_length]; omega
      have HEnd := Lib.hid hEnd
      have HBy := Lib.hid hBy
      have HNb := Lib.hid hnn
      have HRB := Lib.hid (And.intro hr1 hr2)
      clear hEnd hBy hnn hr1 hr2 hRR hlen
      rcases hrb with ⟨rfl, rfl⟩ | ⟨rfl, rfl⟩
      · skip
        go_wp2_with fail
        refine HEnd.out.mono ?_
        rintro e wE ⟨rfl, hE⟩
        have hcbE : wE.heap[w4.heap.size + 1]? = some (.cells (rC D.1.lo D.1.hi D.1.dl oA on oc D.1.num iA im ic) 53 (0, 0)) := hE.mw4.sep.head
        have z0 : wE.cell? ⟨w4.heap.size + 1, 0, none⟩ = some (.int .i64 (D.1.lo : Nat)) := (cell_of_block hcbE 0).trans rfl
        have z1 : wE.cell? ⟨w4.heap.size + 1, 1, none⟩ = some (.int .i64 (D.1.hi : Nat)) := (cell_of_block hcbE 1).trans rfl
        have z2 : wE.cell? ⟨w4.heap.size + 1, 2, none⟩ = some (.int .i64 (D.1.dl : Nat)) := (cell_of_block hcbE 2).trans rfl
        have z3 : wE.cell? ⟨w4.heap.size + 1, 3, none⟩ = some (.slice oA on oc) := (cell_of_block hcbE 3).trans rfl
        have z4 : wE.cell? ⟨w4.heap.size + 1, 4, none⟩ = some (.int .i64 (D.1.num : Nat)) := (cell_of_block hcbE 4).trans rfl
        have z5 : wE.cell? ⟨w4.heap.size + 1, 5, none⟩ = some (.slice iA im ic) := (cell_of_block hcbE 5).trans rfl
        have HE := Lib.hid hE
        clear hE hcbE
        go_wp2_with fail
        refine (HBy.out _ HE.out).mono ?_
        rintro e wF ⟨gy, cy, rfl, hy1, hy2, hy3⟩
        have HF := Lib.hid (And.intro hy1 (HE.out.below hy3))
        clear hy1 hy2 hy3 z0 z1 z2 z3 z4 z5
        go_wp2_with fail
        refine (SameBytes_b (A := some ⟨gy, 0, none⟩) (C := A) _ _ _ _ true HF.out.1 (HW.out.1.keepd HF.out.2.bel) (fun i _ => M.byteOf_lt _ _) (fun i _ => HW.out.2.1 i) HNb.out HRB.out.2).mono ?_
        rintro e wG ⟨rfl, hb⟩
        have HG2 := Lib.hid (HF.out.2.below hb)
        clear hb
        have HA := Lib.hid (awake_ok wG)
        go_wp2_with fail
        refine HA.out.mono ?_
        rintro e w14 ⟨rfl, hb14⟩
        have H14 := Lib.hid (HG2.out.below hb14); clear hb14
        go_wp2_with fail
        go_ret
        exact ⟨rfl, H14.out.bel⟩
      · skip
        go_wp2_with fail
        refine HEnd.out.mono ?_
        rintro e wE ⟨rfl, hE⟩
        have hcbE : wE.heap[w4.heap.size + 1]? = some (.cells (rC D.1.lo D.1.hi D.1.dl oA on oc D.1.num iA im ic) 53 (0, 0)) := hE.mw4.sep.head
        have z0 : wE.cell? ⟨w4.heap.size + 1, 0, none⟩ = some (.int .i64 (D.1.lo : Nat)) := (cell_of_block hcbE 0).trans rfl
        have z1 : wE.cell? ⟨w4.heap.size + 1, 1, none⟩ = some (.int .i64 (D.1.hi : Nat)) := (cell_of_block hcbE 1).trans rfl
        have z2 : wE.cell? ⟨w4.heap.size + 1, 2, none⟩ = some (.int .i64 (D.1.dl : Nat)) := (cell_of_block hcbE 2).trans rfl
        have z3 : wE.cell? ⟨w4.heap.size + 1, 3, none⟩ = some (.slice oA on oc) := (cell_of_block hcbE 3).trans rfl
        have z4 : wE.cell? ⟨w4.heap.size + 1, 4, none⟩ = some (.int .i64 (D.1.num : Nat)) := (cell_of_block hcbE 4).trans rfl
        have z5 : wE.cell? ⟨w4.heap.size + 1, 5, none⟩ = some (.slice iA im ic) := (cell_of_block hcbE 5).trans rfl
        have HE := Lib.hid hE
        clear hE hcbE
        go_wp2_with fail
        refine (HBy.out _ HE.out).mono ?_
        rintro e wF ⟨gy, cy, rfl, hy1, hy2, hy3⟩
        have HF := Lib.hid (And.intro hy1 (HE.out.below hy3))
        clear hy1 hy2 hy3 z0 z1 z2 z3 z4 z5
        go_wp2_with fail
        refine (SameBytes_b (A := some ⟨gy, 0, none⟩) (C := A) _ _ _ _ false HF.out.1 (HW.out.1.keepd HF.out.2.bel) (fun i _ => M.byteOf_lt _ _) (fun i _ => HW.out.2.1 i) HNb.out HRB.out.2).mono ?_
        rintro e wG ⟨rfl, hb⟩
        have HG2 := Lib.hid (HF.out.2.below hb)
        clear hb
        have HA := Lib.hid (awake_ok wG)
        go_wp2_with fail
        refine HA.out.mono ?_
        rintro e w14 ⟨rfl, hb14⟩
        have H14 := Lib.hid (HG2.out.below hb14); clear hb14
        go_wp2_with fail
        go_ret
        exact ⟨rfl, H14.out.bel⟩
end Go.Proofs.Ytdekcilfkelhlaa
