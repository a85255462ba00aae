/- vm, compile: the translator in memory; fail, put. vm, compile: slot, let. vm, compile: later, and the function that it returns. -/
import Derived.Test.YtocbddajakbemaaGreatNJ
import Derived.Test.YtocbddajakbemaaGreatNL
set_option linter.unusedVariables false
set_option linter.unusedSimpArgs false
set_option linter.unusedSimpArgs false
namespace Go.Proofs.YtocbddajakbemaaGreat
section
open Go.RowKit
structure TS where
  code : List (Nat × Int)
  names : List ByteArray
  L : Nat
  e : Int
def strC (l : List ByteArray) : List Value := l.map Value.string
theorem strC_one (l : List ByteArray) : ∀ u ∈ strC l, u.oneCell' = true := by intro u hu; unfold strC at hu; rw [List.mem_map] at hu; obtain ⟨i, _, rfl⟩ := hu; rfl
theorem infoInsT : (Tryz.prog.info? 105).map (fun i => (i.zero, i.size, i.bytes)) = some (some (.agg #[.int .u8 0, .int .i64 0]), 2, 16) := by kernel_rfl
theorem infoStrT : (Tryz.prog.info? 9).map (fun i => (i.zero, i.size, i.bytes)) = some (some (.string ⟨#[]⟩), 1, 16) := by kernel_rfl
def tcells (t : TS) (cv nv : Value) : Array Value := #[cv, .int .i64 (t.L : Nat), .int .u32 0, .int .u32 0, nv, .int .i64 t.e]
structure TOk (w : World) (B tb : Nat) (t : TS) (cv nv : Value) : Prop where
  blk : w.heap[tb]? = some (.cells (tcells t cv nv) 87 (0, 0))
  code : w.ownsRow B 105 2 cv t.code.length (insC t.code)
  nam : w.ownsRow B 9 1 nv t.names.length (strC t.names)
  base : B ≤ tb
def tF (tb : Nat) (cv nv : Value) : List Nat := tb :: (cv.ownBlock.toList ++ nv.ownBlock.toList)
theorem TOk.cells {w : World} {B tb : Nat} {t : TS} {cv nv : Value} (h : TOk w B tb t cv nv) : (∀ i, w.cell? ⟨tb, i, none⟩ = (tcells t cv nv)[i]?) ∧ (∀ i, w.frozen? ⟨tb, i, none⟩ = false) := ⟨fun i => cell_of_block h.blk i, fun i => free_of_block h.blk i⟩
theorem TOk.drewN {w : World} {B tb : Nat} {t : TS} {cv nv : Value} (h : TOk w B tb t cv nv) (n : Nat) : TOk (w.drewN n) B tb t cv nv := ⟨h.blk, h.code, h.nam, h.base⟩
theorem TOk.alloc {w : World} {B tb : Nat} {t : TS} {cv nv : Value} (h : TOk w B tb t cv nv) (o : Obj) : TOk (w.alloc o) B tb t cv nv :=
  ⟨(Below.heap_alloc w o tb (lt_of_block h.blk)).trans h.blk, h.code.alloc o, h.nam.alloc o, h.base⟩
theorem TOk.shape {w : World} {B tb : Nat} {t : TS} {cv nv : Value} (h : TOk w B tb t cv nv) : ∃ A c A' c', cv = .slice A t.code.length c ∧ nv = .slice A' t.names.length c' := by
  obtain ⟨A, c, h1⟩ : ∃ A c, cv = .slice A t.code.length c := by
    rcases h.code.2 with ⟨h1, e⟩ | ⟨g', cap, cur, h1, -⟩
    · exact ⟨none, 0, by rw [h1, e]⟩
    · exact ⟨_, cap, h1⟩
  obtain ⟨A', c', h2⟩ : ∃ A c, nv = .slice A t.names.length c := by
    rcases h.nam.2 with ⟨h1, e⟩ | ⟨g', cap, cur, h1, -⟩
    · exact ⟨none, 0, by rw [h1, e]⟩
    · exact ⟨_, cap, h1⟩
  exact ⟨A, c, A', c', h1, h2⟩
theorem TOk.facts {w : World} {B tb : Nat} {t : TS} {cv nv : Value} (h : TOk w B tb t cv nv) : w.cell? ⟨tb, 0, none⟩ = some cv ∧ w.cell? ⟨tb, 1, none⟩ = some (.int .i64 (t.L : Nat)) ∧ w.cell? ⟨tb, 2, none⟩ = some (.int .u32 0) ∧ w.cell? ⟨tb, 3, none⟩ = some (.int .u32 0) ∧ w.cell? ⟨tb, 4, none⟩ = some nv ∧ w.cell? ⟨tb, 5, none⟩ = some (.int .i64 t.e) :=
  ⟨(h.cells.1 0).trans rfl, (h.cells.1 1).trans rfl, (h.cells.1 2).trans rfl, (h.cells.1 3).trans rfl, (h.cells.1 4).trans rfl, (h.cells.1 5).trans rfl⟩
theorem TOk.free {w : World} {B tb : Nat} {t : TS} {cv nv : Value} (h : TOk w B tb t cv nv) : w.frozen? ⟨tb, 0, none⟩ = false ∧ w.frozen? ⟨tb, 1, none⟩ = false ∧ w.frozen? ⟨tb, 2, none⟩ = false ∧ w.frozen? ⟨tb, 3, none⟩ = false ∧ w.frozen? ⟨tb, 4, none⟩ = false ∧ w.frozen? ⟨tb, 5, none⟩ = false :=
  ⟨h.cells.2 0, h.cells.2 1, h.cells.2 2, h.cells.2 3, h.cells.2 4, h.cells.2 5⟩
theorem TOk.above {w : World} {B tb : Nat} {t : TS} {cv nv : Value} (h : TOk w B tb t cv nv) : ∀ q, q ∈ tF tb cv nv → B ≤ q := by
  intro q hq
  simp only [tF, List.mem_cons, List.mem_append, Option.mem_toList] at hq
  rcases hq with rfl | h1 | h1
  · exact h.base
  · exact (own_lt h.code h1).2
  · exact (own_lt h.nam h1).2
theorem TOk.notIn {w : World} {B tb : Nat} {t : TS} {cv nv : Value} (h : TOk w B tb t cv nv) {q : Nat} {cs : Array Value} {T : TypeId} (hq : w.heap[q]? = some (.cells cs T (0, 0))) (h1 : T ≠ 87) (h2 : T ≠ 105) (h3 : T ≠ 9) : q ∉ tF tb cv nv := by
  intro hm
  simp only [tF, List.mem_cons, List.mem_append, Option.mem_toList] at hm
  rcases hm with rfl | hm | hm
  · have := h.blk; rw [this] at hq; injection hq with hq; injection hq with _ hq; exact h1 hq.symm
  · exact own_neq h.code hq h2 hm
  · exact own_neq h.nam hq h3 hm
theorem TOk.setE {w : World} {B tb : Nat} {t : TS} {cv nv : Value} (h : TOk w B tb t cv nv) (e : Int) : TOk (w.setCell ⟨tb, 5, none⟩ (.int .i64 e)) B tb { t with e := e } cv nv ∧ Fr (tF tb cv nv) w (tF tb cv nv) (w.setCell ⟨tb, 5, none⟩ (.int .i64 e)) := by
  have ho : Only tb w (w.setCell ⟨tb, 5, none⟩ (.int .i64 e)) := (Only.refl tb w).setCell (p := ⟨tb, 5, none⟩) rfl _
  refine ⟨⟨block_setCell h.blk 5 _, own_only h.code ho (own_neq h.code h.blk (by decide)), own_only h.nam ho (own_neq h.nam h.blk (by decide)), h.base⟩, ?_⟩
  have := (Fr.of_only ho).more (cv.ownBlock.toList ++ nv.ownBlock.toList)
  exact this
def TRes (w : World) (B tb : Nat) (cv nv : Value) (t : TS) (w' : World) : Prop := ∃ cv' nv', TOk w' B tb t cv' nv' ∧ Fr (tF tb cv nv) w (tF tb cv' nv') w'
set_option maxRecDepth 100000 in
theorem tfail_ok (B tb : Nat) (t : TS) (cv nv : Value) (e : Int) (w : World) (h : TOk w B tb t cv nv) :
    Calls Tryz.prog 33 #[.pointer (some ⟨tb, 0, none⟩), .int .i64 e] w fun r w' => r = .returned (.tuple #[]) ∧ TRes w B tb cv nv { t with e := if t.e = 0 then e else t.e } w' := by
  obtain ⟨-, -, -, -, -, f5⟩ := h.facts
  obtain ⟨-, -, -, -, -, z5⟩ := h.free
  by_cases hz : t.e = 0
  · rw [if_pos hz]
    rw [hz] at f5
    have H := Lib.hid h; clear h hz
    go_enter Tryz.func33, Tryz.ntmps33
    go_wp2_with fail
    go_end0
    exact ⟨rfl, cv, nv, H.out.setE e⟩
  · rw [if_neg hz]
    have q : (t.e == 0) = false := by simpa using hz
    have H := Lib.hid h; clear h hz
    go_enter Tryz.func33, Tryz.ntmps33
    go_wp2_with fail
    go_end0
    exact ⟨rfl, cv, nv, H.out, Fr.refl _ _⟩
theorem TOk.coded {w w5 : World} {B tb : Nat} {t : TS} {cv nv v5 : Value} {o : Obj} {c' : List (Nat × Int)} (h : TOk w B tb t cv nv) (hg : (w.alloc o).grownBy w5 cv.ownBlock) (hat : v5.ownBlock = cv.ownBlock ∨ v5.ownBlock = some (w.heap.size + 1))
    (hown : w5.ownsRow B 105 2 v5 c'.length (insC c')) : w5.heap[tb]? = some (.cells (tcells t cv nv) 87 (0, 0)) ∧ TOk (w5.setCell ⟨tb, 0, none⟩ v5) B tb { t with code := c' } v5 nv ∧ Fr (tF tb cv nv) w (tF tb v5 nv) (w5.setCell ⟨tb, 0, none⟩ v5) := by
  have hs : (w.alloc o).heap.size = w.heap.size + 1 := by simp
  have hrl := lt_of_block h.blk
  have hrb : cv.ownBlock ≠ some tb := own_neq h.code h.blk (by decide)
  have hblk : w5.heap[tb]? = some (.cells (tcells t cv nv) 87 (0, 0)) := (hg.block tb (by omega) (fun e => hrb e.symm)).trans ((Below.heap_alloc w o tb hrl).trans h.blk)
  have ho : Only tb w5 (w5.setCell ⟨tb, 0, none⟩ v5) := (Only.refl tb w5).setCell (p := ⟨tb, 0, none⟩) rfl _
  have hb6 := block_setCell hblk 0 v5
  have nnm : nv.ownBlock = none ∨ nv.ownBlock ≠ cv.ownBlock := by
    cases e : nv.ownBlock with
    | none => exact Or.inl rfl
    | some q => exact Or.inr (fun e2 => own_own_ne h.nam h.code (by decide) e (e2.symm))
  refine ⟨hblk, ⟨hb6, own_only hown ho (own_neq hown hblk (by decide)), own_only ((h.nam.alloc o).kept hg nnm) ho (own_neq h.nam h.blk (by decide)), h.base⟩, ?_⟩
  refine ⟨hg.os, hg.tape, hg.output, ?_, fun q hq hn => ?_, fun q hq => ?_⟩
  · have := hg.size
    show w.heap.size ≤ (w5.heap.modify _ _).size
    simp; omega
  · simp only [tF, List.mem_cons, List.mem_append, Option.mem_toList, not_or] at hn
    refine (Below.heap_setCell _ _ _ _ hn.1).trans ((hg.block q (by omega) (fun e => hn.2.1 e.symm)).trans (Below.heap_alloc w o q hq))
  · simp only [tF, List.mem_cons, List.mem_append, Option.mem_toList] at hq ⊢
    rcases hq with h1 | h1 | h1
    · exact Or.inl (Or.inl h1)
    · rcases hat with e | e
      · exact Or.inl (Or.inr (Or.inl (e.symm.trans h1)))
      · rw [e] at h1
        injection h1 with h1
        exact Or.inr (by omega)
    · exact Or.inl (Or.inr (Or.inr h1))
theorem two_new (w : World) (x y : Value) (T : TypeId) : ∀ j u, [x, y][j]? = some u → (w.alloc (.cells #[x, y] T (0, 0))).cell? ((⟨w.heap.size, 0, none⟩ : Addr).add j) = some u := by
  intro j u hj
  have hk := heap_alloc_new w (.cells #[x, y] T (0, 0))
  rw [show (⟨w.heap.size, 0, none⟩ : Addr).add j = ⟨w.heap.size, j, none⟩ by rcases j with _ | j <;> simp [Addr.add]]
  rw [cell_of_block hk j]
  rcases j with _ | _ | j
  · simpa using hj
  · simpa using hj
  · simp at hj
set_option maxRecDepth 100000 in
theorem tput_ok (B tb : Nat) (t : TS) (cv nv : Value) (op : Nat) (a : Int) (w : World) (h : TOk w B tb t cv nv) (hl : t.code.length ≤ 1000000) :
    Calls Tryz.prog 89 #[.pointer (some ⟨tb, 0, none⟩), .int .u8 (op : Nat), .int .i64 a] w fun r w' => r = .returned (.tuple #[]) ∧ TRes w B tb cv nv { t with code := t.code ++ [(op, a)] } w' := by
  obtain ⟨i0, hi1, hz0, hz1, hz2⟩ := info_parts infoInsT
  have HI := Lib.hid (And.intro hi1 (And.intro hz0 (And.intro hz1 hz2))); clear hi1 hz0 hz1 hz2
  obtain ⟨f0, -⟩ := h.facts
  obtain ⟨A, c, A', c', ecv, env⟩ := h.shape
  obtain ⟨n, en⟩ : ∃ n, n = t.code.length := ⟨_, rfl⟩
  rw [← en] at ecv
  have hst0 := h.code
  rw [ecv] at f0 hst0
  have HO := Lib.hid hst0; clear hst0
  have H := Lib.hid (And.intro h (And.intro ecv (And.intro hl en))); clear h ecv hl env en
  go_enter Tryz.func89, Tryz.ntmps89
  go_wp2_with (at_builtin; refine wpList_append_own_at _ rfl (.tmp 11) (.tmp 15) 51 rfl B 105 i0 (.agg #[.int .u8 0, .int .i64 0]) 2 16 Tryz.underlying51 HI.out.1 HI.out.2.1 HI.out.2.2.1 HI.out.2.2.2 rfl (by decide) _ _ _ rfl (HO.out.alloc _) ⟨w.heap.size, 0, none⟩ 1 1 (insC [(op, a)]) rfl ?c0 ?c1 ?c2 ?c3 ?c4 ?c5 ?_)
  case c0 => rfl
  case c1 => exact two_new _ _ _ _
  case c2 => exact insC_one _
  case c3 => have := H.out.2.2.1; unfold maxLen; omega
  case c4 => have := H.out.2.2.1; omega
  case c5 => have := H.out.1.base; have := lt_of_block H.out.1.blk; simp; omega
  intro v5 w5 hown5 hg5 _ hat5
  have ea : insC t.code ++ insC [(op, a)] = insC (t.code ++ [(op, a)]) := (insC_append _ _).symm
  rw [ea] at hown5
  have hown6 : w5.ownsRow B 105 2 v5 (t.code ++ [(op, a)]).length (insC (t.code ++ [(op, a)])) := by simpa using hown5
  rw [← H.out.2.1] at hg5 hat5
  obtain ⟨hblk, hm, hfr⟩ := TOk.coded H.out.1 hg5 (by simpa using hat5) hown6
  obtain ⟨g5, cap5, cur5, rfl, -⟩ := own_shape hown6 (by simp)
  have d0 : w5.cell? ⟨tb, 0, none⟩ = some cv := (cell_of_block hblk 0).trans rfl
  have z0 := free_of_block hblk 0
  have HR := Lib.hid (And.intro hm hfr); clear hm hfr hown5 hown6 hg5 hat5 hblk ea
  go_wp2_with fail
  go_end0
  have hr := HR.out
  rw [show (t.code ++ [(op, a)]).length = t.code.length + 1 from by simp] at hr
  exact ⟨rfl, _, _, hr.1, hr.2⟩
end
end Go.Proofs.YtocbddajakbemaaGreat
set_option linter.unusedSimpArgs false
namespace Go.Proofs.YtocbddajakbemaaGreat
section
open Go.RowKit
def TS.fail (t : TS) (e : Int) : TS := { t with e := if t.e = 0 then e else t.e }
def TS.failIf (t : TS) (b : Bool) (e : Int) : TS := if b then t.fail e else t
theorem strC_at {l : List ByteArray} {j : Nat} {s : ByteArray} (h : l[j]? = some s) : (strC l)[j]? = some (.string s) := by unfold strC; rw [List.getElem?_map, h]; rfl
theorem TOk.row {w : World} {B tb : Nat} {t : TS} {cv : Value} {A : Option Addr} {c : Nat} (h : TOk w B tb t cv (.slice A t.names.length c)) : StrRow w A t.names := by
  intro j s hj
  have hlt := (List.getElem?_eq_some_iff.1 hj).1
  obtain ⟨g, cap, cur, e, -⟩ := own_shape h.nam (by omega)
  rw [Value.slice.injEq] at e
  obtain ⟨rfl, -, rfl⟩ := e
  have := h.nam.cellAt j (by have := h.nam.1; omega)
  exact ⟨g, 0, rfl, by rw [Nat.zero_add]; rw [this]; exact strC_at hj⟩
theorem TRes.trans {w w2 w' : World} {B tb : Nat} {cv nv cv2 nv2 : Value} {t : TS} (hf : Fr (tF tb cv nv) w (tF tb cv2 nv2) w2) (h : TRes w2 B tb cv2 nv2 t w') : TRes w B tb cv nv t w' := by
  obtain ⟨cv', nv', h1, h2⟩ := h
  exact ⟨cv', nv', h1, hf.trans h2⟩
set_option maxRecDepth 100000 in
theorem tslot_ok (B tb : Nat) (t : TS) (cv nv : Value) (s : ByteArray) (w : World) (h : TOk w B tb t cv nv) (hl : t.names.length ≤ 1000000) :
    Calls Tryz.prog 91 #[.pointer (some ⟨tb, 0, none⟩), .string s] w fun r w' => r = .returned (.int .i64 (idxM t.names s)) ∧ TRes w B tb cv nv (t.failIf (decide (idxM t.names s < 0)) 131) w' := by
  obtain ⟨-, -, -, -, f4, -⟩ := h.facts
  obtain ⟨A, c, A', c', ecv, env⟩ := h.shape
  rw [env] at f4
  have hrow := TOk.row (env ▸ h)
  have I := fun (n : Nat) (hn : n = t.names.length) => Index_ok A' n c' t.names s w hn (by omega) hrow
  obtain ⟨n, en⟩ : ∃ n, n = t.names.length := ⟨_, rfl⟩
  have I := I n en
  rw [← en] at f4
  obtain ⟨k, ek⟩ : ∃ k, k = idxM t.names s := ⟨_, rfl⟩
  rw [← ek] at I ⊢
  have F := tfail_ok B tb t cv nv 131 w h
  rcases hk : decide (k < 0) with _ | _
  · have H := Lib.hid h; clear h ecv env hrow en ek hl F
    go_enter Tryz.func91, Tryz.ntmps91
    go_wp2_with (go_at_call 116; refine I.mono ?_; rintro e w' ⟨rfl, rfl⟩)
    go_ret
    exact ⟨rfl, cv, nv, H.out, Fr.refl _ _⟩
  · have H := Lib.hid h; clear h ecv env hrow en ek hl
    go_enter Tryz.func91, Tryz.ntmps91
    go_wp2_with (first | (go_at_call 116; refine I.mono ?_; rintro e w' ⟨rfl, rfl⟩) | (go_at_call 33; refine F.mono ?_; rintro e w3 ⟨rfl, h3⟩; have H3 := Lib.hid h3; clear h3))
    go_ret
    exact ⟨rfl, H3.out⟩
theorem TOk.named {w w5 : World} {B tb : Nat} {t : TS} {cv nv v5 : Value} {o : Obj} {c' : List ByteArray} (h : TOk w B tb t cv nv) (hg : (w.alloc o).grownBy w5 nv.ownBlock) (hat : v5.ownBlock = nv.ownBlock ∨ v5.ownBlock = some (w.heap.size + 1))
    (hown : w5.ownsRow B 9 1 v5 c'.length (strC c')) : w5.heap[tb]? = some (.cells (tcells t cv nv) 87 (0, 0)) ∧ TOk (w5.setCell ⟨tb, 4, none⟩ v5) B tb { t with names := c' } cv v5 ∧ Fr (tF tb cv nv) w (tF tb cv v5) (w5.setCell ⟨tb, 4, none⟩ v5) := by
  have hs : (w.alloc o).heap.size = w.heap.size + 1 := by simp
  have hrl := lt_of_block h.blk
  have hrb : nv.ownBlock ≠ some tb := own_neq h.nam h.blk (by decide)
  have hblk : w5.heap[tb]? = some (.cells (tcells t cv nv) 87 (0, 0)) := (hg.block tb (by omega) (fun e => hrb e.symm)).trans ((Below.heap_alloc w o tb hrl).trans h.blk)
  have ho : Only tb w5 (w5.setCell ⟨tb, 4, none⟩ v5) := (Only.refl tb w5).setCell (p := ⟨tb, 4, none⟩) rfl _
  have hb6 := block_setCell hblk 4 v5
  have nnm : cv.ownBlock = none ∨ cv.ownBlock ≠ nv.ownBlock := by
    cases e : cv.ownBlock with
    | none => exact Or.inl rfl
    | some q => exact Or.inr (fun e2 => own_own_ne h.code h.nam (by decide) e (e2.symm))
  refine ⟨hblk, ⟨hb6, own_only ((h.code.alloc o).kept hg nnm) ho (own_neq h.code h.blk (by decide)), own_only hown ho (own_neq hown hblk (by decide)), h.base⟩, ?_⟩
  refine ⟨hg.os, hg.tape, hg.output, ?_, fun q hq hn => ?_, fun q hq => ?_⟩
  · have := hg.size
    show w.heap.size ≤ (w5.heap.modify _ _).size
    simp; omega
  · simp only [tF, List.mem_cons, List.mem_append, Option.mem_toList, not_or] at hn
    refine (Below.heap_setCell _ _ _ _ hn.1).trans ((hg.block q (by omega) (fun e => hn.2.2 e.symm)).trans (Below.heap_alloc w o q hq))
  · simp only [tF, List.mem_cons, List.mem_append, Option.mem_toList] at hq ⊢
    rcases hq with h1 | h1 | h1
    · exact Or.inl (Or.inl h1)
    · exact Or.inl (Or.inr (Or.inl h1))
    · rcases hat with e | e
      · exact Or.inl (Or.inr (Or.inr (e.symm.trans h1)))
      · rw [e] at h1
        injection h1 with h1
        exact Or.inr (by omega)
theorem TOk.setL {w : World} {B tb : Nat} {t : TS} {cv nv : Value} (h : TOk w B tb t cv nv) (L : Nat) : TOk (w.setCell ⟨tb, 1, none⟩ (.int .i64 (L : Nat))) B tb { t with L := L } cv nv ∧ Fr (tF tb cv nv) w (tF tb cv nv) (w.setCell ⟨tb, 1, none⟩ (.int .i64 (L : Nat))) := by
  have ho : Only tb w (w.setCell ⟨tb, 1, none⟩ (.int .i64 (L : Nat))) := (Only.refl tb w).setCell (p := ⟨tb, 1, none⟩) rfl _
  refine ⟨⟨block_setCell h.blk 1 _, own_only h.code ho (own_neq h.code h.blk (by decide)), own_only h.nam ho (own_neq h.nam h.blk (by decide)), h.base⟩, ?_⟩
  have := (Fr.of_only ho).more (cv.ownBlock.toList ++ nv.ownBlock.toList)
  exact this
def TS.push (t : TS) (s : ByteArray) : TS := { t with names := t.names ++ [s], L := max t.L (t.names.length + 1) }
set_option maxRecDepth 100000 in
set_option maxHeartbeats 2000000 in
theorem tlet_ok (B tb : Nat) (t : TS) (cv nv : Value) (s : ByteArray) (w : World) (h : TOk w B tb t cv nv) (hl : t.names.length ≤ 100000) (hL : t.L ≤ 1000000) :
    Calls Tryz.prog 90 #[.pointer (some ⟨tb, 0, none⟩), .string s] w fun r w' => r = .returned (.int .i64 (t.names.length : Nat)) ∧ TRes w B tb cv nv (((t.failIf (hasM t.names s) 132).failIf (decide (32 ≤ t.names.length)) 5).push s) w' := by
  obtain ⟨-, -, -, -, f4, -⟩ := h.facts
  obtain ⟨A, c, A', c', ecv, env⟩ := h.shape
  rw [env] at f4
  have hrow := TOk.row (env ▸ h)
  have I := fun (n : Nat) (hn : n = t.names.length) => Contains_ok A' n c' t.names s w hn (by omega) hrow
  obtain ⟨n, en⟩ : ∃ n, n = t.names.length := ⟨_, rfl⟩
  have I := I n en
  rw [← en] at f4
  obtain ⟨P, eP⟩ : ∃ P, P = hasM t.names s := ⟨_, rfl⟩
  rw [← eP] at I ⊢
  have F := tfail_ok B tb t cv nv 132 w h
  have H0 := Lib.hid (And.intro h (And.intro hl (And.intro hL en)))
  rw [← en]
  obtain ⟨Q, eQ⟩ : ∃ Q, Q = decide (32 ≤ n) := ⟨_, rfl⟩
  have eQi : decide ((32 : Int) ≤ (n : Int)) = Q := by rw [eQ]; exact decide_eq_decide.2 (by omega)
  rw [← eQ]
  obtain ⟨t1, et1⟩ : ∃ t1, t1 = t.failIf P 132 := ⟨_, rfl⟩
  rw [← et1]
  obtain ⟨t2, et2⟩ : ∃ t2, t2 = t1.failIf Q 5 := ⟨_, rfl⟩
  rw [← et2]
  have hn1 : t1.names.length = n := by rw [et1, en]; unfold TS.failIf TS.fail; split <;> rfl
  have hL1 : t1.L = t.L := by rw [et1]; unfold TS.failIf TS.fail; split <;> rfl
  have hn2 : t2.names.length = n := by rw [et2, ← hn1]; unfold TS.failIf TS.fail; split <;> rfl
  have hL2 : t2.L = t.L := by rw [et2, ← hL1]; unfold TS.failIf TS.fail; split <;> rfl
  -- what is held behind a test
  have C : ∀ (w0 w1 : World) (cv nv : Value) (tx : TS), tx.names.length = n → TRes w0 B tb cv nv tx w1 → ∃ cv1 A1 c1, TOk w1 B tb tx cv1 (.slice A1 n c1) ∧ Fr (tF tb cv nv) w0 (tF tb cv1 (.slice A1 n c1)) w1 := by
    rintro w0 w1 cv nv tx hx ⟨cv1, nv1, k1, k2⟩
    obtain ⟨-, -, A1, c1, -, rfl⟩ := k1.shape
    rw [hx] at k1 k2
    exact ⟨cv1, A1, c1, k1, k2⟩
  have HC := Lib.hid (And.intro C (And.intro hn1 (And.intro hL1 (And.intro hn2 (And.intro hL2 (And.intro et1 et2))))))
  clear h ecv env hrow eP hl hL C en eQ hn1 hL1 hn2 hL2 et1 et2
  go_enter Tryz.func90, Tryz.ntmps90
  go_upto_if 10 with (go_at_call 115; refine I.mono ?_; rintro e w' ⟨rfl, rfl⟩)
  go_cut [] (fun wx => TRes w B tb cv nv t1 wx)
  case first =>
    rcases P with _ | _
    · go_wp2_with fail
      go_meet
      have e : t1 = t := HC.out.2.2.2.2.2.1
      rw [e]
      exact ⟨cv, nv, H0.out.1, Fr.refl _ _⟩
    · go_wp2_with (go_at_call 33; refine F.mono ?_; rintro e w3 ⟨rfl, h3⟩; have H3 := Lib.hid h3; clear h3)
      go_meet
      have e : t1 = t.fail 132 := HC.out.2.2.2.2.2.1
      rw [e]
      exact H3.out
  case rest =>
  obtain ⟨w1, ew1⟩ : ∃ w1, w1 = wc := ⟨_, rfl⟩
  rw [← ew1] at hcut ⊢
  clear ew1 f4 F I
  obtain ⟨cv1, A1, c1, k1, k2⟩ := HC.out.1 w w1 cv nv t1 HC.out.2.1 hcut
  clear hcut
  obtain ⟨-, -, -, -, f4, -⟩ := k1.facts
  have F := tfail_ok B tb t1 cv1 _ 5 w1 k1
  have H1 := Lib.hid (And.intro k1 k2)
  clear k1 k2
  go_upto_if 18 with fail
  go_cut [] (fun wx => TRes w1 B tb cv1 (.slice A1 n c1) t2 wx)
  case first =>
    rcases Q with _ | _
    · go_wp2_with fail
      go_meet
      have e : t2 = t1 := HC.out.2.2.2.2.2.2
      rw [e]
      exact ⟨cv1, _, H1.out.1, Fr.refl _ _⟩
    · go_wp2_with (go_at_call 33; refine F.mono ?_; rintro e w3 ⟨rfl, h3⟩; have H3 := Lib.hid h3; clear h3)
      go_meet
      have e : t2 = t1.fail 5 := HC.out.2.2.2.2.2.2
      rw [e]
      exact H3.out
  case rest =>
  obtain ⟨w2, ew2⟩ : ∃ w2, w2 = wc := ⟨_, rfl⟩
  rw [← ew2] at hcut ⊢
  clear ew2 f4 F eQi
  obtain ⟨cv2, A2, c2, k1, k2⟩ := HC.out.1 w1 w2 _ _ t2 HC.out.2.2.2.1 hcut
  clear hcut
  have hn2 := HC.out.2.2.2.1
  have hL2 := HC.out.2.2.2.2.1
  obtain ⟨-, -, -, -, f4, -⟩ := k1.facts
  obtain ⟨i0, hi1, hz0, hz1, hz2⟩ := info_parts infoStrT
  have HI := Lib.hid (And.intro hi1 (And.intro hz0 (And.intro hz1 hz2))); clear hi1 hz0 hz1 hz2
  have hst0 := k1.nam
  rw [hn2] at hst0
  have HO := Lib.hid hst0; clear hst0
  have H2 := Lib.hid (And.intro k1 (And.intro k2 (And.intro hn2 hL2)))
  clear k1 k2 hn2 hL2
  go_wp2_with (at_builtin; refine wpList_append_own_at _ rfl (.tmp 25) (.tmp 27) 85 rfl B 9 i0 (.string ⟨#[]⟩) 1 16 Tryz.underlying85 HI.out.1 HI.out.2.1 HI.out.2.2.1 HI.out.2.2.2 rfl (by decide) _ _ _ rfl (HO.out.alloc _) ⟨w2.heap.size, 0, none⟩ 1 1 (strC [s]) rfl ?c0 ?c1 ?c2 ?c3 ?c4 ?c5 ?_)
  case c0 => rfl
  case c1 => exact cell_one_new _ _ _
  case c2 => exact strC_one _
  case c3 => have := H0.out.2.1; have := H0.out.2.2.2; unfold maxLen; omega
  case c4 => have := H0.out.2.1; have := H0.out.2.2.2; omega
  case c5 => have := H2.out.1.base; have := lt_of_block H2.out.1.blk; simp; omega
  intro v5 w5 hown5 hg5 _ hat5
  have ea : strC t2.names ++ strC [s] = strC (t2.names ++ [s]) := by simp [strC]
  rw [ea] at hown5
  have hown6 : w5.ownsRow B 9 1 v5 (t2.names ++ [s]).length (strC (t2.names ++ [s])) := by simpa [H2.out.2.2.1] using hown5
  obtain ⟨hblk, hm, hfr⟩ := TOk.named H2.out.1 hg5 (by simpa using hat5) hown6
  obtain ⟨g5, cap5, cur5, rfl, -⟩ := own_shape hown6 (by simp)
  have d4 : w5.cell? ⟨tb, 4, none⟩ = some (.slice A2 n c2) := (cell_of_block hblk 4).trans rfl
  have z4 := free_of_block hblk 4
  have hln : (t2.names ++ [s]).length = n + 1 := by simp [H2.out.2.2.1]
  rw [hln] at hm hfr ⊢
  have HR := Lib.hid (And.intro hm (And.intro hfr hln)); clear hm hfr hown5 hown6 hg5 hat5 hblk ea hln
  go_upto_region 6 with fail
  obtain ⟨w6, e6⟩ : ∃ w6, w6 = w5.setCell ⟨tb, 4, none⟩ (.slice (some ⟨g5, 0, none⟩) (n + 1) cap5) := ⟨_, rfl⟩
  rw [← e6]
  have hm := HR.out.1
  have hfr := HR.out.2.1
  rw [← e6] at hm hfr
  clear e6 d4 z4
  obtain ⟨-, p1, -, -, p4, -⟩ := hm.facts
  obtain ⟨-, z1, -, -, z4, -⟩ := hm.free
  obtain ⟨L, eL⟩ : ∃ L, L = t2.L := ⟨_, rfl⟩
  obtain ⟨M, eM⟩ : ∃ M : Nat, M = max L (n + 1) := ⟨_, rfl⟩
  have eMi : (if (L : Int) < ((n + 1 : Nat) : Int) then ((n + 1 : Nat) : Int) else (L : Int)) = (M : Int) := by rw [eM]; split <;> omega
  have p1' : w6.cell? ⟨tb, 1, none⟩ = some (.int .i64 (L : Nat)) := by rw [eL]; exact p1
  clear p1
  have hbnd : (0 : Int) ≤ (M : Int) ∧ (M : Int) ≤ 9223372036854775807 := by have := H0.out.2.1; have := H0.out.2.2.1; have := H0.out.2.2.2; have := H2.out.2.2.2; omega
  have wn : wrap64 (((n + 1 : Nat) : Int) - 1) = (n : Int) := by have := H0.out.2.1; have := H0.out.2.2.2; unfold wrap64; omega
  have H6 := Lib.hid (And.intro hm (And.intro hfr (And.intro eL eM)))
  clear hm hfr eL eM
  obtain ⟨m1, hm1⟩ : ∃ m1 : Nat, m1 = n + 1 := ⟨_, rfl⟩
  rw [← hm1] at p4 eMi wn
  have eMn : (if L < m1 then (m1 : Int) else (L : Int)) = (M : Int) := by rw [← eMi]; by_cases h : L < m1 <;> simp [h] <;> omega
  have HM := Lib.hid (And.intro hm1 wn)
  have wn' : wrap64 ((m1 : Int) - 1) = (m1 : Int) - 1 := by rw [wn]; omega
  clear hm1 wn
  go_region
  all_goals (
    go_wp2_with fail
    go_ret
    refine ⟨congrArg (fun z : Int => Ending.returned (Value.int .i64 z)) (show (m1 : Int) - 1 = (n : Nat) by have := HM.out.1; omega), ?_⟩
    have hp : t2.push s = { code := t2.code, names := t2.names ++ [s], L := M, e := t2.e } := by
      unfold TS.push
      rw [H6.out.2.2.2, H6.out.2.2.1, HC.out.2.2.2.1]
    rw [hp]
    obtain ⟨q1, q2⟩ := H6.out.1.setL M
    have q2 := (H1.out.2.trans H2.out.2.1).trans (H6.out.2.1.trans q2)
    exact ⟨_, _, ⟨q1.blk, q1.code, q1.nam, q1.base⟩, ⟨q2.os, q2.tape, q2.output, q2.size, q2.block, q2.own⟩⟩)
end
end Go.Proofs.YtocbddajakbemaaGreat
set_option linter.unusedSimpArgs false
namespace Go.Proofs.YtocbddajakbemaaGreat
section
open Go.RowKit
theorem insC_put {c : List (Nat × Int)} {i : Nat} {x : Nat × Int} (h : c[i]? = some x) (a : Int) : insC (c.set i (x.1, a)) = (insC c).set (i * 2 + 1) (.int .i64 a) := by
  induction c generalizing i with
  | nil => simp at h
  | cons y c ih =>
    rcases i with _ | i
    · simp at h
      subst h
      rfl
    · have := ih (by simpa using h)
      rw [List.set_cons_succ]
      show [_, _] ++ insC (c.set i _) = ([_, _] ++ insC c).set _ _
      rw [this, List.set_append_right _ _ (by simp; omega)]
      simp [show (i + 1) * 2 + 1 - 2 = i * 2 + 1 by omega]
def Patch (w : World) (tb at_ : Nat) (v : Value) : Prop := ∃ pb qb, v = .func (.func 117) #[] #[.pointer (some ⟨pb, 0, none⟩), .pointer (some ⟨qb, 0, none⟩)] ∧
  w.heap[pb]? = some (.cells #[.pointer (some ⟨tb, 0, none⟩)] 84 (0, 0)) ∧ w.heap[qb]? = some (.cells #[.int .i64 (at_ : Nat)] 3 (0, 0))
theorem Patch.keep {w w' : World} {B tb at_ : Nat} {v cv nv : Value} {t : TS} {G : List Nat} (h : Patch w tb at_ v) (k : TOk w B tb t cv nv) (f : Fr (tF tb cv nv) w G w') : Patch w' tb at_ v := by
  obtain ⟨pb, qb, e, h1, h2⟩ := h
  exact ⟨pb, qb, e, (f.block pb (lt_of_block h1) (k.notIn h1 (by decide) (by decide) (by decide))).trans h1, (f.block qb (lt_of_block h2) (k.notIn h2 (by decide) (by decide) (by decide))).trans h2⟩
set_option maxRecDepth 100000 in
theorem tlater_ok (B tb : Nat) (t : TS) (cv nv : Value) (op : Nat) (w : World) (h : TOk w B tb t cv nv) (hl : t.code.length ≤ 100000) :
    Calls Tryz.prog 92 #[.pointer (some ⟨tb, 0, none⟩), .int .u8 (op : Nat)] w fun r w' => ∃ v, r = .returned v ∧ Patch w' tb t.code.length v ∧ TRes w B tb cv nv { t with code := t.code ++ [(op, 0)] } w' := by
  obtain ⟨A, c, A', c', ecv, env⟩ := h.shape
  obtain ⟨n, en⟩ : ∃ n, n = t.code.length := ⟨_, rfl⟩
  rw [← en] at ecv
  obtain ⟨w1, e1⟩ : ∃ w1, w1 = w.alloc (.cells #[.pointer (some ⟨tb, 0, none⟩)] 84 (0, 0)) := ⟨_, rfl⟩
  obtain ⟨pb, epb⟩ : ∃ pb, pb = w.heap.size := ⟨_, rfl⟩
  have k1 : TOk w1 B tb t cv nv := by rw [e1]; exact h.alloc _
  have b1 : Below w.heap.size w w1 := by rw [e1]; exact (Below.refl _ w).alloc (Nat.le_refl _) _
  have p1 : w1.heap[pb]? = some (.cells #[.pointer (some ⟨tb, 0, none⟩)] 84 (0, 0)) := by rw [e1, epb]; exact heap_alloc_new w _
  obtain ⟨w3, e3⟩ : ∃ w3, w3 = w1.alloc (.cells #[.int .i64 (n : Nat)] 3 (0, 0)) := ⟨_, rfl⟩
  obtain ⟨qb, eqb⟩ : ∃ qb, qb = w1.heap.size := ⟨_, rfl⟩
  have q3 : w3.heap[qb]? = some (.cells #[.int .i64 (n : Nat)] 3 (0, 0)) := by rw [e3, eqb]; exact heap_alloc_new w1 _
  have b3 : Below w1.heap.size w1 w3 := by rw [e3]; exact (Below.refl _ w1).alloc (Nat.le_refl _) _
  have k3 : TOk w3 B tb t cv nv := by rw [e3]; exact k1.alloc _
  have F := tput_ok B tb t cv nv op 0 w3 k3 (by omega)
  have c1 : w1.cell? ⟨pb, 0, none⟩ = some (.pointer (some ⟨tb, 0, none⟩)) := (cell_of_block p1 0).trans rfl
  obtain ⟨f0, -⟩ := k1.facts
  rw [ecv] at f0
  have p3 : w3.heap[pb]? = some (.cells #[.pointer (some ⟨tb, 0, none⟩)] 84 (0, 0)) := (b3.block _ (lt_of_block p1)).trans p1
  have c3 : w3.cell? ⟨pb, 0, none⟩ = some (.pointer (some ⟨tb, 0, none⟩)) := (cell_of_block p3 0).trans rfl
  have hmf : ∀ (fn : Fn) (first cap : Array Value) (w : World), (Instr.makeFunc fn first cap).run Tryz.prog w = .ok (.func fn first cap) w := fun _ _ _ _ => rfl
  have H := Lib.hid (And.intro h (And.intro k3 (And.intro (b1.trans (b3.mono b1.size)) (And.intro p3 (And.intro q3 en)))))
  have EQ := Lib.hid (And.intro e3 eqb)
  clear h k1 b1 b3 p1 p3 q3 k3 en ecv env hl e3 eqb
  go_enter Tryz.func92, Tryz.ntmps92
  go_upto_region 1 with fail
  rw [← e1, ← epb]
  clear e1 epb
  go_upto_region 2 with fail
  rw [← EQ.out.1, ← EQ.out.2]
  clear c1 f0
  go_wp2_with (go_at_call 89; refine F.mono ?_; rintro e w4 ⟨rfl, h4⟩; have H4 := Lib.hid h4; clear h4)
  go_ret
  obtain ⟨h, k3, b, p3, q3, en⟩ := H.out
  obtain ⟨cv', nv', k4, f4⟩ := H4.out
  refine ⟨_, rfl, ?_, cv', nv', k4, (Fr.of_below b _).trans f4⟩
  exact Patch.keep ⟨pb, qb, rfl, p3, by rw [← en]; exact q3⟩ k3 f4
theorem TOk.patched {w : World} {B tb g n cap at_ : Nat} {t : TS} {nv : Value} {x : Nat × Int} {a : Int} (h : TOk w B tb t (.slice (some ⟨g, 0, none⟩) n cap) nv) (hn : n = t.code.length) (hx : t.code[at_]? = some x) :
    TOk (w.setCell ⟨g, at_ * 2 + 1, none⟩ (.int .i64 a)) B tb { t with code := t.code.set at_ (x.1, a) } (.slice (some ⟨g, 0, none⟩) n cap) nv ∧ Fr (tF tb (.slice (some ⟨g, 0, none⟩) n cap) nv) w (tF tb (.slice (some ⟨g, 0, none⟩) n cap) nv) (w.setCell ⟨g, at_ * 2 + 1, none⟩ (.int .i64 a)) := by
  have ho : Only g w (w.setCell ⟨g, at_ * 2 + 1, none⟩ (.int .i64 a)) := (Only.refl g w).setCell (p := ⟨g, at_ * 2 + 1, none⟩) rfl _
  have hO := h.code
  rw [← hn] at hO
  have hc := (World.ownsRow.stored hO (at_ * 2 + 1) (.int .i64 a)).1
  rw [← insC_put hx] at hc
  have hg : tb ≠ g := by
    have := own_neq h.code h.blk (by decide)
    intro e
    exact this (by simp [Value.ownBlock, e])
  have hgn : nv.ownBlock ≠ some g := by
    intro e
    exact own_own_ne h.nam h.code (by decide) e (by simp [Value.ownBlock])
  refine ⟨⟨(ho.block tb hg).trans h.blk, by simpa [← hn] using hc, own_only h.nam ho hgn, h.base⟩, ?_⟩
  have := (Fr.of_only ho).more (tb :: nv.ownBlock.toList)
  refine ⟨this.os, this.tape, this.output, this.size, fun q hq hn => this.block q hq (fun e => hn ?_), fun q hq => Or.inl hq⟩
  rcases List.mem_append.1 e with e | e
  · have : q = g := by simpa using e
    subst this
    simp [tF, Value.ownBlock]
  · rcases List.mem_cons.1 e with e | e
    · simp [tF, e]
    · exact List.mem_cons_of_mem _ (List.mem_append_right _ e)
set_option maxRecDepth 100000 in
set_option maxHeartbeats 2000000 in
theorem tpatch_ok (B tb at_ pb qb : Nat) (t : TS) (cv nv : Value) (x : Nat × Int) (w : World) (h : TOk w B tb t cv nv) (hx : t.code[at_]? = some x) (hl : t.code.length ≤ 1000000)
    (hp : w.heap[pb]? = some (.cells #[.pointer (some ⟨tb, 0, none⟩)] 84 (0, 0))) (hq : w.heap[qb]? = some (.cells #[.int .i64 (at_ : Nat)] 3 (0, 0))) :
    Calls Tryz.prog 117 #[.pointer (some ⟨pb, 0, none⟩), .pointer (some ⟨qb, 0, none⟩)] w fun r w' => r = .returned (.tuple #[]) ∧ TRes w B tb cv nv { t with code := t.code.set at_ (x.1, ((t.code.length : Nat) : Int)) } w' := by
  have hat := (List.getElem?_eq_some_iff.1 hx).1
  obtain ⟨g, cap, cur, rfl, hBg, hgk, hnc, hcm, hsz, -⟩ := own_shape h.code (by omega)
  obtain ⟨f0, -⟩ := h.facts
  obtain ⟨n, en⟩ : ∃ n, n = t.code.length := ⟨_, rfl⟩
  rw [← en] at f0 hnc ⊢
  obtain ⟨r1, r2⟩ := insC_at hx
  have hil := insC_length t.code
  have hcell : w.cell? ⟨g, at_ * 2 + 1, none⟩ = some (.int .i64 x.2) := by
    rw [h.code.cellAt (at_ * 2 + 1) (by omega)]; exact r2
  have hz := free_of_block hgk (at_ * 2 + 1)
  have c1 : w.cell? ⟨pb, 0, none⟩ = some (.pointer (some ⟨tb, 0, none⟩)) := (cell_of_block hp 0).trans rfl
  have c2 : w.cell? ⟨qb, 0, none⟩ = some (.int .i64 (at_ : Nat)) := (cell_of_block hq 0).trans rfl
  have i0 : (0 : Int) ≤ (at_ : Int) := by omega
  have i1 : (at_ : Int) < (n : Int) := by omega
  have hk := h.patched rfl hx (a := ((t.code.length : Nat) : Int))
  rw [← en] at hk
  have H := Lib.hid (And.intro hk (And.intro en hl))
  clear hk h hp hq hx hat hBg hgk hnc hcm hsz r1 r2 hil en hl
  go_enter Tryz.func117, Tryz.ntmps117
  go_region
  all_goals (
    go_wp2_with fail
    go_end0
    obtain ⟨q1, q2⟩ := H.out.1
    exact ⟨rfl, _, _, ⟨q1.blk, q1.code, q1.nam, q1.base⟩, ⟨q2.os, q2.tape, q2.output, q2.size, q2.block, q2.own⟩⟩)
end
end Go.Proofs.YtocbddajakbemaaGreat
