/- slices.Clone of bytes; Writer.Bytes; NewReader; SameBytes. -/
import Derived.Test.YtpnlcnilhlcfpaaBRead4
set_option linter.unusedVariables false
namespace Go.Proofs.Ytpnlcnilhlcfpaa
open Go.RowKit
open M (bitsOf bitsOf_length codeBits codeBits_length zig zag numOf zeros codeA)

theorem BRow.keepd {w w' : World} {A : Option Addr} {n : Nat} {f : Nat → Nat} (h : BRow w A n f) (hb : Below w.heap.size w w') : BRow w' A n f := by
  intro i hi
  obtain ⟨ad, e, hc⟩ := h i hi
  exact ⟨ad, e, (hb.cell (World.block_lt_of_cell? w _ hc)).trans hc⟩
theorem BRow.drewN {w : World} {A : Option Addr} {n : Nat} {f : Nat → Nat} (h : BRow w A n f) (m : Nat) : BRow (w.drewN m) A n f := h

/-- What a call leaves that makes a row of bytes: it lies in new memory. -/
def NewRow (w w' : World) (v : Value) (n : Nat) (f : Nat → Nat) : Prop :=
  (∃ F A cap, v = .slice A n cap ∧ Row w' F A n f ∧ (∀ q, q ∈ F → w.heap.size ≤ q ∧ q < w'.heap.size) ∧ (A = none → n = 0 ∧ cap = 0)) ∧ Below w.heap.size w w'
theorem row_of_own {w : World} {B n : Nat} {v : Value} {f : Nat → Nat} (h : w.ownsRow B 5 1 v n ((List.range n).map fun i => Value.int .u8 ((f i : Nat) : Int))) :
    ∃ F A cap, v = .slice A n cap ∧ Row w F A n f ∧ (∀ q, q ∈ F → B ≤ q ∧ q < w.heap.size) ∧ (A = none → n = 0 ∧ cap = 0) := by
  rcases h.2 with ⟨rfl, rfl⟩ | ⟨g, cap, cur, rfl, hB, hh, _, _, _, htk⟩
  · exact ⟨[], none, 0, rfl, Or.inl rfl, fun q hq => absurd hq (by simp), fun _ => ⟨rfl, rfl⟩⟩
  · refine ⟨[g], some ⟨g, 0, none⟩, cap, rfl, Or.inr ⟨g, cur, rfl, by simp, hh, ?_⟩, fun q hq => ?_, fun e => by cases e⟩
    · intro i hi
      have e := congrArg (fun q : List Value => q[i]?) htk
      simp only [Nat.mul_one, List.getElem?_take, hi, if_true, Array.getElem?_toList, List.getElem?_map, List.getElem?_range hi, Option.map_some] at e
      exact e
    · rw [List.mem_singleton] at hq; subst hq; exact ⟨hB, lt_of_block hh⟩

theorem Clone_nil (n cap : Nat) (w : World) :
    Calls Try.prog 16 #[.slice none 0 0] w fun e w' => e = .returned (.slice none 0 0) ∧ w = w' := by
  have q : ∀ (w : World) (a : Option Addr) (n c n' c' : Nat), (binOp .eql 22 (.slice a n c) (.slice none n' c')).run Try.prog w = .ok (.bool a.isNone) w := fun w a n c n' c' => Lib.run_eql_slice_nil w _ _ a n c n' c' Try.underlying22
  go_enter Try.func16, Try.ntmps16
  go_wp2_with fail
  go_ret
  exact ⟨rfl, rfl⟩

theorem Clone_some (ad : Addr) (n cap : Nat) (f : Nat → Nat) (w : World) (h : BRow w (some ad) n f) (hn : n ≤ 1000000) :
    Calls Try.prog 16 #[.slice (some ad) n cap] w fun e w' => ∃ v, e = .returned v ∧ NewRow w w' v n f := by
  obtain ⟨i0, hi, hz0, hz1, hz2⟩ := info_parts info5
  have HI := Lib.hid (And.intro hi (And.intro hz0 (And.intro hz1 hz2))); clear hi hz0 hz1 hz2
  have hnews : ∀ o, ∀ j u, ((List.range n).map fun i => Value.int .u8 ((f i : Nat) : Int))[j]? = some u → (w.alloc o).cell? (ad.add j) = some u := by
    intro o j u hu
    rw [List.getElem?_map] at hu
    rcases Nat.lt_or_ge j n with hj | hj
    · rw [List.getElem?_range hj, Option.map_some] at hu
      obtain ⟨ad', e, hc⟩ := h j hj
      injection e with e
      subst e
      rw [World.cell?_alloc_lt w o _ (World.block_lt_of_cell? w _ hc), hc, hu]
    · rw [List.getElem?_eq_none (by simp; omega)] at hu; simp at hu
  have H := Lib.hid hnews; clear hnews h
  have q : ∀ (w : World) (a : Option Addr) (n c n' c' : Nat), (binOp .eql 22 (.slice a n c) (.slice none n' c')).run Try.prog w = .ok (.bool a.isNone) w := fun w a n c n' c' => Lib.run_eql_slice_nil w _ _ a n c n' c' Try.underlying22
  go_enter Try.func16, Try.ntmps16
  go_wp2_with (at_builtin; refine wpList_append_own_at _ rfl _ _ 22 rfl w.heap.size 5 i0 (.int .u8 0) 1 1 Try.underlying22 HI.out.1 HI.out.2.1 HI.out.2.2.1 HI.out.2.2.2 rfl (by decide) (.slice (some ⟨w.heap.size, 0, none⟩) 0 0) 0 [] rfl ?c0 ad n cap ((List.range n).map fun i => Value.int .u8 ((f i : Nat) : Int)) rfl ?c1 ?c2 ?c3 ?c4 ?c5 ?c6 ?_)
  case c0 => exact ⟨rfl, Or.inr ⟨_, 0, _, rfl, Nat.le_refl _, heap_alloc_new w _, Nat.le_refl _, by unfold maxLen; omega, rfl, rfl⟩⟩
  case c1 => simp
  case c2 => exact H.out _
  case c3 => intro u hu; rw [List.mem_map] at hu; obtain ⟨i, _, rfl⟩ := hu; rfl
  case c4 => unfold maxLen; omega
  case c5 => omega
  case c6 => simp
  intro v' w1 hown hg _ hat
  have HN := Lib.hid (And.intro hown (And.intro hg hat)); clear hown hg hat
  go_wp2_with fail
  go_ret
  refine ⟨_, rfl, ?_, ?_⟩
  · exact row_of_own HN.out.1
  · exact ((Below.refl _ _).alloc (Nat.le_refl _) _).grown HN.out.2.1 (by simp) (by intro q hq; simp [Value.ownBlock] at hq; omega)

theorem Clone_ok (A : Option Addr) (n cap : Nat) (f : Nat → Nat) (w : World) (h : BRow w A n f) (hn : n ≤ 1000000) (hnil : A = none → n = 0 ∧ cap = 0) :
    Calls Try.prog 16 #[.slice A n cap] w fun e w' => ∃ v, e = .returned v ∧ NewRow w w' v n f := by
  rcases A with _ | ad
  · obtain ⟨rfl, rfl⟩ := hnil rfl
    refine (Clone_nil 0 0 w).mono ?_
    rintro e w' ⟨rfl, rfl⟩
    exact ⟨_, rfl, ⟨[], none, 0, rfl, Or.inl rfl, fun q hq => absurd hq (by simp), fun _ => ⟨rfl, rfl⟩⟩, Below.refl _ _⟩
  · exact Clone_some ad n cap f w h hn

theorem WOk.row {w : World} {B bw : Nat} {F : List Nat} {l : List Bool} (h : WOk w B bw F l) : ∃ A cap, w.cell? ⟨bw, 0, none⟩ = some (.slice A (nbytes l) cap) ∧ BRow w A (nbytes l) (M.byteOf l) ∧ (A = none → nbytes l = 0 ∧ cap = 0) := by
  obtain ⟨v, ⟨hb, ho⟩, rfl, hB⟩ := h
  have hc := (cell_of_block hb 0).trans rfl
  rcases ho.2 with ⟨rfl, h0⟩ | ⟨g, cap, cur, rfl, hB, hh, _, _, _, htk⟩
  · exact ⟨none, 0, by rw [h0]; exact hc, fun i hi => by omega, fun _ => ⟨h0, rfl⟩⟩
  · refine ⟨some ⟨g, 0, none⟩, cap, hc, fun i hi => ⟨_, rfl, ?_⟩, fun e => by cases e⟩
    rw [add_zero', cell_of_block hh i]
    have e := congrArg (fun q : List Value => q[i]?) htk
    simp only [Nat.mul_one, List.getElem?_take, hi, if_true, Array.getElem?_toList, bytesV, List.getElem?_map, List.getElem?_range hi, Option.map_some] at e
    exact e

theorem Bytes_ok (B bw : Nat) (F : List Nat) (l : List Bool) (w : World) (h : WOk w B bw F l) (hl : l.length ≤ 2000000) :
    Calls Try.prog 29 #[.pointer (some ⟨bw, 0, none⟩)] w fun e w' => ∃ v, e = .returned v ∧ NewRow w w' v (nbytes l) (M.byteOf l) := by
  obtain ⟨A, cap, hc, hr, hnil⟩ := h.row
  have hcl := Clone_ok A (nbytes l) cap _ w hr (by unfold nbytes; omega) hnil
  have H := Lib.hid hcl
  clear h hr hnil hcl
  go_enter Try.func29, Try.ntmps29
  go_wp2_with fail
  refine H.out.mono ?_
  rintro e w' ⟨v, rfl, hq⟩
  have HQ := Lib.hid hq; clear hq
  go_wp2_with fail
  go_ret
  exact ⟨v, rfl, HQ.out⟩

theorem NewReader_ok (A : Option Addr) (n cap : Nat) (bl : List Bool) (w : World) (h : BRow w A n (M.byteOf bl)) (hl : bl.length = 8 * n) (hn : n ≤ 1000000) (hnil : A = none → n = 0 ∧ cap = 0) :
    Calls Try.prog 5 #[.slice A n cap] w fun e w' => ∃ br F, e = .returned (.pointer (some ⟨br, 0, none⟩)) ∧ ROk w' br F bl 0 ∧ (∀ q, q ∈ br :: F → w.heap.size ≤ q) ∧ Below w.heap.size w w' := by
  have hcl := Clone_ok A n cap _ w h hn hnil
  have H := Lib.hid hcl
  clear h hnil hcl
  go_enter Try.func5, Try.ntmps5
  go_wp2_with fail
  refine H.out.mono ?_
  rintro e w1 ⟨v, rfl, ⟨F, A', cap', rfl, hr, hF, _⟩, hb⟩
  have HQ := Lib.hid (And.intro hr (And.intro hF hb)); clear hr hF hb
  go_wp2_with fail
  go_ret
  obtain ⟨hr, hF, hb⟩ := HQ.out
  refine ⟨w1.heap.size, F, rfl, ⟨bl, 0, ⟨A', n, cap', heap_alloc_new w1 _, hl, by omega, hn, ?_, ?_, ?_⟩, by simp⟩, ?_, ?_⟩
  · intro e; have := (hF _ e).2; omega
  · intro q hq; have := (hF q hq).2; simp; omega
  · exact hr.same fun q hq => Below.heap_alloc _ _ _ (hF q hq).2
  · intro q hq
    rcases List.mem_cons.1 hq with rfl | h1
    · exact hb.size
    · exact (hF q h1).1
  · exact hb.alloc hb.size _

theorem SameBytes_ok (A C : Option Addr) (n ca cc : Nat) (f g : Nat → Nat) (w : World) (hA : BRow w A n f) (hC : BRow w C n g) (hfg : ∀ i, i < n → f i = g i) (hn : n ≤ 1000000) :
    Calls Try.prog 28 #[.slice A n ca, .slice C n cc] w fun e w' => e = .returned (.bool true) ∧ ∃ m, w' = w.drewN m := by
  have H := Lib.hid (And.intro hA (And.intro hC hfg)); clear hA hC hfg
  go_enter Try.func28, Try.ntmps28
  go_wp2_with fail
  go_loopg [5] n (fun gh i wr => ∃ j m : Nat, gh = n - j ∧ j ≤ n ∧ i = .int .i64 j ∧ wr = w.drewN m)
  case atStart => exact ⟨0, 0, rfl, by omega, rfl, rfl⟩
  case round =>
    obtain ⟨j, m, hgh, hj, rfl, rfl⟩ := hrel
    have Hgh := Lib.hid hgh; clear hgh
    by_cases hlt : j < n
    · obtain ⟨ad, rfl, hc⟩ := H.out.1 j hlt
      obtain ⟨ae, rfl, hd⟩ := H.out.2.1 j hlt
      rw [← H.out.2.2 j hlt] at hd
      generalize f j = x at hc hd
      have i0 : (0 : Int) ≤ (j : Int) := by omega
      have i1 : (j : Int) < (n : Int) := by omega
      go_wp2_with fail
      go_quiet (fail)
      go_wp2
      go_roundg (n - (j + 1))
      case measure => have := Hgh.out; omega
      case rel => exact ⟨j + 1, _, rfl, by omega, by go_num, rfl⟩
    · go_wp2_with fail
      go_ret
      exact ⟨rfl, _, rfl⟩
end Go.Proofs.Ytpnlcnilhlcfpaa
