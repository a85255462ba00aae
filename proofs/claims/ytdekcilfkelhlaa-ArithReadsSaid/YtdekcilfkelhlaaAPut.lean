/- Writer.put: bits are appended. -/
import Derived.Test.YtdekcilfkelhlaaChecked
import Derived.WalkKit
import Derived.WalkSpells
import Derived.WalkLawsBesides
import Derived.Lib.Hide
import Derived.Deep.QuietTactic
import Derived.BigQuiet
import Derived.Deep.LoopGhost
import Derived.Test.YtdekcilfkelhlaaBv
import Derived.Test.YtdekcilfkelhlaaAid
import Derived.Test.YtdekcilfkelhlaaBBits
import Derived.Test.YtdekcilfkelhlaaBLaw
import Derived.Maps.AppendAt
import Derived.BigRegion
import Derived.Deep.RegionHeld3
import Derived.Deep.DeepCutAuto
import Derived.OwnWalk
set_option linter.unusedVariables false
namespace Go.Proofs.Ytdekcilfkelhlaa
open Go.RowKit

/-- The bytes of a list of bits, as cells. -/
def bytesV (l : List Bool) (n : Nat) : List Value := (List.range n).map fun i => Value.int .u8 ((M.byteOf l i : Nat) : Int)
def nbytes (l : List Bool) : Nat := (l.length + 7) / 8

/-- Two rows of cells that differ at places o and o + 1 at most. -/
structure SameBut (o : Nat) (cs ds : Array Value) : Prop where
  size : ds.size = cs.size
  at_ : ∀ i, i ≠ o → i ≠ o + 1 → ds[i]? = cs[i]?
theorem SameBut.refl (o : Nat) (cs : Array Value) : SameBut o cs cs := ⟨rfl, fun _ _ _ => rfl⟩
theorem SameBut.trans {o : Nat} {a b c : Array Value} (h : SameBut o a b) (k : SameBut o b c) : SameBut o a c := ⟨k.size.trans h.size, fun i h1 h2 => (k.at_ i h1 h2).trans (h.at_ i h1 h2)⟩
theorem SameBut.set0 {o : Nat} {a b : Array Value} (h : SameBut o a b) (u : Value) : SameBut o a (b.setIfInBounds o u) := ⟨by simp [h.size], fun i h1 h2 => by rw [Array.getElem?_setIfInBounds, if_neg (fun e => h1 e.symm)]; exact h.at_ i h1 h2⟩
theorem SameBut.set1 {o : Nat} {a b : Array Value} (h : SameBut o a b) (u : Value) : SameBut o a (b.setIfInBounds (o + 1) u) := ⟨by simp [h.size], fun i h1 h2 => by rw [Array.getElem?_setIfInBounds, if_neg (fun e => h2 e.symm)]; exact h.at_ i h1 h2⟩

/-- A Writer lies at place o of block bw, whose cells are cs, of type T, and holds the bits l; its bytes are an owned row. -/
structure WIn (w : World) (B bw o : Nat) (T : TypeId) (cs : Array Value) (v : Value) (l : List Bool) : Prop where
  blk : w.heap[bw]? = some (.cells cs T (0, 0))
  c0 : cs[o]? = some v
  c1 : cs[o + 1]? = some (.int .i64 (l.length : Nat))
  own : w.ownsRow B 5 1 v (nbytes l) (bytesV l (nbytes l))
  ty : T ≠ 5

theorem info5 : (Try.prog.info? 5).map (fun i => (i.zero, i.size, i.bytes)) = some (some (.int .u8 0), 1, 1) := by kernel_rfl

/-- Where a byte begins: the row with a byte 0 put behind. -/
theorem bytesV_grow (l : List Bool) (n : Nat) (h : l.length ≤ 8 * n) : bytesV l n ++ [.int .u8 0] = bytesV l (n + 1) := by
  unfold bytesV
  rw [List.range_succ, List.map_append]
  simp [M.byteOf_new l n h]
/-- A bit is put into its byte. -/
theorem bytesV_set (l : List Bool) (b : Bool) (n : Nat) (h : l.length / 8 < n) : (bytesV l n).set (l.length / 8) (.int .u8 ((M.byteOf (l ++ [b]) (l.length / 8) : Nat) : Int)) = bytesV (l ++ [b]) n := by
  apply List.ext_getElem?
  intro i
  unfold bytesV
  rw [List.getElem?_set]
  simp only [List.length_map, List.length_range, List.getElem?_map]
  by_cases h1 : l.length / 8 = i
  · subst h1; simp [h]
  · rw [if_neg h1]
    by_cases h2 : i < n
    · simp [h2, M.byteOf_other l b i (fun e => h1 e.symm)]
    · simp [h2]

open M (bitsUpto bitsUpto_succ bitsUpto_length bitsOf bitsOf_length)

/-- What a call of put on the Writer at bw leaves of the rest. -/
structure PutFr (w : World) (bw : Nat) (v : Value) (w' : World) (v' : Value) : Prop where
  os : w'.os = w.os
  tape : w'.tape = w.tape
  output : w'.output = w.output
  size : w.heap.size ≤ w'.heap.size
  block : ∀ q, q < w.heap.size → q ≠ bw → v.ownBlock ≠ some q → w'.heap[q]? = w.heap[q]?
  own : v'.ownBlock = v.ownBlock ∨ ∃ q, v'.ownBlock = some q ∧ w.heap.size ≤ q
theorem PutFr.refl (w : World) (bw : Nat) (v : Value) : PutFr w bw v w v := ⟨rfl, rfl, rfl, Nat.le_refl _, fun _ _ _ _ => rfl, Or.inl rfl⟩
theorem PutFr.trans {a b c : World} {bw : Nat} {v1 v2 v3 : Value} (h : PutFr a bw v1 b v2) (k : PutFr b bw v2 c v3) : PutFr a bw v1 c v3 := by
  refine ⟨k.os.trans h.os, k.tape.trans h.tape, k.output.trans h.output, Nat.le_trans h.size k.size, ?_, ?_⟩
  · intro q hq hb hv
    refine (k.block q (Nat.lt_of_lt_of_le hq h.size) hb ?_).trans (h.block q hq hb hv)
    intro e
    rcases h.own with h1 | ⟨g, h1, h2⟩
    · exact hv (by rw [← h1, e])
    · rw [h1] at e; injection e with e; omega
  · rcases k.own with k1 | ⟨g, k1, k2⟩
    · rw [k1]; exact h.own
    · exact Or.inr ⟨g, k1, Nat.le_trans h.size k2⟩

theorem own_neT {w : World} {B n g : Nat} {T : TypeId} {v : Value} {xs : List Value} {cs : Array Value} (h : w.ownsRow B 5 1 v n xs) (hg : w.heap[g]? = some (.cells cs T (0, 0))) (hT : T ≠ 5) : v.ownBlock ≠ some g := by
  rcases h.2 with ⟨rfl, _⟩ | ⟨g', cap, cur, rfl, _, hh, _⟩
  · simp [Value.ownBlock]
  · intro he
    have : g' = g := by simpa [Value.ownBlock] using he
    subst this
    rw [hg] at hh
    injection hh with hh
    injection hh with _ q
    exact hT q

theorem set_get {cs : Array Value} {i : Nat} {u x : Value} (h : cs[i]? = some x) : (cs.setIfInBounds i u)[i]? = some u := by
  have hlt : i < cs.size := by
    rcases Nat.lt_or_ge i cs.size with h1 | h1
    · exact h1
    · rw [Array.getElem?_eq_none h1] at h; cases h
  rw [Array.getElem?_setIfInBounds, if_pos rfl, if_pos hlt]
theorem set_far {cs : Array Value} {i j : Nat} {u : Value} (h : i ≠ j) : (cs.setIfInBounds i u)[j]? = cs[j]? := by rw [Array.getElem?_setIfInBounds, if_neg h]

/-- The state at region 5: the row has the byte that the next bit belongs to. -/
theorem bit_step {w : World} {B bw o g cap nb : Nat} {T : TypeId} {cs : Array Value} {l : List Bool} {b : Bool} (hb : w.heap[bw]? = some (.cells cs T (0, 0))) (h0 : cs[o]? = some (.slice (some ⟨g, 0, none⟩) nb cap)) (h1 : cs[o + 1]? = some (.int .i64 (l.length : Nat))) (hT : T ≠ 5)
    (ho : w.ownsRow B 5 1 (.slice (some ⟨g, 0, none⟩) nb cap) nb (bytesV l nb)) (hn : l.length / 8 < nb) (hn2 : nb = nbytes (l ++ [b])) :
    WIn (((w.setCell ⟨g, l.length / 8, none⟩ (.int .u8 ((M.byteOf (l ++ [b]) (l.length / 8) : Nat) : Int))).drew).setCell ⟨bw, o + 1, none⟩ (.int .i64 ((l.length : Nat) + 1))) B bw o T (cs.setIfInBounds (o + 1) (.int .i64 ((l.length : Nat) + 1))) (.slice (some ⟨g, 0, none⟩) nb cap) (l ++ [b]) ∧
    PutFr w bw (.slice (some ⟨g, 0, none⟩) nb cap) (((w.setCell ⟨g, l.length / 8, none⟩ (.int .u8 ((M.byteOf (l ++ [b]) (l.length / 8) : Nat) : Int))).drew).setCell ⟨bw, o + 1, none⟩ (.int .i64 ((l.length : Nat) + 1))) (.slice (some ⟨g, 0, none⟩) nb cap) := by
  have hne : g ≠ bw := by
    have := own_neT ho hb hT
    simpa [Value.ownBlock] using this
  refine ⟨⟨?_, ?_, ?_, ?_, hT⟩, rfl, rfl, rfl, by simp [World.setCell], ?_, Or.inl rfl⟩
  · have h1 : ((w.setCell ⟨g, l.length / 8, none⟩ (.int .u8 ((M.byteOf (l ++ [b]) (l.length / 8) : Nat) : Int))).drew).heap[bw]? = some (.cells cs T (0, 0)) :=
      (Below.heap_setCell _ _ _ _ (fun e => hne e.symm)).trans hb
    exact block_setCell h1 (o + 1) (.int .i64 ((l.length : Nat) + 1))
  · rw [set_far (by omega)]; exact h0
  · rw [set_get h1, List.length_append]; rfl
  · rw [← hn2]
    have h1 := (ho.stored (l.length / 8) (.int .u8 ((M.byteOf (l ++ [b]) (l.length / 8) : Nat) : Int))).1
    rw [bytesV_set l b nb hn] at h1
    exact ownsRow_setCell_other (w := (w.setCell ⟨g, l.length / 8, none⟩ (.int .u8 ((M.byteOf (l ++ [b]) (l.length / 8) : Nat) : Int))).drew) h1 (a := ⟨bw, o + 1, none⟩) (by simpa [Value.ownBlock] using hne) _
  · intro q hq hb hv
    refine (Below.heap_setCell _ _ _ _ hb).trans ?_
    exact Below.heap_setCell _ _ _ _ (fun e => hv (by simp [Value.ownBlock, e]))

theorem owned_byte {w : World} {B g cap nb : Nat} {l : List Bool} (h : w.ownsRow B 5 1 (.slice (some ⟨g, 0, none⟩) nb cap) nb (bytesV l nb)) {i : Nat} (hi : i < nb) :
    w.cell? ⟨g, i, none⟩ = some (.int .u8 ((M.byteOf l i : Nat) : Int)) ∧ w.frozen? ⟨g, i, none⟩ = false := by
  rcases h.2 with ⟨h0, _⟩ | ⟨g', cap', cur, e, _, hh, _, _, _, htk⟩
  · cases h0
  · injection e with e1 e2 e3
    injection e1 with e1
    injection e1 with e1
    subst e1
    refine ⟨?_, free_of_block hh i⟩
    have e := congrArg (fun q : List Value => q[i]?) htk
    simp only [Nat.mul_one, List.getElem?_take, hi, if_true, Array.getElem?_toList, bytesV, List.getElem?_map, List.getElem?_range hi, Option.map_some] at e
    rw [cell_of_block hh i, e]
theorem owned_shape {w : World} {B n : Nat} {v : Value} {xs : List Value} (h : w.ownsRow B 5 1 v n xs) (hn : 0 < n) : ∃ g cap, v = .slice (some ⟨g, 0, none⟩) n cap := by
  rcases h.2 with ⟨_, h0⟩ | ⟨g, cap, _, hv, _⟩
  · omega
  · exact ⟨g, cap, hv⟩

theorem bit_val (l : List Bool) (n m : Nat) (hn : n < 18446744073709551616) :
    bits .or .u8 ((M.byteOf l (l.length / 8) : Nat) : Int) (bits .and .u64 (((n / 2 ^ m : Nat)) : Int) 1 % 256 * 2 ^ (7 - l.length % 8) % 256) = ((M.byteOf (l ++ [n.testBit m]) (l.length / 8) : Nat) : Int) := by
  have h1 : bits .and .u64 (((n / 2 ^ m : Nat)) : Int) 1 = (((n.testBit m).toNat : Nat) : Int) := by
    have := u64_and_nat (n / 2 ^ m) 1 (Nat.lt_of_le_of_lt (Nat.div_le_self _ _) hn) (by omega)
    rw [Nat.and_one_is_mod] at this
    rw [Nat.toNat_testBit]
    exact this
  have hp : 2 ^ (7 - l.length % 8) ≤ 128 := Nat.pow_le_pow_right (n := 2) (by decide) (show 7 - l.length % 8 ≤ 7 by omega)
  have hb := Bool.toNat_lt (n.testBit m)
  have h2 : (((n.testBit m).toNat : Nat) : Int) % 256 * 2 ^ (7 - l.length % 8) % 256 = (((n.testBit m).toNat * 2 ^ (7 - l.length % 8) : Nat) : Int) := by
    rw [show ((2 : Int) ^ (7 - l.length % 8)) = ((2 ^ (7 - l.length % 8) : Nat) : Int) from (Int.natCast_pow 2 _).symm]
    generalize 2 ^ (7 - l.length % 8) = P at hp
    cases n.testBit m
    · simp
    · simp; omega
  rw [h1, h2, u8_or_nat _ _ (M.byteOf_lt _ _) (by
    generalize 2 ^ (7 - l.length % 8) = P at hp
    cases n.testBit m
    · simp
    · simp; omega), M.byteOf_snoc]

/-- Before a bit is put: its byte is there. -/
def Ready (w : World) (B bw o : Nat) (T : TypeId) (cs : Array Value) (v : Value) (m : List Bool) (b : Bool) (wx : World) : Prop :=
  ∃ g cap ds, wx.heap[bw]? = some (.cells ds T (0, 0)) ∧ SameBut o cs ds ∧ ds[o]? = some (.slice (some ⟨g, 0, none⟩) (nbytes (m ++ [b])) cap) ∧ ds[o + 1]? = some (.int .i64 (m.length : Nat)) ∧
    wx.ownsRow B 5 1 (.slice (some ⟨g, 0, none⟩) (nbytes (m ++ [b])) cap) (nbytes (m ++ [b])) (bytesV m (nbytes (m ++ [b]))) ∧ PutFr w bw v wx (.slice (some ⟨g, 0, none⟩) (nbytes (m ++ [b])) cap)

theorem nb_same {m : List Bool} (b : Bool) (h : m.length % 8 ≠ 0) : nbytes (m ++ [b]) = nbytes m := by
  unfold nbytes; rw [List.length_append]; simp only [List.length_cons, List.length_nil]; omega
theorem nb_next {m : List Bool} (b : Bool) (h : m.length % 8 = 0) : nbytes (m ++ [b]) = nbytes m + 1 := by
  unfold nbytes; rw [List.length_append]; simp only [List.length_cons, List.length_nil]; omega
theorem nb_lt (m : List Bool) (b : Bool) : m.length / 8 < nbytes (m ++ [b]) := by
  unfold nbytes; rw [List.length_append]; simp only [List.length_cons, List.length_nil]; omega

/-- What an append of a byte 0 leaves. -/
theorem ready_grown {w w1 : World} {B bw o : Nat} {T : TypeId} {cs : Array Value} {v v' : Value} {m : List Bool} {b : Bool} {ob : Obj} (h : WIn w B bw o T cs v m)
    (h8 : m.length % 8 = 0) (hown : w1.ownsRow B 5 1 v' (nbytes m + 1) (bytesV m (nbytes m) ++ [.int .u8 0])) (hg : (w.alloc ob).grownBy w1 v.ownBlock) (hat : v'.ownBlock = v.ownBlock ∨ v'.ownBlock = some (w.heap.size + 1)) :
    Ready w B bw o T cs v m b (w1.setCell ⟨bw, o, none⟩ v') := by
  have hb := h.blk
  have ho := h.own
  have hne := own_neT ho hb h.ty
  have hlt := lt_of_block hb
  have h1 : w1.heap[bw]? = some (.cells cs T (0, 0)) :=
    (hg.block bw (by simp; omega) (fun e => hne e.symm)).trans ((Below.heap_alloc w ob bw hlt).trans hb)
  have hv' : v'.ownBlock ≠ some bw := own_neT hown h1 h.ty
  rw [bytesV_grow m _ (by unfold nbytes; omega), ← nb_next b h8] at hown
  obtain ⟨g, cap, rfl⟩ := owned_shape hown (by rw [nb_next b h8]; omega)
  refine ⟨g, cap, _, block_setCell h1 o _, (SameBut.refl o cs).set0 _, set_get h.c0, by rw [set_far (by omega)]; exact h.c1, ?_, ?_⟩
  · exact ownsRow_setCell_other hown (a := ⟨bw, o, none⟩) hv' _
  · refine ⟨hg.os, hg.tape, hg.output, ?_, ?_, ?_⟩
    · have := hg.size; simp [World.setCell] at this ⊢; omega
    · intro q hq hb hv
      refine (Below.heap_setCell _ _ _ _ hb).trans ((hg.block q (by simp; omega) (fun e => hv e.symm)).trans (Below.heap_alloc w ob q hq))
    · rcases hat with h | h
      · exact Or.inl h
      · exact Or.inr ⟨_, h, by omega⟩

set_option maxRecDepth 100000 in
set_option maxHeartbeats 1000000 in
theorem put_calls (B bw o : Nat) (T : TypeId) (cs : Array Value) (v : Value) (l : List Bool) (n k : Nat) (w : World) (h : WIn w B bw o T cs v l) (hB : B ≤ w.heap.size) (hl : l.length + k ≤ 2000000) (hk : k ≤ 64) (hn : n < 18446744073709551616) :
    Calls Try.prog 82 #[.pointer (some ⟨bw, o, none⟩), .int .u64 (n : Int), .int .i64 (k : Int)] w fun e w' => e = .returned (.tuple #[]) ∧ ∃ v' ds, WIn w' B bw o T ds v' (l ++ bitsOf n k) ∧ SameBut o cs ds ∧ PutFr w bw v w' v' := by
  obtain ⟨i0, hi, hz0, hz1, hz2⟩ := info_parts info5
  have HI := Lib.hid (And.intro hi (And.intro hz0 (And.intro hz1 hz2))); clear hi hz0 hz1 hz2
  have HW := Lib.hid h; clear h
  have HB := Lib.hid hB; clear hB
  go_enter Try.func82, Try.ntmps82
  go_wp2_with fail
  go_loopg [8] k (fun gh i wr => ∃ j : Nat, gh = k - j ∧ j ≤ k ∧ i = .int .i64 j ∧ ∃ v' ds, (WIn wr B bw o T ds v' (l ++ bitsUpto n k j) ∧ SameBut o cs ds ∧ PutFr w bw v wr v'))
  case atStart => exact ⟨0, rfl, by omega, rfl, v, cs, by simpa [bitsUpto] using HW.out, SameBut.refl _ _, PutFr.refl _ _ _⟩
  case round =>
    obtain ⟨j, hgh, hj, rfl, v', ds, hR⟩ := hrel
    have Hgh := Lib.hid hgh; clear hgh
    have HR := Lib.hid hR; clear hR
    by_cases hlt : j < k
    · obtain ⟨m, hm⟩ : ∃ m, m = l ++ bitsUpto n k j := ⟨_, rfl⟩
      have hml : m.length = l.length + j := by rw [hm, List.length_append, bitsUpto_length]
      have hW := HR.out.1
      rw [← hm] at hW
      have HM := Lib.hid (And.intro hm (And.intro hml hW))
      have c0 := (cell_of_block hW.blk o).trans hW.c0
      have c1 := (cell_of_block hW.blk (o + 1)).trans hW.c1
      have f0 := free_of_block hW.blk o
      have hLb : m.length ≤ 2000000 := by omega
      have hnb : nbytes m ≤ 300000 := by unfold nbytes; omega
      clear hm hml hW
      go_upto_if 16 with fail
      go_cut [8] (fun i wx => i = .int .i64 j ∧ Ready wr B bw o T ds v' m (n.testBit (k - 1 - j)) wx)
      case first =>
        by_cases h8 : m.length % 8 = 0
        · have hm8 : ((m.length : Int) % 8 == 0) = true := by rw [beq_iff_eq]; omega
          have H8 := Lib.hid h8; clear h8
          go_wp2_with (at_builtin; refine wpList_append_own_at _ rfl _ _ 22 rfl B 5 i0 (.int .u8 0) 1 1 Try.underlying22 HI.out.1 HI.out.2.1 HI.out.2.2.1 HI.out.2.2.2 rfl (by decide) _ _ _ rfl (HM.out.2.2.own.alloc _) ⟨wr.heap.size, 0, none⟩ 1 1 [.int .u8 0] rfl rfl ?c1 ?c2 ?c3 ?c4 ?c5 ?_)
          case c1 => exact cell_one_new _ _ _
          case c2 => intro u hu; simp at hu; subst hu; rfl
          case c3 => unfold maxLen; omega
          case c4 => omega
          case c5 => have := HB.out; have := HR.out.2.2.size; simp; omega
          intro v2 w1 hown2 hgrow2 _ hat2
          have hr := ready_grown (b := n.testBit (k - 1 - j)) HM.out.2.2 H8.out hown2 hgrow2 hat2
          have hbl := (hgrow2.block bw (by have := lt_of_block HM.out.2.2.blk; simp; omega) (fun e => own_neT HM.out.2.2.own HM.out.2.2.blk HM.out.2.2.ty e.symm)).trans ((Below.heap_alloc wr _ bw (lt_of_block HM.out.2.2.blk)).trans HM.out.2.2.blk)
          have hcb := (cell_of_block hbl o).trans HM.out.2.2.c0
          have hfb := free_of_block hbl o
          obtain ⟨g2, cap2, rfl⟩ := owned_shape hown2 (by omega)
          have HN := Lib.hid hr; clear hr hown2 hgrow2 hat2 hbl
          go_wp2_with fail
          go_meet
          exact ⟨rfl, HN.out⟩
        · have hm8 : ((m.length : Int) % 8 == 0) = false := by rw [beq_eq_false_iff_ne]; omega
          have H8 := Lib.hid h8; clear h8
          go_wp2_with fail
          go_meet
          refine ⟨rfl, ?_⟩
          have hW := HM.out.2.2
          obtain ⟨g, cap, rfl⟩ := owned_shape hW.own (by have := H8.out; unfold nbytes; omega)
          have e := nb_same (n.testBit (k - 1 - j)) H8.out
          refine ⟨g, cap, ds, hW.blk, SameBut.refl _ _, ?_, hW.c1, ?_, ?_⟩
          · rw [e]; exact hW.c0
          · rw [e]; exact hW.own
          · rw [e]; exact PutFr.refl _ _ _
      case rest =>
        obtain ⟨rfl, hcut⟩ := hcut
        have HF := Lib.hid HR.out.2
        have HM2 := Lib.hid (And.intro HM.out.1 (And.intro HM.out.2.1 HM.out.2.2.ty))
        clear HR HM c0 c1 f0 hnb
        obtain ⟨g, cap, es, hb, hsb, h0, h1, ho, hfr⟩ := hcut
        obtain ⟨hc, hf⟩ := owned_byte ho (i := m.length / 8) (nb_lt _ _)
        have hst := bit_step (b := n.testBit (k - 1 - j)) hb h0 h1 HM2.out.2.2 ho (nb_lt _ _) rfl
        have hbv := bit_val m n (k - 1 - j) hn
        have hnb := nb_lt m (n.testBit (k - 1 - j))
        obtain ⟨L, hL⟩ : ∃ L, L = m.length := ⟨_, rfl⟩
        obtain ⟨nb, hnbb⟩ : ∃ nb, nb = nbytes (m ++ [n.testBit (k - 1 - j)]) := ⟨_, rfl⟩
        rw [← hL] at h1 hc hf hst hbv hnb hLb
        rw [← hnbb] at h0 ho hst hnb hfr
        have c0 := (cell_of_block hb o).trans h0
        have c1 := (cell_of_block hb (o + 1)).trans h1
        have i1 : (0 : Int) ≤ ((L / 8 : Nat) : Int) := by omega
        have i2 : ((L / 8 : Nat) : Int) < (nb : Int) := by omega
        have s1 : (0 : Int) ≤ ((k : Int) - 1 - (j : Int)) := by omega
        have s2 : ((k : Int) - 1 - (j : Int)) ≤ 64 := by omega
        have s3 : ((k : Int) - 1 - (j : Int)).toNat = k - 1 - j := by omega
        have w1 : IntKind.i64.wrap ((k : Int) - 1) = (k : Int) - 1 := Go.IntWalk.i64_in _ (by omega)
        have w2 : IntKind.i64.wrap ((k : Int) - 1 - (j : Int)) = (k : Int) - 1 - (j : Int) := Go.IntWalk.i64_in _ (by omega)
        have hne : bw ≠ g := by
          have := own_neT ho hb HM2.out.2.2
          intro e
          exact this (by simp [Value.ownBlock, e])
        have hB2 := (Below.heap_setCell wc ⟨g, L / 8, none⟩ (.int .u8 ((M.byteOf (m ++ [n.testBit (k - 1 - j)]) (L / 8) : Nat) : Int)) bw hne).trans hb
        have hbv' : bits .or .u8 ((M.byteOf m (L / 8) : Nat) : Int) (bits .and .u64 ((n : Int) / 2 ^ (k - 1 - j)) 1 % 256 * 2 ^ (7 - L % 8) % 256) = ((M.byteOf (m ++ [n.testBit (k - 1 - j)]) (L / 8) : Nat) : Int) := by
          rw [← hbv, Int.natCast_ediv, Int.natCast_pow]; rfl
        have HS := Lib.hid (And.intro hst (And.intro hbv' (And.intro hnbb (And.intro hB2 (And.intro hfr (And.intro hsb (And.intro h1 h0)))))))
        clear hst hbv hbv' hnbb hb ho hL hB2 hfr hsb h0 h1
        go_wp2_with fail
        go_region
        rw [HS.out.2.1]
        obtain ⟨w2, hw2⟩ : ∃ w2, w2 = (wc.setCell ⟨g, L / 8, none⟩ (.int .u8 ((M.byteOf (m ++ [n.testBit (k - 1 - j)]) (L / 8) : Nat) : Int))).drew := ⟨_, rfl⟩
        rw [← hw2]
        have hb2 : w2.heap[bw]? = some (.cells es T (0, 0)) := by rw [hw2]; exact HS.out.2.2.2.1
        have c1 := (cell_of_block hb2 (o + 1)).trans HS.out.2.2.2.2.2.2.1
        have f1 := free_of_block hb2 (o + 1)
        have Hw2 := Lib.hid hw2
        clear hb2 hw2 hc hf
        go_wp2_with fail
        go_roundg (k - (j + 1))
        case measure => have hgh := Hgh.out; omega
        case rel =>
          refine ⟨j + 1, rfl, by omega, rfl, .slice (some ⟨g, 0, none⟩) nb cap, es.setIfInBounds (o + 1) (.int .i64 ((L : Nat) + 1)), ?_⟩
          rw [bitsUpto_succ, ← List.append_assoc, ← HM2.out.1, Hw2.out]
          exact ⟨HS.out.1.1, (HF.out.1.trans HS.out.2.2.2.2.2.1).set1 _, (HF.out.2.trans HS.out.2.2.2.2.1).trans HS.out.1.2⟩
    · have hjk : j = k := by omega
      subst hjk
      go_wp2_with fail
      go_end0
      exact ⟨rfl, v', ds, HR.out⟩
end Go.Proofs.Ytdekcilfkelhlaa
