/- Writer.put: bits are appended. -/
import Derived.Test.YtpnlcnilhlcfpaaBWalk
import Derived.Test.YtpnlcnilhlcfpaaBBits
import Derived.Test.YtpnlcnilhlcfpaaBLaw
import Derived.Maps.AppendAt
import Derived.BigRegion
import Derived.Deep.RegionHeld3
import Derived.Deep.DeepCutAuto
import Derived.OwnWalk
set_option linter.unusedVariables false
namespace Go.Proofs.Ytpnlcnilhlcfpaa
open Go.RowKit

/-- The bytes of a list of bits, as cells. -/
def bytesV (l : List Bool) (n : Nat) : List Value := (List.range n).map fun i => Value.int .u8 ((M.byteOf l i : Nat) : Int)
def nbytes (l : List Bool) : Nat := (l.length + 7) / 8

/-- A Writer lies at block bw and holds the bits l; its bytes are an owned row. -/
def WAt (w : World) (B bw : Nat) (v : Value) (l : List Bool) : Prop :=
  w.heap[bw]? = some (.cells #[v, .int .i64 (l.length : Nat)] 57 (0, 0)) ∧ w.ownsRow B 5 1 v (nbytes l) (bytesV l (nbytes l))

theorem info5 : (Try.prog.info? 5).map (fun i => (i.zero, i.size, i.bytes)) = some (some (.int .u8 0), 1, 1) := by kernel_rfl

/-- Where a byte begins: the row with a byte 0 put behind. -/
theorem bytesV_grow (l : List Bool) (n : Nat) (h : l.length ≤ 8 * n) : bytesV l n ++ [.int .u8 0] = bytesV l (n + 1) := by
  unfold bytesV
  rw [List.range_succ, List.map_append]
  simp [M.byteOf_new l n h]
/-- A bit is put into its byte. -/
theorem bytesV_set (l : List Bool) (b : Bool) (n : Nat) (h : l.length / 8 < n) : (bytesV l n).set (l.length / 8) (.int .u8 ((M.byteOf (l ++ [b]) (l.length / 8) : Nat) : Int)) = bytesV (l ++ [b]) n := by
  apply List.ext_getElem?
  intro i
  unfold bytesV
  rw [List.getElem?_set]
  simp only [List.length_map, List.length_range, List.getElem?_map]
  by_cases h1 : l.length / 8 = i
  · subst h1; simp [h]
  · rw [if_neg h1]
    by_cases h2 : i < n
    · simp [h2, M.byteOf_other l b i (fun e => h1 e.symm)]
    · simp [h2]

open M (bitsUpto bitsUpto_succ bitsUpto_length bitsOf bitsOf_length)

/-- What a call of put on the Writer at bw leaves of the rest. -/
structure PutFr (w : World) (bw : Nat) (v : Value) (w' : World) (v' : Value) : Prop where
  os : w'.os = w.os
  tape : w'.tape = w.tape
  output : w'.output = w.output
  size : w.heap.size ≤ w'.heap.size
  block : ∀ q, q < w.heap.size → q ≠ bw → v.ownBlock ≠ some q → w'.heap[q]? = w.heap[q]?
  own : v'.ownBlock = v.ownBlock ∨ ∃ q, v'.ownBlock = some q ∧ w.heap.size ≤ q
theorem PutFr.refl (w : World) (bw : Nat) (v : Value) : PutFr w bw v w v := ⟨rfl, rfl, rfl, Nat.le_refl _, fun _ _ _ _ => rfl, Or.inl rfl⟩
theorem PutFr.trans {a b c : World} {bw : Nat} {v1 v2 v3 : Value} (h : PutFr a bw v1 b v2) (k : PutFr b bw v2 c v3) : PutFr a bw v1 c v3 := by
  refine ⟨k.os.trans h.os, k.tape.trans h.tape, k.output.trans h.output, Nat.le_trans h.size k.size, ?_, ?_⟩
  · intro q hq hb hv
    refine (k.block q (Nat.lt_of_lt_of_le hq h.size) hb ?_).trans (h.block q hq hb hv)
    intro e
    rcases h.own with h1 | ⟨g, h1, h2⟩
    · exact hv (by rw [← h1, e])
    · rw [h1] at e; injection e with e; omega
  · rcases k.own with k1 | ⟨g, k1, k2⟩
    · rw [k1]; exact h.own
    · exact Or.inr ⟨g, k1, Nat.le_trans h.size k2⟩

theorem own_ne28 {w : World} {B n g : Nat} {v : Value} {xs : List Value} {cs : Array Value} (h : w.ownsRow B 5 1 v n xs) (hg : w.heap[g]? = some (.cells cs 57 (0, 0))) : v.ownBlock ≠ some g := by
  rcases h.2 with ⟨rfl, _⟩ | ⟨g', cap, cur, rfl, _, hh, _⟩
  · simp [Value.ownBlock]
  · intro he
    have : g' = g := by simpa [Value.ownBlock] using he
    subst this
    rw [hg] at hh
    injection hh with hh
    injection hh with _ q
    exact absurd q (by decide)

/-- The state at region 5: the row has the byte that the next bit belongs to. -/
theorem bit_step {w : World} {B bw g cap nb : Nat} {l : List Bool} {b : Bool} (hb : w.heap[bw]? = some (.cells #[.slice (some ⟨g, 0, none⟩) nb cap, .int .i64 (l.length : Nat)] 57 (0, 0)))
    (ho : w.ownsRow B 5 1 (.slice (some ⟨g, 0, none⟩) nb cap) nb (bytesV l nb)) (hn : l.length / 8 < nb) (hn2 : nb = nbytes (l ++ [b])) :
    WAt (((w.setCell ⟨g, l.length / 8, none⟩ (.int .u8 ((M.byteOf (l ++ [b]) (l.length / 8) : Nat) : Int))).drew).setCell ⟨bw, 1, none⟩ (.int .i64 ((l.length : Nat) + 1))) B bw (.slice (some ⟨g, 0, none⟩) nb cap) (l ++ [b]) ∧
    PutFr w bw (.slice (some ⟨g, 0, none⟩) nb cap) (((w.setCell ⟨g, l.length / 8, none⟩ (.int .u8 ((M.byteOf (l ++ [b]) (l.length / 8) : Nat) : Int))).drew).setCell ⟨bw, 1, none⟩ (.int .i64 ((l.length : Nat) + 1))) (.slice (some ⟨g, 0, none⟩) nb cap) := by
  have hne : g ≠ bw := by
    have := own_ne28 ho hb
    simpa [Value.ownBlock] using this
  refine ⟨⟨?_, ?_⟩, rfl, rfl, rfl, by simp [World.setCell], ?_, Or.inl rfl⟩
  · have h1 : ((w.setCell ⟨g, l.length / 8, none⟩ (.int .u8 ((M.byteOf (l ++ [b]) (l.length / 8) : Nat) : Int))).drew).heap[bw]? = some (.cells #[.slice (some ⟨g, 0, none⟩) nb cap, .int .i64 (l.length : Nat)] 57 (0, 0)) :=
      (Below.heap_setCell _ _ _ _ (fun e => hne e.symm)).trans hb
    have h2 := block_setCell h1 1 (.int .i64 ((l.length : Nat) + 1))
    simpa using h2
  · rw [← hn2]
    have h1 := (ho.stored (l.length / 8) (.int .u8 ((M.byteOf (l ++ [b]) (l.length / 8) : Nat) : Int))).1
    rw [bytesV_set l b nb hn] at h1
    exact ownsRow_setCell_other (w := (w.setCell ⟨g, l.length / 8, none⟩ (.int .u8 ((M.byteOf (l ++ [b]) (l.length / 8) : Nat) : Int))).drew) h1 (a := ⟨bw, 1, none⟩) (by simpa [Value.ownBlock] using hne) _
  · intro q hq hb hv
    refine (Below.heap_setCell _ _ _ _ hb).trans ?_
    exact Below.heap_setCell _ _ _ _ (fun e => hv (by simp [Value.ownBlock, e]))

theorem owned_byte {w : World} {B g cap nb : Nat} {l : List Bool} (h : w.ownsRow B 5 1 (.slice (some ⟨g, 0, none⟩) nb cap) nb (bytesV l nb)) {i : Nat} (hi : i < nb) :
    w.cell? ⟨g, i, none⟩ = some (.int .u8 ((M.byteOf l i : Nat) : Int)) ∧ w.frozen? ⟨g, i, none⟩ = false := by
  rcases h.2 with ⟨h0, _⟩ | ⟨g', cap', cur, e, _, hh, _, _, _, htk⟩
  · cases h0
  · injection e with e1 e2 e3
    injection e1 with e1
    injection e1 with e1
    subst e1
    refine ⟨?_, free_of_block hh i⟩
    have e := congrArg (fun q : List Value => q[i]?) htk
    simp only [Nat.mul_one, List.getElem?_take, hi, if_true, Array.getElem?_toList, bytesV, List.getElem?_map, List.getElem?_range hi, Option.map_some] at e
    rw [cell_of_block hh i, e]
theorem owned_shape {w : World} {B n : Nat} {v : Value} {xs : List Value} (h : w.ownsRow B 5 1 v n xs) (hn : 0 < n) : ∃ g cap, v = .slice (some ⟨g, 0, none⟩) n cap := by
  rcases h.2 with ⟨_, h0⟩ | ⟨g, cap, _, hv, _⟩
  · omega
  · exact ⟨g, cap, hv⟩

theorem bit_val (l : List Bool) (n m : Nat) (hn : n < 18446744073709551616) :
    bits .or .u8 ((M.byteOf l (l.length / 8) : Nat) : Int) (bits .and .u64 (((n / 2 ^ m : Nat)) : Int) 1 % 256 * 2 ^ (7 - l.length % 8) % 256) = ((M.byteOf (l ++ [n.testBit m]) (l.length / 8) : Nat) : Int) := by
  have h1 : bits .and .u64 (((n / 2 ^ m : Nat)) : Int) 1 = (((n.testBit m).toNat : Nat) : Int) := by
    have := u64_and_nat (n / 2 ^ m) 1 (Nat.lt_of_le_of_lt (Nat.div_le_self _ _) hn) (by omega)
    rw [Nat.and_one_is_mod] at this
    rw [Nat.toNat_testBit]
    exact this
  have hp : 2 ^ (7 - l.length % 8) ≤ 128 := Nat.pow_le_pow_right (n := 2) (by decide) (show 7 - l.length % 8 ≤ 7 by omega)
  have hb := Bool.toNat_lt (n.testBit m)
  have h2 : (((n.testBit m).toNat : Nat) : Int) % 256 * 2 ^ (7 - l.length % 8) % 256 = (((n.testBit m).toNat * 2 ^ (7 - l.length % 8) : Nat) : Int) := by
    rw [show ((2 : Int) ^ (7 - l.length % 8)) = ((2 ^ (7 - l.length % 8) : Nat) : Int) from (Int.natCast_pow 2 _).symm]
    generalize 2 ^ (7 - l.length % 8) = P at hp
    cases n.testBit m
    · simp
    · simp; omega
  rw [h1, h2, u8_or_nat _ _ (M.byteOf_lt _ _) (by
    generalize 2 ^ (7 - l.length % 8) = P at hp
    cases n.testBit m
    · simp
    · simp; omega), M.byteOf_snoc]

/-- Before a bit is put: its byte is there. -/
def Ready (w : World) (B bw : Nat) (v : Value) (m : List Bool) (b : Bool) (wx : World) : Prop :=
  ∃ g cap, wx.heap[bw]? = some (.cells #[.slice (some ⟨g, 0, none⟩) (nbytes (m ++ [b])) cap, .int .i64 (m.length : Nat)] 57 (0, 0)) ∧
    wx.ownsRow B 5 1 (.slice (some ⟨g, 0, none⟩) (nbytes (m ++ [b])) cap) (nbytes (m ++ [b])) (bytesV m (nbytes (m ++ [b]))) ∧ PutFr w bw v wx (.slice (some ⟨g, 0, none⟩) (nbytes (m ++ [b])) cap)

theorem nb_same {m : List Bool} (b : Bool) (h : m.length % 8 ≠ 0) : nbytes (m ++ [b]) = nbytes m := by
  unfold nbytes; rw [List.length_append]; simp only [List.length_cons, List.length_nil]; omega
theorem nb_next {m : List Bool} (b : Bool) (h : m.length % 8 = 0) : nbytes (m ++ [b]) = nbytes m + 1 := by
  unfold nbytes; rw [List.length_append]; simp only [List.length_cons, List.length_nil]; omega
theorem nb_lt (m : List Bool) (b : Bool) : m.length / 8 < nbytes (m ++ [b]) := by
  unfold nbytes; rw [List.length_append]; simp only [List.length_cons, List.length_nil]; omega

/-- What an append of a byte 0 leaves. -/
theorem ready_grown {w w1 : World} {B bw : Nat} {v v' : Value} {m : List Bool} {b : Bool} {o : Obj} (hb : w.heap[bw]? = some (.cells #[v, .int .i64 (m.length : Nat)] 57 (0, 0))) (ho : w.ownsRow B 5 1 v (nbytes m) (bytesV m (nbytes m)))
    (h8 : m.length % 8 = 0) (hown : w1.ownsRow B 5 1 v' (nbytes m + 1) (bytesV m (nbytes m) ++ [.int .u8 0])) (hg : (w.alloc o).grownBy w1 v.ownBlock) (hat : v'.ownBlock = v.ownBlock ∨ v'.ownBlock = some (w.heap.size + 1)) :
    Ready w B bw v m b (w1.setCell ⟨bw, 0, none⟩ v') := by
  have hne := own_ne28 ho hb
  have hlt := lt_of_block hb
  have h1 : w1.heap[bw]? = some (.cells #[v, .int .i64 (m.length : Nat)] 57 (0, 0)) :=
    (hg.block bw (by simp; omega) (fun e => hne e.symm)).trans ((Below.heap_alloc w o bw hlt).trans hb)
  have hv' : v'.ownBlock ≠ some bw := own_ne28 hown h1
  rw [bytesV_grow m _ (by unfold nbytes; omega), ← nb_next b h8] at hown
  obtain ⟨g, cap, rfl⟩ := owned_shape hown (by rw [nb_next b h8]; omega)
  refine ⟨g, cap, ?_, ?_, ?_⟩
  · have h2 := block_setCell h1 0 (.slice (some ⟨g, 0, none⟩) (nbytes (m ++ [b])) cap)
    simpa using h2
  · exact ownsRow_setCell_other hown (a := ⟨bw, 0, none⟩) hv' _
  · refine ⟨hg.os, hg.tape, hg.output, ?_, ?_, ?_⟩
    · have := hg.size; simp [World.setCell] at this ⊢; omega
    · intro q hq hb hv
      refine (Below.heap_setCell _ _ _ _ hb).trans ((hg.block q (by simp; omega) (fun e => hv e.symm)).trans (Below.heap_alloc w o q hq))
    · rcases hat with h | h
      · exact Or.inl h
      · exact Or.inr ⟨_, h, by omega⟩

set_option maxRecDepth 100000 in
set_option maxHeartbeats 1000000 in
theorem put_calls (B bw : Nat) (v : Value) (l : List Bool) (n k : Nat) (w : World) (h : WAt w B bw v l) (hB : B ≤ w.heap.size) (hl : l.length + k ≤ 2000000) (hk : k ≤ 64) (hn : n < 18446744073709551616) :
    Calls Try.prog 44 #[.pointer (some ⟨bw, 0, none⟩), .int .u64 (n : Int), .int .i64 (k : Int)] w fun e w' => e = .returned (.tuple #[]) ∧ ∃ v', WAt w' B bw v' (l ++ bitsOf n k) ∧ PutFr w bw v w' v' := by
  obtain ⟨i0, hi, hz0, hz1, hz2⟩ := info_parts info5
  have HI := Lib.hid (And.intro hi (And.intro hz0 (And.intro hz1 hz2))); clear hi hz0 hz1 hz2
  have HW := Lib.hid h; clear h
  have HB := Lib.hid hB; clear hB
  go_enter Try.func44, Try.ntmps44
  go_wp2_with fail
  go_loopg [8] k (fun gh i wr => ∃ j : Nat, gh = k - j ∧ j ≤ k ∧ i = .int .i64 j ∧ ∃ v', (WAt wr B bw v' (l ++ bitsUpto n k j) ∧ PutFr w bw v wr v'))
  case atStart => exact ⟨0, rfl, by omega, rfl, v, by simpa [bitsUpto] using HW.out, PutFr.refl _ _ _⟩
  case round =>
    obtain ⟨j, hgh, hj, rfl, v', hR⟩ := hrel
    have Hgh := Lib.hid hgh; clear hgh
    have HR := Lib.hid hR; clear hR
    by_cases hlt : j < k
    · obtain ⟨m, hm⟩ : ∃ m, m = l ++ bitsUpto n k j := ⟨_, rfl⟩
      have hml : m.length = l.length + j := by rw [hm, List.length_append, bitsUpto_length]
      have hW := HR.out.1
      rw [← hm] at hW
      obtain ⟨hb, ho⟩ := hW
      have HM := Lib.hid (And.intro hm (And.intro hml (And.intro hb ho)))
      have c0 := (cell_of_block hb 0).trans rfl
      have c1 := (cell_of_block hb 1).trans rfl
      have f0 := free_of_block hb 0
      have hLb : m.length ≤ 2000000 := by omega
      have hnb : nbytes m ≤ 300000 := by unfold nbytes; omega
      clear hm hml hb ho
      go_upto_if 16 with fail
      go_cut [8] (fun i wx => i = .int .i64 j ∧ Ready wr B bw v' m (n.testBit (k - 1 - j)) wx)
      case first =>
        by_cases h8 : m.length % 8 = 0
        · have hm8 : ((m.length : Int) % 8 == 0) = true := by rw [beq_iff_eq]; omega
          have H8 := Lib.hid h8; clear h8
          go_wp2_with (at_builtin; refine wpList_append_own_at _ rfl _ _ 22 rfl B 5 i0 (.int .u8 0) 1 1 Try.underlying22 HI.out.1 HI.out.2.1 HI.out.2.2.1 HI.out.2.2.2 rfl (by decide) _ _ _ rfl (HM.out.2.2.2.alloc _) ⟨wr.heap.size, 0, none⟩ 1 1 [.int .u8 0] rfl rfl ?c1 ?c2 ?c3 ?c4 ?c5 ?_)
          case c1 => exact cell_one_new _ _ _
          case c2 => intro u hu; simp at hu; subst hu; rfl
          case c3 => unfold maxLen; omega
          case c4 => omega
          case c5 => have := HB.out; have := HR.out.2.size; simp; omega
          intro v2 w1 hown2 hgrow2 _ hat2
          have hr := ready_grown (b := n.testBit (k - 1 - j)) HM.out.2.2.1 HM.out.2.2.2 H8.out hown2 hgrow2 hat2
          have hcb := (cell_of_block ((hgrow2.block bw (by have := lt_of_block HM.out.2.2.1; simp; omega) (fun e => own_ne28 HM.out.2.2.2 HM.out.2.2.1 e.symm)).trans ((Below.heap_alloc wr _ bw (lt_of_block HM.out.2.2.1)).trans HM.out.2.2.1)) 0).trans rfl
          have hfb := free_of_block ((hgrow2.block bw (by have := lt_of_block HM.out.2.2.1; simp; omega) (fun e => own_ne28 HM.out.2.2.2 HM.out.2.2.1 e.symm)).trans ((Below.heap_alloc wr _ bw (lt_of_block HM.out.2.2.1)).trans HM.out.2.2.1)) 0
          obtain ⟨g2, cap2, rfl⟩ := owned_shape hown2 (by omega)
          have HN := Lib.hid hr; clear hr hown2 hgrow2 hat2
          go_wp2_with fail
          go_meet
          exact ⟨rfl, HN.out⟩
        · have hm8 : ((m.length : Int) % 8 == 0) = false := by rw [beq_eq_false_iff_ne]; omega
          have H8 := Lib.hid h8; clear h8
          go_wp2_with fail
          go_meet
          refine ⟨rfl, ?_⟩
          have ho := HM.out.2.2.2
          obtain ⟨g, cap, rfl⟩ := owned_shape ho (by have := H8.out; unfold nbytes; omega)
          have e := nb_same (n.testBit (k - 1 - j)) H8.out
          refine ⟨g, cap, ?_, ?_, ?_⟩
          · rw [e]; exact HM.out.2.2.1
          · rw [e]; exact ho
          · rw [e]; exact PutFr.refl _ _ _
      case rest =>
        obtain ⟨rfl, hcut⟩ := hcut
        have HF := Lib.hid HR.out.2
        have HM2 := Lib.hid (And.intro HM.out.1 HM.out.2.1)
        clear HR HM c0 c1 f0 hnb
        obtain ⟨g, cap, hb, ho, hfr⟩ := hcut
        obtain ⟨hc, hf⟩ := owned_byte ho (i := m.length / 8) (nb_lt _ _)
        have hst := bit_step (b := n.testBit (k - 1 - j)) hb ho (nb_lt _ _) rfl
        have hbv := bit_val m n (k - 1 - j) hn
        have hnb := nb_lt m (n.testBit (k - 1 - j))
        obtain ⟨L, hL⟩ : ∃ L, L = m.length := ⟨_, rfl⟩
        obtain ⟨nb, hnbb⟩ : ∃ nb, nb = nbytes (m ++ [n.testBit (k - 1 - j)]) := ⟨_, rfl⟩
        rw [← hL] at hb hc hf hst hbv hnb hLb
        rw [← hnbb] at hb ho hst hnb hfr
        have c0 := (cell_of_block hb 0).trans rfl
        have c1 := (cell_of_block hb 1).trans rfl
        have i1 : (0 : Int) ≤ ((L / 8 : Nat) : Int) := by omega
        have i2 : ((L / 8 : Nat) : Int) < (nb : Int) := by omega
        have s1 : (0 : Int) ≤ ((k : Int) - 1 - (j : Int)) := by omega
        have s2 : ((k : Int) - 1 - (j : Int)) ≤ 64 := by omega
        have s3 : ((k : Int) - 1 - (j : Int)).toNat = k - 1 - j := by omega
        have w1 : IntKind.i64.wrap ((k : Int) - 1) = (k : Int) - 1 := Go.IntWalk.i64_in _ (by omega)
        have w2 : IntKind.i64.wrap ((k : Int) - 1 - (j : Int)) = (k : Int) - 1 - (j : Int) := Go.IntWalk.i64_in _ (by omega)
        have hne : bw ≠ g := by
          have := own_ne28 ho hb
          intro e
          exact this (by simp [Value.ownBlock, e])
        have hB2 := (Below.heap_setCell wc ⟨g, L / 8, none⟩ (.int .u8 ((M.byteOf (m ++ [n.testBit (k - 1 - j)]) (L / 8) : Nat) : Int)) bw hne).trans hb
        have hbv' : bits .or .u8 ((M.byteOf m (L / 8) : Nat) : Int) (bits .and .u64 ((n : Int) / 2 ^ (k - 1 - j)) 1 % 256 * 2 ^ (7 - L % 8) % 256) = ((M.byteOf (m ++ [n.testBit (k - 1 - j)]) (L / 8) : Nat) : Int) := by
          rw [← hbv, Int.natCast_ediv, Int.natCast_pow]; rfl
        have HS := Lib.hid (And.intro hst (And.intro hbv' (And.intro hnbb (And.intro hB2 hfr))))
        clear hst hbv hbv' hnbb hb ho hL hB2 hfr
        go_wp2_with fail
        go_region
        rw [HS.out.2.1]
        obtain ⟨w2, hw2⟩ : ∃ w2, w2 = (wc.setCell ⟨g, L / 8, none⟩ (.int .u8 ((M.byteOf (m ++ [n.testBit (k - 1 - j)]) (L / 8) : Nat) : Int))).drew := ⟨_, rfl⟩
        rw [← hw2]
        have hb2 : w2.heap[bw]? = some (.cells #[.slice (some ⟨g, 0, none⟩) nb cap, .int .i64 (L : Nat)] 57 (0, 0)) := by rw [hw2]; exact HS.out.2.2.2.1
        have c1 := (cell_of_block hb2 1).trans rfl
        have f1 := free_of_block hb2 1
        have Hw2 := Lib.hid hw2
        clear hb2 hw2 hc hf
        go_wp2_with fail
        go_roundg (k - (j + 1))
        case measure => have hgh := Hgh.out; omega
        case rel =>
          refine ⟨j + 1, rfl, by omega, rfl, .slice (some ⟨g, 0, none⟩) nb cap, ?_⟩
          rw [bitsUpto_succ, ← List.append_assoc, ← HM2.out.1, Hw2.out]
          exact ⟨HS.out.1.1, (HF.out.trans HS.out.2.2.2.2).trans HS.out.1.2⟩
    · have hjk : j = k := by omega
      subst hjk
      go_wp2_with fail
      go_end0
      exact ⟨rfl, v', HR.out⟩
end Go.Proofs.Ytpnlcnilhlcfpaa
