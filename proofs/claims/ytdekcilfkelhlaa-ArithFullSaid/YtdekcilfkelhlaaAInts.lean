/- ArithInts. -/
import Derived.Test.YtdekcilfkelhlaaAParts2
import Derived.Deep.DeepCutAuto
set_option linter.unusedVariables false
namespace Go.Proofs.Ytdekcilfkelhlaa
open Go.RowKit
open M (blen zig zag)

/-- A slice that reads as ints. -/
def IRow (w : World) (A : Option Addr) (n : Nat) (x : Nat → Int) : Prop := ∀ i, i < n → ∃ ad, A = some ad ∧ ad.block < w.heap.size ∧ w.cell? (ad.add i) = some (.int .i64 (x i)) ∧ -9223372036854775808 ≤ x i ∧ x i ≤ 9223372036854775807
theorem IsRow.ints {w : World} {a : Option Addr} {len cap : Nat} {zs : List Int} (h : IsRow .i64 w a len cap zs) :
    IRow w a len (fun i => zs.getD i 0) ∧ len ≤ cap ∧ cap ≤ 9223372036854775807 := by
  rcases h with ⟨rfl, rfl, rfl, rfl⟩ | ⟨x, rfl, h1, h2, h3, h4, h5⟩
  · exact ⟨fun i hi => by omega, by omega, by omega⟩
  · refine ⟨fun i hi => ⟨x, rfl, ?_, h4 i (by omega), ?_⟩, h1, by simpa [maxLen] using h2⟩
    · have := cell_lt (h4 i (by omega))
      rw [add_block] at this
      exact this
    · have := bounds_i64 (h5 (zs.getD i 0) (by rw [List.getD_eq_getElem?_getD, List.getElem?_eq_getElem (show i < zs.length by omega)]; simp))
      exact this
theorem IRow.less {w : World} {A : Option Addr} {n m : Nat} {x : Nat → Int} (h : IRow w A n x) (hm : m ≤ n) : IRow w A m x := fun i hi => h i (by omega)
/-- The ints of the statement: the given ones, then one of them many times. -/
def intAt (m : Nat) (x : Nat → Int) (k : Int) (i : Nat) : Int := if i < m then x i else k
def intOps (m : Nat) (x : Nat → Int) (k : Int) (i : Nat) : List Op := zops 0 (zig (wordOf (intAt m x k i)))
theorem intOps_fit (m : Nat) (x : Nat → Int) (k : Int) (i : Nat) : (∀ p, p ∈ intOps m x k i → Fit ksz p) ∧ (intOps m x k i).length ≤ 65 := by
  have := zops_fit (intSz 0 (by decide)) (z := zig (wordOf (intAt m x k i))) (by simpa using zig_lt64 _)
  exact ⟨this.1, this.2.1⟩
abbrev iEnc (m : Nat) (x : Nat → Int) (k : Int) (j : Nat) : St × Bun := encTo fr0 (intOps m x k) j
theorem iEnc_ok (m : Nat) (x : Nat → Int) (k : Int) (j : Nat) : Ok ksz (iEnc m x k j) ∧ (iEnc m x k j).1.cnt ≤ 65 * j :=
  enc_ok shape0 (N := j) (c := 65) (fun i _ => (intOps_fit m x k i).1) (fun i _ => (intOps_fit m x k i).2) (Nat.le_refl j)
theorem zig_small {k : Int} (h0 : -128 ≤ k) (h1 : k ≤ 127) : zig (wordOf k) < 256 := by
  unfold zig wordOf
  split <;> omega
theorem zops_small {b z : Nat} (h : z < 256) : (zops b z).length ≤ 8 := by
  unfold zops
  rw [List.length_cons, lowOps_length]
  have := M.blen_le (show z < 2 ^ 8 from h)
  omega
theorem seqTo_split (o : Nat → List Op) (m r : Nat) : seqTo o (m + r) = seqTo o m ++ (List.range r).flatMap fun i => o (m + i) := by
  induction r with
  | zero => simp
  | succ r ih => rw [← Nat.add_assoc, seqTo_succ, ih, List.range_succ, List.flatMap_append, List.append_assoc]; simp
theorem ints_bytes (m : Nat) (x : Nat → Int) (k : Int) (h0 : -128 ≤ k) (h1 : k ≤ 127) : nbytes (endBits (iEnc m x k (m + 200)).1) ≤ nbytes (endBits (iEnc m x k m).1) + 2602 := by
  have hL : ∀ r, ((List.range r).flatMap fun i => intOps m x k (m + i)).length ≤ 8 * r := by
    intro r
    induction r with
    | zero => simp
    | succ r ih =>
      rw [List.range_succ, List.flatMap_append, List.length_append]
      have e : (intOps m x k (m + r)).length ≤ 8 := by
        unfold intOps intAt
        rw [if_neg (by omega)]
        exact zops_small (zig_small h0 h1)
      simp only [List.flatMap_cons, List.flatMap_nil, List.append_nil]
      omega
  have h200 := hL 200
  have hb := steps_bits (b := zbit) (l := (List.range 200).flatMap fun i => intOps m x k (m + i)) (iEnc_ok m x k m).1 (fun o ho => by
    obtain ⟨i, _, hp⟩ := List.mem_flatMap.1 ho
    exact (intOps_fit m x k (m + i)).1 o hp) (by omega)
  have e : iEnc m x k (m + 200) = steps zbit (iEnc m x k m) ((List.range 200).flatMap fun i => intOps m x k (m + i)) := by
    unfold iEnc encTo
    rw [seqTo_split, steps_append]
  rw [← e] at hb
  unfold nbytes
  rw [endBits_length, endBits_length]
  unfold made at hb
  omega
/-- A new Number. -/
theorem Ses.number {w0 w : World} {l : List Part} (h : Ses w0 w l) :
    Calls Try.prog 35 #[] w fun e w' => ∃ bm g nb, e = .returned (.pointer (some ⟨nb, 0, none⟩)) ∧ Ses w0 w' (kPart 3 bm g [(nb, 0)] fr0 :: l) := by
  refine (NewNumber_ok w).mono ?_
  rintro e w1 ⟨nb, b0, g0, b1, g1, b2, g2, rfl, hn, m0, m1, m2, hd, hq, hb⟩
  obtain ⟨bm, g, _, k1⟩ := (KNew.zero w fr0).number hn m0 m1 m2 hd hq hb
  exact ⟨bm, g, nb, rfl, h.kit k1⟩

set_option maxRecDepth 100000 in
set_option maxHeartbeats 4000000 in
theorem ints_walk (A : Option Addr) (n cap : Nat) (x : Nat → Int) (k : Int) (w : World) (hi : IRow w A n x) (hcap : n ≤ cap) (hn : cap ≤ 9223372036854775807) (k0 : -128 ≤ k) (k1 : k ≤ 127) :
    Calls Try.prog 9 #[.slice A n cap, .int .i8 k] w fun e w' => e = .returned (.bool true) ∧ Below w.heap.size w w' := by
  obtain ⟨m, hm⟩ : ∃ m : Nat, (if (60 : Int) < (n : Int) then (60 : Int) else (n : Int)) = (m : Int) := ⟨min n 60, by split <;> omega⟩
  have hm4 : m ≤ 60 ∧ m ≤ n := by split at hm <;> omega
  have hi' := hi.less hm4.2
  have hS := Ses.start w
  have hby := ints_bytes m x k k0 k1
  have HW := Lib.hid (And.intro hi' hby)
  have HS := Lib.hid hS
  clear hi hi' hS hby
  have hb60 : ∀ j, j ≤ 260 → (iEnc m x k j).1.cnt + 65 ≤ 32768 := fun j hj => by have := (iEnc_ok m x k j).2; omega
  have HC := Lib.hid hb60; clear hb60
  go_enter Try.func9, Try.ntmps9
  go_wp2_with fail
  refine HS.out.number.mono ?_
  rintro e w1 ⟨bm, g, nb, rfl, h1⟩
  have H1 := Lib.hid h1; clear h1 HS
  go_wp2_with fail
  refine H1.out.number.mono ?_
  rintro e w2 ⟨bo, go, no, rfl, h2⟩
  have H2 := Lib.hid h2.enc.mv2; clear h2 H1
  go_wp2_with fail
  obtain ⟨ew, eew⟩ : ∃ ew, ew = w2.heap.size := ⟨_, rfl⟩
  rw [← eew]
  have HE := Lib.hid eew; clear eew
  go_loopg [28] m (fun gh iv wr => ∃ (j : Nat) (F : List Nat), gh = m - j ∧ j ≤ m ∧ iv = .int .i64 (j : Nat) ∧ Ses w wr [kPart 3 bm g [(nb, 0)] (iEnc m x k j).2, encPart w.heap.size ew F (iEnc m x k j).1, kPart 3 bo go [(no, 0)] fr0])
  case atStart => exact ⟨0, [ew], rfl, by omega, rfl, by rw [HE.out]; exact H2.out⟩
  case round =>
    obtain ⟨j, F, hgh, hj, rfl, hR⟩ := hrel
    have Hgh := Lib.hid hgh; clear hgh
    have HR := Lib.hid hR; clear hR H2
    by_cases hlt : j < m
    · obtain ⟨ad, rfl, hab, c0, b0, b1⟩ := HW.out.1 j hlt
      have hc0 := (HR.out.bel.cell (p := ad.add j) (by rw [add_block]; exact hab)).trans c0
      obtain ⟨v, ev⟩ : ∃ v, v = x j := ⟨_, rfl⟩
      rw [← ev] at hc0 b0 b1
      have i1 : (0 : Int) ≤ (j : Nat) := by omega
      have i2 : ((j : Nat) : Int) < (m : Nat) := by omega
      have hev : intOps m x k j = zops 0 (zig (wordOf v)) := by unfold intOps intAt; rw [if_pos hlt, ev]
      have HV := Lib.hid hev; clear ev hev c0 hab
      go_wp2_with fail
      refine (HR.out.mv1.putInt (sz := ksz) nb v (by simp) (HC.out j (by omega)) (iEnc_ok m x k j).1.shape (intSz 0 (by decide)) b0 b1).mono ?_
      rintro e w4 ⟨rfl, F4, h4⟩
      have H4 := Lib.hid h4.mv1; clear h4
      go_wp2_with fail
      go_roundg (m - (j + 1))
      case measure => have := Hgh.out; omega
      case rel =>
        refine ⟨j + 1, F4, rfl, by omega, by go_num, ?_⟩
        unfold iEnc
        rw [encTo_succ, HV.out]
        exact H4.out
    · obtain rfl : j = m := by omega
      clear hlt hj
      go_wp2_with fail
      refine (HR.out.mv1.bytes_n (by have := HC.out j (by omega); omega)).mono ?_
      rintro e w5 ⟨G5, A5, c5, rfl, _, h5⟩
      have H5 := Lib.hid h5.tail.mv1; clear h5 HR
      go_wp2_with fail
      go_loopg [39] 200 (fun gh iv wr => ∃ (r : Nat) (F : List Nat), gh = 200 - r ∧ r ≤ 200 ∧ iv = .int .i64 (r : Nat) ∧ Ses w wr [kPart 3 bm g [(nb, 0)] (iEnc j x k (j + r)).2, encPart w.heap.size ew F (iEnc j x k (j + r)).1, kPart 3 bo go [(no, 0)] fr0])
      case atStart => exact ⟨0, F, rfl, by omega, rfl, H5.out⟩
      case round =>
        obtain ⟨r, F, hgh, hr, rfl, hR⟩ := hrel
        have Hgh := Lib.hid hgh; clear hgh
        have HR := Lib.hid hR; clear hR H5
        by_cases hlt : r < 200
        · have hev : intOps j x k (j + r) = zops 0 (zig (wordOf k)) := by unfold intOps intAt; rw [if_neg (by omega)]
          have HV := Lib.hid hev; clear hev
          go_wp2_with fail
          refine (HR.out.mv1.putInt (sz := ksz) nb k (by simp) (HC.out (j + r) (by omega)) (iEnc_ok j x k (j + r)).1.shape (intSz 0 (by decide)) (by omega) (by omega)).mono ?_
          rintro e w4 ⟨rfl, F4, h4⟩
          have H4 := Lib.hid h4.mv1; clear h4
          go_wp2_with fail
          go_roundg (200 - (r + 1))
          case measure => have := Hgh.out; omega
          case rel =>
            refine ⟨r + 1, F4, rfl, by omega, by go_num, ?_⟩
            rw [← Nat.add_assoc]
            unfold iEnc
            rw [encTo_succ, HV.out]
            exact H4.out
        · obtain rfl : r = 200 := by omega
          clear hlt hr
          go_wp2_with fail
          refine (HR.out.mv1.bytes_n (by have := HC.out (j + 200) (by omega); omega)).mono ?_
          rintro e w6 ⟨G6, A6, c6, rfl, hnil, h6⟩
          have hlive := (iEnc_ok j x k (j + 200)).1.live
          have hnb := nbytes_bd hlive (by have := HC.out (j + 200) (by omega); omega)
          have hdec := decode_all (n := nbytes (endBits (iEnc j x k (j + 200)).1)) (f := M.byteOf (endBits (iEnc j x k (j + 200)).1)) (sz := ksz) (fr := fr0) shape0 (o := intOps j x k) (N := j + 200) (fun i _ => (intOps_fit j x k i).1) (begins_bytes (Nat.le_refl _) (fun _ _ => rfl))
          obtain ⟨code, ecode⟩ : ∃ c, c = endBits (iEnc j x k (j + 200)).1 := ⟨_, rfl⟩
          rw [← ecode] at h6 hnil hnb hdec ⊢
          obtain ⟨nn, enn⟩ : ∃ c, c = nbytes code := ⟨_, rfl⟩
          rw [← enn] at h6 hnil hnb hdec ⊢
          have hby := HW.out.2
          have e200 : endBits (iEnc j x k (j + 200)).1 = code := ecode.symm
          rw [e200, ← enn] at hby
          have H6 := Lib.hid (And.intro h6 (And.intro hnil (And.intro hnb (And.intro hdec (And.intro ecode (And.intro enn hby)))))); clear h6 hnil hnb hdec ecode enn hby e200 hlive HR
          go_wp2_with fail
          refine (Ses.dec H6.out.1 (Ses.brow H6.out.1) (by have := H6.out.2.2.1; omega) (fun i _ => M.byteOf_lt _ _) H6.out.2.1).mono ?_
          rintro e w7 ⟨dB, dw, dG, dA, dc, dF, rfl, h7⟩
          have H7 := Lib.hid (show Ses w w7 [kPart 3 bo go [(no, 0)] (decTo nn (M.byteOf code) fr0 (intOps j x k) 0).2, decPart dB dw dG dA nn dc (M.byteOf code) dF (decTo nn (M.byteOf code) fr0 (intOps j x k) 0).1, bPart G6 A6 nn (M.byteOf code)] from h7.mw4.mv3.tail.mv3.tail); clear h7
          go_wp2_with fail
          go_loopg [52] j (fun gh iv wr => ∃ (i : Nat) (F : List Nat), gh = j - i ∧ i ≤ j ∧ iv = .int .i64 (i : Nat) ∧ Ses w wr [kPart 3 bo go [(no, 0)] (decTo nn (M.byteOf code) fr0 (intOps j x k) i).2, decPart dB dw dG dA nn dc (M.byteOf code) F (decTo nn (M.byteOf code) fr0 (intOps j x k) i).1, bPart G6 A6 nn (M.byteOf code)])
          case atStart => exact ⟨0, dF, rfl, by omega, rfl, H7.out⟩
          case round =>
            obtain ⟨i, F, hgh, hi, rfl, hR⟩ := hrel
            have Hgh := Lib.hid hgh; clear hgh
            have HR := Lib.hid hR; clear hR H7
            by_cases hlt : i < j
            · obtain ⟨ad, rfl, hab, c0, b0, b1⟩ := HW.out.1 i hlt
              have hc0 := (HR.out.bel.cell (p := ad.add i) (by rw [add_block]; exact hab)).trans c0
              obtain ⟨v, ev⟩ : ∃ v, v = x i := ⟨_, rfl⟩
              rw [← ev] at hc0 b0 b1
              have i1 : (0 : Int) ≤ (i : Nat) := by omega
              have i2 : ((i : Nat) : Int) < (j : Nat) := by omega
              have hev : intOps j x k i = zops 0 (zig (wordOf v)) := by unfold intOps intAt; rw [if_pos hlt, ev]
              have hdk := H6.out.2.2.2.1 i (by omega)
              have hrd := hdk.2 (by omega)
              rw [hev] at hrd
              have hcnt := HC.out i (by omega)
              rw [← dec_cnt nn (M.byteOf code) fr0 (intOps j x k) i] at hcnt
              have hget := HR.out.mv1.getInt no (zig (wordOf v)) (by simp) hcnt (intSz 0 (by decide)) hdk.1 hrd (zig_lt64 v)
              rw [M.zag_zig (by simpa using wordOf_lt v), sOf_wordOf b0 b1] at hget
              have HV := Lib.hid (And.intro hev hget); clear ev hev c0 hab hdk hrd hcnt hget
              go_wp2_with fail
              refine HV.out.2.mono ?_
              rintro e w8 ⟨rfl, F8, h8⟩
              have H8 := Lib.hid h8.mv1; clear h8
              go_wp2_with fail
              go_roundg (j - (i + 1))
              case measure => have := Hgh.out; omega
              case rel =>
                refine ⟨i + 1, F8, rfl, by omega, by go_num, ?_⟩
                rw [decTo_succ, HV.out.1]
                exact H8.out
            · obtain rfl : i = j := by omega
              clear hlt hi
              go_wp2_with fail
              go_loopg [70] 200 (fun gh iv wr => ∃ (r : Nat) (F : List Nat), gh = 200 - r ∧ r ≤ 200 ∧ iv = .int .i64 (r : Nat) ∧ Ses w wr [kPart 3 bo go [(no, 0)] (decTo nn (M.byteOf code) fr0 (intOps i x k) (i + r)).2, decPart dB dw dG dA nn dc (M.byteOf code) F (decTo nn (M.byteOf code) fr0 (intOps i x k) (i + r)).1, bPart G6 A6 nn (M.byteOf code)])
              case atStart => exact ⟨0, F, rfl, by omega, rfl, HR.out⟩
              case round =>
                obtain ⟨r, F, hgh, hr, rfl, hR⟩ := hrel
                have Hgh := Lib.hid hgh; clear hgh
                have HR := Lib.hid hR; clear hR
                by_cases hlt : r < 200
                · have hev : intOps i x k (i + r) = zops 0 (zig (wordOf k)) := by unfold intOps intAt; rw [if_neg (by omega)]
                  have hdk := H6.out.2.2.2.1 (i + r) (by omega)
                  have hrd := hdk.2 (by omega)
                  rw [hev] at hrd
                  have hcnt := HC.out (i + r) (by omega)
                  rw [← dec_cnt nn (M.byteOf code) fr0 (intOps i x k) (i + r)] at hcnt
                  have hget := HR.out.mv1.getInt no (zig (wordOf k)) (by simp) hcnt (intSz 0 (by decide)) hdk.1 hrd (zig_lt64 k)
                  rw [M.zag_zig (by simpa using wordOf_lt k), sOf_wordOf (by omega) (by omega)] at hget
                  have HV := Lib.hid (And.intro hev hget); clear hev hdk hrd hcnt hget
                  go_wp2_with fail
                  refine HV.out.2.mono ?_
                  rintro e w8 ⟨rfl, F8, h8⟩
                  have H8 := Lib.hid h8.mv1; clear h8
                  go_wp2_with fail
                  go_roundg (200 - (r + 1))
                  case measure => have := Hgh.out; omega
                  case rel =>
                    refine ⟨r + 1, F8, rfl, by omega, by go_num, ?_⟩
                    rw [← Nat.add_assoc, decTo_succ, HV.out.1]
                    exact H8.out
                · obtain rfl : r = 200 := by omega
                  clear hlt hr
                  have hcnt := HC.out (i + 200) (by omega)
                  rw [← dec_cnt nn (M.byteOf code) fr0 (intOps i x k) (i + 200)] at hcnt
                  have hend := HR.out.mv1.end_ 0 (by omega) (by
                    rw [dec_end, ← H6.out.2.2.2.2.1, ← H6.out.2.2.2.2.2.1, if_pos rfl])
                  have HD := Lib.hid hend; clear hend hcnt
                  have hl0 := nbytes_bd (iEnc_ok i x k i).1.live (by have := HC.out i (by omega); omega)
                  obtain ⟨bf, ebf⟩ : ∃ bf, bf = nbytes (endBits (iEnc i x k i).1) := ⟨_, rfl⟩
                  have i3 : ((nn : Nat) : Int) - (bf : Nat) ≤ 2602 := by have := H6.out.2.2.2.2.2.2; omega
                  have i4 : nn ≤ 66000 := H6.out.2.2.1
                  rw [← ebf] at hl0 ⊢
                  clear ebf
                  go_wp2_with fail
                  refine HD.out.mono ?_
                  rintro e w9 ⟨rfl, h9⟩
                  have H9 := Lib.hid h9; clear h9
                  go_wp2_with fail
                  refine (awake_ok w9).mono ?_
                  rintro e w10 ⟨rfl, hb10⟩
                  have H10 := Lib.hid (H9.out.below hb10); clear hb10
                  go_wp2_with fail
                  go_ret
                  exact ⟨rfl, H10.out.bel⟩
end Go.Proofs.Ytdekcilfkelhlaa
