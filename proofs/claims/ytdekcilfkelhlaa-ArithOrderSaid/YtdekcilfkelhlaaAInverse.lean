/- ArithInverse. -/
import Derived.Test.YtdekcilfkelhlaaAOnly
set_option linter.unusedVariables false
namespace Go.Proofs.Ytdekcilfkelhlaa
open Go.RowKit

/-- A row of items of one's own reads as items. -/
theorem row_items {w : World} {B n : Nat} {v : Value} {t : Its} (h : w.ownsRow B 61 3 v n (t.cellsTo n)) (hb : t.bd n) : ∃ A cap, v = .slice A n cap ∧ n ≤ cap ∧ cap ≤ 9223372036854775807 ∧ Items w w.heap.size A n t := by
  rcases h.2 with ⟨rfl, rfl⟩ | ⟨g, cap, cur, rfl, hB, hh, hc1, hc2, _, htk⟩
  · exact ⟨none, 0, rfl, Nat.le_refl _, by omega, fun i hi => by omega⟩
  · refine ⟨some ⟨g, 0, none⟩, cap, rfl, hc1, by simpa [maxLen] using hc2, fun i hi => ?_⟩
    obtain ⟨b0, b1, b2, b3⟩ := hb i hi
    have hcell : ∀ k, k < 3 → w.cell? (Addr.add ⟨g, 0, none⟩ (i * 3 + k)) = (t.cells i)[k]? := by
      intro k hk
      rw [add_zero', cell_of_block hh]
      have e : (cur.toList.take (n * 3))[i * 3 + k]? = (t.cellsTo n)[i * 3 + k]? := congrArg (fun q : List Value => q[i * 3 + k]?) htk
      rw [Its.cellsTo_at t hi k hk, List.getElem?_take, if_pos (by omega), Array.getElem?_toList] at e
      exact e
    refine ⟨⟨g, 0, none⟩, rfl, lt_of_block hh, ?_, ?_, ?_, b0, b1, b2, b3⟩
    · exact hcell 0 (by decide)
    · exact hcell 1 (by decide)
    · exact hcell 2 (by decide)
theorem own_items {w : World} {B n rc : Nat} {rA : Option Addr} {t : Its} (h : w.ownsRow B 61 3 (.slice rA n rc) n (t.cellsTo n)) (hb : t.bd n) : Items w w.heap.size rA n t := by
  obtain ⟨A, cap, e, _, _, hi⟩ := row_items h hb
  injection e with e1 _ _
  rw [e1]
  exact hi
theorem ends_same {s : St} {code : List Bool} {nb : Nat} {f : Nat → Nat} (h : endBits s = code) (hn : nb = nbytes code) (hf : f = M.byteOf code) : (if listF (nbytes (endBits s)) (M.byteOf (endBits s)) = listF nb f then 0 else 220 : Int) = 0 := by
  subst h hn hf
  exact if_pos rfl
theorem ends_long {s : St} {code : List Bool} {nb : Nat} {f : Nat → Nat} (h : endBits s = code) (hn : nb = nbytes code) : (if listF (nbytes (endBits s)) (M.byteOf (endBits s)) = listF (nb + 1) f then 0 else 220 : Int) = 220 := by
  subst h hn
  refine if_neg fun e => ?_
  have := congrArg List.length e
  simp [listF] at this
theorem bunC_at {w0 w : World} {l : List Part} {mb n0 n1 i : Nat} {bm : Nat → Nat} {T : TypeId} (h : Ses w0 w (cPart mb (bunC bm n0 n1) T :: l)) (hi : i < 5) : w.cell? ⟨mb, i, none⟩ = some (.pointer (some ⟨bm (6 + i), 0, none⟩)) := by
  have hh : w.heap[mb]? = some (.cells (bunC bm n0 n1) T (0, 0)) := h.sep.head
  rw [cell_of_block hh i]
  have : i = 0 ∨ i = 1 ∨ i = 2 ∨ i = 3 ∨ i = 4 := by omega
  rcases this with rfl | rfl | rfl | rfl | rfl <;> rfl
/-- A code with one more byte. -/
def longer (n : Nat) (f : Nat → Nat) (more : Nat) (i : Nat) : Nat := if i < n then f i else more
theorem longer_lt {n more : Nat} {f : Nat → Nat} (hf : ∀ i, f i < 256) (hm : more < 256) (i : Nat) : longer n f more i < 256 := by
  unfold longer
  split
  · exact hf i
  · exact hm
theorem longer_list (n : Nat) (f : Nat → Nat) (more : Nat) : ((List.range n).map fun i => Value.int .u8 ((f i : Nat) : Int)) ++ [.int .u8 (more : Nat)] = (List.range (n + 1)).map fun i => Value.int .u8 ((longer n f more i : Nat) : Int) := by
  rw [List.range_succ, List.map_append]
  congr 1
  · refine List.map_congr_left fun i hi => ?_
    unfold longer
    rw [if_pos (List.mem_range.1 hi)]
  · unfold longer
    simp
structure VRel (w0 wr : World) (n0 n1 p0 p1 q0 q1 mA mB mC eb : Nat) (bm g bp gp bq gq : Nat → Nat) (N f' : Nat → Nat) (nb : Nat) (f : Nat → Nat) (t : Its) (B : Nat) (row : Value) (m : Nat) (dB dw : Nat) (dG : List Nat) (dA : Option Addr) (dc : Nat) (lB lw : Nat) (lG : List Nat) (lA : Option Addr) (lc : Nat) (bG : List Nat) (bA : Option Addr) (j : Nat) (F1 F2 F3 : List Nat) : Prop where
  ses : Ses w0 wr [decPart dB dw dG dA nb dc f F1 (decTo nb f fr0 t.ops j).1, kPart 11 bm g (nums2 n0 n1) (decTo nb f fr0 t.ops j).2,
    encPart w0.heap.size eb F2 (encTo fr0 t.ops j).1, kPart 11 bp gp (nums2 p0 p1) (encTo fr0 t.ops j).2,
    decPart lB lw lG lA (nb + 1) lc f' F3 (decTo (nb + 1) f' fr0 t.ops j).1, kPart 11 bq gq (nums2 q0 q1) (decTo (nb + 1) f' fr0 t.ops j).2,
    cPart mA (bunC bm n0 n1) 45, cPart mB (bunC bp p0 p1) 45, cPart mC (bunC bq q0 q1) 45,
    bPart bG bA nb f, rPart B row m (t.cellsTo m)]

set_option maxRecDepth 100000 in
set_option maxHeartbeats 1500000 in
theorem inverse_walk (A : Option Addr) (n cap more : Nat) (t0 : Its) (w : World) (hi : Items w w.heap.size A n t0) (hcap : n ≤ cap) (hn : cap ≤ 9223372036854775807) (ha : more < 256) :
    Calls Try.prog 7 #[.slice A n cap, .int .u8 (more : Nat)] w fun e w' => e = .returned (.bool true) ∧ Below w.heap.size w w' := by
  obtain ⟨m, hm⟩ : ∃ m : Nat, m = min n 300 := ⟨_, rfl⟩
  have hi' := hi.less (show m ≤ n by omega)
  have hfb := Its.fit_ok hi'.bd
  have hwr := wrote_ok A n cap 300 m t0 w hi' (by omega) (by decide) hcap hn
  obtain ⟨t, et⟩ : ∃ t, t = t0.fit := ⟨_, rfl⟩
  rw [← et] at hfb hwr
  have eS : t.st m = encTo fr0 t.ops m := rfl
  rw [eS] at hwr
  obtain ⟨code, ecode⟩ : ∃ c, c = endBits (encTo fr0 t.ops m).1 := ⟨_, rfl⟩
  rw [← ecode] at hwr
  obtain ⟨nb, enb⟩ : ∃ k, k = nbytes code := ⟨_, rfl⟩
  rw [← enb] at hwr
  obtain ⟨f, ef⟩ : ∃ f, f = M.byteOf code := ⟨_, rfl⟩
  rw [← ef] at hwr
  have HW := Lib.hid (And.intro hwr (And.intro hfb (And.intro ecode (And.intro enb ef))))
  have hm3 : m ≤ 300 := by omega
  clear hi hi' hfb hwr et eS ecode enb ef hm
  go_enter Try.func7, Try.ntmps7
  go_wp2_with fail
  refine HW.out.1.mono ?_
  rintro e w1 ⟨bG, bA, bc, row, rfl, hnil, h1⟩
  have hnb1 : 1 ≤ nb := by
    rw [HW.out.2.2.2.1, HW.out.2.2.1]
    unfold nbytes
    rw [endBits_length]
    omega
  have hnb2 : nb ≤ 66000 := by
    have hok := Its.st_ok (t := t) (j := m) HW.out.2.1.1
    have := nbytes_bd hok.1.live (by omega)
    rw [HW.out.2.2.2.1, HW.out.2.2.1]
    exact this
  obtain ⟨ad, ead, _⟩ := (Ses.brow h1) 0 hnb1
  subst ead
  have H1 := Lib.hid (And.intro hnil h1); clear hnil h1
  go_wp2_with fail
  refine (fresh_s H1.out.2).mono ?_
  rintro e w2 ⟨bm, g, n0, n1, rfl, h2⟩
  have H2 := Lib.hid (h2.cells (bunC bm n0 n1) 45); clear h2
  rw [bunV_eq]
  go_wp2_with fail
  refine (fresh_s H2.out).mono ?_
  rintro e w3 ⟨bp, gp, p0, p1, rfl, h3⟩
  have H3 := Lib.hid (h3.cells (bunC bp p0 p1) 45); clear h3 H2
  rw [bunV_eq]
  go_wp2_with fail
  obtain ⟨i0, hi1, hz0, hz1, hz2⟩ := info_parts info5
  have HI := Lib.hid (And.intro hi1 (And.intro hz0 (And.intro hz1 hz2))); clear hi1 hz0 hz1 hz2
  refine (Ses.dec H3.out (Ses.brow H3.out.mw4) (by omega) (fun i _ => by rw [HW.out.2.2.2.2]; exact M.byteOf_lt _ _) H1.out.1).mono ?_
  rintro e w4 ⟨dB, dw, dG, dA, dc, dF, rfl, h4⟩
  have hbr : BRow w4 (some ad) nb f := Ses.brow h4.mw5
  have hnews : ∀ o, ∀ j u, ((List.range nb).map fun i => Value.int .u8 ((f i : Nat) : Int))[j]? = some u → (w4.alloc o).cell? (ad.add j) = some u := by
    intro o j u hu
    rw [List.getElem?_map] at hu
    rcases Nat.lt_or_ge j nb with hj | hj
    · rw [List.getElem?_range hj, Option.map_some] at hu
      obtain ⟨ad', e, hc⟩ := hbr j hj
      injection e with e
      subst e
      rw [World.cell?_alloc_lt w4 o _ (World.block_lt_of_cell? w4 _ hc), hc, hu]
    · rw [List.getElem?_eq_none (by simp; omega)] at hu; simp at hu
  have H4 := Lib.hid (And.intro h4 hnews); clear h4 hbr hnews H3
  go_wp2_with (at_builtin; refine wpList_append_own_at _ rfl (.tmp 51) (.tmp 52) 22 rfl w4.heap.size 5 i0 (.int .u8 0) 1 1 Try.underlying22 HI.out.1 HI.out.2.1 HI.out.2.2.1 HI.out.2.2.2 rfl (by decide) (.slice (some ⟨w4.heap.size, 0, none⟩) 0 0) 0 [] rfl ?c0 ad nb bc ((List.range nb).map fun i => Value.int .u8 ((f i : Nat) : Int)) rfl ?c1 ?c2 ?c3 ?c4 ?c5 ?c6 ?_)
  case c0 => exact ⟨rfl, Or.inr ⟨_, 0, _, rfl, Nat.le_refl _, heap_alloc_new w4 _, Nat.le_refl _, by unfold maxLen; omega, rfl, rfl⟩⟩
  case c1 => simp
  case c2 => exact H4.out.2 _
  case c3 => intro u hu; rw [List.mem_map] at hu; obtain ⟨i, _, rfl⟩ := hu; rfl
  case c4 => unfold maxLen; omega
  case c5 => omega
  case c6 => simp
  intro v5 w5 hown5 hg5 _ hat5
  have hb5 : Below w4.heap.size w4 w5 := ((Below.refl _ _).alloc (Nat.le_refl _) _).grown hg5 (by simp) (by intro q hq; simp [Value.ownBlock] at hq; omega)
  have H5 := Lib.hid (And.intro (H4.out.1.below hb5) (And.intro hown5 hb5)); clear hown5 hg5 hat5 hb5
  go_wp2_with (at_builtin; refine wpList_append_own_at _ rfl (.tmp 53) (.tmp 55) 22 rfl w4.heap.size 5 i0 (.int .u8 0) 1 1 Try.underlying22 HI.out.1 HI.out.2.1 HI.out.2.2.1 HI.out.2.2.2 rfl (by decide) _ _ _ rfl (H5.out.2.1.alloc _) ⟨w5.heap.size, 0, none⟩ 1 1 [.int .u8 (more : Nat)] rfl rfl ?c1 ?c2 ?c3 ?c4 ?c5 ?_)
  case c1 => exact fun i u hu => cells_alloc [.int .u8 (more : Nat)] i u hu
  case c2 =>
    intro u hu
    rw [List.mem_singleton] at hu
    subst hu; rfl
  case c3 => unfold maxLen; omega
  case c4 => omega
  case c5 => have := H5.out.2.2.size; simp; omega
  intro v6 w6 hown6 hg6 _ hat6
  rw [longer_list] at hown6
  obtain ⟨lF, lA, lc, rfl, hlrow, _, hlnil⟩ := row_of_own hown6
  have hs6 := H4.out.1.below ((H5.out.2.2.alloc H5.out.2.2.size _).grown hg6 (by have := H5.out.2.2.size; simp; omega) (fun q hq => (own_lt H5.out.2.1 hq).2))
  have H6 := Lib.hid (And.intro hs6 (And.intro hlrow.brow hlnil)); clear hs6 hlrow hlnil hown6 hg6 hat6
  go_wp2_with fail
  refine (Ses.dec H6.out.1 H6.out.2.1 (by omega) (fun i _ => longer_lt (fun i => by rw [HW.out.2.2.2.2]; exact M.byteOf_lt _ _) ha i) H6.out.2.2).mono ?_
  rintro e w7 ⟨eB, ew, eG, eA, ec, eF, rfl, h7⟩
  have H7 := Lib.hid h7; clear h7 H4 H5 H6
  go_wp2_with fail
  refine (fresh_s H7.out).mono ?_
  rintro e w8 ⟨bq, gq, q0, q1, rfl, h8⟩
  have h9 := (h8.cells (bunC bq q0 q1) 45).enc
  rw [World.size_alloc] at h9
  -- e, cO, kO, long, d, cA, kA, cM, kM, b, row
  rw [bunV_eq]
  have hrow : _ := h9.mw10.sep.head
  obtain ⟨rA, rc, rfl, hrc1, hrc2, _⟩ := row_items hrow HW.out.2.1.2
  have H9 := Lib.hid h9; clear h8 h9 hrow H7
  have hdd := decode_all (n := nb) (f := f) (sz := ksz) (fr := fr0) shape0 (o := t.ops) (N := m) (fun i hi => (opsOf_fit (t.kd i) (t.mm i) (t.ss i) (HW.out.2.1.1 i hi)).1) (begins_bytes (by rw [← HW.out.2.2.1, ← HW.out.2.2.2.1]; exact Nat.le_refl _) (fun i _ => by rw [HW.out.2.2.2.2, HW.out.2.2.1]))
  have hdl := decode_all (n := nb + 1) (f := longer nb f more) (sz := ksz) (fr := fr0) shape0 (o := t.ops) (N := m) (fun i hi => (opsOf_fit (t.kd i) (t.mm i) (t.ss i) (HW.out.2.1.1 i hi)).1) (begins_bytes (by rw [← HW.out.2.2.1, ← HW.out.2.2.2.1]; omega) (fun i hi => by
    rw [← HW.out.2.2.1, ← HW.out.2.2.2.1] at hi
    unfold longer
    rw [if_pos hi, HW.out.2.2.2.2, HW.out.2.2.1]))
  have hcn : ∀ j, j ≤ m → (encTo fr0 t.ops j).1.cnt + 65 ≤ 32768 := fun j hj => by
    have h1 := (Its.st_ok (t := t) (j := j) (HW.out.2.1.1.less hj)).2
    have e : t.st j = encTo fr0 t.ops j := rfl
    rw [e] at h1
    omega
  have HD := Lib.hid (And.intro hdd (And.intro hdl hcn)); clear hdd hdl hcn
  go_wp2_with fail
  go_loopg [64] m (fun gh iv wr => ∃ (j : Nat) (F1 F2 F3 : List Nat), gh = m - j ∧ j ≤ m ∧ iv = .int .i64 (j : Nat) ∧ VRel w wr n0 n1 p0 p1 q0 q1 w2.heap.size w3.heap.size w8.heap.size (w8.heap.size + 1) bm g bp gp bq gq (fun _ => 0) (longer nb f more) nb f t w.heap.size (.slice rA m rc) m dB dw dG dA dc eB ew eG eA ec bG (some ad) j F1 F2 F3)
  case atStart => exact ⟨0, dF, [w8.heap.size + 1], eF, rfl, by omega, rfl, ⟨H9.out.mv1.mw5.mw7.mw4.mw5.mw7.mw6.mw8.mw8⟩⟩
  case round =>
    obtain ⟨j, F1, F2, F3, hgh, hj, rfl, hR⟩ := hrel
    have Hgh := Lib.hid hgh; clear hgh
    have HR := Lib.hid hR; clear hR H9
    by_cases hlt : j < m
    · obtain ⟨ra, rfl, hab, c0, c1, c2, b0, b1, b2, b3⟩ := own_items HR.out.ses.mw10.sep.head HW.out.2.1.2 j hlt
      rw [add_in ra (j * 3) 1 (by omega)] at c1
      rw [add_in ra (j * 3) 2 (by omega)] at c2
      have i0' : (0 : Int) ≤ (j : Int) := by omega
      have i1' : (j : Int) < (m : Int) := by omega
      have hfit := HW.out.2.1.1 j hlt
      obtain ⟨kd, ekd⟩ : ∃ k, k = t.kd j := ⟨_, rfl⟩
      obtain ⟨mm, emm⟩ : ∃ k, k = t.mm j := ⟨_, rfl⟩
      obtain ⟨ss, ess⟩ : ∃ k, k = t.ss j := ⟨_, rfl⟩
      have eops : t.ops j = opsOf kd mm ss := by rw [ekd, emm, ess]; rfl
      rw [← ekd, ← emm, ← ess] at hfit
      rw [← ekd] at c0 b0
      rw [← emm] at c1 b1
      rw [← ess] at c2 b2 b3
      clear hab ekd emm ess
      obtain ⟨d1, d2⟩ := HD.out.1 j hj
      obtain ⟨l1, l2⟩ := HD.out.2.1 j hj
      have d2' := d2 hlt
      have l2' := l2 hlt
      rw [eops] at d2' l2'
      have hcd : (decTo nb f fr0 t.ops j).1.cnt + 65 ≤ 32768 := by rw [dec_cnt]; exact HD.out.2.2 j hj
      have hcl : (decTo (nb + 1) (longer nb f more) fr0 t.ops j).1.cnt + 65 ≤ 32768 := by rw [dec_cnt]; exact HD.out.2.2 j hj
      have hx := HR.out.ses.cells #[.int .u8 (kd : Int), .int .u8 (mm : Int), .int .i64 ss] 61
      obtain ⟨x0, x1, x2⟩ := Ses.it (kind := kd) (m := mm) (s := ss) hx
      obtain ⟨k0, k1, k2, k3, k4, k5, k6⟩ := hx.mw7.bun
      have hget := iget_ok kd mm n0 n1 ss ss hx.mv2.mv2 d1 hcd b0 b1 b2 b3 (fun h => (hfit h).1) d2'
      have HG := Lib.hid (And.intro hget (And.intro hfit (And.intro l1 (And.intro l2' (And.intro eops hcl))))); clear hget hfit hx d1 d2 l1 l2 d2' l2' hcd hcl eops
      go_wp2_with fail
      refine HG.out.1.mono ?_
      rintro e w10 ⟨rfl, G1, h10⟩
      obtain ⟨x0, x1, x2⟩ := Ses.it (kind := kd) (m := mm) (s := ss) h10.mv2
      obtain ⟨k0, k1, k2, k3, k4, k5, k6⟩ := h10.mw8.bun
      have H10 := Lib.hid h10; clear h10 c0 c1 c2
      go_wp2_with fail
      refine (iput_ok kd mm p0 p1 ss H10.out.mw4.mw4 (Its.st_ok (t := t) (j := j) (HW.out.2.1.1.less hj)).1.shape (HD.out.2.2 j hj) b0 b1 b2 b3 HG.out.2.1).mono ?_
      rintro e w11 ⟨rfl, G2, h11⟩
      obtain ⟨x0, x1, x2⟩ := Ses.it (kind := kd) (m := mm) (s := ss) h11.mw4
      obtain ⟨k0, k1, k2, k3, k4, k5, k6⟩ := h11.mw9.bun
      have H11 := Lib.hid h11; clear h11 H10
      go_wp2_with fail
      refine (iget_ok kd mm q0 q1 ss ss H11.out.mw6.mw6 HG.out.2.2.1 HG.out.2.2.2.2.2 b0 b1 b2 b3 (fun h => (HG.out.2.1 h).1) HG.out.2.2.2.1).mono ?_
      rintro e w12 ⟨rfl, G3, h12⟩
      obtain ⟨x0, x1, x2⟩ := Ses.it (kind := kd) (m := mm) (s := ss) h12.mw6
      have H12 := Lib.hid h12.mw6.tail.mv3.mv3.mw5.mw5; clear h12 H11
      go_wp2_with fail
      go_roundg (m - (j + 1))
      case measure => have := Hgh.out; omega
      case rel =>
        refine ⟨j + 1, G1, G2, G3, rfl, by omega, by go_num, ?_⟩
        constructor
        rw [decTo_succ, decTo_succ, encTo_succ, HG.out.2.2.2.2.1]
        exact H12.out
    · obtain rfl : j = m := by omega
      clear hlt hj
      go_wp2_with fail
      obtain ⟨fin, efin⟩ : ∃ c, c = encTo fr0 t.ops j := ⟨_, rfl⟩
      have hfd : (decTo nb f fr0 t.ops j).2 = fin.2 := by rw [efin]; exact (dec_core nb f fr0 t.ops j).2
      have hend : endBits (decTo nb f fr0 t.ops j).1 = code := (dec_end nb f fr0 t.ops j).trans HW.out.2.2.1.symm
      have henl : endBits (decTo (nb + 1) (longer nb f more) fr0 t.ops j).1 = code := (dec_end (nb + 1) (longer nb f more) fr0 t.ops j).trans HW.out.2.2.1.symm
      have hc1 : (decTo nb f fr0 t.ops j).1.cnt ≤ 32768 := by rw [dec_cnt]; have := HD.out.2.2 j (Nat.le_refl _); omega
      have hc2 : (decTo (nb + 1) (longer nb f more) fr0 t.ops j).1.cnt ≤ 32768 := by rw [dec_cnt]; have := HD.out.2.2 j (Nat.le_refl _); omega
      have hc3 : fin.1.cnt ≤ 32768 := by rw [efin]; have := HD.out.2.2 j (Nat.le_refl _); omega
      have hfc : endBits fin.1 = code := by rw [efin]; exact HW.out.2.2.1.symm
      have hS0 := HR.out.ses
      rw [hfd, ← efin] at hS0
      obtain ⟨wb, ewb⟩ : ∃ x, x = wr := ⟨_, rfl⟩
      rw [← ewb] at hS0
      have HWB := Lib.hid ewb; clear ewb
      obtain ⟨ds, eds⟩ : ∃ c, c = (decTo nb f fr0 t.ops j).1 := ⟨_, rfl⟩
      obtain ⟨dl, edl⟩ : ∃ c, c = (decTo (nb + 1) (longer nb f more) fr0 t.ops j) := ⟨_, rfl⟩
      rw [← eds] at hend hc1 hS0
      rw [← edl] at henl hc2 hS0
      have HE := Lib.hid (And.intro hS0 (And.intro hend (And.intro henl (And.intro hc1 (And.intro hc2 (And.intro hc3 hfc)))))); clear hS0 hend henl hc1 hc2 hc3 hfc hfd efin eds edl HR
      go_loopg [105] 5 (fun gh iv wx => ∃ i : Nat, gh = 5 - i ∧ i ≤ 5 ∧ iv = .int .i64 (i : Nat) ∧ Below wb.heap.size wb wx)
      case atStart => exact ⟨0, rfl, by omega, rfl, by rw [HWB.out]; exact Below.refl _ _⟩
      case round =>
        obtain ⟨i, hgh, hi, rfl, hbx⟩ := hrel
        have Hgh := Lib.hid hgh; clear hgh
        have HB := Lib.hid hbx; clear hbx
        by_cases hi5 : i < 5
        · go_wp2_with fail
          go_loopg [108] 3 (fun gh sv wy => ∃ sy : Nat, gh = 3 - sy ∧ sy ≤ 3 ∧ sv = .int .i64 (sy : Nat) ∧ Below wb.heap.size wb wy)
          case atStart => exact ⟨0, rfl, by omega, rfl, HB.out⟩
          case round =>
            obtain ⟨sy, hgh2, hsy, rfl, hby⟩ := hrel
            have Hgh2 := Lib.hid hgh2; clear hgh2
            have hSy := HE.out.1.below hby
            by_cases hs3 : sy < 3
            · obtain ⟨T, eT⟩ : ∃ T : Nat, T = (fin.2 (6 + i)).sum := ⟨_, rfl⟩
              obtain ⟨Q, eQ⟩ : ∃ Q : Nat, Q = (fin.2 (6 + i)).getD sy 0 := ⟨_, rfl⟩
              have t1 := fun n => (hSy.drewN n).mv1.ktotal (6 + i) (T : Nat) (by omega) (by rw [eT])
              have t2 := fun n => (hSy.drewN n).mv3.ktotal (6 + i) (T : Nat) (by omega) (by rw [eT])
              have t3 := fun n => (hSy.drewN n).mv1.kfreq (6 + i) (sy : Nat) (Q : Nat) (by omega) (by rw [if_pos (by omega), eQ]; rfl)
              have t4 := fun n => (hSy.drewN n).mv3.kfreq (6 + i) (sy : Nat) (Q : Nat) (by omega) (by rw [if_pos (by omega), eQ]; rfl)
              have e1 := bunC_at hSy.mw6 hi5
              have e2 := bunC_at hSy.mw7 hi5
              have e3 := bunC_at hSy.drew.mw6 hi5
              have e4 := bunC_at hSy.drew.mw7 hi5
              have i1 : (0 : Int) ≤ (i : Nat) := by omega
              have i2 : ((i : Nat) : Int) < 5 := by omega
              have HT := Lib.hid (And.intro t1 (And.intro t2 (And.intro t3 (And.intro t4 hby)))); clear t1 t2 t3 t4 eT eQ hSy hby
              go_upto_region 25 with fail
              go_quiet (first
                | (go_at_call 14; with_reducible exact quiet_of_eq (HT.out.1 _))
                | (go_at_call 14; with_reducible exact quiet_of_eq (HT.out.2.1 _))
                | (go_at_call 13; with_reducible exact quiet_of_eq (HT.out.2.2.1 _))
                | (go_at_call 13; with_reducible exact quiet_of_eq (HT.out.2.2.2.1 _)))
              all_goals
                go_wp2_with fail
                go_roundg (3 - (sy + 1))
                case measure => have := Hgh2.out; omega
                case rel => exact ⟨sy + 1, rfl, by omega, by go_num, then_drewN HT.out.2.2.2.2 _⟩
            · have hs33 : ¬ ((sy : Nat) : Int) < 3 := by omega
              have HBY := Lib.hid hby; clear hby hSy
              go_wp2_with fail
              go_roundg (5 - (i + 1))
              case measure => have := Hgh.out; omega
              case rel => exact ⟨i + 1, rfl, by omega, by go_num, HBY.out⟩
        · have hi55 : ¬ ((i : Nat) : Int) < 5 := by omega
          have hS := HE.out.1.below HB.out
          have HS := Lib.hid hS; clear hS
          go_wp2_with fail
          refine (HS.out.end_ 0 HE.out.2.2.2.1 (ends_same HE.out.2.1 HW.out.2.2.2.1 HW.out.2.2.2.2)).mono ?_
          rintro e w20 ⟨rfl, h20⟩
          have H20 := Lib.hid h20.mw4; clear h20 HS
          go_wp2_with fail
          refine (H20.out.end_ 220 HE.out.2.2.2.2.1 (ends_long HE.out.2.2.1 HW.out.2.2.2.1)).mono ?_
          rintro e w21 ⟨rfl, h21⟩
          have H21 := Lib.hid h21.mv3; clear h21 H20
          go_wp2_with fail
          refine (H21.out.bytes_n HE.out.2.2.2.2.2.1).mono ?_
          rintro e w22 ⟨G22, A22, c22, rfl, _, h22⟩
          have H22 := Lib.hid h22; clear h22 H21
          go_wp2_with fail
          rw [HE.out.2.2.2.2.2.2, ← HW.out.2.2.2.1]
          have hb1 : BRow w22 A22 nb f := by
            have := Ses.brow H22.out
            rw [HE.out.2.2.2.2.2.2, ← HW.out.2.2.2.1, ← HW.out.2.2.2.2] at this
            exact this
          refine (SameBytes_to nb f f hb1 (Ses.brow H22.out.mw10) (fun _ _ => rfl) (by omega)).mono ?_
          rintro e w23 ⟨rfl, hb23⟩
          have H23 := Lib.hid (H22.out.below hb23); clear hb23 H22 hb1
          go_wp2_with fail
          refine (awake_ok w23).mono ?_
          rintro e w24 ⟨rfl, hb24⟩
          have H24 := Lib.hid (H23.out.below hb24); clear hb24 H23
          go_wp2_with fail
          go_ret
          exact ⟨rfl, H24.out.bel⟩
end Go.Proofs.Ytdekcilfkelhlaa
