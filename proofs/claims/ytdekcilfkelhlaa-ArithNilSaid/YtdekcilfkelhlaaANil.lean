/- ArithNil. -/
import Derived.Test.YtdekcilfkelhlaaANilDec
set_option linter.unusedVariables false
namespace Go.Proofs.Ytdekcilfkelhlaa
open Go.RowKit

theorem there9 {dw : Nat} (w : World) (h9 : w.cell? ⟨dw, 9, none⟩ = some (.bool true)) :
    Calls Try.prog 54 #[.pointer (some ⟨dw, 0, none⟩)] w fun e w' => e = .returned (.bool true) ∧ w = w' := by
  go_enter Try.func54, Try.ntmps54
  go_wp2_with fail
  go_ret
  exact ⟨rfl, rfl⟩
theorem badM_get9 {dw : Nat} (w : World) (p : Option Addr) (h9 : w.cell? ⟨dw, 9, none⟩ = some (.bool true)) (h : BadM w p) :
    Calls Try.prog 38 #[.pointer (some ⟨dw, 0, none⟩), .pointer p] w fun e w' => e = .returned (.tuple #[.int .i64 0, .int .i64 1]) ∧ w = w' := by
  have H := Lib.hid (And.intro (there9 w h9) (badM_there w p h))
  clear h h9
  go_enter Try.func38, Try.ntmps38
  go_wp2_with fail
  refine H.out.1.mono ?_
  rintro e w' ⟨rfl, rfl⟩
  go_wp2_with fail
  refine H.out.2.mono ?_
  rintro e w' ⟨rfl, rfl⟩
  go_wp2_with fail
  go_ret2
  exact ⟨rfl, rfl⟩
theorem badN_getInt9 {dw : Nat} (w : World) (p : Option Addr) (h9 : w.cell? ⟨dw, 9, none⟩ = some (.bool true)) (h : BadN w p) :
    Calls Try.prog 37 #[.pointer (some ⟨dw, 0, none⟩), .pointer p] w fun e w' => e = .returned (.tuple #[.int .i64 0, .int .i64 1]) ∧ w = w' := by
  have H := Lib.hid (And.intro (there9 w h9) (badN_there w p h))
  clear h h9
  go_enter Try.func37, Try.ntmps37
  go_wp2_with fail
  refine H.out.1.mono ?_
  rintro e w' ⟨rfl, rfl⟩
  go_wp2_with fail
  refine H.out.2.mono ?_
  rintro e w' ⟨rfl, rfl⟩
  go_wp2_with fail
  go_ret2
  exact ⟨rfl, rfl⟩
theorem Ses.blk {w0 w w' : World} {l : List Part} {cs : Array Value} {T : TypeId} (h : Ses w0 w l) (hb : w'.heap[w.heap.size]? = some (.cells cs T (0, 0))) (bel : Below w.heap.size w w') : Ses w0 w' (cPart w.heap.size cs T :: l) := by
  refine h.new bel ⟨hb, fun q hq => ?_, fun w2 hs _ => ?_⟩ (fun q hq => ?_)
  · have : q = w.heap.size := by simpa [cPart] using hq
    subst this
    exact lt_of_block hb
  · exact (hs w.heap.size (by simp [cPart])).trans hb
  · have : q = w.heap.size := by simpa [cPart] using hq
    omega
theorem Ses.cell {w0 w : World} {l : List Part} {b : Nat} {cs : Array Value} {T : TypeId} (h : Ses w0 w (cPart b cs T :: l)) (i : Nat) : w.cell? ⟨b, i, none⟩ = cs[i]? := cell_of_block (show w.heap[b]? = _ from h.sep.head) i

set_option maxRecDepth 100000 in
set_option maxHeartbeats 4000000 in
theorem nil_walk (A : Option Addr) (n cap : Nat) (f : Nat → Nat) (x : Int) (w : World) (hA : BRow w A n f) (hf : ∀ i, f i < 256) (hn : n ≤ 140737488355328) (hnil : A = none → n = 0 ∧ cap = 0) (x0 : -9223372036854775808 ≤ x) (x1 : x ≤ 9223372036854775807) :
    Calls Try.prog 11 #[.slice A n cap, .int .i64 x] w fun e w' => e = .returned (.bool true) ∧ Below w.heap.size w w' := by
  have HW := Lib.hid (And.intro hA (And.intro hf hnil)); clear hA hf hnil
  have HS := Lib.hid (Ses.start w)
  go_enter Try.func11, Try.ntmps11
  go_wp2_with fail
  refine (fresh_s HS.out).mono ?_
  rintro e w2 ⟨bm, g, n0, n1, rfl, h2⟩
  have H2 := Lib.hid ((h2.cells (bunC bm n0 n1) 45).enc); clear h2 HS
  rw [bunV_eq]
  go_wp2_with fail
  refine (NewDecoder_any A n cap f _ (HW.out.1.keepd H2.out.bel) hn (fun i _ => HW.out.2.1 i) HW.out.2.2).mono ?_
  rintro e w3 ⟨cs, rfl, hb3, h9, hb⟩
  have h3 := H2.out.blk hb3 hb
  -- d, e, cM, kM
  simp only [World.size_alloc] at h3
  have h4 := (h3.cells #[.slice none 0 0, .int .i64 0] 84).cells #[.pointer none, .pointer (some ⟨w3.heap.size, 0, none⟩)] 23
  simp only [World.size_alloc] at h4
  have H4 := Lib.hid (And.intro h4 h9); clear h3 h4 h9 hb3 hb H2
  go_wp2_with fail
  go_loopg [40] 2 (fun gh iv wr => ∃ i : Nat, gh = 2 - i ∧ i ≤ 2 ∧ iv = .int .i64 (i : Nat) ∧ Ses w wr [cPart (w3.heap.size + 1) #[.pointer none, .pointer (some ⟨w3.heap.size, 0, none⟩)] 23, cPart w3.heap.size #[.slice none 0 0, .int .i64 0] 84, cPart (w2.heap.size + 1 + 1) cs 90, encPart w.heap.size (w2.heap.size + 1) [w2.heap.size + 1] st0, cPart w2.heap.size (bunC bm n0 n1) 45, kPart 11 bm g (nums2 n0 n1) fr0])
  case atStart => exact ⟨0, by omega, by omega, rfl, H4.out.1⟩
  case round =>
    obtain ⟨i, hgh, hi, rfl, hR⟩ := hrel
    have Hgh := Lib.hid hgh; clear hgh
    have e9 := (hR.mv2.cell 9).trans H4.out.2
    have d0 : wr.cell? ⟨w3.heap.size + 1, 0, none⟩ = some (.pointer none) := (hR.cell 0).trans rfl
    have d1 : wr.cell? ⟨w3.heap.size + 1, 1, none⟩ = some (.pointer (some ⟨w3.heap.size, 0, none⟩)) := (hR.cell 1).trans rfl
    have hbad : BadM wr (some ⟨w3.heap.size, 0, none⟩) := Or.inr ⟨_, rfl, hR.mv1.sep.head⟩
    have hbad0 : BadM wr none := Or.inl rfl
    have HB := Lib.hid (And.intro e9 (And.intro hbad0 (And.intro hbad hR))); clear e9 hbad hbad0 hR H4
    by_cases hlt : i < 2
    · have : i = 0 ∨ i = 1 := by omega
      rcases this with rfl | rfl
      · go_wp2_with fail
        refine (badM_get9 wr none HB.out.1 HB.out.2.1).mono ?_
        rintro e w' ⟨rfl, rfl⟩
        go_wp2_with fail
        refine (badM_put _ x wr none HB.out.2.1).mono ?_
        rintro e w' ⟨rfl, rfl⟩
        go_wp2_with fail
        refine (badM_freq x wr none HB.out.2.1).mono ?_
        rintro e w' ⟨rfl, rfl⟩
        go_wp2_with fail
        refine (badM_freq 0 wr none HB.out.2.1).mono ?_
        rintro e w' ⟨rfl, rfl⟩
        go_wp2_with fail
        refine (badM_total wr none HB.out.2.1).mono ?_
        rintro e w' ⟨rfl, rfl⟩
        go_wp2_with fail
        go_roundg 1
        case measure => have := Hgh.out; omega
        case rel => exact ⟨1, rfl, by omega, by go_num, HB.out.2.2.2⟩
      · go_wp2_with fail
        refine (badM_get9 wr _ HB.out.1 HB.out.2.2.1).mono ?_
        rintro e w' ⟨rfl, rfl⟩
        go_wp2_with fail
        refine (badM_put _ x wr _ HB.out.2.2.1).mono ?_
        rintro e w' ⟨rfl, rfl⟩
        go_wp2_with fail
        refine (badM_freq x wr _ HB.out.2.2.1).mono ?_
        rintro e w' ⟨rfl, rfl⟩
        go_wp2_with fail
        refine (badM_freq 0 wr _ HB.out.2.2.1).mono ?_
        rintro e w' ⟨rfl, rfl⟩
        go_wp2_with fail
        refine (badM_total wr _ HB.out.2.2.1).mono ?_
        rintro e w' ⟨rfl, rfl⟩
        go_wp2_with fail
        go_roundg 0
        case measure => have := Hgh.out; omega
        case rel => exact ⟨2, rfl, by omega, by go_num, HB.out.2.2.2⟩
    · obtain rfl : i = 2 := by omega
      clear hlt hi Hgh d0 d1
      obtain ⟨wa, ewa⟩ : ∃ q : World, q = wr := ⟨_, rfl⟩
      subst ewa
      -- d, e, cM, kM and two more
      have h5 := (HB.out.2.2.2.tail.tail.cells #[.pointer none, .pointer none, .pointer none] 87).cells #[.pointer none, .pointer (some ⟨wa.heap.size, 0, none⟩)] 42
      simp only [World.size_alloc] at h5
      have e9 := HB.out.1
      have h9 : cs[9]? = some (.bool true) := (HB.out.2.2.2.mv2.cell 9).symm.trans e9
      have H5 := Lib.hid (And.intro h5 h9); clear h5 e9 h9 HB
      go_wp2_with fail
      go_loopg [83] 2 (fun gh iv wr => ∃ i : Nat, gh = 2 - i ∧ i ≤ 2 ∧ iv = .int .i64 (i : Nat) ∧ Ses w wr [cPart (wa.heap.size + 1) #[.pointer none, .pointer (some ⟨wa.heap.size, 0, none⟩)] 42, cPart wa.heap.size #[.pointer none, .pointer none, .pointer none] 87, cPart (w2.heap.size + 1 + 1) cs 90, encPart w.heap.size (w2.heap.size + 1) [w2.heap.size + 1] st0, cPart w2.heap.size (bunC bm n0 n1) 45, kPart 11 bm g (nums2 n0 n1) fr0])
      case atStart => exact ⟨0, by omega, by omega, rfl, H5.out.1⟩
      case round =>
        obtain ⟨i, hgh, hi, rfl, hR⟩ := hrel
        have Hgh := Lib.hid hgh; clear hgh
        have e9 := (hR.mv2.cell 9).trans H5.out.2
        have d0 : wr.cell? ⟨wa.heap.size + 1, 0, none⟩ = some (.pointer none) := (hR.cell 0).trans rfl
        have d1 : wr.cell? ⟨wa.heap.size + 1, 1, none⟩ = some (.pointer (some ⟨wa.heap.size, 0, none⟩)) := (hR.cell 1).trans rfl
        have hbad : BadN wr (some ⟨wa.heap.size, 0, none⟩) := Or.inr ⟨_, rfl, hR.mv1.sep.head⟩
        have hbad0 : BadN wr none := Or.inl rfl
        have h9 := H5.out.2
        have HB := Lib.hid (And.intro e9 (And.intro hbad0 (And.intro hbad (And.intro hR h9)))); clear e9 hbad hbad0 hR H5 h9
        by_cases hlt : i < 2
        · have : i = 0 ∨ i = 1 := by omega
          rcases this with rfl | rfl
          · go_wp2_with fail
            refine (badN_getInt9 wr none HB.out.1 HB.out.2.1).mono ?_
            rintro e w' ⟨rfl, rfl⟩
            go_wp2_with fail
            refine (badN_putInt _ x wr none HB.out.2.1).mono ?_
            rintro e w' ⟨rfl, rfl⟩
            go_wp2_with fail
            go_roundg 1
            case measure => have := Hgh.out; omega
            case rel => exact ⟨1, rfl, by omega, by go_num, HB.out.2.2.2.1⟩
          · go_wp2_with fail
            refine (badN_getInt9 wr _ HB.out.1 HB.out.2.2.1).mono ?_
            rintro e w' ⟨rfl, rfl⟩
            go_wp2_with fail
            refine (badN_putInt _ x wr _ HB.out.2.2.1).mono ?_
            rintro e w' ⟨rfl, rfl⟩
            go_wp2_with fail
            go_roundg 0
            case measure => have := Hgh.out; omega
            case rel => exact ⟨2, rfl, by omega, by go_num, HB.out.2.2.2.1⟩
        · obtain rfl : i = 2 := by omega
          clear hlt hi Hgh d0 d1
          obtain ⟨wc, ewc⟩ : ∃ q : World, q = wr := ⟨_, rfl⟩
          subst ewc
          have h6 := (HB.out.2.2.2.1.tail.tail.cells #[.int .u64 0, .int .u64 0, .int .i64 0, .int .i64 0, .slice none 0 0, .int .i64 0, .int .u64 0, .slice none 0 0, .int .i64 0, .bool false] 90).cells #[.pointer none, .pointer (some ⟨wc.heap.size, 0, none⟩)] 56
          simp only [World.size_alloc] at h6
          have H6 := Lib.hid h6; clear h6 HB
          go_wp2_with fail
          go_loopg [110] 2 (fun gh iv wr => ∃ i : Nat, gh = 2 - i ∧ i ≤ 2 ∧ iv = .int .i64 (i : Nat) ∧ Ses w wr [cPart (wc.heap.size + 1) #[.pointer none, .pointer (some ⟨wc.heap.size, 0, none⟩)] 56, cPart wc.heap.size #[.int .u64 0, .int .u64 0, .int .i64 0, .int .i64 0, .slice none 0 0, .int .i64 0, .int .u64 0, .slice none 0 0, .int .i64 0, .bool false] 90, cPart (w2.heap.size + 1 + 1) cs 90, encPart w.heap.size (w2.heap.size + 1) [w2.heap.size + 1] st0, cPart w2.heap.size (bunC bm n0 n1) 45, kPart 11 bm g (nums2 n0 n1) fr0])
          case atStart => exact ⟨0, by omega, by omega, rfl, H6.out⟩
          case round =>
            obtain ⟨i, hgh, hi, rfl, hR⟩ := hrel
            have Hgh := Lib.hid hgh; clear hgh
            have d0 : wr.cell? ⟨wc.heap.size + 1, 0, none⟩ = some (.pointer none) := (hR.cell 0).trans rfl
            have d1 : wr.cell? ⟨wc.heap.size + 1, 1, none⟩ = some (.pointer (some ⟨wc.heap.size, 0, none⟩)) := (hR.cell 1).trans rfl
            have hbad : BadD wr (some ⟨wc.heap.size, 0, none⟩) := Or.inr ⟨_, rfl, (hR.mv1.cell 9).trans rfl⟩
            have hbad0 : BadD wr none := Or.inl rfl
            obtain ⟨k0, k1, k2, k3, k4, k5, k6⟩ := hR.mw4.bun
            have HB := Lib.hid (And.intro hbad0 (And.intro hbad hR)); clear hbad hbad0 hR H6
            by_cases hlt : i < 2
            · have : i = 0 ∨ i = 1 := by omega
              rcases this with rfl | rfl
              · go_wp2_with fail
                refine (badD_get wr none _ HB.out.1).mono ?_
                rintro e w' ⟨rfl, rfl⟩
                go_wp2_with fail
                refine (badD_getInt wr none _ HB.out.1).mono ?_
                rintro e w' ⟨rfl, rfl⟩
                go_wp2_with fail
                refine (badD_end wr none HB.out.1).mono ?_
                rintro e w' ⟨rfl, rfl⟩
                go_wp2_with fail
                go_roundg 1
                case measure => have := Hgh.out; omega
                case rel => exact ⟨1, rfl, by omega, by go_num, HB.out.2.2⟩
              · go_wp2_with fail
                refine (badD_get wr _ _ HB.out.2.1).mono ?_
                rintro e w' ⟨rfl, rfl⟩
                go_wp2_with fail
                refine (badD_getInt wr _ _ HB.out.2.1).mono ?_
                rintro e w' ⟨rfl, rfl⟩
                go_wp2_with fail
                refine (badD_end wr _ HB.out.2.1).mono ?_
                rintro e w' ⟨rfl, rfl⟩
                go_wp2_with fail
                go_roundg 0
                case measure => have := Hgh.out; omega
                case rel => exact ⟨2, rfl, by omega, by go_num, HB.out.2.2⟩
            · obtain rfl : i = 2 := by omega
              clear hlt hi Hgh d0 d1 k0 k1 k2 k3 k4 k5 k6
              obtain ⟨wd, ewd⟩ : ∃ q : World, q = wr := ⟨_, rfl⟩
              subst ewd
              obtain ⟨m0, hm0⟩ : ∃ m : Int, (if (0 : Int) < x then 0 else x) = m := ⟨_, rfl⟩
              obtain ⟨m1, hm1⟩ : ∃ m : Int, (if x < 257 then 257 else x) = m := ⟨_, rfl⟩
              have hm0' : m0 < 1 := by split at hm0 <;> omega
              have hm1' : 256 < m1 := by split at hm1 <;> omega
              have hm0b : -9223372036854775808 ≤ m0 := by split at hm0 <;> omega
              have hm1b : m1 ≤ 9223372036854775807 := by split at hm1 <;> omega
              have h7 := HB.out.2.2.tail.tail.cells #[.int .i64 m0, .int .i64 m1] 3
              have H7 := Lib.hid h7; clear h7 HB
              go_wp2_with fail
              go_loopg [156] 2 (fun gh iv wr => ∃ i : Nat, gh = 2 - i ∧ i ≤ 2 ∧ iv = .int .i64 (i : Nat) ∧ Ses w wr [cPart wd.heap.size #[.int .i64 m0, .int .i64 m1] 3, cPart (w2.heap.size + 1 + 1) cs 90, encPart w.heap.size (w2.heap.size + 1) [w2.heap.size + 1] st0, cPart w2.heap.size (bunC bm n0 n1) 45, kPart 11 bm g (nums2 n0 n1) fr0])
              case atStart => exact ⟨0, by omega, by omega, rfl, H7.out⟩
              case round =>
                obtain ⟨i, hgh, hi, rfl, hR⟩ := hrel
                have Hgh := Lib.hid hgh; clear hgh
                have d0 : wr.cell? ⟨wd.heap.size, 0, none⟩ = some (.int .i64 m0) := (hR.cell 0).trans rfl
                have d1 : wr.cell? ⟨wd.heap.size, 1, none⟩ = some (.int .i64 m1) := (hR.cell 1).trans rfl
                have HB := Lib.hid hR; clear hR H7
                by_cases hlt : i < 2
                · have : i = 0 ∨ i = 1 := by omega
                  rcases this with rfl | rfl
                  · go_wp2_with fail
                    refine (NewModel_arg m0 wr (Or.inl hm0')).mono ?_
                    rintro e w' ⟨rfl, rfl⟩
                    go_wp2_with fail
                    go_roundg 1
                    case measure => have := Hgh.out; omega
                    case rel => exact ⟨1, rfl, by omega, by go_num, HB.out⟩
                  · go_wp2_with fail
                    refine (NewModel_arg m1 wr (Or.inr hm1')).mono ?_
                    rintro e w' ⟨rfl, rfl⟩
                    go_wp2_with fail
                    go_roundg 0
                    case measure => have := Hgh.out; omega
                    case rel => exact ⟨2, rfl, by omega, by go_num, HB.out⟩
                · obtain rfl : i = 2 := by omega
                  clear hlt hi Hgh d0 d1
                  obtain ⟨k0, k1, k2, k3, k4, k5, k6⟩ := HB.out.mv3.bun
                  obtain ⟨a1, ha1⟩ : ∃ m : Int, (if (-1 : Int) < x then -1 else x) = m := ⟨_, rfl⟩
                  obtain ⟨a2, ha2⟩ : ∃ m : Int, (if x < 2 then 2 else x) = m := ⟨_, rfl⟩
                  have ha1' : a1 < 0 := by split at ha1 <;> omega
                  have ha2' : 2 ≤ a2 := by split at ha2 <;> omega
                  have ha1b : -9223372036854775808 ≤ a1 := by split at ha1 <;> omega
                  have ha2b : a2 ≤ 9223372036854775807 := by split at ha2 <;> omega
                  have hk : KAt wr 11 bm g (nums2 n0 n1) fr0 := HB.out.mw4.sep.head
                  have hm7 := hk.mod 7 (by decide)
                  have hl7 : (fr0 7).length = 2 := by decide
                  have p1 := Put_arg (bw := w2.heap.size + 1) a1 wr hm7 (Or.inl ha1')
                  have p2 := Put_arg (bw := w2.heap.size + 1) a2 wr hm7 (Or.inr (by rw [hl7]; exact ha2'))
                  have p3 := HB.out.mw4.ktotal 7 2 (by decide) (by decide)
                  have HP := Lib.hid (And.intro p1 (And.intro p2 p3)); clear p1 p2 p3 hk hm7 hl7
                  go_wp2_with fail
                  refine (nilE_put _ 0 wr).mono ?_
                  rintro e w' ⟨rfl, rfl⟩
                  go_wp2_with fail
                  refine (nilE_putInt _ 0 wr).mono ?_
                  rintro e w' ⟨rfl, rfl⟩
                  go_wp2_with fail
                  refine (nilE_bytes wr).mono ?_
                  rintro e w' ⟨rfl, rfl⟩
                  go_wp2_with fail
                  refine HP.out.1.mono ?_
                  rintro e w' ⟨rfl, rfl⟩
                  go_wp2_with fail
                  refine HP.out.2.1.mono ?_
                  rintro e w' ⟨rfl, rfl⟩
                  go_wp2_with fail
                  refine HP.out.2.2.mono ?_
                  rintro e w' ⟨rfl, rfl⟩
                  go_wp2_with fail
                  refine (HB.out.mv2.bytes 1 (by decide) e_st0.1).mono ?_
                  rintro e w10 ⟨A10, c10, rfl, r10, _, h10⟩
                  have H10 := Lib.hid (And.intro r10 h10); clear r10 h10 k0 k1 k2 k3 k4 k5 k6
                  go_wp2_with fail
                  refine (H10.out.2.same 64 H10.out.1 e_st0.2 _ rfl).mono ?_
                  rintro e w11 ⟨rfl, h11⟩
                  have H11 := Lib.hid (h11.alloc (.cells #[.int .u8 64] 5)); clear h11 H10
                  go_wp2_with fail
                  refine (H11.out.dec (A := some ⟨w11.heap.size, 0, none⟩) (n := 1) (cap := 1) (f := fun _ => 64) (BRow.lit (heap_alloc_new w11 _) (by intro i hi; (obtain rfl : i = 0 := by omega); rfl)) (by decide) (fun _ _ => by show 64 < 256; decide) (fun e => by cases e)).mono ?_
                  rintro e w12 ⟨B12, b12, G12, A12, c12, F12, rfl, h12⟩
                  have H12 := Lib.hid h12; clear h12 H11
                  go_wp2_with fail
                  refine (H12.out.end_ 0 (by decide) ?_).mono ?_
                  · rw [core_end (core_dec 1 fun _ => 64), if_pos]
                    rw [e_st0.1]
                    rw [listF_eq (fun i _ => M.byteOf_lt _ _) (fun i _ => by show 64 < 256; decide)]
                    refine ⟨rfl, fun i hi => ?_⟩
                    obtain rfl : i = 0 := by omega
                    exact e_st0.2
                  rintro e w13 ⟨rfl, h13⟩
                  have H13 := Lib.hid h13; clear h13 H12
                  go_wp2_with fail
                  refine (awake_ok w13).mono ?_
                  rintro e w14 ⟨rfl, hb14⟩
                  have H14 := Lib.hid (H13.out.below hb14); clear hb14
                  go_wp2_with fail
                  go_ret
                  exact ⟨rfl, H14.out.bel⟩
end Go.Proofs.Ytdekcilfkelhlaa
