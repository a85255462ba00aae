/- Reader: rest, number, code. -/
import Derived.Test.YtpnlcnilhlcfpaaBRead
set_option linter.unusedVariables false
namespace Go.Proofs.Ytpnlcnilhlcfpaa
open Go.RowKit
open M (bitsOf bitsOf_length codeBits codeBits_length zig zag numOf zeros codeA)

theorem rest_ok (br : Nat) (F : List Nat) (bl : List Bool) (a : Nat) (bad : Int) (w : World) (h : RAt w br F bl a bad) :
    Calls Try.prog 23 #[.pointer (some ⟨br, 0, none⟩)] w fun e w' => e = .returned (.int .i64 ((bl.length - a : Nat) : Int)) ∧ ∃ m, w' = w.drewN m := by
  obtain ⟨A, n, cap, hb, hl, ha, hn, hnF, hF, hrow⟩ := h
  have c1 := (cell_of_block hb 1).trans rfl
  have c2 := (cell_of_block hb 2).trans rfl
  have hv : 8 * (n : Int) - (a : Int) = ((bl.length - a : Nat) : Int) := by omega
  have H := Lib.hid hv
  have w1 : IntKind.i64.wrap (8 * (n : Int)) = 8 * (n : Int) := Go.IntWalk.i64_in _ (by omega)
  have w2 : IntKind.i64.wrap (8 * (n : Int) - (a : Int)) = 8 * (n : Int) - (a : Int) := Go.IntWalk.i64_in _ (by omega)
  clear hv hb hl ha hn hnF hF hrow
  go_enter Try.func23, Try.ntmps23
  go_wp2_with fail
  go_quiet (fail)
  go_wp2
  go_ret
  exact ⟨ret_congr (congrArg (Value.int .i64) H.out), nq, rfl⟩

theorem number_ok (br : Nat) (F : List Nat) (bl : List Bool) (a k : Nat) (bad : Int) (w : World) (h : RAt w br F bl a bad) (hk : a + k ≤ bl.length) (hk2 : k ≤ 64) :
    Calls Try.prog 34 #[.pointer (some ⟨br, 0, none⟩), .int .i64 (k : Int)] w fun e w' => e = .returned (.tuple #[.int .u64 (numOf ((bl.drop a).take k) : Nat), .int .i64 0]) ∧ RAt w' br F bl (a + k) bad ∧ Only br w w' := by
  have hr := rest_ok br F bl a bad w h
  have hg := fun m => get_ok br F bl a k bad (w.drewN m) (h.drewN m) hk hk2
  have H := Lib.hid (And.intro hr hg)
  have hd : decide (((bl.length - a : Nat) : Int) < (k : Int)) = false := decide_eq_false (by omega)
  have hd2 : decide ((bl.length - a : Nat) < k) = false := decide_eq_false (by omega)
  clear h hr hg
  go_enter Try.func34, Try.ntmps34
  go_wp2_with fail
  refine H.out.1.mono ?_
  rintro e w' ⟨rfl, m, rfl⟩
  go_wp2_with fail
  refine (H.out.2 m).mono ?_
  rintro e w' ⟨rfl, h1, h2⟩
  have HQ := Lib.hid (And.intro h1 h2); clear h1 h2
  go_wp2_with fail
  go_ret2
  exact ⟨rfl, HQ.out.1, ⟨HQ.out.2.os, HQ.out.2.tape, HQ.out.2.output, HQ.out.2.size, HQ.out.2.block⟩⟩

theorem number_short (br : Nat) (F : List Nat) (bl : List Bool) (a k : Nat) (bad : Int) (w : World) (h : RAt w br F bl a bad) (hk : bl.length < a + k) (hk2 : k ≤ 64) :
    Calls Try.prog 34 #[.pointer (some ⟨br, 0, none⟩), .int .i64 (k : Int)] w fun e w' => e = .returned (.tuple #[.int .u64 0, .int .i64 180]) ∧ ∃ m, w' = w.drewN m := by
  have hr := rest_ok br F bl a bad w h
  have H := Lib.hid hr
  have hd : decide (((bl.length - a : Nat) : Int) < (k : Int)) = true := decide_eq_true (by obtain ⟨A, n, cap, hb, hl, ha, _⟩ := h; omega)
  have hd2 : decide ((bl.length - a : Nat) < k) = true := decide_eq_true (by obtain ⟨A, n, cap, hb, hl, ha, _⟩ := h; omega)
  clear h hr
  go_enter Try.func34, Try.ntmps34
  go_wp2_with fail
  refine H.out.mono ?_
  rintro e w' ⟨rfl, m, rfl⟩
  go_wp2_with fail
  go_ret2
  exact ⟨rfl, m, rfl⟩

theorem get_bit (br : Nat) (F : List Nat) (bl : List Bool) (a : Nat) (b : Bool) (bad : Int) (w : World) (h : RAt w br F bl a bad) (hk : a < bl.length) (hb : bl.getD a false = b) :
    Calls Try.prog 24 #[.pointer (some ⟨br, 0, none⟩), .int .i64 1] w fun e w' => e = .returned (.int .u64 (b.toNat : Nat)) ∧ RAt w' br F bl (a + 1) bad ∧ Only br w w' := by
  have := get_ok br F bl a 1 bad w h (by omega) (by omega)
  have e : (bl.drop a).take 1 = [b] := by
    have := M.take_one_more (l := bl) (a := a) (j := 0) (by omega)
    rw [show a + 0 = a from rfl, hb] at this
    simpa using this
  rw [e] at this
  have e2 : numOf [b] = b.toNat := by simp [numOf]
  rw [e2] at this
  exact this
theorem get_at (br : Nat) (F : List Nat) (bl : List Bool) (a k : Nat) (K : Int) (bad : Int) (w : World) (h : RAt w br F bl a bad) (hK : K = k) (hk : a + k ≤ bl.length) (hk2 : k ≤ 64) :
    Calls Try.prog 24 #[.pointer (some ⟨br, 0, none⟩), .int .i64 K] w fun e w' => e = .returned (.int .u64 (numOf ((bl.drop a).take k) : Nat)) ∧ RAt w' br F bl (a + k) bad ∧ Only br w w' := by
  subst hK; exact get_ok br F bl a k bad w h hk hk2

theorem Only.drewN_left {b n : Nat} {w x : World} (h : Only b (w.drewN n) x) : Only b w x := ⟨h.os, h.tape, h.output, h.size, h.block⟩

/-- What a call of code leaves: the Reader stands somewhere; behind the code if there was no error. -/
def CodeEnd (br : Nat) (F : List Nat) (bl : List Bool) (bad : Int) (w w' : World) (r : Nat × Nat × List Bool) : Prop :=
  Only br w w' ∧ ∃ a', RAt w' br F bl a' bad ∧ (r.1 = 0 → bl.drop a' = r.2.2)

set_option maxRecDepth 100000 in
set_option maxHeartbeats 1000000 in
theorem code_ok (br : Nat) (F : List Nat) (bl : List Bool) (a k : Nat) (bad : Int) (w : World) (h : RAt w br F bl a bad) (hk : k ≤ 30) :
    Calls Try.prog 35 #[.pointer (some ⟨br, 0, none⟩), .int .i64 (k : Int)] w fun e w' => e = .returned (.tuple #[.int .u64 ((codeA k (bl.drop a)).2.1 : Nat), .int .i64 ((codeA k (bl.drop a)).1 : Nat)]) ∧ CodeEnd br F bl bad w w' (codeA k (bl.drop a)) := by
  have HW := Lib.hid h
  have hal : a ≤ bl.length := by obtain ⟨A, n, cap, hb, hl, ha, _⟩ := h; exact ha
  have hbl : bl.length ≤ 8000000 := by obtain ⟨A, n, cap, hb, hl, ha, hn, _⟩ := h; omega
  clear h
  obtain ⟨s, hs⟩ : ∃ s, s = bl.drop a := ⟨_, rfl⟩
  rw [← hs]
  have hsl : s.length = bl.length - a := by rw [hs, List.length_drop]
  have hzl := M.zeros_le s
  obtain ⟨r, hr⟩ : ∃ r, r = codeA k s := ⟨_, rfl⟩
  rw [← hr]
  obtain ⟨z, hz⟩ : ∃ z, z = zeros s := ⟨_, rfl⟩
  have HS := Lib.hid (And.intro hs (And.intro hr hz))
  rw [← hz] at hzl
  have hsl2 : s.length ≤ 8000000 := by omega
  have HL := Lib.hid hsl
  clear hs hr hz hsl
  go_enter Try.func35, Try.ntmps35
  go_wp2_with fail
  go_loopg [6] (66 - 0) (fun gh v wr => ∃ q : Nat, gh = 66 - q ∧ q ≤ z ∧ q ≤ 65 ∧ v = .int .i64 q ∧ (RAt wr br F bl (a + q) bad ∧ Only br w wr))
  case atStart => exact ⟨0, rfl, by omega, by omega, rfl, HW.out, Only.refl _ _⟩
  case round =>
    obtain ⟨q, hgh, hq, hq65, rfl, hR⟩ := hrel
    have Hgh := Lib.hid hgh; clear hgh
    have HR := Lib.hid hR; clear hR
    by_cases h64 : 64 < q + k
    · go_wp2_with fail
      go_ret2
      have e : codeA k s = (M.form, 0, s) := by
        unfold codeA
        rw [← HS.out.2.2, if_pos (by omega)]
      rw [HS.out.2.1, e]
      exact ⟨rfl, HR.out.2, _, HR.out.1, fun h => absurd (show (181 : Nat) = 0 from h) (by decide)⟩
    · have hrest := rest_ok br F bl (a + q) bad wr HR.out.1
      rw [show bl.length - (a + q) = s.length - q from by have := HL.out; omega] at hrest
      have HRest := Lib.hid hrest; clear hrest
      by_cases hend : q = s.length
      · have hzq : z = s.length := by omega
        have e : codeA k s = (M.short, 0, s) := by
          unfold codeA
          rw [← HS.out.2.2, if_neg (by omega), if_pos hzq]
        have e0 : (((s.length - q : Nat) : Int) == 0) = true := by rw [beq_iff_eq]; omega
        have e1 : ((s.length - q : Nat) == 0) = true := by rw [beq_iff_eq]; omega
        have HE := Lib.hid e
        clear hend hzq e
        go_wp2_with fail
        refine HRest.out.mono ?_
        rintro e w' ⟨rfl, m, rfl⟩
        go_wp2_with fail
        go_ret2
        rw [HS.out.2.1, HE.out]
        exact ⟨rfl, HR.out.2.drewN m, _, HR.out.1.drewN m, fun h => absurd (show (180 : Nat) = 0 from h) (by decide)⟩
      · have e0 : (((s.length - q : Nat) : Int) == 0) = false := by rw [beq_eq_false_iff_ne]; omega
        have e1 : ((s.length - q : Nat) == 0) = false := by rw [beq_eq_false_iff_ne]; omega
        have hlt : a + q < bl.length := by have := HL.out; omega
        by_cases hqz : q < z
        · have hbit : bl.getD (a + q) false = false := by
            have := M.zeros_getD s q (by rw [← HS.out.2.2]; exact hqz)
            rw [HS.out.1, List.getD_eq_getElem?_getD, List.getElem?_drop, List.getElem?_eq_getElem hlt] at this
            rw [List.getD_eq_getElem?_getD, List.getElem?_eq_getElem hlt]
            exact this
          have hgb := fun m => get_bit br F bl (a + q) false bad (wr.drewN m) (HR.out.1.drewN m) hlt hbit
          have HG := Lib.hid hgb; clear hgb hbit
          go_wp2_with fail
          refine HRest.out.mono ?_
          rintro e w' ⟨rfl, m, rfl⟩
          go_wp2_with fail
          refine (HG.out m).mono ?_
          rintro e w' ⟨rfl, h1, h2⟩
          have HQ := Lib.hid (And.intro h1 h2); clear h1 h2
          go_wp2_with fail
          go_roundg (66 - (q + 1))
          case measure => have := Hgh.out; omega
          case rel => exact ⟨q + 1, rfl, by omega, by omega, by go_num, HQ.out.1, HR.out.2.trans HQ.out.2.drewN_left⟩
        · have hqz : q = z := by omega
          have hbit : bl.getD (a + q) false = true := by
            have := M.zeros_one s (by rw [← HS.out.2.2]; omega)
            rw [← HS.out.2.2, ← hqz, HS.out.1, List.getD_eq_getElem?_getD, List.getElem?_drop, List.getElem?_eq_getElem hlt] at this
            rw [List.getD_eq_getElem?_getD, List.getElem?_eq_getElem hlt]
            exact this
          have hgb := fun m => get_bit br F bl (a + q) true bad (wr.drewN m) (HR.out.1.drewN m) hlt hbit
          obtain ⟨t, ht⟩ : ∃ t, t = s.drop (q + 1) := ⟨_, rfl⟩
          have htl : t.length = s.length - (q + 1) := by rw [ht, List.length_drop]
          have htb : t = bl.drop (a + q + 1) := by rw [ht, HS.out.1, List.drop_drop]; congr 1
          have hrr : r = if t.length < q + k then (M.short, 0, s) else if q + k = 64 ∧ 2 ^ k ≤ numOf (t.take (q + k)) then (M.form, 0, s) else (0, numOf (t.take (q + k)) + 2 ^ (q + k) - 2 ^ k, s.drop (2 * q + k + 1)) := by
            rw [HS.out.2.1]
            unfold codeA
            rw [← HS.out.2.2, ← hqz, if_neg (by omega), if_neg (by omega), ← ht]
          have hrest2 := fun w' h => rest_ok br F bl (a + q + 1) bad w' h
          rw [show bl.length - (a + q + 1) = t.length from by rw [htl]; have := HL.out; omega] at hrest2
          have hget := fun (w' : World) h => get_at br F bl (a + q + 1) (q + k) ((q : Int) + k) bad w' h (by omega)
          rw [← htb] at hget
          have hlen := HL.out
          have hdd : (2 * q + k + 1 : Nat) = q + 1 + (q + k) := by omega
          have hdrop : s.drop (2 * q + k + 1) = bl.drop (a + q + 1 + (q + k)) := by rw [HS.out.1, List.drop_drop]; congr 1; omega
          have htle : t.length ≤ 8000000 := by omega
          have hqk64 : q + k ≤ 64 := by omega
          have HG := Lib.hid (And.intro hgb (And.intro hrr (And.intro hrest2 (And.intro hget (And.intro hdrop (And.intro htl hlen))))))
          clear hgb hrr hrest2 hget hdrop htb ht hbit hlen htl hdd hqz hlt
          by_cases hsh : t.length < q + k
          · have hrr := HG.out.2.1
            rw [if_pos hsh] at hrr
            have HE := Lib.hid hrr; clear hrr
            have d1 : decide ((t.length : Int) < (q : Int) + (k : Int)) = true := decide_eq_true (by omega)
            go_wp2_with fail
            refine HRest.out.mono ?_
            rintro e w' ⟨rfl, m, rfl⟩
            go_wp2_with fail
            refine (HG.out.1 m).mono ?_
            rintro e w1 ⟨rfl, h1, h2⟩
            have HQ := Lib.hid (And.intro h1 h2); clear h1 h2
            go_wp2_with fail
            refine (HG.out.2.2.1 _ HQ.out.1).mono ?_
            rintro e w' ⟨rfl, m2, rfl⟩
            go_wp2_with fail
            go_ret2
            rw [HE.out]
            exact ⟨rfl, (HR.out.2.trans HQ.out.2.drewN_left).drewN m2, _, HQ.out.1.drewN m2, fun h => absurd (show (180 : Nat) = 0 from h) (by decide)⟩
          · have d1 : decide ((t.length : Int) < (q : Int) + (k : Int)) = false := decide_eq_false (by omega)
            obtain ⟨N, hN⟩ : ∃ N, N = numOf (t.take (q + k)) := ⟨_, rfl⟩
            have hNb : N < 2 ^ (q + k) := by
              rw [hN]
              refine Nat.lt_of_lt_of_le (M.numOf_lt _) (Nat.pow_le_pow_right (by decide) ?_)
              rw [List.length_take]; omega
            have hrr := HG.out.2.1
            rw [if_neg hsh, ← hN] at hrr
            have hpk : 2 ^ k ≤ 2 ^ (q + k) := Nat.pow_le_pow_right (by decide) (by omega)
            have hkk := wrap_pow (k := k) (by omega)
            have hp30 := pow_lo hk
            have HN := Lib.hid hN; clear hN
            by_cases hlow : q + k < 64
            · rw [if_neg (by omega)] at hrr
              have HE := Lib.hid hrr; clear hrr
              have hqq := wrap_pow (k := q + k) (by omega)
              have hp63 : 2 ^ (q + k) ≤ 2 ^ 63 := Nat.pow_le_pow_right (by decide) (by omega)
              generalize 2 ^ (q + k) = V at *
              generalize 2 ^ k = U at *
              have e63 : (2 : Nat) ^ 63 = 9223372036854775808 := rfl
              rw [e63] at hp63
              have hv : ((N + V - U : Nat) : Int) = (N : Int) + V - U := by omega
              have HV := Lib.hid hv
              have b1 : IntKind.u64.wrap ((N : Int) + (V : Int)) = (N : Int) + V := Bv.wrap_in (by omega) (by omega)
              have b2 : IntKind.u64.wrap ((N : Int) + (V : Int) - (U : Int)) = (N : Int) + V - U := Bv.wrap_in (by omega) (by omega)
              have hwq : IntKind.i64.wrap ((q : Int) + (k : Int)) = (q : Int) + (k : Int) := Go.IntWalk.i64_in _ (by omega)
              have h0q : (0 : Int) ≤ (q : Int) + (k : Int) := by omega
              have htn : ((q : Int) + (k : Int)).toNat = q + k := by omega
              clear hv hp30 hp63 e63 hNb hpk
              go_wp2_with fail
              refine HRest.out.mono ?_
              rintro e w' ⟨rfl, m, rfl⟩
              go_wp2_with fail
              refine (HG.out.1 m).mono ?_
              rintro e w1 ⟨rfl, h1, h2⟩
              have HQ := Lib.hid (And.intro h1 h2); clear h1 h2
              go_wp2_with fail
              refine (HG.out.2.2.1 _ HQ.out.1).mono ?_
              rintro e w' ⟨rfl, m2, rfl⟩
              go_wp2_with fail
              refine (HG.out.2.2.2.1 _ (HQ.out.1.drewN m2) (by have := HG.out.2.2.2.2.2.1; have := HG.out.2.2.2.2.2.2; omega) (by omega)).mono ?_
              rintro e w3 ⟨rfl, h1, h2⟩
              have HQ2 := Lib.hid (And.intro h1 h2); clear h1 h2
              rw [← HN.out]
              go_wp2_with fail
              go_quiet (fail)
              go_wp2
              go_ret2
              rw [HE.out]
              refine ⟨ret2_congr (congrArg (Value.int .u64) HV.out.symm) rfl, ?_⟩
              exact ⟨((HR.out.2.trans HQ.out.2.drewN_left).trans HQ2.out.2.drewN_left).drewN nq, _, HQ2.out.1.drewN nq, fun _ => HG.out.2.2.2.2.1.symm⟩
            · have hq64 : q + k = 64 := by omega
              rw [hq64] at hrr
              generalize 2 ^ k = U at *
              clear hNb hpk
              by_cases hU : U ≤ N
              · rw [if_pos ⟨rfl, hU⟩] at hrr
                have HE := Lib.hid hrr; clear hrr
                have hUi : (U : Int) ≤ (N : Int) := by omega
                have H64 := Lib.hid hq64; clear hq64
                go_wp2_with fail
                refine HRest.out.mono ?_
                rintro e w' ⟨rfl, m, rfl⟩
                go_wp2_with fail
                refine (HG.out.1 m).mono ?_
                rintro e w1 ⟨rfl, h1, h2⟩
                have HQ := Lib.hid (And.intro h1 h2); clear h1 h2
                go_wp2_with fail
                refine (HG.out.2.2.1 _ HQ.out.1).mono ?_
                rintro e w' ⟨rfl, m2, rfl⟩
                go_wp2_with fail
                refine (HG.out.2.2.2.1 _ (HQ.out.1.drewN m2) (by have := HG.out.2.2.2.2.2.1; have := HG.out.2.2.2.2.2.2; omega) (by omega)).mono ?_
                rintro e w3 ⟨rfl, h1, h2⟩
                have HQ2 := Lib.hid (And.intro h1 h2); clear h1 h2
                rw [← HN.out]
                go_wp2_with fail
                go_ret2
                rw [HE.out]
                exact ⟨rfl, (HR.out.2.trans HQ.out.2.drewN_left).trans HQ2.out.2.drewN_left, _, HQ2.out.1, fun h => absurd (show (181 : Nat) = 0 from h) (by decide)⟩
              · rw [if_neg (fun h => hU h.2)] at hrr
                have HE := Lib.hid hrr; clear hrr
                have hUi : (N : Int) < (U : Int) := by omega
                have hv : ((N + 2 ^ 64 - U : Nat) : Int) = IntKind.u64.wrap ((N : Int) - (U : Int)) := by rw [IntKind.wrap_u64]; omega
                have HV := Lib.hid hv; clear hv
                have H64 := Lib.hid hq64; clear hq64
                go_wp2_with fail
                refine HRest.out.mono ?_
                rintro e w' ⟨rfl, m, rfl⟩
                go_wp2_with fail
                refine (HG.out.1 m).mono ?_
                rintro e w1 ⟨rfl, h1, h2⟩
                have HQ := Lib.hid (And.intro h1 h2); clear h1 h2
                go_wp2_with fail
                refine (HG.out.2.2.1 _ HQ.out.1).mono ?_
                rintro e w' ⟨rfl, m2, rfl⟩
                go_wp2_with fail
                refine (HG.out.2.2.2.1 _ (HQ.out.1.drewN m2) (by have := HG.out.2.2.2.2.2.1; have := HG.out.2.2.2.2.2.2; omega) (by omega)).mono ?_
                rintro e w3 ⟨rfl, h1, h2⟩
                have HQ2 := Lib.hid (And.intro h1 h2); clear h1 h2
                rw [← HN.out]
                go_wp2_with fail
                go_ret2
                rw [HE.out]
                refine ⟨ret2_congr (congrArg (Value.int .u64) HV.out.symm) rfl, ?_⟩
                exact ⟨(HR.out.2.trans HQ.out.2.drewN_left).trans HQ2.out.2.drewN_left, _, HQ2.out.1, fun _ => HG.out.2.2.2.2.1.symm⟩
end Go.Proofs.Ytpnlcnilhlcfpaa
