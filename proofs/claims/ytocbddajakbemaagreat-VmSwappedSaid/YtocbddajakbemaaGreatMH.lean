/- vm, the front end: letter, digit, value, sign. vm, the front end: sign. -/
import Derived.Test.YtocbddajakbemaaGreatMF
set_option linter.unusedVariables false
set_option linter.unusedSimpArgs false
set_option linter.unusedSimpArgs false
namespace Go.Proofs.YtocbddajakbemaaGreat
section
open Go.RowKit
def isLet (k : Nat) : Bool := (decide (97 ≤ k) && decide (k ≤ 122)) || (decide (65 ≤ k) && decide (k ≤ 90)) || decide (k = 95)
def isDig (k : Nat) : Bool := decide (48 ≤ k) && decide (k ≤ 57)
theorem letter_ok (k : Nat) (w : World) : Calls Tryz.prog 55 #[.int .u8 k] w fun e w' => e = .returned (.bool (isLet k)) ∧ w = w' := by
  by_cases h1 : 97 ≤ k
  · by_cases h2 : k ≤ 122
    · have HD := Lib.hid (show isLet k = true from by unfold isLet; simp [h1, h2])
      go_enter Tryz.func55, Tryz.ntmps55
      go_wp2_with fail
      go_ret
      exact ⟨by first | (rw [HD.out]; rfl) | ((show Ending.returned (Value.bool _) = Ending.returned (Value.bool _)); rw [HD.out]; congr 2; simp; done) | ((show Ending.returned (Value.bool _) = Ending.returned (Value.bool _)); rw [HD.out]; congr 2; simp; omega) | ((show Ending.returned (Value.bool _) = Ending.returned (Value.bool _)); rw [HD.out]; congr 2; rw [Bool.eq_iff_iff]; simp; omega), rfl⟩
    · have HD := Lib.hid (show isLet k = false from by unfold isLet; simp; omega)
      have h3 : ¬ k ≤ 90 := by omega
      have h4 : 65 ≤ k := by omega
      have h5 : ¬ k = 95 := by omega
      go_enter Tryz.func55, Tryz.ntmps55
      go_wp2_with fail
      go_ret
      exact ⟨by first | (rw [HD.out]; rfl) | ((show Ending.returned (Value.bool _) = Ending.returned (Value.bool _)); rw [HD.out]; congr 2; simp; done) | ((show Ending.returned (Value.bool _) = Ending.returned (Value.bool _)); rw [HD.out]; congr 2; simp; omega) | ((show Ending.returned (Value.bool _) = Ending.returned (Value.bool _)); rw [HD.out]; congr 2; rw [Bool.eq_iff_iff]; simp; omega), rfl⟩
  · by_cases h2 : 65 ≤ k
    · by_cases h3 : k ≤ 90
      · have HD := Lib.hid (show isLet k = true from by unfold isLet; simp [h2, h3])
        go_enter Tryz.func55, Tryz.ntmps55
        go_wp2_with fail
        go_ret
        exact ⟨by first | (rw [HD.out]; rfl) | ((show Ending.returned (Value.bool _) = Ending.returned (Value.bool _)); rw [HD.out]; congr 2; simp; done) | ((show Ending.returned (Value.bool _) = Ending.returned (Value.bool _)); rw [HD.out]; congr 2; simp; omega) | ((show Ending.returned (Value.bool _) = Ending.returned (Value.bool _)); rw [HD.out]; congr 2; rw [Bool.eq_iff_iff]; simp; omega), rfl⟩
      · have HD := Lib.hid (show isLet k = decide (k = 95) from by unfold isLet; simp [h1, h3])
        go_enter Tryz.func55, Tryz.ntmps55
        go_wp2_with fail
        go_ret
        exact ⟨by first | (rw [HD.out]; rfl) | ((show Ending.returned (Value.bool _) = Ending.returned (Value.bool _)); rw [HD.out]; congr 2; simp; done) | ((show Ending.returned (Value.bool _) = Ending.returned (Value.bool _)); rw [HD.out]; congr 2; simp; omega) | ((show Ending.returned (Value.bool _) = Ending.returned (Value.bool _)); rw [HD.out]; congr 2; rw [Bool.eq_iff_iff]; simp; omega), rfl⟩
    · have HD := Lib.hid (show isLet k = false from by unfold isLet; simp; omega)
      have h5 : ¬ k = 95 := by omega
      go_enter Tryz.func55, Tryz.ntmps55
      go_wp2_with fail
      go_ret
      exact ⟨by first | (rw [HD.out]; rfl) | ((show Ending.returned (Value.bool _) = Ending.returned (Value.bool _)); rw [HD.out]; congr 2; simp; done) | ((show Ending.returned (Value.bool _) = Ending.returned (Value.bool _)); rw [HD.out]; congr 2; simp; omega) | ((show Ending.returned (Value.bool _) = Ending.returned (Value.bool _)); rw [HD.out]; congr 2; rw [Bool.eq_iff_iff]; simp; omega), rfl⟩
theorem digit_ok (k : Nat) (w : World) : Calls Tryz.prog 56 #[.int .u8 k] w fun e w' => e = .returned (.bool (isDig k)) ∧ w = w' := by
  by_cases h1 : 48 ≤ k
  · have HD := Lib.hid (show isDig k = decide (k ≤ 57) from by unfold isDig; simp [h1])
    go_enter Tryz.func56, Tryz.ntmps56
    go_wp2_with fail
    go_ret
    exact ⟨by first | (rw [HD.out]; rfl) | ((show Ending.returned (Value.bool _) = Ending.returned (Value.bool _)); rw [HD.out]; congr 2; simp; done) | ((show Ending.returned (Value.bool _) = Ending.returned (Value.bool _)); rw [HD.out]; congr 2; simp; omega) | ((show Ending.returned (Value.bool _) = Ending.returned (Value.bool _)); rw [HD.out]; congr 2; rw [Bool.eq_iff_iff]; simp; omega), rfl⟩
  · have HD := Lib.hid (show isDig k = false from by unfold isDig; simp [h1])
    go_enter Tryz.func56, Tryz.ntmps56
    go_wp2_with fail
    go_ret
    exact ⟨by first | (rw [HD.out]; rfl) | ((show Ending.returned (Value.bool _) = Ending.returned (Value.bool _)); rw [HD.out]; congr 2; simp; done) | ((show Ending.returned (Value.bool _) = Ending.returned (Value.bool _)); rw [HD.out]; congr 2; simp; omega) | ((show Ending.returned (Value.bool _) = Ending.returned (Value.bool _)); rw [HD.out]; congr 2; rw [Bool.eq_iff_iff]; simp; omega), rfl⟩
theorem value_48 (s : ByteArray) (hs : s.size = 1) (hb : (s[0]'(by omega)).toNat = 48) (w : World) :
    Calls Tryz.prog 57 #[.string s] w fun e w' => e = .returned (.tuple #[.int .i64 0, .bool true]) ∧ w = w' := by
  obtain ⟨c, ec⟩ : ∃ c, c = 48 := ⟨_, rfl⟩
  rw [← ec] at hb
  have D := digit_ok c w
  rw [show isDig c = true from by rw [ec]; rfl] at D
  have hv : wrap64 ((c : Int) - 48) = 0 := by rw [ec]; unfold wrap64; omega
  have hv0 : wrap64 (c : Int) = (c : Int) := by unfold wrap64; omega
  clear ec
  go_enter Tryz.func57, Tryz.ntmps57
  go_wp2_with fail
  go_loopg [4, 5] 1 (fun gh nv iv wr => w = wr ∧ ((gh = 1 ∧ nv = .int .i64 0 ∧ iv = .int .i64 0) ∨ (gh = 0 ∧ nv = .int .i64 0 ∧ iv = .int .i64 1)))
  case atStart => exact ⟨rfl, Or.inl ⟨rfl, rfl, rfl⟩⟩
  case round =>
    obtain ⟨rfl, ⟨rfl, rfl, rfl⟩ | ⟨rfl, rfl, rfl⟩⟩ := hrel
    · go_wp2_with (go_at_call 56; refine D.mono ?_; rintro e w' ⟨rfl, rfl⟩)
      go_roundg 0
      case measure => omega
      case rel => exact ⟨rfl, Or.inr ⟨rfl, rfl, rfl⟩⟩
    · go_wp2_with fail
      go_ret2
      exact ⟨rfl, rfl⟩
theorem value_49 (s : ByteArray) (hs : s.size = 1) (hb : (s[0]'(by omega)).toNat = 49) (w : World) :
    Calls Tryz.prog 57 #[.string s] w fun e w' => e = .returned (.tuple #[.int .i64 1, .bool true]) ∧ w = w' := by
  obtain ⟨c, ec⟩ : ∃ c, c = 49 := ⟨_, rfl⟩
  rw [← ec] at hb
  have D := digit_ok c w
  rw [show isDig c = true from by rw [ec]; rfl] at D
  have hv : wrap64 ((c : Int) - 48) = 1 := by rw [ec]; unfold wrap64; omega
  have hv0 : wrap64 (c : Int) = (c : Int) := by unfold wrap64; omega
  clear ec
  go_enter Tryz.func57, Tryz.ntmps57
  go_wp2_with fail
  go_loopg [4, 5] 1 (fun gh nv iv wr => w = wr ∧ ((gh = 1 ∧ nv = .int .i64 0 ∧ iv = .int .i64 0) ∨ (gh = 0 ∧ nv = .int .i64 1 ∧ iv = .int .i64 1)))
  case atStart => exact ⟨rfl, Or.inl ⟨rfl, rfl, rfl⟩⟩
  case round =>
    obtain ⟨rfl, ⟨rfl, rfl, rfl⟩ | ⟨rfl, rfl, rfl⟩⟩ := hrel
    · go_wp2_with (go_at_call 56; refine D.mono ?_; rintro e w' ⟨rfl, rfl⟩)
      go_roundg 0
      case measure => omega
      case rel => exact ⟨rfl, Or.inr ⟨rfl, rfl, rfl⟩⟩
    · go_wp2_with fail
      go_ret2
      exact ⟨rfl, rfl⟩
theorem value_50 (s : ByteArray) (hs : s.size = 1) (hb : (s[0]'(by omega)).toNat = 50) (w : World) :
    Calls Tryz.prog 57 #[.string s] w fun e w' => e = .returned (.tuple #[.int .i64 2, .bool true]) ∧ w = w' := by
  obtain ⟨c, ec⟩ : ∃ c, c = 50 := ⟨_, rfl⟩
  rw [← ec] at hb
  have D := digit_ok c w
  rw [show isDig c = true from by rw [ec]; rfl] at D
  have hv : wrap64 ((c : Int) - 48) = 2 := by rw [ec]; unfold wrap64; omega
  have hv0 : wrap64 (c : Int) = (c : Int) := by unfold wrap64; omega
  clear ec
  go_enter Tryz.func57, Tryz.ntmps57
  go_wp2_with fail
  go_loopg [4, 5] 1 (fun gh nv iv wr => w = wr ∧ ((gh = 1 ∧ nv = .int .i64 0 ∧ iv = .int .i64 0) ∨ (gh = 0 ∧ nv = .int .i64 2 ∧ iv = .int .i64 1)))
  case atStart => exact ⟨rfl, Or.inl ⟨rfl, rfl, rfl⟩⟩
  case round =>
    obtain ⟨rfl, ⟨rfl, rfl, rfl⟩ | ⟨rfl, rfl, rfl⟩⟩ := hrel
    · go_wp2_with (go_at_call 56; refine D.mono ?_; rintro e w' ⟨rfl, rfl⟩)
      go_roundg 0
      case measure => omega
      case rel => exact ⟨rfl, Or.inr ⟨rfl, rfl, rfl⟩⟩
    · go_wp2_with fail
      go_ret2
      exact ⟨rfl, rfl⟩
theorem value_51 (s : ByteArray) (hs : s.size = 1) (hb : (s[0]'(by omega)).toNat = 51) (w : World) :
    Calls Tryz.prog 57 #[.string s] w fun e w' => e = .returned (.tuple #[.int .i64 3, .bool true]) ∧ w = w' := by
  obtain ⟨c, ec⟩ : ∃ c, c = 51 := ⟨_, rfl⟩
  rw [← ec] at hb
  have D := digit_ok c w
  rw [show isDig c = true from by rw [ec]; rfl] at D
  have hv : wrap64 ((c : Int) - 48) = 3 := by rw [ec]; unfold wrap64; omega
  have hv0 : wrap64 (c : Int) = (c : Int) := by unfold wrap64; omega
  clear ec
  go_enter Tryz.func57, Tryz.ntmps57
  go_wp2_with fail
  go_loopg [4, 5] 1 (fun gh nv iv wr => w = wr ∧ ((gh = 1 ∧ nv = .int .i64 0 ∧ iv = .int .i64 0) ∨ (gh = 0 ∧ nv = .int .i64 3 ∧ iv = .int .i64 1)))
  case atStart => exact ⟨rfl, Or.inl ⟨rfl, rfl, rfl⟩⟩
  case round =>
    obtain ⟨rfl, ⟨rfl, rfl, rfl⟩ | ⟨rfl, rfl, rfl⟩⟩ := hrel
    · go_wp2_with (go_at_call 56; refine D.mono ?_; rintro e w' ⟨rfl, rfl⟩)
      go_roundg 0
      case measure => omega
      case rel => exact ⟨rfl, Or.inr ⟨rfl, rfl, rfl⟩⟩
    · go_wp2_with fail
      go_ret2
      exact ⟨rfl, rfl⟩
end
end Go.Proofs.YtocbddajakbemaaGreat
namespace Go.Proofs.YtocbddajakbemaaGreat
section
open Go.RowKit
def oneL : List Nat := [43, 45, 42, 47, 37, 60, 62, 33, 61, 40, 41, 91, 93, 123, 125, 44, 59]
theorem below_drewN {B : Nat} {w w' : World} (h : Below B w w') (m : Nat) : Below B w (w'.drewN m) := ⟨h.os, h.tape, h.output, h.size, h.block⟩
set_option maxRecDepth 100000 in
set_option maxHeartbeats 2000000 in
theorem sign_two (s : ByteArray) (c : Nat) (h2 : 2 ≤ s.size) (t1 : ((s.extract 0 2).toList == [61, 61]) = false) (t2 : ((s.extract 0 2).toList == [33, 61]) = false) (t3 : ((s.extract 0 2).toList == [60, 61]) = false) (t4 : ((s.extract 0 2).toList == [62, 61]) = false) (t5 : ((s.extract 0 2).toList == [38, 38]) = false) (t6 : ((s.extract 0 2).toList == [124, 124]) = false) (hc0 : (s[0]'(by omega)).toNat = c) (hm : c ∈ oneL) (w : World) :
    Calls Tryz.prog 58 #[.string s] w fun e w' => e = .returned (.int .i64 1) ∧ Below w.heap.size w w' := by
  have h3 : (2 : Int) ≤ (s.size : Int) := by omega
  have HM0 := Lib.hid hm; clear hm
  go_enter Tryz.func58, Tryz.ntmps58
  go_wp2_with fail
  go_loopg [5] 17 (fun gh iv wr => ∃ j : Nat, gh = 17 - j ∧ j ≤ 17 ∧ iv = .int .i64 (j : Nat) ∧ c ∈ oneL.drop j ∧ Below w.heap.size w wr)
  case atStart => exact ⟨0, rfl, by omega, rfl, HM0.out, Below.refl _ _⟩
  case round =>
    obtain ⟨j, rfl, hj, rfl, hmem, hb⟩ := hrel
    rcases (show j = 0 ∨ j = 1 ∨ j = 2 ∨ j = 3 ∨ j = 4 ∨ j = 5 ∨ j = 6 ∨ j = 7 ∨ j = 8 ∨ j = 9 ∨ j = 10 ∨ j = 11 ∨ j = 12 ∨ j = 13 ∨ j = 14 ∨ j = 15 ∨ j = 16 ∨ j = 17 from by omega) with rfl | rfl | rfl | rfl | rfl | rfl | rfl | rfl | rfl | rfl | rfl | rfl | rfl | rfl | rfl | rfl | rfl | rfl
    · have q : (({ data := #[43, 45, 42, 47, 37, 60, 62, 33, 61, 40, 41, 91, 93, 123, 125, 44, 59] } : ByteArray)[0]'(by decide)).toNat = 43 := rfl
      by_cases hc : c = 43
      · as_aux_lemma =>
        have hc2 : ((c : Int) == 43) = true := by rw [hc]; rfl
        clear hmem hc
        go_wp2_with fail
        go_quiet (fail)
        go_wp2_with fail
        go_ret
        exact ⟨rfl, below_drewN hb _⟩
      · as_aux_lemma =>
        have hc2 : ((c : Int) == 43) = false := by simp; omega
        have HM := Lib.hid (And.intro (show c ∈ oneL.drop 1 from (List.mem_cons.1 (show c ∈ 43 :: oneL.drop 1 from hmem)).resolve_left hc) hb)
        clear hmem hc hb
        go_wp2_with fail
        go_quiet (fail)
        go_wp2_with fail
        go_roundg 16
        case measure => omega
        case rel => exact ⟨1, rfl, by omega, rfl, HM.out.1, below_drewN HM.out.2 _⟩
    · have q : (({ data := #[43, 45, 42, 47, 37, 60, 62, 33, 61, 40, 41, 91, 93, 123, 125, 44, 59] } : ByteArray)[1]'(by decide)).toNat = 45 := rfl
      by_cases hc : c = 45
      · as_aux_lemma =>
        have hc2 : ((c : Int) == 45) = true := by rw [hc]; rfl
        clear hmem hc
        go_wp2_with fail
        go_quiet (fail)
        go_wp2_with fail
        go_ret
        exact ⟨rfl, below_drewN hb _⟩
      · as_aux_lemma =>
        have hc2 : ((c : Int) == 45) = false := by simp; omega
        have HM := Lib.hid (And.intro (show c ∈ oneL.drop 2 from (List.mem_cons.1 (show c ∈ 45 :: oneL.drop 2 from hmem)).resolve_left hc) hb)
        clear hmem hc hb
        go_wp2_with fail
        go_quiet (fail)
        go_wp2_with fail
        go_roundg 15
        case measure => omega
        case rel => exact ⟨2, rfl, by omega, rfl, HM.out.1, below_drewN HM.out.2 _⟩
    · have q : (({ data := #[43, 45, 42, 47, 37, 60, 62, 33, 61, 40, 41, 91, 93, 123, 125, 44, 59] } : ByteArray)[2]'(by decide)).toNat = 42 := rfl
      by_cases hc : c = 42
      · as_aux_lemma =>
        have hc2 : ((c : Int) == 42) = true := by rw [hc]; rfl
        clear hmem hc
        go_wp2_with fail
        go_quiet (fail)
        go_wp2_with fail
        go_ret
        exact ⟨rfl, below_drewN hb _⟩
      · as_aux_lemma =>
        have hc2 : ((c : Int) == 42) = false := by simp; omega
        have HM := Lib.hid (And.intro (show c ∈ oneL.drop 3 from (List.mem_cons.1 (show c ∈ 42 :: oneL.drop 3 from hmem)).resolve_left hc) hb)
        clear hmem hc hb
        go_wp2_with fail
        go_quiet (fail)
        go_wp2_with fail
        go_roundg 14
        case measure => omega
        case rel => exact ⟨3, rfl, by omega, rfl, HM.out.1, below_drewN HM.out.2 _⟩
    · have q : (({ data := #[43, 45, 42, 47, 37, 60, 62, 33, 61, 40, 41, 91, 93, 123, 125, 44, 59] } : ByteArray)[3]'(by decide)).toNat = 47 := rfl
      by_cases hc : c = 47
      · as_aux_lemma =>
        have hc2 : ((c : Int) == 47) = true := by rw [hc]; rfl
        clear hmem hc
        go_wp2_with fail
        go_quiet (fail)
        go_wp2_with fail
        go_ret
        exact ⟨rfl, below_drewN hb _⟩
      · as_aux_lemma =>
        have hc2 : ((c : Int) == 47) = false := by simp; omega
        have HM := Lib.hid (And.intro (show c ∈ oneL.drop 4 from (List.mem_cons.1 (show c ∈ 47 :: oneL.drop 4 from hmem)).resolve_left hc) hb)
        clear hmem hc hb
        go_wp2_with fail
        go_quiet (fail)
        go_wp2_with fail
        go_roundg 13
        case measure => omega
        case rel => exact ⟨4, rfl, by omega, rfl, HM.out.1, below_drewN HM.out.2 _⟩
    · have q : (({ data := #[43, 45, 42, 47, 37, 60, 62, 33, 61, 40, 41, 91, 93, 123, 125, 44, 59] } : ByteArray)[4]'(by decide)).toNat = 37 := rfl
      by_cases hc : c = 37
      · as_aux_lemma =>
        have hc2 : ((c : Int) == 37) = true := by rw [hc]; rfl
        clear hmem hc
        go_wp2_with fail
        go_quiet (fail)
        go_wp2_with fail
        go_ret
        exact ⟨rfl, below_drewN hb _⟩
      · as_aux_lemma =>
        have hc2 : ((c : Int) == 37) = false := by simp; omega
        have HM := Lib.hid (And.intro (show c ∈ oneL.drop 5 from (List.mem_cons.1 (show c ∈ 37 :: oneL.drop 5 from hmem)).resolve_left hc) hb)
        clear hmem hc hb
        go_wp2_with fail
        go_quiet (fail)
        go_wp2_with fail
        go_roundg 12
        case measure => omega
        case rel => exact ⟨5, rfl, by omega, rfl, HM.out.1, below_drewN HM.out.2 _⟩
    · have q : (({ data := #[43, 45, 42, 47, 37, 60, 62, 33, 61, 40, 41, 91, 93, 123, 125, 44, 59] } : ByteArray)[5]'(by decide)).toNat = 60 := rfl
      by_cases hc : c = 60
      · as_aux_lemma =>
        have hc2 : ((c : Int) == 60) = true := by rw [hc]; rfl
        clear hmem hc
        go_wp2_with fail
        go_quiet (fail)
        go_wp2_with fail
        go_ret
        exact ⟨rfl, below_drewN hb _⟩
      · as_aux_lemma =>
        have hc2 : ((c : Int) == 60) = false := by simp; omega
        have HM := Lib.hid (And.intro (show c ∈ oneL.drop 6 from (List.mem_cons.1 (show c ∈ 60 :: oneL.drop 6 from hmem)).resolve_left hc) hb)
        clear hmem hc hb
        go_wp2_with fail
        go_quiet (fail)
        go_wp2_with fail
        go_roundg 11
        case measure => omega
        case rel => exact ⟨6, rfl, by omega, rfl, HM.out.1, below_drewN HM.out.2 _⟩
    · have q : (({ data := #[43, 45, 42, 47, 37, 60, 62, 33, 61, 40, 41, 91, 93, 123, 125, 44, 59] } : ByteArray)[6]'(by decide)).toNat = 62 := rfl
      by_cases hc : c = 62
      · as_aux_lemma =>
        have hc2 : ((c : Int) == 62) = true := by rw [hc]; rfl
        clear hmem hc
        go_wp2_with fail
        go_quiet (fail)
        go_wp2_with fail
        go_ret
        exact ⟨rfl, below_drewN hb _⟩
      · as_aux_lemma =>
        have hc2 : ((c : Int) == 62) = false := by simp; omega
        have HM := Lib.hid (And.intro (show c ∈ oneL.drop 7 from (List.mem_cons.1 (show c ∈ 62 :: oneL.drop 7 from hmem)).resolve_left hc) hb)
        clear hmem hc hb
        go_wp2_with fail
        go_quiet (fail)
        go_wp2_with fail
        go_roundg 10
        case measure => omega
        case rel => exact ⟨7, rfl, by omega, rfl, HM.out.1, below_drewN HM.out.2 _⟩
    · have q : (({ data := #[43, 45, 42, 47, 37, 60, 62, 33, 61, 40, 41, 91, 93, 123, 125, 44, 59] } : ByteArray)[7]'(by decide)).toNat = 33 := rfl
      by_cases hc : c = 33
      · as_aux_lemma =>
        have hc2 : ((c : Int) == 33) = true := by rw [hc]; rfl
        clear hmem hc
        go_wp2_with fail
        go_quiet (fail)
        go_wp2_with fail
        go_ret
        exact ⟨rfl, below_drewN hb _⟩
      · as_aux_lemma =>
        have hc2 : ((c : Int) == 33) = false := by simp; omega
        have HM := Lib.hid (And.intro (show c ∈ oneL.drop 8 from (List.mem_cons.1 (show c ∈ 33 :: oneL.drop 8 from hmem)).resolve_left hc) hb)
        clear hmem hc hb
        go_wp2_with fail
        go_quiet (fail)
        go_wp2_with fail
        go_roundg 9
        case measure => omega
        case rel => exact ⟨8, rfl, by omega, rfl, HM.out.1, below_drewN HM.out.2 _⟩
    · have q : (({ data := #[43, 45, 42, 47, 37, 60, 62, 33, 61, 40, 41, 91, 93, 123, 125, 44, 59] } : ByteArray)[8]'(by decide)).toNat = 61 := rfl
      by_cases hc : c = 61
      · as_aux_lemma =>
        have hc2 : ((c : Int) == 61) = true := by rw [hc]; rfl
        clear hmem hc
        go_wp2_with fail
        go_quiet (fail)
        go_wp2_with fail
        go_ret
        exact ⟨rfl, below_drewN hb _⟩
      · as_aux_lemma =>
        have hc2 : ((c : Int) == 61) = false := by simp; omega
        have HM := Lib.hid (And.intro (show c ∈ oneL.drop 9 from (List.mem_cons.1 (show c ∈ 61 :: oneL.drop 9 from hmem)).resolve_left hc) hb)
        clear hmem hc hb
        go_wp2_with fail
        go_quiet (fail)
        go_wp2_with fail
        go_roundg 8
        case measure => omega
        case rel => exact ⟨9, rfl, by omega, rfl, HM.out.1, below_drewN HM.out.2 _⟩
    · have q : (({ data := #[43, 45, 42, 47, 37, 60, 62, 33, 61, 40, 41, 91, 93, 123, 125, 44, 59] } : ByteArray)[9]'(by decide)).toNat = 40 := rfl
      by_cases hc : c = 40
      · as_aux_lemma =>
        have hc2 : ((c : Int) == 40) = true := by rw [hc]; rfl
        clear hmem hc
        go_wp2_with fail
        go_quiet (fail)
        go_wp2_with fail
        go_ret
        exact ⟨rfl, below_drewN hb _⟩
      · as_aux_lemma =>
        have hc2 : ((c : Int) == 40) = false := by simp; omega
        have HM := Lib.hid (And.intro (show c ∈ oneL.drop 10 from (List.mem_cons.1 (show c ∈ 40 :: oneL.drop 10 from hmem)).resolve_left hc) hb)
        clear hmem hc hb
        go_wp2_with fail
        go_quiet (fail)
        go_wp2_with fail
        go_roundg 7
        case measure => omega
        case rel => exact ⟨10, rfl, by omega, rfl, HM.out.1, below_drewN HM.out.2 _⟩
    · have q : (({ data := #[43, 45, 42, 47, 37, 60, 62, 33, 61, 40, 41, 91, 93, 123, 125, 44, 59] } : ByteArray)[10]'(by decide)).toNat = 41 := rfl
      by_cases hc : c = 41
      · as_aux_lemma =>
        have hc2 : ((c : Int) == 41) = true := by rw [hc]; rfl
        clear hmem hc
        go_wp2_with fail
        go_quiet (fail)
        go_wp2_with fail
        go_ret
        exact ⟨rfl, below_drewN hb _⟩
      · as_aux_lemma =>
        have hc2 : ((c : Int) == 41) = false := by simp; omega
        have HM := Lib.hid (And.intro (show c ∈ oneL.drop 11 from (List.mem_cons.1 (show c ∈ 41 :: oneL.drop 11 from hmem)).resolve_left hc) hb)
        clear hmem hc hb
        go_wp2_with fail
        go_quiet (fail)
        go_wp2_with fail
        go_roundg 6
        case measure => omega
        case rel => exact ⟨11, rfl, by omega, rfl, HM.out.1, below_drewN HM.out.2 _⟩
    · have q : (({ data := #[43, 45, 42, 47, 37, 60, 62, 33, 61, 40, 41, 91, 93, 123, 125, 44, 59] } : ByteArray)[11]'(by decide)).toNat = 91 := rfl
      by_cases hc : c = 91
      · as_aux_lemma =>
        have hc2 : ((c : Int) == 91) = true := by rw [hc]; rfl
        clear hmem hc
        go_wp2_with fail
        go_quiet (fail)
        go_wp2_with fail
        go_ret
        exact ⟨rfl, below_drewN hb _⟩
      · as_aux_lemma =>
        have hc2 : ((c : Int) == 91) = false := by simp; omega
        have HM := Lib.hid (And.intro (show c ∈ oneL.drop 12 from (List.mem_cons.1 (show c ∈ 91 :: oneL.drop 12 from hmem)).resolve_left hc) hb)
        clear hmem hc hb
        go_wp2_with fail
        go_quiet (fail)
        go_wp2_with fail
        go_roundg 5
        case measure => omega
        case rel => exact ⟨12, rfl, by omega, rfl, HM.out.1, below_drewN HM.out.2 _⟩
    · have q : (({ data := #[43, 45, 42, 47, 37, 60, 62, 33, 61, 40, 41, 91, 93, 123, 125, 44, 59] } : ByteArray)[12]'(by decide)).toNat = 93 := rfl
      by_cases hc : c = 93
      · as_aux_lemma =>
        have hc2 : ((c : Int) == 93) = true := by rw [hc]; rfl
        clear hmem hc
        go_wp2_with fail
        go_quiet (fail)
        go_wp2_with fail
        go_ret
        exact ⟨rfl, below_drewN hb _⟩
      · as_aux_lemma =>
        have hc2 : ((c : Int) == 93) = false := by simp; omega
        have HM := Lib.hid (And.intro (show c ∈ oneL.drop 13 from (List.mem_cons.1 (show c ∈ 93 :: oneL.drop 13 from hmem)).resolve_left hc) hb)
        clear hmem hc hb
        go_wp2_with fail
        go_quiet (fail)
        go_wp2_with fail
        go_roundg 4
        case measure => omega
        case rel => exact ⟨13, rfl, by omega, rfl, HM.out.1, below_drewN HM.out.2 _⟩
    · have q : (({ data := #[43, 45, 42, 47, 37, 60, 62, 33, 61, 40, 41, 91, 93, 123, 125, 44, 59] } : ByteArray)[13]'(by decide)).toNat = 123 := rfl
      by_cases hc : c = 123
      · as_aux_lemma =>
        have hc2 : ((c : Int) == 123) = true := by rw [hc]; rfl
        clear hmem hc
        go_wp2_with fail
        go_quiet (fail)
        go_wp2_with fail
        go_ret
        exact ⟨rfl, below_drewN hb _⟩
      · as_aux_lemma =>
        have hc2 : ((c : Int) == 123) = false := by simp; omega
        have HM := Lib.hid (And.intro (show c ∈ oneL.drop 14 from (List.mem_cons.1 (show c ∈ 123 :: oneL.drop 14 from hmem)).resolve_left hc) hb)
        clear hmem hc hb
        go_wp2_with fail
        go_quiet (fail)
        go_wp2_with fail
        go_roundg 3
        case measure => omega
        case rel => exact ⟨14, rfl, by omega, rfl, HM.out.1, below_drewN HM.out.2 _⟩
    · have q : (({ data := #[43, 45, 42, 47, 37, 60, 62, 33, 61, 40, 41, 91, 93, 123, 125, 44, 59] } : ByteArray)[14]'(by decide)).toNat = 125 := rfl
      by_cases hc : c = 125
      · as_aux_lemma =>
        have hc2 : ((c : Int) == 125) = true := by rw [hc]; rfl
        clear hmem hc
        go_wp2_with fail
        go_quiet (fail)
        go_wp2_with fail
        go_ret
        exact ⟨rfl, below_drewN hb _⟩
      · as_aux_lemma =>
        have hc2 : ((c : Int) == 125) = false := by simp; omega
        have HM := Lib.hid (And.intro (show c ∈ oneL.drop 15 from (List.mem_cons.1 (show c ∈ 125 :: oneL.drop 15 from hmem)).resolve_left hc) hb)
        clear hmem hc hb
        go_wp2_with fail
        go_quiet (fail)
        go_wp2_with fail
        go_roundg 2
        case measure => omega
        case rel => exact ⟨15, rfl, by omega, rfl, HM.out.1, below_drewN HM.out.2 _⟩
    · have q : (({ data := #[43, 45, 42, 47, 37, 60, 62, 33, 61, 40, 41, 91, 93, 123, 125, 44, 59] } : ByteArray)[15]'(by decide)).toNat = 44 := rfl
      by_cases hc : c = 44
      · as_aux_lemma =>
        have hc2 : ((c : Int) == 44) = true := by rw [hc]; rfl
        clear hmem hc
        go_wp2_with fail
        go_quiet (fail)
        go_wp2_with fail
        go_ret
        exact ⟨rfl, below_drewN hb _⟩
      · as_aux_lemma =>
        have hc2 : ((c : Int) == 44) = false := by simp; omega
        have HM := Lib.hid (And.intro (show c ∈ oneL.drop 16 from (List.mem_cons.1 (show c ∈ 44 :: oneL.drop 16 from hmem)).resolve_left hc) hb)
        clear hmem hc hb
        go_wp2_with fail
        go_quiet (fail)
        go_wp2_with fail
        go_roundg 1
        case measure => omega
        case rel => exact ⟨16, rfl, by omega, rfl, HM.out.1, below_drewN HM.out.2 _⟩
    · have q : (({ data := #[43, 45, 42, 47, 37, 60, 62, 33, 61, 40, 41, 91, 93, 123, 125, 44, 59] } : ByteArray)[16]'(by decide)).toNat = 59 := rfl
      by_cases hc : c = 59
      · as_aux_lemma =>
        have hc2 : ((c : Int) == 59) = true := by rw [hc]; rfl
        clear hmem hc
        go_wp2_with fail
        go_quiet (fail)
        go_wp2_with fail
        go_ret
        exact ⟨rfl, below_drewN hb _⟩
      · as_aux_lemma =>
        have hc2 : ((c : Int) == 59) = false := by simp; omega
        have HM := Lib.hid (And.intro (show c ∈ oneL.drop 17 from (List.mem_cons.1 (show c ∈ 59 :: oneL.drop 17 from hmem)).resolve_left hc) hb)
        clear hmem hc hb
        go_wp2_with fail
        go_quiet (fail)
        go_wp2_with fail
        go_roundg 0
        case measure => omega
        case rel => exact ⟨17, rfl, by omega, rfl, HM.out.1, below_drewN HM.out.2 _⟩
    · exact absurd hmem (by simp [oneL])
set_option maxRecDepth 100000 in
set_option maxHeartbeats 2000000 in
theorem sign_last (s : ByteArray) (c : Nat) (h2 : s.size = 1) (hc0 : (s[0]'(by omega)).toNat = c) (hm : c ∈ oneL) (w : World) :
    Calls Tryz.prog 58 #[.string s] w fun e w' => e = .returned (.int .i64 1) ∧ Below w.heap.size w w' := by
  have h3 : decide ((2 : Int) ≤ (s.size : Int)) = false := decide_eq_false (by omega)
  have HM0 := Lib.hid hm; clear hm
  go_enter Tryz.func58, Tryz.ntmps58
  go_wp2_with fail
  go_loopg [5] 17 (fun gh iv wr => ∃ j : Nat, gh = 17 - j ∧ j ≤ 17 ∧ iv = .int .i64 (j : Nat) ∧ c ∈ oneL.drop j ∧ Below w.heap.size w wr)
  case atStart => exact ⟨0, rfl, by omega, rfl, HM0.out, Below.refl _ _⟩
  case round =>
    obtain ⟨j, rfl, hj, rfl, hmem, hb⟩ := hrel
    rcases (show j = 0 ∨ j = 1 ∨ j = 2 ∨ j = 3 ∨ j = 4 ∨ j = 5 ∨ j = 6 ∨ j = 7 ∨ j = 8 ∨ j = 9 ∨ j = 10 ∨ j = 11 ∨ j = 12 ∨ j = 13 ∨ j = 14 ∨ j = 15 ∨ j = 16 ∨ j = 17 from by omega) with rfl | rfl | rfl | rfl | rfl | rfl | rfl | rfl | rfl | rfl | rfl | rfl | rfl | rfl | rfl | rfl | rfl | rfl
    · have q : (({ data := #[43, 45, 42, 47, 37, 60, 62, 33, 61, 40, 41, 91, 93, 123, 125, 44, 59] } : ByteArray)[0]'(by decide)).toNat = 43 := rfl
      by_cases hc : c = 43
      · as_aux_lemma =>
        have hc2 : ((c : Int) == 43) = true := by rw [hc]; rfl
        clear hmem hc
        go_wp2_with fail
        go_quiet (fail)
        go_wp2_with fail
        go_ret
        exact ⟨rfl, below_drewN hb _⟩
      · as_aux_lemma =>
        have hc2 : ((c : Int) == 43) = false := by simp; omega
        have HM := Lib.hid (And.intro (show c ∈ oneL.drop 1 from (List.mem_cons.1 (show c ∈ 43 :: oneL.drop 1 from hmem)).resolve_left hc) hb)
        clear hmem hc hb
        go_wp2_with fail
        go_quiet (fail)
        go_wp2_with fail
        go_roundg 16
        case measure => omega
        case rel => exact ⟨1, rfl, by omega, rfl, HM.out.1, below_drewN HM.out.2 _⟩
    · have q : (({ data := #[43, 45, 42, 47, 37, 60, 62, 33, 61, 40, 41, 91, 93, 123, 125, 44, 59] } : ByteArray)[1]'(by decide)).toNat = 45 := rfl
      by_cases hc : c = 45
      · as_aux_lemma =>
        have hc2 : ((c : Int) == 45) = true := by rw [hc]; rfl
        clear hmem hc
        go_wp2_with fail
        go_quiet (fail)
        go_wp2_with fail
        go_ret
        exact ⟨rfl, below_drewN hb _⟩
      · as_aux_lemma =>
        have hc2 : ((c : Int) == 45) = false := by simp; omega
        have HM := Lib.hid (And.intro (show c ∈ oneL.drop 2 from (List.mem_cons.1 (show c ∈ 45 :: oneL.drop 2 from hmem)).resolve_left hc) hb)
        clear hmem hc hb
        go_wp2_with fail
        go_quiet (fail)
        go_wp2_with fail
        go_roundg 15
        case measure => omega
        case rel => exact ⟨2, rfl, by omega, rfl, HM.out.1, below_drewN HM.out.2 _⟩
    · have q : (({ data := #[43, 45, 42, 47, 37, 60, 62, 33, 61, 40, 41, 91, 93, 123, 125, 44, 59] } : ByteArray)[2]'(by decide)).toNat = 42 := rfl
      by_cases hc : c = 42
      · as_aux_lemma =>
        have hc2 : ((c : Int) == 42) = true := by rw [hc]; rfl
        clear hmem hc
        go_wp2_with fail
        go_quiet (fail)
        go_wp2_with fail
        go_ret
        exact ⟨rfl, below_drewN hb _⟩
      · as_aux_lemma =>
        have hc2 : ((c : Int) == 42) = false := by simp; omega
        have HM := Lib.hid (And.intro (show c ∈ oneL.drop 3 from (List.mem_cons.1 (show c ∈ 42 :: oneL.drop 3 from hmem)).resolve_left hc) hb)
        clear hmem hc hb
        go_wp2_with fail
        go_quiet (fail)
        go_wp2_with fail
        go_roundg 14
        case measure => omega
        case rel => exact ⟨3, rfl, by omega, rfl, HM.out.1, below_drewN HM.out.2 _⟩
    · have q : (({ data := #[43, 45, 42, 47, 37, 60, 62, 33, 61, 40, 41, 91, 93, 123, 125, 44, 59] } : ByteArray)[3]'(by decide)).toNat = 47 := rfl
      by_cases hc : c = 47
      · as_aux_lemma =>
        have hc2 : ((c : Int) == 47) = true := by rw [hc]; rfl
        clear hmem hc
        go_wp2_with fail
        go_quiet (fail)
        go_wp2_with fail
        go_ret
        exact ⟨rfl, below_drewN hb _⟩
      · as_aux_lemma =>
        have hc2 : ((c : Int) == 47) = false := by simp; omega
        have HM := Lib.hid (And.intro (show c ∈ oneL.drop 4 from (List.mem_cons.1 (show c ∈ 47 :: oneL.drop 4 from hmem)).resolve_left hc) hb)
        clear hmem hc hb
        go_wp2_with fail
        go_quiet (fail)
        go_wp2_with fail
        go_roundg 13
        case measure => omega
        case rel => exact ⟨4, rfl, by omega, rfl, HM.out.1, below_drewN HM.out.2 _⟩
    · have q : (({ data := #[43, 45, 42, 47, 37, 60, 62, 33, 61, 40, 41, 91, 93, 123, 125, 44, 59] } : ByteArray)[4]'(by decide)).toNat = 37 := rfl
      by_cases hc : c = 37
      · as_aux_lemma =>
        have hc2 : ((c : Int) == 37) = true := by rw [hc]; rfl
        clear hmem hc
        go_wp2_with fail
        go_quiet (fail)
        go_wp2_with fail
        go_ret
        exact ⟨rfl, below_drewN hb _⟩
      · as_aux_lemma =>
        have hc2 : ((c : Int) == 37) = false := by simp; omega
        have HM := Lib.hid (And.intro (show c ∈ oneL.drop 5 from (List.mem_cons.1 (show c ∈ 37 :: oneL.drop 5 from hmem)).resolve_left hc) hb)
        clear hmem hc hb
        go_wp2_with fail
        go_quiet (fail)
        go_wp2_with fail
        go_roundg 12
        case measure => omega
        case rel => exact ⟨5, rfl, by omega, rfl, HM.out.1, below_drewN HM.out.2 _⟩
    · have q : (({ data := #[43, 45, 42, 47, 37, 60, 62, 33, 61, 40, 41, 91, 93, 123, 125, 44, 59] } : ByteArray)[5]'(by decide)).toNat = 60 := rfl
      by_cases hc : c = 60
      · as_aux_lemma =>
        have hc2 : ((c : Int) == 60) = true := by rw [hc]; rfl
        clear hmem hc
        go_wp2_with fail
        go_quiet (fail)
        go_wp2_with fail
        go_ret
        exact ⟨rfl, below_drewN hb _⟩
      · as_aux_lemma =>
        have hc2 : ((c : Int) == 60) = false := by simp; omega
        have HM := Lib.hid (And.intro (show c ∈ oneL.drop 6 from (List.mem_cons.1 (show c ∈ 60 :: oneL.drop 6 from hmem)).resolve_left hc) hb)
        clear hmem hc hb
        go_wp2_with fail
        go_quiet (fail)
        go_wp2_with fail
        go_roundg 11
        case measure => omega
        case rel => exact ⟨6, rfl, by omega, rfl, HM.out.1, below_drewN HM.out.2 _⟩
    · have q : (({ data := #[43, 45, 42, 47, 37, 60, 62, 33, 61, 40, 41, 91, 93, 123, 125, 44, 59] } : ByteArray)[6]'(by decide)).toNat = 62 := rfl
      by_cases hc : c = 62
      · as_aux_lemma =>
        have hc2 : ((c : Int) == 62) = true := by rw [hc]; rfl
        clear hmem hc
        go_wp2_with fail
        go_quiet (fail)
        go_wp2_with fail
        go_ret
        exact ⟨rfl, below_drewN hb _⟩
      · as_aux_lemma =>
        have hc2 : ((c : Int) == 62) = false := by simp; omega
        have HM := Lib.hid (And.intro (show c ∈ oneL.drop 7 from (List.mem_cons.1 (show c ∈ 62 :: oneL.drop 7 from hmem)).resolve_left hc) hb)
        clear hmem hc hb
        go_wp2_with fail
        go_quiet (fail)
        go_wp2_with fail
        go_roundg 10
        case measure => omega
        case rel => exact ⟨7, rfl, by omega, rfl, HM.out.1, below_drewN HM.out.2 _⟩
    · have q : (({ data := #[43, 45, 42, 47, 37, 60, 62, 33, 61, 40, 41, 91, 93, 123, 125, 44, 59] } : ByteArray)[7]'(by decide)).toNat = 33 := rfl
      by_cases hc : c = 33
      · as_aux_lemma =>
        have hc2 : ((c : Int) == 33) = true := by rw [hc]; rfl
        clear hmem hc
        go_wp2_with fail
        go_quiet (fail)
        go_wp2_with fail
        go_ret
        exact ⟨rfl, below_drewN hb _⟩
      · as_aux_lemma =>
        have hc2 : ((c : Int) == 33) = false := by simp; omega
        have HM := Lib.hid (And.intro (show c ∈ oneL.drop 8 from (List.mem_cons.1 (show c ∈ 33 :: oneL.drop 8 from hmem)).resolve_left hc) hb)
        clear hmem hc hb
        go_wp2_with fail
        go_quiet (fail)
        go_wp2_with fail
        go_roundg 9
        case measure => omega
        case rel => exact ⟨8, rfl, by omega, rfl, HM.out.1, below_drewN HM.out.2 _⟩
    · have q : (({ data := #[43, 45, 42, 47, 37, 60, 62, 33, 61, 40, 41, 91, 93, 123, 125, 44, 59] } : ByteArray)[8]'(by decide)).toNat = 61 := rfl
      by_cases hc : c = 61
      · as_aux_lemma =>
        have hc2 : ((c : Int) == 61) = true := by rw [hc]; rfl
        clear hmem hc
        go_wp2_with fail
        go_quiet (fail)
        go_wp2_with fail
        go_ret
        exact ⟨rfl, below_drewN hb _⟩
      · as_aux_lemma =>
        have hc2 : ((c : Int) == 61) = false := by simp; omega
        have HM := Lib.hid (And.intro (show c ∈ oneL.drop 9 from (List.mem_cons.1 (show c ∈ 61 :: oneL.drop 9 from hmem)).resolve_left hc) hb)
        clear hmem hc hb
        go_wp2_with fail
        go_quiet (fail)
        go_wp2_with fail
        go_roundg 8
        case measure => omega
        case rel => exact ⟨9, rfl, by omega, rfl, HM.out.1, below_drewN HM.out.2 _⟩
    · have q : (({ data := #[43, 45, 42, 47, 37, 60, 62, 33, 61, 40, 41, 91, 93, 123, 125, 44, 59] } : ByteArray)[9]'(by decide)).toNat = 40 := rfl
      by_cases hc : c = 40
      · as_aux_lemma =>
        have hc2 : ((c : Int) == 40) = true := by rw [hc]; rfl
        clear hmem hc
        go_wp2_with fail
        go_quiet (fail)
        go_wp2_with fail
        go_ret
        exact ⟨rfl, below_drewN hb _⟩
      · as_aux_lemma =>
        have hc2 : ((c : Int) == 40) = false := by simp; omega
        have HM := Lib.hid (And.intro (show c ∈ oneL.drop 10 from (List.mem_cons.1 (show c ∈ 40 :: oneL.drop 10 from hmem)).resolve_left hc) hb)
        clear hmem hc hb
        go_wp2_with fail
        go_quiet (fail)
        go_wp2_with fail
        go_roundg 7
        case measure => omega
        case rel => exact ⟨10, rfl, by omega, rfl, HM.out.1, below_drewN HM.out.2 _⟩
    · have q : (({ data := #[43, 45, 42, 47, 37, 60, 62, 33, 61, 40, 41, 91, 93, 123, 125, 44, 59] } : ByteArray)[10]'(by decide)).toNat = 41 := rfl
      by_cases hc : c = 41
      · as_aux_lemma =>
        have hc2 : ((c : Int) == 41) = true := by rw [hc]; rfl
        clear hmem hc
        go_wp2_with fail
        go_quiet (fail)
        go_wp2_with fail
        go_ret
        exact ⟨rfl, below_drewN hb _⟩
      · as_aux_lemma =>
        have hc2 : ((c : Int) == 41) = false := by simp; omega
        have HM := Lib.hid (And.intro (show c ∈ oneL.drop 11 from (List.mem_cons.1 (show c ∈ 41 :: oneL.drop 11 from hmem)).resolve_left hc) hb)
        clear hmem hc hb
        go_wp2_with fail
        go_quiet (fail)
        go_wp2_with fail
        go_roundg 6
        case measure => omega
        case rel => exact ⟨11, rfl, by omega, rfl, HM.out.1, below_drewN HM.out.2 _⟩
    · have q : (({ data := #[43, 45, 42, 47, 37, 60, 62, 33, 61, 40, 41, 91, 93, 123, 125, 44, 59] } : ByteArray)[11]'(by decide)).toNat = 91 := rfl
      by_cases hc : c = 91
      · as_aux_lemma =>
        have hc2 : ((c : Int) == 91) = true := by rw [hc]; rfl
        clear hmem hc
        go_wp2_with fail
        go_quiet (fail)
        go_wp2_with fail
        go_ret
        exact ⟨rfl, below_drewN hb _⟩
      · as_aux_lemma =>
        have hc2 : ((c : Int) == 91) = false := by simp; omega
        have HM := Lib.hid (And.intro (show c ∈ oneL.drop 12 from (List.mem_cons.1 (show c ∈ 91 :: oneL.drop 12 from hmem)).resolve_left hc) hb)
        clear hmem hc hb
        go_wp2_with fail
        go_quiet (fail)
        go_wp2_with fail
        go_roundg 5
        case measure => omega
        case rel => exact ⟨12, rfl, by omega, rfl, HM.out.1, below_drewN HM.out.2 _⟩
    · have q : (({ data := #[43, 45, 42, 47, 37, 60, 62, 33, 61, 40, 41, 91, 93, 123, 125, 44, 59] } : ByteArray)[12]'(by decide)).toNat = 93 := rfl
      by_cases hc : c = 93
      · as_aux_lemma =>
        have hc2 : ((c : Int) == 93) = true := by rw [hc]; rfl
        clear hmem hc
        go_wp2_with fail
        go_quiet (fail)
        go_wp2_with fail
        go_ret
        exact ⟨rfl, below_drewN hb _⟩
      · as_aux_lemma =>
        have hc2 : ((c : Int) == 93) = false := by simp; omega
        have HM := Lib.hid (And.intro (show c ∈ oneL.drop 13 from (List.mem_cons.1 (show c ∈ 93 :: oneL.drop 13 from hmem)).resolve_left hc) hb)
        clear hmem hc hb
        go_wp2_with fail
        go_quiet (fail)
        go_wp2_with fail
        go_roundg 4
        case measure => omega
        case rel => exact ⟨13, rfl, by omega, rfl, HM.out.1, below_drewN HM.out.2 _⟩
    · have q : (({ data := #[43, 45, 42, 47, 37, 60, 62, 33, 61, 40, 41, 91, 93, 123, 125, 44, 59] } : ByteArray)[13]'(by decide)).toNat = 123 := rfl
      by_cases hc : c = 123
      · as_aux_lemma =>
        have hc2 : ((c : Int) == 123) = true := by rw [hc]; rfl
        clear hmem hc
        go_wp2_with fail
        go_quiet (fail)
        go_wp2_with fail
        go_ret
        exact ⟨rfl, below_drewN hb _⟩
      · as_aux_lemma =>
        have hc2 : ((c : Int) == 123) = false := by simp; omega
        have HM := Lib.hid (And.intro (show c ∈ oneL.drop 14 from (List.mem_cons.1 (show c ∈ 123 :: oneL.drop 14 from hmem)).resolve_left hc) hb)
        clear hmem hc hb
        go_wp2_with fail
        go_quiet (fail)
        go_wp2_with fail
        go_roundg 3
        case measure => omega
        case rel => exact ⟨14, rfl, by omega, rfl, HM.out.1, below_drewN HM.out.2 _⟩
    · have q : (({ data := #[43, 45, 42, 47, 37, 60, 62, 33, 61, 40, 41, 91, 93, 123, 125, 44, 59] } : ByteArray)[14]'(by decide)).toNat = 125 := rfl
      by_cases hc : c = 125
      · as_aux_lemma =>
        have hc2 : ((c : Int) == 125) = true := by rw [hc]; rfl
        clear hmem hc
        go_wp2_with fail
        go_quiet (fail)
        go_wp2_with fail
        go_ret
        exact ⟨rfl, below_drewN hb _⟩
      · as_aux_lemma =>
        have hc2 : ((c : Int) == 125) = false := by simp; omega
        have HM := Lib.hid (And.intro (show c ∈ oneL.drop 15 from (List.mem_cons.1 (show c ∈ 125 :: oneL.drop 15 from hmem)).resolve_left hc) hb)
        clear hmem hc hb
        go_wp2_with fail
        go_quiet (fail)
        go_wp2_with fail
        go_roundg 2
        case measure => omega
        case rel => exact ⟨15, rfl, by omega, rfl, HM.out.1, below_drewN HM.out.2 _⟩
    · have q : (({ data := #[43, 45, 42, 47, 37, 60, 62, 33, 61, 40, 41, 91, 93, 123, 125, 44, 59] } : ByteArray)[15]'(by decide)).toNat = 44 := rfl
      by_cases hc : c = 44
      · as_aux_lemma =>
        have hc2 : ((c : Int) == 44) = true := by rw [hc]; rfl
        clear hmem hc
        go_wp2_with fail
        go_quiet (fail)
        go_wp2_with fail
        go_ret
        exact ⟨rfl, below_drewN hb _⟩
      · as_aux_lemma =>
        have hc2 : ((c : Int) == 44) = false := by simp; omega
        have HM := Lib.hid (And.intro (show c ∈ oneL.drop 16 from (List.mem_cons.1 (show c ∈ 44 :: oneL.drop 16 from hmem)).resolve_left hc) hb)
        clear hmem hc hb
        go_wp2_with fail
        go_quiet (fail)
        go_wp2_with fail
        go_roundg 1
        case measure => omega
        case rel => exact ⟨16, rfl, by omega, rfl, HM.out.1, below_drewN HM.out.2 _⟩
    · have q : (({ data := #[43, 45, 42, 47, 37, 60, 62, 33, 61, 40, 41, 91, 93, 123, 125, 44, 59] } : ByteArray)[16]'(by decide)).toNat = 59 := rfl
      by_cases hc : c = 59
      · as_aux_lemma =>
        have hc2 : ((c : Int) == 59) = true := by rw [hc]; rfl
        clear hmem hc
        go_wp2_with fail
        go_quiet (fail)
        go_wp2_with fail
        go_ret
        exact ⟨rfl, below_drewN hb _⟩
      · as_aux_lemma =>
        have hc2 : ((c : Int) == 59) = false := by simp; omega
        have HM := Lib.hid (And.intro (show c ∈ oneL.drop 17 from (List.mem_cons.1 (show c ∈ 59 :: oneL.drop 17 from hmem)).resolve_left hc) hb)
        clear hmem hc hb
        go_wp2_with fail
        go_quiet (fail)
        go_wp2_with fail
        go_roundg 0
        case measure => omega
        case rel => exact ⟨17, rfl, by omega, rfl, HM.out.1, below_drewN HM.out.2 _⟩
    · exact absurd hmem (by simp [oneL])
end
end Go.Proofs.YtocbddajakbemaaGreat
