/- vm, the program's own front end: words, kinds, names. vm, the program's own front end: Index, Contains, kinds, Kind, Name. vm, the program's own front end: expressions and statements as trees; many, kind. vm, the program's own front end: what may be written. -/
import Derived.Test.YtocbddajakbemaaGreatMI
set_option linter.unusedVariables false
set_option linter.unusedSimpArgs false
set_option linter.unusedSimpArgs false
namespace Go.Proofs.YtocbddajakbemaaGreat
section
open Go.RowKit
theorem lexLetter_ok (k : Nat) (w : World) : Calls Tryz.prog 131 #[.int .u8 k] w fun e w' => e = .returned (.bool (isLet k)) ∧ w = w' := by
  by_cases h1 : 97 ≤ k
  · by_cases h2 : k ≤ 122
    · have HD := Lib.hid (show isLet k = true from by unfold isLet; simp [h1, h2])
      go_enter Tryz.func131, Tryz.ntmps131
      go_wp2_with fail
      go_ret
      exact ⟨by first | (rw [HD.out]; rfl) | ((show Ending.returned (Value.bool _) = Ending.returned (Value.bool _)); rw [HD.out]; congr 2; simp; done) | ((show Ending.returned (Value.bool _) = Ending.returned (Value.bool _)); rw [HD.out]; congr 2; simp; omega) | ((show Ending.returned (Value.bool _) = Ending.returned (Value.bool _)); rw [HD.out]; congr 2; rw [Bool.eq_iff_iff]; simp; omega), rfl⟩
    · have HD := Lib.hid (show isLet k = false from by unfold isLet; simp; omega)
      have h3 : ¬ k ≤ 90 := by omega
      have h4 : 65 ≤ k := by omega
      have h5 : ¬ k = 95 := by omega
      go_enter Tryz.func131, Tryz.ntmps131
      go_wp2_with fail
      go_ret
      exact ⟨by first | (rw [HD.out]; rfl) | ((show Ending.returned (Value.bool _) = Ending.returned (Value.bool _)); rw [HD.out]; congr 2; simp; done) | ((show Ending.returned (Value.bool _) = Ending.returned (Value.bool _)); rw [HD.out]; congr 2; simp; omega) | ((show Ending.returned (Value.bool _) = Ending.returned (Value.bool _)); rw [HD.out]; congr 2; rw [Bool.eq_iff_iff]; simp; omega), rfl⟩
  · by_cases h2 : 65 ≤ k
    · by_cases h3 : k ≤ 90
      · have HD := Lib.hid (show isLet k = true from by unfold isLet; simp [h2, h3])
        go_enter Tryz.func131, Tryz.ntmps131
        go_wp2_with fail
        go_ret
        exact ⟨by first | (rw [HD.out]; rfl) | ((show Ending.returned (Value.bool _) = Ending.returned (Value.bool _)); rw [HD.out]; congr 2; simp; done) | ((show Ending.returned (Value.bool _) = Ending.returned (Value.bool _)); rw [HD.out]; congr 2; simp; omega) | ((show Ending.returned (Value.bool _) = Ending.returned (Value.bool _)); rw [HD.out]; congr 2; rw [Bool.eq_iff_iff]; simp; omega), rfl⟩
      · have HD := Lib.hid (show isLet k = decide (k = 95) from by unfold isLet; simp [h1, h3])
        go_enter Tryz.func131, Tryz.ntmps131
        go_wp2_with fail
        go_ret
        exact ⟨by first | (rw [HD.out]; rfl) | ((show Ending.returned (Value.bool _) = Ending.returned (Value.bool _)); rw [HD.out]; congr 2; simp; done) | ((show Ending.returned (Value.bool _) = Ending.returned (Value.bool _)); rw [HD.out]; congr 2; simp; omega) | ((show Ending.returned (Value.bool _) = Ending.returned (Value.bool _)); rw [HD.out]; congr 2; rw [Bool.eq_iff_iff]; simp; omega), rfl⟩
    · have HD := Lib.hid (show isLet k = false from by unfold isLet; simp; omega)
      have h5 : ¬ k = 95 := by omega
      go_enter Tryz.func131, Tryz.ntmps131
      go_wp2_with fail
      go_ret
      exact ⟨by first | (rw [HD.out]; rfl) | ((show Ending.returned (Value.bool _) = Ending.returned (Value.bool _)); rw [HD.out]; congr 2; simp; done) | ((show Ending.returned (Value.bool _) = Ending.returned (Value.bool _)); rw [HD.out]; congr 2; simp; omega) | ((show Ending.returned (Value.bool _) = Ending.returned (Value.bool _)); rw [HD.out]; congr 2; rw [Bool.eq_iff_iff]; simp; omega), rfl⟩
theorem lexDigit_ok (k : Nat) (w : World) : Calls Tryz.prog 132 #[.int .u8 k] w fun e w' => e = .returned (.bool (isDig k)) ∧ w = w' := by
  by_cases h1 : 48 ≤ k
  · have HD := Lib.hid (show isDig k = decide (k ≤ 57) from by unfold isDig; simp [h1])
    go_enter Tryz.func132, Tryz.ntmps132
    go_wp2_with fail
    go_ret
    exact ⟨by first | (rw [HD.out]; rfl) | ((show Ending.returned (Value.bool _) = Ending.returned (Value.bool _)); rw [HD.out]; congr 2; simp; done) | ((show Ending.returned (Value.bool _) = Ending.returned (Value.bool _)); rw [HD.out]; congr 2; simp; omega) | ((show Ending.returned (Value.bool _) = Ending.returned (Value.bool _)); rw [HD.out]; congr 2; rw [Bool.eq_iff_iff]; simp; omega), rfl⟩
  · have HD := Lib.hid (show isDig k = false from by unfold isDig; simp [h1])
    go_enter Tryz.func132, Tryz.ntmps132
    go_wp2_with fail
    go_ret
    exact ⟨by first | (rw [HD.out]; rfl) | ((show Ending.returned (Value.bool _) = Ending.returned (Value.bool _)); rw [HD.out]; congr 2; simp; done) | ((show Ending.returned (Value.bool _) = Ending.returned (Value.bool _)); rw [HD.out]; congr 2; simp; omega) | ((show Ending.returned (Value.bool _) = Ending.returned (Value.bool _)); rw [HD.out]; congr 2; rw [Bool.eq_iff_iff]; simp; omega), rfl⟩
set_option maxRecDepth 100000 in
theorem lexWord_ok (s : ByteArray) (w : World) : Calls Tryz.prog 123 #[.string s] w fun e w' => e = .returned (.bool (wordM s)) ∧ w = w' := by
  obtain ⟨R, eR⟩ : ∃ R, R = wordM s := ⟨_, rfl⟩
  rw [← eR]
  have HR := Lib.hid eR
  clear eR
  by_cases h0 : s.size = 0
  · have hr : R = false := by rw [HR.out]; unfold wordM; simp [h0]
    have t1 : decide ((s.size : Int) < 1) = true := decide_eq_true (by omega)
    subst hr
    go_enter Tryz.func123, Tryz.ntmps123
    go_wp2_with fail
    go_ret
    exact ⟨rfl, rfl⟩
  have t1 : decide ((s.size : Int) < 1) = false := decide_eq_false (by omega)
  by_cases h24 : 24 < s.size
  · have hr : R = false := by rw [HR.out]; unfold wordM; simp; omega
    have t2 : decide ((24 : Int) < (s.size : Int)) = true := decide_eq_true (by omega)
    subst hr
    clear h0 h24
    go_enter Tryz.func123, Tryz.ntmps123
    go_wp2_with fail
    go_ret
    exact ⟨rfl, rfl⟩
  have t2 : decide ((24 : Int) < (s.size : Int)) = false := decide_eq_false (by omega)
  obtain ⟨c, ec⟩ : ∃ c, c = byteN s 0 := ⟨_, rfl⟩
  have q0 : ∀ h : 0 < s.size, (s[0]'h).toNat = c := fun h => by rw [ec]; exact byteN_lt h
  have LT := lexLetter_ok c w
  have t3 : (0 : Int) < (s.size : Int) := by omega
  have t0 : ¬ s.size = 0 := h0
  have t4 : ((s.size : Int) == 0) = false := by rw [beq_eq_false_iff_ne]; omega
  have H := Lib.hid (And.intro h0 (And.intro h24 ec))
  clear h0 h24 ec
  cases hc : isLet c
  · have hr : R = false := by
      rw [HR.out]; unfold wordM
      rw [← H.out.2.2, hc]; simp
    subst hr
    rw [hc] at LT
    clear hc
    go_enter Tryz.func123, Tryz.ntmps123
    go_wp2_with (go_at_call 131; refine LT.mono ?_; rintro e w' ⟨rfl, rfl⟩)
    go_ret
    exact ⟨rfl, rfl⟩
  rw [hc] at LT
  have HC := Lib.hid hc
  clear hc
  go_enter Tryz.func123, Tryz.ntmps123
  go_upto_region 3 with (go_at_call 131; refine LT.mono ?_; rintro e w' ⟨rfl, rfl⟩)
  clear LT q0 t1 t2 t3 t4 t0
  obtain ⟨n, en⟩ : ∃ n, n = s.size := ⟨_, rfl⟩
  go_wp2_with fail
  go_loopg [20] n (fun gh iv wr => ∃ j : Nat, gh + j = n ∧ iv = .int .i64 (j : Nat) ∧ (∀ i, i < j → (isLet (byteN s i) || isDig (byteN s i)) = true) ∧ w = wr)
  case atStart => exact ⟨0, by simp, rfl, fun i h => by omega, rfl⟩
  case round =>
    obtain ⟨j, hgj, rfl, hall, rfl⟩ := hrel
    have HG := Lib.hid (And.intro hgj hall)
    clear hgj hall
    by_cases hlt : j < s.size
    · have q : ∀ h : j < s.size, (s[j]'h).toNat = byteN s j := fun h => byteN_lt h
      obtain ⟨d, ed⟩ : ∃ d, d = byteN s j := ⟨_, rfl⟩
      rw [← ed] at q
      have LT := lexLetter_ok d w
      have DG := lexDigit_ok d w
      have i0 : (0 : Int) ≤ (j : Int) := by omega
      have i2 : (j : Int) < (s.size : Int) := by omega
      have i3 : decide (j < s.size) = true := decide_eq_true hlt
      have hs24 := H.out.2.1
      have u1 : wrap64 ((j : Int) + 1) = (j : Int) + 1 := by unfold wrap64; omega
      have HK := Lib.hid (And.intro hlt (And.intro en ed))
      clear hlt ed hs24 en
      cases hL : isLet d
      · rw [hL] at LT
        cases hD : isDig d
        · rw [hD] at DG
          have hr : R = false := by
            rw [HR.out]; unfold wordM
            have : ((List.range s.size).all fun i => i == 0 || isLet (byteN s i) || isDig (byteN s i)) = false := by
              rw [List.all_eq_false]
              refine ⟨j, List.mem_range.2 HK.out.1, ?_⟩
              rw [← HK.out.2.2, hL, hD]
              have hj0 : j ≠ 0 := fun e => by
                have h1 := HK.out.2.2
                rw [e, ← H.out.2.2] at h1
                rw [h1, HC.out] at hL
                cases hL
              simp [hj0]
            rw [this]; simp
          subst hr
          clear hL hD
          go_wp2_with (first | (go_at_call 131; refine LT.mono ?_; rintro e w' ⟨rfl, rfl⟩) | (go_at_call 132; refine DG.mono ?_; rintro e w' ⟨rfl, rfl⟩))
          go_ret
          exact ⟨rfl, rfl⟩
        · rw [hD] at DG
          have HD := Lib.hid (show (isLet d || isDig d) = true by rw [hD]; simp)
          clear hL hD
          go_wp2_with (first | (go_at_call 131; refine LT.mono ?_; rintro e w' ⟨rfl, rfl⟩) | (go_at_call 132; refine DG.mono ?_; rintro e w' ⟨rfl, rfl⟩))
          go_roundg (n - (j + 1))
          case measure => have := HK.out.1; have := HK.out.2.1; have := HG.out.1; omega
          case rel =>
            refine ⟨j + 1, by have := HK.out.1; have := HK.out.2.1; omega, by go_num, fun i hi => ?_, rfl⟩
            by_cases hij : i < j
            · exact HG.out.2 i hij
            · obtain rfl : i = j := by omega
              rw [← HK.out.2.2]; exact HD.out
      · rw [hL] at LT
        have HD := Lib.hid (show (isLet d || isDig d) = true by rw [hL]; simp)
        clear hL
        go_wp2_with (first | (go_at_call 131; refine LT.mono ?_; rintro e w' ⟨rfl, rfl⟩) | (go_at_call 132; refine DG.mono ?_; rintro e w' ⟨rfl, rfl⟩))
        go_roundg (n - (j + 1))
        case measure => have := HK.out.1; have := HK.out.2.1; have := HG.out.1; omega
        case rel =>
          refine ⟨j + 1, by have := HK.out.1; have := HK.out.2.1; omega, by go_num, fun i hi => ?_, rfl⟩
          by_cases hij : i < j
          · exact HG.out.2 i hij
          · obtain rfl : i = j := by omega
            rw [← HK.out.2.2]; exact HD.out
    · have i3 : decide (j < s.size) = false := decide_eq_false hlt
      have hr : R = true := by
        rw [HR.out]; unfold wordM
        rw [← H.out.2.2, HC.out]
        have : ((List.range s.size).all fun i => i == 0 || isLet (byteN s i) || isDig (byteN s i)) = true := by
          rw [List.all_eq_true]
          intro i hi
          have h1 := HG.out.2 i (by have := List.mem_range.1 hi; omega)
          rw [Bool.or_assoc, h1]; simp
        rw [this]
        have h1 := H.out.1
        have h2 := H.out.2.1
        simp; omega
      subst hr
      clear hlt
      go_wp2_with fail
      go_ret
      exact ⟨rfl, rfl⟩
end
end Go.Proofs.YtocbddajakbemaaGreat
set_option linter.unusedSimpArgs false
namespace Go.Proofs.YtocbddajakbemaaGreat
section
open Go.RowKit
def StrRow (w : World) (A : Option Addr) (l : List ByteArray) : Prop := ∀ (j : Nat) (s : ByteArray), l[j]? = some s → ∃ b o, A = some ⟨b, o, none⟩ ∧ w.cell? ⟨b, o + j, none⟩ = some (.string s)
theorem StrRow.below {w w' : World} {A : Option Addr} {l : List ByteArray} (h : StrRow w A l) (hb : Below w.heap.size w w') : StrRow w' A l := by
  intro j s hj
  obtain ⟨b, o, e, hc⟩ := h j s hj
  exact ⟨b, o, e, (hb.cell (World.block_lt_of_cell? w _ hc)).trans hc⟩
theorem strRow_block {w : World} {b : Nat} {l : List ByteArray} (h : w.heap[b]? = some (.cells (l.map Value.string).toArray 9 (0, 0))) : StrRow w (some ⟨b, 0, none⟩) l :=
  fun j s hj => ⟨b, 0, rfl, by rw [Nat.zero_add]; exact strs_at h hj⟩
def eqR (s k : ByteArray) : Bool := s.toList == k.toList
def idxM (l : List ByteArray) (s : ByteArray) : Int := if l.findIdx (eqR s) < l.length then (l.findIdx (eqR s) : Nat) else -1
set_option maxRecDepth 100000 in
theorem Index_ok (A : Option Addr) (n cap : Nat) (l : List ByteArray) (s : ByteArray) (w : World) (hn : n = l.length) (hl : n ≤ 1000000) (h : StrRow w A l) :
    Calls Tryz.prog 116 #[.slice A n cap, .string s] w fun e w' => e = .returned (.int .i64 (idxM l s)) ∧ w = w' := by
  have hle : l.findIdx (eqR s) ≤ l.length := List.findIdx_le_length
  obtain ⟨R, eR⟩ : ∃ R, R = idxM l s := ⟨_, rfl⟩
  rw [← eR]
  have H := Lib.hid (And.intro hn (And.intro hl (And.intro h (And.intro hle eR))))
  clear hn hl h hle eR
  go_enter Tryz.func116, Tryz.ntmps116
  go_wp2_with fail
  go_loopg [8] n (fun gh iv wr => ∃ j : Nat, gh + j = n ∧ j ≤ l.findIdx (eqR s) ∧ iv = .int .i64 (j : Nat) ∧ w = wr)
  case atStart => exact ⟨0, rfl, Nat.zero_le _, rfl, rfl⟩
  case round =>
    obtain ⟨j, hg, hj, rfl, rfl⟩ := hrel
    obtain ⟨hn, hl, hrow, hle, eR⟩ := H.out
    by_cases hlt : j < n
    · obtain ⟨x, hx⟩ : ∃ x, l[j]? = some x := ⟨_, List.getElem?_eq_getElem (by omega)⟩
      obtain ⟨b, o, rfl, c0⟩ := hrow j x hx
      have i0 : (0 : Int) ≤ (j : Int) := by omega
      have i1 : (j : Int) < (n : Int) := by omega
      have i2 : decide (j < n) = true := decide_eq_true hlt
      have w2 : wrap64 ((j : Int) + 1) = (j : Int) + 1 := by unfold wrap64; omega
      cases ht : (s.toList == x.toList)
      · have hnx := fi_next hj hx ht
        have HX := Lib.hid (And.intro hnx (And.intro hlt hg)); clear hnx hj hrow hle hx hlt hg hn hl eR
        go_wp2_with fail
        go_roundg (n - (j + 1))
        case measure => have := HX.out.2; omega
        case rel => exact ⟨j + 1, by have := HX.out.2.1; omega, HX.out.1, by go_num, rfl⟩
      · have hnx := fi_here hj hx ht
        have hr : R = (j : Nat) := by rw [eR]; unfold idxM; rw [hnx, if_pos (by omega)]
        have HX := Lib.hid (And.intro hnx hlt); clear hnx hj hrow hle hx hlt hg hn hl eR
        subst hr
        go_wp2_with fail
        go_ret
        exact ⟨rfl, rfl⟩
    · have hr : R = -1 := by rw [eR]; unfold idxM; rw [if_neg (by omega)]
      have i2 : decide (j < n) = false := decide_eq_false hlt
      clear hj hrow hle hlt hg hn hl eR
      subst hr
      go_wp2_with fail
      go_ret
      exact ⟨rfl, rfl⟩
def hasM (l : List ByteArray) (s : ByteArray) : Bool := l.any (eqR s)
theorem hasM_idx (l : List ByteArray) (s : ByteArray) : decide (0 ≤ idxM l s) = hasM l s := by
  unfold idxM hasM
  rcases h : l.any (eqR s) with _ | _
  · rw [if_neg]
    · decide
    · intro hlt
      have := List.findIdx_getElem (p := eqR s) (xs := l) (w := hlt)
      rw [List.any_eq_false] at h
      exact h _ (List.getElem_mem hlt) this
  · rw [List.any_eq_true] at h
    obtain ⟨x, hx, hp⟩ := h
    rw [if_pos (List.findIdx_lt_length_of_exists ⟨x, hx, hp⟩)]
    simp
theorem Contains_ok (A : Option Addr) (n cap : Nat) (l : List ByteArray) (s : ByteArray) (w : World) (hn : n = l.length) (hl : n ≤ 1000000) (h : StrRow w A l) :
    Calls Tryz.prog 115 #[.slice A n cap, .string s] w fun e w' => e = .returned (.bool (hasM l s)) ∧ w = w' := by
  have I := Index_ok A n cap l s w hn hl h
  have hx := hasM_idx l s
  obtain ⟨k, ek⟩ : ∃ k, k = idxM l s := ⟨_, rfl⟩
  obtain ⟨R, eR⟩ : ∃ R, R = hasM l s := ⟨_, rfl⟩
  rw [← ek] at I hx
  rw [← eR] at hx ⊢
  clear ek eR hn hl h
  go_enter Tryz.func115, Tryz.ntmps115
  go_wp2_with (go_at_call 116; refine I.mono ?_; rintro e w' ⟨rfl, rfl⟩)
  go_ret
  exact ⟨rfl, rfl⟩
def kinds2L : List ByteArray := ⟨#[]⟩ :: kindsL
theorem pkinds_ok (w : World) : Calls Tryz.prog 133 #[] w fun e w' => e = .returned (.slice (some ⟨w.heap.size, 0, none⟩) 11 11) ∧ w.alloc (.cells (kinds2L.map Value.string).toArray 9 (0, 0)) = w' := by
  go_enter Tryz.func133, Tryz.ntmps133
  go_wp2_with fail
  go_ret
  exact ⟨rfl, rfl⟩
def pkindM (s : ByteArray) : Nat := (idxM kinds2L s).toNat
theorem pkind_bound (s : ByteArray) : -1 ≤ idxM kinds2L s ∧ idxM kinds2L s ≤ 10 := by
  unfold idxM
  split
  · rename_i h
    have : kinds2L.length = 11 := rfl
    omega
  · omega
set_option maxRecDepth 100000 in
theorem pKind_ok (s : ByteArray) (w : World) : Calls Tryz.prog 124 #[.string s] w fun e w' => e = .returned (.int .u8 (pkindM s : Nat)) ∧ Below w.heap.size w w' := by
  obtain ⟨w1, e1⟩ : ∃ w1, w1 = w.alloc (.cells (kinds2L.map Value.string).toArray 9 (0, 0)) := ⟨_, rfl⟩
  have K := pkinds_ok w
  rw [← e1] at K
  have hb : Below w.heap.size w w1 := by rw [e1]; exact (Below.refl _ w).alloc (Nat.le_refl _) _
  have hk : w1.heap[w.heap.size]? = some (.cells (kinds2L.map Value.string).toArray 9 (0, 0)) := by rw [e1]; exact heap_alloc_new w _
  have I := Index_ok (some ⟨w.heap.size, 0, none⟩) 11 11 kinds2L s w1 rfl (by decide) (strRow_block hk)
  have hbd := pkind_bound s
  obtain ⟨k, ek⟩ : ∃ k, k = idxM kinds2L s := ⟨_, rfl⟩
  rw [← ek] at I hbd
  have er : pkindM s = k.toNat := by unfold pkindM; rw [ek]
  rw [er]
  obtain ⟨m, em⟩ : ∃ m : Nat, m = k.toNat := ⟨_, rfl⟩
  rw [← em]
  have hm : (if 0 < k then k else 0) = (m : Int) := by split <;> omega
  have hm2 : (if k < 0 then (0 : Int) else k) = (m : Int) := by split <;> omega
  have w5 : IntKind.u8.wrap (m : Int) = (m : Int) := by unfold IntKind.wrap; simp [IntKind.bits, IntKind.signed]; omega
  have HB := Lib.hid hb
  clear hb hk er ek em hbd e1
  go_enter Tryz.func124, Tryz.ntmps124
  go_wp2_with (first | (go_at_call 133; refine K.mono ?_; rintro e w' ⟨rfl, rfl⟩) | (go_at_call 116; refine I.mono ?_; rintro e w' ⟨rfl, rfl⟩))
  go_ret
  exact ⟨rfl, HB.out⟩
def pnameM (s : ByteArray) : Bool := wordM s && (pkindM s == 0) && !(hasM wordsL s)
set_option maxRecDepth 100000 in
theorem pName_ok (s : ByteArray) (w : World) : Calls Tryz.prog 109 #[.string s] w fun e w' => e = .returned (.bool (pnameM s)) ∧ Below w.heap.size w w' := by
  obtain ⟨w1, e1⟩ : ∃ w1, w1 = w.alloc (.cells (wordsL.map Value.string).toArray 9 (0, 0)) := ⟨_, rfl⟩
  have hb : Below w.heap.size w w1 := by rw [e1]; exact (Below.refl _ w).alloc (Nat.le_refl _) _
  have hk : w1.heap[w.heap.size]? = some (.cells (wordsL.map Value.string).toArray 9 (0, 0)) := by rw [e1]; exact heap_alloc_new w _
  have WD := lexWord_ok s w1
  have KD := pKind_ok s w1
  have CN : ∀ W, Below w1.heap.size w1 W → Calls Tryz.prog 115 #[.slice (some ⟨w.heap.size, 0, none⟩) 12 12, .string s] W fun e w' => e = .returned (.bool (hasM wordsL s)) ∧ W = w' :=
    fun W hW => Contains_ok (some ⟨w.heap.size, 0, none⟩) 12 12 wordsL s W rfl (by decide) ((strRow_block hk).below hW)
  obtain ⟨R, eR⟩ : ∃ R, R = pnameM s := ⟨_, rfl⟩
  rw [← eR]
  unfold pnameM at eR
  obtain ⟨k, ek⟩ : ∃ k, k = pkindM s := ⟨_, rfl⟩
  rw [← ek] at KD eR
  have e1' : w1 = w.alloc (.cells #[.string ⟨#[108, 101, 116]⟩, .string ⟨#[105, 102]⟩, .string ⟨#[101, 108, 115, 101]⟩, .string ⟨#[119, 104, 105, 108, 101]⟩, .string ⟨#[115, 116, 111, 112]⟩, .string ⟨#[102, 97, 105, 108]⟩, .string ⟨#[116, 105, 99, 107]⟩, .string ⟨#[115, 101, 108, 102]⟩, .string ⟨#[114, 97, 110, 100]⟩, .string ⟨#[97, 98, 115]⟩, .string ⟨#[109, 105, 110]⟩, .string ⟨#[109, 97, 120]⟩] 9 (0, 0)) := e1
  have HC := Lib.hid (And.intro hb CN)
  clear hb hk ek CN e1
  cases hw : wordM s
  · rw [hw] at WD eR
    obtain rfl : R = false := by rw [eR]; rfl
    clear eR hw
    go_enter Tryz.func109, Tryz.ntmps109
    go_upto_region 2 with fail
    rw [← e1']
    clear e1'
    go_wp2_with (go_at_call 123; refine WD.mono ?_; rintro e w' ⟨rfl, rfl⟩)
    go_ret
    exact ⟨rfl, HC.out.1⟩
  rw [hw] at WD eR
  clear hw
  by_cases h0 : k = 0
  · subst h0
    cases hc : hasM wordsL s
    · rw [hc] at eR
      obtain rfl : R = true := by rw [eR]; rfl
      have HH := Lib.hid hc
      clear eR hc
      go_enter Tryz.func109, Tryz.ntmps109
      go_upto_region 2 with fail
      rw [← e1']
      clear e1'
      go_wp2_with (first
        | (go_at_call 123; refine WD.mono ?_; rintro e w' ⟨rfl, rfl⟩)
        | (go_at_call 124; refine KD.mono ?_; rintro e w2 ⟨rfl, hb2⟩; have C2 := HC.out.2 w2 hb2; rw [HH.out] at C2; have H2 := Lib.hid hb2; clear hb2)
        | (go_at_call 115; refine C2.mono ?_; rintro e w' ⟨rfl, rfl⟩))
      go_ret
      exact ⟨rfl, HC.out.1.trans (H2.out.mono HC.out.1.size)⟩
    · rw [hc] at eR
      obtain rfl : R = false := by rw [eR]; rfl
      have HH := Lib.hid hc
      clear eR hc
      go_enter Tryz.func109, Tryz.ntmps109
      go_upto_region 2 with fail
      rw [← e1']
      clear e1'
      go_wp2_with (first
        | (go_at_call 123; refine WD.mono ?_; rintro e w' ⟨rfl, rfl⟩)
        | (go_at_call 124; refine KD.mono ?_; rintro e w2 ⟨rfl, hb2⟩; have C2 := HC.out.2 w2 hb2; rw [HH.out] at C2; have H2 := Lib.hid hb2; clear hb2)
        | (go_at_call 115; refine C2.mono ?_; rintro e w' ⟨rfl, rfl⟩))
      go_ret
      exact ⟨rfl, HC.out.1.trans (H2.out.mono HC.out.1.size)⟩
  · have hk1 : ((k : Int) == 0) = false := by simp; omega
    have hk2 : (k == 0) = false := by simpa using h0
    rw [hk2] at eR
    obtain rfl : R = false := by rw [eR]; rfl
    clear eR h0 hk2
    go_enter Tryz.func109, Tryz.ntmps109
    go_upto_region 2 with fail
    rw [← e1']
    clear e1'
    go_wp2_with (first
      | (go_at_call 123; refine WD.mono ?_; rintro e w' ⟨rfl, rfl⟩)
      | (go_at_call 124; refine KD.mono ?_; rintro e w2 ⟨rfl, hb2⟩; have H2 := Lib.hid hb2; clear hb2))
    go_ret
    exact ⟨rfl, HC.out.1.trans (H2.out.mono HC.out.1.size)⟩
end
end Go.Proofs.YtocbddajakbemaaGreat
set_option linter.unusedSimpArgs false
namespace Go.Proofs.YtocbddajakbemaaGreat
section
open Go.RowKit
inductive E0 where
  | mk (op : Nat) (n : Int) (nm : ByteArray) (args : List E0)
def E0.op : E0 → Nat | .mk o _ _ _ => o
def E0.n : E0 → Int | .mk _ n _ _ => n
def E0.nm : E0 → ByteArray | .mk _ _ s _ => s
def E0.args : E0 → List E0 | .mk _ _ _ l => l
inductive S0 where
  | mk (op : Nat) (n : Int) (nm : ByteArray) (e : List E0) (b els : List S0)
def S0.op : S0 → Nat | .mk o _ _ _ _ _ => o
def S0.n : S0 → Int | .mk _ n _ _ _ _ => n
def S0.nm : S0 → ByteArray | .mk _ _ s _ _ _ => s
def S0.e : S0 → List E0 | .mk _ _ _ l _ _ => l
def S0.b : S0 → List S0 | .mk _ _ _ _ l _ => l
def S0.els : S0 → List S0 | .mk _ _ _ _ _ l => l
structure ECells (w : World) (b o : Nat) (x : E0) (A : Option Addr) (c : Nat) : Prop where
  c0 : w.cell? ⟨b, o, none⟩ = some (.int .u8 (x.op : Nat))
  c1 : w.cell? ⟨b, o + 1, none⟩ = some (.int .i64 x.n)
  c2 : w.cell? ⟨b, o + 2, none⟩ = some (.string x.nm)
  c3 : w.cell? ⟨b, o + 3, none⟩ = some (.slice A x.args.length c)
  nil : A = none → x.args.length = 0 ∧ c = 0
  lim : x.op < 256 ∧ -9223372036854775808 ≤ x.n ∧ x.n ≤ 9223372036854775807 ∧ x.args.length ≤ 1000000
def EsAt (w : World) : Nat → Option Addr → List E0 → Prop
  | 0, _, _ => True
  | d + 1, A, l => ∀ (j : Nat) (x : E0), l[j]? = some x → ∃ b o A' c, A = some ⟨b, o, none⟩ ∧ ECells w b (o + j * 4) x A' c ∧ EsAt w d A' x.args
theorem ECells.below {w w' : World} {b o : Nat} {x : E0} {A : Option Addr} {c : Nat} (h : ECells w b o x A c) (hb : Below w.heap.size w w') : ECells w' b o x A c :=
  ⟨(hb.cell (World.block_lt_of_cell? w _ h.c0)).trans h.c0, (hb.cell (World.block_lt_of_cell? w _ h.c1)).trans h.c1, (hb.cell (World.block_lt_of_cell? w _ h.c2)).trans h.c2, (hb.cell (World.block_lt_of_cell? w _ h.c3)).trans h.c3, h.nil, h.lim⟩
theorem EsAt.below {w w' : World} (hb : Below w.heap.size w w') : ∀ {d : Nat} {A : Option Addr} {l : List E0}, EsAt w d A l → EsAt w' d A l := by
  intro d
  induction d with
  | zero => intro A l _; trivial
  | succ d ih =>
    intro A l h j x hj
    obtain ⟨b, o, A', c, e, hc, hd⟩ := h j x hj
    exact ⟨b, o, A', c, e, hc.below hb, ih hd⟩
structure SCells (w : World) (b o : Nat) (s : S0) (EA : Option Addr) (ec : Nat) (BA : Option Addr) (bc : Nat) (LA : Option Addr) (lc : Nat) : Prop where
  c0 : w.cell? ⟨b, o, none⟩ = some (.int .u8 (s.op : Nat))
  c1 : w.cell? ⟨b, o + 1, none⟩ = some (.int .i64 s.n)
  c2 : w.cell? ⟨b, o + 2, none⟩ = some (.string s.nm)
  c3 : w.cell? ⟨b, o + 3, none⟩ = some (.slice EA s.e.length ec)
  c4 : w.cell? ⟨b, o + 4, none⟩ = some (.slice BA s.b.length bc)
  c5 : w.cell? ⟨b, o + 5, none⟩ = some (.slice LA s.els.length lc)
  lim : s.op < 256 ∧ -9223372036854775808 ≤ s.n ∧ s.n ≤ 9223372036854775807 ∧ s.e.length ≤ 1000000 ∧ s.b.length ≤ 1000000 ∧ s.els.length ≤ 1000000
def SsAt (w : World) : Nat → Option Addr → List S0 → Prop
  | 0, _, _ => True
  | d + 1, A, l => ∀ (j : Nat) (s : S0), l[j]? = some s → ∃ b o EA ec BA bc LA lc, A = some ⟨b, o, none⟩ ∧ SCells w b (o + j * 6) s EA ec BA bc LA lc ∧ (∀ k, EsAt w k EA s.e) ∧ SsAt w d BA s.b ∧ SsAt w d LA s.els
theorem SCells.below {w w' : World} {b o : Nat} {s : S0} {EA BA LA : Option Addr} {ec bc lc : Nat} (h : SCells w b o s EA ec BA bc LA lc) (hb : Below w.heap.size w w') : SCells w' b o s EA ec BA bc LA lc :=
  ⟨(hb.cell (World.block_lt_of_cell? w _ h.c0)).trans h.c0, (hb.cell (World.block_lt_of_cell? w _ h.c1)).trans h.c1, (hb.cell (World.block_lt_of_cell? w _ h.c2)).trans h.c2, (hb.cell (World.block_lt_of_cell? w _ h.c3)).trans h.c3, (hb.cell (World.block_lt_of_cell? w _ h.c4)).trans h.c4, (hb.cell (World.block_lt_of_cell? w _ h.c5)).trans h.c5, h.lim⟩
theorem SsAt.below {w w' : World} (hb : Below w.heap.size w w') : ∀ {d : Nat} {A : Option Addr} {l : List S0}, SsAt w d A l → SsAt w' d A l := by
  intro d
  induction d with
  | zero => intro A l _; trivial
  | succ d ih =>
    intro A l h j x hj
    obtain ⟨b, o, EA, ec, BA, bc, LA, lc, e, hc, he, hd, hd2⟩ := h j x hj
    exact ⟨b, o, EA, ec, BA, bc, LA, lc, e, hc.below hb, fun k => (he k).below hb, ih hd, ih hd2⟩
def manyF (op : Nat) : Int := if op = 1 ∨ op = 2 ∨ op = 4 ∨ op = 5 then 0 else if op = 3 ∨ (6 ≤ op ∧ op ≤ 9) then 1 else if 10 ≤ op ∧ op ≤ 24 then 2 else -1
set_option maxRecDepth 100000 in
theorem many_ok (op : Nat) (w : World) : Calls Tryz.prog 126 #[.int .u8 (op : Nat)] w fun e w' => e = .returned (.int .i64 (manyF op)) ∧ w = w' := by
  obtain ⟨R, eR⟩ : ∃ R, R = manyF op := ⟨_, rfl⟩
  rw [← eR]
  unfold manyF at eR
  rcases (show op = 1 ∨ op = 2 ∨ op = 3 ∨ op = 4 ∨ op = 5 ∨ (op ≠ 1 ∧ op ≠ 2 ∧ op ≠ 3 ∧ op ≠ 4 ∧ op ≠ 5) by omega) with h | h | h | h | h | h
  · subst h
    obtain rfl : R = 0 := by rw [eR]; rfl
    clear eR
    go_enter Tryz.func126, Tryz.ntmps126
    go_wp2_with fail
    go_ret
    exact ⟨rfl, rfl⟩
  · subst h
    obtain rfl : R = 0 := by rw [eR]; rfl
    clear eR
    go_enter Tryz.func126, Tryz.ntmps126
    go_wp2_with fail
    go_ret
    exact ⟨rfl, rfl⟩
  · subst h
    obtain rfl : R = 1 := by rw [eR]; rfl
    clear eR
    go_enter Tryz.func126, Tryz.ntmps126
    go_wp2_with fail
    go_ret
    exact ⟨rfl, rfl⟩
  · subst h
    obtain rfl : R = 0 := by rw [eR]; rfl
    clear eR
    go_enter Tryz.func126, Tryz.ntmps126
    go_wp2_with fail
    go_ret
    exact ⟨rfl, rfl⟩
  · subst h
    obtain rfl : R = 0 := by rw [eR]; rfl
    clear eR
    go_enter Tryz.func126, Tryz.ntmps126
    go_wp2_with fail
    go_ret
    exact ⟨rfl, rfl⟩
  · obtain ⟨h1, h2, h3, h4, h5⟩ := h
    have q1 : ((op : Int) == 1) = false := by simp; omega
    have q2 : ((op : Int) == 2) = false := by simp; omega
    have q3 : ((op : Int) == 3) = false := by simp; omega
    have q4 : ((op : Int) == 4) = false := by simp; omega
    have q5 : ((op : Int) == 5) = false := by simp; omega
    by_cases h6 : 6 ≤ op
    · by_cases h9 : op ≤ 9
      · have d6 : decide ((6 : Int) ≤ (op : Int)) = true := decide_eq_true (by omega)
        have d9 : decide ((op : Int) ≤ 9) = true := decide_eq_true (by omega)
        obtain rfl : R = 1 := by rw [eR, if_neg (by omega), if_pos (by omega)]
        clear eR h1 h2 h3 h4 h5 h6 h9
        go_enter Tryz.func126, Tryz.ntmps126
        go_wp2_with fail
        go_ret
        exact ⟨rfl, rfl⟩
      · have d6 : decide ((6 : Int) ≤ (op : Int)) = true := decide_eq_true (by omega)
        have d9 : decide ((op : Int) ≤ 9) = false := decide_eq_false (by omega)
        have d10 : decide ((10 : Int) ≤ (op : Int)) = true := decide_eq_true (by omega)
        by_cases h24 : op ≤ 24
        · have d24 : decide ((op : Int) ≤ 24) = true := decide_eq_true (by omega)
          obtain rfl : R = 2 := by rw [eR, if_neg (by omega), if_neg (by omega), if_pos (by omega)]
          clear eR h1 h2 h3 h4 h5 h6 h9 h24
          go_enter Tryz.func126, Tryz.ntmps126
          go_wp2_with fail
          go_ret
          exact ⟨rfl, rfl⟩
        · have d24 : decide ((op : Int) ≤ 24) = false := decide_eq_false (by omega)
          obtain rfl : R = -1 := by rw [eR, if_neg (by omega), if_neg (by omega), if_neg (by omega)]
          clear eR h1 h2 h3 h4 h5 h6 h9 h24
          go_enter Tryz.func126, Tryz.ntmps126
          go_wp2_with fail
          go_ret
          exact ⟨rfl, rfl⟩
    · have d6 : decide ((6 : Int) ≤ (op : Int)) = false := decide_eq_false (by omega)
      have d10 : decide ((10 : Int) ≤ (op : Int)) = false := decide_eq_false (by omega)
      obtain rfl : R = -1 := by rw [eR, if_neg (by omega), if_neg (by omega), if_neg (by omega)]
      clear eR h1 h2 h3 h4 h5 h6
      go_enter Tryz.func126, Tryz.ntmps126
      go_wp2_with fail
      go_ret
      exact ⟨rfl, rfl⟩
def kindB (n : Int) : Bool := decide (1 ≤ n) && decide (n ≤ 10)
theorem pkind1_ok (n : Int) (w : World) : Calls Tryz.prog 110 #[.int .i64 n] w fun e w' => e = .returned (.bool (kindB n)) ∧ w = w' := by
  unfold kindB
  rcases h1 : decide (1 ≤ n) with _ | _
  · go_enter Tryz.func110, Tryz.ntmps110
    go_wp2_with fail
    go_ret
    exact ⟨rfl, rfl⟩
  · rcases h2 : decide (n ≤ 10) with _ | _
    · go_enter Tryz.func110, Tryz.ntmps110
      go_wp2_with fail
      go_ret
      exact ⟨rfl, rfl⟩
    · go_enter Tryz.func110, Tryz.ntmps110
      go_wp2_with fail
      go_ret
      exact ⟨rfl, rfl⟩
end
end Go.Proofs.YtocbddajakbemaaGreat
set_option linter.unusedSimpArgs false
namespace Go.Proofs.YtocbddajakbemaaGreat
section
open Go.RowKit
def E0.agg (x : E0) (A : Option Addr) (c : Nat) : Value := .agg #[.int .u8 (x.op : Nat), .int .i64 x.n, .string x.nm, .slice A x.args.length c]
def fineB : Nat → E0 → Bool
  | 0, _ => false
  | D + 1, x => (manyF x.op == (x.args.length : Int)) && ((x.op == 2) == !(x.nm.size == 0)) && ((x.nm.size == 0) || pnameM x.nm) && (if x.op = 1 then decide (0 ≤ x.n) else ((if x.op = 3 then kindB x.n else x.n == 0) && x.args.all (fineB D)))
def ELim (x : E0) : Prop := x.op < 256 ∧ -9223372036854775808 ≤ x.n ∧ x.n ≤ 9223372036854775807 ∧ x.args.length ≤ 1000000
def S0.agg (s : S0) (EA : Option Addr) (ec : Nat) (BA : Option Addr) (bc : Nat) (LA : Option Addr) (lc : Nat) : Value := .agg #[.int .u8 (s.op : Nat), .int .i64 s.n, .string s.nm, .slice EA s.e.length ec, .slice BA s.b.length bc, .slice LA s.els.length lc]
def wantF (op : Nat) : Nat := if op = 3 then 2 else if op = 6 ∨ op = 7 then 0 else 1
def headS (s : S0) : Bool := decide (1 ≤ s.op ∧ s.op ≤ 7) && (s.e.length == wantF s.op) && (if s.op = 1 ∨ s.op = 2 then pnameM s.nm else s.nm.size == 0) && (if s.op = 3 then kindB s.n else s.n == 0) && (s.b.length == 0 || s.op == 4 || s.op == 5) && (s.els.length == 0 || s.op == 4)
def rightS : Nat → S0 → Bool
  | 0, _ => false
  | D + 1, s => headS s && (s.e.all (fineB 40) && (s.b.all (rightS D) && s.els.all (rightS D)))
def SLim (s : S0) : Prop := s.op < 256 ∧ -9223372036854775808 ≤ s.n ∧ s.n ≤ 9223372036854775807 ∧ s.e.length ≤ 1000000 ∧ s.b.length ≤ 1000000 ∧ s.els.length ≤ 1000000
end
end Go.Proofs.YtocbddajakbemaaGreat
