/- vm, the front end: Lex. vm, the front end: kinds, Kind, Word, Name, is, enter, two. vm, the front end: Name, is, enter, two. vm, the front end: what the reference's parser makes of tokens (where it goes through, and nothing but what the three texts want). -/
import Derived.Test.YtocbddajakbemaaGreatMH
import Derived.Deep.CutBlock
set_option linter.unusedVariables false
set_option linter.unusedSimpArgs false
set_option linter.unusedSimpArgs false
namespace Go.Proofs.YtocbddajakbemaaGreat
section
open Go.RowKit
def byteN (s : ByteArray) (i : Nat) : Nat := if h : i < s.size then (s[i]'h).toNat else 0
theorem byteN_lt {s : ByteArray} {i : Nat} (h : i < s.size) : (s[i]'h).toNat = byteN s i := by unfold byteN; rw [dif_pos h]
def skipE (s : ByteArray) : Nat → Nat → Option Nat
  | 0, _ => none
  | f + 1, i => if i < s.size then if byteN s i = 32 then skipE s f (i + 1) else if byteN s i = 9 ∨ byteN s i = 10 ∨ byteN s i = 35 then none else some i else some i
def wordE (s : ByteArray) : Nat → Nat → Option Nat
  | 0, _ => none
  | f + 1, i => if i < s.size ∧ (isLet (byteN s i) || isDig (byteN s i)) = true then wordE s f (i + 1) else some i
theorem wordE_ge (s : ByteArray) : ∀ (f i e : Nat), wordE s f i = some e → i ≤ e := by
  intro f
  induction f with
  | zero => intro i e h; cases h
  | succ f ih =>
    intro i e h
    rw [wordE] at h
    split at h
    · have := ih _ _ h; omega
    · injection h with h; omega
theorem wordE_gt {s : ByteArray} {f i e : Nat} (h : wordE s (f + 1) i = some e) (hi : i < s.size) (hc : (isLet (byteN s i) || isDig (byteN s i)) = true) : i < e := by
  rw [wordE, if_pos ⟨hi, hc⟩] at h
  have := wordE_ge s _ _ _ h
  omega
theorem value_any (s : ByteArray) (c : Nat) (hs : s.size = 1) (hb : (s[0]'(by omega)).toNat = c) (h1 : 48 ≤ c) (h2 : c ≤ 51) (w : World) :
    Calls Tryz.prog 57 #[.string s] w fun e w' => e = .returned (.tuple #[.int .i64 ((c : Int) - 48), .bool true]) ∧ w = w' := by
  rcases (show c = 48 ∨ c = 49 ∨ c = 50 ∨ c = 51 from by omega) with rfl | rfl | rfl | rfl
  · exact value_48 s hs hb w
  · exact value_49 s hs hb w
  · exact value_50 s hs hb w
  · exact value_51 s hs hb w
structure Tk where
  kind : Nat
  text : ByteArray
  n : Int
  col : Int
def Tk.cells (t : Tk) : List Value := [.int .u8 (t.kind : Nat), .string t.text, .int .i64 t.n, .int .i64 1, .int .i64 t.col]
def tks (l : List Tk) : List Value := l.flatMap Tk.cells
def noTwo (t : ByteArray) : Bool := !((t.extract 0 2).toList == [61, 61]) && !((t.extract 0 2).toList == [33, 61]) && !((t.extract 0 2).toList == [60, 61]) && !((t.extract 0 2).toList == [62, 61]) && !((t.extract 0 2).toList == [38, 38]) && !((t.extract 0 2).toList == [124, 124])
def tokM (s : ByteArray) (i : Nat) : Option (Nat × Int × Nat) :=
  match wordE s (s.size + 1) i with
  | none => none
  | some e =>
    if isLet (byteN s i) then if e - i ≤ 24 then some (1, 0, e) else none
    else if isDig (byteN s i) then if e = i + 1 ∧ byteN s i ≤ 51 then some (2, (byteN s i : Int) - 48, e) else none
    else if byteN s i ∈ oneL ∧ (i + 1 = s.size ∨ noTwo (s.extract i s.size) = true) then some (3, 0, i + 1) else none
def lexM (s : ByteArray) : Nat → Nat → List Tk → Option (List Tk)
  | 0, _, _ => none
  | f + 1, i, acc => match skipE s (s.size + 1) i with
    | none => none
    | some i1 => if i1 = s.size then some (acc ++ [⟨4, ⟨#[]⟩, 0, (i1 : Int) + 1⟩]) else
      match tokM s i1 with
      | none => none
      | some (k, n, e) => lexM s f e (acc ++ [⟨k, s.extract i1 e, n, (i1 : Int) + 1⟩])
theorem tks_length (l : List Tk) : (tks l).length = l.length * 5 := by
  induction l with
  | nil => rfl
  | cons c l ih => show (c.cells ++ tks l).length = _; rw [List.length_append, ih]; simp [Tk.cells]; omega
theorem tks_snoc (l : List Tk) (t : Tk) : tks (l ++ [t]) = tks l ++ t.cells := by simp [tks]
theorem tk_one (t : Tk) : ∀ u ∈ t.cells, u.oneCell' = true := by
  intro u hu
  simp only [Tk.cells, List.mem_cons, List.not_mem_nil, or_false] at hu
  rcases hu with rfl | rfl | rfl | rfl | rfl <;> rfl
theorem infoTok : (Tryz.prog.info? 97).map (fun i => (i.zero, i.size, i.bytes)) = some (some (.agg #[.int .u8 0, .string ⟨#[]⟩, .int .i64 0, .int .i64 0, .int .i64 0]), 5, 48) := by kernel_rfl
theorem news_new (W : World) (cs : Array Value) (T : TypeId) (b : Nat) (hb : b = W.heap.size) : ∀ j u, cs.toList[j]? = some u → (W.alloc (.cells cs T (0, 0))).cell? ((⟨b, 0, none⟩ : Addr).add j) = some u := by
  intro j u hu
  subst hb
  rw [Addr.add_mid, Nat.zero_add, cell_of_block (heap_alloc_new W _)]
  simpa using hu
theorem results_tmp4 {fn : Func} {t u v x : Tmp} (h : fn.results = #[.tmp t, .tmp u, .tmp v, .tmp x]) (tmps : Array Value) (P : Program) (w : World) :
    (results fn tmps).run P w = .ok (.tuple #[tmps.getD t undef, tmps.getD u undef, tmps.getD v undef, tmps.getD x undef]) w := by
  simp [results, h]
def LRel (s : ByteArray) (B : Nat) (w : World) (res : List Tk) (gh : Nat) (ov lv fv iv : Value) (wr : World) : Prop :=
  ∃ i acc, lexM s gh i acc = some res ∧ iv = .int .i64 (i : Nat) ∧ lv = .int .i64 1 ∧ fv = .int .i64 0 ∧ i ≤ s.size ∧ acc.length ≤ i ∧ wr.ownsRow B 97 5 ov acc.length (tks acc) ∧ Below B w wr
set_option maxRecDepth 100000 in
set_option maxHeartbeats 4000000 in
theorem Lex_ok (s : ByteArray) (res : List Tk) (hs : s.size ≤ 1000) (hr : lexM s (s.size + 1) 0 [] = some res) (w : World) :
    Calls Tryz.prog 36 #[.string s] w fun e w' => ∃ v, e = .returned (.tuple #[v, .int .i64 0, .int .i64 0, .int .i64 0]) ∧ w'.ownsRow w.heap.size 97 5 v res.length (tks res) ∧ Below w.heap.size w w' := by
  obtain ⟨n, en⟩ : ∃ n, n = s.size := ⟨_, rfl⟩
  have R0 : LRel s w.heap.size w res (n + 1) (.slice none 0 0) (.int .i64 1) (.int .i64 0) (.int .i64 0) w := ⟨0, [], by rw [en]; exact hr, rfl, rfl, rfl, Nat.zero_le _, Nat.le_refl _, ⟨rfl, Or.inl ⟨rfl, rfl⟩⟩, Below.refl _ _⟩
  have HS := Lib.hid hs
  have h0 : decide ((16384 : Int) < (s.size : Int)) = false := decide_eq_false (by omega)
  clear hr hs
  go_enter Tryz.func36, Tryz.ntmps36
  go_wp2_with fail
  go_loopg [6, 7, 8, 9] (n + 1) (fun gh ov lv fv iv wr => LRel s w.heap.size w res gh ov lv fv iv wr)
  case atStart => exact R0
  case round =>
  clear R0
  obtain ⟨i, acc, hr, rfl, rfl, rfl, hi, hacc, hown, hb⟩ := hrel
  rcases gk with _ | f
  · cases hr
  rw [lexM] at hr
  rcases hsk : skipE s (s.size + 1) i with _ | i1
  · rw [hsk] at hr; cases hr
  rw [hsk] at hr
  simp only at hr
  have HQ := Lib.hid (And.intro hr (And.intro hacc (And.intro hown hb))); clear hr hacc hown hb
  obtain ⟨W, eW⟩ : ∃ W, W = wr := ⟨_, rfl⟩
  rw [← eW] at HQ ⊢
  clear eW
  go_upto_block 2 with fail
  go_cut [7, 8, 9] (fun lv fv iv wx => iv = .int .i64 (i1 : Nat) ∧ lv = .int .i64 1 ∧ fv = .int .i64 0 ∧ W = wx ∧ i ≤ i1 ∧ i1 ≤ s.size)
  case first =>
    as_aux_lemma =>
    go_wp2_with fail
    go_loopg [7, 8, 9] (n + 1) (fun gh lv fv iv wx => ∃ j, iv = .int .i64 (j : Nat) ∧ lv = .int .i64 1 ∧ fv = .int .i64 0 ∧ i ≤ j ∧ j ≤ s.size ∧ skipE s gh j = some i1 ∧ W = wx)
    case atStart => exact ⟨i, rfl, rfl, rfl, Nat.le_refl _, hi, by rw [en]; exact hsk, rfl⟩
    case round =>
      obtain ⟨j, rfl, rfl, rfl, hij, hj, hk, rfl⟩ := hrel
      rcases gk with _ | g
      · cases hk
      rw [skipE] at hk
      by_cases hlt : j < s.size
      · rw [if_pos hlt] at hk
        have q : ∀ h : j < s.size, (s[j]'h).toNat = byteN s j := fun h => byteN_lt h
        obtain ⟨c, ec⟩ : ∃ c, c = byteN s j := ⟨_, rfl⟩
        rw [← ec] at q hk
        have i0 : (0 : Int) ≤ (j : Int) := by omega
        have i2 : (j : Int) < (s.size : Int) := by omega
        have hsz := HS.out
        have w1 : wrap64 ((j : Int) + 1) = (j : Int) + 1 := by unfold wrap64; omega
        have w2 : wrap64 ((j : Int) + 1 - 1) = (j : Int) := by unfold wrap64; omega
        have w3 : wrap64 (j : Int) = (j : Int) := by unfold wrap64; omega
        by_cases h32 : c = 32
        · rw [if_pos h32] at hk
          as_aux_lemma =>
          subst h32
          have HK := Lib.hid (And.intro hk (And.intro hij hlt)); clear hk hij hlt hsz hj ec
          go_wp2_with fail
          go_roundg g
          case measure => omega
          case rel => exact ⟨j + 1, by go_num, rfl, rfl, by have := HK.out.2.1; omega, by have := HK.out.2.2; omega, HK.out.1, rfl⟩
        · rw [if_neg h32] at hk
          by_cases h9 : c = 9 ∨ c = 10 ∨ c = 35
          · rw [if_pos h9] at hk; cases hk
          rw [if_neg h9] at hk
          injection hk with hk
          subst hk
          have n9 : ¬ c = 9 := fun h => h9 (Or.inl h)
          have n10 : ¬ c = 10 := fun h => h9 (Or.inr (Or.inl h))
          have n35 : ¬ c = 35 := fun h => h9 (Or.inr (Or.inr h))
          have m32 : ((c : Int) == 32) = false := by simp; omega
          have m9 : ((c : Int) == 9) = false := by simp; omega
          have m10 : ((c : Int) == 10) = false := by simp; omega
          have m35 : ((c : Int) == 35) = false := by simp; omega
          as_aux_lemma =>
          have HK := Lib.hid (And.intro hij hj)
          clear hij hj hsz h9 ec n9 n10 n35 h32
          go_wp2_with fail
          go_meet
          exact ⟨rfl, rfl, rfl, rfl, HK.out.1, HK.out.2⟩
      · rw [if_neg hlt] at hk
        injection hk with hk
        subst hk
        as_aux_lemma =>
        have i2 : decide ((j : Int) < (s.size : Int)) = false := decide_eq_false (by omega)
        have i3 : decide (j < s.size) = false := decide_eq_false hlt
        have HK := Lib.hid (And.intro hij hj)
        clear hij hj hlt
        go_wp2_with fail
        go_meet
        exact ⟨rfl, rfl, rfl, rfl, HK.out.1, HK.out.2⟩
  case rest =>
  obtain ⟨rfl, rfl, rfl, rfl, hii, hi1⟩ := hcut
  have hsz := HS.out
  have w0 : wrap64 ((i1 : Int) - 0) = (i1 : Int) := by unfold wrap64; omega
  have w1 : wrap64 ((i1 : Int) + 1) = (i1 : Int) + 1 := by unfold wrap64; omega
  have w2 : wrap64 (i1 : Int) = (i1 : Int) := by unfold wrap64; omega
  by_cases hend : i1 = s.size
  · obtain ⟨hr, hacc, hown, hb⟩ := HQ.out
    rw [if_pos hend] at hr
    injection hr with hr
    obtain ⟨i9, hi9, hz0, hz1, hz2⟩ := info_parts infoTok
    have HI := Lib.hid (And.intro hi9 (And.intro hz0 (And.intro hz1 (And.intro hz2 (And.intro hr (And.intro hb (And.intro hown (show acc.length ≤ 1000 from by omega)))))))); clear hi9 hz0 hz1 hz2 hr hb
    have HO := Lib.hid hown; clear hown
    subst hend
    obtain ⟨nw, enw⟩ : ∃ nw, nw = Tk.cells ⟨4, ⟨#[]⟩, 0, (s.size : Int) + 1⟩ := ⟨_, rfl⟩
    have HN1 := Lib.hid (show nw.length = 1 * 5 from by rw [enw]; rfl)
    have HN2 := Lib.hid (show ∀ A, ∀ j u, nw[j]? = some u → ((W.alloc A).alloc (.cells #[.int .u8 4, .string ⟨#[]⟩, .int .i64 0, .int .i64 1, .int .i64 ((s.size : Int) + 1)] 97 (0, 0))).cell? ((⟨W.heap.size + 1, 0, none⟩ : Addr).add j) = some u from fun A => by rw [enw]; exact news_new (W.alloc A) _ _ _ (by simp))
    have HN3 := Lib.hid (show ∀ u ∈ nw, u.oneCell' = true from by rw [enw]; exact tk_one _)
    have HN4 := Lib.hid (show acc.length + 1 ≤ maxLen ∧ (acc.length + 1) * 48 ≤ 140737488355328 from by have := HI.out.2.2.2.2.2.2.2; unfold maxLen; omega)
    have HN5 := Lib.hid (show ∀ A B, w.heap.size ≤ ((W.alloc A).alloc B).heap.size from fun A B => by have := HI.out.2.2.2.2.2.1.size; simp; omega)
    have HEN := Lib.hid enw; clear enw
    go_wp2_with (at_builtin; refine wpList_append_own_at _ rfl (.tmp 82) (.tmp 84) 93 rfl w.heap.size 97 i9 _ 5 48 Tryz.underlying93 HI.out.1 HI.out.2.1 HI.out.2.2.1 HI.out.2.2.2.1 rfl (by decide) u6 acc.length (tks acc) rfl ((HO.out.alloc _).alloc _) ⟨W.heap.size + 1, 0, none⟩ 1 1 nw rfl HN1.out (HN2.out _) HN3.out HN4.out.1 HN4.out.2 (HN5.out _ _) ?_)
    intro v5 w5 hown5 hg5 _ _
    have HV := Lib.hid (And.intro hown5 hg5); clear hown5 hg5
    go_wp2_with fail
    refine bodyPost_ret (results_tmp4 rfl _ _ _) rfl ?_
    obtain ⟨-, -, -, -, hr, hb, hown, -⟩ := HI.out
    obtain ⟨hown5, hg5⟩ := HV.out
    refine ⟨v5, rfl, ?_, ?_⟩
    · rw [← hr, List.length_append, tks_snoc, ← HEN.out]; exact hown5
    · exact ((hb.alloc hb.size _).alloc (by have := hb.size; simp; omega) _).grown hg5 (by have := hb.size; simp; omega) (fun q hq => (own_lt hown hq).2)
  · have te : decide ((i1 : Int) = (s.size : Int)) = false := decide_eq_false (by omega)
    have te2 : ¬ i1 = s.size := hend
    have te3 : ((i1 : Int) == (s.size : Int)) = false := by simp; omega
    go_upto_block 6 with fail
    obtain ⟨hr, hacc, hown, hb⟩ := HQ.out
    rw [if_neg hend] at hr
    obtain ⟨e, he⟩ : ∃ e, wordE s (s.size + 1) i1 = some e := by
      rcases h : wordE s (s.size + 1) i1 with _ | e
      · rw [tokM, h] at hr; cases hr
      · exact ⟨e, rfl⟩
    have htok : tokM s i1 = (if isLet (byteN s i1) then if e - i1 ≤ 24 then some (1, 0, e) else none
        else if isDig (byteN s i1) then if e = i1 + 1 ∧ byteN s i1 ≤ 51 then some (2, (byteN s i1 : Int) - 48, e) else none
        else if byteN s i1 ∈ oneL ∧ (i1 + 1 = s.size ∨ noTwo (s.extract i1 s.size) = true) then some (3, 0, i1 + 1) else none) := by rw [tokM, he]
    obtain ⟨W1, eW1⟩ : ∃ W1, W1 = W.alloc (.cells #[.int .u8 4, .string ⟨#[]⟩, .int .i64 0, .int .i64 1, .int .i64 ((i1 : Int) + 1)] 97 (0, 0)) := ⟨_, rfl⟩
    rw [← eW1]
    have HR := Lib.hid (And.intro hr (And.intro hacc (And.intro hown (And.intro hb (And.intro htok eW1))))); clear hr hacc hown hb htok eW1 HQ te te2 te3 hsk
    go_cut [11] (fun ev wx => ev = .int .i64 (e : Nat) ∧ W1 = wx ∧ i1 ≤ e ∧ e ≤ s.size)
    case first =>
      go_wp2_with fail
      go_loopg [11] (n + 1) (fun gh ev wx => ∃ j, ev = .int .i64 (j : Nat) ∧ i1 ≤ j ∧ j ≤ s.size ∧ wordE s gh j = some e ∧ W1 = wx)
      case atStart => exact ⟨i1, rfl, Nat.le_refl _, hi1, by rw [en]; exact he, rfl⟩
      case round =>
        obtain ⟨j, rfl, hij, hj, hk, rfl⟩ := hrel
        rcases gk with _ | g
        · cases hk
        rw [wordE] at hk
        by_cases hlt : j < s.size
        · have q : ∀ h : j < s.size, (s[j]'h).toNat = byteN s j := fun h => byteN_lt h
          obtain ⟨c, ec⟩ : ∃ c, c = byteN s j := ⟨_, rfl⟩
          rw [← ec] at q hk
          have LT := letter_ok c W1
          have DG := digit_ok c W1
          have i0 : (0 : Int) ≤ (j : Int) := by omega
          have i2 : (j : Int) < (s.size : Int) := by omega
          have u1 : wrap64 ((j : Int) + 1) = (j : Int) + 1 := by unfold wrap64; omega
          cases hL : isLet c
          · rw [hL] at LT
            cases hD : isDig c
            · rw [hD] at DG
              have hk2 : some j = some e := by rw [← hk, if_neg (by rw [hL, hD]; simp)]
              injection hk2 with hk2
              subst hk2
              have HK := Lib.hid (And.intro hij hj)
              clear hij hj ec hL hD hk
              go_wp2_with (first | (go_at_call 55; refine LT.mono ?_; rintro e w' ⟨rfl, rfl⟩) | (go_at_call 56; refine DG.mono ?_; rintro e w' ⟨rfl, rfl⟩))
              go_meet
              exact ⟨rfl, rfl, HK.out.1, HK.out.2⟩
            · rw [hD] at DG
              have hk2 : wordE s g (j + 1) = some e := by rw [← hk, if_pos ⟨hlt, by rw [hD]; simp⟩]
              have HK := Lib.hid (And.intro hij (And.intro hlt hk2))
              clear hij hj ec hL hD hk hk2
              go_wp2_with (first | (go_at_call 55; refine LT.mono ?_; rintro e w' ⟨rfl, rfl⟩) | (go_at_call 56; refine DG.mono ?_; rintro e w' ⟨rfl, rfl⟩))
              go_roundg g
              case measure => omega
              case rel => exact ⟨j + 1, by go_num, by have := HK.out.1; omega, by have := HK.out.2.1; omega, HK.out.2.2, rfl⟩
          · rw [hL] at LT
            have hk2 : wordE s g (j + 1) = some e := by rw [← hk, if_pos ⟨hlt, by rw [hL]; simp⟩]
            have HK := Lib.hid (And.intro hij (And.intro hlt hk2))
            clear hij hj ec hL hk hk2
            go_wp2_with (first | (go_at_call 55; refine LT.mono ?_; rintro e w' ⟨rfl, rfl⟩))
            go_roundg g
            case measure => omega
            case rel => exact ⟨j + 1, by go_num, by have := HK.out.1; omega, by have := HK.out.2.1; omega, HK.out.2.2, rfl⟩
        · have hk2 : some j = some e := by rw [← hk, if_neg (fun h => hlt h.1)]
          injection hk2 with hk2
          subst hk2
          have i2 : decide ((j : Int) < (s.size : Int)) = false := decide_eq_false (by omega)
          have i3 : decide (j < s.size) = false := decide_eq_false hlt
          have HK := Lib.hid (And.intro hij hj)
          clear hij hj hlt hk
          go_wp2_with fail
          go_meet
          exact ⟨rfl, rfl, HK.out.1, HK.out.2⟩
    case rest =>
    obtain ⟨rfl, rfl, hie, hes⟩ := hcut
    have hlt1 : i1 < s.size := by omega
    have q : ∀ h : i1 < s.size, (s[i1]'h).toNat = byteN s i1 := fun h => byteN_lt h
    obtain ⟨c, ec⟩ : ∃ c, c = byteN s i1 := ⟨_, rfl⟩
    rw [← ec] at q
    have LT := letter_ok c W1
    have DG := digit_ok c W1
    have i0 : (0 : Int) ≤ (i1 : Int) := by omega
    have i2 : (i1 : Int) < (s.size : Int) := by omega
    have i3 : (i1 : Int) ≤ (e : Int) := by omega
    have i4 : (e : Int) ≤ (s.size : Int) := by omega
    have i5 : (i1 : Int) ≤ (s.size : Int) := by omega
    obtain ⟨t, et⟩ : ∃ t, t = W.heap.size := ⟨_, rfl⟩
    have hW1 : W1.heap[t]? = some (.cells #[.int .u8 4, .string ⟨#[]⟩, .int .i64 0, .int .i64 1, .int .i64 ((i1 : Int) + 1)] 97 (0, 0)) := by rw [HR.out.2.2.2.2.2, et]; exact heap_alloc_new W _
    have hbW : Below t W W1 := by rw [HR.out.2.2.2.2.2, et]; exact (Below.refl _ W).alloc (Nat.le_refl _) _
    rw [← et]
    have c0 : W1.cell? ⟨t, 0, none⟩ = some (.int .u8 4) := (cell_of_block hW1 0).trans rfl
    have c2 : W1.cell? ⟨t, 2, none⟩ = some (.int .i64 0) := (cell_of_block hW1 2).trans rfl
    have f0 : W1.frozen? ⟨t, 0, none⟩ = false := free_of_block hW1 0
    have f2 : W1.frozen? ⟨t, 2, none⟩ = false := free_of_block hW1 2
    have HW := Lib.hid (And.intro hW1 (And.intro hbW et)); clear hW1 hbW et
    have HE := Lib.hid (And.intro hie (And.intro hes (And.intro hlt1 (And.intro ec (And.intro hi1 (And.intro hii he)))))); clear hie hes hlt1 ec hi1 hii he hi hend
    go_upto_if 108 with (go_at_call 55; refine LT.mono ?_; rintro e w' ⟨rfl, rfl⟩)
    go_cut [11] (fun ev wx => ∃ k nn e', tokM s i1 = some (k, nn, e') ∧ ev = .int .i64 (e' : Nat) ∧ i1 < e' ∧ e' ≤ s.size ∧ wx.heap[t]? = some (.cells #[.int .u8 (k : Nat), .string ⟨#[]⟩, .int .i64 nn, .int .i64 1, .int .i64 ((i1 : Int) + 1)] 97 (0, 0)) ∧ Below t W wx)
    case first =>
      obtain ⟨hie, hes, hlt1, ec, hi1, hii, he⟩ := HE.out
      have hr := HR.out.1
      have htok := HR.out.2.2.2.2.1
      rw [← ec] at htok
      cases hL : isLet c
      · rw [hL] at htok
        cases hD : isDig c
        · rw [hD] at htok DG
          simp only [Bool.false_eq_true, if_false] at htok
          by_cases hsg : c ∈ oneL ∧ (i1 + 1 = s.size ∨ noTwo (s.extract i1 s.size) = true)
          · rw [if_pos hsg] at htok
            have hxs : (s.extract i1 s.size).size = s.size - i1 := by rw [ByteArray.size_extract]; omega
            have hx0 : ((s.extract i1 s.size)[0]'(by omega)).toNat = c := by rw [ByteArray.getElem_extract]; exact q _
            have SG : ∀ W', Calls Tryz.prog 58 #[.string (s.extract i1 s.size)] W' fun e w' => e = .returned (.int .i64 1) ∧ Below W'.heap.size W' w' := by
              intro W'
              by_cases hla : i1 + 1 = s.size
              · exact sign_last _ c (by omega) hx0 hsg.1 W'
              · have hn2 := hsg.2.resolve_left hla
                unfold noTwo at hn2
                simp only [Bool.and_eq_true, Bool.not_eq_true'] at hn2
                obtain ⟨⟨⟨⟨⟨t1, t2⟩, t3⟩, t4⟩, t5⟩, t6⟩ := hn2
                exact sign_two _ c (by omega) t1 t2 t3 t4 t5 t6 hx0 hsg.1 W'
            have HZ := Lib.hid (And.intro htok (And.intro hlt1 SG)); clear htok hr hie hes hlt1 ec hi1 hii he hxs hx0 SG hsg hD hL
            go_wp2_with (first | (go_at_call 56; refine DG.mono ?_; rintro e w' ⟨rfl, rfl⟩) | (go_at_call 58; refine (HZ.out.2.2 _).mono ?_; rintro e w6 ⟨rfl, hb6⟩; have hk6 := (hb6.block _ (lt_of_block' HW.out.1)).trans HW.out.1; have g0 : w6.cell? ⟨t, 0, none⟩ = some (.int .u8 4) := (cell_of_block hk6 0).trans rfl; have g0f : w6.frozen? ⟨t, 0, none⟩ = false := free_of_block hk6 0; have H6 := Lib.hid (And.intro hk6 hb6); clear hk6 hb6))
            go_meet
            exact ⟨3, _, i1 + 1, HZ.out.1, by go_num, Nat.lt_succ_self _, HZ.out.2.1, block_setCell H6.out.1 0 (.int .u8 3), (HW.out.2.1.trans (H6.out.2.mono (Nat.le_of_lt (lt_of_block' HW.out.1)))).setCell (p := ⟨t, 0, none⟩) (Nat.le_refl _) _⟩
          · rw [if_neg hsg] at htok
            rw [htok] at hr; cases hr
        · rw [hD] at htok DG
          simp only [Bool.false_eq_true, if_false, if_true] at htok
          by_cases hdg : e = i1 + 1 ∧ c ≤ 51
          · rw [if_pos hdg] at htok
            obtain ⟨he1, h51⟩ := hdg
            have hdc : 48 ≤ c := by unfold isDig at hD; simp at hD; omega
            have hxs : (s.extract i1 e).size = 1 := by rw [ByteArray.size_extract, he1]; omega
            have hx0 : ((s.extract i1 e)[0]'(by omega)).toNat = c := by rw [ByteArray.getElem_extract]; exact q _
            have VL := fun W' => value_any (s.extract i1 e) c hxs hx0 hdc h51 W'
            have HZ := Lib.hid (And.intro htok (And.intro (show i1 < e from by omega) (And.intro hes VL))); clear htok hr hie hes hlt1 ec hi1 hii he hdc h51 hxs hx0 VL he1 hD hL
            go_wp2_with (first | (go_at_call 56; refine DG.mono ?_; rintro e w' ⟨rfl, rfl⟩) | (go_at_call 57; refine (HZ.out.2.2.2 _).mono ?_; rintro e w' ⟨rfl, rfl⟩))
            go_meet
            exact ⟨2, _, e, HZ.out.1, rfl, HZ.out.2.1, HZ.out.2.2.1, block_setCell (block_setCell HW.out.1 0 (.int .u8 2)) 2 (.int .i64 ((c : Int) - 48)), (HW.out.2.1.setCell (p := ⟨t, 0, none⟩) (Nat.le_refl _) _).setCell (p := ⟨t, 2, none⟩) (Nat.le_refl _) _⟩
          · rw [if_neg hdg] at htok
            rw [htok] at hr; cases hr
      · rw [hL] at htok
        simp only [if_true] at htok
        by_cases h24 : e - i1 ≤ 24
        · rw [if_pos h24] at htok
          have hgt := wordE_gt he hlt1 (by rw [← ec, hL]; rfl)
          have t24 : decide ((24 : Int) < wrap64 ((e : Int) - (i1 : Int))) = false := decide_eq_false (by unfold wrap64; omega)
          have w24 : wrap64 ((e : Int) - (i1 : Int)) = (e : Int) - (i1 : Int) := by unfold wrap64; omega
          have u24 : decide ((24 : Int) < (e : Int) - (i1 : Int)) = false := decide_eq_false (by omega)
          have HZ := Lib.hid (And.intro htok (And.intro hgt hes)); clear htok hr hie hes hlt1 ec hi1 hii he hgt h24 hL
          go_wp2_with fail
          go_meet
          exact ⟨1, _, e, HZ.out.1, rfl, HZ.out.2.1, HZ.out.2.2, block_setCell HW.out.1 0 (.int .u8 1), HW.out.2.1.setCell (p := ⟨t, 0, none⟩) (Nat.le_refl _) _⟩
        · rw [if_neg h24] at htok
          rw [htok] at hr; cases hr
    case rest =>
    obtain ⟨k, nn, e', htok, rfl, hlt, hes', hwt, hbt⟩ := hcut
    obtain ⟨hr, hacc, hown, hb, -, -⟩ := HR.out
    rw [htok] at hr
    simp only at hr
    obtain ⟨hie, hes, hlt1, ec, hi1, hii, he⟩ := HE.out
    have et := HW.out.2.2
    obtain ⟨w7, e7⟩ : ∃ w7, w7 = wc := ⟨_, rfl⟩
    rw [← e7] at hwt hbt ⊢
    clear e7
    have d0 : w7.cell? ⟨t, 0, none⟩ = some (.int .u8 (k : Nat)) := (cell_of_block hwt 0).trans rfl
    have d1 : w7.cell? ⟨t, 1, none⟩ = some (.string ⟨#[]⟩) := (cell_of_block hwt 1).trans rfl
    have d2 : w7.cell? ⟨t, 2, none⟩ = some (.int .i64 nn) := (cell_of_block hwt 2).trans rfl
    have d3 : w7.cell? ⟨t, 3, none⟩ = some (.int .i64 1) := (cell_of_block hwt 3).trans rfl
    have d4 : w7.cell? ⟨t, 4, none⟩ = some (.int .i64 ((i1 : Int) + 1)) := (cell_of_block hwt 4).trans rfl
    have d1f : w7.frozen? ⟨t, 1, none⟩ = false := free_of_block hwt 1
    have j3 : (i1 : Int) ≤ (e' : Int) := by omega
    have j4 : (e' : Int) ≤ (s.size : Int) := by omega
    have hown7 : (w7.setCell ⟨t, 1, none⟩ (.string (s.extract i1 e'))).ownsRow w.heap.size 97 5 u6 acc.length (tks acc) := by
      refine own_same hown fun q hq => ?_
      have hqt : q ≠ t := by omega
      exact (Below.heap_setCell _ _ _ _ hqt).trans (hbt.block q (by omega))
    have hb7 : Below w.heap.size w (w7.setCell ⟨t, 1, none⟩ (.string (s.extract i1 e'))) := by
      have h1 : w.heap.size ≤ t := by rw [et]; exact hb.size
      exact (hb.trans (hbt.mono h1)).setCell (p := ⟨t, 1, none⟩) h1 _
    have hz7 : (w7.setCell ⟨t, 1, none⟩ (.string (s.extract i1 e'))).heap.size = w7.heap.size := by simp [World.setCell]
    have hl7 : acc.length ≤ 1000 := by omega
    obtain ⟨i9, hi9, hz0, hz1, hz2⟩ := info_parts infoTok
    obtain ⟨nw, enw⟩ : ∃ nw, nw = Tk.cells ⟨k, s.extract i1 e', nn, (i1 : Int) + 1⟩ := ⟨_, rfl⟩
    have HN1 := Lib.hid (show nw.length = 1 * 5 from by rw [enw]; rfl)
    have HN2 := Lib.hid (show ∀ u, u = w7.heap.size → ∀ j v, nw[j]? = some v → ((w7.setCell ⟨t, 1, none⟩ (.string (s.extract i1 e'))).alloc (.cells #[.int .u8 (k : Nat), .string (s.extract i1 e'), .int .i64 nn, .int .i64 1, .int .i64 ((i1 : Int) + 1)] 97 (0, 0))).cell? ((⟨u, 0, none⟩ : Addr).add j) = some v from fun u hu => by rw [enw]; exact news_new _ _ _ _ (by rw [hu, hz7]))
    have HN3 := Lib.hid (show ∀ u ∈ nw, u.oneCell' = true from by rw [enw]; exact tk_one _)
    have HN4 := Lib.hid (show acc.length + 1 ≤ maxLen ∧ (acc.length + 1) * 48 ≤ 140737488355328 from by unfold maxLen; omega)
    have HN5 := Lib.hid (show ∀ A, w.heap.size ≤ ((w7.setCell ⟨t, 1, none⟩ (.string (s.extract i1 e'))).alloc A).heap.size from fun A => by have := hb7.size; simp only [World.size_alloc]; omega)
    have HI := Lib.hid (And.intro hi9 (And.intro hz0 (And.intro hz1 hz2)))
    have HO := Lib.hid hown7
    have HX := Lib.hid (And.intro hr (And.intro hacc (And.intro hb7 (And.intro hlt (And.intro hes' (And.intro hii enw))))))
    clear hr hacc hown hb hb7 htok hwt hbt hlt hes' hie hes hlt1 ec hi1 hii he et hown7 hl7 hi9 hz0 hz1 hz2 enw HE HR LT DG c0 c2 f0 f2 q
    go_wp2_with (at_builtin; refine wpList_append_own_at _ rfl (.tmp 158) (.tmp 160) 93 rfl w.heap.size 97 i9 _ 5 48 Tryz.underlying93 HI.out.1 HI.out.2.1 HI.out.2.2.1 HI.out.2.2.2 rfl (by decide) u6 acc.length (tks acc) rfl (HO.out.alloc _) ⟨w7.heap.size, 0, none⟩ 1 1 nw rfl HN1.out (HN2.out _ rfl) HN3.out HN4.out.1 HN4.out.2 (HN5.out _) ?_)
    intro v5 w5 hown5 hg5 _ _
    have HV := Lib.hid (And.intro hown5 hg5); clear hown5 hg5
    go_wp2_with fail
    go_roundg f
    case measure => omega
    case rel =>
      obtain ⟨hr, hacc, hb7, hlt, hes', hii, enw⟩ := HX.out
      obtain ⟨hown5, hg5⟩ := HV.out
      refine ⟨e', _, hr, rfl, rfl, rfl, hes', by rw [List.length_append]; simp; omega, ?_, ?_⟩
      · rw [List.length_append, tks_snoc, ← enw]; exact hown5
      · exact (hb7.alloc (by have := hb7.size; omega) _).grown hg5 (HN5.out _) (fun q hq => (own_lt HO.out hq).2)
end
end Go.Proofs.YtocbddajakbemaaGreat
namespace Go.Proofs.YtocbddajakbemaaGreat
section
open Go.RowKit
def kindsL : List ByteArray := [⟨#[112, 111, 115]⟩, ⟨#[118, 101, 108]⟩, ⟨#[98, 111, 120]⟩, ⟨#[111, 119, 110, 101, 114]⟩, ⟨#[104, 105, 100, 101]⟩, ⟨#[115, 99, 114, 105, 112, 116]⟩, ⟨#[118, 97, 114, 115]⟩, ⟨#[108, 105, 102, 101]⟩, ⟨#[112, 117, 114, 115, 101]⟩, ⟨#[116, 97, 103]⟩]
def wordsL : List ByteArray := [⟨#[108, 101, 116]⟩, ⟨#[105, 102]⟩, ⟨#[101, 108, 115, 101]⟩, ⟨#[119, 104, 105, 108, 101]⟩, ⟨#[115, 116, 111, 112]⟩, ⟨#[102, 97, 105, 108]⟩, ⟨#[116, 105, 99, 107]⟩, ⟨#[115, 101, 108, 102]⟩, ⟨#[114, 97, 110, 100]⟩, ⟨#[97, 98, 115]⟩, ⟨#[109, 105, 110]⟩, ⟨#[109, 97, 120]⟩]
def signsL : List ByteArray := [⟨#[42]⟩, ⟨#[47]⟩, ⟨#[37]⟩, ⟨#[43]⟩, ⟨#[45]⟩, ⟨#[60]⟩, ⟨#[60, 61]⟩, ⟨#[62]⟩, ⟨#[62, 61]⟩, ⟨#[61, 61]⟩, ⟨#[33, 61]⟩, ⟨#[38, 38]⟩, ⟨#[124, 124]⟩]
def strongL : List Int := [5, 5, 5, 4, 4, 3, 3, 3, 3, 3, 3, 2, 1]
def eqS (s : ByteArray) (k : ByteArray) : Bool := k.toList == s.toList
theorem fi_next {α : Type} {p : α → Bool} {l : List α} {j : Nat} {x : α} (hj : j ≤ l.findIdx p) (hx : l[j]? = some x) (hp : p x = false) : j + 1 ≤ l.findIdx p := by
  rcases Nat.lt_or_ge j (l.findIdx p) with h | h
  · exact h
  · have e : l.findIdx p = j := by omega
    obtain ⟨hl, hx2⟩ := List.getElem?_eq_some_iff.1 hx
    have h2 := List.findIdx_getElem (p := p) (xs := l) (w := by rw [e]; exact hl)
    simp only [e, hx2] at h2
    rw [hp] at h2; cases h2
theorem fi_here {α : Type} {p : α → Bool} {l : List α} {j : Nat} {x : α} (hj : j ≤ l.findIdx p) (hx : l[j]? = some x) (hp : p x = true) : l.findIdx p = j := by
  obtain ⟨hl, hx2⟩ := List.getElem?_eq_some_iff.1 hx
  rcases Nat.lt_or_ge j (l.findIdx p) with h2 | h2
  · exfalso
    have := List.not_of_lt_findIdx h2
    rw [hx2] at this
    rw [hp] at this; cases this
  · omega
theorem strs_at {w : World} {b : Nat} {l : List ByteArray} (h : w.heap[b]? = some (.cells (l.map Value.string).toArray 9 (0, 0))) {j : Nat} {x : ByteArray} (hx : l[j]? = some x) : w.cell? ⟨b, j, none⟩ = some (.string x) := by
  rw [cell_of_block h]; simp [hx]
theorem kinds_ok (w : World) : Calls Tryz.prog 94 #[] w fun e w' => e = .returned (.slice (some ⟨w.heap.size, 0, none⟩) 10 10) ∧ w.alloc (.cells (kindsL.map Value.string).toArray 9 (0, 0)) = w' := by
  go_enter Tryz.func94, Tryz.ntmps94
  go_wp2_with fail
  go_ret
  exact ⟨rfl, rfl⟩
def kindM (s : ByteArray) : Nat := if kindsL.findIdx (eqS s) < 10 then kindsL.findIdx (eqS s) + 1 else 0
set_option maxRecDepth 100000 in
theorem Kind_ok (s : ByteArray) (w : World) : Calls Tryz.prog 59 #[.string s] w fun e w' => e = .returned (.int .u8 (kindM s : Nat)) ∧ Below w.heap.size w w' := by
  obtain ⟨w1, ew1⟩ : ∃ w1, w1 = w.alloc (.cells (kindsL.map Value.string).toArray 9 (0, 0)) := ⟨_, rfl⟩
  have K := kinds_ok w
  rw [← ew1] at K
  have hb : Below w.heap.size w w1 := by rw [ew1]; exact (Below.refl _ w).alloc (Nat.le_refl _) _
  have hk : w1.heap[w.heap.size]? = some (.cells (kindsL.map Value.string).toArray 9 (0, 0)) := by rw [ew1]; exact heap_alloc_new w _
  have hle : kindsL.findIdx (eqS s) ≤ 10 := List.findIdx_le_length
  have H := Lib.hid (And.intro hb (And.intro hk hle)); clear hb hk hle ew1
  go_enter Tryz.func59, Tryz.ntmps59
  go_wp2_with (go_at_call 94; refine K.mono ?_; rintro e w' ⟨rfl, rfl⟩)
  clear K
  go_loopg [4] 10 (fun gh iv wr => ∃ j : Nat, gh = 10 - j ∧ j ≤ kindsL.findIdx (eqS s) ∧ iv = .int .i64 (j : Nat) ∧ w1 = wr)
  case atStart => exact ⟨0, rfl, Nat.zero_le _, rfl, rfl⟩
  case round =>
    obtain ⟨j, rfl, hj, rfl, rfl⟩ := hrel
    obtain ⟨hb, hk, hle⟩ := H.out
    by_cases hlt : j < 10
    · obtain ⟨x, hx⟩ : ∃ x, kindsL[j]? = some x := ⟨_, List.getElem?_eq_getElem hlt⟩
      have c0 := strs_at hk hx
      have i0 : (0 : Int) ≤ (j : Int) := by omega
      have i1 : (j : Int) < 10 := by omega
      have i2 : decide (j < 10) = true := decide_eq_true hlt
      have w2 : wrap64 ((j : Int) + 1) = (j : Int) + 1 := by unfold wrap64; omega
      cases ht : (x.toList == s.toList)
      · have hn := fi_next hj hx ht
        have HX := Lib.hid (And.intro hn hlt); clear hn hj hb hk hle hx hlt
        go_wp2_with fail
        go_roundg (10 - (j + 1))
        case measure => have := HX.out.2; omega
        case rel => exact ⟨j + 1, rfl, HX.out.1, by go_num, rfl⟩
      · have hn := fi_here hj hx ht
        have w3 : wrap64 (j : Int) = (j : Int) := by unfold wrap64; omega
        have w5 : IntKind.u8.wrap ((j : Int) + 1) = (j : Int) + 1 := by unfold IntKind.wrap; simp [IntKind.bits, IntKind.signed]; omega
        have HX := Lib.hid (And.intro hn hlt); clear hn hj hb hk hle hx hlt
        go_wp2_with fail
        go_ret
        refine ⟨?_, H.out.1⟩
        unfold kindM
        rw [HX.out.1, if_pos HX.out.2]
        rfl
    · have hn : kindsL.findIdx (eqS s) = j := by omega
      obtain rfl : j = 10 := by omega
      have HX := Lib.hid (And.intro hn hlt); clear hn hj hb hk hle hlt
      go_wp2_with fail
      go_ret
      refine ⟨?_, H.out.1⟩
      unfold kindM
      rw [HX.out.1, if_neg HX.out.2]
      rfl
def wordM (s : ByteArray) : Bool := decide (0 < s.size) && decide (s.size ≤ 24) && isLet (byteN s 0) && (List.range s.size).all fun i => i == 0 || isLet (byteN s i) || isDig (byteN s i)
set_option maxRecDepth 100000 in
theorem Word_ok (s : ByteArray) (hw : wordM s = true) (w : World) : Calls Tryz.prog 98 #[.string s] w fun e w' => e = .returned (.bool true) ∧ w = w' := by
  unfold wordM at hw
  simp only [Bool.and_eq_true, decide_eq_true_eq] at hw
  obtain ⟨⟨⟨h1, h2⟩, h3⟩, h4⟩ := hw
  obtain ⟨c, ec⟩ : ∃ c, c = byteN s 0 := ⟨_, rfl⟩
  rw [← ec] at h3
  have q0 : ∀ h : 0 < s.size, (s[0]'h).toNat = c := fun h => by rw [ec]; exact byteN_lt h
  have LT := letter_ok c w
  rw [h3] at LT
  have t0 : ¬ s.size = 0 := by omega
  have t1 : decide ((24 : Int) < (s.size : Int)) = false := decide_eq_false (by omega)
  have t2 : (0 : Int) < (s.size : Int) := by omega
  have t3 : ((s.size : Int) == 0) = false := by rw [beq_eq_false_iff_ne]; omega
  have H := Lib.hid (And.intro h1 (And.intro h2 h4)); clear h1 h2 h3 h4 ec
  go_enter Tryz.func98, Tryz.ntmps98
  go_wp2_with (go_at_call 55; refine LT.mono ?_; rintro e w' ⟨rfl, rfl⟩)
  clear LT q0
  obtain ⟨n, en⟩ : ∃ n, n = s.size := ⟨_, rfl⟩
  go_loopg [3] n (fun gh iv wr => ∃ j : Nat, gh + j = n + 1 ∧ 1 ≤ j ∧ j ≤ n ∧ iv = .int .i64 (j : Nat) ∧ w = wr)
  case atStart => exact ⟨1, rfl, Nat.le_refl _, by rw [en]; exact H.out.1, rfl, rfl⟩
  case round =>
    obtain ⟨j, hgj, hj1, hjn, rfl, rfl⟩ := hrel
    have HG := Lib.hid hgj; clear hgj
    by_cases hlt : j < s.size
    · have q : ∀ h : j < s.size, (s[j]'h).toNat = byteN s j := fun h => byteN_lt h
      obtain ⟨c, ec⟩ : ∃ c, c = byteN s j := ⟨_, rfl⟩
      have hc := List.all_eq_true.1 H.out.2.2 j (List.mem_range.2 hlt)
      rw [← ec] at q hc
      have hc : (isLet c || isDig c) = true := by
        rcases hj0 : (j == 0) with _ | _
        · rw [hj0] at hc; simpa using hc
        · simp at hj0; omega
      have LT := letter_ok c w
      have DG := digit_ok c w
      have i0 : (0 : Int) ≤ (j : Int) := by omega
      have i2 : (j : Int) < (s.size : Int) := by omega
      have hs24 := H.out.2.1
      have u1 : wrap64 ((j : Int) + 1) = (j : Int) + 1 := by unfold wrap64; omega
      cases hL : isLet c
      · rw [hL] at LT hc
        simp only [Bool.false_or] at hc
        rw [hc] at DG
        have HK := Lib.hid (And.intro hj1 (And.intro hlt en)); clear hj1 hlt hjn ec hL hc hs24
        go_wp2_with (first | (go_at_call 55; refine LT.mono ?_; rintro e w' ⟨rfl, rfl⟩) | (go_at_call 56; refine DG.mono ?_; rintro e w' ⟨rfl, rfl⟩))
        go_roundg (n - j)
        case measure => have := HK.out; have := HG.out; omega
        case rel => exact ⟨j + 1, by have := HK.out; omega, by omega, by have := HK.out; omega, by go_num, rfl⟩
      · rw [hL] at LT
        have HK := Lib.hid (And.intro hj1 (And.intro hlt en)); clear hj1 hlt hjn ec hL hc hs24
        go_wp2_with (first | (go_at_call 55; refine LT.mono ?_; rintro e w' ⟨rfl, rfl⟩) | (go_at_call 56; refine DG.mono ?_; rintro e w' ⟨rfl, rfl⟩))
        go_roundg (n - j)
        case measure => have := HK.out; have := HG.out; omega
        case rel => exact ⟨j + 1, by have := HK.out; omega, by omega, by have := HK.out; omega, by go_num, rfl⟩
    · have i2 : decide ((j : Int) < (s.size : Int)) = false := decide_eq_false (by omega)
      have i3 : decide (j < s.size) = false := decide_eq_false hlt
      clear hlt hj1 hjn
      go_wp2_with fail
      go_ret
      exact ⟨rfl, rfl⟩
end
end Go.Proofs.YtocbddajakbemaaGreat
namespace Go.Proofs.YtocbddajakbemaaGreat
section
open Go.RowKit
def nameM (s : ByteArray) : Bool := wordM s && decide (kindM s = 0) && decide (wordsL.findIdx (eqS s) = 12)
set_option maxRecDepth 100000 in
theorem Name_ok (s : ByteArray) (h : nameM s = true) (w : World) : Calls Tryz.prog 64 #[.string s] w fun e w' => e = .returned (.bool true) ∧ Below w.heap.size w w' := by
  unfold nameM at h
  simp only [Bool.and_eq_true, decide_eq_true_eq] at h
  obtain ⟨⟨hw, hk⟩, hx⟩ := h
  have WD := Word_ok s hw w
  have KD := Kind_ok s w
  rw [hk] at KD
  have KD2 : Calls Tryz.prog 59 #[.string s] w fun e w' => e = .returned (.int .u8 0) ∧ Below w.heap.size w w' := KD
  have HX := Lib.hid hx; clear hx hk hw KD
  go_enter Tryz.func64, Tryz.ntmps64
  go_upto_region 3 with (first | (go_at_call 98; refine WD.mono ?_; rintro e w' ⟨rfl, rfl⟩) | (go_at_call 59; refine KD2.mono ?_; rintro e w2 ⟨rfl, hb2⟩; have HB := Lib.hid hb2; clear hb2))
  clear WD KD2
  go_upto_region 4 with fail
  obtain ⟨w3, e3⟩ : ∃ w3, w3 = w2.alloc (.cells (wordsL.map Value.string).toArray 9 (0, 0)) := ⟨_, rfl⟩
  obtain ⟨g, eg⟩ : ∃ g, g = w2.heap.size := ⟨_, rfl⟩
  have hk3 : w3.heap[g]? = some (.cells (wordsL.map Value.string).toArray 9 (0, 0)) := by rw [e3, eg]; exact heap_alloc_new w2 _
  have hb3 : Below w.heap.size w w3 := by rw [e3]; exact HB.out.alloc HB.out.size _
  have e4 := e3
  simp only [wordsL, List.map] at e4
  rw [← e4, ← eg]
  have H3 := Lib.hid (And.intro hk3 hb3); clear hk3 hb3 e3 e4 eg
  go_wp2_with fail
  go_loopg [4] 12 (fun gh iv wr => ∃ j : Nat, gh = 12 - j ∧ j ≤ 12 ∧ iv = .int .i64 (j : Nat) ∧ w3 = wr)
  case atStart => exact ⟨0, rfl, Nat.zero_le _, rfl, rfl⟩
  case round =>
    obtain ⟨j, rfl, hj, rfl, rfl⟩ := hrel
    by_cases hlt : j < 12
    · obtain ⟨x, hx⟩ : ∃ x, wordsL[j]? = some x := ⟨_, List.getElem?_eq_getElem hlt⟩
      have c0 := strs_at H3.out.1 hx
      have ht : (x.toList == s.toList) = false := by
        cases ht : (x.toList == s.toList)
        · rfl
        · have := fi_here (p := eqS s) (by rw [HX.out]; omega) hx ht
          rw [HX.out] at this; omega
      have i0 : (0 : Int) ≤ (j : Int) := by omega
      have i1 : (j : Int) < 12 := by omega
      have w2 : wrap64 ((j : Int) + 1) = (j : Int) + 1 := by unfold wrap64; omega
      have HY := Lib.hid hlt; clear hj hx hlt
      go_wp2_with fail
      go_roundg (12 - (j + 1))
      case measure => have := HY.out; omega
      case rel => exact ⟨j + 1, rfl, HY.out, by go_num, rfl⟩
    · obtain rfl : j = 12 := by omega
      clear hj hlt
      go_wp2_with fail
      go_ret
      exact ⟨rfl, H3.out.2⟩
def TksAt (w : World) (A : Option Addr) (l : List Tk) : Prop := ∀ j t, l[j]? = some t → ∃ b, A = some ⟨b, 0, none⟩ ∧ w.cell? ⟨b, j * 5, none⟩ = some (.int .u8 (t.kind : Nat)) ∧ w.cell? ⟨b, j * 5 + 1, none⟩ = some (.string t.text) ∧ w.cell? ⟨b, j * 5 + 2, none⟩ = some (.int .i64 t.n) ∧ w.cell? ⟨b, j * 5 + 3, none⟩ = some (.int .i64 1) ∧ w.cell? ⟨b, j * 5 + 4, none⟩ = some (.int .i64 t.col)
theorem TksAt.below {w w' : World} {B : Nat} {A : Option Addr} {l : List Tk} (h : TksAt w A l) (hb : Below B w w') (hB : B = w.heap.size) : TksAt w' A l := by
  intro j t ht
  obtain ⟨b, e, h0, h1, h2, h3, h4⟩ := h j t ht
  subst hB
  have hl := World.block_lt_of_cell? w _ h0
  exact ⟨b, e, (cell_below hb hl _).trans h0, (cell_below hb hl _).trans h1, (cell_below hb hl _).trans h2, (cell_below hb hl _).trans h3, (cell_below hb hl _).trans h4⟩
def isM (l : List Tk) (i : Nat) (text : ByteArray) : Option Bool := (l[i]?).map fun t => (!(decide (t.kind = 4))) && (t.text.toList == text.toList)
theorem is_ok (A : Option Addr) (cap : Nat) (l : List Tk) (i : Nat) (text : ByteArray) (b : Bool) (h : isM l i text = some b) (w : World) (ht : TksAt w A l) :
    Calls Tryz.prog 62 #[.slice A l.length cap, .int .i64 i, .string text] w fun e w' => e = .returned (.bool b) ∧ w = w' := by
  unfold isM at h
  rcases hx : l[i]? with _ | t
  · rw [hx] at h; cases h
  rw [hx] at h
  simp only [Option.map_some] at h
  injection h with h
  obtain ⟨g, rfl, c0, c1, -⟩ := ht i t hx
  have hlt := (List.getElem?_eq_some_iff.1 hx).1
  obtain ⟨n, en⟩ : ∃ n, n = l.length := ⟨_, rfl⟩
  rw [← en] at hlt ⊢
  have i0 : (0 : Int) ≤ (i : Int) := by omega
  have i1 : (i : Int) < (n : Int) := by omega
  obtain ⟨k, ek⟩ : ∃ k, k = t.kind := ⟨_, rfl⟩
  rw [← ek] at c0 h
  have HH := Lib.hid h; clear h ht hx hlt en ek
  by_cases h4 : k = 4
  · subst h4
    go_enter Tryz.func62, Tryz.ntmps62
    go_wp2_with fail
    go_ret
    refine ⟨?_, rfl⟩
    rw [← HH.out]; rfl
  · have m4 : ((k : Int) != 4) = true := by rw [bne_iff_ne]; omega
    have HK := Lib.hid h4; clear h4
    go_enter Tryz.func62, Tryz.ntmps62
    go_wp2_with fail
    go_ret
    refine ⟨?_, rfl⟩
    rw [← HH.out, decide_eq_false HK.out]; rfl
theorem enter_ok (A : Option Addr) (cap : Nat) (l : List Tk) (i o : Nat) (text : ByteArray) (h : isM l i text = some true) (ho : o < 200) (hi : i ≤ 100000) (w : World) (ht : TksAt w A l) :
    Calls Tryz.prog 95 #[.slice A l.length cap, .int .i64 i, .string text, .int .i64 o] w fun e w' => e = .returned (.tuple #[.int .i64 ((i : Int) + 1), .int .i64 0]) ∧ w = w' := by
  have IS := is_ok A cap l i text true h w ht
  have t1 : decide ((200 : Int) ≤ (o : Int)) = false := decide_eq_false (by omega)
  have w1 : wrap64 ((i : Int) + 1) = (i : Int) + 1 := by unfold wrap64; omega
  clear h ho hi ht
  go_enter Tryz.func95, Tryz.ntmps95
  go_wp2_with (go_at_call 62; refine IS.mono ?_; rintro e w' ⟨rfl, rfl⟩)
  go_ret2
  refine ⟨?_, rfl⟩
  rw [w1]
  rfl
def twoM (t : Tk) : Nat × Int := if t.kind = 3 then (if signsL.findIdx (eqS t.text) < 13 then (10 + signsL.findIdx (eqS t.text), strongL.getD (signsL.findIdx (eqS t.text)) 0) else (0, 0)) else (0, 0)
def Tk.val (t : Tk) : Value := .agg #[.int .u8 (t.kind : Nat), .string t.text, .int .i64 t.n, .int .i64 1, .int .i64 t.col]
set_option maxRecDepth 100000 in
set_option maxHeartbeats 1000000 in
theorem two_ok (t : Tk) (w : World) : Calls Tryz.prog 119 #[t.val] w fun e w' => e = .returned (.tuple #[.int .u8 ((twoM t).1 : Nat), .int .i64 (twoM t).2]) ∧ Below w.heap.size w w' := by
  obtain ⟨k, s, tn, col⟩ := t
  unfold Tk.val
  simp only
  by_cases h3 : k = 3
  · subst h3
    have HT := Lib.hid (show twoM ⟨3, s, tn, col⟩ = if signsL.findIdx (eqS s) < 13 then (10 + signsL.findIdx (eqS s), strongL.getD (signsL.findIdx (eqS s)) 0) else (0, 0) from rfl)
    have hle : signsL.findIdx (eqS s) ≤ 13 := List.findIdx_le_length
    have HL := Lib.hid hle; clear hle
    go_enter Tryz.func119, Tryz.ntmps119
    go_upto_region 5 with fail
    obtain ⟨g, eg⟩ : ∃ g, g = w.heap.size := ⟨_, rfl⟩
    obtain ⟨w3, e3⟩ : ∃ w3, w3 = ((w.alloc (.cells #[.int .u8 3, .string s, .int .i64 tn, .int .i64 1, .int .i64 col] 97 (0, 0))).alloc (.cells (signsL.map Value.string).toArray 9 (0, 0))).alloc (.cells (ints strongL).toArray 3 (0, 0)) := ⟨_, rfl⟩
    have z : ∀ (W : World) (o : Obj), (W.alloc o).heap.size = W.heap.size + 1 := fun W o => by simp
    have hb3 : Below g w w3 := by rw [e3, eg]; exact (((Below.refl _ _).alloc (Nat.le_refl _) _).alloc (by simp) _).alloc (by simp; omega) _
    have k0 : w3.heap[g]? = some (.cells #[.int .u8 3, .string s, .int .i64 tn, .int .i64 1, .int .i64 col] 97 (0, 0)) := by
      rw [e3, eg]; exact (Below.heap_alloc _ _ _ (by simp only [z]; omega)).trans ((Below.heap_alloc _ _ _ (by simp only [z]; omega)).trans (heap_alloc_new w _))
    have k1 : w3.heap[g + 1]? = some (.cells (signsL.map Value.string).toArray 9 (0, 0)) := by
      have := heap_alloc_new (w.alloc (.cells #[.int .u8 3, .string s, .int .i64 tn, .int .i64 1, .int .i64 col] 97 (0, 0))) (.cells (signsL.map Value.string).toArray 9 (0, 0))
      rw [z] at this
      rw [e3, eg]; exact (Below.heap_alloc _ _ _ (by simp only [z]; omega)).trans this
    have k2 : w3.heap[g + 1 + 1]? = some (.cells (ints strongL).toArray 3 (0, 0)) := by
      have := heap_alloc_new ((w.alloc (.cells #[.int .u8 3, .string s, .int .i64 tn, .int .i64 1, .int .i64 col] 97 (0, 0))).alloc (.cells (signsL.map Value.string).toArray 9 (0, 0))) (.cells (ints strongL).toArray 3 (0, 0))
      simp only [z] at this
      rw [e3, eg]; exact this
    have e4 := e3
    simp only [signsL, strongL, ints, List.map] at e4
    rw [← eg, ← e4]
    have c1 : w3.cell? ⟨g, 1, none⟩ = some (.string s) := (cell_of_block k0 1).trans rfl
    have H3 := Lib.hid (And.intro k1 (And.intro k2 hb3)); clear k0 k1 k2 hb3 e3 e4 z
    have HEG := Lib.hid eg; clear eg
    go_wp2_with fail
    go_loopg [6] 13 (fun gh iv wr => ∃ j : Nat, gh = 13 - j ∧ j ≤ signsL.findIdx (eqS s) ∧ iv = .int .i64 (j : Nat) ∧ ∃ m, wr = w3.drewN m)
    case atStart => exact ⟨0, rfl, Nat.zero_le _, rfl, 0, rfl⟩
    case round =>
      obtain ⟨j, rfl, hj, rfl, m, rfl⟩ := hrel
      have hle := HL.out
      by_cases hlt : j < 13
      · obtain ⟨x, hx⟩ : ∃ x, signsL[j]? = some x := ⟨_, List.getElem?_eq_getElem hlt⟩
        obtain ⟨y, hy⟩ : ∃ y, strongL[j]? = some y := ⟨_, List.getElem?_eq_getElem hlt⟩
        have c0 := strs_at H3.out.1 hx
        have d0 : w3.cell? ⟨g + 1 + 1, j, none⟩ = some (.int .i64 y) := by rw [cell_of_block H3.out.2.1]; simp [ints, hy]
        have i0 : (0 : Int) ≤ (j : Int) := by omega
        have i1 : (j : Int) < 13 := by omega
        have w2 : wrap64 ((j : Int) + 1) = (j : Int) + 1 := by unfold wrap64; omega
        cases ht : (x.toList == s.toList)
        · have hn := fi_next hj hx ht
          have HX := Lib.hid (And.intro hn hlt); clear hn hj hle hx hlt hy
          go_wp2_with fail
          go_quiet (fail)
          go_wp2_with fail
          go_roundg (13 - (j + 1))
          case measure => have := HX.out.2; omega
          case rel => exact ⟨j + 1, rfl, HX.out.1, by go_num, _, rfl⟩
        · have hn := fi_here hj hx ht
          have w4 : wrap64 (10 + (j : Int)) = 10 + (j : Int) := by unfold wrap64; omega
          have w5 : IntKind.u8.wrap (10 + (j : Int)) = 10 + (j : Int) := by unfold IntKind.wrap; simp [IntKind.bits, IntKind.signed]; omega
          have HX := Lib.hid (And.intro hn (And.intro hlt hy)); clear hn hj hle hx hlt hy
          go_wp2_with fail
          go_quiet (fail)
          go_wp2_with fail
          go_quiet (fail)
          go_wp2_with fail
          go_ret2
          have e1 : strongL.getD j 0 = y := by rw [List.getD_eq_getElem?_getD, HX.out.2.2]; rfl
          refine ⟨?_, by rw [← HEG.out]; exact below_drewN (below_drewN (below_drewN H3.out.2.2 _) _) _⟩
          rw [HT.out, HX.out.1, if_pos HX.out.2.1, e1]
          show Ending.returned (.tuple #[.int .u8 (10 + (j : Int)), .int .i64 y]) = Ending.returned (.tuple #[.int .u8 (((10 + j : Nat)) : Int), .int .i64 y])
          rw [Int.natCast_add]
          rfl
      · have hn : signsL.findIdx (eqS s) = j := by omega
        obtain rfl : j = 13 := by omega
        have HX := Lib.hid hn; clear hn hj hle hlt
        go_wp2_with fail
        go_ret2
        rw [HT.out, HX.out, ← HEG.out]
        exact ⟨rfl, below_drewN H3.out.2.2 _⟩
  · have HT := Lib.hid (show twoM ⟨k, s, tn, col⟩ = (0, 0) from if_neg h3)
    have m3 : ((k : Int) != 3) = true := by rw [bne_iff_ne]; omega
    have hb : ∀ o, Below w.heap.size w (w.alloc o) := fun o => (Below.refl _ w).alloc (Nat.le_refl _) _
    have HB := Lib.hid hb
    clear h3 hb
    go_enter Tryz.func119, Tryz.ntmps119
    go_wp2_with fail
    go_ret2
    rw [HT.out]
    exact ⟨rfl, HB.out _⟩
end
end Go.Proofs.YtocbddajakbemaaGreat
namespace Go.Proofs.YtocbddajakbemaaGreat
section
open Go.RowKit
inductive Ex where
  | l (op : Nat) (n : Int) (s : ByteArray)
  | u (op : Nat) (n : Int) (x : Ex)
  | b (op : Nat) (x y : Ex)
def s_minus : ByteArray := ⟨#[45]⟩
def s_not : ByteArray := ⟨#[33]⟩
def s_par : ByteArray := ⟨#[40]⟩
def s_parc : ByteArray := ⟨#[41]⟩
def s_sq : ByteArray := ⟨#[91]⟩
def s_sqc : ByteArray := ⟨#[93]⟩
def s_cu : ByteArray := ⟨#[123]⟩
def s_cuc : ByteArray := ⟨#[125]⟩
def s_eq : ByteArray := ⟨#[61]⟩
def s_semi : ByteArray := ⟨#[59]⟩
def fourL : List ByteArray := [⟨#[114, 97, 110, 100]⟩, ⟨#[97, 98, 115]⟩, ⟨#[109, 105, 110]⟩, ⟨#[109, 97, 120]⟩]
def s_tick : ByteArray := ⟨#[116, 105, 99, 107]⟩
def s_self : ByteArray := ⟨#[115, 101, 108, 102]⟩
def s_stop : ByteArray := ⟨#[115, 116, 111, 112]⟩
def s_fail : ByteArray := ⟨#[102, 97, 105, 108]⟩
def s_if : ByteArray := ⟨#[105, 102]⟩
def s_while : ByteArray := ⟨#[119, 104, 105, 108, 101]⟩
def s_let : ByteArray := ⟨#[108, 101, 116]⟩
inductive JE where
  | ex (i o : Nat) (m : Int)
  | lp (x : Ex) (i o : Nat) (m : Int)
  | un (i o : Nat)
  | ins (i o : Nat) (b e : ByteArray)
  | od (i o : Nat)
def pE (l : List Tk) : Nat → JE → Option (Ex × Nat)
  | 0, _ => none
  | f + 1, .ex i o m => match pE l f (.un i o) with
    | none => none
    | some (x, i2) => pE l f (.lp x i2 o m)
  | f + 1, .lp x i o m => match l[i]? with
    | none => none
    | some t => if (twoM t).2 < m ∨ (twoM t).2 = 0 then some (x, i) else
      match pE l f (.ex (i + 1) o ((twoM t).2 + 1)) with
      | none => none
      | some (y, i2) => match l[i2]? with
        | none => none
        | some t2 => if (twoM t).2 = 3 ∧ (twoM t2).2 = 3 then none else pE l f (.lp (.b (twoM t).1 x y) i2 o m)
  | f + 1, .un i o => if isM l i s_minus = some false ∧ isM l i s_not = some false then pE l f (.od i o) else none
  | f + 1, .ins i o b e => if isM l i b = some true ∧ o < 200 then
      match pE l f (.ex (i + 1) (o + 1) 1) with
      | none => none
      | some (x, i2) => if isM l i2 e = some true then some (x, i2 + 1) else none
    else none
  | f + 1, .od i o => match l[i]? with
    | none => none
    | some t => if t.kind = 2 then some (.l 1 t.n ⟨#[]⟩, i + 1) else
      if isM l i s_par ≠ some false then none else if t.kind ≠ 1 then none else
      if 0 < kindM t.text then
        match pE l f (.ins (i + 1) o s_sq s_sqc) with
        | none => none
        | some (x, i2) => some (.u 3 (kindM t.text : Nat) x, i2)
      else if fourL.findIdx (eqS t.text) < 4 then none else if (t.text.toList == s_tick.toList) = true then none else
      if (t.text.toList == s_self.toList) = true then some (.l 5 0 ⟨#[]⟩, i + 1) else if nameM t.text = true then some (.l 2 0 t.text, i + 1) else none
def pV (l : List Tk) (f i o : Nat) : Option (Ex × Nat) :=
  if isM l i s_eq = some true then
    match pE l f (.ex (i + 1) o 1) with
    | none => none
    | some (x, i2) => if isM l i2 s_semi = some true then some (x, i2 + 1) else none
  else none
inductive S1 where
  | le (op : Nat) (s : ByteArray) (x : Ex)
  | pu (n : Nat) (i x : Ex)
  | en (op : Nat)
def pS1 (l : List Tk) (f i o : Nat) : Option (S1 × Nat) :=
  match l[i]? with
  | none => none
  | some t => if t.kind ≠ 1 then none else
    if 0 < kindM t.text then
      match pE l f (.ins (i + 1) o s_sq s_sqc) with
      | none => none
      | some (x, i2) => match pV l f i2 o with
        | none => none
        | some (y, i3) => some (.pu (kindM t.text) x y, i3)
    else if (t.text.toList == s_stop.toList) = true then none
    else if (t.text.toList == s_fail.toList) = true then (if isM l (i + 1) s_semi = some true then some (.en 7, i + 2) else none)
    else if (t.text.toList == s_if.toList) = true ∨ (t.text.toList == s_while.toList) = true then none
    else if (t.text.toList == s_let.toList) = true then
      match l[i + 1]? with
      | none => none
      | some t2 => if t2.kind = 1 ∧ nameM t2.text = true then
          match pV l f (i + 2) o with
          | none => none
          | some (x, i2) => some (.le 1 t2.text x, i2)
        else none
    else if nameM t.text = true then
      match pV l f (i + 1) o with
      | none => none
      | some (x, i2) => some (.le 2 t.text x, i2)
    else none
def pL (l : List Tk) (f : Nat) : Nat → Nat → Nat → List S1 → Option (List S1 × Nat)
  | 0, _, _, _ => none
  | g + 1, i, o, acc => match isM l i s_cuc with
    | none => none
    | some true => some (acc, i + 1)
    | some false => match pS1 l f i (o + 1) with
      | none => none
      | some (s, i2) => pL l f g i2 o (acc ++ [s])
inductive S2 where
  | si (s : S1)
  | wh (x : Ex) (body : List S1)
def pS2 (l : List Tk) (f i o : Nat) : Option (S2 × Nat) :=
  match l[i]? with
  | none => none
  | some t => if t.kind = 1 ∧ kindM t.text = 0 ∧ (t.text.toList == s_while.toList) = true then
      match pE l f (.ins (i + 1) o s_par s_parc) with
      | none => none
      | some (x, i2) => if isM l i2 s_cu = some true ∧ o < 200 then
          match pL l f f (i2 + 1) o [] with
          | none => none
          | some (b, i3) => some (.wh x b, i3)
        else none
    else match pS1 l f i o with
      | none => none
      | some (s, i2) => some (.si s, i2)
def pP (l : List Tk) (f : Nat) : Nat → Nat → List S2 → Option (List S2)
  | 0, _, _ => none
  | g + 1, i, acc => match l[i]? with
    | none => none
    | some t => if t.kind = 4 then some acc else
      match pS2 l f i 0 with
      | none => none
      | some (s, i2) => pP l f g i2 (acc ++ [s])
def text0 : ByteArray := ⟨#[108, 101, 116, 32, 97, 32, 61, 32, 51, 59, 32, 119, 104, 105, 108, 101, 32, 40, 97, 41, 32, 123, 32, 118, 97, 114, 115, 91, 48, 93, 32, 61, 32, 97, 59, 32, 97, 32, 61, 32, 97, 32, 45, 32, 49, 59, 32, 125]⟩
def text1 : ByteArray := ⟨#[118, 97, 114, 115, 91, 48, 93, 32, 61, 32, 49, 59, 32, 102, 97, 105, 108, 59]⟩
def text2 : ByteArray := ⟨#[118, 97, 114, 115, 91, 49, 93, 32, 61, 32, 118, 101, 108, 91, 49, 93, 32, 42, 32, 50, 32, 43, 32, 115, 101, 108, 102, 59]⟩
end
end Go.Proofs.YtocbddajakbemaaGreat
